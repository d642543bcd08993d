/- the reference's At. -/
import Derived.Test.YtfdcmmafdgagoaaBeatHeavy
namespace Go.Proofs.Ytfdcmmafdgagoaa
namespace Beat
open Go.RowKit

/-- The place of a member: -1 if there is none. -/
def atL (L : List B) (q : List UInt8) : Int := match L.findIdx? (fun x => x.p == q) with | some i => (i : Int) | none => -1
theorem atL_at (L : List B) (q : List UInt8) (k : Nat) (hk : k < L.length) (h : (L[k].p == q) = true) (hb : ∀ j (hj : j < L.length), j < k → (L[j].p == q) = false) : atL L q = (k : Int) := by
  unfold atL
  have : L.findIdx? (fun x => x.p == q) = some k := by
    rw [List.findIdx?_eq_some_iff_getElem]
    exact ⟨hk, h, fun j hj => by rw [hb j (by omega) hj]; simp⟩
  rw [this]
theorem atL_no (L : List B) (q : List UInt8) (hb : ∀ j (hj : j < L.length), (L[j].p == q) = false) : atL L q = -1 := by
  unfold atL
  have : L.findIdx? (fun x => x.p == q) = none := by
    rw [List.findIdx?_eq_none_iff]
    intro x hx
    obtain ⟨j, hj, rfl⟩ := List.getElem_of_mem hx
    exact hb j hj
  rw [this]
set_option maxRecDepth 100000 in
set_option maxHeartbeats 4000000 in
theorem at_any (L : List B) (q : List UInt8) (a : Option Addr) (c : Nat) (w : World) (hL : Lies w a L.length L) (hn : L.length ≤ 1099511627776) :
    Calls Try.prog 16 #[.slice a L.length c, .string ⟨q.toArray⟩] w fun e w' => e = .returned (.int .i64 (atL L q)) ∧ w = w' := by
  have HL := Lib.hid hL
  clear hL
  go_enter Try.func16, Try.ntmps16
  go_wp2_with fail
  go_loop [5] (fun iv => ∃ k : Nat, k ≤ L.length ∧ iv = .int .i64 k ∧ Hid (∀ j (hj : j < L.length), j < k → (L[j].p == q) = false)) (fun iv => L.length - (intOf iv).toNat)
  case atStart => exact ⟨0, by omega, rfl, Lib.hid (fun j _ h => absurd h (by omega))⟩
  case round =>
    obtain ⟨k, hk, rfl, HB⟩ := hrel
    by_cases hlt : k < L.length
    · obtain ⟨b, off, rfl, hcell⟩ := lies_at HL.out (by omega)
      obtain ⟨c1, _, _⟩ := hcell k hlt
      have hA := atL_at L q k hlt
      obtain ⟨m, hm⟩ : ∃ m, m = L[k] := ⟨_, rfl⟩
      have d1 : decide ((k : Int) < (L.length : Int)) = true := decide_eq_true (by omega)
      have j1 : (0 : Int) ≤ (k : Int) := by omega
      have j2 : (k : Int) < (L.length : Int) := by omega
      rw [← hm] at c1 hA
      cases e1 : (m.p == q)
      · have HN : Hid (∀ j (hj : j < L.length), j < k + 1 → (L[j].p == q) = false) := Lib.hid (fun j hj h => by
          rcases Nat.lt_or_eq_of_le (Nat.le_of_lt_succ h) with h | h
          · exact HB.out j hj h
          · subst h; rw [← hm]; exact e1)
        clear hcell hA hm
        go_wp2
        go_round
        case rel => exact ⟨k + 1, by omega, by go_num, HN⟩
        case measure => simp [intOf]; omega
      · have HV := Lib.hid (hA e1 HB.out)
        clear hcell hA hm
        go_wp2
        go_ret
        exact ⟨by rw [HV.out]; rfl, rfl⟩
    · obtain rfl : k = L.length := by omega
      have d1 : decide ((L.length : Int) < (L.length : Int)) = false := decide_eq_false (by omega)
      have HV := Lib.hid (atL_no L q (fun j hj => HB.out j hj hj))
      go_wp2
      go_ret
      exact ⟨by rw [HV.out]; rfl, rfl⟩
end Beat
end Go.Proofs.Ytfdcmmafdgagoaa
