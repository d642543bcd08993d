
/- sha: Of. -/
import Derived.Test.YtibdpjhiblhnmaaDoorShaSum
import Derived.Test.YtibdpjhiblhnmaaDoorWords
namespace Go.Proofs.YtibdpjhiblhnmaaDoor
namespace Sha
open Go.RowKit
theorem flatten_take_succ (L : List (List UInt8)) (k : Nat) (h : k < L.length) : (L.take (k + 1)).flatten = (L.take k).flatten ++ L[k] := by
  rw [List.take_succ_eq_append_getElem h, List.flatten_append]; simp
theorem flatten_take_le (L : List (List UInt8)) (k : Nat) (h : k < L.length) : (L.take k).flatten.length + (L[k]).length ≤ L.flatten.length := by
  have e : L.flatten = (L.take (k + 1)).flatten ++ (L.drop (k + 1)).flatten := by rw [← List.flatten_append, List.take_append_drop]
  rw [e, flatten_take_succ L k h]
  simp only [List.length_append]; omega
set_option maxRecDepth 100000 in
set_option maxHeartbeats 1000000 in
theorem of_any (a : Option Addr) (n c : Nat) (L : List (List UInt8)) (w : World) (hL : Words.Lies w a n L) (ht : Tabs w) (hs : L.flatten.length ≤ 70368744177664) (hn : n ≤ 1099511627776) :
    Calls Tryd.prog 9 #[.slice a n c] w fun e w' => e = .returned (.string ⟨(of L.flatten).toArray⟩) ∧ Below w.heap.size w w' := by
  have h0 := Below.refl w.heap.size w
  have hl := hL.1
  have h2 : 2 ≤ w.heap.size := by
    obtain ⟨⟨t, h, _⟩, _⟩ := ht
    exact h.lt
  have HL := Lib.hid hL
  have HT := Lib.hid ht
  have HS := Lib.hid hs
  have HN := Lib.hid hl
  clear hL hl ht hs
  go_enter Tryd.func9, Tryd.ntmps9
  go_wp2_with fail
  refine (new_any _ HT.out).mono ?_
  rintro e w1 ⟨rfl, hI1, hs1, k1⟩
  have HI1 := Lib.hid hI1
  clear hI1 hs1
  go_wp2_with fail
  go_loopw [9] (fun i wx => ∃ k : Nat, k ≤ n ∧ i = .int .i64 (k : Int) ∧ Below w.heap.size w wx ∧ Hid (HI wx w.heap.size (L.take k).flatten)) (fun i _ => n - (intOf i).toNat)
  case atStart => exact ⟨0, by omega, rfl, k1, HI1⟩
  case round =>
    clear k1 HI1
    obtain ⟨k, hk, rfl, hb, HG⟩ := hrel
    by_cases hlt : k < n
    · have hd : decide ((k : Int) < (n : Int)) = true := decide_eq_true (by omega)
      have hkl : k < L.length := by have := HN.out; omega
      obtain ⟨b, o, rfl, hc⟩ := Words.words_at HL.out (by omega)
      have hc0 := hc k hkl
      have hlb := World.block_lt_of_cell? _ _ hc0
      have hcx := (hb.cell (p := ⟨b, o + k, none⟩) hlb).trans hc0
      have HF := Lib.hid (flatten_take_succ L k hkl)
      have hle := flatten_take_le L k hkl
      have hs := HS.out
      obtain ⟨x, hx⟩ : ∃ x, x = L[k] := ⟨_, rfl⟩
      rw [← hx] at hcx hle HF
      have h0k : (0 : Int) ≤ (k : Int) := by omega
      clear hc hc0 hx
      go_wp2_with fail
      refine (add_any w.heap.size _ x _ HG.out (HT.out.below hb) h2 (by omega)).mono ?_
      rintro e w3 ⟨rfl, hI3, k3⟩
      have HI3 := Lib.hid hI3
      clear hI3
      go_wp2_with fail
      go_roundw
      case rel => exact ⟨k + 1, by omega, by go_num, But.below hb k3 (Nat.le_refl _) hb.size, Lib.hid (by rw [HF.out]; exact HI3.out)⟩
      case measure => simp [intOf]; omega
    · obtain rfl : k = n := by omega
      have hd : decide ((k : Int) < (k : Int)) = false := decide_eq_false (by omega)
      have HE : Hid (HI wr w.heap.size L.flatten) := Lib.hid (by have := HG.out; rwa [List.take_of_length_le (by have := HN.out; omega)] at this)
      have hsz := hb.size
      clear HG
      go_wp2_with fail
      refine (sum_any w.heap.size L.flatten _ HE.out (HT.out.below hb) (by have := HS.out; omega) (by omega)).mono ?_
      rintro e w4 ⟨rfl, k4⟩
      go_wp2
      go_ret
      exact ⟨rfl, bstep hb k4⟩
end Sha
end Go.Proofs.YtibdpjhiblhnmaaDoor
