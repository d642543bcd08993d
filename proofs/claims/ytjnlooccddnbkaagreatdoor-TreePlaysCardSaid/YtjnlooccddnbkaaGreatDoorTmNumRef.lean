/- The document's Up: the same bytes. -/
import Derived.Test.YtjnlooccddnbkaaGreatDoorTmWire
import Derived.Test.YtjnlooccddnbkaaGreatDoorTmStr
import Derived.Test.YtjnlooccddnbkaaGreatDoorTmBase
import Derived.Laws.AppendOwn
import Derived.Laws.OwnMore
import Derived.Laws.IdiomStrings
import Derived.Lib.Builder
namespace Go.Proofs.YtjnlooccddnbkaaGreatDoor
namespace Num
open Go.RowKit

theorem info_byte : (Tryz.prog.info? 5).map (fun i => (i.zero, i.size, i.bytes)) = some (some (.int .u8 0), 1, 1) := by kernel_rfl
theorem byteCells_snoc (l : List UInt8) (m : Nat) (h : m < 256) : Lib.byteCells l ++ [.int .u8 (m : Int)] = Lib.byteCells (l ++ [UInt8.ofNat m]) := by
  rw [Lib.byteCells_append]
  simp [Lib.byteCells, Nat.mod_eq_of_lt h]

set_option maxRecDepth 100000 in
set_option maxHeartbeats 1000000 in
theorem refup_any (n : Nat) (w : World) (hn : n ≤ 18446744073709551615) :
    Calls Tryz.prog 91 #[.int .u64 n] w fun e w' => e = .returned (.string ⟨(upL n).toArray⟩) ∧ Below w.heap.size w w' := by
  obtain ⟨i0, hi, hz0, hz1, hz2⟩ := info_parts info_byte
  go_enter Tryz.func91, Tryz.ntmps91
  go_wp2_with fail
  go_loopw [0, 3] (fun nv v wr => ∃ k m : Nat, k ≤ 9 ∧ m = n / 128 ^ k ∧ nv = .int .u64 m ∧ (k = 0 ∨ m ≠ 0) ∧ wr.ownsRow w.heap.size 5 1 v k (Lib.byteCells (pre n k)) ∧ Below w.heap.size w wr) (fun nv _ _ => (intOf nv).toNat)
  case atStart => exact ⟨0, n, by omega, by simp, rfl, .inl rfl, World.ownsRow_nil _ _ _ _, Below.refl _ _⟩
  case round =>
    obtain ⟨k, m, hk, hm, rfl, h0, hown, hb⟩ := hrel
    have hbs := hb.size
    have hmle : m ≤ n := by rw [hm]; exact Nat.div_le_self _ _
    by_cases hlt : m < 128
    · have hd : decide ((m : Int) ≥ 128) = false := decide_eq_false (by omega)
      have hd' : decide ((128 : Int) ≤ m) = false := decide_eq_false (by omega)
      have hw : IntKind.u8.wrap (m : Int) = (m : Int) := by rw [IntKind.wrap_u8']; omega
      have hup : upL n = pre n k ++ [UInt8.ofNat m] := by rw [hm]; exact up_pre 9 k n hk (by rw [← hm]; exact hlt) (by rw [← hm]; exact h0)
      have HU := Lib.hid hup
      clear hup hm h0
      go_wp2_with (at_builtin; refine wpList_append_own _ rfl _ _ 64 rfl w.heap.size 5 i0 (.int .u8 0) 1 1 Tryz.underlying64 hi hz0 hz1 hz2 rfl (by decide) _ _ _ rfl (hown.alloc _) ⟨wr.heap.size, 0, none⟩ 1 1 [.int .u8 (m : Int)] rfl rfl (cell_one_new _ _ _) (by simp [Value.oneCell']) (by unfold maxLen; omega) (by omega) (by simp; omega) ?_; intro v' w1 hown' hgrow _)
      rw [byteCells_snoc _ _ (by omega), ← HU.out] at hown'
      have hb1 := Below.grown (hb.alloc hbs _) hgrow (by simp; omega) (fun j hj => (hown.lt _ hj).1)
      have hlen : k + 1 = (upL n).length := by rw [HU.out, List.length_append, pre_length]; rfl
      rcases hown'.2 with ⟨rfl, hc⟩ | ⟨g, cap, cur, hv, _⟩
      · omega
      · subst hv
        have hcv := run_convert_bytes_back (P := Tryz.prog) w1 64 9 5 ⟨g, 0, none⟩ cap (upL n) Tryz.underlying64 Tryz.underlying5 Tryz.underlying9 (fun j hj => by
          refine hown'.cells (g := g) rfl j _ ?_
          rw [Lib.byteCells, List.getElem?_map, List.getElem?_eq_getElem hj]; rfl)
        rw [← hlen] at hcv
        clear hown hown' hlen
        go_wp2
        rw [hcv]
        simp only [Result.andThen]
        rw [Oper.upon_value]
        go_wp2
        go_ret
        exact ⟨rfl, hb1⟩
    · have hd : decide ((m : Int) ≥ 128) = true := decide_eq_true (by omega)
      have hd' : decide ((128 : Int) ≤ m) = true := decide_eq_true (by omega)
      have hk8 : k ≤ 8 := by
        rcases Nat.lt_or_ge k 9 with h | h
        · omega
        · obtain rfl : k = 9 := by omega
          have : n / 128 ^ 9 ≤ 18446744073709551615 / 128 ^ 9 := Nat.div_le_div_right hn
          have h2 : 18446744073709551615 / 128 ^ 9 = 1 := by decide
          omega
      have hw0 : Int.tmod (m : Int) 128 = ((m % 128 : Nat) : Int) := by rw [Int.tmod_eq_emod_of_nonneg (by omega)]; omega
      have hw1 : IntKind.u8.wrap ((m % 128 : Nat) : Int) = ((m % 128 : Nat) : Int) := by rw [IntKind.wrap_u8']; omega
      have hw2 : IntKind.u8.wrap (((m % 128 : Nat) : Int) + 128) = ((m % 128 + 128 : Nat) : Int) := by rw [IntKind.wrap_u8']; omega
      have hw3 : Int.tdiv (m : Int) 128 = ((m / 128 : Nat) : Int) := by rw [Int.tdiv_eq_ediv_of_nonneg (by omega)]; omega
      have hps : pre n (k + 1) = pre n k ++ [UInt8.ofNat (m % 128 + 128)] := by rw [pre_succ, ← hm]
      have hmd : m / 128 = n / 128 ^ (k + 1) := by rw [hm, Nat.div_div_eq_div_mul, Nat.pow_succ]
      have HP := Lib.hid hps
      have HM := Lib.hid hmd
      clear hps hmd hm h0
      go_wp2_with (at_builtin; refine wpList_append_own _ rfl _ _ 64 rfl w.heap.size 5 i0 (.int .u8 0) 1 1 Tryz.underlying64 hi hz0 hz1 hz2 rfl (by decide) _ _ _ rfl (hown.alloc _) ⟨wr.heap.size, 0, none⟩ 1 1 [.int .u8 ((m % 128 + 128 : Nat) : Int)] rfl rfl (cell_one_new _ _ _) (by simp [Value.oneCell']) (by unfold maxLen; omega) (by omega) (by simp; omega) ?_; intro v' w1 hown' hgrow _)
      rw [byteCells_snoc _ _ (by omega), ← HP.out] at hown'
      have hb1 := Below.grown (hb.alloc hbs _) hgrow (by simp; omega) (fun j hj => (hown.lt _ hj).1)
      exact ⟨⟨k + 1, m / 128, by omega, HM.out, by rw [Int.natCast_ediv]; rfl, .inr (by omega), hown', hb1⟩, by simp [intOf]; omega⟩

end Num
end Go.Proofs.YtjnlooccddnbkaaGreatDoor
