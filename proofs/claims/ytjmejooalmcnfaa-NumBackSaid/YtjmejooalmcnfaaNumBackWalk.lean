/- The walk of NumBack: it answers true. -/
import Derived.Test.YtjmejooalmcnfaaNumWorks
import Derived.OpenShut
namespace Go.Proofs.Ytjmejooalmcnfaa.NumBack
open Go.RowKit Num

set_option maxRecDepth 100000 in
set_option maxHeartbeats 1000000 in
theorem walk (a0 : Int) (a1 : Int) (a2 : Int) (a3 : ByteArray) (w : World) (w0 : (Lit.int .u64 a0).wf = true) (w1 : (Lit.int .u64 a1).wf = true) (w2 : (Lit.int .i64 a2).wf = true) (w3 : a3.size ≤ maxLen) :
    Calls Try.prog 3 #[.int .u64 a0, .int .u64 a1, .int .i64 a2, .string a3] w fun e w' => e = .returned (.bool true) ∧ Below w.heap.size w w' := by
  obtain ⟨l0, u0⟩ := bounds_u64 w0
  obtain ⟨l1, u1⟩ := bounds_u64 w1
  obtain ⟨l2, u2⟩ := bounds_i64 w2
  clear w0 w1 w2
  unfold maxLen at w3
  obtain ⟨a, rfl⟩ := Int.eq_ofNat_of_zero_le l0
  obtain ⟨b, rfl⟩ := Int.eq_ofNat_of_zero_le l1
  have ⟨la1, la2⟩ := upL_length a
  have ⟨lb1, lb2⟩ := upL_length b
  by_cases hs : 4096 < a3.size
  · go_enter Try.func3, Try.ntmps3
    go_wp2_with fail
    refine (works_any _).mono ?_
    rintro e w' ⟨rfl, hb⟩
    go_wp2
    go_ret
    exact ⟨rfl, hb⟩
  have hbt := back_turn a2
  have htb := turn_back a (by omega)
  have ht := turn_bound a2 l2 u2
  have hk := back_bound a (by omega) (by omega)
  have Hbt := Lib.hid hbt; have Htb := Lib.hid htb
  clear hbt htb
  obtain ⟨ht1, ht2⟩ := ht
  obtain ⟨hk1, hk2⟩ := hk
  rcases Nat.lt_trichotomy a b with hab | hab | hab
  · have e1 : (upL a == upL b) = false := by rw [beq_eq_false_iff_ne]; intro e; have := upL_inj a b (by omega) (by omega) e; omega
    have e2 : ((a : Int) == (b : Int)) = false := by rw [beq_eq_false_iff_ne]; omega
    have e3 := up_mono 9 a b (by omega)
    have e4 : (upL a).length ≤ (upL b).length := e3
    clear e3
    go_enter Try.func3, Try.ntmps3
    go_wp2_with fail
    refine (up_any a _ (by omega)).mono ?_
    rintro e w1 ⟨rfl, hb1⟩
    go_wp2_with fail
    refine (up_any _ _ (by omega)).mono ?_
    rintro e w2 ⟨rfl, hb2⟩
    go_wp2_with fail
    refine (read_up a a3 _ (by omega) (by omega)).mono ?_
    rintro e w' ⟨rfl, rfl⟩
    go_wp2_with fail
    refine (read_cut a _ _ (by omega)).mono ?_
    rintro e w' ⟨rfl, rfl⟩
    go_wp2_with fail
    refine (turn_any _ _ l2 u2).mono ?_
    rintro e w' ⟨rfl, rfl⟩
    go_wp2_with fail
    refine (back_any _ _ ht1 ht2).mono ?_
    rintro e w' ⟨rfl, rfl⟩
    rw [Hbt.out]
    go_wp2_with fail
    refine (back_any _ _ l0 u0).mono ?_
    rintro e w' ⟨rfl, rfl⟩
    go_wp2_with fail
    refine (turn_any _ _ hk1 hk2).mono ?_
    rintro e w' ⟨rfl, rfl⟩
    rw [Htb.out]
    go_wp2_with fail
    refine (works_any _).mono ?_
    rintro e w3 ⟨rfl, hb3⟩
    go_wp2
    go_ret
    exact ⟨rfl, (hb1.trans (hb2.mono hb1.size)).trans (hb3.mono (Nat.le_trans hb1.size hb2.size))⟩
  · subst hab
    go_enter Try.func3, Try.ntmps3
    go_wp2_with fail
    refine (up_any a _ (by omega)).mono ?_
    rintro e w1 ⟨rfl, hb1⟩
    go_wp2_with fail
    refine (up_any _ _ (by omega)).mono ?_
    rintro e w2 ⟨rfl, hb2⟩
    go_wp2_with fail
    refine (read_up a a3 _ (by omega) (by omega)).mono ?_
    rintro e w' ⟨rfl, rfl⟩
    go_wp2_with fail
    refine (read_cut a _ _ (by omega)).mono ?_
    rintro e w' ⟨rfl, rfl⟩
    go_wp2_with fail
    refine (turn_any _ _ l2 u2).mono ?_
    rintro e w' ⟨rfl, rfl⟩
    go_wp2_with fail
    refine (back_any _ _ ht1 ht2).mono ?_
    rintro e w' ⟨rfl, rfl⟩
    rw [Hbt.out]
    go_wp2_with fail
    refine (back_any _ _ l0 u0).mono ?_
    rintro e w' ⟨rfl, rfl⟩
    go_wp2_with fail
    refine (turn_any _ _ hk1 hk2).mono ?_
    rintro e w' ⟨rfl, rfl⟩
    rw [Htb.out]
    go_wp2_with fail
    refine (works_any _).mono ?_
    rintro e w3 ⟨rfl, hb3⟩
    go_wp2
    go_ret
    exact ⟨rfl, (hb1.trans (hb2.mono hb1.size)).trans (hb3.mono (Nat.le_trans hb1.size hb2.size))⟩
  · have e1 : (upL a == upL b) = false := by rw [beq_eq_false_iff_ne]; intro e; have := upL_inj a b (by omega) (by omega) e; omega
    have e2 : ((a : Int) == (b : Int)) = false := by rw [beq_eq_false_iff_ne]; omega
    go_enter Try.func3, Try.ntmps3
    go_wp2_with fail
    refine (up_any a _ (by omega)).mono ?_
    rintro e w1 ⟨rfl, hb1⟩
    go_wp2_with fail
    refine (up_any _ _ (by omega)).mono ?_
    rintro e w2 ⟨rfl, hb2⟩
    go_wp2_with fail
    refine (read_up a a3 _ (by omega) (by omega)).mono ?_
    rintro e w' ⟨rfl, rfl⟩
    go_wp2_with fail
    refine (read_cut a _ _ (by omega)).mono ?_
    rintro e w' ⟨rfl, rfl⟩
    go_wp2_with fail
    refine (turn_any _ _ l2 u2).mono ?_
    rintro e w' ⟨rfl, rfl⟩
    go_wp2_with fail
    refine (back_any _ _ ht1 ht2).mono ?_
    rintro e w' ⟨rfl, rfl⟩
    rw [Hbt.out]
    go_wp2_with fail
    refine (back_any _ _ l0 u0).mono ?_
    rintro e w' ⟨rfl, rfl⟩
    go_wp2_with fail
    refine (turn_any _ _ hk1 hk2).mono ?_
    rintro e w' ⟨rfl, rfl⟩
    rw [Htb.out]
    go_wp2_with fail
    refine (works_any _).mono ?_
    rintro e w3 ⟨rfl, hb3⟩
    go_wp2
    go_ret
    exact ⟨rfl, (hb1.trans (hb2.mono hb1.size)).trans (hb3.mono (Nat.le_trans hb1.size hb2.size))⟩

end Go.Proofs.Ytjmejooalmcnfaa.NumBack
