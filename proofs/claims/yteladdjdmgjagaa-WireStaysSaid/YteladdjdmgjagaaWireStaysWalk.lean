/- The walk of WireStays: it answers true. -/
import Derived.Test.YteladdjdmgjagaaWireAlive
import Derived.Test.YteladdjdmgjagaaRecs
namespace Go.Proofs.Yteladdjdmgjagaa.WireStays
open Go.RowKit Go.Proofs.Yteladdjdmgjagaa.Wire

set_option maxRecDepth 100000 in
set_option maxHeartbeats 2000000 in
theorem walk (a0 : ByteArray) (a1 : Int) (a2 : Option Addr) (len2 cap2 : Nat) (w : World) (w0 : a0.size ≤ maxLen) (w1 : (Lit.int .u8 a1).wf = true) (w2 : Recs w [.int .u8, .int .i64] a2 len2) :
    Calls Try.prog 7 #[.string a0, .int .u8 a1, .slice a2 len2 cap2] w fun e w' => e = .returned (.bool true) ∧ Below w.heap.size w w' := by
  obtain ⟨l1, u1⟩ := bounds_u8 w1
  have hm := w2.1
  unfold maxLen at w0 hm
  have h0 := Below.refl w.heap.size w
  by_cases c1 : 4096 < a0.size
  · have hd : decide ((4096 : Int) < (a0.size : Int)) = true := decide_eq_true (by omega)
    go_enter Try.func7, Try.ntmps7
    go_wp2_with fail
    refine (alive_any _).mono ?_
    rintro e w' ⟨rfl, hb⟩
    go_wp2
    go_ret
    exact ⟨rfl, hb⟩
  have hd : decide ((4096 : Int) < (a0.size : Int)) = false := decide_eq_false (by omega)
  by_cases c2 : 100 < len2
  · have hd2 : decide ((100 : Int) < (len2 : Int)) = true := decide_eq_true (by omega)
    go_enter Try.func7, Try.ntmps7
    go_wp2_with fail
    refine (alive_any _).mono ?_
    rintro e w' ⟨rfl, hb⟩
    go_wp2
    go_ret
    exact ⟨rfl, hb⟩
  have hd2 : decide ((100 : Int) < (len2 : Int)) = false := decide_eq_false (by omega)
  have HW := Lib.hid w2
  obtain ⟨l, rfl⟩ : ∃ l : List UInt8, a0 = ⟨l.toArray⟩ := ⟨a0.data.toList, (Str.mk_toList a0).symm⟩
  have hsl := Str.size_mk l
  obtain ⟨E, hE⟩ : ∃ E, E = 1 + a1 := ⟨_, rfl⟩
  have hc1 : IntKind.i64.wrap a1 = a1 := by rw [IntKind.wrap_i64]; omega
  have hc2 : IntKind.i64.wrap (1 + a1) = E := by rw [IntKind.wrap_i64]; omega
  have hEpos : E ≠ 0 := by omega
  clear w2 hE
  have hnum : ∀ m, numS m l E = (0, l, E) := fun m => by rw [numS, if_pos hEpos]
  have htext : ∀ m, textS m l E = ([], l, E) := fun m => by rw [textS, if_pos hEpos]
  have hbool : boolS l E = (false, l, E) := by rw [boolS, if_pos hEpos]
  have hint : ∀ m, intS m l E = (0, l, E) := fun m => by unfold intS; split; simp; exact hnum m
  have hend : endS l E = E := by rw [endS, if_pos hEpos]
  have HN := Lib.hid hnum
  have HT := Lib.hid htext
  have HB := Lib.hid hbool
  have HI := Lib.hid hint
  have HE := Lib.hid hend
  have HP := Lib.hid hEpos
  clear hnum htext hbool hint hend
  go_enter Try.func7, Try.ntmps7
  go_wp2_with fail
  refine (new_any l _ (by unfold maxLen; omega)).mono ?_
  rintro e x1 ⟨rfl, r1, k1⟩
  have h1 := bstep h0 k1
  clear k1
  go_wp2_with fail
  refine (fail_any _ _ _ E _ r1 E (by simp)).mono ?_
  rintro e x2 ⟨rfl, r2, k2⟩
  have h2 := But.below h1 k2 (Nat.le_refl _) h1.size
  clear k2 r1
  go_wp2_with fail
  go_loopw [8] (fun i wr => ∃ k : Nat, k ≤ len2 ∧ i = .int .i64 k ∧ Rd wr w.heap.size l E ∧ Below w.heap.size w wr) (fun i _ => len2 - (intOf i).toNat)
  case atStart => exact ⟨0, by omega, rfl, r2, h2⟩
  case round =>
    obtain ⟨k, hk, rfl, r3, h3⟩ := hrel
    clear r2 h2 h1 h0
    by_cases hlt : k < len2
    · obtain ⟨b, off, rfl, hblt, hc⟩ := HW.out.2 (by omega)
      obtain ⟨v, hv, N, rfl, wN⟩ := hc k hlt 1 _ rfl
      rw [show off + (k * [Fk.int IntKind.u8, Fk.int IntKind.i64].length + 1) = off + k * 2 + 1 from rfl] at hv
      obtain ⟨lN, uN⟩ := bounds_i64 wN
      have HC := Lib.hid hv
      clear hv hc wN
      go_wp2_with fail
      refine (fail_any _ _ _ 9 _ r3 E (by rw [if_pos HP.out])).mono ?_
      rintro e x4 ⟨rfl, r4, k4⟩
      have h4 := But.below h3 k4 (Nat.le_refl _) h3.size
      have g4 := (h4.cell (p := ⟨b, off + k * 2 + 1, none⟩) hblt).trans HC.out
      have q4 := Nat.lt_of_lt_of_le hblt h4.size
      clear k4 r3
      go_wp2_with fail
      refine (num_any _ _ _ _ _ r4 0 l E (HN.out _)).mono ?_
      rintro e x5 ⟨rfl, r5, k5⟩
      have h5 := But.below h4 k5 (Nat.le_refl _) h4.size
      have g5 := (h5.cell (p := ⟨b, off + k * 2 + 1, none⟩) hblt).trans HC.out
      have q5 := Nat.lt_of_lt_of_le hblt h5.size
      clear k5 r4 g4 q4
      go_wp2_with fail
      refine (int_any _ _ _ N lN uN _ r5 0 l E (HI.out _)).mono ?_
      rintro e x6 ⟨rfl, r6, k6⟩
      have h6 := But.below h5 k6 (Nat.le_refl _) h5.size
      have g6 := (h6.cell (p := ⟨b, off + k * 2 + 1, none⟩) hblt).trans HC.out
      have q6 := Nat.lt_of_lt_of_le hblt h6.size
      clear k6 r5 g5 q5
      go_wp2_with fail
      refine (text_any _ _ _ N lN uN _ r6 [] l E (HT.out _)).mono ?_
      rintro e x7 ⟨rfl, r7, k7⟩
      have h7 := But.below h6 k7 (Nat.le_refl _) h6.size
      clear k7 r6 g6 q6
      go_wp2_with fail
      refine (bool_any _ _ _ _ r7 false l E HB.out).mono ?_
      rintro e x8 ⟨rfl, r8, k8⟩
      have h8 := But.below h7 k8 (Nat.le_refl _) h7.size
      clear k8 r7
      go_wp2_with fail
      refine (err_any _ _ _ _ r8).mono ?_
      rintro e w' ⟨rfl, rfl⟩
      go_wp2
      go_roundw
      case rel => exact ⟨k + 1, by omega, by go_num, r8, h8⟩
      case measure => simp [intOf]; omega
    · obtain rfl : k = len2 := by omega
      go_wp2_with fail
      refine (end_any _ _ _ _ r3 E HE.out).mono ?_
      rintro e x4 ⟨rfl, r4, k4⟩
      have h4 := But.below h3 k4 (Nat.le_refl _) h3.size
      go_wp2_with fail
      refine (alive_any _).mono ?_
      rintro e x5 ⟨rfl, k5⟩
      have h5 := bstep h4 k5
      go_wp2
      go_ret
      exact ⟨rfl, h5⟩

end Go.Proofs.Yteladdjdmgjagaa.WireStays
