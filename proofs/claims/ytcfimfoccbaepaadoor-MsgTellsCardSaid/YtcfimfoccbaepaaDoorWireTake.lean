
/- package wire's reader: the bricks, take, and the methods. -/
import Derived.Test.YtcfimfoccbaepaaDoorWire
namespace Go.Proofs.YtcfimfoccbaepaaDoor
open Go.RowKit
namespace Wire
open Num

theorem rd_size : ∀ (l : List UInt8) (i s : Nat), (rd l i s).2.2 = 0 → (rd l i s).2.1 ≤ i + l.length ∧ i < (rd l i s).2.1
  | [], i, s, h => by
    unfold rd at h
    split at h <;> simp at h
  | c :: r, i, s, h => by
    unfold rd at h ⊢
    split at h
    · simp at h
    rename_i h0
    rw [if_neg h0]
    split at h
    · rename_i h1
      rw [if_pos h1]
      have := rd_size r _ _ h
      simp only [List.length_cons]
      omega
    rename_i h1
    rw [if_neg h1]
    split at h
    · simp at h
    rename_i h2
    rw [if_neg h2]
    split at h
    · simp at h
    rename_i h3
    rw [if_neg h3]
    simp only [List.length_cons]
    omega
theorem rdL_size (l : List UInt8) (h : (rdL l).2.2 = 0) : (rdL l).2.1 ≤ l.length ∧ 0 < (rdL l).2.1 := by have := rd_size l 0 0 h; rw [Nat.zero_add] at this; exact this

theorem numT_size {l : List UInt8} {most n : Int} {k : Nat} (h : numT l most = (n, k, 0)) : k ≤ l.length := by
  unfold numT at h
  split at h
  · simp only [Prod.mk.injEq] at h; omega
  rename_i h1
  have := rdL_size l (by simpa using h1)
  split at h
  · simp at h
  · simp only [Prod.mk.injEq] at h; omega

/-- What Text takes: the text, how many bytes, the error. -/
def textT (l : List UInt8) (most : Int) : List UInt8 × Nat × Int :=
  if (rdL l).2.2 ≠ 0 then ([], 0, (rdL l).2.2) else if most < 0 ∨ most < (rdL l).1 then ([], 0, 4) else if l.length - (rdL l).2.1 < (rdL l).1 then ([], 0, 20)
  else ((l.drop (rdL l).2.1).take (rdL l).1, (rdL l).2.1 + (rdL l).1, 0)
theorem textT_size {l : List UInt8} {most : Int} {x : List UInt8} {k : Nat} (h : textT l most = (x, k, 0)) : k ≤ l.length := by
  unfold textT at h
  split at h
  · simp only [Prod.mk.injEq] at h; omega
  rename_i h1
  have := rdL_size l (by simpa using h1)
  split at h
  · simp at h
  split at h
  · simp at h
  · simp only [Prod.mk.injEq] at h; omega
/-- What Bool takes: the truth, how many bytes, the error. -/
def boolT : List UInt8 → Bool × Nat × Int
  | [] => (false, 0, 20)
  | c :: _ => if 1 < c.toNat then (false, 0, 8) else (c.toNat == 1, 1, 0)
theorem boolT_size {l : List UInt8} {x : Bool} {k : Nat} (h : boolT l = (x, k, 0)) : k ≤ l.length := by
  cases l with
  | nil => simp [boolT] at h
  | cons c r =>
    simp only [boolT] at h
    split at h
    · simp at h
    · simp only [Prod.mk.injEq] at h; simp only [List.length_cons]; omega

theorem slice_to (l : List UInt8) (i j : Nat) : ({ data := l.toArray } : ByteArray).extract i j = { data := ((l.drop i).take (j - i)).toArray } := Str.ext (by
  rw [Str.extract_toList, List.toList_toArray, List.toList_toArray, List.drop_take])
theorem slice_from (l : List UInt8) (i : Nat) : ({ data := l.toArray } : ByteArray).extract i l.length = { data := (l.drop i).toArray } := Str.ext (by
  rw [Str.extract_toList, List.toList_toArray, List.toList_toArray, List.take_of_length_le (Nat.le_refl _)])
set_option maxHeartbeats 2000000 in
theorem text_brick (l : List UInt8) (most : Int) (p q : Nat) (w : World) (hs : l.length ≤ maxLen) (m0 : -9223372036854775808 ≤ most) (m1 : most ≤ 9223372036854775807) (hp : w.cell? ⟨p, 0, none⟩ = some (.int .i64 most)) (hq : w.cell? ⟨q, 0, none⟩ = some (.string ⟨#[]⟩)) (hf : w.frozen? ⟨q, 0, none⟩ = false)
    (x : List UInt8) (k : Nat) (E : Int) (hn : textT l most = (x, k, E)) :
    Calls Tryd.prog 61 #[.string ⟨l.toArray⟩, .pointer (some ⟨p, 0, none⟩), .pointer (some ⟨q, 0, none⟩)] w fun e w' => e = .returned (.tuple #[.int .i64 (k : Int), .int .i64 E]) ∧ w' = (if E = 0 then w.setCell ⟨q, 0, none⟩ (.string ⟨x.toArray⟩) else w) := by
  have R := Lib.hid (fun w => read_l l w hs)
  have hz := rdL_size l
  unfold textT at hn
  generalize rdL l = r at R hn hz
  obtain ⟨rn, rk, re⟩ := r
  simp only at hn hz
  have hsz := Str.size_mk l
  have qp := World.block_lt_of_cell? w ⟨p, 0, none⟩ hp
  have qq := World.block_lt_of_cell? w ⟨q, 0, none⟩ hq
  unfold maxLen at hs
  by_cases h1 : re = 0
  · subst h1
    obtain ⟨hz1, hz2⟩ := hz rfl
    rw [if_neg (by simp)] at hn
    by_cases h2 : most < 0 ∨ most < (rn : Int)
    · rw [if_pos h2] at hn
      simp only [Prod.mk.injEq] at hn
      obtain ⟨rfl, rfl, rfl⟩ := hn
      by_cases h3 : most < 0
      · have hd1 : decide (most < 0) = true := decide_eq_true h3
        go_enter Tryd.func61, Tryd.ntmps61
        go_wp2_with fail
        refine (R.out _).mono ?_
        rintro e w' ⟨rfl, rfl⟩
        go_wp2
        go_ret2
        exact ⟨rfl, by simp⟩
      · have hd1 : decide (most < 0) = false := decide_eq_false h3
        have hw : IntKind.u64.wrap most = most := by rw [IntKind.wrap_u64]; omega
        have hd2 : decide (most < (rn : Int)) = true := decide_eq_true (by omega)
        go_enter Tryd.func61, Tryd.ntmps61
        go_wp2_with fail
        refine (R.out _).mono ?_
        rintro e w' ⟨rfl, rfl⟩
        go_wp2
        go_ret2
        exact ⟨rfl, by simp⟩
    · rw [if_neg h2] at hn
      have hd1 : decide (most < 0) = false := decide_eq_false (by omega)
      have hw : IntKind.u64.wrap most = most := by rw [IntKind.wrap_u64]; omega
      have hd2 : decide (most < (rn : Int)) = false := decide_eq_false (by omega)
      have hw1 : IntKind.i64.wrap ((l.length : Int) - (rk : Int)) = ((l.length - rk : Nat) : Int) := by rw [IntKind.wrap_i64]; omega
      have hw2 : IntKind.u64.wrap ((l.length - rk : Nat) : Int) = ((l.length - rk : Nat) : Int) := by rw [IntKind.wrap_u64]; omega
      by_cases h3 : l.length - rk < rn
      · rw [if_pos h3] at hn
        simp only [Prod.mk.injEq] at hn
        obtain ⟨rfl, rfl, rfl⟩ := hn
        have hd3 : decide (((l.length - rk : Nat) : Int) < (rn : Int)) = true := decide_eq_true (by omega)
        go_enter Tryd.func61, Tryd.ntmps61
        go_wp2_with fail
        refine (R.out _).mono ?_
        rintro e w' ⟨rfl, rfl⟩
        go_wp2
        go_ret2
        exact ⟨rfl, by simp⟩
      · rw [if_neg h3] at hn
        simp only [Prod.mk.injEq] at hn
        obtain ⟨rfl, rfl, rfl⟩ := hn
        have hd3 : decide (((l.length - rk : Nat) : Int) < (rn : Int)) = false := decide_eq_false (by omega)
        have hw3 : IntKind.i64.wrap (rn : Int) = (rn : Int) := by rw [IntKind.wrap_i64]; omega
        have hw4 : IntKind.i64.wrap ((rk : Int) + (rn : Int)) = ((rk + rn : Nat) : Int) := by rw [IntKind.wrap_i64]; omega
        have hsl : ({ data := l.toArray } : ByteArray).extract rk (rk + rn) = { data := ((l.drop rk).take rn).toArray } := by
          have := slice_to l rk (rk + rn); rwa [Nat.add_sub_cancel_left] at this
        have hle : rk + rn ≤ l.length := by omega
        go_enter Tryd.func61, Tryd.ntmps61
        go_wp2_with fail
        refine (R.out _).mono ?_
        rintro e w' ⟨rfl, rfl⟩
        go_wp2
        go_ret2
        exact ⟨rfl, by simp⟩
  · rw [if_pos h1] at hn
    simp only [Prod.mk.injEq] at hn
    obtain ⟨rfl, rfl, rfl⟩ := hn
    have hb1 : (re == 0) = false := by rw [beq_eq_false_iff_ne]; exact h1
    go_enter Tryd.func61, Tryd.ntmps61
    go_wp2_with fail
    refine (R.out _).mono ?_
    rintro e w' ⟨rfl, rfl⟩
    go_wp2
    go_ret2
    exact ⟨rfl, by simp⟩

set_option maxHeartbeats 1000000 in
theorem fail_brick (l : List UInt8) (E : Int) (p : Nat) (w : World) (hp : w.cell? ⟨p, 0, none⟩ = some (.int .i64 E)) :
    Calls Tryd.prog 70 #[.string ⟨l.toArray⟩, .pointer (some ⟨p, 0, none⟩)] w fun e w' => e = .returned (.tuple #[.int .i64 0, .int .i64 E]) ∧ Below w.heap.size w w' := by
  have qp := World.block_lt_of_cell? w ⟨p, 0, none⟩ hp
  go_enter Tryd.func70, Tryd.ntmps70
  go_wp2
  go_region
  go_wp2
  go_ret2
  exact ⟨rfl, Below.drew (Below.refl _ _)⟩

set_option maxHeartbeats 1000000 in
theorem end_brick (l : List UInt8) (w : World) (E : Int) (hE : E = if l.isEmpty then 0 else 8) :
    Calls Tryd.prog 64 #[.string ⟨l.toArray⟩] w fun e w' => e = .returned (.tuple #[.int .i64 0, .int .i64 E]) ∧ w = w' := by
  cases h : l.isEmpty with
  | true =>
    rw [h] at hE
    simp only [if_true] at hE
    subst hE
    go_enter Tryd.func64, Tryd.ntmps64
    go_wp2
    go_ret2
    exact ⟨rfl, rfl⟩
  | false =>
    rw [h] at hE
    rw [if_neg (by decide)] at hE
    subst hE
    go_enter Tryd.func64, Tryd.ntmps64
    go_wp2
    go_ret2
    exact ⟨rfl, rfl⟩

/-- What take leaves: k bytes are taken off, or there is an error. -/
def Took (w w' : World) (b : Nat) (l : List UInt8) (k : Nat) (E : Int) : Prop :=
  w' = if E = 0 then (w.setCell ⟨b, 2, none⟩ (.int .i64 0)).setCell ⟨b, 1, none⟩ (.string ⟨(l.drop k).toArray⟩) else w.setCell ⟨b, 2, none⟩ (.int .i64 E)
theorem Took.but {w w' : World} {b : Nat} {l : List UInt8} {k : Nat} {E : Int} (h : Took w w' b l k E) : But b w w' := by
  unfold Took at h
  split at h
  · rw [h]; exact ((But.refl b w).set _ rfl _).set _ rfl _
  · rw [h]; exact (But.refl b w).set _ rfl _
theorem Rd.err {w : World} {b : Nat} {l : List UInt8} {E : Int} (h : Rd w b l E) (E' : Int) : Rd (w.setCell ⟨b, 2, none⟩ (.int .i64 E')) b l E' := by
  obtain ⟨h1, h2, h3, h4, h5, h6⟩ := h
  exact ⟨by rw [World.cell?_setCell_other _ _ _ _ (by simp)]; exact h1, by rw [World.cell?_setCell_other _ _ _ _ (by simp)]; exact h2, World.cell?_setCell_same _ _ _ h3, by rw [World.frozen?_setCell]; exact h4, by rw [World.frozen?_setCell]; exact h5, h6⟩
theorem Rd.left {w : World} {b : Nat} {l m : List UInt8} {E : Int} (h : Rd w b l E) (hm : m.length ≤ maxLen) : Rd (w.setCell ⟨b, 1, none⟩ (.string ⟨m.toArray⟩)) b m E := by
  obtain ⟨h1, h2, h3, h4, h5, h6⟩ := h
  exact ⟨by rw [World.cell?_setCell_other _ _ _ _ (by simp)]; exact h1, World.cell?_setCell_same _ _ _ h2, by rw [World.cell?_setCell_other _ _ _ _ (by simp)]; exact h3, by rw [World.frozen?_setCell]; exact h4, by rw [World.frozen?_setCell]; exact h5, hm⟩
theorem Rd.set {w : World} {b q : Nat} {l : List UInt8} {E : Int} (h : Rd w b l E) (hq : q ≠ b) (v : Value) : Rd (w.setCell ⟨q, 0, none⟩ v) b l E :=
  h.but ((But.refl q w).set ⟨q, 0, none⟩ rfl v) (fun e => hq e.symm)
theorem Took.rd {w w' : World} {b : Nat} {l : List UInt8} {k : Nat} {E : Int} (h : Took w w' b l k E) (r : Rd w b l 0) : Rd w' b (if E = 0 then l.drop k else l) E := by
  unfold Took at h
  split at h
  · rename_i hE
    subst hE
    rw [h, if_pos rfl]
    exact (r.err 0).left (by rw [List.length_drop]; have := r.2.2.2.2.2; omega)
  · rename_i hE
    rw [h, if_neg hE]
    exact r.err E

set_option maxHeartbeats 1000000 in
theorem take_err (b : Nat) (l : List UInt8) (E : Int) (f : Value) (w : World) (h : Rd w b l E) (hE : E ≠ 0) :
    Calls Tryd.prog 58 #[.pointer (some ⟨b, 0, none⟩), f] w fun e w' => e = .returned (.tuple #[]) ∧ w = w' := by
  have hb : (E == 0) = false := by rw [beq_eq_false_iff_ne]; exact hE
  have X := Lib.hid (err_any b l E w h)
  go_enter Tryd.func58, Tryd.ntmps58
  go_wp2_with fail
  refine X.out.mono ?_
  rintro e w' ⟨rfl, rfl⟩
  go_wp2
  refine bodyPost_ret (results_none rfl _ _ _) rfl ?_
  exact ⟨rfl, rfl⟩


set_option maxHeartbeats 1000000 in
theorem take_Num (b : Nat) (l : List UInt8) (p q : Nat) (k : Nat) (E : Int) (R : World → Prop) (w : World) (h : Rd w b l 0)
    (hC : Calls Tryd.prog 59 #[.string ⟨l.toArray⟩, .pointer (some ⟨p, 0, none⟩), .pointer (some ⟨q, 0, none⟩)] w fun e w' => e = .returned (.tuple #[.int .i64 (k : Int), .int .i64 E]) ∧ R w') (hR : ∀ w', R w' → Rd w' b l 0) (hk : E = 0 → k ≤ l.length) :
    Calls Tryd.prog 58 #[.pointer (some ⟨b, 0, none⟩), .func (.func 59) #[] #[.pointer (some ⟨p, 0, none⟩), .pointer (some ⟨q, 0, none⟩)]] w fun e w' => e = .returned (.tuple #[]) ∧ ∃ w1, R w1 ∧ Took w1 w' b l k E := by
  have X := Lib.hid (err_any b l 0 w h)
  have Y := Lib.hid hC
  have hsz := Str.size_mk l
  obtain ⟨h1, h2, h3, h4, h5, h6⟩ := h
  have q0 := World.block_lt_of_cell? w ⟨b, 0, none⟩ h1
  clear hC
  unfold maxLen at h6
  go_enter Tryd.func58, Tryd.ntmps58
  go_wp2_with fail
  refine X.out.mono ?_
  rintro e w' ⟨rfl, rfl⟩
  clear X
  go_wp2_with fail
  refine Y.out.mono ?_
  rintro e w1 ⟨rfl, r1⟩
  clear Y
  have r2 := hR w1 r1
  obtain ⟨g1, g2, g3, g4, g5, _⟩ := id r2
  have q1 := r2.lt
  by_cases hE : E = 0
  · subst hE
    have hk := hk rfl
    have hex := slice_from l k
    go_wp2
    go_end0
    exact ⟨rfl, w1, r1, by rw [Took, if_pos rfl]⟩
  · have hb : (E == 0) = false := by rw [beq_eq_false_iff_ne]; exact hE
    go_wp2
    go_end0
    exact ⟨rfl, w1, r1, by rw [Took, if_neg hE]⟩

set_option maxHeartbeats 1000000 in
theorem take_Text (b : Nat) (l : List UInt8) (p q : Nat) (k : Nat) (E : Int) (R : World → Prop) (w : World) (h : Rd w b l 0)
    (hC : Calls Tryd.prog 61 #[.string ⟨l.toArray⟩, .pointer (some ⟨p, 0, none⟩), .pointer (some ⟨q, 0, none⟩)] w fun e w' => e = .returned (.tuple #[.int .i64 (k : Int), .int .i64 E]) ∧ R w') (hR : ∀ w', R w' → Rd w' b l 0) (hk : E = 0 → k ≤ l.length) :
    Calls Tryd.prog 58 #[.pointer (some ⟨b, 0, none⟩), .func (.func 61) #[] #[.pointer (some ⟨p, 0, none⟩), .pointer (some ⟨q, 0, none⟩)]] w fun e w' => e = .returned (.tuple #[]) ∧ ∃ w1, R w1 ∧ Took w1 w' b l k E := by
  have X := Lib.hid (err_any b l 0 w h)
  have Y := Lib.hid hC
  have hsz := Str.size_mk l
  obtain ⟨h1, h2, h3, h4, h5, h6⟩ := h
  have q0 := World.block_lt_of_cell? w ⟨b, 0, none⟩ h1
  clear hC
  unfold maxLen at h6
  go_enter Tryd.func58, Tryd.ntmps58
  go_wp2_with fail
  refine X.out.mono ?_
  rintro e w' ⟨rfl, rfl⟩
  clear X
  go_wp2_with fail
  refine Y.out.mono ?_
  rintro e w1 ⟨rfl, r1⟩
  clear Y
  have r2 := hR w1 r1
  obtain ⟨g1, g2, g3, g4, g5, _⟩ := id r2
  have q1 := r2.lt
  by_cases hE : E = 0
  · subst hE
    have hk := hk rfl
    have hex := slice_from l k
    go_wp2
    go_end0
    exact ⟨rfl, w1, r1, by rw [Took, if_pos rfl]⟩
  · have hb : (E == 0) = false := by rw [beq_eq_false_iff_ne]; exact hE
    go_wp2
    go_end0
    exact ⟨rfl, w1, r1, by rw [Took, if_neg hE]⟩

set_option maxHeartbeats 1000000 in
theorem take_Fail (b : Nat) (l : List UInt8) (p : Nat) (k : Nat) (E : Int) (R : World → Prop) (w : World) (h : Rd w b l 0)
    (hC : Calls Tryd.prog 70 #[.string ⟨l.toArray⟩, .pointer (some ⟨p, 0, none⟩)] w fun e w' => e = .returned (.tuple #[.int .i64 (k : Int), .int .i64 E]) ∧ R w') (hR : ∀ w', R w' → Rd w' b l 0) (hk : E = 0 → k ≤ l.length) :
    Calls Tryd.prog 58 #[.pointer (some ⟨b, 0, none⟩), .func (.func 70) #[] #[.pointer (some ⟨p, 0, none⟩)]] w fun e w' => e = .returned (.tuple #[]) ∧ ∃ w1, R w1 ∧ Took w1 w' b l k E := by
  have X := Lib.hid (err_any b l 0 w h)
  have Y := Lib.hid hC
  have hsz := Str.size_mk l
  obtain ⟨h1, h2, h3, h4, h5, h6⟩ := h
  have q0 := World.block_lt_of_cell? w ⟨b, 0, none⟩ h1
  clear hC
  unfold maxLen at h6
  go_enter Tryd.func58, Tryd.ntmps58
  go_wp2_with fail
  refine X.out.mono ?_
  rintro e w' ⟨rfl, rfl⟩
  clear X
  go_wp2_with fail
  refine Y.out.mono ?_
  rintro e w1 ⟨rfl, r1⟩
  clear Y
  have r2 := hR w1 r1
  obtain ⟨g1, g2, g3, g4, g5, _⟩ := id r2
  have q1 := r2.lt
  by_cases hE : E = 0
  · subst hE
    have hk := hk rfl
    have hex := slice_from l k
    go_wp2
    go_end0
    exact ⟨rfl, w1, r1, by rw [Took, if_pos rfl]⟩
  · have hb : (E == 0) = false := by rw [beq_eq_false_iff_ne]; exact hE
    go_wp2
    go_end0
    exact ⟨rfl, w1, r1, by rw [Took, if_neg hE]⟩

set_option maxHeartbeats 1000000 in
theorem take_End (b : Nat) (l : List UInt8) (k : Nat) (E : Int) (R : World → Prop) (w : World) (h : Rd w b l 0)
    (hC : Calls Tryd.prog 64 #[.string ⟨l.toArray⟩] w fun e w' => e = .returned (.tuple #[.int .i64 (k : Int), .int .i64 E]) ∧ R w') (hR : ∀ w', R w' → Rd w' b l 0) (hk : E = 0 → k ≤ l.length) :
    Calls Tryd.prog 58 #[.pointer (some ⟨b, 0, none⟩), .func (.func 64) #[] #[]] w fun e w' => e = .returned (.tuple #[]) ∧ ∃ w1, R w1 ∧ Took w1 w' b l k E := by
  have X := Lib.hid (err_any b l 0 w h)
  have Y := Lib.hid hC
  have hsz := Str.size_mk l
  obtain ⟨h1, h2, h3, h4, h5, h6⟩ := h
  have q0 := World.block_lt_of_cell? w ⟨b, 0, none⟩ h1
  clear hC
  unfold maxLen at h6
  go_enter Tryd.func58, Tryd.ntmps58
  go_wp2_with fail
  refine X.out.mono ?_
  rintro e w' ⟨rfl, rfl⟩
  clear X
  go_wp2_with fail
  refine Y.out.mono ?_
  rintro e w1 ⟨rfl, r1⟩
  clear Y
  have r2 := hR w1 r1
  obtain ⟨g1, g2, g3, g4, g5, _⟩ := id r2
  have q1 := r2.lt
  by_cases hE : E = 0
  · subst hE
    have hk := hk rfl
    have hex := slice_from l k
    go_wp2
    go_end0
    exact ⟨rfl, w1, r1, by rw [Took, if_pos rfl]⟩
  · have hb : (E == 0) = false := by rw [beq_eq_false_iff_ne]; exact hE
    go_wp2
    go_end0
    exact ⟨rfl, w1, r1, by rw [Took, if_neg hE]⟩

end Wire
end Go.Proofs.YtcfimfoccbaepaaDoor
