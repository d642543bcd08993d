/- coder: many: marks, dots, counts. -/
import Derived.Test.YtnpjkmomllkhpaaGreatTmCoderTake
import Derived.Test.YtnpjkmomllkhpaaGreatTmCoderList
import Derived.Test.YtnpjkmomllkhpaaGreatTmBase
namespace Go.Proofs.YtnpjkmomllkhpaaGreat
namespace Taker
open Go.RowKit Go.Proofs.YtnpjkmomllkhpaaGreat.Mark Go.Proofs.YtnpjkmomllkhpaaGreat.Num Go.Proofs.YtnpjkmomllkhpaaGreat.Wire Go.Proofs.YtnpjkmomllkhpaaGreat.Bag Go.Proofs.YtnpjkmomllkhpaaGreat.Coder
/-- What a reader leaves: no more than there was; of what is spoilt, all. -/
structure Keeps {α : Type} (R : List UInt8 → Int → α × List UInt8 × Int) : Prop where
  stay : ∀ l E, E ≠ 0 → (R l E).2 = (l, E)
  most : ∀ l, (R l 0).2.1.length ≤ l.length
structure Eats {α : Type} (R : List UInt8 → Int → α × List UInt8 × Int) : Prop where
  keeps : Keeps R
  less : ∀ l, (R l 0).2.2 = 0 → (R l 0).2.1.length < l.length
theorem Keeps.len {α : Type} {R : List UInt8 → Int → α × List UInt8 × Int} (h : Keeps R) {l l' : List UInt8} {E E' : Int} {x : α} (e : R l E = (x, l', E')) : l'.length ≤ l.length := by
  by_cases h0 : E = 0
  · subst h0
    have := h.most l
    rw [e] at this
    exact this
  · have := h.stay l E h0
    rw [e] at this
    simp only [Prod.mk.injEq] at this
    rw [this.1]
    exact Nat.le_refl _
theorem keeps_pure {α : Type} (x : α) : Keeps (fun l E => (x, l, E)) := ⟨fun _ _ _ => rfl, fun _ => Nat.le_refl _⟩
theorem Keeps.bind {α β : Type} {R : List UInt8 → Int → α × List UInt8 × Int} {f : α → List UInt8 → Int → β × List UInt8 × Int} (h : Keeps R) (k : ∀ x, Keeps (f x)) : Keeps (fun l E => bindR (R l E) f) := by
  refine ⟨fun l E hE => ?_, fun l => ?_⟩
  · unfold bindR
    rw [h.stay l E hE]
    exact (k _).stay l E hE
  · unfold bindR
    refine Nat.le_trans ?_ (h.most l)
    by_cases e : (R l 0).2.2 = 0
    · rw [e]
      exact (k _).most _
    · rw [(k (R l 0).1).stay (R l 0).2.1 _ e]
      exact Nat.le_refl _
theorem Eats.bind {α β : Type} {R : List UInt8 → Int → α × List UInt8 × Int} {f : α → List UInt8 → Int → β × List UInt8 × Int} (h : Eats R) (k : ∀ x, Keeps (f x)) : Eats (fun l E => bindR (R l E) f) := by
  refine ⟨h.keeps.bind k, fun l hl => ?_⟩
  unfold bindR at hl ⊢
  by_cases e : (R l 0).2.2 = 0
  · have := h.less l e
    rw [e]
    exact Nat.lt_of_le_of_lt ((k _).most _) this
  · have := (k (R l 0).1).stay (R l 0).2.1 _ e
    rw [this] at hl
    exact absurd hl e
theorem numT_eats {l : List UInt8} {most : Int} (h : (numT l most).2.2 = 0) : 0 < (numT l most).2.1 ∧ (numT l most).2.1 ≤ l.length := by
  unfold numT at h ⊢
  by_cases e : (rdL l).2.2 ≠ 0
  · rw [if_pos e] at h; exact absurd h e
  · rw [if_neg e] at h ⊢
    have := rdL_size l (by simpa using e)
    split at h
    · exact absurd h (by decide)
    · rename_i q; rw [if_neg q]; exact ⟨this.2, this.1⟩
theorem numS_eats (most : Int) : Eats (numS most) := by
  refine ⟨⟨fun l E hE => by unfold numS; rw [if_pos hE], fun l => ?_⟩, fun l h => ?_⟩
  · unfold numS
    rw [if_neg (by simp)]
    show (if (numT l most).2.2 = 0 then _ else _ : List UInt8).length ≤ _
    split
    · rw [List.length_drop]; omega
    · exact Nat.le_refl _
  · unfold numS at h ⊢
    rw [if_neg (by simp)] at h ⊢
    have := numT_eats (show (numT l most).2.2 = 0 from h)
    simp only [show (numT l most).2.2 = 0 from h, if_true, List.length_drop]
    omega
theorem nat_eats : Eats natS := ⟨⟨fun l E hE => (numS_eats _).keeps.stay l E hE, fun l => (numS_eats 18446744073709551615).keeps.most l⟩, fun l h => (numS_eats 18446744073709551615).less l h⟩
theorem small_eats : Eats smallS := ⟨⟨fun l E hE => (numS_eats _).keeps.stay l E hE, fun l => (numS_eats 255).keeps.most l⟩, fun l h => (numS_eats 255).less l h⟩
theorem textT_eats {l : List UInt8} {most : Int} (h : (textT l most).2.2 = 0) : 0 < (textT l most).2.1 ∧ (textT l most).2.1 ≤ l.length := by
  refine ⟨?_, textT_size (l := l) (most := most) (x := (textT l most).1) (k := (textT l most).2.1) (by rw [← h])⟩
  unfold textT at h ⊢
  by_cases e : (rdL l).2.2 ≠ 0
  · rw [if_pos e] at h; exact absurd h e
  · rw [if_neg e] at h ⊢
    have := rdL_size l (by simpa using e)
    split at h
    · exact absurd h (by decide)
    · rename_i q1
      rw [if_neg q1]
      split at h
      · exact absurd h (by decide)
      · rename_i q2
        rw [if_neg q2]
        show 0 < (rdL l).2.1 + _
        omega
theorem word_eats : Eats wordS := by
  refine ⟨⟨fun l E hE => by unfold wordS textS; rw [if_pos hE], fun l => ?_⟩, fun l h => ?_⟩
  · unfold wordS textS
    rw [if_neg (by simp)]
    show (if (textT l 65536).2.2 = 0 then _ else _ : List UInt8).length ≤ _
    split
    · rw [List.length_drop]; omega
    · exact Nat.le_refl _
  · unfold wordS textS at h ⊢
    rw [if_neg (by simp)] at h ⊢
    have := textT_eats (show (textT l 65536).2.2 = 0 from h)
    simp only [show (textT l 65536).2.2 = 0 from h, if_true, List.length_drop]
    omega
theorem truth_eats : Eats truthS := by
  refine ⟨⟨fun l E hE => by unfold truthS boolS; rw [if_pos hE], fun l => ?_⟩, fun l h => ?_⟩
  · unfold truthS boolS
    rw [if_neg (by simp)]
    show (if (boolT l).2.2 = 0 then _ else _ : List UInt8).length ≤ _
    split
    · rw [List.length_drop]; omega
    · exact Nat.le_refl _
  · unfold truthS boolS at h ⊢
    rw [if_neg (by simp)] at h ⊢
    have h0 : (boolT l).2.2 = 0 := h
    simp only [h0, if_true, List.length_drop]
    cases l with
    | nil => exact absurd h0 (by decide)
    | cons c r =>
      by_cases q : 1 < c.toNat
      · simp [boolT, q] at h0
      · simp [boolT, q]
theorem mark_eats : Eats markS := word_eats.bind fun _ => nat_eats.keeps.bind fun _ => keeps_pure _
theorem dot_eats : Eats dotS := word_eats.bind fun _ => nat_eats.keeps.bind fun _ => keeps_pure _
theorem count_eats : Eats countS := word_eats.bind fun _ => nat_eats.keeps.bind fun _ => nat_eats.keeps.bind fun _ => keeps_pure _
/-- So many things, up to the first fault. -/
def loopS {α : Type} (each : List UInt8 → Int → α × List UInt8 × Int) : Nat → List UInt8 → Int → List α × List UInt8 × Int
  | 0, l, E => ([], l, E)
  | n + 1, l, E => if E ≠ 0 then ([], l, E) else bindR (each l E) fun x l1 E1 => bindR (loopS each n l1 E1) fun xs l2 E2 => (x :: xs, l2, E2)
def manyS {α : Type} (each : List UInt8 → Int → α × List UInt8 × Int) (l : List UInt8) (E : Int) : List α × List UInt8 × Int := bindR (natS l E) fun n l1 E1 => loopS each n l1 E1
theorem loopS_err {α : Type} (each : List UInt8 → Int → α × List UInt8 × Int) (n : Nat) (l : List UInt8) {E : Int} (h : E ≠ 0) : loopS each n l E = ([], l, E) := by
  cases n with
  | zero => rfl
  | succ n => show (if E ≠ 0 then _ else _) = _; rw [if_pos h]
theorem loopS_keeps {α : Type} {each : List UInt8 → Int → α × List UInt8 × Int} (h : Eats each) : ∀ n, Keeps (loopS each n)
  | 0 => keeps_pure _
  | n + 1 => by
    have q : Keeps (fun l E => bindR (each l E) fun x l1 E1 => bindR (loopS each n l1 E1) fun xs l2 E2 => (x :: xs, l2, E2)) := h.keeps.bind fun x => (loopS_keeps h n).bind fun xs => keeps_pure _
    refine ⟨fun l E hE => by rw [loopS_err each _ l hE], fun l => ?_⟩
    have e : loopS each (n + 1) l 0 = bindR (each l 0) fun x l1 E1 => bindR (loopS each n l1 E1) fun xs l2 E2 => (x :: xs, l2, E2) := by
      show (if (0 : Int) ≠ 0 then _ else _) = _
      rw [if_neg (by simp)]
    rw [e]
    exact q.most l
theorem many_eats {α : Type} {each : List UInt8 → Int → α × List UInt8 × Int} (h : Eats each) : Eats (manyS each) := nat_eats.bind fun n => loopS_keeps h n
theorem own_but {α : Type} {E : Row.Enc α} {te : TypeId} {w w' : World} {B b : Nat} {v : Value} {L : List α} (h : Row.Own E te w B v L) (k : But b w w') (hb : b < B) : Row.Own E te w' B v L := by
  refine ⟨h.1, ?_⟩
  rcases h.2 with h' | ⟨g, cap, cur, e, hB, hg, hr⟩
  · exact .inl h'
  · refine .inr ⟨g, cap, cur, e, hB, ?_, hr⟩
    rw [k.block g (Array.getElem?_eq_some_iff.1 hg).1 (by omega)]; exact hg
theorem but_then {w x y : World} {b B : Nat} (h : But b w x) (k : Below B x y) (hB : w.heap.size ≤ B) : But b w y :=
  ⟨k.os.trans h.os, k.tape.trans h.tape, k.output.trans h.output, Nat.le_trans h.size k.size, fun j hj hb => (k.block j (by omega)).trans (h.block j hj hb)⟩
theorem Box.low {w w' : World} {b B : Nat} {vs : List Value} (h : Box w b vs) (k : Below B w w') (hb : b < B) : Box w' b vs :=
  ⟨Nat.lt_of_lt_of_le h.1 k.size, fun j v hv => (k.cell (p := ⟨b, j, none⟩) hb).trans (h.2.1 j v hv), fun j => (k.frozen (p := ⟨b, j, none⟩) hb).trans (h.2.2 j)⟩
theorem typM : Row.Typ Tryz.prog dE 22 54 (.agg #[.string ⟨#[]⟩, .int .u64 0]) 24 := ⟨Tryz.underlying22, Row.info_of (by kernel_rfl), rfl, by decide⟩
theorem typC : Row.Typ Tryz.prog cE 23 56 (.agg #[.string ⟨#[]⟩, .int .u64 0, .int .u64 0]) 32 := ⟨Tryz.underlying23, Row.info_of (by kernel_rfl), rfl, by decide⟩
set_option maxRecDepth 100000 in
set_option maxHeartbeats 4000000 in
theorem many_mark (b : Nat) (l : List UInt8) (E : Int) (w : World) (h : Rd w b l E) (hz : l.length ≤ 1048576) (xs : List M) (l' : List UInt8) (E' : Int) (hn : manyS markS l E = (xs, l', E')) :
    Calls Tryz.prog 60 #[.agg #[.pointer (some ⟨b, 0, none⟩)], .func (.func 61) #[] #[]] w fun e w' => ∃ v, e = .returned v ∧ Row.Own dE 54 w' w.heap.size v xs ∧ Rd w' b l' E' ∧ But b w w' := by
  have hlt := h.lt
  obtain ⟨n, l1, E1, q0⟩ : ∃ x y z, natS l E = (x, y, z) := ⟨_, _, _, rfl⟩
  simp only [manyS, bindR, q0] at hn
  have hq := nat_of (by decide) q0
  have hn0 : n ≤ 18446744073709551615 := by have := hq.2; omega
  have Q0 := Lib.hid hq.1
  have HL0 : Hid (E1 = 0 → ([] : List M).length + l1.length ≤ l.length) := Lib.hid (fun e => by
    subst e
    have k := nat_eats.keeps
    by_cases e0 : E = 0
    · subst e0
      have := k.most l
      rw [q0] at this
      simpa using this
    · have := k.stay l E e0
      rw [q0] at this
      simp only [Prod.mk.injEq] at this
      exact absurd this.2.symm e0)
  have HN0 : Hid (bindR (loopS markS n l1 E1) (fun ys l2 E2 => ([] ++ ys, l2, E2)) = (xs, l', E')) := Lib.hid (by rw [← hn]; rfl)
  clear hn hq q0
  go_enter Tryz.func60, Tryz.ntmps60
  go_upto_region 2 with (fail)
  obtain ⟨W, hW⟩ : ∃ v, v = w.alloc (.cells #[.pointer (some ⟨b, 0, none⟩)] 80) := ⟨_, rfl⟩
  rw [← hW]
  have PB : Box W w.heap.size [.pointer (some ⟨b, 0, none⟩)] := by rw [hW]; exact Box.new w [.pointer (some ⟨b, 0, none⟩)] 80 (by simp)
  have R : Rd W b l E := by rw [hW]; exact h.alloc _
  have K : But b w W := by rw [hW]; exact (But.refl b w).alloc _
  obtain ⟨bp, hbp⟩ : ∃ v, v = w.heap.size := ⟨_, rfl⟩
  rw [← hbp] at PB ⊢
  have n1 : bp ≠ b := by omega
  have N1 := Lib.hid n1
  have NB : Hid (b < bp + 1 ∧ w.heap.size ≤ bp + 1 ∧ bp = w.heap.size) := Lib.hid (by omega)
  replace PB := Lib.hid PB
  replace R := Lib.hid R
  replace K := Lib.hid K
  clear hW hbp n1 h hlt
  have p0 := PB.out.at 0 _ rfl
  go_wp2_with fail
  refine (num_any b _ _ 18446744073709551615 _ R.out _ _ _ Q0.out).mono ?_
  rintro e w1 ⟨rfl, R1, k1⟩
  replace PB := Lib.hid (PB.out.but k1 N1.out)
  replace K := Lib.hid (K.out.trans k1)
  replace R := Lib.hid R1
  clear k1 R1 p0
  have O0 : Hid (Row.Own dE 54 w1 (bp + 1) (.slice none 0 0) ([] : List M)) := Lib.hid (Row.Own.nil _ _)
  go_wp2_with fail
  go_loopw [5, 6] (fun lv nv wr => ∃ (n : Nat) (v : Value) (ys : List M) (l1 : List UInt8) (E1 : Int), lv = v ∧ nv = .int .u64 (n : Nat) ∧ n ≤ 18446744073709551615 ∧ Hid (Row.Own dE 54 wr (bp + 1) v ys) ∧ Hid (Rd wr b l1 E1) ∧ Hid (But b w wr) ∧ Hid (Box wr bp [.pointer (some ⟨b, 0, none⟩)]) ∧ Hid (bindR (loopS markS n l1 E1) (fun zs l2 E2 => (ys ++ zs, l2, E2)) = (xs, l', E')) ∧ Hid (E1 = 0 → ys.length + l1.length ≤ l.length)) (fun _ nv _ => (intOf nv).toNat)
  case atStart => exact ⟨n, _, [], l1, E1, rfl, rfl, hn0, O0, R, K, PB, HN0, HL0⟩
  case round =>
    clear O0 R K PB HN0 HL0 Q0 hn0
    obtain ⟨n, v, ys, l1, E1, rfl, rfl, hn0, O, R, K, PB, HN, HL⟩ := hrel
    have p0 := PB.out.at 0 _ rfl
    by_cases hz0 : n = 0
    · have d1 : decide ((0 : Int) < (n : Int)) = false := decide_eq_false (by omega)
      have d2 : decide (0 < n) = false := decide_eq_false (by omega)
      have HE : Hid ((ys, l1, E1) = (xs, l', E')) := Lib.hid (by rw [← HN.out, hz0]; show _ = (ys ++ [], l1, E1); rw [List.append_nil])
      clear hz0 HN
      go_wp2
      go_ret
      have he := HE.out
      simp only [Prod.mk.injEq] at he
      obtain ⟨rfl, rfl, rfl⟩ := he
      exact ⟨_, rfl, O.out.base (by have := NB.out; omega), R.out, K.out⟩
    obtain ⟨m, hm⟩ : ∃ m, n = m + 1 := ⟨n - 1, by omega⟩
    have d1 : decide ((0 : Int) < (n : Int)) = true := decide_eq_true (by omega)
    have d2 : decide (0 < n) = true := decide_eq_true (by omega)
    have w1 : IntKind.u64.wrap ((n : Int) - 1) = (m : Int) := by rw [IntKind.wrap_u64]; omega
    have HM := Lib.hid hm
    clear hm hz0
    go_wp2_with fail
    refine (err_any b _ _ _ R.out).mono ?_
    rintro e w2 ⟨rfl, rfl⟩
    by_cases hE : E1 = 0
    rotate_left
    · have d3 : (E1 == 0) = false := by rw [beq_eq_false_iff_ne]; exact hE
      have HE : Hid ((ys, l1, E1) = (xs, l', E')) := Lib.hid (by rw [← HN.out, loopS_err _ _ _ hE]; show _ = (ys ++ [], l1, E1); rw [List.append_nil])
      clear hE HN
      go_wp2
      go_ret
      have he := HE.out
      simp only [Prod.mk.injEq] at he
      obtain ⟨rfl, rfl, rfl⟩ := he
      exact ⟨_, rfl, O.out.base (by have := NB.out; omega), R.out, K.out⟩
    subst hE
    obtain ⟨x, l2, E2, qx⟩ : ∃ x y z, markS l1 0 = (x, y, z) := ⟨_, _, _, rfl⟩
    have HLY : Hid (ys.length ≤ 1048576) := Lib.hid (by have := HL.out rfl; omega)
    have HL2 : Hid (E2 = 0 → (ys ++ [x]).length + l2.length ≤ l.length) := Lib.hid (fun e => by
      have h1 := mark_eats.less l1 (by rw [qx]; exact e)
      have h2 := HL.out rfl
      rw [qx] at h1
      simp only [List.length_append, List.length_singleton]
      simp only at h1
      omega)
    have HN2 : Hid (bindR (loopS markS m l2 E2) (fun zs l2 E2 => (ys ++ [x] ++ zs, l2, E2)) = (xs, l', E')) := Lib.hid (by
      rw [← HN.out, HM.out]
      show _ = bindR (if (0 : Int) ≠ 0 then _ else bindR (markS l1 0) fun x l1 E1 => bindR (loopS markS m l1 E1) fun xs l2 E2 => (x :: xs, l2, E2)) _
      rw [if_neg (by simp), qx]
      simp only [bindR, List.append_assoc, List.singleton_append])
    have QX := Lib.hid qx
    clear qx HN HL
    go_wp2_with fail
    refine (mark_any b _ _ _ R.out _ _ _ QX.out).mono ?_
    rintro e w3 ⟨rfl, R1, k1⟩
    replace O := Lib.hid (own_but O.out k1 NB.out.1)
    replace PB := Lib.hid (PB.out.but k1 N1.out)
    replace K := Lib.hid (K.out.trans k1)
    replace R := Lib.hid R1
    clear k1 R1 p0
    have HB3 : Hid (bp + 1 ≤ w3.heap.size) := Lib.hid PB.out.1
    go_wp2_with (at_builtin; refine Row.wpList_app typM rfl _ _ rfl (bp + 1) _ ys rfl (O.out.alloc _) _ 1 1 [x] rfl (Row.lies_new (E := dE) _ x _) (by have := HLY.out; omega) (by have := HB3.out; rw [World.size_alloc]; omega) ?_; intro v9 w9 o9 g9 k9)
    replace k9 := ((Below.refl (bp + 1) w3).alloc HB3.out _).trans k9
    replace R := Lib.hid (R.out.below k9 NB.out.1)
    replace PB := Lib.hid (PB.out.low k9 (by omega))
    replace K := Lib.hid (but_then K.out k9 NB.out.2.1)
    replace O := Lib.hid o9
    clear k9 g9 o9
    go_roundw
    case rel => exact ⟨m, v9, ys ++ [x], l2, E2, rfl, by go_num, by have := HM.out; omega, O, R, K, PB, HN2, HL2⟩
    case measure => simp [intOf]; have := HM.out; omega
set_option maxRecDepth 100000 in
set_option maxHeartbeats 4000000 in
theorem many_dot (b : Nat) (l : List UInt8) (E : Int) (w : World) (h : Rd w b l E) (hz : l.length ≤ 1048576) (xs : List M) (l' : List UInt8) (E' : Int) (hn : manyS dotS l E = (xs, l', E')) :
    Calls Tryz.prog 92 #[.agg #[.pointer (some ⟨b, 0, none⟩)], .func (.func 93) #[] #[]] w fun e w' => ∃ v, e = .returned v ∧ Row.Own dE 96 w' w.heap.size v xs ∧ Rd w' b l' E' ∧ But b w w' := by
  have hlt := h.lt
  obtain ⟨n, l1, E1, q0⟩ : ∃ x y z, natS l E = (x, y, z) := ⟨_, _, _, rfl⟩
  simp only [manyS, bindR, q0] at hn
  have hq := nat_of (by decide) q0
  have hn0 : n ≤ 18446744073709551615 := by have := hq.2; omega
  have Q0 := Lib.hid hq.1
  have HL0 : Hid (E1 = 0 → ([] : List M).length + l1.length ≤ l.length) := Lib.hid (fun e => by
    subst e
    have k := nat_eats.keeps
    by_cases e0 : E = 0
    · subst e0
      have := k.most l
      rw [q0] at this
      simpa using this
    · have := k.stay l E e0
      rw [q0] at this
      simp only [Prod.mk.injEq] at this
      exact absurd this.2.symm e0)
  have HN0 : Hid (bindR (loopS dotS n l1 E1) (fun ys l2 E2 => ([] ++ ys, l2, E2)) = (xs, l', E')) := Lib.hid (by rw [← hn]; rfl)
  clear hn hq q0
  go_enter Tryz.func92, Tryz.ntmps92
  go_upto_region 2 with (fail)
  obtain ⟨W, hW⟩ : ∃ v, v = w.alloc (.cells #[.pointer (some ⟨b, 0, none⟩)] 80) := ⟨_, rfl⟩
  rw [← hW]
  have PB : Box W w.heap.size [.pointer (some ⟨b, 0, none⟩)] := by rw [hW]; exact Box.new w [.pointer (some ⟨b, 0, none⟩)] 80 (by simp)
  have R : Rd W b l E := by rw [hW]; exact h.alloc _
  have K : But b w W := by rw [hW]; exact (But.refl b w).alloc _
  obtain ⟨bp, hbp⟩ : ∃ v, v = w.heap.size := ⟨_, rfl⟩
  rw [← hbp] at PB ⊢
  have n1 : bp ≠ b := by omega
  have N1 := Lib.hid n1
  have NB : Hid (b < bp + 1 ∧ w.heap.size ≤ bp + 1 ∧ bp = w.heap.size) := Lib.hid (by omega)
  replace PB := Lib.hid PB
  replace R := Lib.hid R
  replace K := Lib.hid K
  clear hW hbp n1 h hlt
  have p0 := PB.out.at 0 _ rfl
  go_wp2_with fail
  refine (num_any b _ _ 18446744073709551615 _ R.out _ _ _ Q0.out).mono ?_
  rintro e w1 ⟨rfl, R1, k1⟩
  replace PB := Lib.hid (PB.out.but k1 N1.out)
  replace K := Lib.hid (K.out.trans k1)
  replace R := Lib.hid R1
  clear k1 R1 p0
  have O0 : Hid (Row.Own dE 96 w1 (bp + 1) (.slice none 0 0) ([] : List M)) := Lib.hid (Row.Own.nil _ _)
  go_wp2_with fail
  go_loopw [5, 6] (fun lv nv wr => ∃ (n : Nat) (v : Value) (ys : List M) (l1 : List UInt8) (E1 : Int), lv = v ∧ nv = .int .u64 (n : Nat) ∧ n ≤ 18446744073709551615 ∧ Hid (Row.Own dE 96 wr (bp + 1) v ys) ∧ Hid (Rd wr b l1 E1) ∧ Hid (But b w wr) ∧ Hid (Box wr bp [.pointer (some ⟨b, 0, none⟩)]) ∧ Hid (bindR (loopS dotS n l1 E1) (fun zs l2 E2 => (ys ++ zs, l2, E2)) = (xs, l', E')) ∧ Hid (E1 = 0 → ys.length + l1.length ≤ l.length)) (fun _ nv _ => (intOf nv).toNat)
  case atStart => exact ⟨n, _, [], l1, E1, rfl, rfl, hn0, O0, R, K, PB, HN0, HL0⟩
  case round =>
    clear O0 R K PB HN0 HL0 Q0 hn0
    obtain ⟨n, v, ys, l1, E1, rfl, rfl, hn0, O, R, K, PB, HN, HL⟩ := hrel
    have p0 := PB.out.at 0 _ rfl
    by_cases hz0 : n = 0
    · have d1 : decide ((0 : Int) < (n : Int)) = false := decide_eq_false (by omega)
      have d2 : decide (0 < n) = false := decide_eq_false (by omega)
      have HE : Hid ((ys, l1, E1) = (xs, l', E')) := Lib.hid (by rw [← HN.out, hz0]; show _ = (ys ++ [], l1, E1); rw [List.append_nil])
      clear hz0 HN
      go_wp2
      go_ret
      have he := HE.out
      simp only [Prod.mk.injEq] at he
      obtain ⟨rfl, rfl, rfl⟩ := he
      exact ⟨_, rfl, O.out.base (by have := NB.out; omega), R.out, K.out⟩
    obtain ⟨m, hm⟩ : ∃ m, n = m + 1 := ⟨n - 1, by omega⟩
    have d1 : decide ((0 : Int) < (n : Int)) = true := decide_eq_true (by omega)
    have d2 : decide (0 < n) = true := decide_eq_true (by omega)
    have w1 : IntKind.u64.wrap ((n : Int) - 1) = (m : Int) := by rw [IntKind.wrap_u64]; omega
    have HM := Lib.hid hm
    clear hm hz0
    go_wp2_with fail
    refine (err_any b _ _ _ R.out).mono ?_
    rintro e w2 ⟨rfl, rfl⟩
    by_cases hE : E1 = 0
    rotate_left
    · have d3 : (E1 == 0) = false := by rw [beq_eq_false_iff_ne]; exact hE
      have HE : Hid ((ys, l1, E1) = (xs, l', E')) := Lib.hid (by rw [← HN.out, loopS_err _ _ _ hE]; show _ = (ys ++ [], l1, E1); rw [List.append_nil])
      clear hE HN
      go_wp2
      go_ret
      have he := HE.out
      simp only [Prod.mk.injEq] at he
      obtain ⟨rfl, rfl, rfl⟩ := he
      exact ⟨_, rfl, O.out.base (by have := NB.out; omega), R.out, K.out⟩
    subst hE
    obtain ⟨x, l2, E2, qx⟩ : ∃ x y z, dotS l1 0 = (x, y, z) := ⟨_, _, _, rfl⟩
    have HLY : Hid (ys.length ≤ 1048576) := Lib.hid (by have := HL.out rfl; omega)
    have HL2 : Hid (E2 = 0 → (ys ++ [x]).length + l2.length ≤ l.length) := Lib.hid (fun e => by
      have h1 := dot_eats.less l1 (by rw [qx]; exact e)
      have h2 := HL.out rfl
      rw [qx] at h1
      simp only [List.length_append, List.length_singleton]
      simp only at h1
      omega)
    have HN2 : Hid (bindR (loopS dotS m l2 E2) (fun zs l2 E2 => (ys ++ [x] ++ zs, l2, E2)) = (xs, l', E')) := Lib.hid (by
      rw [← HN.out, HM.out]
      show _ = bindR (if (0 : Int) ≠ 0 then _ else bindR (dotS l1 0) fun x l1 E1 => bindR (loopS dotS m l1 E1) fun xs l2 E2 => (x :: xs, l2, E2)) _
      rw [if_neg (by simp), qx]
      simp only [bindR, List.append_assoc, List.singleton_append])
    have QX := Lib.hid qx
    clear qx HN HL
    go_wp2_with fail
    refine (dot_any b _ _ _ R.out _ _ _ QX.out).mono ?_
    rintro e w3 ⟨rfl, R1, k1⟩
    replace O := Lib.hid (own_but O.out k1 NB.out.1)
    replace PB := Lib.hid (PB.out.but k1 N1.out)
    replace K := Lib.hid (K.out.trans k1)
    replace R := Lib.hid R1
    clear k1 R1 p0
    have HB3 : Hid (bp + 1 ≤ w3.heap.size) := Lib.hid PB.out.1
    go_wp2_with (at_builtin; refine Row.wpList_app typD rfl _ _ rfl (bp + 1) _ ys rfl (O.out.alloc _) _ 1 1 [x] rfl (Row.lies_new (E := dE) _ x _) (by have := HLY.out; omega) (by have := HB3.out; rw [World.size_alloc]; omega) ?_; intro v9 w9 o9 g9 k9)
    replace k9 := ((Below.refl (bp + 1) w3).alloc HB3.out _).trans k9
    replace R := Lib.hid (R.out.below k9 NB.out.1)
    replace PB := Lib.hid (PB.out.low k9 (by omega))
    replace K := Lib.hid (but_then K.out k9 NB.out.2.1)
    replace O := Lib.hid o9
    clear k9 g9 o9
    go_roundw
    case rel => exact ⟨m, v9, ys ++ [x], l2, E2, rfl, by go_num, by have := HM.out; omega, O, R, K, PB, HN2, HL2⟩
    case measure => simp [intOf]; have := HM.out; omega
set_option maxRecDepth 100000 in
set_option maxHeartbeats 4000000 in
theorem many_count (b : Nat) (l : List UInt8) (E : Int) (w : World) (h : Rd w b l E) (hz : l.length ≤ 1048576) (xs : List C) (l' : List UInt8) (E' : Int) (hn : manyS countS l E = (xs, l', E')) :
    Calls Tryz.prog 62 #[.agg #[.pointer (some ⟨b, 0, none⟩)], .func (.func 63) #[] #[]] w fun e w' => ∃ v, e = .returned v ∧ Row.Own cE 56 w' w.heap.size v xs ∧ Rd w' b l' E' ∧ But b w w' := by
  have hlt := h.lt
  obtain ⟨n, l1, E1, q0⟩ : ∃ x y z, natS l E = (x, y, z) := ⟨_, _, _, rfl⟩
  simp only [manyS, bindR, q0] at hn
  have hq := nat_of (by decide) q0
  have hn0 : n ≤ 18446744073709551615 := by have := hq.2; omega
  have Q0 := Lib.hid hq.1
  have HL0 : Hid (E1 = 0 → ([] : List C).length + l1.length ≤ l.length) := Lib.hid (fun e => by
    subst e
    have k := nat_eats.keeps
    by_cases e0 : E = 0
    · subst e0
      have := k.most l
      rw [q0] at this
      simpa using this
    · have := k.stay l E e0
      rw [q0] at this
      simp only [Prod.mk.injEq] at this
      exact absurd this.2.symm e0)
  have HN0 : Hid (bindR (loopS countS n l1 E1) (fun ys l2 E2 => ([] ++ ys, l2, E2)) = (xs, l', E')) := Lib.hid (by rw [← hn]; rfl)
  clear hn hq q0
  go_enter Tryz.func62, Tryz.ntmps62
  go_upto_region 2 with (fail)
  obtain ⟨W, hW⟩ : ∃ v, v = w.alloc (.cells #[.pointer (some ⟨b, 0, none⟩)] 80) := ⟨_, rfl⟩
  rw [← hW]
  have PB : Box W w.heap.size [.pointer (some ⟨b, 0, none⟩)] := by rw [hW]; exact Box.new w [.pointer (some ⟨b, 0, none⟩)] 80 (by simp)
  have R : Rd W b l E := by rw [hW]; exact h.alloc _
  have K : But b w W := by rw [hW]; exact (But.refl b w).alloc _
  obtain ⟨bp, hbp⟩ : ∃ v, v = w.heap.size := ⟨_, rfl⟩
  rw [← hbp] at PB ⊢
  have n1 : bp ≠ b := by omega
  have N1 := Lib.hid n1
  have NB : Hid (b < bp + 1 ∧ w.heap.size ≤ bp + 1 ∧ bp = w.heap.size) := Lib.hid (by omega)
  replace PB := Lib.hid PB
  replace R := Lib.hid R
  replace K := Lib.hid K
  clear hW hbp n1 h hlt
  have p0 := PB.out.at 0 _ rfl
  go_wp2_with fail
  refine (num_any b _ _ 18446744073709551615 _ R.out _ _ _ Q0.out).mono ?_
  rintro e w1 ⟨rfl, R1, k1⟩
  replace PB := Lib.hid (PB.out.but k1 N1.out)
  replace K := Lib.hid (K.out.trans k1)
  replace R := Lib.hid R1
  clear k1 R1 p0
  have O0 : Hid (Row.Own cE 56 w1 (bp + 1) (.slice none 0 0) ([] : List C)) := Lib.hid (Row.Own.nil _ _)
  go_wp2_with fail
  go_loopw [5, 6] (fun lv nv wr => ∃ (n : Nat) (v : Value) (ys : List C) (l1 : List UInt8) (E1 : Int), lv = v ∧ nv = .int .u64 (n : Nat) ∧ n ≤ 18446744073709551615 ∧ Hid (Row.Own cE 56 wr (bp + 1) v ys) ∧ Hid (Rd wr b l1 E1) ∧ Hid (But b w wr) ∧ Hid (Box wr bp [.pointer (some ⟨b, 0, none⟩)]) ∧ Hid (bindR (loopS countS n l1 E1) (fun zs l2 E2 => (ys ++ zs, l2, E2)) = (xs, l', E')) ∧ Hid (E1 = 0 → ys.length + l1.length ≤ l.length)) (fun _ nv _ => (intOf nv).toNat)
  case atStart => exact ⟨n, _, [], l1, E1, rfl, rfl, hn0, O0, R, K, PB, HN0, HL0⟩
  case round =>
    clear O0 R K PB HN0 HL0 Q0 hn0
    obtain ⟨n, v, ys, l1, E1, rfl, rfl, hn0, O, R, K, PB, HN, HL⟩ := hrel
    have p0 := PB.out.at 0 _ rfl
    by_cases hz0 : n = 0
    · have d1 : decide ((0 : Int) < (n : Int)) = false := decide_eq_false (by omega)
      have d2 : decide (0 < n) = false := decide_eq_false (by omega)
      have HE : Hid ((ys, l1, E1) = (xs, l', E')) := Lib.hid (by rw [← HN.out, hz0]; show _ = (ys ++ [], l1, E1); rw [List.append_nil])
      clear hz0 HN
      go_wp2
      go_ret
      have he := HE.out
      simp only [Prod.mk.injEq] at he
      obtain ⟨rfl, rfl, rfl⟩ := he
      exact ⟨_, rfl, O.out.base (by have := NB.out; omega), R.out, K.out⟩
    obtain ⟨m, hm⟩ : ∃ m, n = m + 1 := ⟨n - 1, by omega⟩
    have d1 : decide ((0 : Int) < (n : Int)) = true := decide_eq_true (by omega)
    have d2 : decide (0 < n) = true := decide_eq_true (by omega)
    have w1 : IntKind.u64.wrap ((n : Int) - 1) = (m : Int) := by rw [IntKind.wrap_u64]; omega
    have HM := Lib.hid hm
    clear hm hz0
    go_wp2_with fail
    refine (err_any b _ _ _ R.out).mono ?_
    rintro e w2 ⟨rfl, rfl⟩
    by_cases hE : E1 = 0
    rotate_left
    · have d3 : (E1 == 0) = false := by rw [beq_eq_false_iff_ne]; exact hE
      have HE : Hid ((ys, l1, E1) = (xs, l', E')) := Lib.hid (by rw [← HN.out, loopS_err _ _ _ hE]; show _ = (ys ++ [], l1, E1); rw [List.append_nil])
      clear hE HN
      go_wp2
      go_ret
      have he := HE.out
      simp only [Prod.mk.injEq] at he
      obtain ⟨rfl, rfl, rfl⟩ := he
      exact ⟨_, rfl, O.out.base (by have := NB.out; omega), R.out, K.out⟩
    subst hE
    obtain ⟨x, l2, E2, qx⟩ : ∃ x y z, countS l1 0 = (x, y, z) := ⟨_, _, _, rfl⟩
    have HLY : Hid (ys.length ≤ 1048576) := Lib.hid (by have := HL.out rfl; omega)
    have HL2 : Hid (E2 = 0 → (ys ++ [x]).length + l2.length ≤ l.length) := Lib.hid (fun e => by
      have h1 := count_eats.less l1 (by rw [qx]; exact e)
      have h2 := HL.out rfl
      rw [qx] at h1
      simp only [List.length_append, List.length_singleton]
      simp only at h1
      omega)
    have HN2 : Hid (bindR (loopS countS m l2 E2) (fun zs l2 E2 => (ys ++ [x] ++ zs, l2, E2)) = (xs, l', E')) := Lib.hid (by
      rw [← HN.out, HM.out]
      show _ = bindR (if (0 : Int) ≠ 0 then _ else bindR (countS l1 0) fun x l1 E1 => bindR (loopS countS m l1 E1) fun xs l2 E2 => (x :: xs, l2, E2)) _
      rw [if_neg (by simp), qx]
      simp only [bindR, List.append_assoc, List.singleton_append])
    have QX := Lib.hid qx
    clear qx HN HL
    go_wp2_with fail
    refine (count_any b _ _ _ R.out _ _ _ QX.out).mono ?_
    rintro e w3 ⟨rfl, R1, k1⟩
    replace O := Lib.hid (own_but O.out k1 NB.out.1)
    replace PB := Lib.hid (PB.out.but k1 N1.out)
    replace K := Lib.hid (K.out.trans k1)
    replace R := Lib.hid R1
    clear k1 R1 p0
    have HB3 : Hid (bp + 1 ≤ w3.heap.size) := Lib.hid PB.out.1
    go_wp2_with (at_builtin; refine Row.wpList_app typC rfl _ _ rfl (bp + 1) _ ys rfl (O.out.alloc _) _ 1 1 [x] rfl (Row.lies_new (E := cE) _ x _) (by have := HLY.out; omega) (by have := HB3.out; rw [World.size_alloc]; omega) ?_; intro v9 w9 o9 g9 k9)
    replace k9 := ((Below.refl (bp + 1) w3).alloc HB3.out _).trans k9
    replace R := Lib.hid (R.out.below k9 NB.out.1)
    replace PB := Lib.hid (PB.out.low k9 (by omega))
    replace K := Lib.hid (but_then K.out k9 NB.out.2.1)
    replace O := Lib.hid o9
    clear k9 g9 o9
    go_roundw
    case rel => exact ⟨m, v9, ys ++ [x], l2, E2, rfl, by go_num, by have := HM.out; omega, O, R, K, PB, HN2, HL2⟩
    case measure => simp [intOf]; have := HM.out; omega
end Taker
end Go.Proofs.YtnpjkmomllkhpaaGreat
