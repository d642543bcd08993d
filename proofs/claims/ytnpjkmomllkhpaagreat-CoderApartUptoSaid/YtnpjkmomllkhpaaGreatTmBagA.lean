/- Merged texts: BagPlain, BagRow, BagMap, BagOf. -/
import Derived.Test.YtnpjkmomllkhpaaGreatTmDotA
import Derived.Test.YtnpjkmomllkhpaaGreatTmBase
import Derived.Test.YtnpjkmomllkhpaaGreatTmMarkA
import Derived.Test.YtnpjkmomllkhpaaGreatTmMaps
import Derived.DeepKeys4
import Derived.Test.YtnpjkmomllkhpaaGreatTmDotOf
import Derived.Test.YtnpjkmomllkhpaaGreatTmMarkB
import Derived.Test.YtnpjkmomllkhpaaGreatTmOrder
namespace Go.Proofs.YtnpjkmomllkhpaaGreat
namespace Bag
open Go.RowKit Go.Proofs.YtnpjkmomllkhpaaGreat.Mark Go.Proofs.YtnpjkmomllkhpaaGreat.Dots
/-- A text and its dots. -/
structure It where
  t : List UInt8
  d : List M
/-- A dot, and the text to which it belongs. -/
structure Pl where
  t : List UInt8
  m : M
theorem Pl.ext' {a b : Pl} (h : a.t = b.t) (k : a.m = b.m) : a = b := by cases a; cases b; simp_all
instance : DecidableEq M := fun a b => if h : a.p = b.p ∧ a.n = b.n then .isTrue (M.ext' h.1 h.2) else .isFalse fun e => h (by rw [e]; exact ⟨rfl, rfl⟩)
instance : DecidableEq Pl := fun a b => if h : a.t = b.t ∧ a.m = b.m then .isTrue (Pl.ext' h.1 h.2) else .isFalse fun e => h (by rw [e]; exact ⟨rfl, rfl⟩)
-- orders
def TL (a b : List UInt8) : Prop := Lib.compareBytes a b = -1
def DL (a b : M) : Prop := cmpD a b = -1
instance (a b : List UInt8) : Decidable (TL a b) := inferInstanceAs (Decidable (_ = _))
instance (a b : M) : Decidable (DL a b) := inferInstanceAs (Decidable (_ = _))
structure Lin {α : Type} (r : α → α → Prop) : Prop where
  irr : ∀ a, ¬ r a a
  trans : ∀ {a b c}, r a b → r b c → r a c
  ways : ∀ a b, r a b ∨ a = b ∨ r b a
theorem cmpB_lt (a b : List UInt8) : Lib.compareBytes a b = -1 ↔ Lib.compareBytes a b < 0 := by
  rcases Order.cmp_ways a b with h | h | h <;> rw [h] <;> decide
theorem linT : Lin TL where
  irr a := by unfold TL; rw [Order.cmp_self]; decide
  trans {a b c} h k := by
    unfold TL at *
    have h1 := Order.cmp_trans a b c (by omega) (by omega)
    rcases Order.cmp_ways a c with e | e | e
    · exact e
    · exfalso
      have := Order.cmp_zero _ _ e
      subst this
      rw [Order.cmp_flip] at k
      omega
    · omega
  ways a b := by
    unfold TL
    rcases Order.cmp_ways a b with e | e | e
    · exact .inl e
    · exact .inr (.inl (Order.cmp_zero _ _ e))
    · exact .inr (.inr (by rw [Order.cmp_flip, e]))
theorem cmpI_flip (x y : Nat) : cmpI x y = -cmpI y x := by unfold cmpI; split <;> split <;> (try split) <;> omega
theorem cmpI_iff (x y : Nat) : (cmpI x y = -1 ↔ x < y) ∧ (cmpI x y = 0 ↔ x = y) ∧ (cmpI x y = 1 ↔ y < x) := by unfold cmpI; split <;> (try split) <;> omega
theorem cmpI_ways (x y : Nat) : cmpI x y = -1 ∨ cmpI x y = 0 ∨ cmpI x y = 1 := by unfold cmpI; split <;> (try split) <;> simp
theorem dl_iff (a b : M) : DL a b ↔ TL a.p b.p ∨ (a.p = b.p ∧ a.n < b.n) := by
  unfold DL TL cmpD
  rcases Order.cmp_ways a.p b.p with h | h | h
  · rw [if_pos (by omega), h]; simp
  · rw [if_neg (by omega), h, (cmpI_iff _ _).1]
    have := Order.cmp_zero _ _ h
    simp [this]
  · rw [if_pos (by omega), h]
    have : a.p ≠ b.p := fun e => by rw [e, Order.cmp_self] at h; omega
    simp [this]
theorem linD : Lin DL where
  irr a := by rw [dl_iff]; rintro (h | h); exact linT.irr _ h; omega
  trans {a b c} h k := by
    rw [dl_iff] at *
    rcases h with h | ⟨h, h'⟩ <;> rcases k with k | ⟨k, k'⟩
    · exact .inl (linT.trans h k)
    · exact .inl (k ▸ h)
    · exact .inl (h ▸ k)
    · exact .inr ⟨h.trans k, by omega⟩
  ways a b := by
    rw [dl_iff, dl_iff]
    rcases linT.ways a.p b.p with h | h | h
    · exact .inl (.inl h)
    · rcases Nat.lt_trichotomy a.n b.n with k | k | k
      · exact .inl (.inr ⟨h, k⟩)
      · exact .inr (.inl (M.ext' h k))
      · exact .inr (.inr (.inr ⟨h.symm, k⟩))
    · exact .inr (.inr (.inl h))
theorem cmpD_ways (a b : M) : cmpD a b = -1 ∨ (cmpD a b = 0 ∧ a = b) ∨ (cmpD a b = 1 ∧ a ≠ b ∧ DL b a) := by
  by_cases e : a = b
  · refine .inr (.inl ⟨?_, e⟩)
    subst e
    unfold cmpD
    rw [Order.cmp_self, if_neg (by omega), (cmpI_iff _ _).2.1]
  · by_cases h : cmpD a b = -1
    · exact .inl h
    · refine .inr (.inr ⟨?_, e, ?_⟩)
      · unfold cmpD at h ⊢
        rcases Order.cmp_ways a.p b.p with k | k | k
        · rw [if_pos (by omega)] at h; omega
        · rw [if_neg (by omega)] at h ⊢
          rcases cmpI_ways a.n b.n with j | j | j
          · omega
          · exact absurd (M.ext' (Order.cmp_zero _ _ k) ((cmpI_iff _ _).2.1.1 j)) e
          · exact j
        · rw [if_pos (by omega)]; exact k
      · rcases linD.ways a b with k | k | k
        · exact absurd k h
        · exact absurd k e
        · exact k
/-- Two rising lists of the same members are the same. -/
theorem Lin.ext {α : Type} {r : α → α → Prop} (hr : Lin r) : ∀ {R S : List α}, R.Pairwise r → S.Pairwise r → (∀ m, m ∈ R ↔ m ∈ S) → R = S
  | [], [], _, _, _ => rfl
  | [], b :: S, _, _, h => by have := (h b).2 (List.mem_cons_self ..); cases this
  | a :: R, [], _, _, h => by have := (h a).1 (List.mem_cons_self ..); cases this
  | a :: R, b :: S, hR, hS, h => by
    rw [List.pairwise_cons] at hR hS
    have hab : a = b := by
      rcases List.mem_cons.1 ((h a).1 (List.mem_cons_self ..)) with e | e
      · exact e
      · rcases List.mem_cons.1 ((h b).2 (List.mem_cons_self ..)) with e' | e'
        · exact e'.symm
        · exact absurd (hr.trans (hS.1 a e) (hR.1 b e')) (hr.irr b)
    subst hab
    rw [hr.ext hR.2 hS.2 (fun m => ?_)]
    constructor
    · intro hm
      rcases List.mem_cons.1 ((h m).1 (List.mem_cons_of_mem _ hm)) with e | e
      · subst e; exact absurd (hR.1 m hm) (hr.irr m)
      · exact e
    · intro hm
      rcases List.mem_cons.1 ((h m).2 (List.mem_cons_of_mem _ hm)) with e | e
      · subst e; exact absurd (hS.1 m hm) (hr.irr m)
      · exact e
/-- Rising texts, each with dots, rising. -/
def Canon (R : List It) : Prop := R.Pairwise (fun x y => TL x.t y.t) ∧ ∀ x ∈ R, x.d ≠ [] ∧ x.d.Pairwise DL
def Has (R : List It) (t : List UInt8) (m : M) : Prop := ∃ x ∈ R, x.t = t ∧ m ∈ x.d
def IsBag (R : List It) (S : List UInt8 → M → Prop) : Prop := Canon R ∧ ∀ t m, Has R t m ↔ S t m
theorem Canon.tail {x : It} {R : List It} (h : Canon (x :: R)) : Canon R := ⟨(List.pairwise_cons.1 h.1).2, fun y hy => h.2 y (List.mem_cons_of_mem _ hy)⟩
theorem Canon.one {R : List It} (h : Canon R) {x y : It} (hx : x ∈ R) (hy : y ∈ R) (e : x.t = y.t) : x = y := by
  obtain ⟨i, hi, rfl⟩ := List.getElem_of_mem hx
  obtain ⟨j, hj, rfl⟩ := List.getElem_of_mem hy
  have hs := List.pairwise_iff_getElem.1 h.1
  rcases Nat.lt_trichotomy i j with h' | h' | h'
  · have := hs i j hi hj h'
    rw [e] at this; exact absurd this (linT.irr _)
  · subst h'; rfl
  · have := hs j i hj hi h'
    rw [e] at this; exact absurd this (linT.irr _)
theorem Canon.dots {R : List It} (h : Canon R) {x : It} (hx : x ∈ R) (m : M) : Has R x.t m ↔ m ∈ x.d := by
  constructor
  · rintro ⟨y, hy, e, hm⟩
    rw [h.one hx hy e.symm]; exact hm
  · exact fun hm => ⟨x, hx, rfl, hm⟩
theorem canon_sub {R Q : List It} (hR : Canon R) (hQ : Canon Q) (h : ∀ t m, Has R t m ↔ Has Q t m) : ∀ x ∈ R, x ∈ Q := fun x hx => by
  obtain ⟨h1, h2⟩ := hR.2 x hx
  obtain ⟨m, hm⟩ := List.exists_mem_of_ne_nil _ h1
  obtain ⟨y, hy, e, _⟩ := (h x.t m).1 ⟨x, hx, rfl, hm⟩
  have : x.d = y.d := linD.ext h2 (hQ.2 y hy).2 fun k => by rw [← hR.dots hx, h, ← e, hQ.dots hy]
  have exy : x = y := by cases x; cases y; simp_all
  rw [exy]; exact hy
theorem canon_ext {R Q : List It} (hR : Canon R) (hQ : Canon Q) (h : ∀ t m, Has R t m ↔ Has Q t m) : R = Q := by
  have hl : Lin (fun x y : It => TL x.t y.t) → R = Q := fun hl => hl.ext hR.1 hQ.1 fun x => ⟨canon_sub hR hQ h x, canon_sub hQ hR (fun t m => (h t m).symm) x⟩
  -- the order of items is not one of all items: list induction over texts
  clear hl
  have key : ∀ (R Q : List It), R.Pairwise (fun x y => TL x.t y.t) → Q.Pairwise (fun x y => TL x.t y.t) → (∀ x, x ∈ R ↔ x ∈ Q) → R = Q := by
    intro R
    induction R with
    | nil =>
      intro Q _ _ h
      cases Q with
      | nil => rfl
      | cons b S => have := (h b).2 (List.mem_cons_self ..); cases this
    | cons a R ih =>
      intro Q hR hQ h
      cases Q with
      | nil => have := (h a).1 (List.mem_cons_self ..); cases this
      | cons b S =>
        rw [List.pairwise_cons] at hR hQ
        have hab : a = b := by
          rcases List.mem_cons.1 ((h a).1 (List.mem_cons_self ..)) with e | e
          · exact e
          · rcases List.mem_cons.1 ((h b).2 (List.mem_cons_self ..)) with e' | e'
            · exact e'.symm
            · exact absurd (linT.trans (hQ.1 a e) (hR.1 b e')) (linT.irr _)
        subst hab
        rw [ih S hR.2 hQ.2 (fun m => ?_)]
        constructor
        · intro hm
          rcases List.mem_cons.1 ((h m).1 (List.mem_cons_of_mem _ hm)) with e | e
          · subst e; exact absurd (hR.1 m hm) (linT.irr _)
          · exact e
        · intro hm
          rcases List.mem_cons.1 ((h m).2 (List.mem_cons_of_mem _ hm)) with e | e
          · subst e; exact absurd (hQ.1 m hm) (linT.irr _)
          · exact e
  exact key R Q hR.1 hQ.1 fun x => ⟨canon_sub hR hQ h x, canon_sub hQ hR (fun t m => (h t m).symm) x⟩
theorem IsBag.uniq {R Q : List It} {S : List UInt8 → M → Prop} (h : IsBag R S) (k : IsBag Q S) : R = Q := canon_ext h.1 k.1 fun t m => (h.2 t m).trans (k.2 t m).symm
theorem IsBag.congr {R : List It} {S T : List UInt8 → M → Prop} (h : IsBag R S) (k : ∀ t m, S t m ↔ T t m) : IsBag R T := ⟨h.1, fun t m => (h.2 t m).trans (k t m)⟩
theorem IsBag.self {R : List It} (h : Canon R) : IsBag R (Has R) := ⟨h, fun _ _ => Iff.rfl⟩
theorem IsBag.nil : IsBag [] (fun _ _ => False) := ⟨⟨List.Pairwise.nil, fun _ h => by cases h⟩, fun _ _ => ⟨fun ⟨_, h, _⟩ => (List.not_mem_nil h).elim, False.elim⟩⟩
theorem has_append (R Q : List It) (t : List UInt8) (m : M) : Has (R ++ Q) t m ↔ Has R t m ∨ Has Q t m := by
  constructor
  · rintro ⟨x, hx, h⟩
    rcases List.mem_append.1 hx with hx | hx
    · exact .inl ⟨x, hx, h⟩
    · exact .inr ⟨x, hx, h⟩
  · rintro (⟨x, hx, h⟩ | ⟨x, hx, h⟩)
    · exact ⟨x, List.mem_append_left _ hx, h⟩
    · exact ⟨x, List.mem_append_right _ hx, h⟩
theorem has_one (y : It) (t : List UInt8) (m : M) : Has [y] t m ↔ t = y.t ∧ m ∈ y.d := by
  constructor
  · rintro ⟨x, hx, rfl, h⟩
    rw [List.mem_singleton.1 hx] at h ⊢
    exact ⟨rfl, h⟩
  · rintro ⟨rfl, h⟩
    exact ⟨y, List.mem_singleton_self _, rfl, h⟩
-- places
/-- The order of places. -/
def pcmp (a b : Pl) : Int := if Lib.compareBytes a.t b.t ≠ 0 then Lib.compareBytes a.t b.t else cmpD a.m b.m
def PL (a b : Pl) : Prop := TL a.t b.t ∨ (a.t = b.t ∧ DL a.m b.m)
theorem linP : Lin PL where
  irr a := by rintro (h | h); exact linT.irr _ h; exact linD.irr _ h.2
  trans {a b c} h k := by
    rcases h with h | ⟨h, h'⟩ <;> rcases k with k | ⟨k, k'⟩
    · exact .inl (linT.trans h k)
    · exact .inl (k ▸ h)
    · exact .inl (h ▸ k)
    · exact .inr ⟨h.trans k, linD.trans h' k'⟩
  ways a b := by
    rcases linT.ways a.t b.t with h | h | h
    · exact .inl (.inl h)
    · rcases linD.ways a.m b.m with k | k | k
      · exact .inl (.inr ⟨h, k⟩)
      · exact .inr (.inl (Pl.ext' h k))
      · exact .inr (.inr (.inr ⟨h.symm, k⟩))
    · exact .inr (.inr (.inl h))
theorem pcmp_neg (a b : Pl) : pcmp a b < 0 ↔ PL a b := by
  unfold pcmp PL TL DL
  rcases Order.cmp_ways a.t b.t with h | h | h
  · rw [if_pos (by omega), h]; simp
  · rw [if_neg (by omega), h]
    have := Order.cmp_zero _ _ h
    rcases cmpD_ways a.m b.m with k | ⟨k, _⟩ | ⟨k, _⟩ <;> rw [k] <;> simp [this]
  · rw [if_pos (by omega), h]
    have : a.t ≠ b.t := fun e => by rw [e, Order.cmp_self] at h; omega
    simp [this]
/-- A place behind lesser ones. -/
def gstep (R : List It) (p : Pl) : List It :=
  match R.getLast? with
  | none => [⟨p.t, [p.m]⟩]
  | some x => if x.t = p.t then R.dropLast ++ [⟨x.t, x.d ++ [p.m]⟩] else R ++ [⟨p.t, [p.m]⟩]
theorem gstep_nil (p : Pl) : gstep [] p = [⟨p.t, [p.m]⟩] := rfl
theorem gstep_same (R : List It) (x : It) (p : Pl) (h : x.t = p.t) : gstep (R ++ [x]) p = R ++ [⟨x.t, x.d ++ [p.m]⟩] := by
  unfold gstep
  rw [List.getLast?_concat]
  simp [h]
theorem gstep_new (R : List It) (x : It) (p : Pl) (h : x.t ≠ p.t) : gstep (R ++ [x]) p = R ++ [x] ++ [⟨p.t, [p.m]⟩] := by
  unfold gstep
  rw [List.getLast?_concat]
  simp [h]
def group (L : List Pl) : List It := L.foldl gstep []
theorem group_snoc (L : List Pl) (p : Pl) : group (L ++ [p]) = gstep (group L) p := by unfold group; rw [List.foldl_append]; rfl
theorem nil_or_snoc {α : Type} (R : List α) : R = [] ∨ ∃ Q x, R = Q ++ [x] := by
  rcases List.eq_nil_or_concat R with h | ⟨Q, x, h⟩
  · exact .inl h
  · exact .inr ⟨Q, x, by simpa using h⟩
theorem pairwise_snoc {α : Type} {r : α → α → Prop} {R : List α} {x : α} : (R ++ [x]).Pairwise r ↔ R.Pairwise r ∧ ∀ y ∈ R, r y x := by
  rw [List.pairwise_append]
  simp
theorem gstep_law {L : List Pl} {R : List It} {p : Pl} (h : IsBag R (fun t m => ⟨t, m⟩ ∈ L)) (hp : ∀ q ∈ L, PL q p) : IsBag (gstep R p) (fun t m => ⟨t, m⟩ ∈ L ++ [p]) := by
  obtain ⟨⟨h1, h2⟩, h3⟩ := h
  have h3 : ∀ t m, Has R t m ↔ (⟨t, m⟩ : Pl) ∈ L := h3
  have hmem : ∀ t m, (⟨t, m⟩ : Pl) ∈ L ++ [p] ↔ (⟨t, m⟩ : Pl) ∈ L ∨ (t = p.t ∧ m = p.m) := fun t m => by
    rw [List.mem_append, List.mem_singleton]
    constructor
    · rintro (h | h)
      · exact .inl h
      · exact .inr ⟨by rw [← h], by rw [← h]⟩
    · rintro (h | ⟨rfl, rfl⟩)
      · exact .inl h
      · exact .inr rfl
  have hle : ∀ x ∈ R, TL x.t p.t ∨ (x.t = p.t ∧ ∀ m ∈ x.d, DL m p.m) := fun x hx => by
    obtain ⟨k1, k2⟩ := h2 x hx
    obtain ⟨m, hm⟩ := List.exists_mem_of_ne_nil _ k1
    rcases hp _ ((h3 x.t m).1 ⟨x, hx, rfl, hm⟩) with k | ⟨k, _⟩
    · exact .inl k
    · refine .inr ⟨k, fun m' hm' => ?_⟩
      rcases hp _ ((h3 x.t m').1 ⟨x, hx, rfl, hm'⟩) with j | ⟨_, j⟩
      · exact absurd (by rw [show x.t = p.t from k] at j; exact j) (linT.irr _)
      · exact j
  rcases nil_or_snoc R with rfl | ⟨Q, x, rfl⟩
  · rw [gstep_nil]
    refine ⟨⟨by simp, fun y hy => ?_⟩, fun t m => ?_⟩
    · rw [List.mem_singleton.1 hy]; simp
    · show _ ↔ (⟨t, m⟩ : Pl) ∈ L ++ [p]
      rw [hmem, ← h3 t m, has_one]
      simp [Has]
  · have hx := hle x (by simp)
    by_cases e : x.t = p.t
    · rw [gstep_same _ _ _ e]
      have hd : ∀ m ∈ x.d, DL m p.m := by
        rcases hx with k | k
        · rw [e] at k; exact absurd k (linT.irr _)
        · exact k.2
      refine ⟨⟨?_, fun y hy => ?_⟩, fun t m => ?_⟩
      · rw [pairwise_snoc] at h1 ⊢
        exact ⟨h1.1, h1.2⟩
      · rcases List.mem_append.1 hy with hy | hy
        · exact h2 y (List.mem_append_left _ hy)
        · rw [List.mem_singleton.1 hy]
          refine ⟨by simp, ?_⟩
          show (x.d ++ [p.m]).Pairwise DL
          rw [pairwise_snoc]
          exact ⟨(h2 x (by simp)).2, hd⟩
      · show _ ↔ (⟨t, m⟩ : Pl) ∈ L ++ [p]
        rw [hmem, ← h3 t m, has_append, has_append, has_one, has_one]
        constructor
        · rintro (k | ⟨k1, k2⟩)
          · exact .inl (.inl k)
          · rcases List.mem_append.1 k2 with k2 | k2
            · exact .inl (.inr ⟨k1, k2⟩)
            · exact .inr ⟨k1.trans e, List.mem_singleton.1 k2⟩
        · rintro ((k | ⟨k1, k2⟩) | ⟨k1, k2⟩)
          · exact .inl k
          · exact .inr ⟨k1, List.mem_append_left _ k2⟩
          · exact .inr ⟨k1.trans e.symm, List.mem_append_right _ (by rw [k2]; simp)⟩
    · rw [gstep_new _ _ _ e]
      have hlt : TL x.t p.t := by
        rcases hx with k | k
        · exact k
        · exact absurd k.1 e
      refine ⟨⟨?_, fun y hy => ?_⟩, fun t m => ?_⟩
      · rw [pairwise_snoc]
        refine ⟨h1, fun y hy => ?_⟩
        show TL y.t p.t
        rcases List.mem_append.1 hy with hy | hy
        · exact linT.trans ((pairwise_snoc.1 h1).2 y hy) hlt
        · rw [List.mem_singleton.1 hy]; exact hlt
      · rcases List.mem_append.1 hy with hy | hy
        · exact h2 y hy
        · rw [List.mem_singleton.1 hy]; simp
      · show _ ↔ (⟨t, m⟩ : Pl) ∈ L ++ [p]
        rw [hmem, ← h3 t m, has_append _ [_], has_one]
        simp
theorem group_law : ∀ (k : Nat) (L : List Pl), L.length = k → L.Pairwise PL → IsBag (group L) (fun t m => ⟨t, m⟩ ∈ L)
  | 0, L, hk, _ => by
    obtain rfl := List.length_eq_zero_iff.1 hk
    exact ⟨IsBag.nil.1, fun t m => by simp [group, Has]⟩
  | k + 1, L, hk, h => by
    rcases nil_or_snoc L with rfl | ⟨Q, p, rfl⟩
    · cases hk
    · rw [pairwise_snoc] at h
      rw [group_snoc]
      exact gstep_law (group_law k Q (by simpa using hk) h.1) h.2
-- the document's answer
/-- A dot, put among dots where it is not. -/
def insD (m : M) : List M → List M
  | [] => [m]
  | x :: l => if cmpD m x < 0 then m :: x :: l else x :: insD m l
def putD (l : List M) (m : M) : List M := if m ∈ l then l else insD m l
theorem mem_insD (m : M) : ∀ (l : List M) (x : M), x ∈ insD m l ↔ x = m ∨ x ∈ l
  | [], x => by simp [insD]
  | y :: l, x => by
    unfold insD
    split
    · simp
    · rw [List.mem_cons, mem_insD m l, List.mem_cons]
      constructor
      · rintro (h | h | h)
        · exact .inr (.inl h)
        · exact .inl h
        · exact .inr (.inr h)
      · rintro (h | h | h)
        · exact .inr (.inl h)
        · exact .inl h
        · exact .inr (.inr h)
theorem mem_putD (l : List M) (m x : M) : x ∈ putD l m ↔ x = m ∨ x ∈ l := by
  unfold putD
  split
  · rename_i h
    constructor
    · exact .inr
    · rintro (rfl | k)
      · exact h
      · exact k
  · exact mem_insD m l x
theorem rise_insD (m : M) : ∀ (l : List M), l.Pairwise DL → m ∉ l → (insD m l).Pairwise DL
  | [], _, _ => by simp [insD]
  | y :: l, h, hm => by
    rw [List.pairwise_cons] at h
    unfold insD
    split
    · rename_i hc
      have hmy : DL m y := by
        rcases cmpD_ways m y with k | ⟨k, _⟩ | ⟨k, _⟩
        · exact k
        · omega
        · omega
      refine List.pairwise_cons.2 ⟨fun z hz => ?_, List.pairwise_cons.2 h⟩
      rcases List.mem_cons.1 hz with rfl | hz
      · exact hmy
      · exact linD.trans hmy (h.1 z hz)
    · rename_i hc
      have hym : DL y m := by
        rcases cmpD_ways m y with k | ⟨_, k⟩ | ⟨_, _, k⟩
        · omega
        · exact absurd (by rw [k]; simp) hm
        · exact k
      refine List.pairwise_cons.2 ⟨fun z hz => ?_, rise_insD m l h.2 (fun k => hm (List.mem_cons_of_mem _ k))⟩
      rcases (mem_insD m l z).1 hz with rfl | hz
      · exact hym
      · exact h.1 z hz
theorem rise_putD {l : List M} (h : l.Pairwise DL) (m : M) : (putD l m).Pairwise DL := by
  unfold putD
  split
  · exact h
  · exact rise_insD m l h (by assumption)
theorem insD_len (m : M) : ∀ l : List M, (insD m l).length = l.length + 1
  | [] => rfl
  | y :: l => by unfold insD; split <;> simp [insD_len m l]
theorem putD_len (l : List M) (m : M) : (putD l m).length ≤ l.length + 1 := by
  unfold putD
  split
  · omega
  · rw [insD_len]; exact Nat.le_refl _
theorem putD_ne (l : List M) (m : M) : putD l m ≠ [] := fun h => by
  have := (mem_putD l m m).2 (.inl rfl)
  rw [h] at this; cases this
/-- A text's dot, put among texts. -/
def insI (t : List UInt8) (m : M) : Bool → List It → List It
  | done, [] => if done then [] else [⟨t, [m]⟩]
  | done, x :: l => if x.t = t then ⟨x.t, putD x.d m⟩ :: insI t m true l else if !done && decide (TL t x.t) then ⟨t, [m]⟩ :: x :: insI t m true l else x :: insI t m done l
theorem insI_past (t : List UInt8) (m : M) : ∀ l : List It, (∀ x ∈ l, TL t x.t) → insI t m true l = l
  | [], _ => rfl
  | x :: l, h => by
    have hne : ¬ x.t = t := fun e => linT.irr t (by have := h x (by simp); rwa [e] at this)
    unfold insI
    rw [if_neg hne]
    simp only [Bool.not_true, Bool.false_and, Bool.false_eq_true, if_false]
    rw [insI_past t m l (fun y hy => h y (List.mem_cons_of_mem _ hy))]
theorem insI_law (t : List UInt8) (m : M) : ∀ l : List It, Canon l → Canon (insI t m false l) ∧ (∀ t' m', Has (insI t m false l) t' m' ↔ (t' = t ∧ m' = m) ∨ Has l t' m') ∧ ∀ x ∈ insI t m false l, x.t = t ∨ ∃ y ∈ l, y.t = x.t
  | [], _ => by
    unfold insI
    simp only [Bool.false_eq_true, if_false]
    refine ⟨⟨by simp, fun x hx => ?_⟩, fun t' m' => ?_, fun x hx => ?_⟩
    · rw [List.mem_singleton.1 hx]; simp
    · rw [has_one]; simp [Has]
    · rw [List.mem_singleton.1 hx]; exact .inl rfl
  | x :: l, h => by
    have h1 := List.pairwise_cons.1 h.1
    obtain ⟨hx1, hx2⟩ := h.2 x (by simp)
    have hc : ∀ (y : It) (r : List It) (t' : List UInt8) (m' : M), Has (y :: r) t' m' ↔ (t' = y.t ∧ m' ∈ y.d) ∨ Has r t' m' := fun y r t' m' => by
      rw [show y :: r = [y] ++ r from rfl, has_append, has_one]
    unfold insI
    by_cases e : x.t = t
    · rw [if_pos e, insI_past t m l (fun y hy => by rw [← e]; exact h1.1 y hy)]
      refine ⟨⟨List.pairwise_cons.2 ⟨h1.1, h1.2⟩, fun y hy => ?_⟩, fun t' m' => ?_, fun y hy => ?_⟩
      · rcases List.mem_cons.1 hy with rfl | hy
        · exact ⟨putD_ne _ _, rise_putD hx2 m⟩
        · exact h.2 y (List.mem_cons_of_mem _ hy)
      · rw [hc, hc]
        simp only [mem_putD, e]
        constructor
        · rintro (⟨rfl, rfl | k⟩ | k)
          · exact .inl ⟨rfl, rfl⟩
          · exact .inr (.inl ⟨rfl, k⟩)
          · exact .inr (.inr k)
        · rintro (⟨rfl, rfl⟩ | ⟨rfl, k⟩ | k)
          · exact .inl ⟨rfl, .inl rfl⟩
          · exact .inl ⟨rfl, .inr k⟩
          · exact .inr k
      · rcases List.mem_cons.1 hy with rfl | hy
        · exact .inl e
        · exact .inr ⟨y, List.mem_cons_of_mem _ hy, rfl⟩
    · rw [if_neg e]
      by_cases k : TL t x.t
      · rw [if_pos (by simp [k]), insI_past t m l (fun y hy => linT.trans k (h1.1 y hy))]
        refine ⟨⟨List.pairwise_cons.2 ⟨fun y hy => ?_, h.1⟩, fun y hy => ?_⟩, fun t' m' => ?_, fun y hy => ?_⟩
        · show TL t y.t
          rcases List.mem_cons.1 hy with rfl | hy
          · exact k
          · exact linT.trans k (h1.1 y hy)
        · rcases List.mem_cons.1 hy with rfl | hy
          · simp
          · exact h.2 y hy
        · rw [hc]; simp
        · rcases List.mem_cons.1 hy with rfl | hy
          · exact .inl rfl
          · exact .inr ⟨y, hy, rfl⟩
      · rw [if_neg (by simp [k])]
        obtain ⟨i1, i2, i3⟩ := insI_law t m l h.tail
        have hxt : TL x.t t := by
          rcases linT.ways t x.t with j | j | j
          · exact absurd j k
          · exact absurd j.symm e
          · exact j
        refine ⟨⟨List.pairwise_cons.2 ⟨fun y hy => ?_, i1.1⟩, fun y hy => ?_⟩, fun t' m' => ?_, fun y hy => ?_⟩
        · rcases i3 y hy with j | ⟨z, hz, j⟩
          · rw [j]; exact hxt
          · rw [← j]; exact h1.1 z hz
        · rcases List.mem_cons.1 hy with rfl | hy
          · exact h.2 y (by simp)
          · exact i1.2 y hy
        · rw [hc, hc, i2]
          constructor
          · rintro (j | j | j)
            · exact .inr (.inl j)
            · exact .inl j
            · exact .inr (.inr j)
          · rintro (j | j | j)
            · exact .inr (.inl j)
            · exact .inl j
            · exact .inr (.inr j)
        · rcases List.mem_cons.1 hy with rfl | hy
          · exact .inr ⟨y, by simp, rfl⟩
          · rcases i3 y hy with j | ⟨z, hz, j⟩
            · exact .inl j
            · exact .inr ⟨z, List.mem_cons_of_mem _ hz, j⟩
/-- Insert. -/
theorem ins_bag {l : List It} {S : List UInt8 → M → Prop} (h : IsBag l S) (t : List UInt8) (m : M) : IsBag (insI t m false l) (fun t' m' => (t' = t ∧ m' = m) ∨ S t' m') := by
  obtain ⟨h1, h2, _⟩ := insI_law t m l h.1
  exact ⟨h1, fun t' m' => by rw [h2, h.2]⟩
theorem insI_len (t : List UInt8) (m : M) : ∀ (b : Bool) (l : List It), (insI t m b l).length ≤ l.length + (if b then 0 else 1)
  | true, [] => by simp [insI]
  | false, [] => by simp [insI]
  | b, x :: l => by
    unfold insI
    have i1 := insI_len t m true l
    have i2 := insI_len t m b l
    simp only [if_true, Nat.add_zero] at i1
    split
    · simp only [List.length_cons]; omega
    · split
      · rename_i h
        have : b = false := by cases b <;> simp_all
        subst this
        simp only [List.length_cons, Bool.false_eq_true, if_false]; omega
      · simp only [List.length_cons]; omega
/-- Of: a text's dots. -/
def ofT (l : List It) (t : List UInt8) : List M := ((l.filter (fun x : It => decide (x.t = t))).flatMap It.d).foldl putD []
theorem foldl_putD : ∀ (ms l : List M), l.Pairwise DL → (ms.foldl putD l).Pairwise DL ∧ ∀ x, x ∈ ms.foldl putD l ↔ x ∈ ms ∨ x ∈ l
  | [], l, h => ⟨h, fun x => by simp⟩
  | m :: ms, l, h => by
    obtain ⟨h1, h2⟩ := foldl_putD ms (putD l m) (rise_putD h m)
    refine ⟨h1, fun x => ?_⟩
    rw [List.foldl_cons, h2, mem_putD, List.mem_cons]
    constructor
    · rintro (k | k | k)
      · exact .inl (.inr k)
      · exact .inl (.inl k)
      · exact .inr k
    · rintro ((k | k) | k)
      · exact .inr (.inl k)
      · exact .inl k
      · exact .inr (.inr k)
theorem ofT_law (l : List It) (t : List UInt8) : (ofT l t).Pairwise DL ∧ ∀ x, x ∈ ofT l t ↔ Has l t x := by
  obtain ⟨h1, h2⟩ := foldl_putD ((l.filter (fun x : It => decide (x.t = t))).flatMap It.d) [] List.Pairwise.nil
  refine ⟨h1, fun x => ?_⟩
  unfold ofT
  rw [h2, List.mem_flatMap]
  constructor
  · rintro (⟨y, hy, hx⟩ | h)
    · obtain ⟨k1, k2⟩ := List.mem_filter.1 hy
      exact ⟨y, k1, by simpa using k2, hx⟩
    · cases h
  · rintro ⟨y, hy, e, hx⟩
    exact .inl ⟨y, List.mem_filter.2 ⟨hy, by simpa using e⟩, hx⟩
end Bag
end Go.Proofs.YtnpjkmomllkhpaaGreat

namespace Go.Proofs.YtnpjkmomllkhpaaGreat
namespace Bag
open Go.RowKit Go.Proofs.YtnpjkmomllkhpaaGreat.Mark Go.Proofs.YtnpjkmomllkhpaaGreat.Dots
/-- Dots, one behind the other. -/
def dE : Row.Enc M := ⟨2, by decide, M.cells, fun _ => rfl, fun x v hv => by
  simp only [M.cells, List.mem_cons, List.not_mem_nil, or_false] at hv
  rcases hv with rfl | rfl <;> rfl⟩
def Pl.cells (x : Pl) : List Value := [.string ⟨x.t.toArray⟩, .string ⟨x.m.p.toArray⟩, .int .u64 (x.m.n : Int)]
/-- Places, one behind the other. -/
def pE : Row.Enc Pl := ⟨3, by decide, Pl.cells, fun _ => rfl, fun x v hv => by
  simp only [Pl.cells, List.mem_cons, List.not_mem_nil, or_false] at hv
  rcases hv with rfl | rfl | rfl <;> rfl⟩
/-- An item: its dots lie somewhere. -/
structure RI where
  t : List UInt8
  a : Option Addr
  c : Nat
  d : List M
def RI.it (x : RI) : It := ⟨x.t, x.d⟩
def RI.cells (x : RI) : List Value := [.string ⟨x.t.toArray⟩, .slice x.a x.d.length x.c]
def iE : Row.Enc RI := ⟨2, by decide, RI.cells, fun _ => rfl, fun x v hv => by
  simp only [RI.cells, List.mem_cons, List.not_mem_nil, or_false] at hv
  rcases hv with rfl | rfl <;> rfl⟩
theorem typD : Row.Typ Tryz.prog dE 72 96 (.agg #[.string ⟨#[]⟩, .int .u64 0]) 24 := ⟨Tryz.underlying72, Row.info_of (by kernel_rfl), rfl, by decide⟩
theorem typI : Row.Typ Tryz.prog iE 24 74 (.agg #[.string ⟨#[]⟩, .slice none 0 0]) 40 := ⟨Tryz.underlying24, Row.info_of (by kernel_rfl), rfl, by decide⟩
def Inner (w : World) (x : RI) : Prop := Row.Lies dE w x.a x.d.length x.d
/-- Items lie, each with its dots. -/
def Lies (w : World) (a : Option Addr) (n : Nat) (L : List It) : Prop := ∃ J : List RI, J.map RI.it = L ∧ Row.Lies iE w a n J ∧ ∀ x ∈ J, Inner w x
variable {w w' : World} {a : Option Addr} {n : Nat} {L : List It}
theorem Inner.below {x : RI} (h : Inner w x) (k : Below w.heap.size w w') : Inner w' x := Row.Lies.below h k
theorem Lies.below (h : Lies w a n L) (k : Below w.heap.size w w') : Lies w' a n L := by
  obtain ⟨J, h1, h2, h3⟩ := h
  exact ⟨J, h1, h2.below k, fun x hx => (h3 x hx).below k⟩
theorem Lies.nil (w : World) (a : Option Addr) : Lies w a 0 [] := ⟨[], rfl, Row.Lies.nil _ _, fun x hx => by cases hx⟩
theorem Lies.len (h : Lies w a n L) : n = L.length := by
  obtain ⟨J, rfl, h2, _⟩ := h
  rw [List.length_map]; exact h2.1
/-- The cells of items. -/
theorem items_at {J : List RI} (h : Row.Lies iE w a n J) (hn : 0 < n) : ∃ b off, a = some ⟨b, off, none⟩ ∧ ∀ j (hj : j < J.length), w.cell? ⟨b, off + j * 2, none⟩ = some (.string ⟨J[j].t.toArray⟩) ∧ w.cell? ⟨b, off + j * 2 + 1, none⟩ = some (.slice J[j].a J[j].d.length J[j].c) := by
  obtain ⟨b, off, e, hc⟩ := h.2 hn
  exact ⟨b, off, e, fun j hj => ⟨hc j hj 0 _ rfl, hc j hj 1 _ rfl⟩⟩
theorem dots_at {L : List M} (h : Row.Lies dE w a n L) (hn : 0 < n) : ∃ b off, a = some ⟨b, off, none⟩ ∧ ∀ j (hj : j < L.length), w.cell? ⟨b, off + j * 2, none⟩ = some (.string ⟨(L[j]).p.toArray⟩) ∧ w.cell? ⟨b, off + j * 2 + 1, none⟩ = some (.int .u64 ((L[j]).n : Int)) := by
  obtain ⟨b, off, e, hc⟩ := h.2 hn
  exact ⟨b, off, e, fun j hj => ⟨hc j hj 0 _ rfl, hc j hj 1 _ rfl⟩⟩
theorem places_at {L : List Pl} (h : Row.Lies pE w a n L) (hn : 0 < n) : ∃ b off, a = some ⟨b, off, none⟩ ∧ ∀ j (hj : j < L.length), w.cell? ⟨b, off + j * 3, none⟩ = some (.string ⟨L[j].t.toArray⟩) ∧ w.cell? ⟨b, off + j * 3 + 1, none⟩ = some (.string ⟨L[j].m.p.toArray⟩) ∧ w.cell? ⟨b, off + j * 3 + 2, none⟩ = some (.int .u64 (L[j].m.n : Int)) := by
  obtain ⟨b, off, e, hc⟩ := h.2 hn
  exact ⟨b, off, e, fun j hj => ⟨hc j hj 0 _ rfl, hc j hj 1 _ rfl, hc j hj 2 _ rfl⟩⟩
end Bag
end Go.Proofs.YtnpjkmomllkhpaaGreat

namespace Go.Proofs.YtnpjkmomllkhpaaGreat
namespace Bag
open Go.RowKit Go.Maps Go.Proofs.YtnpjkmomllkhpaaGreat.Mark Go.Proofs.YtnpjkmomllkhpaaGreat.Dots
def Pl.val (x : Pl) : Value := .agg #[.string ⟨x.t.toArray⟩, .string ⟨x.m.p.toArray⟩, .int .u64 (x.m.n : Int)]
def Pl.lits (x : Pl) : List Lit := [.string x.t, .string x.m.p, .int .u64 (x.m.n : Int)]
def Pl.fine (x : Pl) : Prop := x.t.length ≤ maxLen ∧ x.m.p.length ≤ maxLen ∧ x.m.n ≤ 18446744073709551615
def dLits (x : M) : List Lit := [.string x.p, .int .u64 (x.n : Int)]
def dFine (x : M) : Prop := x.p.length ≤ maxLen ∧ x.n ≤ 18446744073709551615
theorem laid : laidOutB Tryz.prog = true := by kernel_rfl
theorem size_str (l : List UInt8) : (⟨l.toArray⟩ : ByteArray).size = l.length := by show l.toArray.size = _; simp
theorem wf_u64 {n : Nat} (h : n ≤ 18446744073709551615) : (Lit.int .u64 (n : Int)).wf = true := by
  simp only [Lit.wf, Bool.and_eq_true, decide_eq_true_eq]
  exact ⟨by show (0 : Int) ≤ _; omega, by show (n : Int) ≤ 18446744073709551615; omega⟩
theorem wf_u64_inv {z : Int} (h : (Lit.int .u64 z).wf = true) : ∃ n : Nat, z = (n : Int) ∧ n ≤ 18446744073709551615 := by
  simp only [Lit.wf, Bool.and_eq_true, decide_eq_true_eq] at h
  obtain ⟨h1, h2⟩ := h
  have h1 : (0 : Int) ≤ z := h1
  have h2 : z ≤ 18446744073709551615 := h2
  exact ⟨z.toNat, by omega, by omega⟩
theorem mk_str (s : ByteArray) : ∃ l : List UInt8, s = ⟨l.toArray⟩ := ⟨s.data.toList, by simp⟩
section
variable {P : Program} {t ts tn td : TypeId}
theorem lits_str (hu : P.underlying t = some .string) (d : Nat) (l : List UInt8) (h : l.length ≤ maxLen) : P.keyLits (d + 1) t [.string ⟨l.toArray⟩] = some [.string l] := by
  unfold Program.keyLits
  rw [hu]
  simp only [size_str]
  rw [if_pos h]
theorem lits_str_inv (hu : P.underlying t = some .string) (d : Nat) {cs : List Value} {ls : List Lit} (h : P.keyLits (d + 1) t cs = some ls) : ∃ l : List UInt8, cs = [.string ⟨l.toArray⟩] ∧ l.length ≤ maxLen := by
  unfold Program.keyLits at h
  rw [hu] at h
  match cs, h with
  | [.string s], h =>
    simp only at h
    split at h
    · obtain ⟨l, rfl⟩ := mk_str s
      exact ⟨l, rfl, by rw [← size_str]; assumption⟩
    · cases h
theorem lits_u64 (hu : P.underlying t = some (.int .u64)) (d n : Nat) (h : n ≤ 18446744073709551615) : P.keyLits (d + 1) t [.int .u64 (n : Int)] = some [.int .u64 (n : Int)] := by
  unfold Program.keyLits
  rw [hu]
  simp only [wf_u64 h, and_self, if_true]
theorem lits_u64_inv (hu : P.underlying t = some (.int .u64)) (d : Nat) {cs : List Value} {ls : List Lit} (h : P.keyLits (d + 1) t cs = some ls) : ∃ n : Nat, cs = [.int .u64 (n : Int)] ∧ n ≤ 18446744073709551615 := by
  unfold Program.keyLits at h
  rw [hu] at h
  match cs, h with
  | [.int q z], h =>
    simp only at h
    split at h
    · rename_i c
      obtain ⟨n, hz, hn⟩ := wf_u64_inv c.2
      rw [c.1, hz]
      exact ⟨n, rfl, hn⟩
    · cases h
theorem lits_two {f g : Field} (hu : P.underlying t = some (.struct #[f, g])) (hc : P.cellsOf t = P.cellsOf f.type + P.cellsOf g.type) (hf : f.offset = 0) (hg : g.offset = P.cellsOf f.type) (hn : (f.name != "_") = true) (hm : (g.name != "_") = true)
    (d : Nat) {xs ys : List Value} {la lb : List Lit} (ha : xs.length = P.cellsOf f.type) (hb : ys.length = P.cellsOf g.type) (h1 : P.keyLits d f.type xs = some la) (h2 : P.keyLits d g.type ys = some lb) : P.keyLits (d + 1) t (xs ++ ys) = some (la ++ lb) := by
  unfold Program.keyLits
  rw [hu]
  have e1 : ((xs ++ ys).drop f.offset).take (P.cellsOf f.type) = xs := by rw [hf, ← ha]; simp
  have e2 : ((xs ++ ys).drop g.offset).take (P.cellsOf g.type) = ys := by rw [hg, ← ha, ← hb]; simp
  simp [hc, ha, hb, e1, e2, h1, h2, hn, hm]
theorem lits_two_inv {f g : Field} (hu : P.underlying t = some (.struct #[f, g])) (hc : P.cellsOf t = P.cellsOf f.type + P.cellsOf g.type) (hf : f.offset = 0) (hg : g.offset = P.cellsOf f.type)
    (d : Nat) {cs : List Value} {ls : List Lit} (h : P.keyLits (d + 1) t cs = some ls) : ∃ xs ys la lb, cs = xs ++ ys ∧ P.keyLits d f.type xs = some la ∧ P.keyLits d g.type ys = some lb := by
  unfold Program.keyLits at h
  rw [hu] at h
  simp only at h
  split at h
  · rename_i c
    have hl := c.1
    rw [hc] at hl
    simp only [List.mapM_cons, List.mapM_nil, hf, List.drop_zero] at h
    cases h1 : P.keyLits d f.type (cs.take (P.cellsOf f.type)) with
    | none => simp [h1] at h
    | some la =>
      cases h2 : P.keyLits d g.type ((cs.drop g.offset).take (P.cellsOf g.type)) with
      | none => simp [h1, h2] at h
      | some lb =>
        refine ⟨_, _, la, lb, ?_, h1, h2⟩
        rw [hg, show (cs.drop (P.cellsOf f.type)).take (P.cellsOf g.type) = cs.drop (P.cellsOf f.type) from List.take_of_length_le (by rw [List.length_drop, hl]; omega), List.take_append_drop]
  · cases h
end
theorem cells_str : Tryz.prog.cellsOf 9 = 1 := by kernel_rfl
theorem cells_u64 : Tryz.prog.cellsOf 25 = 1 := by kernel_rfl
theorem cells_dot : Tryz.prog.cellsOf 96 = 2 := by kernel_rfl
theorem lits_dot (d : Nat) (x : M) (h : dFine x) : Tryz.prog.keyLits (d + 2) 96 [.string ⟨x.p.toArray⟩, .int .u64 (x.n : Int)] = some (dLits x) :=
  lits_two Tryz.underlying96 (by rw [cells_dot, cells_str, cells_u64]) rfl (by rw [cells_str]) rfl rfl (d + 1) (xs := [.string ⟨x.p.toArray⟩]) (by rw [cells_str]; rfl) (by rw [cells_u64]; rfl) (lits_str Tryz.underlying9 d x.p h.1) (lits_u64 Tryz.underlying25 d x.n h.2)
theorem lits_dot_inv (d : Nat) {cs : List Value} {ls : List Lit} (h : Tryz.prog.keyLits (d + 2) 96 cs = some ls) : ∃ x : M, dFine x ∧ cs = [.string ⟨x.p.toArray⟩, .int .u64 (x.n : Int)] := by
  obtain ⟨xs, ys, la, lb, rfl, h1, h2⟩ := lits_two_inv Tryz.underlying96 (by rw [cells_dot, cells_str, cells_u64]) rfl (by rw [cells_str]) (d + 1) h
  obtain ⟨l, rfl, hl⟩ := lits_str_inv Tryz.underlying9 d h1
  obtain ⟨n, rfl, hn⟩ := lits_u64_inv Tryz.underlying25 d h2
  exact ⟨⟨l, n⟩, ⟨hl, hn⟩, rfl⟩
theorem types_many : 100 ≤ Tryz.prog.types.size := Nat.le_of_ble_eq_true (by kernel_rfl)
theorem size3 : ∃ n, Tryz.prog.types.size + 1 = n + 3 := ⟨Tryz.prog.types.size + 1 - 3, by have := types_many; omega⟩
theorem keyOf_struct {P : Program} {k : TypeId} {fs : Array Field} (hu : P.underlying k = some (.struct fs)) (v : Value) : keyOf P k v = if P.keyType k && v.formed P k then (P.keyLits (P.types.size + 1) k v.cells.toList).map fun ls => .string (keyBytes ls) else none := by
  unfold keyOf
  rw [hu]
theorem formed_agg {P : Program} {k : TypeId} {fs : Array Field} (hu : P.underlying k = some (.struct fs)) (cs : Array Value) (h : cs.size = P.cellsOf k) : (Value.agg cs).formed P k = true := by
  unfold Value.formed
  rw [hu]
  simpa using h
theorem agg_of {P : Program} {k : TypeId} {fs : Array Field} (hu : P.underlying k = some (.struct fs)) {v : Value} (h : v.formed P k = true) : ∃ cs, v = .agg cs := by
  cases v <;> simp_all [Value.formed]
theorem key_dot (x : M) (h : dFine x) : keyOf Tryz.prog 96 x.agg = some (.string (keyBytes (dLits x))) := by
  obtain ⟨n, hn⟩ := size3
  have hk : Tryz.prog.keyType 96 = true := by kernel_rfl
  rw [keyOf_struct Tryz.underlying96, if_pos (by rw [hk, Bool.true_and]; exact formed_agg Tryz.underlying96 _ (by rw [cells_dot]; rfl)), hn]
  have e : x.agg.cells.toList = [.string ⟨x.p.toArray⟩, .int .u64 (x.n : Int)] := rfl
  rw [e, lits_dot (n + 1) x h]
  rfl
theorem back_dot {v : Value} {l : Lit} (h : keyOf Tryz.prog 96 v = some l) : ∃ x : M, dFine x ∧ v = x.agg := by
  obtain ⟨n, hn⟩ := size3
  rw [keyOf_struct Tryz.underlying96] at h
  split at h
  · rename_i c
    rw [Bool.and_eq_true] at c
    obtain ⟨cs, rfl⟩ := agg_of Tryz.underlying96 c.2
    rw [hn] at h
    have e : (Value.agg cs).cells.toList = cs.toList := rfl
    rw [e] at h
    cases hl : Tryz.prog.keyLits (n + 3) 96 cs.toList with
    | none => rw [hl] at h; cases h
    | some ls =>
      obtain ⟨x, hx, ex⟩ := lits_dot_inv (n + 1) hl
      refine ⟨x, hx, ?_⟩
      unfold M.agg
      rw [← Array.toArray_toList (xs := cs), ex]
  · cases h
theorem str_inj {a b : List UInt8} (h : (⟨a.toArray⟩ : ByteArray) = ⟨b.toArray⟩) : a = b := by simpa using h
theorem val_inj (x y : Pl) (h : x.val = y.val) : x = y := by
  unfold Pl.val at h
  simp at h
  exact Pl.ext' h.1 (M.ext' h.2.1 (by omega))
theorem agg_inj (x y : M) (h : x.agg = y.agg) : x = y := by
  unfold M.agg at h
  simp at h
  exact M.ext' h.1 (by omega)
theorem row_dot : 96 < Tryz.prog.types.size := Nat.lt_of_lt_of_le (by decide : 96 < 100) types_many
theorem at_dot : Tryz.prog.keyTypeAt 3 96 = true := by kernel_rfl
theorem keyed_dot : Keyed Tryz.prog 96 := Keyed.of_law (deep_law_laid laid (m := 3) (by decide) row_dot at_dot (by rw [Tryz.underlying96]))
def dotsC : KMap.Code M Tryz.prog 96 := ⟨M.agg, fun x => keyBytes (dLits x), dFine, keyed_dot, key_dot, back_dot, agg_inj⟩
-- sets
def unit : Value := .agg #[]
def setF {α : Type} [DecidableEq α] (V : List α) : α → Option Value := fun p => if p ∈ V then some unit else none
theorem setF_some {α : Type} [DecidableEq α] (V : List α) (p : α) : (setF V p).isSome = decide (p ∈ V) := by
  unfold setF
  by_cases h : p ∈ V <;> simp [h]
theorem setF_put {α : Type} [DecidableEq α] (V : List α) (q p : α) : KMap.put (setF V) q unit p = setF (V ++ [q]) p := by
  unfold KMap.put setF
  by_cases h : p = q
  · subst h; simp
  · simp [h]
/-- What items hold, one by one. -/
def onT (t : List UInt8) (d : List M) : List Pl := d.map (fun m => ⟨t, m⟩)
theorem onT_nil (t : List UInt8) : onT t [] = [] := rfl
theorem onT_snoc (t : List UInt8) (d : List M) (m : M) : onT t (d ++ [m]) = onT t d ++ [⟨t, m⟩] := by simp [onT]
theorem onT_len (t : List UInt8) (d : List M) : (onT t d).length = d.length := by simp [onT]
def pls (L : List It) : List Pl := L.flatMap (fun x => onT x.t x.d)
theorem mem_pls (L : List It) (t : List UInt8) (m : M) : (⟨t, m⟩ : Pl) ∈ pls L ↔ Has L t m := by
  unfold pls Has
  rw [List.mem_flatMap]
  constructor
  · rintro ⟨x, hx, h⟩
    obtain ⟨m', hm, e⟩ := List.mem_map.1 h
    cases e
    exact ⟨x, hx, rfl, hm⟩
  · rintro ⟨x, hx, rfl, hm⟩
    exact ⟨x, hx, List.mem_map.2 ⟨m, hm, rfl⟩⟩
theorem pls_snoc (L : List It) (x : It) : pls (L ++ [x]) = pls L ++ onT x.t x.d := by simp [pls]
end Bag
end Go.Proofs.YtnpjkmomllkhpaaGreat

namespace Go.Proofs.YtnpjkmomllkhpaaGreat
namespace Bag
open Go.RowKit Go.Maps Go.Proofs.YtnpjkmomllkhpaaGreat.Mark Go.Proofs.YtnpjkmomllkhpaaGreat.Dots
theorem but_grown {b : Nat} {w x : World} (k : w.grownBy x (some b)) : But b w x := ⟨k.os, k.tape, k.output, k.size, fun j hj hb => k.block j hj (by simpa using hb)⟩
/-- Few of them, and fine. -/
structure Fine (L : List It) : Prop where
  items : L.length ≤ 1099511627776
  few : (pls L).length ≤ 1099511627776
  fine : ∀ p ∈ pls L, p.fine
theorem pls_take {L : List It} {i : Nat} (hi : i < L.length) : pls (L.take (i + 1)) = pls (L.take i) ++ onT L[i].t L[i].d := by
  rw [List.take_succ_eq_append_getElem hi, pls_snoc]
theorem pls_sub {L : List It} {i : Nat} (hi : i < L.length) : (pls (L.take i)).length + L[i].d.length ≤ (pls L).length ∧ ∀ m ∈ L[i].d, (⟨L[i].t, m⟩ : Pl) ∈ pls L := by
  constructor
  · have h : pls L = pls (L.take (i + 1)) ++ pls (L.drop (i + 1)) := by
      unfold pls
      rw [← List.flatMap_append, List.take_append_drop]
    rw [h, pls_take hi]
    simp only [List.length_append, onT_len]
    omega
  · intro m hm
    rw [mem_pls]
    exact ⟨L[i], List.getElem_mem hi, rfl, hm⟩
theorem tl_lt {a b : List UInt8} (h : TL a b) : a < b := by
  have h1 : Op.bytesLess a b = true := by
    cases h0 : Op.bytesLess a b with
    | true => rfl
    | false =>
      exfalso
      by_cases e : a = b
      · subst e; exact linT.irr _ h
      · have := Order.cmp_more a b e h0
        unfold TL at h
        omega
  rw [Go.Proofs.bytesLess_eq] at h1
  exact of_decide_eq_true h1
theorem zero_unit {w : World} : (zeroValue 121).run Tryz.prog w = .ok (.agg #[]) w := by kernel_rfl
end Bag
end Go.Proofs.YtnpjkmomllkhpaaGreat
