/- BagOwn, plain: what a put, a take, a turn leave. -/
import Derived.Test.YtnlbgjghckbbcaaTmBagF
import Derived.Test.YtnlbgjghckbbcaaTmBagD
import Derived.Test.YtnlbgjghckbbcaaTmRefB
namespace Go.Proofs.Ytnlbgjghckbbcaa
namespace BagOwnLaw
open Go.RowKit Go.Proofs.Ytnlbgjghckbbcaa.Mark Go.Proofs.Ytnlbgjghckbbcaa.Dots Go.Proofs.Ytnlbgjghckbbcaa.Bag
/-- All texts but one. -/
def others (L : List It) (text : List UInt8) : List It := L.filter (fun x => decide (x.t ≠ text))
theorem others_bag {L : List It} (h : Canon L) (text : List UInt8) : IsBag (others L text) (fun t m => Has L t m ∧ t ≠ text) := by
  refine ⟨⟨h.1.sublist List.filter_sublist, fun x hx => h.2 x (List.mem_filter.1 hx).1⟩, fun t m => ?_⟩
  constructor
  · rintro ⟨x, hx, e, hm⟩
    obtain ⟨h1, h2⟩ := List.mem_filter.1 hx
    exact ⟨⟨x, h1, e, hm⟩, by rw [← e]; simpa using h2⟩
  · rintro ⟨⟨x, hx, e, hm⟩, hne⟩
    exact ⟨x, List.mem_filter.2 ⟨hx, by rw [e]; simpa using hne⟩, e, hm⟩
/-- A text's dots, from who has them. -/
theorem ofT_eq {L : List It} {t : List UInt8} {D : List M} (hD : D.Pairwise DL) (h : ∀ m, Has L t m ↔ m ∈ D) : ofT L t = D :=
  linD.ext (ofT_law L t).1 hD fun m => by rw [(ofT_law L t).2, h]
theorem put_of {L Q : List It} {text : List UInt8} {d : M} (h : IsBag Q (fun t m => (Has L t m ∧ t ≠ text) ∨ (t = text ∧ m = d))) : ofT Q text = [d] :=
  ofT_eq (by simp) fun m => by rw [h.2]; simp
theorem put_take {L Q R : List It} {text : List UInt8} {d : M} (h : IsBag Q (fun t m => (Has L t m ∧ t ≠ text) ∨ (t = text ∧ m = d))) (k : IsBag R (fun t m => Has Q t m ∧ t ≠ text)) : IsBag R (fun t m => Has L t m ∧ t ≠ text) :=
  k.congr fun t m => by
    rw [h.2]
    constructor
    · rintro ⟨h1 | h1, h2⟩
      · exact h1
      · exact absurd h1.1 h2
    · exact fun h1 => ⟨.inl h1, h1.2⟩
theorem take_of {L R : List It} {text : List UInt8} (k : IsBag R (fun t m => Has L t m ∧ t ≠ text)) : ofT R text = [] :=
  ofT_eq List.Pairwise.nil fun m => by rw [k.2]; simp
theorem take_other {L R : List It} {text other : List UInt8} (k : IsBag R (fun t m => Has L t m ∧ t ≠ text)) (hne : other ≠ text) : ofT R other = ofT L other :=
  ofT_eq (ofT_law L other).1 fun m => by rw [k.2, (ofT_law L other).2]; simp [hne]
theorem texts_eq {L T : List It} (hL : Canon L) (hT : Canon T) (h : ∀ t, (∃ m, Has T t m) ↔ ∃ m, Has L t m) : T.map It.t = L.map It.t := by
  refine linT.ext (List.pairwise_map.2 hT.1) (List.pairwise_map.2 hL.1) fun t => ?_
  have key : ∀ {R : List It}, Canon R → (t ∈ R.map It.t ↔ ∃ m, Has R t m) := fun {R} hR => by
    rw [List.mem_map]
    constructor
    · rintro ⟨x, hx, rfl⟩
      obtain ⟨m, hm⟩ := List.exists_mem_of_ne_nil _ (hR.2 x hx).1
      exact ⟨m, x, hx, rfl, hm⟩
    · rintro ⟨m, x, hx, e, _⟩
      exact ⟨x, hx, e⟩
  rw [key hT, key hL, h]
variable {L T : List It} {by_ owner : List UInt8} {base : Nat}
theorem turn_texts (hL : Canon L) (h : IsBag T (fun t m => ∃ x, Has L t x ∧ turned by_ owner base x = m)) : T.map It.t = L.map It.t :=
  texts_eq hL h.1 fun t => by
    constructor
    · rintro ⟨m, hm⟩
      obtain ⟨x, hx, _⟩ := (h.2 t m).1 hm
      exact ⟨x, hx⟩
    · rintro ⟨x, hx⟩
      exact ⟨_, (h.2 t _).2 ⟨x, hx, rfl⟩⟩
theorem turn_by (h : IsBag T (fun t m => ∃ x, Has L t x ∧ turned by_ owner base x = m)) {t : List UInt8} {m : M} (hm : Has T t m) (hne : by_ ≠ owner) : m.p ≠ by_ := by
  obtain ⟨x, _, rfl⟩ := (h.2 t m).1 hm
  unfold turned
  split
  · exact fun e => hne e.symm
  · assumption
/-- Is there a dot of an owner? -/
def taken (owner : List UInt8) (V : List Pl) : Bool := V.any (fun x => decide (x.m.p = owner))
theorem taken_nil (owner : List UInt8) : taken owner [] = false := rfl
theorem taken_snoc (owner : List UInt8) (V : List Pl) (x : Pl) : taken owner (V ++ [x]) = (taken owner V || decide (x.m.p = owner)) := by unfold taken; simp
theorem turn_inj {x y : M} (hx : x.n ≤ 18446744073709551615) (hy : y.n ≤ 18446744073709551615) (ox : x.p ≠ owner) (oy : y.p ≠ owner) (h : turned by_ owner base x = turned by_ owner base y) : x = y := by
  unfold turned at h
  by_cases cx : x.p = by_
  · by_cases cy : y.p = by_
    · rw [if_pos cx, if_pos cy] at h
      simp only [M.mk.injEq, true_and] at h
      exact M.ext' (cx.trans cy.symm) (by omega)
    · rw [if_pos cx, if_neg cy] at h
      rw [← h] at oy
      exact absurd rfl oy
  · by_cases cy : y.p = by_
    · rw [if_neg cx, if_pos cy] at h
      rw [h] at ox
      exact absurd rfl ox
    · rw [if_neg cx, if_neg cy] at h
      exact h
theorem turn_len (hL : Canon L) (hf : ∀ p ∈ pls L, p.m.n ≤ 18446744073709551615) (h : IsBag T (fun t m => ∃ x, Has L t x ∧ turned by_ owner base x = m)) (ht : taken owner (pls L) = false) : (pls L).length = (pls T).length := by
  have hno : ∀ p ∈ pls L, p.m.p ≠ owner := fun p hp e => by
    have : taken owner (pls L) = true := List.any_eq_true.2 ⟨p, hp, by simpa using e⟩
    rw [this] at ht; cases ht
  let f : Pl → Pl := fun p => ⟨p.t, turned by_ owner base p.m⟩
  have hnd : ((pls L).map f).Nodup := by
    refine List.pairwise_map.2 ((pls_nodup hL).imp_of_mem fun {a b} ha hb hab e => hab ?_)
    have e1 : (f a).t = (f b).t := congrArg Pl.t e
    have e2 : (f a).m = (f b).m := congrArg Pl.m e
    exact Pl.ext' e1 (turn_inj (hf a ha) (hf b hb) (hno a ha) (hno b hb) e2)
  have hmem : ∀ p, p ∈ (pls L).map f ↔ p ∈ pls T := fun p => by
    rw [List.mem_map, show (p ∈ pls T) = ((⟨p.t, p.m⟩ : Pl) ∈ pls T) from rfl, mem_pls, h.2]
    constructor
    · rintro ⟨q, hq, rfl⟩
      exact ⟨q.m, (mem_pls L q.t q.m).1 hq, rfl⟩
    · rintro ⟨x, hx, e⟩
      exact ⟨⟨p.t, x⟩, (mem_pls L p.t x).2 hx, Pl.ext' rfl e⟩
  have h1 := hnd.length_le_of_subset (fun p hp => (hmem p).1 hp)
  have h2 := (pls_nodup h.1).length_le_of_subset (fun p hp => (hmem p).2 hp)
  rw [List.length_map] at h1 h2
  omega
end BagOwnLaw
end Go.Proofs.Ytnlbgjghckbbcaa
