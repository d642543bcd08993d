/- BagOrder, plain: joins of replicas go in any order and grouping. -/
import Derived.Test.YtnlbgjghckbbcaaTmBagDeeds
namespace Go.Proofs.Ytnlbgjghckbbcaa
namespace BagLaw
open Go.RowKit Go.Proofs.Ytnlbgjghckbbcaa.Mark Go.Proofs.Ytnlbgjghckbbcaa.Dots Go.Proofs.Ytnlbgjghckbbcaa.Bag Go.Proofs.Ytnlbgjghckbbcaa.BagEv
theorem or_comm (A C : List Bool) : BagEv.or A C = BagEv.or C A := by
  unfold BagEv.or
  rw [List.zipWith_comm]
  congr 1
  funext a b
  exact Bool.or_comm b a
theorem or_ext {A C : List Bool} (h : A.length = C.length) (k : ∀ j, Kn A j ↔ Kn C j) : A = C := by
  refine List.ext_getElem h fun i h1 h2 => ?_
  have := k i
  unfold Kn at this
  rw [List.getElem?_eq_getElem h1, List.getElem?_eq_getElem h2] at this
  simp only [Option.some.injEq] at this
  cases hA : A[i] <;> cases hC : C[i] <;> rw [hA, hC] at this <;> simp at this <;> rfl
theorem or_assoc {A C D : List Bool} (h1 : A.length = C.length) (h2 : C.length = D.length) : BagEv.or (BagEv.or A C) D = BagEv.or A (BagEv.or C D) := by
  have l1 := or_len h1
  have l2 := or_len h2
  have l3 := or_len (show (BagEv.or A C).length = D.length by omega)
  have l4 := or_len (show A.length = (BagEv.or C D).length by omega)
  refine or_ext (by omega) fun j => ?_
  rw [kn_or (by omega), kn_or h1, kn_or (by omega), kn_or h2]
  constructor
  · rintro ((h | h) | h)
    · exact .inl h
    · exact .inr (.inl h)
    · exact .inr (.inr h)
  · rintro (h | h | h)
    · exact .inl (.inl h)
    · exact .inl (.inr h)
    · exact .inr h
theorem or_again {A C : List Bool} (h : A.length = C.length) : BagEv.or (BagEv.or A C) A = BagEv.or A C := by
  have l1 := or_len h
  refine or_ext (by rw [or_len (by omega)]) fun j => ?_
  rw [kn_or (by omega), kn_or h]
  constructor
  · rintro (h | h)
    · exact h
    · exact .inl h
  · exact .inl
theorem or_self (A : List Bool) : BagEv.or A A = A := by
  refine or_ext (or_len rfl) fun j => ?_
  rw [kn_or rfl]
  exact ⟨fun h => h.elim id id, .inl⟩
/-- A bag and a vector, of who knows so much. -/
structure BV (es : List Ev) (R : List It) (V : List M) (K : List Bool) (v : Nat → Nat) : Prop where
  bag : IsBag R (Live es K)
  vec : IsVec V (gF v)
  good : BagEv.Good es K v
  le : ∀ r, v r ≤ 60
variable {N : Nat} {Ls : List Rp} {Es : List Er} {es : List Ev} {K : Nat → List Bool} {v : Nat → Nat → Nat}
theorem Rel.bv (h : Rel N Ls Es es K v) {k : Nat} (hk : k < Ls.length) (he : es.length ≤ 60) : BV es Ls[k].R Ls[k].V (K k) (v k) :=
  ⟨h.bag k hk, h.vec k hk, h.inv.good k (by rw [← h.len]; exact hk), fun r => Nat.le_trans (h.inv.small k r) he⟩
theorem BV.bagJ (h : Rel N Ls Es es K v) {R1 R2 Q : List It} {V1 V2 : List M} {K1 K2 : List Bool} {v1 v2 : Nat → Nat} (h1 : BV es R1 V1 K1 v1) (h2 : BV es R2 V2 K2 v2) (hQ : IsBag Q (Joined R1 R2 (fun m => hasL V1 m.p m.n) (fun m => hasL V2 m.p m.n))) : IsBag Q (Live es (BagEv.or K1 K2)) := by
  have hlow := h.low
  refine hQ.congr fun t m => ?_
  rw [← live_or h.inv.past hlow h1.good h2.good (fun m => hasL V1 m.p m.n = true) (fun m => hasL V2 m.p m.n = true) (fun r n hr hn => has_iff h1.vec (by omega) hn) (fun r n hr hn => has_iff h2.vec (by omega) hn)]
  unfold Joined
  rw [h1.bag.2, h2.bag.2]
  simp only [Bool.not_eq_true]
theorem BV.join (h : Rel N Ls Es es K v) {R1 R2 Q : List It} {V1 V2 J : List M} {K1 K2 : List Bool} {v1 v2 : Nat → Nat} (h1 : BV es R1 V1 K1 v1) (h2 : BV es R2 V2 K2 v2) (hQ : IsBag Q (Joined R1 R2 (fun m => hasL V1 m.p m.n) (fun m => hasL V2 m.p m.n))) (hJ : IsVec J (fun q => max (ofL V1 q) (ofL V2 q))) : BV es Q J (BagEv.or K1 K2) (fun r => max (v1 r) (v2 r)) :=
  ⟨BV.bagJ h h1 h2 hQ, vec_max h1.vec h2.vec hJ, h1.good.or h2.good, fun r => by have := h1.le r; have := h2.le r; omega⟩
theorem live_few (h : Rel N Ls Es es K v) (he : es.length ≤ 60) {R : List It} {Kk : List Bool} (hb : IsBag R (Live es Kk)) : Fine R ∧ (pls R).length ≤ 100 ∧ R.length ≤ 100 := by
  have hf : ∀ p ∈ es.map (fun e => (⟨e.t, dot e.r e.n⟩ : Pl)), p.fine := fun p hp => by
    obtain ⟨e, hx, rfl⟩ := List.mem_map.1 hp
    obtain ⟨j, hj, rfl⟩ := List.getElem_of_mem hx
    have h1 := h.inv.own j _ (List.getElem?_eq_getElem hj)
    have h2 := h.inv.small es[j].r es[j].r
    have h3 : 10 ≤ maxLen := by decide
    refine ⟨?_, by show 2 ≤ _; omega, by show es[j].n ≤ _; omega⟩
    show es[j].t.length ≤ _
    rcases h.abc _ (List.getElem_mem hj) with e | e | e <;> rw [e] <;> simp <;> omega
  have h1 := few_of hb (fun t m hm => live_pl hm)
  rw [List.length_map] at h1
  have key : ∀ {R : List It}, Canon R → R.length ≤ (pls R).length := by
    intro R
    induction R with
    | nil => intro _; exact Nat.le_refl _
    | cons x R ih =>
      intro hc
      have := ih hc.tail
      have h1 := List.length_pos_iff.2 (hc.2 x (by simp)).1
      unfold pls at *
      simp only [List.flatMap_cons, List.length_append, onT_len, List.length_cons]
      omega
  have h2 := key hb.1
  exact ⟨fine_of hb (fun t m hm => live_pl hm) (by rw [List.length_map]; omega) hf (by omega), by omega, by omega⟩
theorem BV.sizes (h : Rel N Ls Es es K v) (he : es.length ≤ 60) {R : List It} {V : List M} {Kk : List Bool} {vv : Nat → Nat} (b : BV es R V Kk vv) : Fine R ∧ (pls R).length ≤ 100 ∧ R.length ≤ 100 ∧ Ok V ∧ V.length ≤ 256 := by
  obtain ⟨h1, h2, h3⟩ := live_few h he b.bag
  obtain ⟨h4, h5⟩ := vec_ok b.vec (fun r => Nat.le_trans (b.le r) (show 60 ≤ 1000 by decide))
  exact ⟨h1, h2, h3, h4, h5⟩
/-- Two bags that are the same. -/
theorem same_is {W : World} {a b : Option Addr} {ca cb : Nat} {R Q : List It} (hA : Bag.Lies W a R.length R) (hB : Bag.Lies W b Q.length Q) (e : R = Q) (f : (pls R).length ≤ 100 ∧ R.length ≤ 100) :
    Calls Try.prog 9 #[.slice a R.length ca, .slice b Q.length cb] W fun e w' => e = .returned (.bool true) ∧ Below W.heap.size W w' := by
  subst e
  refine (RefBag.same_any R R a b R.length R.length ca cb W hA hB (by omega) (fun x hx => ?_)).mono ?_
  · obtain ⟨i, hi, rfl⟩ := List.getElem_of_mem hx
    have := (pls_sub hi).1
    omega
  · rintro e w' ⟨rfl, k⟩
    exact ⟨by rw [decide_eq_true (rfl : R = R)], k⟩
theorem three_at (w : World) (T : TypeId) (A0 A1 A2 : Array Value) : (∀ j u, A0[j]? = some u → (((w.alloc (.cells A0 T)).alloc (.cells A1 T)).alloc (.cells A2 T)).drew.cell? ⟨w.heap.size, j, none⟩ = some u) ∧ (∀ j u, A1[j]? = some u → (((w.alloc (.cells A0 T)).alloc (.cells A1 T)).alloc (.cells A2 T)).drew.cell? ⟨w.heap.size + 1, j, none⟩ = some u) ∧ (∀ j u, A2[j]? = some u → (((w.alloc (.cells A0 T)).alloc (.cells A1 T)).alloc (.cells A2 T)).drew.cell? ⟨w.heap.size + 2, j, none⟩ = some u) := by
  refine ⟨fun j u h => ?_, fun j u h => ?_, fun j u h => ?_⟩
  · show World.cell? (World.alloc _ _) _ = _
    exact Lib.cell?_alloc_some _ (Lib.cell?_alloc_some _ (by rw [World.cell?_alloc_new]; exact h))
  · show World.cell? (World.alloc _ _) _ = _
    exact Lib.cell?_alloc_some _ (by rw [← World.size_alloc w (.cells A0 T), World.cell?_alloc_new]; exact h)
  · show World.cell? (World.alloc _ _) _ = _
    rw [show w.heap.size + 2 = ((w.alloc (.cells A0 T)).alloc (.cells A1 T)).heap.size by rw [World.size_alloc, World.size_alloc], World.cell?_alloc_new]
    exact h
end BagLaw
end Go.Proofs.Ytnlbgjghckbbcaa
