/- Merged texts: BagSim, BagModelFn, BagModelPlain. -/
import Derived.Test.YtnlbgjghckbbcaaTmPlay
import Derived.Test.YtnlbgjghckbbcaaTmBagOwnPlain
import Derived.Test.YtnlbgjghckbbcaaTmDotJ
namespace Go.Proofs.Ytnlbgjghckbbcaa
namespace BagLaw
open Go.RowKit Go.Proofs.Ytnlbgjghckbbcaa.Mark Go.Proofs.Ytnlbgjghckbbcaa.Dots Go.Proofs.Ytnlbgjghckbbcaa.Bag Go.Proofs.Ytnlbgjghckbbcaa.BagEv
/-- A vector over the replicas' paths. -/
def gF (f : Nat → Nat) (q : List UInt8) : Nat := match q with
  | [a, c] => if a = 1 ∧ 1 ≤ c.toNat then f (c.toNat - 1) else 0
  | _ => 0
theorem path_nat {r : Nat} (hr : r < 200) : (UInt8.ofNat (r + 1)).toNat = r + 1 := by
  rw [UInt8.toNat_ofNat']
  omega
theorem gF_path {f : Nat → Nat} {r : Nat} (hr : r < 200) : gF f (path r) = f r := by
  unfold gF path
  simp only [path_nat hr]
  rw [if_pos ⟨trivial, by omega⟩]
  rfl
theorem gF_other {f g : Nat → Nat} {r : Nat} (h : ∀ q, q ≠ r → f q = g q) {q : List UInt8} (hq : q ≠ path r) : gF f q = gF g q := by
  unfold gF
  split
  · rename_i a c
    by_cases hc : a = 1 ∧ 1 ≤ c.toNat
    · rw [if_pos hc, if_pos hc]
      refine h _ fun e => hq ?_
      unfold path
      rw [hc.1, ← e, show c.toNat - 1 + 1 = c.toNat by omega, UInt8.ofNat_toNat]
    · rw [if_neg hc, if_neg hc]
  · rfl
theorem gF_max (f g : Nat → Nat) (q : List UInt8) : gF (fun r => max (f r) (g r)) q = max (gF f q) (gF g q) := by
  unfold gF
  split
  · split
    · rfl
    · rfl
  · rfl
theorem gF_le {f : Nat → Nat} {n : Nat} (h : ∀ r, f r ≤ n) (q : List UInt8) : gF f q ≤ n := by
  unfold gF
  split
  · split
    · exact h _
    · exact Nat.zero_le _
  · exact Nat.zero_le _
theorem gF_path_of {f : Nat → Nat} {q : List UInt8} (h : gF f q ≠ 0) : ∃ k, k < 256 ∧ q = [1, UInt8.ofNat k] := by
  unfold gF at h
  split at h
  · rename_i a c
    by_cases hc : a = 1 ∧ 1 ≤ c.toNat
    · exact ⟨c.toNat, c.toNat_lt, by rw [hc.1, UInt8.ofNat_toNat]⟩
    · rw [if_neg hc] at h; exact absurd rfl h
  · exact absurd rfl h
theorem _root_.Go.Proofs.Ytnlbgjghckbbcaa.Dots.IsVec.congr' {V : List M} {f g : List UInt8 → Nat} (h : IsVec V f) (k : ∀ q, f q = g q) : IsVec V g := ⟨h.1, fun q => (h.2 q).trans (k q)⟩
theorem vec_set {V J : List M} {f : Nat → Nat} {r x : Nat} (hV : IsVec V (gF f)) (hr : r < 200) (hJ : IsVec J (Dots.setF (ofL V) (path r) x)) : IsVec J (gF (fun q => if q = r then x else f q)) :=
  ⟨hJ.1, fun q => by
    rw [hJ.2 q]
    unfold Dots.setF
    by_cases e : q = path r
    · subst e
      rw [if_pos rfl, if_neg (path_ne r), gF_path hr, if_pos rfl]
    · rw [if_neg e, hV.2 q]
      exact gF_other (fun q hq => by rw [if_neg hq]) e⟩
theorem vec_max {A C J : List M} {f g : Nat → Nat} (hA : IsVec A (gF f)) (hC : IsVec C (gF g)) (hJ : IsVec J (fun q => max (ofL A q) (ofL C q))) : IsVec J (gF (fun r => max (f r) (g r))) :=
  ⟨hJ.1, fun q => by rw [hJ.2 q, gF_max, ← hA.2 q, ← hC.2 q]⟩
theorem vec_ok {V : List M} {f : Nat → Nat} (hV : IsVec V (gF f)) (hf : ∀ r, f r ≤ 1000) : Ok V ∧ V.length ≤ 256 := by
  have hm : ∀ m ∈ V, m.n ≤ 1000 ∧ ∃ k, k < 256 ∧ m.p = [1, UInt8.ofNat k] := fun m hm => by
    have h1 := (hV.1.2 m hm).2
    have h2 := vec_of hV.1 hm
    rw [hV.2] at h2
    refine ⟨by rw [← h2]; exact gF_le hf _, gF_path_of (f := f) (by omega)⟩
  refine ⟨fun m hx => ?_, ?_⟩
  · obtain ⟨h1, k, -, h2⟩ := hm m hx
    exact ⟨by omega, by rw [h2]; show 2 ≤ _; decide⟩
  · have hnd : (V.map M.p).Nodup := List.pairwise_map.2 (hV.1.1.imp fun {a b} hab e => by
      unfold Less at hab
      rw [e, Order.cmp_self] at hab
      exact absurd hab (by decide))
    have := hnd.length_le_of_subset (l₂ := (List.range 256).map (fun k => [1, UInt8.ofNat k])) (fun p hp => by
      obtain ⟨m, hx, rfl⟩ := List.mem_map.1 hp
      obtain ⟨-, k, hk, e⟩ := hm m hx
      exact List.mem_map.2 ⟨k, List.mem_range.2 hk, e.symm⟩)
    simpa using this
theorem has_iff {V : List M} {f : Nat → Nat} (hV : IsVec V (gF f)) {r n : Nat} (hr : r < 200) (hn : 1 ≤ n) : hasL V (path r) n = true ↔ n ≤ f r := by
  unfold hasL
  rw [hV.2, gF_path hr]
  simp [hn]
/-- Replicas in memory, and their play. -/
structure Rel (N : Nat) (Ls : List Rp) (Es : List Er) (es : List Ev) (K : Nat → List Bool) (v : Nat → Nat → Nat) : Prop where
  inv : Inv N es K v
  len : Ls.length = N
  low : N ≤ 200
  knew : ∀ k (h : k < Ls.length), Ls[k].K = K k
  vec : ∀ k (h : k < Ls.length), IsVec Ls[k].V (gF (v k))
  bag : ∀ k (h : k < Ls.length), IsBag Ls[k].R (Live es (K k))
  evl : Es.length = es.length
  ev : ∀ j (h : j < Es.length) (h' : j < es.length), Es[j].t = es[j].t ∧ Es[j].p = path es[j].r ∧ Es[j].n = (if es[j].put then es[j].n else 0) ∧ Es[j].seen = es[j].seen
  abc : ∀ e ∈ es, e.t = [97] ∨ e.t = [98] ∨ e.t = [99]
variable {N : Nat} {Ls Ls' : List Rp} {Es : List Er} {es : List Ev} {K : Nat → List Bool} {v : Nat → Nat → Nat}
theorem live_pl {t : List UInt8} {m : M} {Kk : List Bool} (h : Live es Kk t m) : (⟨t, m⟩ : Pl) ∈ es.map (fun e => (⟨e.t, dot e.r e.n⟩ : Pl)) := by
  obtain ⟨j, e, he, -, -, rfl, rfl, -⟩ := h
  exact List.mem_map.2 ⟨e, List.mem_of_getElem? he, rfl⟩
theorem Rel.sizes (h : Rel N Ls Es es K v) {k : Nat} (hk : k < Ls.length) (he : es.length ≤ 100) : Fine Ls[k].R ∧ (pls Ls[k].R).length ≤ 100 ∧ Ls[k].R.length ≤ 100 ∧ Ok Ls[k].V ∧ Ls[k].V.length ≤ 256 ∧ Ls[k].K.length = es.length := by
  have hf : ∀ p ∈ es.map (fun e => (⟨e.t, dot e.r e.n⟩ : Pl)), p.fine := fun p hp => by
    obtain ⟨e, hx, rfl⟩ := List.mem_map.1 hp
    obtain ⟨j, hj, rfl⟩ := List.getElem_of_mem hx
    have h1 := h.inv.own j _ (List.getElem?_eq_getElem hj)
    have h2 := h.inv.small es[j].r es[j].r
    have h3 : 10 ≤ maxLen := by decide
    refine ⟨?_, by show 2 ≤ _; omega, by show es[j].n ≤ _; omega⟩
    show es[j].t.length ≤ _
    rcases h.abc _ (List.getElem_mem hj) with e | e | e <;> rw [e] <;> simp <;> omega
  have hb := h.bag k hk
  have h1 := few_of hb (fun t m hm => live_pl hm)
  rw [List.length_map] at h1
  have h2 : Ls[k].R.length ≤ (pls Ls[k].R).length := by
    have key : ∀ {R : List It}, Canon R → R.length ≤ (pls R).length := by
      intro R
      induction R with
      | nil => intro _; exact Nat.le_refl _
      | cons x R ih =>
        intro hc
        have := ih hc.tail
        have h1 := List.length_pos_iff.2 (hc.2 x (by simp)).1
        unfold pls at *
        simp only [List.flatMap_cons, List.length_append, onT_len, List.length_cons]
        omega
    exact key hb.1
  obtain ⟨h3, h4⟩ := vec_ok (h.vec k hk) (fun r => Nat.le_trans (h.inv.small k r) (by omega))
  refine ⟨fine_of hb (fun t m hm => live_pl hm) (by rw [List.length_map]; omega) hf (by omega), by omega, by omega, h3, h4, ?_⟩
  rw [h.knew k hk]
  exact (h.inv.good k (by rw [← h.len]; exact hk)).len
/-- A put, a take. -/
theorem Rel.deed (h : Rel N Ls Es es K v) {k : Nat} (hk : k < N) {t : List UInt8} (ht : t = [97] ∨ t = [98] ∨ t = [99]) (p : Bool) (hl : Ls'.length = N) (hks : ∀ j (h' : j < Ls'.length), Ls'[j].K = K j ++ [j == k])
    (hoth : ∀ j (h1 : j < Ls.length) (h2 : j < Ls'.length), j ≠ k → Ls'[j].R = Ls[j].R ∧ Ls'[j].V = Ls[j].V) (hk1 : k < Ls.length) (hk2 : k < Ls'.length)
    (hR : IsBag Ls'[k].R (fun t' m => (Has Ls[k].R t' m ∧ t' ≠ t) ∨ (p = true ∧ t' = t ∧ m = dot k (v k k + 1)))) (hV : IsVec Ls'[k].V (Dots.setF (ofL Ls[k].V) (path k) (v k k + 1))) (sa : Option Addr) (sc : Nat) :
    Rel N Ls' (Es ++ [⟨t, path k, if p then v k k + 1 else 0, sa, sc, K k⟩]) (es ++ [BagEv.ev K v t k p]) (K1 K k) (v1 v k) where
  inv := inv_deed h.inv t hk p
  len := hl
  low := h.low
  knew j hj := hks j hj
  vec j hj := by
    by_cases e : j = k
    · subst e
      have hlow := h.low
      have := vec_set (h.vec j hk1) (by omega) hV
      refine this.congr' fun q => ?_
      unfold v1
      congr 1
      funext q'
      by_cases e' : q' = j
      · simp [e']
      · simp [e']
    · rw [(hoth j (by rw [h.len, ← hl]; exact hj) hj e).2]
      refine (h.vec j (by rw [h.len, ← hl]; exact hj)).congr' fun q => ?_
      unfold v1
      congr 1
      funext q'
      simp [e]
  bag j hj := by
    by_cases e : j = k
    · subst e
      refine hR.congr fun t' m => ?_
      rw [live_own h.inv t hk p]
      constructor
      · rintro (⟨h1, h2⟩ | h1)
        · exact .inl ⟨h2, ((h.bag j hk1).2 t' m).1 h1⟩
        · exact .inr h1
      · rintro (⟨h1, h2⟩ | h1)
        · exact .inl ⟨((h.bag j hk1).2 t' m).2 h2, h1⟩
        · exact .inr h1
    · have hj1 : j < Ls.length := by rw [h.len, ← hl]; exact hj
      rw [(hoth j hj1 hj e).1]
      exact (h.bag j hj1).congr fun t' m => (live_other h.inv t p (by rw [← hl]; exact hj) e t' m).symm
  evl := by simp [h.evl]
  ev j h1 h2 := by
    by_cases e : j < Es.length
    · have e2 : j < es.length := by rw [← h.evl]; exact e
      rw [List.getElem_append_left e, List.getElem_append_left e2]
      exact h.ev j e e2
    · have e2 : ¬ j < es.length := by rw [← h.evl]; exact e
      have hlast : (Es ++ [(⟨t, path k, if p then v k k + 1 else 0, sa, sc, K k⟩ : Er)])[j] = ⟨t, path k, if p then v k k + 1 else 0, sa, sc, K k⟩ := by
        rw [List.getElem_append_right (by omega)]; simp
      have hlast2 : (es ++ [BagEv.ev K v t k p])[j] = BagEv.ev K v t k p := by
        rw [List.getElem_append_right (by omega)]; simp
      rw [hlast, hlast2]
      exact ⟨rfl, rfl, rfl, rfl⟩
  abc e he := by
    rcases List.mem_append.1 he with he | he
    · exact h.abc e he
    · rw [List.mem_singleton.1 he]; exact ht
/-- A join. -/
theorem Rel.join (h : Rel N Ls Es es K v) {k o : Nat} (hk : k < N) (ho : o < N) (hl : Ls'.length = N) (hks : ∀ j (h' : j < Ls'.length), Ls'[j].K = K3 K k o j)
    (hoth : ∀ j (h1 : j < Ls.length) (h2 : j < Ls'.length), j ≠ k → Ls'[j].R = Ls[j].R ∧ Ls'[j].V = Ls[j].V) (hk1 : k < Ls.length) (ho1 : o < Ls.length) (hk2 : k < Ls'.length)
    (hR : IsBag Ls'[k].R (Joined Ls[k].R Ls[o].R (fun m => hasL Ls[k].V m.p m.n) (fun m => hasL Ls[o].V m.p m.n))) (hV : IsVec Ls'[k].V (fun q => max (ofL Ls[k].V q) (ofL Ls[o].V q))) :
    Rel N Ls' Es es (K3 K k o) (v3 v k o) where
  inv := inv_join h.inv hk ho
  len := hl
  low := h.low
  knew j hj := hks j hj
  vec j hj := by
    by_cases e : j = k
    · subst e
      refine (vec_max (h.vec j hk1) (h.vec o ho1) hV).congr' fun q => ?_
      unfold v3
      congr 1
      funext q'
      simp
    · rw [(hoth j (by rw [h.len, ← hl]; exact hj) hj e).2]
      refine (h.vec j (by rw [h.len, ← hl]; exact hj)).congr' fun q => ?_
      unfold v3
      congr 1
      funext q'
      simp [e]
  bag j hj := by
    by_cases e : j = k
    · subst e
      have hlow := h.low
      refine hR.congr fun t' m => ?_
      unfold K3
      rw [if_pos rfl, ← live_or h.inv.past hlow (h.inv.good j hk) (h.inv.good o ho) (fun m => hasL Ls[j].V m.p m.n = true) (fun m => hasL Ls[o].V m.p m.n = true) (fun r n hr hn => has_iff (h.vec j hk1) (by omega) hn) (fun r n hr hn => has_iff (h.vec o ho1) (by omega) hn)]
      unfold Joined
      rw [(h.bag j hk1).2, (h.bag o ho1).2]
      simp only [Bool.not_eq_true]
    · have hj1 : j < Ls.length := by rw [h.len, ← hl]; exact hj
      rw [(hoth j hj1 hj e).1]
      refine (h.bag j hj1).congr fun t' m => ?_
      unfold K3
      rw [if_neg e]
  evl := h.evl
  ev := h.ev
  abc := h.abc
/-- At the start. -/
theorem Rel.start (N : Nat) (hN : N ≤ 200) : Rel N (List.replicate N ⟨none, 0, [], none, 0, [], none, 0, []⟩) [] [] (fun _ => []) (fun _ _ => 0) where
  inv := inv_nil N
  len := by simp
  low := hN
  knew k h := by simp
  vec k h := by
    simp only [List.getElem_replicate]
    refine ⟨⟨List.Pairwise.nil, fun m hm => by cases hm⟩, fun q => ?_⟩
    have := gF_le (f := fun _ => 0) (n := 0) (fun _ => Nat.le_refl _) q
    show 0 = _
    omega
  bag k h := by
    simp only [List.getElem_replicate]
    refine IsBag.nil.congr fun t m => ⟨False.elim, fun ⟨j, e, he, _⟩ => by simp at he⟩
  evl := rfl
  ev j h := by simp at h
  abc e he := by cases he
end BagLaw
end Go.Proofs.Ytnlbgjghckbbcaa

namespace Go.Proofs.Ytnlbgjghckbbcaa
namespace BagLaw
open Go.RowKit Go.Proofs.Ytnlbgjghckbbcaa.Mark Go.Proofs.Ytnlbgjghckbbcaa.Dots Go.Proofs.Ytnlbgjghckbbcaa.Bag Go.Proofs.Ytnlbgjghckbbcaa.BagEv
theorem events_at {w : World} {a : Option Addr} {n : Nat} {L : List Er} (h : Row.Lies eE w a n L) (hn : 0 < n) : ∃ b o, a = some ⟨b, o, none⟩ ∧ ∀ j (hj : j < L.length), w.cell? ⟨b, o + j * 4, none⟩ = some (.string ⟨L[j].t.toArray⟩) ∧ w.cell? ⟨b, o + j * 4 + 2, none⟩ = some (.int .u64 (L[j].n : Int)) ∧ w.cell? ⟨b, o + j * 4 + 3, none⟩ = some (.slice L[j].sa L[j].seen.length L[j].sc) := by
  obtain ⟨b, o, e, hc⟩ := h.2 hn
  exact ⟨b, o, e, fun j hj => ⟨hc j hj 0 _ rfl, hc j hj 2 _ rfl, hc j hj 3 _ rfl⟩⟩
theorem bools_at {w : World} {a : Option Addr} {n : Nat} {L : List Bool} (h : Row.Lies bE w a n L) (hn : 0 < n) : ∃ b o, a = some ⟨b, o, none⟩ ∧ ∀ j (hj : j < L.length), w.cell? ⟨b, o + j, none⟩ = some (.bool L[j]) := by
  obtain ⟨b, o, e, hc⟩ := h.2 hn
  exact ⟨b, o, e, fun j hj => by have := hc j hj 0 _ rfl; rwa [show o + j * bE.k + 0 = o + j by show o + j * 1 + 0 = _; omega] at this⟩
/-- Had an event been seen, by one of a text behind it? -/
def Gone (Es : List Er) (K : List Bool) (t : List UInt8) (i k : Nat) : Prop := ∃ (m : Nat) (e : Er), i < m ∧ m < k ∧ Es[m]? = some e ∧ K[m]? = some true ∧ e.t = t ∧ e.seen[i]? = some true
def Alive (Es : List Er) (K : List Bool) (t : List UInt8) (i : Nat) : Prop := ∃ e : Er, Es[i]? = some e ∧ K[i]? = some true ∧ e.t = t ∧ e.n ≠ 0 ∧ ¬ Gone Es K t i Es.length
theorem gone_none {Es : List Er} {K : List Bool} {t : List UInt8} {i : Nat} : ¬ Gone Es K t i (i + 1) := fun ⟨m, _, h1, h2, _⟩ => by omega
theorem gone_step {Es : List Er} {K : List Bool} {t : List UInt8} {i k : Nat} (hk : k < Es.length) (hK : k < K.length) (hik : i < k) (hs : i < Es[k].seen.length) : Gone Es K t i (k + 1) ↔ Gone Es K t i k ∨ (K[k] = true ∧ Es[k].t = t ∧ Es[k].seen[i] = true) := by
  constructor
  · rintro ⟨m, e, h1, h2, h3, h4, h5, h6⟩
    by_cases hm : m < k
    · exact .inl ⟨m, e, h1, hm, h3, h4, h5, h6⟩
    · obtain rfl : m = k := by omega
      rw [List.getElem?_eq_getElem hk] at h3
      obtain rfl := Option.some.inj h3
      rw [List.getElem?_eq_getElem hK] at h4
      rw [List.getElem?_eq_getElem hs] at h6
      exact .inr ⟨Option.some.inj h4, h5, Option.some.inj h6⟩
  · rintro (⟨m, e, h1, h2, h3⟩ | ⟨h1, h2, h3⟩)
    · exact ⟨m, e, h1, by omega, h3⟩
    · exact ⟨k, Es[k], hik, by omega, List.getElem?_eq_getElem hk, by rw [List.getElem?_eq_getElem hK, h1], h2, by rw [List.getElem?_eq_getElem hs, h3]⟩
set_option maxRecDepth 100000 in
set_option maxHeartbeats 8000000 in
theorem model_any (Es : List Er) (K : List Bool) (t : List UInt8) (aa ka : Option Addr) (n ac kc : Nat) (w : World) (hE : Row.Lies eE w aa n Es) (hS : ∀ e ∈ Es, Row.Lies bE w e.sa e.seen.length e.seen) (hK : Row.Lies bE w ka n K) (hl : ∀ j (h : j < Es.length), Es[j].seen.length = j) (hn : n ≤ 100) :
    Calls Try.prog 20 #[.slice aa n ac, .slice ka n kc, .string ⟨t.toArray⟩] w fun e w' => ∃ z : Bool, e = .returned (.bool z) ∧ (z = true ↔ ∃ i, Alive Es K t i) ∧ Below w.heap.size w w' := by
  have HE := Lib.hid hE
  have HS := Lib.hid hS
  have HK := Lib.hid hK
  have HL := Lib.hid hl
  have HEN := Lib.hid hE.1
  have HKN := Lib.hid hK.1
  have h0 := Below.refl w.heap.size w
  have HA0 : Hid (∀ i, i < 0 → ¬ Alive Es K t i) := Lib.hid (fun i h => by omega)
  clear hE hS hK hl
  go_enter Try.func20, Try.ntmps20
  go_wp2_with fail
  go_loopw [7] (fun iv wr => ∃ i : Nat, i ≤ n ∧ iv = .int .i64 i ∧ Hid (∀ j, j < i → ¬ Alive Es K t j) ∧ Below w.heap.size w wr) (fun iv _ => n - (intOf iv).toNat)
  case atStart => exact ⟨0, by omega, rfl, HA0, h0⟩
  case round =>
    clear HA0 h0
    obtain ⟨i, hi, rfl, HA, hb⟩ := hrel
    by_cases hlt : i < n
    rotate_left
    · have hin : n = i := by omega
      subst hin
      have d1 : decide ((n : Int) < (n : Int)) = false := decide_eq_false (by omega)
      go_wp2
      go_ret
      refine ⟨false, rfl, ⟨fun h => (by cases h), fun ⟨i, hi'⟩ => ?_⟩, hb⟩
      have hi2 := hi'
      obtain ⟨e, he, _⟩ := hi2
      have h1 := (List.getElem?_eq_some_iff.1 he).1
      exact absurd hi' (HA.out i (by have := HEN.out; omega))
    have d1 : decide ((i : Int) < (n : Int)) = true := decide_eq_true (by omega)
    have i1 : (0 : Int) ≤ (i : Int) := by omega
    have i2 : (i : Int) < (n : Int) := by omega
    have hil : i < Es.length := by have := HEN.out; omega
    have hkl : i < K.length := by have := HKN.out; omega
    obtain ⟨eb, eo, rfl, hec⟩ := events_at (Row.Lies.below HE.out hb) (by omega)
    obtain ⟨kb, ko, rfl, hkc⟩ := bools_at (Row.Lies.below HK.out hb) (by omega)
    obtain ⟨c0, c2, c3⟩ := hec i hil
    have k0 := hkc i hkl
    have HEC := Lib.hid hec
    have HKC := Lib.hid hkc
    obtain ⟨x, hx⟩ : ∃ x, x = Es[i] := ⟨_, rfl⟩
    obtain ⟨kn, hkn⟩ : ∃ b, b = K[i] := ⟨_, rfl⟩
    rw [← hx] at c0 c2 c3
    rw [← hkn] at k0
    have HI := Lib.hid hlt
    have HX : Hid (Es[i]? = some x ∧ K[i]? = some kn) := Lib.hid ⟨by rw [List.getElem?_eq_getElem hil, hx], by rw [List.getElem?_eq_getElem hkl, hkn]⟩
    have HNO : Hid (∀ _ : kn = false ∨ x.t ≠ t ∨ x.n = 0, ∀ j, j < i + 1 → ¬ Alive Es K t j) := Lib.hid (fun h j hj => by
      by_cases hji : j < i
      · exact HA.out j hji
      · obtain rfl : j = i := by omega
        rintro ⟨e, h1, h2, h3, h4, -⟩
        rw [HX.out.1] at h1
        obtain rfl := Option.some.inj h1
        rw [HX.out.2] at h2
        obtain rfl := Option.some.inj h2
        rcases h with h | h | h
        · cases h
        · exact h h3
        · exact h4 h)
    clear hec hkc hx hkn hlt hil hkl
    cases kn with
    | false =>
      have HN1 := Lib.hid (HNO.out (.inl rfl))
      go_wp2
      go_roundw
      case rel => exact ⟨i + 1, by have := HI.out; omega, by go_num, HN1, hb⟩
      case measure => have := HI.out; simp [intOf]; omega
    | true =>
      by_cases ht : x.t = t
      rotate_left
      · have q1 : (x.t != t) = true := by simpa using ht
        have q2 : (x.t == t) = false := by simpa using ht
        have HN1 := Lib.hid (HNO.out (.inr (.inl ht)))
        clear ht
        go_wp2
        go_roundw
        case rel => exact ⟨i + 1, by have := HI.out; omega, by go_num, HN1, hb⟩
        case measure => have := HI.out; simp [intOf]; omega
      have q1 : (x.t != t) = false := by simpa using ht
      have q2 : (x.t == t) = true := by simpa using ht
      by_cases hz : x.n = 0
      · have q3 : ((x.n : Int) == 0) = true := by simp [hz]
        have q4 : (x.n == 0) = true := by simp [hz]
        have HN1 := Lib.hid (HNO.out (.inr (.inr hz)))
        clear ht hz
        go_wp2
        go_roundw
        case rel => exact ⟨i + 1, by have := HI.out; omega, by go_num, HN1, hb⟩
        case measure => have := HI.out; simp [intOf]; omega
      have q3 : ((x.n : Int) == 0) = false := by rw [beq_eq_false_iff_ne]; omega
      have q4 : (x.n == 0) = false := by simpa using hz
      have HT := Lib.hid (And.intro ht hz)
      have HG0 : Hid (false = true ↔ Gone Es K t i (i + 1)) := Lib.hid ⟨fun h => (by cases h), fun h => absurd h gone_none⟩
      have h1 := Below.refl wr.heap.size wr
      have hbr := Lib.hid hb
      clear ht hz hb
      go_wp2_with fail
      go_loopw [8, 9] (fun gv kv wk => ∃ (k : Nat) (gn : Bool), i + 1 ≤ k ∧ k ≤ n ∧ kv = .int .i64 k ∧ gv = .bool gn ∧ Hid (gn = true ↔ Gone Es K t i k) ∧ Below wr.heap.size wr wk) (fun _ kv _ => n - (intOf kv).toNat)
      case atStart => exact ⟨i + 1, false, by omega, by have := HI.out; omega, by go_num, rfl, HG0, h1⟩
      case round =>
        clear HG0 h1
        obtain ⟨k, gn, hik, hk, rfl, rfl, HG, hb2⟩ := hrel
        have hbw := hbr.out.trans (hb2.mono hbr.out.size)
        by_cases hkn : k < n
        rotate_left
        · have hkk : n = k := by omega
          subst hkk
          have d2 : decide ((n : Int) < (n : Int)) = false := decide_eq_false (by omega)
          cases gn with
          | false =>
            go_wp2
            go_ret
            exact ⟨true, rfl, ⟨fun _ => ⟨i, x, HX.out.1, HX.out.2, HT.out.1, HT.out.2, fun h => by have h9 := HG.out.2 (by rw [HEN.out]; exact h); cases h9⟩, fun _ => rfl⟩, hbw⟩
          | true =>
            have HN1 : Hid (∀ j, j < i + 1 → ¬ Alive Es K t j) := Lib.hid (fun j hj => by
              by_cases hji : j < i
              · exact HA.out j hji
              · obtain rfl : j = i := by omega
                rintro ⟨e, _, _, _, _, h5⟩
                exact h5 (by rw [← HEN.out]; exact HG.out.1 rfl))
            go_wp2
            go_roundw
            case rel => exact ⟨i + 1, by have := HI.out; omega, by go_num, HN1, hbw⟩
            case measure => have := HI.out; simp [intOf]; omega
        have d2 : decide ((k : Int) < (n : Int)) = true := decide_eq_true (by omega)
        have k1 : (0 : Int) ≤ (k : Int) := by omega
        have k2 : (k : Int) < (n : Int) := by omega
        have hkl : k < Es.length := by have := HEN.out; omega
        have hkK : k < K.length := by have := HKN.out; omega
        have hks : i < Es[k].seen.length := by rw [HL.out k hkl]; omega
        have hstep := gone_step (t := t) hkl hkK (by omega) hks
        obtain ⟨c0, -, c3⟩ := HEC.out k hkl
        have k0 := HKC.out k hkK
        have hsl := Row.Lies.below (HS.out _ (List.getElem_mem hkl)) hbw
        obtain ⟨sb, so, hsa, hsc⟩ := bools_at hsl (by omega)
        have s0 := hsc i hks
        have hslen := HL.out k hkl
        rw [hsa, hslen] at c3
        replace c0 := Dots.keepC c0 hb2
        replace c3 := Dots.keepC c3 hb2
        replace k0 := Dots.keepC k0 hb2
        obtain ⟨yt, hyt⟩ : ∃ y, y = Es[k].t := ⟨_, rfl⟩
        obtain ⟨kn, hkn2⟩ : ∃ b, b = K[k] := ⟨_, rfl⟩
        obtain ⟨sn, hsn⟩ : ∃ b, b = Es[k].seen[i] := ⟨_, rfl⟩
        obtain ⟨sc, hsc2⟩ : ∃ c, c = Es[k].sc := ⟨_, rfl⟩
        rw [← hyt] at c0 hstep
        rw [← hkn2] at k0 hstep
        rw [← hsn] at s0 hstep
        rw [← hsc2] at c3
        have HST : Hid (Gone Es K t i (k + 1) ↔ gn = true ∨ (kn = true ∧ yt = t ∧ sn = true)) := Lib.hid (by rw [hstep, HG.out])
        have s1 : (i : Int) < (k : Int) := by omega
        have HKK := Lib.hid hkn
        clear hkl hkK hks hstep hsl hsa hsc hslen hyt hkn2 hsn hsc2 hkn HG
        cases gn with
        | true =>
          have HN1 : Hid (true = true ↔ Gone Es K t i (k + 1)) := Lib.hid (by rw [HST.out]; simp)
          go_wp2
          go_roundw
          case rel => exact ⟨k + 1, true, by omega, by have := HKK.out; omega, by go_num, rfl, HN1, hb2⟩
          case measure => have := HKK.out; simp [intOf]; omega
        | false =>
          cases kn with
          | false =>
            have HN1 : Hid (false = true ↔ Gone Es K t i (k + 1)) := Lib.hid (by rw [HST.out]; simp)
            go_wp2
            go_roundw
            case rel => exact ⟨k + 1, false, by omega, by have := HKK.out; omega, by go_num, rfl, HN1, hb2⟩
            case measure => have := HKK.out; simp [intOf]; omega
          | true =>
            by_cases hy : yt = t
            rotate_left
            · have p1 : (yt == t) = false := by simpa using hy
              have HN1 : Hid (false = true ↔ Gone Es K t i (k + 1)) := Lib.hid (by rw [HST.out]; simp [hy])
              clear hy
              go_wp2
              go_roundw
              case rel => exact ⟨k + 1, false, by omega, by have := HKK.out; omega, by go_num, rfl, HN1, hb2⟩
              case measure => have := HKK.out; simp [intOf]; omega
            have p1 : (yt == t) = true := by simpa using hy
            have HY := Lib.hid hy
            clear hy
            cases sn with
            | true =>
              have HN1 : Hid (true = true ↔ Gone Es K t i (k + 1)) := Lib.hid (by rw [HST.out]; simp [HY.out])
              go_wp2
              go_roundw
              case rel => exact ⟨k + 1, true, by omega, by have := HKK.out; omega, by go_num, rfl, HN1, hb2⟩
              case measure => have := HKK.out; simp [intOf]; omega
            | false =>
              have HN1 : Hid (false = true ↔ Gone Es K t i (k + 1)) := Lib.hid (by rw [HST.out]; simp)
              go_wp2
              go_roundw
              case rel => exact ⟨k + 1, false, by omega, by have := HKK.out; omega, by go_num, rfl, HN1, hb2⟩
              case measure => have := HKK.out; simp [intOf]; omega
end BagLaw
end Go.Proofs.Ytnlbgjghckbbcaa

namespace Go.Proofs.Ytnlbgjghckbbcaa
namespace BagLaw
open Go.RowKit Go.Proofs.Ytnlbgjghckbbcaa.Mark Go.Proofs.Ytnlbgjghckbbcaa.Dots Go.Proofs.Ytnlbgjghckbbcaa.Bag Go.Proofs.Ytnlbgjghckbbcaa.BagEv
variable {N : Nat} {Ls : List Rp} {Es : List Er} {es : List Ev} {K : Nat → List Bool} {v : Nat → Nat → Nat}
theorem Rel.event (h : Rel N Ls Es es K v) {j : Nat} {x : Er} (hx : Es[j]? = some x) : ∃ e : Ev, es[j]? = some e ∧ x.t = e.t ∧ x.n = (if e.put then e.n else 0) ∧ x.seen = e.seen := by
  obtain ⟨h1, rfl⟩ := List.getElem?_eq_some_iff.1 hx
  have h2 : j < es.length := by rw [← h.evl]; exact h1
  obtain ⟨e1, -, e2, e3⟩ := h.ev j h1 h2
  exact ⟨es[j], List.getElem?_eq_getElem h2, e1, e2, e3⟩
theorem Rel.event' (h : Rel N Ls Es es K v) {j : Nat} {e : Ev} (he : es[j]? = some e) : ∃ x : Er, Es[j]? = some x ∧ x.t = e.t ∧ x.n = (if e.put then e.n else 0) ∧ x.seen = e.seen := by
  obtain ⟨h2, rfl⟩ := List.getElem?_eq_some_iff.1 he
  have h1 : j < Es.length := by rw [h.evl]; exact h2
  obtain ⟨e1, -, e2, e3⟩ := h.ev j h1 h2
  exact ⟨Es[j], List.getElem?_eq_getElem h1, e1, e2, e3⟩
theorem Rel.alive (h : Rel N Ls Es es K v) {k : Nat} (hk : k < Ls.length) (t : List UInt8) : (∃ i, Alive Es Ls[k].K t i) ↔ t ∈ Ls[k].R.map It.t := by
  have hKk := h.knew k hk
  have hB := h.bag k hk
  have h1 : (∃ i, Alive Es Ls[k].K t i) ↔ Model es (K k) t := by
    rw [hKk]
    constructor
    · rintro ⟨i, x, hx, hKi, ht, hn, hg⟩
      obtain ⟨e, he, e1, e2, -⟩ := h.event hx
      refine ⟨i, e, he, hKi, ?_, by rw [← e1, ht], fun m f hf hm hKm hft hs => hg ?_⟩
      · rw [e2] at hn
        cases hp : e.put with
        | true => rfl
        | false => rw [hp] at hn; exact absurd rfl hn
      · obtain ⟨y, hy, y1, -, y3⟩ := h.event' hf
        exact ⟨m, y, hm, (List.getElem?_eq_some_iff.1 hy).1, hy, hKm, by rw [y1, hft], by rw [y3]; exact hs⟩
    · rintro ⟨i, e, he, hKi, hp, ht, hd⟩
      obtain ⟨x, hx, e1, e2, -⟩ := h.event' he
      refine ⟨i, x, hx, hKi, by rw [e1, ht], ?_, ?_⟩
      · rw [e2, hp, if_pos rfl]
        have := h.inv.past.one i e he
        omega
      · rintro ⟨m, y, h1, h2, h3, h4, h5, h6⟩
        obtain ⟨f, hf, f1, -, f3⟩ := h.event h3
        exact hd m f hf h1 h4 (by rw [← f1, h5]) (by rw [f3] at h6; exact h6)
  rw [h1, model_iff h.inv.past, List.mem_map]
  unfold There
  constructor
  · rintro ⟨m, hm⟩
    obtain ⟨x, hx, e, _⟩ := (hB.2 t m).2 hm
    exact ⟨x, hx, e⟩
  · rintro ⟨x, hx, rfl⟩
    obtain ⟨m, hm⟩ := List.exists_mem_of_ne_nil _ (hB.1.2 x hx).1
    exact ⟨m, (hB.2 x.t m).1 ⟨x, hx, rfl, hm⟩⟩
def three : List (List UInt8) := [[97], [98], [99]]
theorem three_rise : three.Pairwise TL := by unfold three; decide
theorem Rel.texts (h : Rel N Ls Es es K v) {k : Nat} (hk : k < Ls.length) : Ls[k].R.map It.t = three.filter (fun t => decide (t ∈ Ls[k].R.map It.t)) := by
  have hB := h.bag k hk
  refine linT.ext (List.pairwise_map.2 hB.1.1) (three_rise.sublist List.filter_sublist) fun t => ?_
  rw [List.mem_filter, decide_eq_true_eq]
  constructor
  · intro ht
    refine ⟨?_, ht⟩
    obtain ⟨x, hx, rfl⟩ := List.mem_map.1 ht
    obtain ⟨m, hm⟩ := List.exists_mem_of_ne_nil _ (hB.1.2 x hx).1
    obtain ⟨j, e, he, -, -, e1, -⟩ := (hB.2 x.t m).1 ⟨x, hx, rfl, hm⟩
    rw [← e1]
    unfold three
    have := h.abc e (List.mem_of_getElem? he)
    simpa using this
  · exact fun ht => ht.2
/-- How many of the first ones are there. -/
def cnt (P : List UInt8 → Bool) (i : Nat) : Nat := ((three.take i).filter P).length
theorem cnt_step (P : List UInt8 → Bool) {i : Nat} (hi : i < three.length) : cnt P (i + 1) = cnt P i + (if P three[i] then 1 else 0) := by
  unfold cnt
  rw [List.take_succ_eq_append_getElem hi, List.filter_append, List.length_append]
  congr 1
  by_cases h : P three[i] = true
  · rw [List.filter_cons_of_pos h, if_pos h]; rfl
  · rw [List.filter_cons_of_neg h, if_neg h]; rfl
theorem cnt_at (P : List UInt8 → Bool) {i : Nat} (hi : i < three.length) (h : P three[i] = true) : ∃ h' : cnt P i < (three.filter P).length, (three.filter P)[cnt P i] = three[i] := by
  have e : three.filter P = (three.take i).filter P ++ three[i] :: (three.drop (i + 1)).filter P := by
    conv => lhs; rw [← List.take_append_drop i three, List.drop_eq_getElem_cons hi]
    rw [List.filter_append, List.filter_cons_of_pos h]
  have hl : cnt P i < (three.filter P).length := by rw [e, List.length_append, List.length_cons]; unfold cnt; omega
  refine ⟨hl, ?_⟩
  have h2 : (three.filter P)[cnt P i]? = some three[i] := by
    rw [e, List.getElem?_append_right (by unfold cnt; omega)]
    unfold cnt
    simp
  rw [List.getElem?_eq_getElem hl] at h2
  exact Option.some.inj h2
theorem cnt_all (P : List UInt8 → Bool) : cnt P 3 = (three.filter P).length := rfl
theorem Rel.may (h : Rel N Ls Es es K v) {k : Nat} (hk : k < Ls.length) (he : es.length ≤ 100) : mayB Ls[k].R = true := by
  have hB := h.bag k hk
  have hlive : ∀ x ∈ Ls[k].R, ∀ m ∈ x.d, Live es (K k) x.t m := fun x hx m hm => (hB.2 x.t m).1 ⟨x, hx, rfl, hm⟩
  refine (may_iff _).2 ⟨fun x hx => ⟨⟨?_, (hB.1.2 x hx).1⟩, (hB.1.2 x hx).2, fun m hm => ?_⟩, hB.1.1, ?_⟩
  · obtain ⟨m, hm⟩ := List.exists_mem_of_ne_nil _ (hB.1.2 x hx).1
    obtain ⟨j, e, he', -, -, e1, -⟩ := hlive x hx m hm
    rw [← e1]
    rcases h.abc e (List.mem_of_getElem? he') with e2 | e2 | e2 <;> rw [e2] <;> decide
  · obtain ⟨j, e, he', -, -, -, rfl, -⟩ := hlive x hx m hm
    have h1 := h.inv.past.one j e he'
    have h2 := h.inv.own j e he'
    have h3 := h.inv.small e.r e.r
    exact ⟨path_ne _, h1, by show e.n ≤ _; omega⟩
  · refine hB.1.1.imp_of_mem fun {x y} hx hy hxy m hm hm' => ?_
    obtain ⟨j, e, he1, -, -, e1, e2, -⟩ := hlive y hy m hm
    obtain ⟨i, f, hf1, -, -, f1, f2, -⟩ := hlive x hx m hm'
    have hd : dot e.r e.n = dot f.r f.n := by rw [← e2, ← f2]
    unfold dot at hd
    simp only [M.mk.injEq] at hd
    have hlow := h.low
    have hr := path_inj (by have := h.inv.past.who j e he1; omega) (by have := h.inv.past.who i f hf1; omega) hd.1
    have hij := h.inv.past.nums j i e f he1 hf1 hr hd.2
    subst hij
    rw [he1] at hf1
    obtain rfl := Option.some.inj hf1
    rw [← e1, ← f1] at hxy
    exact linT.irr _ hxy
end BagLaw
end Go.Proofs.Ytnlbgjghckbbcaa
