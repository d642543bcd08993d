/- The reference of Tree: Put, Drop. -/
import Derived.Test.YtjnlooccddnbkaaGreatDoorTmRefTree
import Derived.Test.YtjnlooccddnbkaaGreatDoorTmRefDotMay
import Derived.Sort.Walk0
namespace Go.Proofs.YtjnlooccddnbkaaGreatDoor
namespace Row
open Go.RowKit
/-- The rest of a slice from element k on. -/
theorem Lies.rest {α : Type} {E : Enc α} {w : World} {b off n : Nat} {L : List α} (h : Lies E w (some ⟨b, off, none⟩) n L) : ∀ k, k ≤ n → Lies E w (some ⟨b, off + k * E.k, none⟩) (n - k) (L.drop k)
  | 0, _ => by simpa using h
  | k + 1, hk => by
    have h1 := Lies.rest h k (by omega)
    have hl : k < L.length := by have := h.1; omega
    rw [List.drop_eq_getElem_cons hl] at h1
    have h2 := Lies.tail h1
    have e1 : n - k - 1 = n - (k + 1) := by omega
    have e2 : off + k * E.k + E.k = off + (k + 1) * E.k := by rw [Nat.add_mul, Nat.one_mul, Nat.add_assoc]
    rw [e1, e2] at h2
    exact h2
theorem Lies.first {α : Type} {E : Enc α} {w : World} {a : Option Addr} {n : Nat} {L : List α} (h : Lies E w a n L) {k : Nat} (hk : k ≤ n) : Lies E w a k (L.take k) :=
  ⟨by rw [List.length_take, ← h.1]; omega, fun hn => by
    obtain ⟨b, off, e, hc⟩ := h.2 (by omega)
    exact ⟨b, off, e, fun j hj i u hu => hc j (by rw [List.length_take] at hj; omega) i u (by rw [List.getElem_take] at hu; exact hu)⟩⟩
end Row
namespace RefTree
open Go.RowKit Go.Proofs.YtjnlooccddnbkaaGreatDoor.Mark Go.Proofs.YtjnlooccddnbkaaGreatDoor.Dots Go.Proofs.YtjnlooccddnbkaaGreatDoor.Tree
theorem flat_set : ∀ (L : List RI) (i : Nat), i < L.length → ∀ X : RI, Row.flat enc (L.set i X) = (((Row.flat enc L).set (i * 3) (.string ⟨X.k.toArray⟩)).set (i * 3 + 1) (.string ⟨X.b.toArray⟩)).set (i * 3 + 2) (.slice X.ms X.s.length X.mc)
  | [], _, h, _ => by cases h
  | y :: L, 0, _, X => rfl
  | y :: L, i + 1, h, X => by
    have ih := flat_set L i (by simpa using h) X
    rw [List.set_cons_succ, Row.flat_cons, Row.flat_cons, ih]
    rw [show (i + 1) * 3 = i * 3 + 1 + 1 + 1 by omega, show i * 3 + 1 + 1 + 1 + 1 = (i * 3 + 1) + 1 + 1 + 1 by omega, show i * 3 + 1 + 1 + 1 + 2 = (i * 3 + 2) + 1 + 1 + 1 by omega]
    rfl
theorem own_frozen {w : World} {B g n c : Nat} {L : List RI} (h : Row.Own enc 59 w B (.slice (some ⟨g, 0, none⟩) n c) L) (j : Nat) : w.frozen? ⟨g, j, none⟩ = false := by
  obtain ⟨cur, _, hg, _⟩ := Row.Own.row h
  exact frozen_of_row w g j _ _ hg
theorem cell_past {w : World} {g o o' : Nat} {v u : Value} (h : w.cell? ⟨g, o', none⟩ = some u) (hne : o ≠ o') : (w.setCell ⟨g, o, none⟩ v).cell? ⟨g, o', none⟩ = some u := by
  rw [World.cell?_setCell_other _ _ _ _ (fun e => hne (by injection e))]; exact h
theorem cell_else {w : World} {g o : Nat} {p : Addr} {v u : Value} (h : w.cell? p = some u) (hne : g ≠ p.block) : (w.setCell ⟨g, o, none⟩ v).cell? p = some u := by
  rw [World.cell?_setCell_other _ _ _ _ (fun e => hne (by rw [← e]))]; exact h
theorem own_ne {w : World} {B g n c rb : Nat} {v : Value} {L : List RI} (h1 : w.heap[rb]? = some (.cells #[v] 56 (0, 0))) (h : Row.Own enc 59 w B (.slice (some ⟨g, 0, none⟩) n c) L) : g ≠ rb := fun e => by
  obtain ⟨cur, _, hg, _⟩ := Row.Own.row h
  rw [e, h1] at hg
  cases hg
/-- An item is set in place. -/
theorem own_set {w : World} {B g n c : Nat} {L : List RI} (h : Row.Own enc 59 w B (.slice (some ⟨g, 0, none⟩) n c) L) {i : Nat} (hi : i < L.length) (X : RI) :
    Row.Own enc 59 (((w.setCell ⟨g, i * 3, none⟩ (.string ⟨X.k.toArray⟩)).setCell ⟨g, i * 3 + 1, none⟩ (.string ⟨X.b.toArray⟩)).setCell ⟨g, i * 3 + 2, none⟩ (.slice X.ms X.s.length X.mc)) B (.slice (some ⟨g, 0, none⟩) n c) (L.set i X) := by
  obtain ⟨cur, hB, hg, hn, hc, hm, hs, ht⟩ := Row.Own.row h
  have g1 := heap_setCell_same w g (i * 3) cur _ (.string ⟨X.k.toArray⟩) hg
  have g2 := heap_setCell_same _ g (i * 3 + 1) _ _ (.string ⟨X.b.toArray⟩) g1
  have g3 := heap_setCell_same _ g (i * 3 + 2) _ _ (.slice X.ms X.s.length X.mc) g2
  refine Row.own_of hB g3 (by rw [List.length_set]; exact hn) (by rw [List.length_set]; exact hc) hm (by simp only [Array.size_setIfInBounds]; exact hs) ?_
  rw [List.length_set, flat_set L i hi X, ← ht]
  simp only [Array.toList_setIfInBounds]
  have hk : enc.k = 3 := rfl
  rw [hk]
  rw [List.take_set, List.take_set, List.take_set]

/-- The world behind an item's store. -/
def stored (y : World) (g i : Nat) (X : RI) : World := ((y.drew.setCell ⟨g, i * 3, none⟩ (.string ⟨X.k.toArray⟩)).setCell ⟨g, i * 3 + 1, none⟩ (.string ⟨X.b.toArray⟩)).setCell ⟨g, i * 3 + 2, none⟩ (.slice X.ms X.s.length X.mc)
theorem stored_other (y : World) (g i : Nat) (X : RI) (j : Nat) (hj : j ≠ g) : (stored y g i X).heap[j]? = y.heap[j]? := by
  unfold stored
  rw [heap_setCell_other _ _ j _ hj, heap_setCell_other _ _ j _ hj, heap_setCell_other _ _ j _ hj]; rfl
theorem put_found {w x x2 : World} {rb : Nat} {L : List RI} (H : Is w x rb L) (k2 : Below x.heap.size x x2) {g n c : Nat} (p1 : x.heap[rb]? = some (.cells #[.slice (some ⟨g, 0, none⟩) n c] 56 (0, 0)))
    (p2 : Row.Own enc 59 x w.heap.size (.slice (some ⟨g, 0, none⟩) n c) L) {i : Nat} (hi : i < L.length) (X : RI) (hX : Mark.Lies w X.ms X.s.length X.s) : Is w (stored x2 g i X) rb (L.set i X) ∧ Turns w x (stored x2 g i X) := by
  have hne : g ≠ rb := own_ne p1 p2
  have hg := p2.lt g rfl
  refine ⟨⟨⟨_, ?_, own_set ((p2.below k2).drew) hi X⟩, fun y hy => ?_, H.lo⟩, ⟨k2.os, ?_, k2.output, ?_, fun j hj => ?_⟩⟩
  · rw [stored_other x2 g i X rb (fun e => hne e.symm)]
    exact (k2.block _ H.lt).trans p1
  · rcases List.mem_or_eq_of_mem_set hy with h | rfl
    · exact H.seen y h
    · exact hX
  · exact k2.tape
  · unfold stored; simp [World.setCell]; exact k2.size
  · by_cases e : j = g
    · subst e
      obtain ⟨cur, _, hh, _⟩ := Row.Own.row p2
      exact .inr ⟨hg.1, cur, _, hh, .inr rfl⟩
    · exact .inl ((stored_other x2 g i X j e).trans (k2.block j hj))
theorem box_frozen {w x W : World} {rb : Nat} {L : List RI} (H : Is w x rb L) (k : Below x.heap.size x W) : W.frozen? ⟨rb, 0, none⟩ = false := by
  obtain ⟨v0, p1, _⟩ := H.box
  exact frozen_of_row W rb 0 _ _ ((k.block _ H.lt).trans p1)
theorem put_stored {w x W : World} {rb B : Nat} {L L' : List RI} {v : Value} (H : Is w x rb L) (k : Below x.heap.size x W) (ho : Row.Own enc 59 W B v L') (hB : w.heap.size ≤ B) (hs : ∀ y ∈ L', Mark.Lies w y.ms y.s.length y.s) :
    Is w (W.setCell ⟨rb, 0, none⟩ v) rb L' ∧ Turns w x (W.setCell ⟨rb, 0, none⟩ v) := by
  obtain ⟨v0, p1, p2⟩ := H.box
  have h1 := (k.block _ H.lt).trans p1
  have hne : v.ownBlock = none ∨ v.ownBlock ≠ some rb := by
    refine .inr fun e => ?_
    rcases ho.2 with ⟨rfl, _⟩ | ⟨g, cap, cur, rfl, _, hg, _⟩
    · cases e
    · simp only [Value.ownBlock, Option.some.injEq] at e
      rw [e, h1] at hg
      cases hg
  have hcell := heap_setCell_same W rb 0 _ _ v h1
  have hown : Row.Own enc 59 (W.setCell ⟨rb, 0, none⟩ v) B v L' := World.ownsRow.kept ho (grownBy_setCell' W rb v) hne
  refine ⟨⟨⟨v, hcell, hown.base hB⟩, hs, H.lo⟩, ⟨k.os, k.tape, k.output, by simp [World.setCell]; exact k.size, fun j hj => ?_⟩⟩
  by_cases e : j = rb
  · subst e; exact .inr ⟨H.lo, _, _, p1, .inl rfl⟩
  · exact .inl ((heap_setCell_other W _ j _ e).trans (k.block j hj))
theorem slice_to (a : Option Addr) (n c k : Nat) (hk : k ≤ c) (w : World) : (Instr.sliceAt 54 (.slice a n c) none (some (.int .i64 (k : Int))) none).run Tryz.prog w = .ok (.slice a k c) w := by
  have hz : (sizeOf (Tryz.prog.elem 54)).run Tryz.prog w = .ok 3 w := by kernel_rfl
  rw [run_sliceAt_slice (h := by kernel_rfl), run_slice_h (ht := by kernel_rfl) (h0 := by omega) (h2 := by omega), hz]
  have e2 : (k : Int).toNat = k := by omega
  simp only [Result.andThen_ok, sliced, e2]
  cases a <;> simp [Addr.add]
theorem slice_from (a : Option Addr) (n c k : Nat) (hk : k ≤ n) (w : World) : (Instr.sliceAt 54 (.slice a n c) (some (.int .i64 (k : Int))) none none).run Tryz.prog w = .ok (.slice (if c = k then a else a.map (·.add (k * 3))) (n - k) (c - k)) w := by
  have hz : (sizeOf (Tryz.prog.elem 54)).run Tryz.prog w = .ok 3 w := by kernel_rfl
  rw [run_sliceAt_slice (h := by kernel_rfl), run_slice_l (ht := by kernel_rfl) (h0 := by omega) (h1 := by omega), hz]
  have e2 : (k : Int).toNat = k := by omega
  simp only [Result.andThen_ok, sliced, e2]
theorem lies_from {W : World} {a : Option Addr} {n c k : Nat} {L : List RI} (h : Row.Lies enc W a n L) (hk : k ≤ n) (hc : n ≤ c) : Row.Lies enc W (if c = k then a else a.map (·.add (k * 3))) (n - k) (L.drop k) := by
  by_cases e : k = n
  · subst e
    refine ⟨by rw [List.length_drop, ← h.1], fun hn => absurd hn (by omega)⟩
  · obtain ⟨b, off, rfl, _⟩ := h.2 (by omega)
    rw [if_neg (by omega), show Option.map (fun y : Addr => y.add (k * 3)) (some ⟨b, off, none⟩) = some ⟨b, off + k * 3, none⟩ from by simp [Go.WideShapes.add_plain]]
    exact h.rest k hk
theorem ins_all {L : List RI} (hu : Up (L.map RI.it)) {X : RI} {k : Nat} (hk : k ≤ L.length) (hno : ∀ y ∈ L, y.k ≠ X.k) (h1 : ∀ j (hj : j < L.length), j < k → L[j].k < X.k) (h2 : ∀ hj : k < L.length, ¬ L[k].k < X.k) : (L.take k ++ [X] ++ L.drop k).map RI.it = put X.it (L.map RI.it) := by
  rw [List.map_append, List.map_append, List.map_take, List.map_drop, List.append_assoc]
  refine ins_put (by rw [List.length_map]; exact hk) X.it (fun y hy => ?_) (fun y hy => ?_)
  · obtain ⟨j, hj, rfl⟩ := List.getElem_of_mem hy
    rw [List.getElem_take, List.getElem_map]
    rw [List.length_take, List.length_map] at hj
    exact h1 j (by omega) (by omega)
  · by_cases hkl : k < L.length
    · have hx : X.k < L[k].k := by
        rcases lt_ways L[k].k X.k with h | h | h
        · exact absurd h (h2 hkl)
        · exact absurd h (hno _ (List.getElem_mem hkl))
        · exact h
      rw [← List.map_drop, List.drop_eq_getElem_cons hkl, List.map_cons] at hy
      rcases List.mem_cons.1 hy with rfl | hy
      · exact hx
      · refine lt_trans hx ?_
        unfold Up at hu
        have hd := List.Pairwise.drop (i := k) hu
        rw [← List.map_drop, List.drop_eq_getElem_cons hkl, List.map_cons, List.pairwise_cons] at hd
        exact hd.1 y hy
    · rw [List.drop_of_length_le (by rw [List.length_map]; omega)] at hy
      cases hy
set_option maxRecDepth 100000 in
set_option maxHeartbeats 8000000 in
theorem put_any {w x : World} {rb : Nat} {L : List RI} (X : RI) (h : Is w x rb L) (hu : Up (L.map RI.it)) (hn : L.length ≤ 256) (hX : Mark.Lies w X.ms X.s.length X.s) (hwx : Below w.heap.size w x) (hok : Ok X.s) (hsn : X.s.length ≤ 549755813888) :
    Calls Tryz.prog 27 #[.pointer (some ⟨rb, 0, none⟩), .agg #[.string ⟨X.k.toArray⟩, .string ⟨X.b.toArray⟩, .slice X.ms X.s.length X.mc]] x fun e y => e = .returned (.int .i64 (putE (L.map RI.it) X.it)) ∧ (∃ L', L'.map RI.it = putL (L.map RI.it) X.it ∧ Is w y rb L') ∧ Turns w x y := by
  obtain ⟨sn, hsn2⟩ : ∃ n, n = X.s.length := ⟨_, rfl⟩
  rw [← hsn2] at hX hsn ⊢
  have HSN := Lib.hid hsn2
  have H := Lib.hid h
  have HU := Lib.hid hu
  have HX := Lib.hid hX
  have HOK := Lib.hid hok
  have HWX := Lib.hid hwx
  have MA := Lib.hid (fun y (k : Below w.heap.size w y) => RefDots.may_any X.s X.ms sn X.mc y (hX.below k) (by omega) hok)
  obtain ⟨mb, hmb⟩ : ∃ b, b = mayL X.s := ⟨_, rfl⟩
  rw [← hmb] at MA
  have HMB := Lib.hid hmb
  clear h hu hX hok hwx hsn2 hmb hsn
  have hkb := balloc (Below.refl x.heap.size x) (.cells #[.string ⟨X.k.toArray⟩, .string ⟨X.b.toArray⟩, .slice X.ms sn X.mc] 59)
  have b0 : (x.alloc (.cells #[.string ⟨X.k.toArray⟩, .string ⟨X.b.toArray⟩, .slice X.ms sn X.mc] 59)).cell? ⟨x.heap.size, 0, none⟩ = some (.string ⟨X.k.toArray⟩) := World.cell?_alloc_at _ _ _ 0 rfl
  have b1 : (x.alloc (.cells #[.string ⟨X.k.toArray⟩, .string ⟨X.b.toArray⟩, .slice X.ms sn X.mc] 59)).cell? ⟨x.heap.size, 1, none⟩ = some (.string ⟨X.b.toArray⟩) := World.cell?_alloc_at _ _ _ 1 rfl
  have b2 : (x.alloc (.cells #[.string ⟨X.k.toArray⟩, .string ⟨X.b.toArray⟩, .slice X.ms sn X.mc] 59)).cell? ⟨x.heap.size, 2, none⟩ = some (.slice X.ms sn X.mc) := World.cell?_alloc_at _ _ _ 2 rfl
  obtain ⟨x1, hx1⟩ : ∃ v, v = x.alloc (.cells #[.string ⟨X.k.toArray⟩, .string ⟨X.b.toArray⟩, .slice X.ms sn X.mc] 59) := ⟨_, rfl⟩
  obtain ⟨bx, hbx⟩ : ∃ v, v = x.heap.size := ⟨_, rfl⟩
  rw [← hx1] at hkb b0 b1 b2
  rw [← hbx] at b0 b1 b2
  have HKB := Lib.hid hkb
  have HBX := Lib.hid hbx
  clear hkb
  go_enter Tryz.func27, Tryz.ntmps27
  go_wp2_with fail
  rw [← hx1, ← hbx]
  clear hx1 hbx
  refine (MA.out _ (bstep HWX.out HKB.out)).mono ?_
  rintro e x2 ⟨rfl, k2⟩
  have HK2 := Lib.hid (bstep HKB.out k2)
  have H2 := Lib.hid (H.out.below HK2.out)
  replace b0 := Dots.keepC b0 k2
  replace b1 := Dots.keepC b1 k2
  replace b2 := Dots.keepC b2 k2
  clear k2 MA
  cases mb
  · have e2 : putE (L.map RI.it) X.it = 2 := by unfold putE; rw [show X.it.s = X.s from rfl, ← HMB.out]; rfl
    have HR : Hid (putE (L.map RI.it) X.it = 2 ∧ putL (L.map RI.it) X.it = L.map RI.it) := Lib.hid ⟨e2, by unfold putL; rw [if_neg (by rw [e2]; decide)]⟩
    clear e2
    go_wp2
    go_ret
    exact ⟨by rw [HR.out.1]; rfl, ⟨L, HR.out.2.symm, H2.out⟩, Turns.of HK2.out⟩
  go_wp2_with fail
  refine (at_any X.k H2.out hn).mono ?_
  rintro e x3 ⟨r, rfl, hat, rfl⟩
  have HAT := Lib.hid hat
  clear hat
  rcases HAT.out with ⟨i, hi, rfl, hik⟩ | ⟨rfl, hno⟩
  · skip
    have hf : (find (L.map RI.it) X.k).isSome = true := (mem_keys HU.out X.k).1 (List.mem_map.2 ⟨L[i].it, List.mem_map_of_mem (List.getElem_mem hi), hik⟩)
    have e0 : putE (L.map RI.it) X.it = 0 := by
      unfold putE
      rw [if_pos (show mayL X.it.s = true from HMB.out.symm), if_neg (fun h => by rw [show X.it.k = X.k from rfl, hf] at h; cases h.1)]
    have HR : Hid (putE (L.map RI.it) X.it = 0 ∧ (L.set i X).map RI.it = putL (L.map RI.it) X.it) := Lib.hid ⟨e0, by
      unfold putL
      rw [if_pos e0, List.map_set]
      exact set_put HU.out (by rw [List.length_map]; exact hi) _ (by rw [List.getElem_map]; exact hik)⟩
    have d1 : decide ((i : Int) ≥ 0) = true := decide_eq_true (by omega)
    have d2 : decide ((0 : Int) ≤ (i : Int)) = true := decide_eq_true (by omega)
    have HI := Lib.hid hi
    obtain ⟨v, p1, p2⟩ := H.out.box
    have h1 := (HK2.out.block _ H.out.lt).trans p1
    have h2 := p2.below HK2.out
    obtain ⟨a, c, rfl, -, -, hl, -⟩ := Row.Own.lies h2
    obtain ⟨gg, o, rfl, hcell⟩ := items_at hl (by omega)
    obtain ⟨c0, c1, c2⟩ := hcell i hi
    obtain ⟨Y, hY⟩ : ∃ Y, Y = L[i]'hi := ⟨_, rfl⟩
    rw [← hY] at c0 c1 c2
    have cb : x2.cell? ⟨rb, 0, none⟩ = some (.slice (some ⟨gg, o, none⟩) L.length c) := by rw [cell_of_row x2 rb 0 _ _ _ h1]; rfl
    have ho : o = 0 := by
      rcases h2.2 with ⟨e, _⟩ | ⟨g', cap, cur, e, _⟩
      · simp at e
      · simp only [Value.slice.injEq, Option.some.injEq, Addr.mk.injEq] at e; exact e.1.2.1
    subst ho
    have i1 : (0 : Int) ≤ (i : Int) := by omega
    have i2 : (i : Int) < (L.length : Int) := by omega
    rw [Nat.zero_add] at c0 c1 c2
    have f0 : x2.frozen? ⟨gg, i * 3, none⟩ = false := own_frozen h2 _
    have f1 : x2.frozen? ⟨gg, i * 3 + 1, none⟩ = false := own_frozen h2 _
    have f2 : x2.frozen? ⟨gg, i * 3 + 2, none⟩ = false := own_frozen h2 _
    have c1' : (x2.setCell ⟨gg, i * 3, none⟩ (.string ⟨X.k.toArray⟩)).cell? ⟨gg, i * 3 + 1, none⟩ = some (.string ⟨Y.b.toArray⟩) := cell_past c1 (by omega)
    have c2' : ((x2.setCell ⟨gg, i * 3, none⟩ (.string ⟨X.k.toArray⟩)).setCell ⟨gg, i * 3 + 1, none⟩ (.string ⟨X.b.toArray⟩)).cell? ⟨gg, i * 3 + 2, none⟩ = some (.slice Y.ms Y.s.length Y.mc) := cell_past (cell_past c2 (by omega)) (by omega)
    have HO := Lib.hid h2
    have HV := Lib.hid h1
    have hgr : gg ≠ rb := own_ne h1 h2
    have hgb : gg ≠ bx := by have h := (p2.lt gg rfl).2; have := HBX.out; omega
    have HGG : Hid (w.heap.size ≤ gg ∧ gg < x.heap.size) := Lib.hid (p2.lt gg rfl)
    have HP := Lib.hid (And.intro p1 p2)
    clear hf e0 hik hi hl h1 h2 hY hcell p1 p2
    go_wp2_with fail
    refine wp_region_noPanic ?_
    refine wp_region_held_drew (S := (fun w' => w'.cell? ⟨rb, 0, none⟩ = some (.slice (some ⟨gg, 0, none⟩) L.length c) ∧ w'.cell? ⟨bx, 0, none⟩ = some (.string ⟨X.k.toArray⟩) ∧ w'.cell? ⟨bx, 1, none⟩ = some (.string ⟨X.b.toArray⟩) ∧ w'.cell? ⟨bx, 2, none⟩ = some (.slice X.ms sn X.mc))) (by kernel_rfl) (⟨cb, b0, b1, b2⟩) (fun hHeld => ?_)
    refine wpAnyH_take (i := 0) (v := ?_) (by simp only [List.getElem?_toArray, List.getElem?_cons_zero]; rfl) (by kernel_rfl) (by kernel_rfl) (by kernel_rfl) (fun _ _ _ h => h) (Or.inl ⟨by rfl, ?_⟩) (by assumption) ?_
    rotate_left
    · (intro w hSw; (try dsimp only at hSw); go_simp; try with_reducible rfl)
    try simp only [Act.put, List.setIfInBounds_toArray, List.set_cons_zero, List.set_cons_succ]
    refine wpAnyH_take (i := 1) (v := ?_) (by simp only [List.getElem?_toArray, List.getElem?_cons_succ, List.getElem?_cons_zero]; rfl) (by kernel_rfl) (by kernel_rfl) (by kernel_rfl) (fun _ _ _ h => h) (Or.inl ⟨by rfl, ?_⟩) (by assumption) ?_
    rotate_left
    · (intro w hSw; (try dsimp only at hSw); go_simp; try with_reducible rfl)
    try simp only [Act.put, List.setIfInBounds_toArray, List.set_cons_zero, List.set_cons_succ]
    refine wpAnyH_take (i := 2) (v := ?_) (by simp only [List.getElem?_toArray, List.getElem?_cons_succ, List.getElem?_cons_zero]; rfl) (by kernel_rfl) (by kernel_rfl) (by kernel_rfl) (fun _ _ _ h => h) (Or.inl ⟨by rfl, ?_⟩) (by assumption) ?_
    rotate_left
    · (intro w hSw; (try dsimp only at hSw); go_simp; try with_reducible rfl)
    try simp only [Act.put, List.setIfInBounds_toArray, List.set_cons_zero, List.set_cons_succ]
    refine wpAnyH_take (i := 3) (v := ?_) (by simp only [List.getElem?_toArray, List.getElem?_cons_succ, List.getElem?_cons_zero]; rfl) (by kernel_rfl) (by kernel_rfl) (by kernel_rfl) (fun _ _ _ h => h) (Or.inl ⟨by rfl, ?_⟩) (by assumption) ?_
    rotate_left
    · (intro w hSw; (try dsimp only at hSw); go_simp; try with_reducible rfl)
    try simp only [Act.put, List.setIfInBounds_toArray, List.set_cons_zero, List.set_cons_succ]
    refine wpAnyH_take (i := 4) (v := ?_) (by simp only [List.getElem?_toArray, List.getElem?_cons_succ, List.getElem?_cons_zero]; rfl) (by kernel_rfl) (by kernel_rfl) (by kernel_rfl) (fun _ _ _ h => h) (Or.inl ⟨by rfl, ?_⟩) (by assumption) ?_
    rotate_left
    · (intro w hSw; (try dsimp only at hSw); go_simp; try with_reducible rfl)
    try simp only [Act.put, List.setIfInBounds_toArray, List.set_cons_zero, List.set_cons_succ]
    refine wpAnyH_take (i := 5) (v := ?_) (by simp only [List.getElem?_toArray, List.getElem?_cons_succ, List.getElem?_cons_zero]; rfl) (by kernel_rfl) (by kernel_rfl) (by kernel_rfl) (fun _ _ _ h => h) (Or.inl ⟨by rfl, ?_⟩) (by assumption) ?_
    rotate_left
    · (intro w hSw; (try dsimp only at hSw); go_simp; try with_reducible rfl)
    try simp only [Act.put, List.setIfInBounds_toArray, List.set_cons_zero, List.set_cons_succ]
    refine wpAnyH_take (i := 6) (v := ?_) (by simp only [List.getElem?_toArray, List.getElem?_cons_succ, List.getElem?_cons_zero]; rfl) (by kernel_rfl) (by kernel_rfl) (by kernel_rfl) (fun _ _ _ h => h) (Or.inl ⟨by rfl, ?_⟩) (by assumption) ?_
    rotate_left
    · (intro w hSw; (try dsimp only at hSw); go_simp; try with_reducible rfl)
    try simp only [Act.put, List.setIfInBounds_toArray, List.set_cons_zero, List.set_cons_succ]
    refine wpAnyH_ready (rs := [7]) (by kernel_rfl) (by simp) ?_
    refine AllReadyH.cons (by simp only [List.getElem?_toArray, List.getElem?_cons_succ, List.getElem?_cons_zero]; rfl) (fun K hK => ?_) AllReadyH.nil
    go_simp
    skip
    refine hK.out _ _ (⟨cell_else (cell_else (cell_else cb hgr) hgr) hgr, cell_else (cell_else (cell_else b0 hgb) hgb) hgb, cell_else (cell_else (cell_else b1 hgb) hgb) hgb, cell_else (cell_else (cell_else b2 hgb) hgb) hgb⟩) (fun hHeld => ?_)
    clear hK K
    try simp only [Act.put, List.setIfInBounds_toArray, List.set_cons_zero, List.set_cons_succ]
    refine wpAnyH_done (by kernel_rfl) ?_ _
    refine NoPanic.normal ?_
    have HF := Lib.hid (put_found (i := i) H.out HK2.out HP.out.1 HP.out.2 HI.out X (by rw [← HSN.out]; exact HX.out))
    clear hHeld c0 c1 c2 c1' c2' f0 f1 f2 cb b0 b1 b2
    go_wp2
    go_ret
    refine ⟨by rw [HR.out.1]; rfl, ⟨_, HR.out.2, ?_⟩, ?_⟩
    · have := HF.out.1
      unfold stored at this
      rw [← HSN.out] at this
      exact this
    · have := HF.out.2
      unfold stored at this
      rw [← HSN.out] at this
      exact this
  have d1 : decide ((-1 : Int) ≥ 0) = false := by decide
  have d2 : decide ((0 : Int) ≤ -1) = false := by decide
  have hf : find (L.map RI.it) X.k = none := (find_none _ _).2 (fun y hy => by
    obtain ⟨z, hz, rfl⟩ := List.mem_map.1 hy
    exact hno z hz)
  by_cases hfull : 256 ≤ L.length
  · have e6 : putE (L.map RI.it) X.it = 6 := by
      unfold putE
      rw [if_pos (show mayL X.it.s = true from HMB.out.symm), if_pos ⟨by rw [show X.it.k = X.k from rfl, hf]; rfl, by rw [List.length_map]; exact hfull⟩]
    have HR : Hid (putE (L.map RI.it) X.it = 6 ∧ putL (L.map RI.it) X.it = L.map RI.it) := Lib.hid ⟨e6, by unfold putL; rw [if_neg (by rw [e6]; decide)]⟩
    obtain ⟨v, p1, p2⟩ := H.out.box
    have h1 := (HK2.out.block _ H.out.lt).trans p1
    obtain ⟨a, c, rfl, -⟩ := Row.Own.lies p2
    have cb : x2.cell? ⟨rb, 0, none⟩ = some (.slice a L.length c) := by rw [cell_of_row x2 rb 0 _ _ _ h1]; rfl
    have d3 : decide ((L.length : Int) ≥ 256) = true := decide_eq_true (by omega)
    have d4 : decide ((256 : Int) ≤ (L.length : Int)) = true := decide_eq_true (by omega)
    clear e6 h1 p1 p2 hf hno
    go_wp2
    go_ret
    exact ⟨by rw [HR.out.1]; rfl, ⟨L, HR.out.2.symm, H2.out⟩, Turns.of HK2.out⟩
  have e0 : putE (L.map RI.it) X.it = 0 := by
    unfold putE
    rw [if_pos (show mayL X.it.s = true from HMB.out.symm), if_neg (fun h => hfull (by have := h.2; rw [List.length_map] at this; exact this))]
  have HR : Hid (putE (L.map RI.it) X.it = 0 ∧ putL (L.map RI.it) X.it = put X.it (L.map RI.it)) := Lib.hid ⟨e0, by unfold putL; rw [if_pos e0]⟩
  obtain ⟨v, p1, p2⟩ := H.out.box
  have h1 := (HK2.out.block _ H.out.lt).trans p1
  obtain ⟨a, c, rfl, hlc, hcm, -, -, hz⟩ := Row.Own.lies' p2
  obtain ⟨a2, c2, e2, -, -, hl, -⟩ := (p2.below HK2.out).lies
  simp only [Value.slice.injEq, true_and] at e2
  obtain ⟨rfl, rfl⟩ := e2
  have cb : x2.cell? ⟨rb, 0, none⟩ = some (.slice a L.length c) := by rw [cell_of_row x2 rb 0 _ _ _ h1]; rfl
  have d3 : decide ((L.length : Int) ≥ 256) = false := decide_eq_false (by omega)
  have d4 : decide ((256 : Int) ≤ (L.length : Int)) = false := decide_eq_false (by omega)
  have HNO := Lib.hid hno
  have LL := Lib.hid hl
  obtain ⟨n, hnn⟩ : ∃ n, n = L.length := ⟨_, rfl⟩
  rw [← hnn] at LL cb d3 d4 hlc hn
  have HN := Lib.hid hnn
  have hb := HK2.out
  clear e0 h1 p1 p2 hf hno hl hfull H2 HK2 hnn
  go_wp2_with fail
  go_loopw [6] (fun iv wr => ∃ k : Nat, k ≤ n ∧ iv = .int .i64 k ∧ Hid (∀ j (hj : j < L.length), j < k → L[j].k < X.k) ∧ Below x.heap.size x wr ∧ wr.cell? ⟨rb, 0, none⟩ = some (.slice a n c) ∧ wr.cell? ⟨bx, 0, none⟩ = some (.string ⟨X.k.toArray⟩) ∧ wr.cell? ⟨bx, 1, none⟩ = some (.string ⟨X.b.toArray⟩) ∧ wr.cell? ⟨bx, 2, none⟩ = some (.slice X.ms sn X.mc) ∧ Hid (Row.Lies enc wr a n L)) (fun iv _ => n - (intOf iv).toNat)
  case atStart => exact ⟨0, by omega, rfl, Lib.hid (fun j _ hj => by omega), hb, cb, b0, b1, b2, LL⟩
  case round =>
    clear hb cb b0 b1 b2 LL
    obtain ⟨k, hk, rfl, HI, hb, cb, b0, b1, b2, LL⟩ := hrel
    by_cases hlt : k < n
    · have hll : k < L.length := by rw [← HN.out]; exact hlt
      obtain ⟨ba, o, rfl, hcell⟩ := items_at LL.out (by omega)
      obtain ⟨c0, -, -⟩ := hcell k hll
      have hls := Go.Proofs.bytesLess_eq L[k].k X.k
      have d5 : decide ((k : Int) < (n : Int)) = true := decide_eq_true (by omega)
      have j1 : (0 : Int) ≤ (k : Int) := by omega
      have j2 : (k : Int) < (n : Int) := by omega
      have HK := Lib.hid hlt
      have HX1 : Hid (L[k].k < X.k → ∀ j (hj : j < L.length), j < k + 1 → L[j].k < X.k) := Lib.hid (fun h j hj hjk => by
        by_cases e : j = k
        · subst e; exact h
        · exact HI.out j hj (by omega))
      have HX2 : Hid (¬ L[k].k < X.k → (L.take k ++ [X] ++ L.drop k).map RI.it = put X.it (L.map RI.it)) := Lib.hid (fun h => ins_all HU.out (Nat.le_of_lt hll) HNO.out HI.out (fun _ => h))
      obtain ⟨t, ht⟩ : ∃ t, t = L[k].k := ⟨_, rfl⟩
      rw [← ht] at c0 hls HX1 HX2
      clear hcell ht hll hlt
      by_cases hl : t < X.k
      · rw [decide_eq_true hl] at hls
        have HZ := Lib.hid (HX1.out hl)
        clear HX1 HX2 hl HI
        go_wp2_with fail
        refine wp_region_noPanic ?_
        refine wp_region_held_drew (S := (fun w' => Below x.heap.size x w' ∧ w'.cell? ⟨rb, 0, none⟩ = some (.slice (some ⟨ba, o, none⟩) n c) ∧ w'.cell? ⟨bx, 0, none⟩ = some (.string ⟨X.k.toArray⟩) ∧ w'.cell? ⟨bx, 1, none⟩ = some (.string ⟨X.b.toArray⟩) ∧ w'.cell? ⟨bx, 2, none⟩ = some (.slice X.ms sn X.mc) ∧ Row.Lies enc w' (some ⟨ba, o, none⟩) n L ∧ w'.cell? ⟨ba, o + k * 3, none⟩ = some (.string ⟨t.toArray⟩))) (by kernel_rfl) (⟨Below.drew hb, Dots.keepC cb (Below.drew (Below.refl _ _)), Dots.keepC b0 (Below.drew (Below.refl _ _)), Dots.keepC b1 (Below.drew (Below.refl _ _)), Dots.keepC b2 (Below.drew (Below.refl _ _)), (LL.out).below (Below.drew (Below.refl _ _)), Dots.keepC c0 (Below.drew (Below.refl _ _))⟩) (fun hHeld => ?_)
        refine wpAnyH_take (i := 0) (v := ?_) (by simp only [List.getElem?_toArray, List.getElem?_cons_zero]; rfl) (by kernel_rfl) (by kernel_rfl) (by kernel_rfl) (fun _ _ _ h => h) (Or.inl ⟨by rfl, ?_⟩) (by assumption) ?_
        rotate_left
        · (intro w hSw; (try dsimp only at hSw); go_simp; try with_reducible rfl)
        try simp only [Act.put, List.setIfInBounds_toArray, List.set_cons_zero, List.set_cons_succ]
        refine wpAnyH_take (i := 1) (v := ?_) (by simp only [List.getElem?_toArray, List.getElem?_cons_succ, List.getElem?_cons_zero]; rfl) (by kernel_rfl) (by kernel_rfl) (by kernel_rfl) (fun _ _ _ h => h) (Or.inl ⟨by rfl, ?_⟩) (by assumption) ?_
        rotate_left
        · (intro w hSw; (try dsimp only at hSw); go_simp; try with_reducible rfl)
        try simp only [Act.put, List.setIfInBounds_toArray, List.set_cons_zero, List.set_cons_succ]
        refine wpAnyH_take (i := 2) (v := ?_) (by simp only [List.getElem?_toArray, List.getElem?_cons_succ, List.getElem?_cons_zero]; rfl) (by kernel_rfl) (by kernel_rfl) (by kernel_rfl) (fun _ _ _ h => h) (Or.inl ⟨by rfl, ?_⟩) (by assumption) ?_
        rotate_left
        · (intro w hSw; (try dsimp only at hSw); go_simp; try with_reducible rfl)
        try simp only [Act.put, List.setIfInBounds_toArray, List.set_cons_zero, List.set_cons_succ]
        refine wpAnyH_take (i := 3) (v := ?_) (by simp only [List.getElem?_toArray, List.getElem?_cons_succ, List.getElem?_cons_zero]; rfl) (by kernel_rfl) (by kernel_rfl) (by kernel_rfl) (fun _ _ _ h => h) (Or.inl ⟨by rfl, ?_⟩) (by assumption) ?_
        rotate_left
        · (intro w hSw; (try dsimp only at hSw); go_simp; try with_reducible rfl)
        try simp only [Act.put, List.setIfInBounds_toArray, List.set_cons_zero, List.set_cons_succ]
        refine wpAnyH_take (i := 4) (v := ?_) (by simp only [List.getElem?_toArray, List.getElem?_cons_succ, List.getElem?_cons_zero]; rfl) (by kernel_rfl) (by kernel_rfl) (by kernel_rfl) (fun _ _ _ h => h) (Or.inl ⟨by rfl, ?_⟩) (by assumption) ?_
        rotate_left
        · (intro w hSw; (try dsimp only at hSw); go_simp; try with_reducible rfl)
        try simp only [Act.put, List.setIfInBounds_toArray, List.set_cons_zero, List.set_cons_succ]
        refine wpAnyH_take (i := 5) (v := ?_) (by simp only [List.getElem?_toArray, List.getElem?_cons_succ, List.getElem?_cons_zero]; rfl) (by kernel_rfl) (by kernel_rfl) (by kernel_rfl) (fun _ _ _ h => h) (Or.inl ⟨by rfl, ?_⟩) (by assumption) ?_
        rotate_left
        · (intro w hSw; (try dsimp only at hSw); go_simp; try with_reducible rfl)
        try simp only [Act.put, List.setIfInBounds_toArray, List.set_cons_zero, List.set_cons_succ]
        refine wpAnyH_take (i := 6) (v := ?_) (by simp only [List.getElem?_toArray, List.getElem?_cons_succ, List.getElem?_cons_zero]; rfl) (by kernel_rfl) (by kernel_rfl) (by kernel_rfl) (fun _ _ _ h => h) (Or.inl ⟨by rfl, ?_⟩) (by assumption) ?_
        rotate_left
        · (intro w hSw; (try dsimp only at hSw); go_simp; try with_reducible rfl)
        try simp only [Act.put, List.setIfInBounds_toArray, List.set_cons_zero, List.set_cons_succ]
        refine wpAnyH_take (i := 7) (v := ?_) (by simp only [List.getElem?_toArray, List.getElem?_cons_succ, List.getElem?_cons_zero]; rfl) (by kernel_rfl) (by kernel_rfl) (by kernel_rfl) (fun _ _ _ h => h) (Or.inl ⟨by rfl, ?_⟩) (by assumption) ?_
        rotate_left
        · (intro w hSw; (try dsimp only at hSw); go_simp; try with_reducible rfl)
        try simp only [Act.put, List.setIfInBounds_toArray, List.set_cons_zero, List.set_cons_succ]
        refine wpAnyH_take (i := 8) (v := ?_) (by simp only [List.getElem?_toArray, List.getElem?_cons_succ, List.getElem?_cons_zero]; rfl) (by kernel_rfl) (by kernel_rfl) (by kernel_rfl) (fun _ _ _ h => h) (Or.inl ⟨by rfl, ?_⟩) (by assumption) ?_
        rotate_left
        · (intro w hSw; (try dsimp only at hSw); go_simp; try with_reducible rfl)
        try simp only [Act.put, List.setIfInBounds_toArray, List.set_cons_zero, List.set_cons_succ]
        refine wpAnyH_take (i := 9) (v := ?_) (by simp only [List.getElem?_toArray, List.getElem?_cons_succ, List.getElem?_cons_zero]; rfl) (by kernel_rfl) (by kernel_rfl) (by kernel_rfl) (fun _ _ _ h => h) (Or.inl ⟨by rfl, ?_⟩) (by assumption) ?_
        rotate_left
        · (intro w hSw; (try dsimp only at hSw); go_simp; try with_reducible rfl)
        try simp only [Act.put, List.setIfInBounds_toArray, List.set_cons_zero, List.set_cons_succ]
        refine wpAnyH_take (i := 10) (v := ?_) (by simp only [List.getElem?_toArray, List.getElem?_cons_succ, List.getElem?_cons_zero]; rfl) (by kernel_rfl) (by kernel_rfl) (by kernel_rfl) (fun _ _ _ h => h) (Or.inl ⟨by rfl, ?_⟩) (by assumption) ?_
        rotate_left
        · (intro w hSw; (try dsimp only at hSw); go_simp; try with_reducible rfl)
        try simp only [Act.put, List.setIfInBounds_toArray, List.set_cons_zero, List.set_cons_succ]
        refine wpAnyH_take (i := 11) (v := ?_) (by simp only [List.getElem?_toArray, List.getElem?_cons_succ, List.getElem?_cons_zero]; rfl) (by kernel_rfl) (by kernel_rfl) (by kernel_rfl) (fun _ _ _ h => h) (Or.inl ⟨by rfl, ?_⟩) (by assumption) ?_
        rotate_left
        · (intro w hSw; (try dsimp only at hSw); go_simp; try with_reducible rfl)
        try simp only [Act.put, List.setIfInBounds_toArray, List.set_cons_zero, List.set_cons_succ]
        refine wpAnyH_take (i := 12) (v := ?_) (by simp only [List.getElem?_toArray, List.getElem?_cons_succ, List.getElem?_cons_zero]; rfl) (by kernel_rfl) (by kernel_rfl) (by kernel_rfl) (fun _ _ _ h => h) (Or.inl ⟨by rfl, ?_⟩) (by assumption) ?_
        rotate_left
        · (intro w hSw; (try dsimp only at hSw); go_simp; try with_reducible rfl)
        try simp only [Act.put, List.setIfInBounds_toArray, List.set_cons_zero, List.set_cons_succ]
        refine wpAnyH_take (i := 13) (v := ?_) (by simp only [List.getElem?_toArray, List.getElem?_cons_succ, List.getElem?_cons_zero]; rfl) (by kernel_rfl) (by kernel_rfl) (by kernel_rfl) (fun _ _ _ h => h) (Or.inl ⟨by rfl, ?_⟩) (by assumption) ?_
        rotate_left
        · (intro w hSw; (try dsimp only at hSw); go_simp; try with_reducible rfl)
        try simp only [Act.put, List.setIfInBounds_toArray, List.set_cons_zero, List.set_cons_succ]
        refine wpAnyH_take (i := 14) (v := ?_) (by simp only [List.getElem?_toArray, List.getElem?_cons_succ, List.getElem?_cons_zero]; rfl) (by kernel_rfl) (by kernel_rfl) (by kernel_rfl) (fun _ _ _ h => h) (Or.inl ⟨by rfl, ?_⟩) (by assumption) ?_
        rotate_left
        · (intro w hSw; (try dsimp only at hSw); go_simp; try with_reducible rfl)
        try simp only [Act.put, List.setIfInBounds_toArray, List.set_cons_zero, List.set_cons_succ]
        refine wpAnyH_take (i := 15) (v := ?_) (by simp only [List.getElem?_toArray, List.getElem?_cons_succ, List.getElem?_cons_zero]; rfl) (by kernel_rfl) (by kernel_rfl) (by kernel_rfl) (fun _ _ _ h => h) (Or.inl ⟨by rfl, ?_⟩) (by assumption) ?_
        rotate_left
        · (intro w hSw; (try dsimp only at hSw); go_simp; try with_reducible rfl)
        try simp only [Act.put, List.setIfInBounds_toArray, List.set_cons_zero, List.set_cons_succ]
        refine wpAnyH_take (i := 16) (v := ?_) (by simp only [List.getElem?_toArray, List.getElem?_cons_succ, List.getElem?_cons_zero]; rfl) (by kernel_rfl) (by kernel_rfl) (by kernel_rfl) (fun _ _ _ h => h) (Or.inl ⟨by rfl, ?_⟩) (by assumption) ?_
        rotate_left
        · (intro w hSw; (try dsimp only at hSw); go_simp; try with_reducible rfl)
        try simp only [Act.put, List.setIfInBounds_toArray, List.set_cons_zero, List.set_cons_succ]
        refine wpAnyH_take (i := 17) (v := ?_) (by simp only [List.getElem?_toArray, List.getElem?_cons_succ, List.getElem?_cons_zero]; rfl) (by kernel_rfl) (by kernel_rfl) (by kernel_rfl) (fun _ _ _ h => h) (Or.inl ⟨by rfl, ?_⟩) (by assumption) ?_
        rotate_left
        · (intro w hSw; (try dsimp only at hSw); go_simp; try with_reducible rfl)
        try simp only [Act.put, List.setIfInBounds_toArray, List.set_cons_zero, List.set_cons_succ]
        refine wpAnyH_take (i := 18) (v := ?_) (by simp only [List.getElem?_toArray, List.getElem?_cons_succ, List.getElem?_cons_zero]; rfl) (by kernel_rfl) (by kernel_rfl) (by kernel_rfl) (fun _ _ _ h => h) (Or.inl ⟨by rfl, ?_⟩) (by assumption) ?_
        rotate_left
        · (intro w hSw; (try dsimp only at hSw); go_simp; try with_reducible rfl)
        try simp only [Act.put, List.setIfInBounds_toArray, List.set_cons_zero, List.set_cons_succ]
        refine wpAnyH_take (i := 19) (v := ?_) (by simp only [List.getElem?_toArray, List.getElem?_cons_succ, List.getElem?_cons_zero]; rfl) (by kernel_rfl) (by kernel_rfl) (by kernel_rfl) (fun _ _ _ h => h) (Or.inl ⟨by rfl, ?_⟩) (by assumption) ?_
        rotate_left
        · (intro w hSw; (try dsimp only at hSw); go_simp; try with_reducible rfl)
        try simp only [Act.put, List.setIfInBounds_toArray, List.set_cons_zero, List.set_cons_succ]
        refine wpAnyH_done (by kernel_rfl) ?_ _
        refine NoPanic.normal ?_
        clear hb cb b0 b1 b2 LL c0
        obtain ⟨hb, cb, b0, b1, b2, LL, c0⟩ := hHeld
        replace LL := Lib.hid LL
        go_wp2
        go_roundw
        case rel => exact ⟨k + 1, by have := HK.out; omega, by go_num, HZ, hb, cb, b0, b1, b2, LL⟩
        case measure => have := HK.out; simp [intOf]; omega
      · rw [decide_eq_false hl] at hls
        have HQ := Lib.hid (HX2.out hl)
        clear HX1 HX2 hl HI
        go_wp2_with fail
        refine wp_region_noPanic ?_
        refine wp_region_held_drew (S := (fun w' => Below x.heap.size x w' ∧ w'.cell? ⟨rb, 0, none⟩ = some (.slice (some ⟨ba, o, none⟩) n c) ∧ w'.cell? ⟨bx, 0, none⟩ = some (.string ⟨X.k.toArray⟩) ∧ w'.cell? ⟨bx, 1, none⟩ = some (.string ⟨X.b.toArray⟩) ∧ w'.cell? ⟨bx, 2, none⟩ = some (.slice X.ms sn X.mc) ∧ Row.Lies enc w' (some ⟨ba, o, none⟩) n L ∧ w'.cell? ⟨ba, o + k * 3, none⟩ = some (.string ⟨t.toArray⟩))) (by kernel_rfl) (⟨Below.drew hb, Dots.keepC cb (Below.drew (Below.refl _ _)), Dots.keepC b0 (Below.drew (Below.refl _ _)), Dots.keepC b1 (Below.drew (Below.refl _ _)), Dots.keepC b2 (Below.drew (Below.refl _ _)), (LL.out).below (Below.drew (Below.refl _ _)), Dots.keepC c0 (Below.drew (Below.refl _ _))⟩) (fun hHeld => ?_)
        refine wpAnyH_take (i := 0) (v := ?_) (by simp only [List.getElem?_toArray, List.getElem?_cons_zero]; rfl) (by kernel_rfl) (by kernel_rfl) (by kernel_rfl) (fun _ _ _ h => h) (Or.inl ⟨by rfl, ?_⟩) (by assumption) ?_
        rotate_left
        · (intro w hSw; (try dsimp only at hSw); go_simp; try with_reducible rfl)
        try simp only [Act.put, List.setIfInBounds_toArray, List.set_cons_zero, List.set_cons_succ]
        refine wpAnyH_take (i := 1) (v := ?_) (by simp only [List.getElem?_toArray, List.getElem?_cons_succ, List.getElem?_cons_zero]; rfl) (by kernel_rfl) (by kernel_rfl) (by kernel_rfl) (fun _ _ _ h => h) (Or.inl ⟨by rfl, ?_⟩) (by assumption) ?_
        rotate_left
        · (intro w hSw; (try dsimp only at hSw); go_simp; try with_reducible rfl)
        try simp only [Act.put, List.setIfInBounds_toArray, List.set_cons_zero, List.set_cons_succ]
        refine wpAnyH_take (i := 2) (v := ?_) (by simp only [List.getElem?_toArray, List.getElem?_cons_succ, List.getElem?_cons_zero]; rfl) (by kernel_rfl) (by kernel_rfl) (by kernel_rfl) (fun _ _ _ h => h) (Or.inl ⟨by rfl, ?_⟩) (by assumption) ?_
        rotate_left
        · (intro w hSw; (try dsimp only at hSw); go_simp; try with_reducible rfl)
        try simp only [Act.put, List.setIfInBounds_toArray, List.set_cons_zero, List.set_cons_succ]
        refine wpAnyH_take (i := 3) (v := ?_) (by simp only [List.getElem?_toArray, List.getElem?_cons_succ, List.getElem?_cons_zero]; rfl) (by kernel_rfl) (by kernel_rfl) (by kernel_rfl) (fun _ _ _ h => h) (Or.inl ⟨by rfl, ?_⟩) (by assumption) ?_
        rotate_left
        · (intro w hSw; (try dsimp only at hSw); go_simp; try with_reducible rfl)
        try simp only [Act.put, List.setIfInBounds_toArray, List.set_cons_zero, List.set_cons_succ]
        refine wpAnyH_take (i := 4) (v := ?_) (by simp only [List.getElem?_toArray, List.getElem?_cons_succ, List.getElem?_cons_zero]; rfl) (by kernel_rfl) (by kernel_rfl) (by kernel_rfl) (fun _ _ _ h => h) (Or.inl ⟨by rfl, ?_⟩) (by assumption) ?_
        rotate_left
        · (intro w hSw; (try dsimp only at hSw); go_simp; try with_reducible rfl)
        try simp only [Act.put, List.setIfInBounds_toArray, List.set_cons_zero, List.set_cons_succ]
        refine wpAnyH_take (i := 5) (v := ?_) (by simp only [List.getElem?_toArray, List.getElem?_cons_succ, List.getElem?_cons_zero]; rfl) (by kernel_rfl) (by kernel_rfl) (by kernel_rfl) (fun _ _ _ h => h) (Or.inl ⟨by rfl, ?_⟩) (by assumption) ?_
        rotate_left
        · (intro w hSw; (try dsimp only at hSw); go_simp; try with_reducible rfl)
        try simp only [Act.put, List.setIfInBounds_toArray, List.set_cons_zero, List.set_cons_succ]
        refine wpAnyH_take (i := 6) (v := ?_) (by simp only [List.getElem?_toArray, List.getElem?_cons_succ, List.getElem?_cons_zero]; rfl) (by kernel_rfl) (by kernel_rfl) (by kernel_rfl) (fun _ _ _ h => h) (Or.inl ⟨by rfl, ?_⟩) (by assumption) ?_
        rotate_left
        · (intro w hSw; (try dsimp only at hSw); go_simp; try with_reducible rfl)
        try simp only [Act.put, List.setIfInBounds_toArray, List.set_cons_zero, List.set_cons_succ]
        refine wpAnyH_take (i := 7) (v := ?_) (by simp only [List.getElem?_toArray, List.getElem?_cons_succ, List.getElem?_cons_zero]; rfl) (by kernel_rfl) (by kernel_rfl) (by kernel_rfl) (fun _ _ _ h => h) (Or.inl ⟨by rfl, ?_⟩) (by assumption) ?_
        rotate_left
        · (intro w hSw; (try dsimp only at hSw); go_simp; try with_reducible rfl)
        try simp only [Act.put, List.setIfInBounds_toArray, List.set_cons_zero, List.set_cons_succ]
        refine wpAnyH_take (i := 8) (v := ?_) (by simp only [List.getElem?_toArray, List.getElem?_cons_succ, List.getElem?_cons_zero]; rfl) (by kernel_rfl) (by kernel_rfl) (by kernel_rfl) (fun _ _ _ h => h) (Or.inl ⟨by rfl, ?_⟩) (by assumption) ?_
        rotate_left
        · (intro w hSw; (try dsimp only at hSw); go_simp; try with_reducible rfl)
        try simp only [Act.put, List.setIfInBounds_toArray, List.set_cons_zero, List.set_cons_succ]
        refine wpAnyH_take (i := 9) (v := ?_) (by simp only [List.getElem?_toArray, List.getElem?_cons_succ, List.getElem?_cons_zero]; rfl) (by kernel_rfl) (by kernel_rfl) (by kernel_rfl) (fun _ _ _ h => h) (Or.inl ⟨by rfl, ?_⟩) (by assumption) ?_
        rotate_left
        · (intro w hSw; (try dsimp only at hSw); go_simp; try with_reducible rfl)
        try simp only [Act.put, List.setIfInBounds_toArray, List.set_cons_zero, List.set_cons_succ]
        refine wpAnyH_take (i := 10) (v := ?_) (by simp only [List.getElem?_toArray, List.getElem?_cons_succ, List.getElem?_cons_zero]; rfl) (by kernel_rfl) (by kernel_rfl) (by kernel_rfl) (fun _ _ _ h => h) (Or.inl ⟨by rfl, ?_⟩) (by assumption) ?_
        rotate_left
        · (intro w hSw; (try dsimp only at hSw); go_simp; try with_reducible rfl)
        try simp only [Act.put, List.setIfInBounds_toArray, List.set_cons_zero, List.set_cons_succ]
        refine wpAnyH_take (i := 11) (v := ?_) (by simp only [List.getElem?_toArray, List.getElem?_cons_succ, List.getElem?_cons_zero]; rfl) (by kernel_rfl) (by kernel_rfl) (by kernel_rfl) (fun _ _ _ h => h) (Or.inl ⟨by rfl, ?_⟩) (by assumption) ?_
        rotate_left
        · (intro w hSw; (try dsimp only at hSw); go_simp; try with_reducible rfl)
        try simp only [Act.put, List.setIfInBounds_toArray, List.set_cons_zero, List.set_cons_succ]
        refine wpAnyH_take (i := 12) (v := ?_) (by simp only [List.getElem?_toArray, List.getElem?_cons_succ, List.getElem?_cons_zero]; rfl) (by kernel_rfl) (by kernel_rfl) (by kernel_rfl) (fun _ _ _ h => h) (Or.inl ⟨by rfl, ?_⟩) (by assumption) ?_
        rotate_left
        · (intro w hSw; (try dsimp only at hSw); go_simp; try with_reducible rfl)
        try simp only [Act.put, List.setIfInBounds_toArray, List.set_cons_zero, List.set_cons_succ]
        refine wpAnyH_take (i := 13) (v := ?_) (by simp only [List.getElem?_toArray, List.getElem?_cons_succ, List.getElem?_cons_zero]; rfl) (by kernel_rfl) (by kernel_rfl) (by kernel_rfl) (fun _ _ _ h => h) (Or.inl ⟨by rfl, ?_⟩) (by assumption) ?_
        rotate_left
        · (intro w hSw; (try dsimp only at hSw); go_simp; try with_reducible rfl)
        try simp only [Act.put, List.setIfInBounds_toArray, List.set_cons_zero, List.set_cons_succ]
        refine wpAnyH_take (i := 14) (v := ?_) (by simp only [List.getElem?_toArray, List.getElem?_cons_succ, List.getElem?_cons_zero]; rfl) (by kernel_rfl) (by kernel_rfl) (by kernel_rfl) (fun _ _ _ h => h) (Or.inl ⟨by rfl, ?_⟩) (by assumption) ?_
        rotate_left
        · (intro w hSw; (try dsimp only at hSw); go_simp; try with_reducible rfl)
        try simp only [Act.put, List.setIfInBounds_toArray, List.set_cons_zero, List.set_cons_succ]
        refine wpAnyH_take (i := 15) (v := ?_) (by simp only [List.getElem?_toArray, List.getElem?_cons_succ, List.getElem?_cons_zero]; rfl) (by kernel_rfl) (by kernel_rfl) (by kernel_rfl) (fun _ _ _ h => h) (Or.inl ⟨by rfl, ?_⟩) (by assumption) ?_
        rotate_left
        · (intro w hSw; (try dsimp only at hSw); go_simp; try with_reducible rfl)
        try simp only [Act.put, List.setIfInBounds_toArray, List.set_cons_zero, List.set_cons_succ]
        refine wpAnyH_take (i := 16) (v := ?_) (by simp only [List.getElem?_toArray, List.getElem?_cons_succ, List.getElem?_cons_zero]; rfl) (by kernel_rfl) (by kernel_rfl) (by kernel_rfl) (fun _ _ _ h => h) (Or.inl ⟨by rfl, ?_⟩) (by assumption) ?_
        rotate_left
        · (intro w hSw; (try dsimp only at hSw); go_simp; try with_reducible rfl)
        try simp only [Act.put, List.setIfInBounds_toArray, List.set_cons_zero, List.set_cons_succ]
        refine wpAnyH_take (i := 17) (v := ?_) (by simp only [List.getElem?_toArray, List.getElem?_cons_succ, List.getElem?_cons_zero]; rfl) (by kernel_rfl) (by kernel_rfl) (by kernel_rfl) (fun _ _ _ h => h) (Or.inl ⟨by rfl, ?_⟩) (by assumption) ?_
        rotate_left
        · (intro w hSw; (try dsimp only at hSw); go_simp; try with_reducible rfl)
        try simp only [Act.put, List.setIfInBounds_toArray, List.set_cons_zero, List.set_cons_succ]
        refine wpAnyH_take (i := 18) (v := ?_) (by simp only [List.getElem?_toArray, List.getElem?_cons_succ, List.getElem?_cons_zero]; rfl) (by kernel_rfl) (by kernel_rfl) (by kernel_rfl) (fun _ _ _ h => h) (Or.inl ⟨by rfl, ?_⟩) (by assumption) ?_
        rotate_left
        · (intro w hSw; (try dsimp only at hSw); go_simp; try with_reducible rfl)
        try simp only [Act.put, List.setIfInBounds_toArray, List.set_cons_zero, List.set_cons_succ]
        refine wpAnyH_take (i := 19) (v := ?_) (by simp only [List.getElem?_toArray, List.getElem?_cons_succ, List.getElem?_cons_zero]; rfl) (by kernel_rfl) (by kernel_rfl) (by kernel_rfl) (fun _ _ _ h => h) (Or.inl ⟨by rfl, ?_⟩) (by assumption) ?_
        rotate_left
        · (intro w hSw; (try dsimp only at hSw); go_simp; try with_reducible rfl)
        try simp only [Act.put, List.setIfInBounds_toArray, List.set_cons_zero, List.set_cons_succ]
        refine wpAnyH_done (by kernel_rfl) ?_ _
        refine NoPanic.normal ?_
        clear hb cb b0 b1 b2 LL c0
        obtain ⟨hb, cb, b0, b1, b2, LL, c0⟩ := hHeld
        replace LL := Lib.hid LL
        generalize World.drew _ = u1 at *
        have hkn : k ≤ n := by have := HK.out; omega
        have hto := fun w => slice_to (some ⟨ba, o, none⟩) n c k (by omega) w
        have hfrom := fun w => slice_from (some ⟨ba, o, none⟩) n c k hkn w
        have LF := Lib.hid (fun W (h : Row.Lies enc W (some ⟨ba, o, none⟩) n L) => lies_from (c := c) h hkn hlc)
        obtain ⟨a2, ha2⟩ : ∃ y : Option Addr, y = (if c = k then (some ⟨ba, o, none⟩) else Option.map (fun y : Addr => y.add (k * 3)) (some ⟨ba, o, none⟩)) := ⟨_, rfl⟩
        rw [← ha2] at hfrom LF
        have HB := Lib.hid hb
        have HRB : Hid (x.heap.size ≤ u1.heap.size ∧ w.heap.size ≤ x.heap.size) := Lib.hid ⟨hb.size, HWX.out.size⟩
        clear ha2 hb
        go_upto_region 14 with (at_builtin; refine Row.wpList_app typ rfl _ _ rfl u1.heap.size _ [] rfl (Row.Own.nil _ _) (some ⟨ba, o, none⟩) k c (L.take k) rfl (LL.out.first hkn) (by simp only [List.length_nil]; omega) (Nat.le_refl _) ?_; intro v1 w1 o1 _ k1)
        rw [List.nil_append] at o1
        have O1 := Lib.hid o1
        have K1 := Lib.hid k1
        replace b0 := Dots.keepC b0 k1
        replace b1 := Dots.keepC b1 k1
        replace b2 := Dots.keepC b2 k1
        have LN : Row.Lies enc (w1.alloc (.cells #[.string ⟨X.k.toArray⟩, .string ⟨X.b.toArray⟩, .slice X.ms sn X.mc] 59)) (some ⟨w1.heap.size, 0, none⟩) 1 [X] := by
          have := Row.lies_new (E := enc) w1 X 59
          unfold enc RI.cells at this
          simp only [← HSN.out] at this
          exact this
        have LNH := Lib.hid LN
        clear o1 k1 LN
        go_upto_region 15 with (at_builtin; refine Row.wpList_app typ rfl _ _ rfl u1.heap.size v1 (L.take k) rfl (O1.out.alloc _) _ 1 1 [X] rfl LNH.out (by rw [List.length_take]; omega) (by have := K1.out.size; rw [World.size_alloc]; omega) ?_; intro v2 w2 o2 _ k2)
        have K2 := Lib.hid ((K1.out.trans ((balloc (Below.refl w1.heap.size w1) (.cells #[.string ⟨X.k.toArray⟩, .string ⟨X.b.toArray⟩, .slice X.ms sn X.mc] 59)).mono K1.out.size)).trans k2)
        have O2 := Lib.hid o2
        have HC := Lib.hid cb
        replace cb := Dots.keepC cb K2.out
        clear o2 k2 b0 b1 b2 LNH O1 K1
        go_wp2_with (at_builtin; refine Row.wpList_app typ rfl _ _ rfl u1.heap.size v2 (L.take k ++ [X]) rfl O2.out a2 (n - k) (c - k) (L.drop k) rfl (LF.out _ (LL.out.below K2.out)) (by rw [List.length_append, List.length_take]; simp only [List.length_cons, List.length_nil]; omega) K2.out.size ?_; intro v3 w3 o3 _ k3; obtain ⟨a3, c3, rfl, -⟩ := Row.Own.lies o3; generalize (L.take k ++ [X] ++ L.drop k).length = n3 at *; have K3 := Lib.hid (K2.out.trans k3); have cb3 := Dots.keepC HC.out K3.out; have fb3 : w3.frozen? ⟨rb, 0, none⟩ = false := box_frozen H.out (bstep HB.out K3.out); have O3 := Lib.hid o3; clear o3 k3)
        go_ret
        have HF := put_stored H.out (bstep HB.out K3.out) O3.out (by have := HRB.out; omega) (fun y hy => by
          rcases List.mem_append.1 hy with hy | hy
          · rcases List.mem_append.1 hy with hy | hy
            · exact H.out.seen y (List.mem_of_mem_take hy)
            · rw [List.mem_singleton.1 hy, ← HSN.out]; exact HX.out
          · exact H.out.seen y (List.mem_of_mem_drop hy))
        exact ⟨by rw [HR.out.1]; rfl, ⟨_, HQ.out.trans HR.out.2.symm, HF.1⟩, HF.2⟩
    have d5 : decide ((k : Int) < (n : Int)) = false := decide_eq_false (by omega)
    have HKN := Lib.hid hk
    have HQ : Hid ((L.take k ++ [X] ++ L.drop k).map RI.it = put X.it (L.map RI.it)) := Lib.hid (ins_all HU.out (by rw [← HN.out]; exact hk) HNO.out HI.out (fun h => by have := HN.out; omega))
    go_wp2_with fail
    refine wp_region_noPanic ?_
    refine wp_region_held_drew (S := (fun w' => Below x.heap.size x w' ∧ w'.cell? ⟨rb, 0, none⟩ = some (.slice a n c) ∧ w'.cell? ⟨bx, 0, none⟩ = some (.string ⟨X.k.toArray⟩) ∧ w'.cell? ⟨bx, 1, none⟩ = some (.string ⟨X.b.toArray⟩) ∧ w'.cell? ⟨bx, 2, none⟩ = some (.slice X.ms sn X.mc) ∧ Row.Lies enc w' a n L)) (by kernel_rfl) (⟨Below.drew hb, Dots.keepC cb (Below.drew (Below.refl _ _)), Dots.keepC b0 (Below.drew (Below.refl _ _)), Dots.keepC b1 (Below.drew (Below.refl _ _)), Dots.keepC b2 (Below.drew (Below.refl _ _)), (LL.out).below (Below.drew (Below.refl _ _))⟩) (fun hHeld => ?_)
    refine wpAnyH_take (i := 0) (v := ?_) (by simp only [List.getElem?_toArray, List.getElem?_cons_zero]; rfl) (by kernel_rfl) (by kernel_rfl) (by kernel_rfl) (fun _ _ _ h => h) (Or.inl ⟨by rfl, ?_⟩) (by assumption) ?_
    rotate_left
    · (intro w hSw; (try dsimp only at hSw); go_simp; try with_reducible rfl)
    try simp only [Act.put, List.setIfInBounds_toArray, List.set_cons_zero, List.set_cons_succ]
    refine wpAnyH_take (i := 1) (v := ?_) (by simp only [List.getElem?_toArray, List.getElem?_cons_succ, List.getElem?_cons_zero]; rfl) (by kernel_rfl) (by kernel_rfl) (by kernel_rfl) (fun _ _ _ h => h) (Or.inl ⟨by rfl, ?_⟩) (by assumption) ?_
    rotate_left
    · (intro w hSw; (try dsimp only at hSw); go_simp; try with_reducible rfl)
    try simp only [Act.put, List.setIfInBounds_toArray, List.set_cons_zero, List.set_cons_succ]
    refine wpAnyH_take (i := 2) (v := ?_) (by simp only [List.getElem?_toArray, List.getElem?_cons_succ, List.getElem?_cons_zero]; rfl) (by kernel_rfl) (by kernel_rfl) (by kernel_rfl) (fun _ _ _ h => h) (Or.inl ⟨by rfl, ?_⟩) (by assumption) ?_
    rotate_left
    · (intro w hSw; (try dsimp only at hSw); go_simp; try with_reducible rfl)
    try simp only [Act.put, List.setIfInBounds_toArray, List.set_cons_zero, List.set_cons_succ]
    refine wpAnyH_take (i := 3) (v := ?_) (by simp only [List.getElem?_toArray, List.getElem?_cons_succ, List.getElem?_cons_zero]; rfl) (by kernel_rfl) (by kernel_rfl) (by kernel_rfl) (fun _ _ _ h => h) (Or.inl ⟨by rfl, ?_⟩) (by assumption) ?_
    rotate_left
    · (intro w hSw; (try dsimp only at hSw); go_simp; try with_reducible rfl)
    try simp only [Act.put, List.setIfInBounds_toArray, List.set_cons_zero, List.set_cons_succ]
    refine wpAnyH_take (i := 4) (v := ?_) (by simp only [List.getElem?_toArray, List.getElem?_cons_succ, List.getElem?_cons_zero]; rfl) (by kernel_rfl) (by kernel_rfl) (by kernel_rfl) (fun _ _ _ h => h) (Or.inl ⟨by rfl, ?_⟩) (by assumption) ?_
    rotate_left
    · (intro w hSw; (try dsimp only at hSw); go_simp; try with_reducible rfl)
    try simp only [Act.put, List.setIfInBounds_toArray, List.set_cons_zero, List.set_cons_succ]
    refine wpAnyH_take (i := 5) (v := ?_) (by simp only [List.getElem?_toArray, List.getElem?_cons_succ, List.getElem?_cons_zero]; rfl) (by kernel_rfl) (by kernel_rfl) (by kernel_rfl) (fun _ _ _ h => h) (Or.inl ⟨by rfl, ?_⟩) (by assumption) ?_
    rotate_left
    · (intro w hSw; (try dsimp only at hSw); go_simp; try with_reducible rfl)
    try simp only [Act.put, List.setIfInBounds_toArray, List.set_cons_zero, List.set_cons_succ]
    refine wpAnyH_take (i := 6) (v := ?_) (by simp only [List.getElem?_toArray, List.getElem?_cons_succ, List.getElem?_cons_zero]; rfl) (by kernel_rfl) (by kernel_rfl) (by kernel_rfl) (fun _ _ _ h => h) (Or.inl ⟨by rfl, ?_⟩) (by assumption) ?_
    rotate_left
    · (intro w hSw; (try dsimp only at hSw); go_simp; try with_reducible rfl)
    try simp only [Act.put, List.setIfInBounds_toArray, List.set_cons_zero, List.set_cons_succ]
    refine wpAnyH_take (i := 7) (v := ?_) (by simp only [List.getElem?_toArray, List.getElem?_cons_succ, List.getElem?_cons_zero]; rfl) (by kernel_rfl) (by kernel_rfl) (by kernel_rfl) (fun _ _ _ h => h) (Or.inl ⟨by rfl, ?_⟩) (by assumption) ?_
    rotate_left
    · (intro w hSw; (try dsimp only at hSw); go_simp; try with_reducible rfl)
    try simp only [Act.put, List.setIfInBounds_toArray, List.set_cons_zero, List.set_cons_succ]
    refine wpAnyH_take (i := 8) (v := undef) (by simp only [List.getElem?_toArray, List.getElem?_cons_succ, List.getElem?_cons_zero]; rfl) (by kernel_rfl) (by kernel_rfl) (by kernel_rfl) (fun _ _ _ h => h) (Or.inr ⟨by rfl, rfl⟩) (by assumption) ?_
    try simp only [Act.put, List.setIfInBounds_toArray, List.set_cons_zero, List.set_cons_succ]
    refine wpAnyH_take (i := 9) (v := undef) (by simp only [List.getElem?_toArray, List.getElem?_cons_succ, List.getElem?_cons_zero]; rfl) (by kernel_rfl) (by kernel_rfl) (by kernel_rfl) (fun _ _ _ h => h) (Or.inr ⟨by rfl, rfl⟩) (by assumption) ?_
    try simp only [Act.put, List.setIfInBounds_toArray, List.set_cons_zero, List.set_cons_succ]
    refine wpAnyH_take (i := 10) (v := undef) (by simp only [List.getElem?_toArray, List.getElem?_cons_succ, List.getElem?_cons_zero]; rfl) (by kernel_rfl) (by kernel_rfl) (by kernel_rfl) (fun _ _ _ h => h) (Or.inr ⟨by rfl, rfl⟩) (by assumption) ?_
    try simp only [Act.put, List.setIfInBounds_toArray, List.set_cons_zero, List.set_cons_succ]
    refine wpAnyH_take (i := 11) (v := undef) (by simp only [List.getElem?_toArray, List.getElem?_cons_succ, List.getElem?_cons_zero]; rfl) (by kernel_rfl) (by kernel_rfl) (by kernel_rfl) (fun _ _ _ h => h) (Or.inr ⟨by rfl, rfl⟩) (by assumption) ?_
    try simp only [Act.put, List.setIfInBounds_toArray, List.set_cons_zero, List.set_cons_succ]
    refine wpAnyH_take (i := 12) (v := undef) (by simp only [List.getElem?_toArray, List.getElem?_cons_succ, List.getElem?_cons_zero]; rfl) (by kernel_rfl) (by kernel_rfl) (by kernel_rfl) (fun _ _ _ h => h) (Or.inr ⟨by rfl, rfl⟩) (by assumption) ?_
    try simp only [Act.put, List.setIfInBounds_toArray, List.set_cons_zero, List.set_cons_succ]
    refine wpAnyH_take (i := 13) (v := undef) (by simp only [List.getElem?_toArray, List.getElem?_cons_succ, List.getElem?_cons_zero]; rfl) (by kernel_rfl) (by kernel_rfl) (by kernel_rfl) (fun _ _ _ h => h) (Or.inr ⟨by rfl, rfl⟩) (by assumption) ?_
    try simp only [Act.put, List.setIfInBounds_toArray, List.set_cons_zero, List.set_cons_succ]
    refine wpAnyH_take (i := 14) (v := undef) (by simp only [List.getElem?_toArray, List.getElem?_cons_succ, List.getElem?_cons_zero]; rfl) (by kernel_rfl) (by kernel_rfl) (by kernel_rfl) (fun _ _ _ h => h) (Or.inr ⟨by rfl, rfl⟩) (by assumption) ?_
    try simp only [Act.put, List.setIfInBounds_toArray, List.set_cons_zero, List.set_cons_succ]
    refine wpAnyH_take (i := 15) (v := undef) (by simp only [List.getElem?_toArray, List.getElem?_cons_succ, List.getElem?_cons_zero]; rfl) (by kernel_rfl) (by kernel_rfl) (by kernel_rfl) (fun _ _ _ h => h) (Or.inr ⟨by rfl, rfl⟩) (by assumption) ?_
    try simp only [Act.put, List.setIfInBounds_toArray, List.set_cons_zero, List.set_cons_succ]
    refine wpAnyH_take (i := 16) (v := undef) (by simp only [List.getElem?_toArray, List.getElem?_cons_succ, List.getElem?_cons_zero]; rfl) (by kernel_rfl) (by kernel_rfl) (by kernel_rfl) (fun _ _ _ h => h) (Or.inr ⟨by rfl, rfl⟩) (by assumption) ?_
    try simp only [Act.put, List.setIfInBounds_toArray, List.set_cons_zero, List.set_cons_succ]
    refine wpAnyH_take (i := 17) (v := undef) (by simp only [List.getElem?_toArray, List.getElem?_cons_succ, List.getElem?_cons_zero]; rfl) (by kernel_rfl) (by kernel_rfl) (by kernel_rfl) (fun _ _ _ h => h) (Or.inr ⟨by rfl, rfl⟩) (by assumption) ?_
    try simp only [Act.put, List.setIfInBounds_toArray, List.set_cons_zero, List.set_cons_succ]
    refine wpAnyH_take (i := 18) (v := undef) (by simp only [List.getElem?_toArray, List.getElem?_cons_succ, List.getElem?_cons_zero]; rfl) (by kernel_rfl) (by kernel_rfl) (by kernel_rfl) (fun _ _ _ h => h) (Or.inr ⟨by rfl, rfl⟩) (by assumption) ?_
    try simp only [Act.put, List.setIfInBounds_toArray, List.set_cons_zero, List.set_cons_succ]
    refine wpAnyH_take (i := 19) (v := ?_) (by simp only [List.getElem?_toArray, List.getElem?_cons_succ, List.getElem?_cons_zero]; rfl) (by kernel_rfl) (by kernel_rfl) (by kernel_rfl) (fun _ _ _ h => h) (Or.inl ⟨by rfl, ?_⟩) (by assumption) ?_
    rotate_left
    · (intro w hSw; (try dsimp only at hSw); go_simp; try with_reducible rfl)
    try simp only [Act.put, List.setIfInBounds_toArray, List.set_cons_zero, List.set_cons_succ]
    refine wpAnyH_done (by kernel_rfl) ?_ _
    refine NoPanic.normal ?_
    clear hb cb b0 b1 b2 LL
    obtain ⟨hb, cb, b0, b1, b2, LL⟩ := hHeld
    replace LL := Lib.hid LL
    generalize World.drew _ = u1 at *
    have hkn : k ≤ n := by have := HKN.out; omega
    have hto := fun w => slice_to a n c k (by omega) w
    have hfrom := fun w => slice_from a n c k hkn w
    have LF := Lib.hid (fun W (h : Row.Lies enc W a n L) => lies_from (c := c) h hkn hlc)
    obtain ⟨a2, ha2⟩ : ∃ y : Option Addr, y = (if c = k then a else Option.map (fun y : Addr => y.add (k * 3)) a) := ⟨_, rfl⟩
    rw [← ha2] at hfrom LF
    have HB := Lib.hid hb
    have HRB : Hid (x.heap.size ≤ u1.heap.size ∧ w.heap.size ≤ x.heap.size) := Lib.hid ⟨hb.size, HWX.out.size⟩
    clear ha2 hb
    go_upto_region 14 with (at_builtin; refine Row.wpList_app typ rfl _ _ rfl u1.heap.size _ [] rfl (Row.Own.nil _ _) a k c (L.take k) rfl (LL.out.first hkn) (by simp only [List.length_nil]; omega) (Nat.le_refl _) ?_; intro v1 w1 o1 _ k1)
    rw [List.nil_append] at o1
    have O1 := Lib.hid o1
    have K1 := Lib.hid k1
    replace b0 := Dots.keepC b0 k1
    replace b1 := Dots.keepC b1 k1
    replace b2 := Dots.keepC b2 k1
    have LN : Row.Lies enc (w1.alloc (.cells #[.string ⟨X.k.toArray⟩, .string ⟨X.b.toArray⟩, .slice X.ms sn X.mc] 59)) (some ⟨w1.heap.size, 0, none⟩) 1 [X] := by
      have := Row.lies_new (E := enc) w1 X 59
      unfold enc RI.cells at this
      simp only [← HSN.out] at this
      exact this
    have LNH := Lib.hid LN
    clear o1 k1 LN
    go_upto_region 15 with (at_builtin; refine Row.wpList_app typ rfl _ _ rfl u1.heap.size v1 (L.take k) rfl (O1.out.alloc _) _ 1 1 [X] rfl LNH.out (by rw [List.length_take]; omega) (by have := K1.out.size; rw [World.size_alloc]; omega) ?_; intro v2 w2 o2 _ k2)
    have K2 := Lib.hid ((K1.out.trans ((balloc (Below.refl w1.heap.size w1) (.cells #[.string ⟨X.k.toArray⟩, .string ⟨X.b.toArray⟩, .slice X.ms sn X.mc] 59)).mono K1.out.size)).trans k2)
    have O2 := Lib.hid o2
    have HC := Lib.hid cb
    replace cb := Dots.keepC cb K2.out
    clear o2 k2 b0 b1 b2 LNH O1 K1
    go_wp2_with (at_builtin; refine Row.wpList_app typ rfl _ _ rfl u1.heap.size v2 (L.take k ++ [X]) rfl O2.out a2 (n - k) (c - k) (L.drop k) rfl (LF.out _ (LL.out.below K2.out)) (by rw [List.length_append, List.length_take]; simp only [List.length_cons, List.length_nil]; omega) K2.out.size ?_; intro v3 w3 o3 _ k3; obtain ⟨a3, c3, rfl, -⟩ := Row.Own.lies o3; generalize (L.take k ++ [X] ++ L.drop k).length = n3 at *; have K3 := Lib.hid (K2.out.trans k3); have cb3 := Dots.keepC HC.out K3.out; have fb3 : w3.frozen? ⟨rb, 0, none⟩ = false := box_frozen H.out (bstep HB.out K3.out); have O3 := Lib.hid o3; clear o3 k3)
    go_ret
    have HF := put_stored H.out (bstep HB.out K3.out) O3.out (by have := HRB.out; omega) (fun y hy => by
      rcases List.mem_append.1 hy with hy | hy
      · rcases List.mem_append.1 hy with hy | hy
        · exact H.out.seen y (List.mem_of_mem_take hy)
        · rw [List.mem_singleton.1 hy, ← HSN.out]; exact HX.out
      · exact H.out.seen y (List.mem_of_mem_drop hy))
    exact ⟨by rw [HR.out.1]; rfl, ⟨_, HQ.out.trans HR.out.2.symm, HF.1⟩, HF.2⟩
end RefTree
end Go.Proofs.YtjnlooccddnbkaaGreatDoor
