/- Rows of texts that lie side by side, named by a row of the call's own. -/
import Derived.Test.YtibdpjhiblhnmaaDoorWords
import Derived.Test.YtibdpjhiblhnmaaDoorRefShaConst
namespace Go.Proofs.YtibdpjhiblhnmaaDoor
namespace Parts
open Go.RowKit RefSha
def upd {β : Type} (f : Nat → β) (i : Nat) (x : β) : Nat → β := fun j => if j = i then x else f j
theorem upd_same {β : Type} (f : Nat → β) (i : Nat) (x : β) : upd f i x i = x := by simp [upd]
theorem upd_other {β : Type} (f : Nat → β) (i : Nat) (x : β) {j : Nat} (h : j ≠ i) : upd f i x j = f j := by simp [upd, h]
theorem own_at {α : Type} {E : Row.Enc α} {te : TypeId} {w w' : World} {B : Nat} {v : Value} {L : List α} (h : Row.Own E te w B v L) (k : ∀ b, v.ownBlock = some b → w'.heap[b]? = w.heap[b]?) : Row.Own E te w' B v L := by
  refine ⟨h.1, ?_⟩
  rcases h.2 with h' | ⟨g, cap, cur, rfl, hB, hg, hr⟩
  · exact .inl h'
  · exact .inr ⟨g, cap, cur, rfl, hB, by rw [k g rfl]; exact hg, hr⟩
/-- A row's cells, each a row of texts of its own. -/
structure Is (w : World) (B g m : Nat) (V : Nat → Value) (L : Nat → List (List UInt8)) : Prop where
  base : B ≤ g
  heap : ∃ cs, w.heap[g]? = some (.cells cs 25 (0, 0)) ∧ cs.size = m ∧ ∀ i, i < m → cs[i]? = some (V i)
  own : ∀ i, i < m → Words.Mine w (g + 1) (V i) (L i)
  apart : ∀ i j, i < m → j < m → i ≠ j → Apart (V i) (V j)
variable {w w1 : World} {B g m : Nat} {V : Nat → Value} {L : Nat → List (List UInt8)}
theorem Is.lt (h : Is w B g m V L) : g < w.heap.size := by
  obtain ⟨cs, h1, _⟩ := h.heap
  exact (Array.getElem?_eq_some_iff.1 h1).1
theorem Is.below (h : Is w B g m V L) (k : Below w.heap.size w w1) : Is w1 B g m V L := by
  obtain ⟨cs, h1, h2⟩ := h.heap
  exact ⟨h.base, ⟨cs, by rw [k.block g h.lt]; exact h1, h2⟩, fun i hi => (h.own i hi).below k, h.apart⟩
theorem Is.cell (h : Is w B g m V L) {i : Nat} (hi : i < m) : w.cell? ⟨g, i, none⟩ = some (V i) := by
  obtain ⟨cs, h1, _, h3⟩ := h.heap
  rw [cell_of_row w g i cs _ _ h1]
  exact h3 i hi
theorem Is.frozen (h : Is w B g m V L) (i : Nat) : w.frozen? ⟨g, i, none⟩ = false := by
  obtain ⟨cs, h1, _, _⟩ := h.heap
  exact frozen_of_row w g i _ _ h1
theorem Is.row (h : Is w B g m V L) {i : Nat} (hi : i < m) : ∃ a c, V i = .slice a (L i).length c ∧ Words.Lies w a (L i).length (L i) ∧ (∀ q, a = some q → g + 1 ≤ q.block) ∧ ∀ q, a = some q → q.block < w.heap.size := by
  obtain ⟨a, c, e, _, _, h1, h2, _⟩ := (h.own i hi).lies'
  refine ⟨a, c, e, h1, h2, fun q hq => ?_⟩
  subst hq
  rcases (h.own i hi).2 with ⟨e', _⟩ | ⟨g', c', cur, e', _, hg, _⟩
  · rw [e] at e'; cases e'
  · rw [e] at e'
    simp only [Value.slice.injEq, Option.some.injEq] at e'
    rw [e'.1]
    exact (Array.getElem?_eq_some_iff.1 hg).1
/-- A row that hangs on the same texts. -/
theorem Is.ext (h : Is w B g m V L) {M : Nat → List (List UInt8)} (k : ∀ i, i < m → L i = M i) : Is w B g m V M :=
  ⟨h.base, h.heap, fun i hi => by rw [← k i hi]; exact h.own i hi, h.apart⟩
/-- A row made new: no texts. -/
theorem Is.made (w : World) {cs : Array Value} (hg : w.heap[g]? = some (.cells cs 25 (0, 0))) (hc : cs.toList = List.replicate m (.slice none 0 0)) (hB : B ≤ g) : Is w B g m (fun _ => .slice none 0 0) (fun _ => []) :=
  ⟨hB, ⟨_, hg, by rw [← Array.length_toList, hc, List.length_replicate], fun i hi => by rw [← Array.getElem?_toList, hc, List.getElem?_replicate, if_pos hi]⟩, fun i _ => Row.Own.nil _ _, fun i j _ _ _ b e => by cases e⟩
theorem info_row : (Tryd.prog.info? 25).map (fun i => (i.zero, i.size, i.bytes)) = some (some (.slice none 0 0), 1, 24) := by kernel_rfl
theorem make_rows (n : Nat) (h : n ≤ 65536) (w : World) : (Instr.makeSlice 26 (.int .i64 (n : Int)) (.int .i64 (n : Int))).run Tryd.prog w = .ok (.slice (some ⟨w.heap.size, 0, none⟩) n n) (w.alloc (.cells (madeCells #[.slice none 0 0] n) 25)) := by
  obtain ⟨i0, hi, hz0, hz1, hz2⟩ := Row.info_of info_row
  have hr := run_make (P := Tryd.prog) w 26 25 i0 (.slice none 0 0) Tryd.underlying26 hi hz0 .i64 .i64 (n : Int) (n : Int) (by omega) (by omega) (by rw [hz2]; omega) (by omega)
  rw [hr, Int.toNat_natCast, hz1, Nat.mul_one]
  rfl
theorem Is.new (w : World) (hB : B ≤ w.heap.size) : Is (w.alloc (.cells (madeCells #[.slice none 0 0] m) 25)) B w.heap.size m (fun _ => .slice none 0 0) (fun _ => []) :=
  Is.made _ (heap_alloc_new w _) (toList_madeCells_one _ _) hB
theorem grown_set (W : World) (g i : Nat) (v : Value) (b : Nat) (h : b ≠ g) : (W.setCell ⟨g, i, none⟩ v).heap[b]? = W.heap[b]? := heap_setCell_other W _ b v h
/-- One row grows, and is set. -/
theorem Is.app (h : Is w B g m V L) {i : Nat} (hi : i < m) {v' : Value} {M : List (List UInt8)} (k : w.grownBy w1 (V i).ownBlock) (o : Words.Mine w1 (g + 1) v' M) (p : v'.ownBlock = (V i).ownBlock ∨ v'.ownBlock = some w.heap.size) :
    Is (w1.setCell ⟨g, i, none⟩ v') B g m (upd V i v') (upd L i M) := by
  have hne : some g ≠ (V i).ownBlock := fun e => by have := (h.own i hi).lt g e.symm; omega
  obtain ⟨cs, h1, h2, h3⟩ := h.heap
  have h1' : w1.heap[g]? = some (.cells cs 25 (0, 0)) := by rw [k.block g h.lt hne]; exact h1
  refine ⟨h.base, ⟨_, heap_setCell_same w1 g i cs _ _ h1', by rw [Array.size_setIfInBounds]; exact h2, fun j hj => ?_⟩, fun j hj => ?_, fun a b ha hb hab => ?_⟩
  · by_cases e : j = i
    · subst e; rw [upd_same, Array.getElem?_setIfInBounds_self_of_lt (by omega)]
    · rw [upd_other _ _ _ e, Array.getElem?_setIfInBounds_ne (by omega)]; exact h3 j hj
  · by_cases e : j = i
    · subst e; rw [upd_same, upd_same]
      exact own_at o (fun b hb => grown_set _ _ _ _ _ (by have := (o.lt b hb).1; omega))
    · rw [upd_other _ _ _ e, upd_other _ _ _ e]
      have o2 := (h.apart i j hi hj (fun x => e x.symm)).kept (h.own j hj) k
      exact own_at o2 (fun b hb => grown_set _ _ _ _ _ (by have := (o2.lt b hb).1; omega))
  · by_cases ea : a = i
    · subst ea
      have eb : b ≠ a := fun x => hab x.symm
      rw [upd_same, upd_other _ _ _ eb]
      exact (h.apart a b ha hb hab).placed (h.own b hb) p
    · rw [upd_other _ _ _ ea]
      by_cases eb : b = i
      · subst eb
        rw [upd_same]
        exact ((h.apart b a hb ha (fun x => ea x.symm)).placed (h.own a ha) p).symm
      · rw [upd_other _ _ _ eb]; exact h.apart a b ha hb hab
/-- What stands beside: another row. -/
theorem beside {i : Nat} (hi : i < m) {v' u : Value} {K : List (List UInt8)} (k : w.grownBy w1 (V i).ownBlock) (p : v'.ownBlock = (V i).ownBlock ∨ v'.ownBlock = some w.heap.size)
    (ou : Words.Mine w (g + 1) u K) (ha : ∀ j, j < m → Apart (V j) u) : Words.Mine (w1.setCell ⟨g, i, none⟩ v') (g + 1) u K ∧ ∀ j, j < m → Apart (upd V i v' j) u := by
  have o2 := (ha i hi).kept ou k
  refine ⟨own_at o2 (fun b hb => grown_set _ _ _ _ _ (by have := (o2.lt b hb).1; omega)), fun j hj => ?_⟩
  by_cases e : j = i
  · subst e; rw [upd_same]; exact (ha j hj).placed ou p
  · rw [upd_other _ _ _ e]; exact ha j hj
/-- As one step of a region that draws its order: an append, and where the new row lies. -/
theorem step_app_place {α : Type} {E : Row.Enc α} {P : Program} {ts te : TypeId} {z : Value} {bytes : Nat} (T : Row.Typ P E ts te z bytes) {ops : Array Oper} {o : Oper} {a : Act} {w : World} {K0 : Act → World → Prop} {Q : Exit → Act → World → Prop} {F : Prop} (hgd : o.guard = none) (s x : Operand)
    (ho : o.op = .call { callee := .builtin .append, args := #[s, x], argTypes := #[ts, ts] }) (B : Nat) (v : Value) (L : List α) (hs : a.eval s = v) (hown : Row.Own E te w B v L)
    (q : Addr) (nx cx : Nat) (K : List α) (hx : a.eval x = .slice (some q) nx cx) (hK : Row.Lies E w (some q) nx K)
    (hlen : L.length + nx ≤ 1099511627776) (hbase : B ≤ w.heap.size)
    (h : ∀ v' w', Row.Own E te w' B v' (L ++ K) → w.grownBy w' v.ownBlock → Below B w w' → (v'.ownBlock = v.ownBlock ∨ v'.ownBlock = some w.heap.size) → K0 (a.put o.dst v') w') : if Region.wanted o (yielded ops a.tmps) = true then Oper.wp P o a w K0 Q else F := by
  have hw : Region.wanted o (yielded ops a.tmps) = true := by simp [Region.wanted, hgd]
  rw [if_pos hw]
  obtain ⟨i0, hi, hz0, hz1, hz2⟩ := T.info
  have hnews : ∀ j u, (Row.flat E K)[j]? = some u → w.cell? (q.add j) = some u := fun j u hu => by
    have hj : j < K.length * E.k := by rw [← Row.flat_length]; exact (List.getElem?_eq_some_iff.1 hu).1
    have hK0 : 0 < K.length := by
      rcases Nat.eq_zero_or_pos K.length with h | h
      · rw [h] at hj; omega
      · exact h
    obtain ⟨b, off, e, _⟩ := hK.2 (by rw [hK.1]; exact hK0)
    obtain rfl : q = ⟨b, off, none⟩ := Option.some.inj e
    exact Row.Lies.at hK j u hu
  have hsm := T.small
  obtain ⟨v', w', hr, h2, h3, h4⟩ := Ones.run_app_place (P := P) (w := w) B ts o.type te i0 z E.k bytes T.und hi hz0 hz1 hz2 T.zsize E.pos v L.length (Row.flat E L) hown q nx cx (Row.flat E K) (by rw [Row.flat_length, hK.1]) hnews (Row.flat_one E K) (by unfold maxLen; omega) (Nat.le_trans (Nat.mul_le_mul hlen hsm) (by decide)) hbase
  unfold Oper.wp execOp
  simp only [ho, resolve, invoke, builtin, Sem.run_bind, Sem.run_pure, Result.andThen_ok, List.map_toArray, List.map_cons, List.map_nil, hs, hx, hr]
  refine h v' w' ?_ h3 (Below.grown (Below.refl B w) h3 hbase (fun k e => (hown.lt k e).1)) h4
  unfold Row.Own
  rw [Row.flat_append, List.length_append, ← hK.1]
  exact h2
/-- A text in a new block, behind a draw. -/
theorem new_text (W : World) (x : List UInt8) (T : TypeId) : Words.Lies (W.alloc (.cells #[.string ⟨x.toArray⟩] T)).drew (some ⟨W.heap.size, 0, none⟩) 1 [x] :=
  Row.Lies.below (Row.lies_new (E := Words.enc) W x T) (Below.drew (Below.refl _ _))
end Parts
end Go.Proofs.YtibdpjhiblhnmaaDoor
