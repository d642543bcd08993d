
/- rows of numbers of one kind. -/
import Derived.Test.YtibdpjhiblhnmaaDoorRowOwn
import Derived.Test.YtibdpjhiblhnmaaDoorProg
namespace Go.Proofs.YtibdpjhiblhnmaaDoor
namespace Ones
open Go.RowKit
/-- A number in its cell. -/
def enc (k : IntKind) : Row.Enc Int := ⟨1, by decide, fun x => [.int k x], fun _ => rfl, fun x v hv => by
  simp only [List.mem_cons, List.not_mem_nil, or_false] at hv
  rw [hv]; rfl⟩
theorem flat_map (k : IntKind) (L : List Int) : Row.flat (enc k) L = L.map (fun x => .int k x) := by
  induction L with
  | nil => rfl
  | cons x L ih => rw [Row.flat_cons, ih]; rfl
theorem Lies.at {k : IntKind} {w : World} {n : Nat} {L : List Int} {a : Option Addr} (h : Row.Lies (enc k) w a n L) (hn : 0 < n) : ∃ b off, a = some ⟨b, off, none⟩ ∧ ∀ j, j < L.length → w.cell? ⟨b, off + j, none⟩ = some (.int k (L.getD j 0)) := by
  obtain ⟨b, off, e, hc⟩ := h.2 hn
  exact ⟨b, off, e, fun j hj => by
    have := hc j hj 0 _ rfl
    rw [List.getD_eq_getElem?_getD, List.getElem?_eq_getElem hj]
    simpa [enc] using this⟩
theorem Lies.of_cells {k : IntKind} {w : World} {b off : Nat} {L : List Int} (h : ∀ j, j < L.length → w.cell? ⟨b, off + j, none⟩ = some (.int k (L.getD j 0))) : Row.Lies (enc k) w (some ⟨b, off, none⟩) L.length L := by
  refine ⟨rfl, fun _ => ⟨b, off, rfl, fun j hj i u hu => ?_⟩⟩
  have hi : i = 0 := by
    have := (List.getElem?_eq_some_iff.1 hu).1
    simp [enc] at this; exact this
  subst hi
  simp only [enc, List.getElem?_cons_zero, Option.some.injEq] at hu
  have := h j hj
  rw [List.getD_eq_getElem?_getD, List.getElem?_eq_getElem hj] at this
  rw [← hu]
  simpa [enc] using this
/-- A call's own row that is not empty: its block, its cells. -/
theorem Own.at {k : IntKind} {te : TypeId} {w : World} {B : Nat} {v : Value} {L : List Int} (h : Row.Own (enc k) te w B v L) (hL : 0 < L.length) :
    ∃ g cap, v = .slice (some ⟨g, 0, none⟩) L.length cap ∧ B ≤ g ∧ g < w.heap.size ∧ L.length ≤ cap ∧ cap ≤ maxLen ∧ (∀ j, j < L.length → w.cell? ⟨g, j, none⟩ = some (.int k (L.getD j 0))) ∧ ∀ j, w.frozen? ⟨g, j, none⟩ = false := by
  have h0 := h
  rcases h.2 with ⟨rfl, hc⟩ | ⟨g, cap, cur, rfl, hB, hg, hle, hmx, _⟩
  · omega
  · refine ⟨g, cap, rfl, hB, (Array.getElem?_eq_some_iff.1 hg).1, hle, hmx, fun j hj => ?_, fun j => frozen_of_row w g j _ _ hg⟩
    have := h0.cellAt (j * 1 + 0) (by show _ < L.length * 1; omega)
    rw [Nat.mul_one, Nat.add_zero] at this
    rw [this, flat_map, List.getElem?_map, List.getElem?_eq_getElem hj, List.getD_eq_getElem?_getD, List.getElem?_eq_getElem hj]
    rfl
theorem Own.cell {k : IntKind} {te : TypeId} {w : World} {B g n cap : Nat} {L : List Int} (h : Row.Own (enc k) te w B (.slice (some ⟨g, 0, none⟩) n cap) L) (j : Nat) (hj : j < L.length) : w.cell? ⟨g, j, none⟩ = some (.int k (L.getD j 0)) := by
  obtain ⟨_, _, e, _, _, _, _, hc, -⟩ := Own.at h (by omega)
  simp only [Value.slice.injEq, Option.some.injEq, Addr.mk.injEq, and_true] at e
  obtain ⟨rfl, -, rfl⟩ := e
  exact hc j hj
/-- One number is set. -/
theorem Own.set {k : IntKind} {te : TypeId} {w : World} {B g n cap : Nat} {L : List Int} (h : Row.Own (enc k) te w B (.slice (some ⟨g, 0, none⟩) n cap) L) (i : Nat) (x : Int) :
    Row.Own (enc k) te (w.setCell ⟨g, i, none⟩ (.int k x)) B (.slice (some ⟨g, 0, none⟩) n cap) (L.set i x) := by
  obtain ⟨cur, hB, hg, hn, hc, hm, hs, ht⟩ := h.row
  refine Row.own_of hB (heap_setCell_same w g i cur te _ hg) (by rw [List.length_set]; exact hn) (by rw [List.length_set]; exact hc) hm (by rw [Array.size_setIfInBounds]; exact hs) ?_
  rw [List.length_set, Array.toList_setIfInBounds, List.take_set, ht, flat_map, flat_map, List.map_set]
/-- An append to an own row: what the row's block held ahead of it stands there still. -/
theorem run_app_keep {P : Program} {w : World} (base : Nat) (t ty e : TypeId) (i : TypeInfo) (z : Value) (size bytes : Nat) (ht : P.underlying t = some (.slice e)) (hi : P.info? e = some i) (hz : i.zero = some z)
    (hsize : i.size = size) (hby : i.bytes = bytes) (hzs : z.cells.size = size) (hsz : 0 < size)
    (g n cap : Nat) (xs : List Value) (hown : w.ownsRow base e size (.slice (some ⟨g, 0, none⟩) n cap) n xs)
    (a : Addr) (m c : Nat) (news : List Value) (hl : news.length = m * size) (hnews : ∀ j u, news[j]? = some u → w.cell? (a.add j) = some u) (h1 : ∀ u ∈ news, u.oneCell' = true)
    (h63 : n + m ≤ maxLen) (hbytes : (n + m) * bytes ≤ 140737488355328) (hbase : base ≤ w.heap.size) :
    ∃ v' w', (Builtin.append_ #[t, t] ty #[.slice (some ⟨g, 0, none⟩) n cap, .slice (some a) m c]).run P w = .ok v' w' ∧ w'.ownsRow base e size v' (n + m) (xs ++ news) ∧ w.grownBy w' (some g) ∧
      ∀ j, j < n * size → w'.cell? ⟨g, j, none⟩ = w.cell? ⟨g, j, none⟩ := by
  obtain ⟨v', w', hr, h2, h3, _⟩ := run_append_own (P := P) w base t ty e i z size bytes ht hi hz hsize hby hzs hsz _ n xs hown a m c news hl hnews h1 h63 hbytes hbase
  refine ⟨v', w', hr, h2, h3, fun j hj => ?_⟩
  subst hsize
  subst hby
  rcases hown.2 with ⟨h', _⟩ | ⟨g', cap', cur, h', hbg, hg, hnc, hcm, hcs, htake⟩
  · cases h'
  · simp only [Value.slice.injEq, Option.some.injEq, Addr.mk.injEq, and_true] at h'
    obtain ⟨rfl, -, rfl⟩ := h'
    have hlt : j < cur.size := by rw [hcs]; exact Nat.lt_of_lt_of_le hj (Nat.mul_le_mul_right _ hnc)
    by_cases hroom : n + m ≤ cap
    · have hfit : n * i.size + news.length ≤ cur.size := by rw [hl, hcs, ← Nat.add_mul]; exact Nat.mul_le_mul_right _ hroom
      have hr2 := run_append_room (P := P) w t ty e i ht hi g n cap cur hg a m c news hl hnews h1 hroom hfit
      rw [hr] at hr2
      injection hr2 with _ hw
      subst hw
      rw [cell_setRow_same w g j cur _ e _ hg, cell_of_row w g j cur e _ hg, List.getElem?_toArray, List.append_assoc, List.getElem?_append_left (by rw [List.length_take, Array.length_toList]; omega), List.getElem?_take_of_lt hj, Array.getElem?_toList]
    · have holds : ∀ j u, xs[j]? = some u → w.cell? ((⟨g, 0, none⟩ : Addr).add j) = some u := hown.cells (g := g) rfl
      have hr2 := run_append_grow (P := P) w t ty e i z ht hi hz ⟨g, 0, none⟩ n cap xs hown.1 holds a m c news hl hnews (by omega) (by simp only [maxLen] at h63; omega) (growslice_fits (by omega) hbytes)
      rw [hr] at hr2
      injection hr2 with _ hw
      subst hw
      exact World.cell?_of_block (Below.heap_alloc w.drew _ g (Array.getElem?_eq_some_iff.1 hg).1)
/-- An append to an own row: where the new row lies. -/
theorem run_app_place {P : Program} {w : World} (base : Nat) (t ty e : TypeId) (i : TypeInfo) (z : Value) (size bytes : Nat) (ht : P.underlying t = some (.slice e)) (hi : P.info? e = some i) (hz : i.zero = some z)
    (hsize : i.size = size) (hby : i.bytes = bytes) (hzs : z.cells.size = size) (hsz : 0 < size)
    (v : Value) (n : Nat) (xs : List Value) (hown : w.ownsRow base e size v n xs)
    (a : Addr) (m c : Nat) (news : List Value) (hl : news.length = m * size) (hnews : ∀ j u, news[j]? = some u → w.cell? (a.add j) = some u) (h1 : ∀ u ∈ news, u.oneCell' = true)
    (h63 : n + m ≤ maxLen) (hbytes : (n + m) * bytes ≤ 140737488355328) (hbase : base ≤ w.heap.size) :
    ∃ v' w', (Builtin.append_ #[t, t] ty #[v, .slice (some a) m c]).run P w = .ok v' w' ∧ w'.ownsRow base e size v' (n + m) (xs ++ news) ∧ w.grownBy w' v.ownBlock ∧ (v'.ownBlock = v.ownBlock ∨ v'.ownBlock = some w.heap.size) := by
  obtain ⟨v', w', hr, h2, h3, h4⟩ := run_append_own (P := P) w base t ty e i z size bytes ht hi hz hsize hby hzs hsz _ n xs hown a m c news hl hnews h1 h63 hbytes hbase
  refine ⟨v', w', hr, h2, h3, ?_⟩
  subst hsize
  subst hby
  rcases hown.2 with ⟨rfl, rfl⟩ | ⟨g, cap, cur, rfl, hbg, hg, hnc, hcm, hcs, htake⟩
  · by_cases hm : m = 0
    · rw [h4.2 ⟨rfl, hm⟩]; exact .inl rfl
    · have hr2 := run_append_nil (P := P) w t ty e i z ht hi hz a m c news hl hnews (by omega) (by simp only [maxLen] at h63; omega) (by have hb := hbytes; simp only [Nat.zero_add] at hb; omega)
      rw [hr] at hr2
      injection hr2 with hv _
      rw [hv]; exact .inr rfl
  · by_cases hroom : n + m ≤ cap
    · have hfit : n * i.size + news.length ≤ cur.size := by rw [hl, hcs, ← Nat.add_mul]; exact Nat.mul_le_mul_right _ hroom
      have hr2 := run_append_room (P := P) w t ty e i ht hi g n cap cur hg a m c news hl hnews h1 hroom hfit
      rw [hr] at hr2
      injection hr2 with hv _
      rw [hv]; exact .inl rfl
    · have holds : ∀ j u, xs[j]? = some u → w.cell? ((⟨g, 0, none⟩ : Addr).add j) = some u := hown.cells (g := g) rfl
      have hr2 := run_append_grow (P := P) w t ty e i z ht hi hz ⟨g, 0, none⟩ n cap xs hown.1 holds a m c news hl hnews (by omega) (by simp only [maxLen] at h63; omega) (growslice_fits (by omega) hbytes)
      rw [hr] at hr2
      injection hr2 with hv _
      rw [hv]; exact .inr rfl
section
variable {α : Type} {E : Row.Enc α} {P : Program} {ts te : TypeId} {z : Value} {bytes : Nat}
/-- .. at a plain region's list. -/
theorem wpList_app_place (T : Row.Typ P E ts te z bytes) {ops : Array Oper} {rest : List Oper} {o : Oper} {a : Act} {w : World} {Q : Exit → Act → World → Prop} (hgd : o.guard = none) (s x : Operand)
    (ho : o.op = .call { callee := .builtin .append, args := #[s, x], argTypes := #[ts, ts] }) (B : Nat) (v : Value) (L : List α) (hs : a.eval s = v) (hown : Row.Own E te w B v L)
    (q : Addr) (nx cx : Nat) (K : List α) (hx : a.eval x = .slice (some q) nx cx) (hK : Row.Lies E w (some q) nx K)
    (hlen : L.length + nx ≤ 1099511627776) (hbase : B ≤ w.heap.size)
    (h : ∀ v' w', Row.Own E te w' B v' (L ++ K) → w.grownBy w' v.ownBlock → Below B w w' → (v'.ownBlock = v.ownBlock ∨ v'.ownBlock = some w.heap.size) → wpList P ops Q rest (a.put o.dst v') w') : wpList P ops Q (o :: rest) a w := by
  obtain ⟨i0, hi, hz0, hz1, hz2⟩ := T.info
  have hnews : ∀ j u, (Row.flat E K)[j]? = some u → w.cell? (q.add j) = some u := fun j u hu => by
    have hj : j < K.length * E.k := by rw [← Row.flat_length]; exact (List.getElem?_eq_some_iff.1 hu).1
    have hK0 : 0 < K.length := by
      rcases Nat.eq_zero_or_pos K.length with h | h
      · rw [h] at hj; omega
      · exact h
    obtain ⟨b, off, e, _⟩ := hK.2 (by rw [hK.1]; exact hK0)
    obtain rfl : q = ⟨b, off, none⟩ := Option.some.inj e
    exact Row.Lies.at hK j u hu
  have hsm := T.small
  obtain ⟨v', w', hr, h2, h3, h4⟩ := run_app_place (P := P) (w := w) B ts o.type te i0 z E.k bytes T.und hi hz0 hz1 hz2 T.zsize E.pos v L.length (Row.flat E L) hown q nx cx (Row.flat E K) (by rw [Row.flat_length, hK.1]) hnews (Row.flat_one E K) (by unfold maxLen; omega) (Nat.le_trans (Nat.mul_le_mul hlen hsm) (by decide)) hbase
  refine wpList_plain hgd fun k hk => ?_
  unfold Oper.wp execOp
  simp only [ho, resolve, invoke, builtin, Sem.run_bind, Sem.run_pure, Result.andThen_ok, List.map_toArray, List.map_cons, List.map_nil, hs, hx, hr]
  refine hk _ _ (h v' w' ?_ h3 (Below.grown (Below.refl B w) h3 hbase (fun k e => (hown.lt k e).1)) h4)
  unfold Row.Own
  rw [Row.flat_append, List.length_append, ← hK.1]
  exact h2
/-- As one step of a region that draws its order. -/
theorem step_app_keep (T : Row.Typ P E ts te z bytes) {ops : Array Oper} {o : Oper} {a : Act} {w : World} {K0 : Act → World → Prop} {Q : Exit → Act → World → Prop} {F : Prop} (hgd : o.guard = none) (s x : Operand)
    (ho : o.op = .call { callee := .builtin .append, args := #[s, x], argTypes := #[ts, ts] }) (B g n cap : Nat) (L : List α) (hs : a.eval s = .slice (some ⟨g, 0, none⟩) n cap) (hown : Row.Own E te w B (.slice (some ⟨g, 0, none⟩) n cap) L)
    (q : Addr) (nx cx : Nat) (K : List α) (hx : a.eval x = .slice (some q) nx cx) (hK : Row.Lies E w (some q) nx K)
    (hlen : L.length + nx ≤ 1099511627776) (hbase : B ≤ w.heap.size)
    (h : ∀ v' w', Row.Own E te w' B v' (L ++ K) → Below B w w' → (∀ j, j < L.length * E.k → w'.cell? ⟨g, j, none⟩ = w.cell? ⟨g, j, none⟩) → K0 (a.put o.dst v') w') : if Region.wanted o (yielded ops a.tmps) = true then Oper.wp P o a w K0 Q else F := by
  have hw : Region.wanted o (yielded ops a.tmps) = true := by simp [Region.wanted, hgd]
  rw [if_pos hw]
  obtain ⟨i0, hi, hz0, hz1, hz2⟩ := T.info
  have hnews : ∀ j u, (Row.flat E K)[j]? = some u → w.cell? (q.add j) = some u := fun j u hu => by
    have hj : j < K.length * E.k := by rw [← Row.flat_length]; exact (List.getElem?_eq_some_iff.1 hu).1
    have hK0 : 0 < K.length := by
      rcases Nat.eq_zero_or_pos K.length with h | h
      · rw [h] at hj; omega
      · exact h
    obtain ⟨b, off, e, _⟩ := hK.2 (by rw [hK.1]; exact hK0)
    obtain rfl : q = ⟨b, off, none⟩ := Option.some.inj e
    exact Row.Lies.at hK j u hu
  have hsm := T.small
  obtain ⟨cur, hB, hg, hn, hc, hm, hcs, ht⟩ := hown.row
  subst hn
  obtain ⟨v', w', hr, h2, h3, h4⟩ := run_app_keep (P := P) (w := w) B ts o.type te i0 z E.k bytes T.und hi hz0 hz1 hz2 T.zsize E.pos g L.length cap (Row.flat E L) hown q nx cx (Row.flat E K) (by rw [Row.flat_length, hK.1]) hnews (Row.flat_one E K) (by unfold maxLen; omega) (Nat.le_trans (Nat.mul_le_mul hlen hsm) (by decide)) hbase
  unfold Oper.wp execOp
  simp only [ho, resolve, invoke, builtin, Sem.run_bind, Sem.run_pure, Result.andThen_ok, List.map_toArray, List.map_cons, List.map_nil, hs, hx, hr]
  refine h v' w' ?_ (Below.grown (Below.refl B w) h3 hbase (fun k e => by cases e; exact hB)) h4
  unfold Row.Own
  rw [Row.flat_append, List.length_append, ← hK.1]
  exact h2
end
/-- The types of rows of numbers. -/
theorem typ_of {k : IntKind} {ts te : TypeId} {bytes : Nat} (h1 : Tryd.prog.underlying ts = some (.slice te)) (h2 : (Tryd.prog.info? te).map (fun i => (i.zero, i.size, i.bytes)) = some (some (.int k 0), 1, bytes)) (h3 : bytes ≤ 128) :
    Row.Typ Tryd.prog (enc k) ts te (.int k 0) bytes := ⟨h1, Row.info_of h2, rfl, h3⟩
end Ones
end Go.Proofs.YtibdpjhiblhnmaaDoor
