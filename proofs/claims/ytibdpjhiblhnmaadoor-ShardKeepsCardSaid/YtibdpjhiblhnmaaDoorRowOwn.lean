
/- Rows of records that a call owns: appended to, set, copied within; for every record of one-cell fields. -/
import Derived.Test.YtibdpjhiblhnmaaDoorRow
import Derived.Test.YtibdpjhiblhnmaaDoorFrame
import Derived.Laws.CopyRow
import Derived.Lib.AppendZerosOnto
import Derived.Below
namespace Go.Proofs.YtibdpjhiblhnmaaDoor
namespace Row
open Go.RowKit
variable {α : Type} {E : Enc α} {P : Program} {ts te : TypeId} {z : Value} {bytes : Nat}

/-- What a program says of a slice's type and its element's. -/
structure Typ (P : Program) (E : Enc α) (ts te : TypeId) (z : Value) (bytes : Nat) : Prop where
  und : P.underlying ts = some (.slice te)
  info : ∃ i, P.info? te = some i ∧ i.zero = some z ∧ i.size = E.k ∧ i.bytes = bytes
  zsize : z.cells.size = E.k
  small : bytes ≤ 128
theorem info_of {i? : Option TypeInfo} {z : Value} {s b : Nat} (h : i?.map (fun i => (i.zero, i.size, i.bytes)) = some (some z, s, b)) : ∃ i, i? = some i ∧ i.zero = some z ∧ i.size = s ∧ i.bytes = b := by
  cases i? with
  | none => cases h
  | some i => simp only [Option.map_some, Option.some.injEq, Prod.mk.injEq] at h; exact ⟨i, rfl, h.1, h.2.1, h.2.2⟩
/-- A row of the call's own. -/
def Own (E : Enc α) (te : TypeId) (w : World) (B : Nat) (v : Value) (L : List α) : Prop := w.ownsRow B te E.k v L.length (flat E L)
theorem Own.nil (w : World) (B : Nat) : Own E te w B (.slice none 0 0) [] := World.ownsRow_nil _ _ _ _
theorem Own.lies {w : World} {B : Nat} {v : Value} {L : List α} (h : Own E te w B v L) : ∃ a c, v = .slice a L.length c ∧ L.length ≤ c ∧ c ≤ maxLen ∧ Lies E w a L.length L ∧ (∀ q, a = some q → B ≤ q.block) := lies_own h
theorem Own.base {w : World} {B B' : Nat} {v : Value} {L : List α} (h : Own E te w B v L) (hB : B' ≤ B) : Own E te w B' v L := by
  refine ⟨h.1, h.2.imp id ?_⟩
  rintro ⟨g, cap, cur, h1, h2, h3⟩
  exact ⟨g, cap, cur, h1, by omega, h3⟩
theorem Own.lt {w : World} {B : Nat} {v : Value} {L : List α} (h : Own E te w B v L) : ∀ k, v.ownBlock = some k → B ≤ k ∧ k < w.heap.size := World.ownsRow.lt h
theorem Own.drew {w : World} {B : Nat} {v : Value} {L : List α} (h : Own E te w B v L) : Own E te w.drew B v L := h
theorem Own.alloc {w : World} {B : Nat} {v : Value} {L : List α} (h : Own E te w B v L) (o : Obj) : Own E te (w.alloc o) B v L := World.ownsRow.alloc h o
theorem Own.below {w w' : World} {B : Nat} {v : Value} {L : List α} (h : Own E te w B v L) (k : Below w.heap.size w w') : Own E te w' B v L := by
  refine ⟨h.1, ?_⟩
  rcases h.2 with h' | ⟨g, cap, cur, e, hB, hg, hr⟩
  · exact .inl h'
  · refine .inr ⟨g, cap, cur, e, hB, ?_, hr⟩
    rw [k.block g (Array.getElem?_eq_some_iff.1 hg).1]; exact hg
/-- A record in a new block. -/
theorem lies_new (w : World) (x : α) (T : TypeId) : Lies E (w.alloc (.cells (E.cells x).toArray T)) (some ⟨w.heap.size, 0, none⟩) 1 [x] := by
  refine ⟨rfl, fun _ => ⟨w.heap.size, 0, rfl, fun j hj i u hu => ?_⟩⟩
  obtain rfl : j = 0 := by simp at hj; exact hj
  rw [Nat.zero_mul, Nat.zero_add, World.cell?_alloc_at _ _ _ i rfl, List.getElem?_toArray]
  exact hu
theorem flat_one_list (x : α) : flat E [x] = E.cells x := by simp [flat]
theorem flat_snoc (L : List α) (x : α) : flat E (L ++ [x]) = flat E L ++ E.cells x := by rw [flat_append, flat_one_list]

/-- Records that lie anywhere, appended to a call's own row. -/
theorem wpList_app (T : Typ P E ts te z bytes) {ops : Array Oper} {rest : List Oper} {o : Oper} {a : Act} {w : World} {Q : Exit → Act → World → Prop} (hgd : o.guard = none) (s x : Operand)
    (ho : o.op = .call { callee := .builtin .append, args := #[s, x], argTypes := #[ts, ts] }) (B : Nat) (v : Value) (L : List α) (hs : a.eval s = v) (hown : Own E te w B v L)
    (ax : Option Addr) (nx cx : Nat) (K : List α) (hx : a.eval x = .slice ax nx cx) (hK : Lies E w ax nx K)
    (hlen : L.length + nx ≤ 1099511627776) (hbase : B ≤ w.heap.size)
    (h : ∀ v' w', Own E te w' B v' (L ++ K) → w.grownBy w' v.ownBlock → Below B w w' → wpList P ops Q rest (a.put o.dst v') w') : wpList P ops Q (o :: rest) a w := by
  obtain ⟨i0, hi, hz0, hz1, hz2⟩ := T.info
  cases ax with
  | none =>
    have hn0 : nx = 0 := by
      rcases Nat.eq_zero_or_pos nx with h | h
      · exact h
      · obtain ⟨_, _, e, _⟩ := hK.2 h; cases e
    have hl0 : K = [] := List.length_eq_zero_iff.1 (by rw [← hK.1]; exact hn0)
    subst hl0
    subst hn0
    refine wpList_plain hgd fun k hk => ?_
    have hrun : (Builtin.append_ #[ts, ts] o.type #[v, .slice none 0 cx]).run P w = .ok v w := by
      rcases hown.2 with ⟨rfl, _⟩ | ⟨g, cap, cur, rfl, _, _, hnc, _⟩
      · simp [Builtin.append_, run_underlying T.und, sizeOf, typeInfo, hi, Builtin.lenOf, Builtin.firstCells]
      · simp [Builtin.append_, run_underlying T.und, sizeOf, typeInfo, hi, Builtin.lenOf, Builtin.firstCells, hnc, storeCells]
    unfold Oper.wp
    simp [execOp, ho, resolve, invoke, builtin, hs, hx, hrun, Result.andThen]
    exact hk _ _ (h v w (by rw [List.append_nil]; exact hown) (World.grownBy.refl _ _) (Below.refl _ _))
  | some q =>
    have hnews : ∀ j u, (flat E K)[j]? = some u → w.cell? (q.add j) = some u := fun j u hu => by
      have hj : j < K.length * E.k := by rw [← flat_length]; exact (List.getElem?_eq_some_iff.1 hu).1
      have hK0 : 0 < K.length := by
        rcases Nat.eq_zero_or_pos K.length with h | h
        · rw [h] at hj; omega
        · exact h
      obtain ⟨b, off, e, _⟩ := hK.2 (by rw [hK.1]; exact hK0)
      obtain rfl : q = ⟨b, off, none⟩ := Option.some.inj e
      exact Lies.at hK j u hu
    have hsm := T.small
    refine wpList_append_own w hgd s x ts ho B te i0 z E.k bytes T.und hi hz0 hz1 hz2 T.zsize E.pos v L.length (flat E L) hs hown q nx cx (flat E K) hx (by rw [flat_length, hK.1]) hnews (flat_one E K) (by unfold maxLen; omega) (Nat.le_trans (Nat.mul_le_mul hlen hsm) (by decide)) hbase ?_
    intro v' w' h1 h2 _
    refine h v' w' ?_ h2 (Below.grown (Below.refl B w) h2 hbase (fun k e => (hown.lt k e).1))
    unfold Own
    rw [flat_append, List.length_append, ← hK.1]
    exact h1
/-- The same as one step of a region that draws its order: a record that lies in memory, appended. -/
theorem step_app (T : Typ P E ts te z bytes) {ops : Array Oper} {o : Oper} {a : Act} {w : World} {K0 : Act → World → Prop} {Q : Exit → Act → World → Prop} {F : Prop} (hgd : o.guard = none) (s x : Operand)
    (ho : o.op = .call { callee := .builtin .append, args := #[s, x], argTypes := #[ts, ts] }) (B : Nat) (v : Value) (L : List α) (hs : a.eval s = v) (hown : Own E te w B v L)
    (q : Addr) (nx cx : Nat) (K : List α) (hx : a.eval x = .slice (some q) nx cx) (hK : Lies E w (some q) nx K)
    (hlen : L.length + nx ≤ 1099511627776) (hbase : B ≤ w.heap.size)
    (h : ∀ v' w', Own E te w' B v' (L ++ K) → w.grownBy w' v.ownBlock → Below B w w' → K0 (a.put o.dst v') w') : if Region.wanted o (yielded ops a.tmps) = true then Oper.wp P o a w K0 Q else F := by
  have hw : Region.wanted o (yielded ops a.tmps) = true := by simp [Region.wanted, hgd]
  rw [if_pos hw]
  obtain ⟨i0, hi, hz0, hz1, hz2⟩ := T.info
  have hnews : ∀ j u, (flat E K)[j]? = some u → w.cell? (q.add j) = some u := fun j u hu => by
    have hj : j < K.length * E.k := by rw [← flat_length]; exact (List.getElem?_eq_some_iff.1 hu).1
    have hK0 : 0 < K.length := by
      rcases Nat.eq_zero_or_pos K.length with h | h
      · rw [h] at hj; omega
      · exact h
    obtain ⟨b, off, e, _⟩ := hK.2 (by rw [hK.1]; exact hK0)
    obtain rfl : q = ⟨b, off, none⟩ := Option.some.inj e
    exact Lies.at hK j u hu
  have hsm := T.small
  refine wp_append_own w s x ts ho B te i0 z E.k bytes T.und hi hz0 hz1 hz2 T.zsize E.pos v L.length (flat E L) hs hown q nx cx (flat E K) hx (by rw [flat_length, hK.1]) hnews (flat_one E K) (by unfold maxLen; omega) (Nat.le_trans (Nat.mul_le_mul hlen hsm) (by decide)) hbase ?_
  intro v' w' h1 h2 _
  refine h v' w' ?_ h2 (Below.grown (Below.refl B w) h2 hbase (fun k e => (hown.lt k e).1))
  unfold Own
  rw [flat_append, List.length_append, ← hK.1]
  exact h1
/-- The rest of a slice. -/
theorem Lies.tail {w : World} {b off n : Nat} {x : α} {L : List α} (h : Lies E w (some ⟨b, off, none⟩) n (x :: L)) : Lies E w (some ⟨b, off + E.k, none⟩) (n - 1) L := by
  refine ⟨by rw [h.1]; rfl, fun hn => ?_⟩
  obtain ⟨b', o', e, hc⟩ := h.2 (by omega)
  simp only [Option.some.injEq, Addr.mk.injEq, and_true] at e
  obtain ⟨rfl, rfl⟩ := e
  refine ⟨b, off + E.k, rfl, fun j hj i u hu => ?_⟩
  have := hc (j + 1) (by simpa using hj) i u (by simpa using hu)
  rw [← this]
  congr 2
  rw [Nat.add_mul]; omega
/-- An own row of a block, cut to the first n elements that it has room for. -/
theorem own_of {w : World} {B g n cap : Nat} {L : List α} {cur : Array Value} (hB : B ≤ g) (hg : w.heap[g]? = some (.cells cur te (0, 0))) (hn : n = L.length) (hc : L.length ≤ cap) (hm : cap ≤ maxLen) (hs : cur.size = cap * E.k) (ht : cur.toList.take (L.length * E.k) = flat E L) :
    Own E te w B (.slice (some ⟨g, 0, none⟩) n cap) L := by
  subst hn
  exact ⟨flat_length E L, .inr ⟨g, cap, cur, rfl, hB, hg, hc, hm, hs, ht⟩⟩
theorem Own.row {w : World} {B g n cap : Nat} {L : List α} (h : Own E te w B (.slice (some ⟨g, 0, none⟩) n cap) L) : ∃ cur, B ≤ g ∧ w.heap[g]? = some (.cells cur te (0, 0)) ∧ n = L.length ∧ L.length ≤ cap ∧ cap ≤ maxLen ∧ cur.size = cap * E.k ∧ cur.toList.take (L.length * E.k) = flat E L := by
  rcases h.2 with ⟨h', _⟩ | ⟨g', cap', cur, h', hb, hg, hnc, hcm, hcs, htake⟩
  · simp at h'
  · simp only [Value.slice.injEq, Option.some.injEq, Addr.mk.injEq, and_true] at h'
    obtain ⟨rfl, rfl, rfl⟩ := h'
    exact ⟨cur, hb, hg, rfl, hnc, hcm, hcs, htake⟩
/-- copy at records of several cells. -/
theorem run_copy_rows (w : World) (dT sT ty elem : TypeId) (i : TypeInfo) (g o dLen dCap : Nat) (a : Addr) (sLen sCap : Nat) (cur : Array Value) (t : TypeId) (cs : List Value)
    (hu : P.underlying dT = some (.slice elem)) (hi : P.info? elem = some i) (hg : w.heap[g]? = some (.cells cur t (0, 0))) (hn : cs.length = Nat.min sLen dLen * i.size)
    (hsrc : ∀ j v, cs[j]? = some v → w.cell? (a.add j) = some v) (hfit : o + cs.length ≤ cur.size) (h1 : ∀ v ∈ cs, v.oneCell' = true) :
    (Builtin.copy_ #[dT, sT] ty #[.slice (some ⟨g, o, none⟩) dLen dCap, .slice (some a) sLen sCap]).run P w =
      .ok (goInt (Nat.min sLen dLen)) (w.setRow g (cur.toList.take o ++ cs ++ cur.toList.drop (o + cs.length)).toArray) := by
  have hl := run_loadCells_list (P := P) w a cs hsrc
  have hst := run_storeCells_at P g o t cs 0 cur w hg (by simpa using hfit) h1
  simp [Builtin.copy_, run_underlying hu, Builtin.lenOf, Builtin.firstCells, sizeOf, typeInfo, hi, ← hn, hl, hst]
end Row
end Go.Proofs.YtibdpjhiblhnmaaDoor
