/- Merged texts: TextSet, TextMap, TextRange, KMap, ByteMap. -/
import Derived.WalkKit
import Derived.Maps.OwnSet
import Derived.Maps.OwnOps
import Derived.Below
import Derived.StringKeys
import Derived.Sort.KeysCollected
import Derived.Maps.RangeWalk
import Derived.Sort.MapsRangeIn
import Derived.RangeFuncSeq
import Derived.Maps.Keyed
namespace Go.Proofs.YtnpjkmomllkhpaaGreat
namespace TextSet
open Go.RowKit Go.Maps
section
variable {P : Program} {ts ks es : TypeId}
theorem run_make (ht : P.underlying ts = some (.map ks es)) (k : IntKind) (n : Int) (w : World) : (Instr.makeMap ts (some (.int k n))).run P w = .ok (.map (some w.heap.size)) (w.alloc (.map #[] 0)) := by
  simp [Instr.makeMap, run_underlying ht, asInt, asIntOf, Result.andThen]
def lits (L : List (List UInt8)) : List Lit := L.map Lit.string
def dat (L : List (List UInt8)) : DataW Unit := setOf (.agg []) (lits L)
/-- Block b is a set of at most n texts: those of L. -/
def Is (P : Program) (ks : TypeId) (w : World) (b n : Nat) (L : List (List UInt8)) : Prop := w.ownsMap P ks (unitElem (H := Unit)) b n (dat L)
theorem any_text (q : List UInt8) : ∀ L : List (List UInt8), (lits L).any (fun y => y.sameKey (.string q)) = L.contains q
  | [] => rfl
  | a :: r => by
    rw [lits, List.map_cons, List.any_cons, List.contains_cons]
    have h := any_text q r
    rw [lits] at h
    rw [h]
    congr 1
    show (a == q) = (q == a)
    rw [Bool.eq_iff_iff]
    simp only [beq_iff_eq]
    exact eq_comm
theorem has_dat (L : List (List UInt8)) (q : List UInt8) : Maps.has (dat L) (.string q) = L.contains q := by
  unfold dat
  rw [has_setOf _ _ _ (fun y hy => by unfold lits at hy; obtain ⟨_, _, rfl⟩ := List.mem_map.1 hy; trivial)]
  exact any_text q L
theorem dat_snoc (L : List (List UInt8)) (q : List UInt8) : dat (L ++ [q]) = (dat L).put (.string q) (.agg []) := by
  unfold dat lits
  rw [List.map_append, List.map_singleton, setOf_snoc]
theorem Is.made (w : World) : Is P ks (w.alloc (.map #[] 0)) w.heap.size 0 [] := World.ownsMap_made _ _ _ _
theorem Is.alloc {w : World} {b n : Nat} {L : List (List UInt8)} (h : Is P ks w b n L) (o : Obj) : Is P ks (w.alloc o) b n L := World.ownsMap.alloc h o
theorem Is.kept {w w' : World} {b n : Nat} {L : List (List UInt8)} {row : Option Nat} (h : Is P ks w b n L) (hg : w.grownBy w' row) (hne : some b ≠ row) : Is P ks w' b n L := World.ownsMap.kept h hg hne
theorem Is.lt {w : World} {b n : Nat} {L : List (List UInt8)} (h : Is P ks w b n L) : b < w.heap.size := World.ownsMap.lt h
theorem Is.below {w w' : World} {b n : Nat} {L : List (List UInt8)} (h : Is P ks w b n L) (k : Below w.heap.size w w') : Is P ks w' b n L := by
  have hl := h.lt
  obtain ⟨es, clock, hb, r⟩ := h
  exact ⟨es, clock, (k.block _ hl).trans hb, r⟩
/-- 'm[q] = struct{}{}'. -/
theorem wpList_put (ht : P.underlying ts = some (.map ks es)) (hks : P.underlying ks = some .string) {w : World} {ops : Array Oper} {rest : List Oper} {o : Oper} {a : Act} {Q : Exit → Act → World → Prop}
    (hg : o.guard = none) (m x v : Operand) (hop : o.op = Op.mapUpdate ts m x v) (b n : Nat) (L : List (List UInt8)) (q : List UInt8) (hm : a.eval m = .map (some b)) (hown : Is P ks w b n L) (hn : n < maxLen)
    (hx : a.eval x = .string ⟨q.toArray⟩) (hq : q.length ≤ maxLen) (hv : a.eval v = .agg #[]) (hK : ∀ w', Is P ks w' b (n + 1) (L ++ [q]) → w.grownBy w' (some b) → wpList P ops Q rest (a.put o.dst undef) w') :
    wpList P ops Q (o :: rest) a w := by
  refine wpList_mapUpdate_own w hg m x v ts hop ks es (string_keyed hks) ht (unitElem (H := Unit)) b n _ hm hown hn _ _ _ hx hv (WideMaps.keyOf_string_mk hks (by show (⟨q.toArray⟩ : ByteArray).data.size ≤ maxLen; simpa using hq)) (.agg []) [] unitElem_mk ?_
  intro w' h1 h2
  refine hK w' ?_ h2
  unfold Is
  rw [dat_snoc]
  exact h1
/-- '_, ok := m[q]'. -/
theorem wpList_has (ht : P.underlying ts = some (.map ks es)) (hks : P.underlying ks = some .string) (hz : ∀ w, (zeroValue es).run P w = .ok (.agg #[]) w) {w : World} {ops : Array Oper} {rest : List Oper} {o : Oper} {a : Act} {Q : Exit → Act → World → Prop}
    (hg : o.guard = none) (m x : Operand) (hop : o.op = Op.lookup ts m x true) (b n : Nat) (L : List (List UInt8)) (q : List UInt8) (hm : a.eval m = .map (some b)) (hown : Is P ks w b n L)
    (hx : a.eval x = .string ⟨q.toArray⟩) (hq : q.length ≤ maxLen) (ok : Bool) (hok : L.contains q = ok) (hK : wpList P ops Q rest (a.put o.dst (.tuple #[.agg #[], .bool ok])) w) :
    wpList P ops Q (o :: rest) a w := by
  refine wpList_lookup_own_unit w hg m x ts hop ks es (string_keyed hks) ht (hz w) b n _ hm hown _ (.string q) hx (WideMaps.keyOf_string_mk hks (by show (⟨q.toArray⟩ : ByteArray).data.size ≤ maxLen; simpa using hq)) ?_
  rw [has_dat, hok]
  exact hK
end
end TextSet
end Go.Proofs.YtnpjkmomllkhpaaGreat

namespace Go.Proofs.YtnpjkmomllkhpaaGreat
/-- All blocks but two stand. -/
structure Save (b c : Nat) (w w' : World) : Prop where
  os : w'.os = w.os
  tape : w'.tape = w.tape
  output : w'.output = w.output
  size : w.heap.size ≤ w'.heap.size
  block : ∀ k, k < w.heap.size → k ≠ b → k ≠ c → w'.heap[k]? = w.heap[k]?
namespace Save
open Go.RowKit
variable {b c : Nat} {w x y : World}
theorem refl (b c : Nat) (w : World) : Save b c w w := ⟨rfl, rfl, rfl, Nat.le_refl _, fun _ _ _ _ => rfl⟩
theorem trans (h : Save b c w x) (k : Save b c x y) : Save b c w y :=
  ⟨k.os.trans h.os, k.tape.trans h.tape, k.output.trans h.output, Nat.le_trans h.size k.size, fun j hj hb hc => (k.block j (Nat.lt_of_lt_of_le hj h.size) hb hc).trans (h.block j hj hb hc)⟩
theorem of (k : Below w.heap.size w x) : Save b c w x := ⟨k.os, k.tape, k.output, k.size, fun j hj _ _ => k.block j hj⟩
/-- A block that is new at w may turn, too. -/
theorem new (h : Save b c w x) {d : Nat} (hd : w.heap.size ≤ d) (k : Save b d x y) : Save b c w y :=
  ⟨k.os.trans h.os, k.tape.trans h.tape, k.output.trans h.output, Nat.le_trans h.size k.size, fun j hj hb hc => (k.block j (Nat.lt_of_lt_of_le hj h.size) hb (by omega)).trans (h.block j hj hb hc)⟩
theorem alloc (h : Save b c w x) (o : Obj) : Save b c w (x.alloc o) := h.trans (of ((Below.refl _ _).alloc (Nat.le_refl _) o))
theorem drew (h : Save b c w x) : Save b c w x.drew := h.trans (of (Below.drew (Below.refl _ _)))
theorem grown1 (k : w.grownBy x (some b)) : Save b c w x := by
  obtain ⟨h1, h2, h3, h4, h5⟩ := k
  exact ⟨h1, h2, h3, h4, fun j hj hb _ => h5 j hj (by simpa using hb)⟩
theorem grown2 (k : w.grownBy x (some c)) : Save b c w x := by
  obtain ⟨h1, h2, h3, h4, h5⟩ := k
  exact ⟨h1, h2, h3, h4, fun j hj _ hc => h5 j hj (by simpa using hc)⟩
theorem set1 {p : Addr} (hp : p.block = b) (v : Value) : Save b c w (w.setCell p v) := by
  have k := (Below.refl w.heap.size w)
  exact ⟨rfl, rfl, rfl, by simp, fun j _ hb _ => by rw [Below.heap_setCell _ _ _ _ (by rw [hp]; exact hb)]⟩
theorem below {B : Nat} (h : Below B w x) (k : Save b c x y) (hb : B ≤ b) (hc : B ≤ c) (hB : B ≤ x.heap.size) : Below B w y :=
  ⟨k.os.trans h.os, k.tape.trans h.tape, k.output.trans h.output, Nat.le_trans h.size k.size, fun j hj => (k.block j (Nat.lt_of_lt_of_le hj hB) (by omega) (by omega)).trans (h.block j hj)⟩
theorem cell (h : Save b c w x) {p : Addr} (hp : p.block < w.heap.size) (hb : p.block ≠ b) (hc : p.block ≠ c) : x.cell? p = w.cell? p := World.cell?_of_block (w := w) (h.block p.block hp hb hc)
end Save
namespace TextMap
open Go.RowKit Go.Maps
variable {P : Program} {ts ks es : TypeId}
/-- How an element reads: as itself. -/
def RV : Value → Option (DataW Value × List MemPlace) := fun v => some (.held v, [])
/-- Block b is a map of at most n entries: f. -/
def Is (P : Program) (ks : TypeId) (w : World) (b n : Nat) (f : List UInt8 → Option Value) : Prop :=
  ∃ D, w.ownsMap P ks RV b n D ∧ ∀ q, Maps.has D (.string q) = (f q).isSome ∧ ∀ v, f q = some v → ∀ z, D.atKey (.string q) z = .held v
variable {w w' : World} {b n : Nat} {f : List UInt8 → Option Value}
theorem Is.made (w : World) : Is P ks (w.alloc (.map #[] 0)) w.heap.size 0 (fun _ => none) := ⟨_, World.ownsMap_made _ _ _ _, fun _ => ⟨rfl, fun _ h => by cases h⟩⟩
theorem Is.alloc (h : Is P ks w b n f) (o : Obj) : Is P ks (w.alloc o) b n f := by
  obtain ⟨D, h1, h2⟩ := h
  exact ⟨D, World.ownsMap.alloc h1 o, h2⟩
theorem Is.lt (h : Is P ks w b n f) : b < w.heap.size := by
  obtain ⟨D, h1, _⟩ := h
  exact World.ownsMap.lt h1
theorem Is.isMap (h : Is P ks w b n f) : ∃ es clock, w.heap[b]? = some (.map es clock) := by
  obtain ⟨D, ⟨es, clock, hb, _⟩, _⟩ := h
  exact ⟨es, clock, hb⟩
theorem Is.moved (h : Is P ks w b n f) (k : w'.heap[b]? = w.heap[b]?) : Is P ks w' b n f := by
  obtain ⟨D, ⟨es, clock, hb, r⟩, h2⟩ := h
  exact ⟨D, ⟨es, clock, k.trans hb, r⟩, h2⟩
theorem Is.below (h : Is P ks w b n f) (k : Below w.heap.size w w') : Is P ks w' b n f := h.moved (k.block _ h.lt)
theorem Is.save (h : Is P ks w b n f) {p c : Nat} (k : Save p c w w') (hp : b ≠ p) (hc : b ≠ c) : Is P ks w' b n f := h.moved (k.block _ h.lt hp hc)
theorem Is.mono (h : Is P ks w b n f) {m : Nat} (hm : n ≤ m) : Is P ks w b m f := by
  obtain ⟨D, h1, h2⟩ := h
  exact ⟨D, World.ownsMap.mono h1 hm, h2⟩
theorem Is.ext (h : Is P ks w b n f) {g : List UInt8 → Option Value} (hg : ∀ q, f q = g q) : Is P ks w b n g := by
  obtain rfl : f = g := funext hg
  exact h
def put (f : List UInt8 → Option Value) (q : List UInt8) (v : Value) : List UInt8 → Option Value := fun x => if x = q then some v else f x
theorem key_of (hks : P.underlying ks = some .string) {q : List UInt8} (hq : q.length ≤ maxLen) : keyOf P ks (.string ⟨q.toArray⟩) = some (.string q) := WideMaps.keyOf_string_mk hks (by show (⟨q.toArray⟩ : ByteArray).data.size ≤ maxLen; simpa using hq)
theorem run_put (ht : P.underlying ts = some (.map ks es)) (hks : P.underlying ks = some .string) (h : Is P ks w b n f) (hn : n < maxLen) {q : List UInt8} (hq : q.length ≤ maxLen) (v : Value) :
    ∃ w', (Instr.mapUpdate ts (.map (some b)) (.string ⟨q.toArray⟩) v).run P w = .ok () w' ∧ Is P ks w' b (n + 1) (put f q v) ∧ w.grownBy w' (some b) := by
  obtain ⟨D, h1, h2⟩ := h
  obtain ⟨w', hr, ho, hg⟩ := World.ownsMap.update h1 (string_keyed hks) ht hn (key_of hks hq) (val := v) (d := .held v) (ps := []) rfl
  refine ⟨w', hr, ⟨_, ho, fun x => ?_⟩, hg⟩
  have hm := World.ownsMap.isMap h1
  unfold put
  by_cases e : x = q
  · subst e
    rw [if_pos rfl]
    refine ⟨has_put_same hm (by trivial) _, fun y hy z => ?_⟩
    cases hy
    exact atKey_put_same hm (by trivial) _ _
  · rw [if_neg e]
    have hne : Lit.string x ≠ Lit.string q := fun h => e (by cases h; rfl)
    refine ⟨(has_put_other hne _).trans (h2 x).1, fun y hy z => ?_⟩
    rw [atKey_put_other hne]
    exact (h2 x).2 y hy z
theorem run_look (ht : P.underlying ts = some (.map ks es)) (hks : P.underlying ks = some .string) {z : Value} (hz : (zeroValue es).run P w = .ok z w) (h : Is P ks w b n f) {q : List UInt8} (hq : q.length ≤ maxLen) :
    (Instr.lookup ts (.map (some b)) (.string ⟨q.toArray⟩) false).run P w = .ok ((f q).getD z) w := by
  obtain ⟨D, h1, h2⟩ := h
  obtain ⟨v, ps, hr, hv⟩ := World.ownsMap.lookup h1 (string_keyed hks) ht hz (zd := .held z) (zp := []) rfl (key_of hks hq)
  rw [hr]
  simp only [RV, Option.some.injEq, Prod.mk.injEq] at hv
  cases hf : f q with
  | none =>
    have := (h2 q).1
    rw [hf] at this
    rw [atKey_of_not_has this] at hv
    cases hv.1; rfl
  | some y =>
    rw [(h2 q).2 y hf] at hv
    cases hv.1; rfl
theorem run_look_ok (ht : P.underlying ts = some (.map ks es)) (hks : P.underlying ks = some .string) {z : Value} (hz : (zeroValue es).run P w = .ok z w) (h : Is P ks w b n f) {q : List UInt8} (hq : q.length ≤ maxLen) :
    (Instr.lookup ts (.map (some b)) (.string ⟨q.toArray⟩) true).run P w = .ok (.tuple #[(f q).getD z, .bool (f q).isSome]) w := by
  obtain ⟨D, h1, h2⟩ := h
  obtain ⟨v, ps, hr, hv⟩ := World.ownsMap.look_ok h1 (string_keyed hks) ht hz (zd := .held z) (zp := []) rfl (key_of hks hq)
  rw [hr, (h2 q).1]
  simp only [RV, Option.some.injEq, Prod.mk.injEq] at hv
  cases hf : f q with
  | none =>
    have := (h2 q).1
    rw [hf] at this
    rw [atKey_of_not_has this] at hv
    cases hv.1; rfl
  | some y =>
    rw [(h2 q).2 y hf] at hv
    cases hv.1; rfl
/-- The map's keys, rising. -/
theorem Is.keys (hks : P.underlying ks = some .string) (h : Is P ks w b n f) {T : List (List UInt8)} (hT : T.Pairwise (fun x y => x < y)) (hm : ∀ q, q ∈ T ↔ (f q).isSome = true) :
    ∃ D, w.ownsMap P ks RV b n D ∧ Maps.size D = T.length ∧ ∀ ss : List (List UInt8), ss.Perm (strKeys D) → ss.mergeSort (fun x y => decide (x ≤ y)) = T := by
  obtain ⟨D, h1, h2⟩ := h
  refine ⟨D, h1, ?_⟩
  have hnd : T.Nodup := hT.imp (fun {a b} hab e => by rw [e] at hab; exact List.lt_irrefl b hab)
  obtain ⟨es', hD, hko⟩ := World.ownsMap.keysOf h1
  have hp : T.Perm (strKeys D) := by
    obtain ⟨es2, hes, hpw⟩ := World.ownsMap.tidy h1 (string_keyed hks)
    rw [hes] at hD
    cases hD
    rw [hes]
    refine perm_strKeys hpw (fun p hp => ?_) hnd (fun x => ?_)
    · obtain ⟨key, hk⟩ := hko p hp
      obtain ⟨x, _, e, _⟩ := Maps.keyOf_str hks hk
      exact ⟨x, e⟩
    · rw [hm x, ← (h2 x).1, hes]
  refine ⟨?_, fun ss hs => ?_⟩
  · rw [hp.length_eq, hD]
    simp [strKeys, Maps.size]
  · have hpt : (ss.mergeSort (fun x y => decide (x ≤ y))).Perm T := ((List.mergeSort_perm _ _).trans hs).trans hp.symm
    refine List.Perm.eq_of_pairwise (le := fun a b => a ≤ b) (fun a b _ _ h1 h2 => List.le_antisymm h1 h2) ?_ ?_ hpt
    · refine (List.pairwise_mergeSort (fun a b c h1 h2 => ?_) (fun a b => ?_) ss).imp (fun h => by simpa using h)
      · simp only [decide_eq_true_eq] at *; exact List.le_trans h1 h2
      · simp only [Bool.or_eq_true, decide_eq_true_eq]; exact List.le_total a b
    · exact hT.imp (fun h => List.le_of_lt h)
-- at the operations
variable {ops : Array Oper} {rest : List Oper} {o : Oper} {a : Act} {Q : Exit → Act → World → Prop}
theorem wpList_put (ht : P.underlying ts = some (.map ks es)) (hks : P.underlying ks = some .string) (hg : o.guard = none) (m x v : Operand) (hop : o.op = Op.mapUpdate ts m x v) (b n : Nat) (f : List UInt8 → Option Value) (q : List UInt8) (val : Value)
    (hm : a.eval m = .map (some b)) (hown : Is P ks w b n f) (hn : n < maxLen) (hx : a.eval x = .string ⟨q.toArray⟩) (hq : q.length ≤ maxLen) (hv : a.eval v = val)
    (hK : ∀ w', Is P ks w' b (n + 1) (put f q val) → w.grownBy w' (some b) → wpList P ops Q rest (a.put o.dst undef) w') : wpList P ops Q (o :: rest) a w := by
  refine wpList_plain hg fun K' hK' => ?_
  obtain ⟨w', hrun, h1, h2⟩ := run_put ht hks hown hn hq val
  unfold Oper.wp
  simp [execOp, hop, hm, hx, hv, hrun, Result.andThen]
  exact hK' _ _ (hK w' h1 h2)
/-- The same as one step of a region that draws its order. -/
theorem step_put (ht : P.underlying ts = some (.map ks es)) (hks : P.underlying ks = some .string) {K0 : Act → World → Prop} {F : Prop} (hg : o.guard = none) (m x v : Operand) (hop : o.op = Op.mapUpdate ts m x v) (b n : Nat) (f : List UInt8 → Option Value) (q : List UInt8) (val : Value)
    (hm : a.eval m = .map (some b)) (hown : Is P ks w b n f) (hn : n < maxLen) (hx : a.eval x = .string ⟨q.toArray⟩) (hq : q.length ≤ maxLen) (hv : a.eval v = val)
    (hK : ∀ w', Is P ks w' b (n + 1) (put f q val) → w.grownBy w' (some b) → K0 (a.put o.dst undef) w') : if Region.wanted o (yielded ops a.tmps) = true then Oper.wp P o a w K0 Q else F := by
  have hw : Region.wanted o (yielded ops a.tmps) = true := by simp [Region.wanted, hg]
  rw [if_pos hw]
  obtain ⟨w', hrun, h1, h2⟩ := run_put ht hks hown hn hq val
  unfold Oper.wp
  simp [execOp, hop, hm, hx, hv, hrun, Result.andThen]
  exact hK w' h1 h2
theorem wpList_look (ht : P.underlying ts = some (.map ks es)) (hks : P.underlying ks = some .string) {z : Value} (hz : (zeroValue es).run P w = .ok z w) (hg : o.guard = none) (m x : Operand) (hop : o.op = Op.lookup ts m x false) (b n : Nat) (f : List UInt8 → Option Value) (q : List UInt8)
    (hm : a.eval m = .map (some b)) (hown : Is P ks w b n f) (hx : a.eval x = .string ⟨q.toArray⟩) (hq : q.length ≤ maxLen) (val : Value) (hv : (f q).getD z = val) (hK : wpList P ops Q rest (a.put o.dst val) w) : wpList P ops Q (o :: rest) a w := by
  refine wpList_plain hg fun K' hK' => ?_
  have hrun := run_look ht hks hz hown hq
  rw [hv] at hrun
  unfold Oper.wp
  simp [execOp, hop, hm, hx, hrun, Result.andThen]
  exact hK' _ _ hK
theorem wpList_look_ok (ht : P.underlying ts = some (.map ks es)) (hks : P.underlying ks = some .string) {z : Value} (hz : (zeroValue es).run P w = .ok z w) (hg : o.guard = none) (m x : Operand) (hop : o.op = Op.lookup ts m x true) (b n : Nat) (f : List UInt8 → Option Value) (q : List UInt8)
    (hm : a.eval m = .map (some b)) (hown : Is P ks w b n f) (hx : a.eval x = .string ⟨q.toArray⟩) (hq : q.length ≤ maxLen) (val : Value) (hv : (f q).getD z = val) (is : Bool) (hi : (f q).isSome = is) (hK : wpList P ops Q rest (a.put o.dst (.tuple #[val, .bool is])) w) : wpList P ops Q (o :: rest) a w := by
  refine wpList_plain hg fun K' hK' => ?_
  have hrun := run_look_ok ht hks hz hown hq
  rw [hv, hi] at hrun
  unfold Oper.wp
  simp [execOp, hop, hm, hx, hrun, Result.andThen]
  exact hK' _ _ hK
/-- 'len(m)'. -/
theorem wpList_len (ht : P.underlying ts = some (.map ks es)) (hks : P.underlying ks = some .string) (hg : o.guard = none) (m : Operand) (hop : o.op = Op.call { callee := Callee.builtin Builtin.len, args := #[m], argTypes := #[ts] }) (b n : Nat) (f : List UInt8 → Option Value)
    (hm : a.eval m = .map (some b)) (hown : Is P ks w b n f) {T : List (List UInt8)} (hT : T.Pairwise (fun x y => x < y)) (hmem : ∀ q, q ∈ T ↔ (f q).isSome = true) (k : Nat) (hk : T.length = k) (hK : wpList P ops Q rest (a.put o.dst (.int .i64 (k : Int))) w) : wpList P ops Q (o :: rest) a w := by
  obtain ⟨D, hD, hs, _⟩ := hown.keys hks hT hmem
  refine wpList_len_own w hg m ts hop ks es ht RV b n D hm hD ?_
  rw [hs, hk]; exact hK
end TextMap
end Go.Proofs.YtnpjkmomllkhpaaGreat

namespace Go.Proofs.YtnpjkmomllkhpaaGreat
namespace TextRange
open Go.RowKit Go.Maps Go.ChangeMaps Go.MapKept Go.WideShapes Go.WideElems
section
variable {H : Type} {P : Program} {k t e : TypeId} {R : Value → Option (DataW H × List MemPlace)} {w : World} {b r n : Nat} {D : DataW H} {left : Lit → Bool} {cnt : Nat}
theorem filter_born (es : List MapEntry) (seen : Array Nat) : (es.filter fun x => !seen.contains x.born).length = ((es.map (·.born)).filter fun i => !seen.contains i).length := by
  induction es with
  | nil => rfl
  | cons x l ih =>
    rw [List.map_cons, List.filter_cons, List.filter_cons]
    split
    · rw [List.length_cons, List.length_cons, ih]
    · exact ih
/-- 'm[k] = v' in the round, at a key that is there. -/
theorem store (h : w.ranges P k R b r n D left cnt) (K : Keyed P k) (ht : P.underlying t = some (.map k e)) (hn : n < maxLen) {key val : Value} {kl : Lit} {d : DataW H} {ps : List MemPlace}
    (hkey : keyOf P k key = some kl) (hin : Maps.has D kl = true) (hv : R val = some (d, ps)) :
    ∃ w', (Instr.mapUpdate t (.map (some b)) key val).run P w = .ok () w' ∧ w'.ranges P k R b r n (D.put kl d) left cnt ∧ w.grownBy w' (some b) := by
  have hne := h.ne
  obtain ⟨es, clock, since, seen, c0, hb, F, hs, rfl, hr, hold, rfl, hl1, hl2, hsc, hsk⟩ := h
  obtain ⟨es', clock', hrun, F', hput, -, -, -⟩ := Maps.fit_store (R' := R) K ht hb F (Nat.lt_of_le_of_lt hs hn) (fun _ _ _ _ hz => hz) hkey hv
  rcases K.find w hkey es.toList F.keys with ⟨h1, h2⟩ | ⟨j, e0, h1, h2, h3⟩
  · exfalso
    obtain ⟨p, hp, hpk⟩ := List.any_eq_true.1 hin
    obtain ⟨x, hx, rfl⟩ := List.mem_map.1 (mem_sorted.1 hp)
    obtain ⟨y, hy⟩ := F.reads x hx
    have e1 := WideAt.sameKey_eq hpk
    rw [rg_of hy] at e1
    exact h2 x hx (K.inj (rd_key hy) (by rw [e1]; exact hkey))
  · have hj : es[j]? = some e0 := by simpa using h2
    have hjl : j < es.toList.length := (List.getElem?_eq_some_iff.1 h2).1
    have hlist : (es.modify j (fun e' => { e' with key := key, val := val })).toList = es.toList.set j { e0 with key := key, val := val } := by rw [Array.toList_modify, modify_eq_set _ _ _ _ h2]
    have hrun2 : (Instr.mapUpdate t (.map (some b)) key val).run P w = .ok () (setBlock w b (.map (es.modify j (fun e' => { e' with key := key, val := val })) clock)) := by
      simp [Instr.mapUpdate, run_underlying ht, MapKept.run_getObj_map hb, K.check w false hkey, h1, hj, h3, K.stays w hkey, MapKept.run_setObj_map _ hb, Result.andThen, setBlock]
    have hw : setBlock w b (.map es' clock') = setBlock w b (.map (es.modify j (fun e' => { e' with key := key, val := val })) clock) := by
      rw [hrun] at hrun2
      injection hrun2
    have ho := heap_setBlock_same hb (.map es' clock')
    rw [hw, heap_setBlock_same hb _] at ho
    simp only [Option.some.injEq, Obj.map.injEq] at ho
    obtain ⟨rfl, rfl⟩ := ho
    have hel : es.toList[j]'hjl = e0 := (List.getElem?_eq_some_iff.1 h2).2
    have who : ∀ x ∈ es.toList.set j { e0 with key := key, val := val }, x = { e0 with key := key, val := val } ∨ x ∈ es.toList := by
      intro x hx
      exact (List.mem_or_eq_of_mem_set hx).symm
    have he0 : e0 ∈ es.toList := List.mem_of_getElem? h2
    have hrg : (rg P k R { e0 with key := key, val := val }).1 = (rg P k R e0).1 := by
      obtain ⟨y, hy⟩ := F.reads e0 he0
      have m1 := rd_key hy
      rw [h3, hkey] at m1
      rw [rg_of (rd_mk (born := e0.born) hkey hv), rg_of hy]
      exact Option.some.inj m1
    refine ⟨_, hrun2, ⟨_, _, since, seen, c0, heap_setBlock_same hb _, F', by simpa using hs, by rw [DataW.put_eq, hput], (heap_setBlock_other hb _ hne).trans hr, fun x hx => ?_, ?_, fun x hx => ?_, fun kl' hk => ?_, hsc, hsk⟩, ⟨rfl, rfl, rfl, by simp [setBlock], fun i _ hi => heap_setBlock_other hb _ (fun e => hi (by rw [e]))⟩⟩
    · rw [hlist] at hx
      rcases who x hx with rfl | hx'
      · exact hold e0 he0
      · exact hold x hx'
    · have e1 : ∀ a : Array MapEntry, (leftOf a seen).size = (a.toList.filter fun e => !seen.contains e.born).length := fun a => by
        unfold leftOf
        rw [← Array.toList_filter, Array.length_toList]
      rw [e1, e1, filter_born, filter_born, hlist, List.map_set]
      congr 2
      have : e0.born = (es.toList.map (·.born))[j]'(by simpa using hjl) := by rw [List.getElem_map, hel]
      show (es.toList.map (·.born)).set j e0.born = _
      rw [this, List.set_getElem_self]
    · rw [hlist] at hx
      rcases who x hx with rfl | hx'
      · rw [hrg]; exact hl1 e0 he0
      · exact hl1 x hx'
    · obtain ⟨x, hx, rfl⟩ := hl2 kl' hk
      rw [hlist]
      obtain ⟨i, hi, rfl⟩ := List.getElem_of_mem hx
      by_cases hij : j = i
      · subst hij
        exact ⟨{ e0 with key := key, val := val }, List.mem_iff_getElem.2 ⟨j, by simpa using hjl, by simp⟩, by rw [hrg, hel]⟩
      · exact ⟨_, List.mem_iff_getElem.2 ⟨i, by simpa using hi, by rw [List.getElem_set_ne hij]⟩, rfl⟩
theorem has_left (h : w.ranges P k R b r n D left cnt) (K : Keyed P k) {kl : Lit} (hk : left kl = true) : Maps.has D kl = true := by
  obtain ⟨es, clock, since, seen, c0, hb, F, hs, rfl, hr, hold, rfl, hl1, hl2, hsc, hsk⟩ := h
  obtain ⟨x, hx, rfl⟩ := hl2 kl hk
  obtain ⟨y, hy⟩ := F.reads x hx
  exact List.any_eq_true.2 ⟨rg P k R x, mem_sorted.2 (List.mem_map.2 ⟨x, hx, rfl⟩), WideAt.sameKey_self (by rw [rg_of hy]; exact K.key (rd_key hy))⟩
theorem moved {w' : World} (h : w.ranges P k R b r n D left cnt) (hb' : w'.heap[b]? = w.heap[b]?) (hr' : w'.heap[r]? = w.heap[r]?) : w'.ranges P k R b r n D left cnt := by
  obtain ⟨es, clock, since, seen, c0, hb, F, hs, hD, hr, rest⟩ := h
  exact ⟨es, clock, since, seen, c0, hb'.trans hb, F, hs, hD, hr'.trans hr, rest⟩
end
open TextMap (RV)
variable {P : Program} {ts ks es : TypeId} {w w' : World} {b r n cnt : Nat} {f : List UInt8 → Option Value} {lf : List UInt8 → Bool}
/-- A range over the map f is under way: lf: who is still to come. -/
def Rng (P : Program) (ks : TypeId) (w : World) (b r n : Nat) (f : List UInt8 → Option Value) (lf : List UInt8 → Bool) (cnt : Nat) : Prop :=
  ∃ D left, w.ranges P ks RV b r n D left cnt ∧ (∀ q, Maps.has D (.string q) = (f q).isSome ∧ ∀ v, f q = some v → ∀ z, D.atKey (.string q) z = .held v) ∧ ∀ q, left (.string q) = lf q
theorem Rng.is (h : Rng P ks w b r n f lf cnt) : TextMap.Is P ks w b n f := by
  obtain ⟨D, left, h1, h2, _⟩ := h
  exact ⟨D, h1.owns, h2⟩
theorem Rng.moved (h : Rng P ks w b r n f lf cnt) (hb : w'.heap[b]? = w.heap[b]?) (hr : w'.heap[r]? = w.heap[r]?) : Rng P ks w' b r n f lf cnt := by
  obtain ⟨D, left, h1, h2, h3⟩ := h
  exact ⟨D, left, TextRange.moved h1 hb hr, h2, h3⟩
theorem Rng.lt (h : Rng P ks w b r n f lf cnt) : r < w.heap.size := by
  obtain ⟨D, left, h1, _⟩ := h
  exact h1.lt
theorem Rng.ne (h : Rng P ks w b r n f lf cnt) : r ≠ b := by
  obtain ⟨D, left, h1, _⟩ := h
  exact h1.ne
theorem Rng.below (h : Rng P ks w b r n f lf cnt) (k : Below w.heap.size w w') : Rng P ks w' b r n f lf cnt := h.moved (k.block _ h.is.lt) (k.block _ h.lt)
theorem Rng.left_eq (h : Rng P ks w b r n f lf cnt) : w.rangeLeft b r = cnt := by
  obtain ⟨D, left, h1, _⟩ := h
  exact h1.left_eq
section
variable {ops : Array Oper} {rest : List Oper} {o : Oper} {a : Act} {Q : Exit → Act → World → Prop}
theorem wpList_range (ht : P.underlying ts = some (.map ks es)) (hks : P.underlying ks = some .string) (hg : o.guard = none) (m : Operand) (hop : o.op = Op.range ts m) (b n : Nat) (f : List UInt8 → Option Value)
    (hm : a.eval m = .map (some b)) (hown : TextMap.Is P ks w b n f)
    (hK : ∀ w' cnt, Rng P ks w' b w.heap.size n f (fun q => (f q).isSome) cnt → Below w.heap.size w w' → wpList P ops Q rest (a.put o.dst (.pointer (some ⟨w.heap.size, 0, none⟩))) w') :
    wpList P ops Q (o :: rest) a w := by
  obtain ⟨D, h1, h2⟩ := hown
  refine wpList_range_own w hg m ts hop ks es (string_keyed hks) ht RV b n D hm h1 ?_
  intro w' r1 r2 r3
  exact hK w' _ ⟨D, _, r1, h2, fun q => (h2 q).1⟩ ⟨r2.os, r2.tape, r2.output, r2.size, fun i hi => r2.block i hi (by simp)⟩
theorem wpList_next (hks : P.underlying ks = some .string) (hg : o.guard = none) (it : Operand) (hop : o.op = Op.next it false) (b r n : Nat) (f : List UInt8 → Option Value) (lf : List UInt8 → Bool) (cnt : Nat)
    (hit : a.eval it = .pointer (some ⟨r, 0, none⟩)) (h : Rng P ks w b r n f lf cnt)
    (hDone : (∀ q, lf q = false) → wpList P ops Q rest (a.put o.dst (.tuple #[.bool false])) w)
    (hMore : ∀ (q : List UInt8) (c : Value) (w' : World) (cnt' : Nat), lf q = true → f q = some c → q.length ≤ maxLen → Rng P ks w' b r n f (fun x => lf x && !(x == q)) cnt' → cnt' < cnt → w.grownBy w' (some r) → w'.heap.size = w.heap.size →
      (Instr.entry (.pointer (some ⟨r, 0, none⟩))).run P w' = .ok (.tuple #[.string ⟨q.toArray⟩, c]) w' → wpList P ops Q rest (a.put o.dst (.tuple #[.bool true, .string ⟨q.toArray⟩, c])) w') :
    wpList P ops Q (o :: rest) a w := by
  obtain ⟨D, left, h1, h2, h3⟩ := h
  refine wpList_next_ranges w hg it hop ks (string_keyed hks) RV (fun q : List UInt8 => .string ⟨q.toArray⟩) (fun c : Value => c)
    (fun key kl hkey => by
      obtain ⟨s, rfl, _, _⟩ := WideMaps.string_of_keyOf hks hkey
      exact ⟨s.data.toList, by simp⟩) (fun v y _ => ⟨v, rfl⟩) b r n D left cnt hit h1 (fun _ hl => hDone fun q => (h3 q).symm.trans (hl _)) ?_
  intro q c kl y w' cnt' hkey hlk hRc hat hrg hlt hgr hsz hen
  obtain ⟨s, es, rfl, hsl⟩ := WideMaps.string_of_keyOf hks hkey
  simp only [Value.string.injEq] at es
  subst es
  have hql : q.length ≤ maxLen := by
    have e : (⟨q.toArray⟩ : ByteArray).size = q.length := by show q.toArray.size = _; simp
    rw [e] at hsl
    exact hsl
  have hin := has_left h1 (string_keyed hks) hlk
  have e2 : (⟨q.toArray⟩ : ByteArray).data.toList = q := by simp
  rw [e2] at hlk hin hat hrg
  cases hRc
  have hf : f q = some c := by
    have h4 := (h2 q).1
    rw [hin] at h4
    cases hq : f q with
    | none => rw [hq] at h4; cases h4
    | some v =>
      have h5 := (h2 q).2 v hq (.held v)
      rw [hat] at h5
      cases h5; rfl
  refine hMore q c w' cnt' ((h3 q).symm.trans hlk) hf hql ⟨D, _, hrg, h2, fun x => ?_⟩ hlt hgr hsz hen
  show (left (.string x) && !(Lit.string x).sameKey (.string q)) = _
  rw [h3 x]
  rfl
theorem wpList_store (ht : P.underlying ts = some (.map ks es)) (hks : P.underlying ks = some .string) (hg : o.guard = none) (m x v : Operand) (hop : o.op = Op.mapUpdate ts m x v) (b r n : Nat) (f : List UInt8 → Option Value) (lf : List UInt8 → Bool) (cnt : Nat) (q : List UInt8) (val : Value)
    (hm : a.eval m = .map (some b)) (h : Rng P ks w b r n f lf cnt) (hn : n < maxLen) (hx : a.eval x = .string ⟨q.toArray⟩) (hq : q.length ≤ maxLen) (hin : (f q).isSome = true) (hv : a.eval v = val)
    (hK : ∀ w', Rng P ks w' b r n (TextMap.put f q val) lf cnt → w.grownBy w' (some b) → wpList P ops Q rest (a.put o.dst undef) w') : wpList P ops Q (o :: rest) a w := by
  refine wpList_plain hg fun K' hK' => ?_
  obtain ⟨D, left, h1, h2, h3⟩ := h
  obtain ⟨w', hrun, r1, r2⟩ := store h1 (string_keyed hks) ht hn (TextMap.key_of hks hq) (val := val) (d := .held val) (ps := []) ((h2 q).1.trans hin) rfl
  unfold Oper.wp
  simp [execOp, hop, hm, hx, hv, hrun, Result.andThen]
  refine hK' _ _ (hK w' ⟨_, left, r1, fun y => ?_, h3⟩ r2)
  have hM := World.ownsMap.isMap h1.owns
  unfold TextMap.put
  by_cases e : y = q
  · subst e
    rw [if_pos rfl]
    refine ⟨has_put_same hM (by trivial) _, fun u hu z => ?_⟩
    cases hu
    exact atKey_put_same hM (by trivial) _ _
  · rw [if_neg e]
    have hne : Lit.string y ≠ Lit.string q := fun h => e (by cases h; rfl)
    refine ⟨(has_put_other hne _).trans (h2 y).1, fun u hu z => ?_⟩
    rw [atKey_put_other hne]
    exact (h2 y).2 u hu z
end
end TextRange
end Go.Proofs.YtnpjkmomllkhpaaGreat

namespace Go.Proofs.YtnpjkmomllkhpaaGreat
namespace KMap
open Go.RowKit Go.Maps
open TextMap (RV)
/-- How things stand as keys of the type k. -/
structure Code (α : Type) (P : Program) (k : TypeId) where
  val : α → Value
  lit : α → List UInt8
  fine : α → Prop
  keyed : Keyed P k
  key : ∀ x, fine x → keyOf P k (val x) = some (.string (lit x))
  back : ∀ {v : Value} {l : Lit}, keyOf P k v = some l → ∃ x, fine x ∧ v = val x
  inj : ∀ x y, val x = val y → x = y
variable {α : Type} {P : Program} {ts k es : TypeId} {C : Code α P k} {w w' : World} {b r n cnt : Nat} {f : α → Option Value} {lf : α → Bool}
theorem Code.lit_inj (C : Code α P k) {x y : α} (hx : C.fine x) (hy : C.fine y) (h : C.lit x = C.lit y) : x = y := C.inj _ _ (C.keyed.inj (C.key x hx) (by rw [h]; exact C.key y hy))
/-- What a datum has of the keys. -/
def Tells (C : Code α P k) (D : DataW Value) (f : α → Option Value) : Prop :=
  ∀ x, (C.fine x → Maps.has D (.string (C.lit x)) = (f x).isSome ∧ ∀ v, f x = some v → ∀ z, D.atKey (.string (C.lit x)) z = .held v) ∧ (¬ C.fine x → f x = none)
theorem Tells.fine {D : DataW Value} (h : Tells C D f) {x : α} (hx : (f x).isSome = true) : C.fine x := by
  by_cases c : C.fine x
  · exact c
  · rw [(h x).2 c] at hx; cases hx
/-- Block b is a map of at most n entries: f. -/
def Is (C : Code α P k) (w : World) (b n : Nat) (f : α → Option Value) : Prop := ∃ D, w.ownsMap P k RV b n D ∧ Tells C D f
theorem Is.made (C : Code α P k) (w : World) : Is C (w.alloc (.map #[] 0)) w.heap.size 0 (fun _ => none) := ⟨_, World.ownsMap_made _ _ _ _, fun _ => ⟨fun _ => ⟨rfl, fun _ h => by cases h⟩, fun _ => rfl⟩⟩
theorem Is.fine (h : Is C w b n f) {x : α} (hx : (f x).isSome = true) : C.fine x := by
  obtain ⟨D, _, h2⟩ := h
  exact h2.fine hx
theorem Is.alloc (h : Is C w b n f) (o : Obj) : Is C (w.alloc o) b n f := by
  obtain ⟨D, h1, h2⟩ := h
  exact ⟨D, World.ownsMap.alloc h1 o, h2⟩
theorem Is.lt (h : Is C w b n f) : b < w.heap.size := by
  obtain ⟨D, h1, _⟩ := h
  exact World.ownsMap.lt h1
theorem Is.isMap (h : Is C w b n f) : ∃ es clock, w.heap[b]? = some (.map es clock) := by
  obtain ⟨D, ⟨es, clock, hb, _⟩, _⟩ := h
  exact ⟨es, clock, hb⟩
theorem Is.moved (h : Is C w b n f) (k : w'.heap[b]? = w.heap[b]?) : Is C w' b n f := by
  obtain ⟨D, ⟨es, clock, hb, r⟩, h2⟩ := h
  exact ⟨D, ⟨es, clock, k.trans hb, r⟩, h2⟩
theorem Is.below (h : Is C w b n f) (k : Below w.heap.size w w') : Is C w' b n f := h.moved (k.block _ h.lt)
theorem Is.mono (h : Is C w b n f) {m : Nat} (hm : n ≤ m) : Is C w b m f := by
  obtain ⟨D, h1, h2⟩ := h
  exact ⟨D, World.ownsMap.mono h1 hm, h2⟩
theorem Is.ext (h : Is C w b n f) {g : α → Option Value} (hg : ∀ q, f q = g q) : Is C w b n g := by
  obtain rfl : f = g := funext hg
  exact h
def put [DecidableEq α] (f : α → Option Value) (q : α) (v : Value) : α → Option Value := fun x => if x = q then some v else f x
theorem Tells.put [DecidableEq α] {D : DataW Value} (h : Tells C D f) (hm : IsMap D) {q : α} (hq : C.fine q) (v : Value) : Tells C (D.put (.string (C.lit q)) (.held v)) (KMap.put f q v) := fun x => by
  unfold KMap.put
  by_cases e : x = q
  · subst e
    rw [if_pos rfl]
    refine ⟨fun _ => ⟨has_put_same hm (by trivial) _, fun y hy z => ?_⟩, fun c => absurd hq c⟩
    cases hy
    exact atKey_put_same hm (by trivial) _ _
  · rw [if_neg e]
    refine ⟨fun hx => ?_, (h x).2⟩
    have hne : Lit.string (C.lit x) ≠ Lit.string (C.lit q) := fun h => e (C.lit_inj hx hq (by injection h))
    refine ⟨(has_put_other hne _).trans ((h x).1 hx).1, fun y hy z => ?_⟩
    rw [atKey_put_other hne]
    exact ((h x).1 hx).2 y hy z
theorem run_put [DecidableEq α] (ht : P.underlying ts = some (.map k es)) (h : Is C w b n f) (hn : n < maxLen) {q : α} (hq : C.fine q) (v : Value) :
    ∃ w', (Instr.mapUpdate ts (.map (some b)) (C.val q) v).run P w = .ok () w' ∧ Is C w' b (n + 1) (put f q v) ∧ w.grownBy w' (some b) := by
  obtain ⟨D, h1, h2⟩ := h
  obtain ⟨w', hr, ho, hg⟩ := World.ownsMap.update h1 C.keyed ht hn (C.key q hq) (val := v) (d := .held v) (ps := []) rfl
  exact ⟨w', hr, ⟨_, ho, h2.put (World.ownsMap.isMap h1) hq v⟩, hg⟩
theorem run_look_ok (ht : P.underlying ts = some (.map k es)) {z : Value} (hz : (zeroValue es).run P w = .ok z w) (h : Is C w b n f) {q : α} (hq : C.fine q) :
    (Instr.lookup ts (.map (some b)) (C.val q) true).run P w = .ok (.tuple #[(f q).getD z, .bool (f q).isSome]) w := by
  obtain ⟨D, h1, h2⟩ := h
  obtain ⟨v, ps, hr, hv⟩ := World.ownsMap.look_ok h1 C.keyed ht hz (zd := .held z) (zp := []) rfl (C.key q hq)
  rw [hr, ((h2 q).1 hq).1]
  simp only [RV, Option.some.injEq, Prod.mk.injEq] at hv
  cases hf : f q with
  | none =>
    have := ((h2 q).1 hq).1
    rw [hf] at this
    rw [atKey_of_not_has this] at hv
    cases hv.1; rfl
  | some y =>
    rw [((h2 q).1 hq).2 y hf] at hv
    cases hv.1; rfl
/-- A range over the map f is under way: lf: who is still to come. -/
def Rng (C : Code α P k) (w : World) (b r n : Nat) (f : α → Option Value) (lf : α → Bool) (cnt : Nat) : Prop :=
  ∃ D left, w.ranges P k RV b r n D left cnt ∧ Tells C D f ∧ ∀ q, (C.fine q → left (.string (C.lit q)) = lf q) ∧ (¬ C.fine q → lf q = false)
theorem Rng.is (h : Rng C w b r n f lf cnt) : Is C w b n f := by
  obtain ⟨D, left, h1, h2, _⟩ := h
  exact ⟨D, h1.owns, h2⟩
theorem Rng.moved (h : Rng C w b r n f lf cnt) (hb : w'.heap[b]? = w.heap[b]?) (hr : w'.heap[r]? = w.heap[r]?) : Rng C w' b r n f lf cnt := by
  obtain ⟨D, left, h1, h2, h3⟩ := h
  exact ⟨D, left, TextRange.moved h1 hb hr, h2, h3⟩
theorem Rng.lt (h : Rng C w b r n f lf cnt) : r < w.heap.size := by
  obtain ⟨D, left, h1, _⟩ := h
  exact h1.lt
theorem Rng.ne (h : Rng C w b r n f lf cnt) : r ≠ b := by
  obtain ⟨D, left, h1, _⟩ := h
  exact h1.ne
theorem Rng.below (h : Rng C w b r n f lf cnt) (k : Below w.heap.size w w') : Rng C w' b r n f lf cnt := h.moved (k.block _ h.is.lt) (k.block _ h.lt)
theorem Rng.left_eq (h : Rng C w b r n f lf cnt) : w.rangeLeft b r = cnt := by
  obtain ⟨D, left, h1, _⟩ := h
  exact h1.left_eq
/-- Its iterator's block. -/
theorem Rng.walk (h : Rng C w b r n f lf cnt) : ∃ o, w.heap[r]? = some o ∧ o.isWalk = true := by
  obtain ⟨D, left, h1, _⟩ := h
  exact h1.iter_walk
theorem Rng.of_walks (h : Rng C w b r n f lf cnt) (k : KeepsWalks w w') : Rng C w' b r n f lf cnt := by
  obtain ⟨D, left, h1, h2, h3⟩ := h
  exact ⟨D, left, h1.of_walks k, h2, h3⟩
/-- What has come: each once. -/
def Col (f : α → Option Value) (lf : α → Bool) (ss : List α) : Prop := ss.Nodup ∧ ∀ x, x ∈ ss ↔ ((f x).isSome = true ∧ lf x = false)
theorem Col.start (f : α → Option Value) : Col f (fun q => (f q).isSome) [] := ⟨List.nodup_nil, fun x => by constructor <;> (intro h; first | (exact (List.not_mem_nil h).elim) | (have h1 : (f x).isSome = true := h.1; have h2 : (f x).isSome = false := h.2; rw [h1] at h2; cases h2))⟩
theorem Col.step [DecidableEq α] {ss : List α} (h : Col f lf ss) {q : α} (hl : lf q = true) (hf : (f q).isSome = true) : Col f (fun x => lf x && !(decide (x = q))) (ss ++ [q]) := by
  have hnew : q ∉ ss := fun hx => by have := ((h.2 q).1 hx).2; rw [hl] at this; cases this
  refine ⟨List.nodup_append.2 ⟨h.1, by simp, fun a ha b hb => by simp at hb; subst hb; exact fun e => hnew (e ▸ ha)⟩, fun y => ?_⟩
  by_cases hy : y = q
  · subst hy; simp [hf]
  · simp [h.2 y, hy]
theorem Col.all {ss : List α} (h : Col f lf ss) (hl : ∀ q, lf q = false) : ss.Nodup ∧ ∀ x, x ∈ ss ↔ (f x).isSome = true := ⟨h.1, fun x => by rw [h.2 x, hl x]; simp⟩
section
variable {ops : Array Oper} {rest : List Oper} {o : Oper} {a : Act} {Q : Exit → Act → World → Prop}
theorem wpList_put [DecidableEq α] (ht : P.underlying ts = some (.map k es)) (hg : o.guard = none) (m x v : Operand) (hop : o.op = Op.mapUpdate ts m x v) (b n : Nat) (f : α → Option Value) (q : α) (val : Value)
    (hm : a.eval m = .map (some b)) (hown : Is C w b n f) (hn : n < maxLen) (hx : a.eval x = C.val q) (hq : C.fine q) (hv : a.eval v = val)
    (hK : ∀ w', Is C w' b (n + 1) (put f q val) → w.grownBy w' (some b) → wpList P ops Q rest (a.put o.dst undef) w') : wpList P ops Q (o :: rest) a w := by
  refine wpList_plain hg fun K' hK' => ?_
  obtain ⟨w', hrun, h1, h2⟩ := run_put ht hown hn hq val
  unfold Oper.wp
  simp [execOp, hop, hm, hx, hv, hrun, Result.andThen]
  exact hK' _ _ (hK w' h1 h2)
theorem wpList_look_ok (ht : P.underlying ts = some (.map k es)) {z : Value} (hz : (zeroValue es).run P w = .ok z w) (hg : o.guard = none) (m x : Operand) (hop : o.op = Op.lookup ts m x true) (b n : Nat) (f : α → Option Value) (q : α)
    (hm : a.eval m = .map (some b)) (hown : Is C w b n f) (hx : a.eval x = C.val q) (hq : C.fine q) (val : Value) (hv : (f q).getD z = val) (is : Bool) (hi : (f q).isSome = is) (hK : wpList P ops Q rest (a.put o.dst (.tuple #[val, .bool is])) w) : wpList P ops Q (o :: rest) a w := by
  refine wpList_plain hg fun K' hK' => ?_
  have hrun := run_look_ok ht hz hown hq
  rw [hv, hi] at hrun
  unfold Oper.wp
  simp [execOp, hop, hm, hx, hrun, Result.andThen]
  exact hK' _ _ hK
theorem wpList_range (ht : P.underlying ts = some (.map k es)) (hg : o.guard = none) (m : Operand) (hop : o.op = Op.range ts m) (b n : Nat) (f : α → Option Value)
    (hm : a.eval m = .map (some b)) (hown : Is C w b n f)
    (hK : ∀ w' cnt, cnt ≤ n → Rng C w' b w.heap.size n f (fun q => (f q).isSome) cnt → Below w.heap.size w w' → wpList P ops Q rest (a.put o.dst (.pointer (some ⟨w.heap.size, 0, none⟩))) w') :
    wpList P ops Q (o :: rest) a w := by
  obtain ⟨D, h1, h2⟩ := hown
  refine wpList_range_own w hg m ts hop k es C.keyed ht RV b n D hm h1 ?_
  intro w' r1 r2 r3
  exact hK w' _ (World.ownsMap.size_le h1) ⟨D, _, r1, h2, fun q => ⟨fun hq => ((h2 q).1 hq).1, fun hq => by show (f q).isSome = false; rw [(h2 q).2 hq]; rfl⟩⟩ ⟨r2.os, r2.tape, r2.output, r2.size, fun i hi => r2.block i hi (by simp)⟩
theorem wpList_next [DecidableEq α] (hg : o.guard = none) (it : Operand) (hop : o.op = Op.next it false) (b r n : Nat) (f : α → Option Value) (lf : α → Bool) (cnt : Nat)
    (hit : a.eval it = .pointer (some ⟨r, 0, none⟩)) (h : Rng C w b r n f lf cnt)
    (hDone : (∀ q, lf q = false) → wpList P ops Q rest (a.put o.dst (.tuple #[.bool false])) w)
    (hMore : ∀ (q : α) (c : Value) (w' : World) (cnt' : Nat), lf q = true → f q = some c → C.fine q → Rng C w' b r n f (fun x => lf x && !(decide (x = q))) cnt' → cnt' < cnt → w.grownBy w' (some r) → w'.heap.size = w.heap.size →
      (Instr.entry (.pointer (some ⟨r, 0, none⟩))).run P w' = .ok (.tuple #[C.val q, c]) w' → wpList P ops Q rest (a.put o.dst (.tuple #[.bool true, C.val q, c])) w') :
    wpList P ops Q (o :: rest) a w := by
  obtain ⟨D, left, h1, h2, h3⟩ := h
  refine wpList_next_ranges w hg it hop k C.keyed RV C.val (fun c : Value => c)
    (fun key kl hkey => by obtain ⟨x, _, e⟩ := C.back hkey; exact ⟨x, e⟩) (fun v y _ => ⟨v, rfl⟩) b r n D left cnt hit h1 (fun _ hl => hDone fun q => ?_) ?_
  · by_cases c : C.fine q
    · exact ((h3 q).1 c).symm.trans (hl _)
    · exact (h3 q).2 c
  intro q c kl y w' cnt' hkey hlk hRc hat hrg hlt hgr hsz hen
  obtain ⟨q', hqf, e⟩ := C.back hkey
  obtain rfl := C.inj _ _ e
  rw [C.key q hqf] at hkey
  cases hkey
  have hin := TextRange.has_left h1 C.keyed hlk
  cases hRc
  have hf : f q = some c := by
    have h4 := ((h2 q).1 hqf).1
    rw [hin] at h4
    cases hq : f q with
    | none => rw [hq] at h4; cases h4
    | some v =>
      have h5 := ((h2 q).1 hqf).2 v hq (.held v)
      rw [hat] at h5
      cases h5; rfl
  refine hMore q c w' cnt' (((h3 q).1 hqf).symm.trans hlk) hf hqf ⟨D, _, hrg, h2, fun x => ⟨fun hx => ?_, fun hx => by show (lf x && _) = false; rw [(h3 x).2 hx]; rfl⟩⟩ hlt hgr hsz hen
  show (left (.string (C.lit x)) && !(Lit.string (C.lit x)).sameKey (.string (C.lit q))) = _
  rw [(h3 x).1 hx]
  have : (Lit.string (C.lit x)).sameKey (.string (C.lit q)) = decide (x = q) := by
    show (C.lit x == C.lit q) = _
    by_cases e : x = q
    · rw [e]; simp
    · rw [decide_eq_false e, beq_eq_false_iff_ne]
      exact fun h => e (C.lit_inj hx hqf h)
  rw [this]
variable {F : Fence} {nn : Nat}
theorem wpListIn_range (ht : P.underlying ts = some (.map k es)) (hg : o.guard = none) (m : Operand) (hop : o.op = Op.range ts m) (b n : Nat) (f : α → Option Value)
    (hm : a.eval m = .map (some b)) (hown : Is C w b n f)
    (hK : ∀ w' cnt, cnt ≤ n → Rng C w' b w.heap.size n f (fun q => (f q).isSome) cnt → w.grownBy w' none → wpListIn F nn P ops Q rest (a.put o.dst (.pointer (some ⟨w.heap.size, 0, none⟩))) w') :
    wpListIn F nn P ops Q (o :: rest) a w := by
  obtain ⟨D, h1, h2⟩ := hown
  refine wpListIn_range_own w hg m ts hop k es C.keyed ht RV b n D hm h1 ?_
  intro w' r1 r2 r3
  exact hK w' _ (World.ownsMap.size_le h1) ⟨D, _, r1, h2, fun q => ⟨fun hq => ((h2 q).1 hq).1, fun hq => by show (f q).isSome = false; rw [(h2 q).2 hq]; rfl⟩⟩ r2
theorem wpListIn_next [DecidableEq α] (hg : o.guard = none) (it : Operand) (hop : o.op = Op.next it false) (b r n : Nat) (f : α → Option Value) (lf : α → Bool) (cnt : Nat)
    (hit : a.eval it = .pointer (some ⟨r, 0, none⟩)) (h : Rng C w b r n f lf cnt)
    (hDone : (∀ q, lf q = false) → wpListIn F nn P ops Q rest (a.put o.dst (.tuple #[.bool false])) w)
    (hMore : ∀ (q : α) (c : Value) (w' : World) (cnt' : Nat), lf q = true → f q = some c → C.fine q → Rng C w' b r n f (fun x => lf x && !(decide (x = q))) cnt' → cnt' < cnt → w.grownBy w' (some r) → w'.heap.size = w.heap.size →
      (Instr.entry (.pointer (some ⟨r, 0, none⟩))).run P w' = .ok (.tuple #[C.val q, c]) w' → wpListIn F nn P ops Q rest (a.put o.dst (.tuple #[.bool true, C.val q, c])) w') :
    wpListIn F nn P ops Q (o :: rest) a w := by
  obtain ⟨D, left, h1, h2, h3⟩ := h
  refine wpListIn_next_ranges w hg it hop k C.keyed RV C.val (fun c : Value => c)
    (fun key kl hkey => by obtain ⟨x, _, e⟩ := C.back hkey; exact ⟨x, e⟩) (fun v y _ => ⟨v, rfl⟩) b r n D left cnt hit h1 (fun _ hl => hDone fun q => ?_) ?_
  · by_cases c : C.fine q
    · exact ((h3 q).1 c).symm.trans (hl _)
    · exact (h3 q).2 c
  intro q c kl y w' cnt' hkey hlk hRc hat hrg hlt hgr hsz hen
  obtain ⟨q', hqf, e⟩ := C.back hkey
  obtain rfl := C.inj _ _ e
  rw [C.key q hqf] at hkey
  cases hkey
  have hin := TextRange.has_left h1 C.keyed hlk
  cases hRc
  have hf : f q = some c := by
    have h4 := ((h2 q).1 hqf).1
    rw [hin] at h4
    cases hq : f q with
    | none => rw [hq] at h4; cases h4
    | some v =>
      have h5 := ((h2 q).1 hqf).2 v hq (.held v)
      rw [hat] at h5
      cases h5; rfl
  refine hMore q c w' cnt' (((h3 q).1 hqf).symm.trans hlk) hf hqf ⟨D, _, hrg, h2, fun x => ⟨fun hx => ?_, fun hx => by show (lf x && _) = false; rw [(h3 x).2 hx]; rfl⟩⟩ hlt hgr hsz hen
  show (left (.string (C.lit x)) && !(Lit.string (C.lit x)).sameKey (.string (C.lit q))) = _
  rw [(h3 x).1 hx]
  have : (Lit.string (C.lit x)).sameKey (.string (C.lit q)) = decide (x = q) := by
    show (C.lit x == C.lit q) = _
    by_cases e : x = q
    · rw [e]; simp
    · rw [decide_eq_false e, beq_eq_false_iff_ne]
      exact fun h => e (C.lit_inj hx hqf h)
  rw [this]
end
end KMap
end Go.Proofs.YtnpjkmomllkhpaaGreat

namespace Go.Proofs.YtnpjkmomllkhpaaGreat
namespace ByteMap
open Go.RowKit Go.Maps
variable {P : Program} {ts ks es : TypeId}
/-- How an element reads: as itself. -/
def RV : Value → Option (DataW Value × List MemPlace) := fun v => some (.held v, [])
/-- Block b is a map of at most n entries: f. -/
def Is (P : Program) (ks : TypeId) (w : World) (b n : Nat) (f : Nat → Option Value) : Prop :=
  ∃ D, w.ownsMap P ks RV b n D ∧ ∀ q : Nat, q < 256 → Maps.has D (.int .u8 (q : Int)) = (f q).isSome ∧ ∀ v, f q = some v → ∀ z, D.atKey (.int .u8 (q : Int)) z = .held v
variable {w w' : World} {b n : Nat} {f : Nat → Option Value}
theorem Is.made (w : World) : Is P ks (w.alloc (.map #[] 0)) w.heap.size 0 (fun _ => none) := ⟨_, World.ownsMap_made _ _ _ _, fun _ _ => ⟨rfl, fun _ h => by cases h⟩⟩
theorem Is.lt (h : Is P ks w b n f) : b < w.heap.size := by
  obtain ⟨D, h1, _⟩ := h
  exact World.ownsMap.lt h1
theorem Is.moved (h : Is P ks w b n f) (k : w'.heap[b]? = w.heap[b]?) : Is P ks w' b n f := by
  obtain ⟨D, ⟨es, clock, hb, r⟩, h2⟩ := h
  exact ⟨D, ⟨es, clock, k.trans hb, r⟩, h2⟩
theorem Is.below (h : Is P ks w b n f) (k : Below w.heap.size w w') : Is P ks w' b n f := h.moved (k.block _ h.lt)
def put (f : Nat → Option Value) (q : Nat) (v : Value) : Nat → Option Value := fun x => if x = q then some v else f x
theorem wf8 {q : Nat} (hq : q < 256) : (Lit.int .u8 (q : Int)).wf = true := by
  simp only [Lit.wf, Bool.and_eq_true, decide_eq_true_eq]
  exact ⟨by show (0 : Int) ≤ _; omega, by show _ ≤ (255 : Int); omega⟩
theorem run_put (ht : P.underlying ts = some (.map ks es)) (hks : P.underlying ks = some (.int .u8)) (h : Is P ks w b n f) (hn : n < maxLen) {q : Nat} (hq : q < 256) (v : Value) :
    ∃ w', (Instr.mapUpdate ts (.map (some b)) (.int .u8 (q : Int)) v).run P w = .ok () w' ∧ Is P ks w' b (n + 1) (put f q v) ∧ w.grownBy w' (some b) := by
  obtain ⟨D, h1, h2⟩ := h
  obtain ⟨w', hr, ho, hg⟩ := World.ownsMap.update h1 (int_keyed hks) ht hn (keyOf_int_mk hks (wf8 hq)) (val := v) (d := .held v) (ps := []) rfl
  refine ⟨w', hr, ⟨_, ho, fun x hx => ?_⟩, hg⟩
  have hm := World.ownsMap.isMap h1
  unfold put
  by_cases e : x = q
  · subst e
    rw [if_pos rfl]
    refine ⟨has_put_same hm (by trivial) _, fun y hy z => ?_⟩
    cases hy
    exact atKey_put_same hm (by trivial) _ _
  · rw [if_neg e]
    have hne : Lit.int .u8 (x : Int) ≠ Lit.int .u8 (q : Int) := fun h => e (by simp at h; omega)
    refine ⟨(has_put_other hne _).trans (h2 x hx).1, fun y hy z => ?_⟩
    rw [atKey_put_other hne]
    exact (h2 x hx).2 y hy z
theorem run_look_ok (ht : P.underlying ts = some (.map ks es)) (hks : P.underlying ks = some (.int .u8)) {z : Value} (hz : (zeroValue es).run P w = .ok z w) (h : Is P ks w b n f) {q : Nat} (hq : q < 256) :
    (Instr.lookup ts (.map (some b)) (.int .u8 (q : Int)) true).run P w = .ok (.tuple #[(f q).getD z, .bool (f q).isSome]) w := by
  obtain ⟨D, h1, h2⟩ := h
  obtain ⟨v, ps, hr, hv⟩ := World.ownsMap.look_ok h1 (int_keyed hks) ht hz (zd := .held z) (zp := []) rfl (keyOf_int_mk hks (wf8 hq))
  rw [hr, (h2 q hq).1]
  simp only [RV, Option.some.injEq, Prod.mk.injEq] at hv
  cases hf : f q with
  | none =>
    have := (h2 q hq).1
    rw [hf] at this
    rw [atKey_of_not_has this] at hv
    cases hv.1; rfl
  | some y =>
    rw [(h2 q hq).2 y hf] at hv
    cases hv.1; rfl
-- at the operations
variable {ops : Array Oper} {rest : List Oper} {o : Oper} {a : Act} {Q : Exit → Act → World → Prop}
theorem wpList_put (ht : P.underlying ts = some (.map ks es)) (hks : P.underlying ks = some (.int .u8)) (hg : o.guard = none) (m x v : Operand) (hop : o.op = Op.mapUpdate ts m x v) (b n : Nat) (f : Nat → Option Value) (q : Nat) (val : Value)
    (hm : a.eval m = .map (some b)) (hown : Is P ks w b n f) (hn : n < maxLen) (hx : a.eval x = .int .u8 (q : Int)) (hq : q < 256) (hv : a.eval v = val)
    (hK : ∀ w', Is P ks w' b (n + 1) (put f q val) → w.grownBy w' (some b) → wpList P ops Q rest (a.put o.dst undef) w') : wpList P ops Q (o :: rest) a w := by
  refine wpList_plain hg fun K' hK' => ?_
  obtain ⟨w', hrun, h1, h2⟩ := run_put ht hks hown hn hq val
  unfold Oper.wp
  simp [execOp, hop, hm, hx, hv, hrun, Result.andThen]
  exact hK' _ _ (hK w' h1 h2)
/-- The same as one step of a region that draws its order. -/
theorem step_put (ht : P.underlying ts = some (.map ks es)) (hks : P.underlying ks = some (.int .u8)) {K0 : Act → World → Prop} {F : Prop} (hg : o.guard = none) (m x v : Operand) (hop : o.op = Op.mapUpdate ts m x v) (b n : Nat) (f : Nat → Option Value) (q : Nat) (val : Value)
    (hm : a.eval m = .map (some b)) (hown : Is P ks w b n f) (hn : n < maxLen) (hx : a.eval x = .int .u8 (q : Int)) (hq : q < 256) (hv : a.eval v = val)
    (hK : ∀ w', Is P ks w' b (n + 1) (put f q val) → w.grownBy w' (some b) → K0 (a.put o.dst undef) w') : if Region.wanted o (yielded ops a.tmps) = true then Oper.wp P o a w K0 Q else F := by
  have hw : Region.wanted o (yielded ops a.tmps) = true := by simp [Region.wanted, hg]
  rw [if_pos hw]
  obtain ⟨w', hrun, h1, h2⟩ := run_put ht hks hown hn hq val
  unfold Oper.wp
  simp [execOp, hop, hm, hx, hv, hrun, Result.andThen]
  exact hK w' h1 h2
theorem wpList_look_ok (ht : P.underlying ts = some (.map ks es)) (hks : P.underlying ks = some (.int .u8)) {z : Value} (hz : (zeroValue es).run P w = .ok z w) (hg : o.guard = none) (m x : Operand) (hop : o.op = Op.lookup ts m x true) (b n : Nat) (f : Nat → Option Value) (q : Nat)
    (hm : a.eval m = .map (some b)) (hown : Is P ks w b n f) (hx : a.eval x = .int .u8 (q : Int)) (hq : q < 256) (val : Value) (hv : (f q).getD z = val) (is : Bool) (hi : (f q).isSome = is) (hK : wpList P ops Q rest (a.put o.dst (.tuple #[val, .bool is])) w) : wpList P ops Q (o :: rest) a w := by
  refine wpList_plain hg fun K' hK' => ?_
  have hrun := run_look_ok ht hks hz hown hq
  rw [hv, hi] at hrun
  unfold Oper.wp
  simp [execOp, hop, hm, hx, hrun, Result.andThen]
  exact hK' _ _ hK
end ByteMap
end Go.Proofs.YtnpjkmomllkhpaaGreat
