/- Merged texts: But, TextSet, TextMap, TextDrop, Marks, ScopeIn. -/
import Derived.Test.YtjnlooccddnbkaaGreatDoorTmBase
import Derived.WalkKit
import Derived.Maps.OwnSet
import Derived.Maps.OwnOps
import Derived.Below
import Derived.StringKeys
import Derived.Sort.KeysCollected
import Derived.RangeFuncLeaves
import Derived.RangeFuncRecord
import Derived.RangeFuncFrom
import Derived.ControlIn
import Derived.Scope
namespace Go.Proofs.YtjnlooccddnbkaaGreatDoor
open Go.RowKit
/-- All blocks but one stand as they stood. -/
structure But (b : Nat) (w w' : World) : Prop where
  os : w'.os = w.os
  tape : w'.tape = w.tape
  output : w'.output = w.output
  size : w.heap.size ≤ w'.heap.size
  block : ∀ k, k < w.heap.size → k ≠ b → w'.heap[k]? = w.heap[k]?
namespace But
theorem refl (b : Nat) (w : World) : But b w w := ⟨rfl, rfl, rfl, Nat.le_refl _, fun _ _ _ => rfl⟩
theorem trans {b : Nat} {w x y : World} (h : But b w x) (k : But b x y) : But b w y :=
  ⟨k.os.trans h.os, k.tape.trans h.tape, k.output.trans h.output, Nat.le_trans h.size k.size, fun j hj hb => (k.block j (Nat.lt_of_lt_of_le hj h.size) hb).trans (h.block j hj hb)⟩
theorem of {b : Nat} {w x : World} (k : Below w.heap.size w x) : But b w x := ⟨k.os, k.tape, k.output, k.size, fun j hj _ => k.block j hj⟩
theorem alloc {b : Nat} {w x : World} (h : But b w x) (o : Obj) : But b w (x.alloc o) := h.trans (of (balloc (Below.refl _ _) o))
theorem set {b : Nat} {w x : World} (h : But b w x) (p : Addr) (hp : p.block = b) (v : Value) : But b w (x.setCell p v) :=
  h.trans ⟨rfl, rfl, rfl, by simp [World.setCell], fun j _ hb => Below.heap_setCell _ _ _ _ (by rw [hp]; exact hb)⟩
/-- A block above is set. -/
theorem put {b : Nat} {w x : World} (h : But b w x) (p : Addr) (hp : w.heap.size ≤ p.block) (v : Value) : But b w (x.setCell p v) :=
  ⟨h.os, h.tape, h.output, by simpa [World.setCell] using h.size, fun j hj hb => (Below.heap_setCell _ _ _ _ (by omega)).trans (h.block j hj hb)⟩
theorem below {B b : Nat} {w x y : World} (h : Below B w x) (k : But b x y) (hb : B ≤ b) (hB : B ≤ x.heap.size) : Below B w y :=
  h.trans ⟨k.os, k.tape, k.output, k.size, fun j hj => k.block j (by omega) (by omega)⟩
theorem cell {b : Nat} {w x : World} (h : But b w x) {p : Addr} (hp : p.block < w.heap.size) (hb : p.block ≠ b) : x.cell? p = w.cell? p := World.cell?_of_block (w := w) (h.block p.block hp hb)
theorem frozen {b : Nat} {w x : World} (h : But b w x) {p : Addr} (hp : p.block < w.heap.size) (hb : p.block ≠ b) : x.frozen? p = w.frozen? p := World.frozen?_of_block (w := w) (h.block p.block hp hb)
theorem drew {b : Nat} {w x : World} (h : But b w x) : But b w x.drew := h.trans (of (Below.drew (Below.refl _ _)))
theorem drewN {b : Nat} {w x : World} (h : But b w x) (n : Nat) : But b w (x.drewN n) := h.trans (of (bdrewN (Below.refl _ _) n))
end But
end Go.Proofs.YtjnlooccddnbkaaGreatDoor

namespace Go.Proofs.YtjnlooccddnbkaaGreatDoor
namespace TextSet
open Go.RowKit Go.Maps
section
variable {P : Program} {ts ks es : TypeId}
theorem run_make (ht : P.underlying ts = some (.map ks es)) (k : IntKind) (n : Int) (w : World) : (Instr.makeMap ts (some (.int k n))).run P w = .ok (.map (some w.heap.size)) (w.alloc (.map #[] 0)) := by
  simp [Instr.makeMap, run_underlying ht, asInt, asIntOf, Result.andThen]
def lits (L : List (List UInt8)) : List Lit := L.map Lit.string
def dat (L : List (List UInt8)) : DataW Unit := setOf (.agg []) (lits L)
/-- Block b is a set of at most n texts: those of L. -/
def Is (P : Program) (ks : TypeId) (w : World) (b n : Nat) (L : List (List UInt8)) : Prop := w.ownsMap P ks (unitElem (H := Unit)) b n (dat L)
theorem any_text (q : List UInt8) : ∀ L : List (List UInt8), (lits L).any (fun y => y.sameKey (.string q)) = L.contains q
  | [] => rfl
  | a :: r => by
    rw [lits, List.map_cons, List.any_cons, List.contains_cons]
    have h := any_text q r
    rw [lits] at h
    rw [h]
    congr 1
    show (a == q) = (q == a)
    rw [Bool.eq_iff_iff]
    simp only [beq_iff_eq]
    exact eq_comm
theorem has_dat (L : List (List UInt8)) (q : List UInt8) : Maps.has (dat L) (.string q) = L.contains q := by
  unfold dat
  rw [has_setOf _ _ _ (fun y hy => by unfold lits at hy; obtain ⟨_, _, rfl⟩ := List.mem_map.1 hy; trivial)]
  exact any_text q L
theorem dat_snoc (L : List (List UInt8)) (q : List UInt8) : dat (L ++ [q]) = (dat L).put (.string q) (.agg []) := by
  unfold dat lits
  rw [List.map_append, List.map_singleton, setOf_snoc]
theorem Is.made (w : World) : Is P ks (w.alloc (.map #[] 0)) w.heap.size 0 [] := World.ownsMap_made _ _ _ _
theorem Is.alloc {w : World} {b n : Nat} {L : List (List UInt8)} (h : Is P ks w b n L) (o : Obj) : Is P ks (w.alloc o) b n L := World.ownsMap.alloc h o
theorem Is.kept {w w' : World} {b n : Nat} {L : List (List UInt8)} {row : Option Nat} (h : Is P ks w b n L) (hg : w.grownBy w' row) (hne : some b ≠ row) : Is P ks w' b n L := World.ownsMap.kept h hg hne
theorem Is.lt {w : World} {b n : Nat} {L : List (List UInt8)} (h : Is P ks w b n L) : b < w.heap.size := World.ownsMap.lt h
theorem Is.below {w w' : World} {b n : Nat} {L : List (List UInt8)} (h : Is P ks w b n L) (k : Below w.heap.size w w') : Is P ks w' b n L := by
  have hl := h.lt
  obtain ⟨es, clock, hb, r⟩ := h
  exact ⟨es, clock, (k.block _ hl).trans hb, r⟩
/-- 'm[q] = struct{}{}'. -/
theorem wpList_put (ht : P.underlying ts = some (.map ks es)) (hks : P.underlying ks = some .string) {w : World} {ops : Array Oper} {rest : List Oper} {o : Oper} {a : Act} {Q : Exit → Act → World → Prop}
    (hg : o.guard = none) (m x v : Operand) (hop : o.op = Op.mapUpdate ts m x v) (b n : Nat) (L : List (List UInt8)) (q : List UInt8) (hm : a.eval m = .map (some b)) (hown : Is P ks w b n L) (hn : n < maxLen)
    (hx : a.eval x = .string ⟨q.toArray⟩) (hq : q.length ≤ maxLen) (hv : a.eval v = .agg #[]) (hK : ∀ w', Is P ks w' b (n + 1) (L ++ [q]) → w.grownBy w' (some b) → wpList P ops Q rest (a.put o.dst undef) w') :
    wpList P ops Q (o :: rest) a w := by
  refine wpList_mapUpdate_own w hg m x v ts hop ks es (string_keyed hks) ht (unitElem (H := Unit)) b n _ hm hown hn _ _ _ hx hv (WideMaps.keyOf_string_mk hks (by show (⟨q.toArray⟩ : ByteArray).data.size ≤ maxLen; simpa using hq)) (.agg []) [] unitElem_mk ?_
  intro w' h1 h2
  refine hK w' ?_ h2
  unfold Is
  rw [dat_snoc]
  exact h1
/-- '_, ok := m[q]'. -/
theorem wpList_has (ht : P.underlying ts = some (.map ks es)) (hks : P.underlying ks = some .string) (hz : ∀ w, (zeroValue es).run P w = .ok (.agg #[]) w) {w : World} {ops : Array Oper} {rest : List Oper} {o : Oper} {a : Act} {Q : Exit → Act → World → Prop}
    (hg : o.guard = none) (m x : Operand) (hop : o.op = Op.lookup ts m x true) (b n : Nat) (L : List (List UInt8)) (q : List UInt8) (hm : a.eval m = .map (some b)) (hown : Is P ks w b n L)
    (hx : a.eval x = .string ⟨q.toArray⟩) (hq : q.length ≤ maxLen) (ok : Bool) (hok : L.contains q = ok) (hK : wpList P ops Q rest (a.put o.dst (.tuple #[.agg #[], .bool ok])) w) :
    wpList P ops Q (o :: rest) a w := by
  refine wpList_lookup_own_unit w hg m x ts hop ks es (string_keyed hks) ht (hz w) b n _ hm hown _ (.string q) hx (WideMaps.keyOf_string_mk hks (by show (⟨q.toArray⟩ : ByteArray).data.size ≤ maxLen; simpa using hq)) ?_
  rw [has_dat, hok]
  exact hK
end
end TextSet
end Go.Proofs.YtjnlooccddnbkaaGreatDoor

namespace Go.Proofs.YtjnlooccddnbkaaGreatDoor
/-- All blocks but two stand. -/
structure Save (b c : Nat) (w w' : World) : Prop where
  os : w'.os = w.os
  tape : w'.tape = w.tape
  output : w'.output = w.output
  size : w.heap.size ≤ w'.heap.size
  block : ∀ k, k < w.heap.size → k ≠ b → k ≠ c → w'.heap[k]? = w.heap[k]?
namespace Save
open Go.RowKit
variable {b c : Nat} {w x y : World}
theorem refl (b c : Nat) (w : World) : Save b c w w := ⟨rfl, rfl, rfl, Nat.le_refl _, fun _ _ _ _ => rfl⟩
theorem trans (h : Save b c w x) (k : Save b c x y) : Save b c w y :=
  ⟨k.os.trans h.os, k.tape.trans h.tape, k.output.trans h.output, Nat.le_trans h.size k.size, fun j hj hb hc => (k.block j (Nat.lt_of_lt_of_le hj h.size) hb hc).trans (h.block j hj hb hc)⟩
theorem of (k : Below w.heap.size w x) : Save b c w x := ⟨k.os, k.tape, k.output, k.size, fun j hj _ _ => k.block j hj⟩
/-- A block that is new at w may turn, too. -/
theorem new (h : Save b c w x) {d : Nat} (hd : w.heap.size ≤ d) (k : Save b d x y) : Save b c w y :=
  ⟨k.os.trans h.os, k.tape.trans h.tape, k.output.trans h.output, Nat.le_trans h.size k.size, fun j hj hb hc => (k.block j (Nat.lt_of_lt_of_le hj h.size) hb (by omega)).trans (h.block j hj hb hc)⟩
theorem alloc (h : Save b c w x) (o : Obj) : Save b c w (x.alloc o) := h.trans (of ((Below.refl _ _).alloc (Nat.le_refl _) o))
theorem drew (h : Save b c w x) : Save b c w x.drew := h.trans (of (Below.drew (Below.refl _ _)))
theorem grown1 (k : w.grownBy x (some b)) : Save b c w x := by
  obtain ⟨h1, h2, h3, h4, h5⟩ := k
  exact ⟨h1, h2, h3, h4, fun j hj hb _ => h5 j hj (by simpa using hb)⟩
theorem grown2 (k : w.grownBy x (some c)) : Save b c w x := by
  obtain ⟨h1, h2, h3, h4, h5⟩ := k
  exact ⟨h1, h2, h3, h4, fun j hj _ hc => h5 j hj (by simpa using hc)⟩
theorem set1 {p : Addr} (hp : p.block = b) (v : Value) : Save b c w (w.setCell p v) := by
  have k := (Below.refl w.heap.size w)
  exact ⟨rfl, rfl, rfl, by simp, fun j _ hb _ => by rw [Below.heap_setCell _ _ _ _ (by rw [hp]; exact hb)]⟩
theorem below {B : Nat} (h : Below B w x) (k : Save b c x y) (hb : B ≤ b) (hc : B ≤ c) (hB : B ≤ x.heap.size) : Below B w y :=
  ⟨k.os.trans h.os, k.tape.trans h.tape, k.output.trans h.output, Nat.le_trans h.size k.size, fun j hj => (k.block j (Nat.lt_of_lt_of_le hj hB) (by omega) (by omega)).trans (h.block j hj)⟩
theorem cell (h : Save b c w x) {p : Addr} (hp : p.block < w.heap.size) (hb : p.block ≠ b) (hc : p.block ≠ c) : x.cell? p = w.cell? p := World.cell?_of_block (w := w) (h.block p.block hp hb hc)
end Save
namespace TextMap
open Go.RowKit Go.Maps
variable {P : Program} {ts ks es : TypeId}
/-- How an element reads: as itself. -/
def RV : Value → Option (DataW Value × List MemPlace) := fun v => some (.held v, [])
/-- Block b is a map of at most n entries: f. -/
def Is (P : Program) (ks : TypeId) (w : World) (b n : Nat) (f : List UInt8 → Option Value) : Prop :=
  ∃ D, w.ownsMap P ks RV b n D ∧ ∀ q, Maps.has D (.string q) = (f q).isSome ∧ ∀ v, f q = some v → ∀ z, D.atKey (.string q) z = .held v
variable {w w' : World} {b n : Nat} {f : List UInt8 → Option Value}
theorem Is.made (w : World) : Is P ks (w.alloc (.map #[] 0)) w.heap.size 0 (fun _ => none) := ⟨_, World.ownsMap_made _ _ _ _, fun _ => ⟨rfl, fun _ h => by cases h⟩⟩
theorem Is.alloc (h : Is P ks w b n f) (o : Obj) : Is P ks (w.alloc o) b n f := by
  obtain ⟨D, h1, h2⟩ := h
  exact ⟨D, World.ownsMap.alloc h1 o, h2⟩
theorem Is.lt (h : Is P ks w b n f) : b < w.heap.size := by
  obtain ⟨D, h1, _⟩ := h
  exact World.ownsMap.lt h1
theorem Is.isMap (h : Is P ks w b n f) : ∃ es clock, w.heap[b]? = some (.map es clock) := by
  obtain ⟨D, ⟨es, clock, hb, _⟩, _⟩ := h
  exact ⟨es, clock, hb⟩
theorem Is.moved (h : Is P ks w b n f) (k : w'.heap[b]? = w.heap[b]?) : Is P ks w' b n f := by
  obtain ⟨D, ⟨es, clock, hb, r⟩, h2⟩ := h
  exact ⟨D, ⟨es, clock, k.trans hb, r⟩, h2⟩
theorem Is.below (h : Is P ks w b n f) (k : Below w.heap.size w w') : Is P ks w' b n f := h.moved (k.block _ h.lt)
theorem Is.save (h : Is P ks w b n f) {p c : Nat} (k : Save p c w w') (hp : b ≠ p) (hc : b ≠ c) : Is P ks w' b n f := h.moved (k.block _ h.lt hp hc)
theorem Is.mono (h : Is P ks w b n f) {m : Nat} (hm : n ≤ m) : Is P ks w b m f := by
  obtain ⟨D, h1, h2⟩ := h
  exact ⟨D, World.ownsMap.mono h1 hm, h2⟩
theorem Is.ext (h : Is P ks w b n f) {g : List UInt8 → Option Value} (hg : ∀ q, f q = g q) : Is P ks w b n g := by
  obtain rfl : f = g := funext hg
  exact h
def put (f : List UInt8 → Option Value) (q : List UInt8) (v : Value) : List UInt8 → Option Value := fun x => if x = q then some v else f x
theorem key_of (hks : P.underlying ks = some .string) {q : List UInt8} (hq : q.length ≤ maxLen) : keyOf P ks (.string ⟨q.toArray⟩) = some (.string q) := WideMaps.keyOf_string_mk hks (by show (⟨q.toArray⟩ : ByteArray).data.size ≤ maxLen; simpa using hq)
theorem run_put (ht : P.underlying ts = some (.map ks es)) (hks : P.underlying ks = some .string) (h : Is P ks w b n f) (hn : n < maxLen) {q : List UInt8} (hq : q.length ≤ maxLen) (v : Value) :
    ∃ w', (Instr.mapUpdate ts (.map (some b)) (.string ⟨q.toArray⟩) v).run P w = .ok () w' ∧ Is P ks w' b (n + 1) (put f q v) ∧ w.grownBy w' (some b) := by
  obtain ⟨D, h1, h2⟩ := h
  obtain ⟨w', hr, ho, hg⟩ := World.ownsMap.update h1 (string_keyed hks) ht hn (key_of hks hq) (val := v) (d := .held v) (ps := []) rfl
  refine ⟨w', hr, ⟨_, ho, fun x => ?_⟩, hg⟩
  have hm := World.ownsMap.isMap h1
  unfold put
  by_cases e : x = q
  · subst e
    rw [if_pos rfl]
    refine ⟨has_put_same hm (by trivial) _, fun y hy z => ?_⟩
    cases hy
    exact atKey_put_same hm (by trivial) _ _
  · rw [if_neg e]
    have hne : Lit.string x ≠ Lit.string q := fun h => e (by cases h; rfl)
    refine ⟨(has_put_other hne _).trans (h2 x).1, fun y hy z => ?_⟩
    rw [atKey_put_other hne]
    exact (h2 x).2 y hy z
theorem run_look (ht : P.underlying ts = some (.map ks es)) (hks : P.underlying ks = some .string) {z : Value} (hz : (zeroValue es).run P w = .ok z w) (h : Is P ks w b n f) {q : List UInt8} (hq : q.length ≤ maxLen) :
    (Instr.lookup ts (.map (some b)) (.string ⟨q.toArray⟩) false).run P w = .ok ((f q).getD z) w := by
  obtain ⟨D, h1, h2⟩ := h
  obtain ⟨v, ps, hr, hv⟩ := World.ownsMap.lookup h1 (string_keyed hks) ht hz (zd := .held z) (zp := []) rfl (key_of hks hq)
  rw [hr]
  simp only [RV, Option.some.injEq, Prod.mk.injEq] at hv
  cases hf : f q with
  | none =>
    have := (h2 q).1
    rw [hf] at this
    rw [atKey_of_not_has this] at hv
    cases hv.1; rfl
  | some y =>
    rw [(h2 q).2 y hf] at hv
    cases hv.1; rfl
theorem run_look_ok (ht : P.underlying ts = some (.map ks es)) (hks : P.underlying ks = some .string) {z : Value} (hz : (zeroValue es).run P w = .ok z w) (h : Is P ks w b n f) {q : List UInt8} (hq : q.length ≤ maxLen) :
    (Instr.lookup ts (.map (some b)) (.string ⟨q.toArray⟩) true).run P w = .ok (.tuple #[(f q).getD z, .bool (f q).isSome]) w := by
  obtain ⟨D, h1, h2⟩ := h
  obtain ⟨v, ps, hr, hv⟩ := World.ownsMap.look_ok h1 (string_keyed hks) ht hz (zd := .held z) (zp := []) rfl (key_of hks hq)
  rw [hr, (h2 q).1]
  simp only [RV, Option.some.injEq, Prod.mk.injEq] at hv
  cases hf : f q with
  | none =>
    have := (h2 q).1
    rw [hf] at this
    rw [atKey_of_not_has this] at hv
    cases hv.1; rfl
  | some y =>
    rw [(h2 q).2 y hf] at hv
    cases hv.1; rfl
/-- The map's keys, rising. -/
theorem Is.keys (hks : P.underlying ks = some .string) (h : Is P ks w b n f) {T : List (List UInt8)} (hT : T.Pairwise (fun x y => x < y)) (hm : ∀ q, q ∈ T ↔ (f q).isSome = true) :
    ∃ D, w.ownsMap P ks RV b n D ∧ Maps.size D = T.length ∧ ∀ ss : List (List UInt8), ss.Perm (strKeys D) → ss.mergeSort (fun x y => decide (x ≤ y)) = T := by
  obtain ⟨D, h1, h2⟩ := h
  refine ⟨D, h1, ?_⟩
  have hnd : T.Nodup := hT.imp (fun {a b} hab e => by rw [e] at hab; exact List.lt_irrefl b hab)
  obtain ⟨es', hD, hko⟩ := World.ownsMap.keysOf h1
  have hp : T.Perm (strKeys D) := by
    obtain ⟨es2, hes, hpw⟩ := World.ownsMap.tidy h1 (string_keyed hks)
    rw [hes] at hD
    cases hD
    rw [hes]
    refine perm_strKeys hpw (fun p hp => ?_) hnd (fun x => ?_)
    · obtain ⟨key, hk⟩ := hko p hp
      obtain ⟨x, _, e, _⟩ := Maps.keyOf_str hks hk
      exact ⟨x, e⟩
    · rw [hm x, ← (h2 x).1, hes]
  refine ⟨?_, fun ss hs => ?_⟩
  · rw [hp.length_eq, hD]
    simp [strKeys, Maps.size]
  · have hpt : (ss.mergeSort (fun x y => decide (x ≤ y))).Perm T := ((List.mergeSort_perm _ _).trans hs).trans hp.symm
    refine List.Perm.eq_of_pairwise (le := fun a b => a ≤ b) (fun a b _ _ h1 h2 => List.le_antisymm h1 h2) ?_ ?_ hpt
    · refine (List.pairwise_mergeSort (fun a b c h1 h2 => ?_) (fun a b => ?_) ss).imp (fun h => by simpa using h)
      · simp only [decide_eq_true_eq] at *; exact List.le_trans h1 h2
      · simp only [Bool.or_eq_true, decide_eq_true_eq]; exact List.le_total a b
    · exact hT.imp (fun h => List.le_of_lt h)
-- at the operations
variable {ops : Array Oper} {rest : List Oper} {o : Oper} {a : Act} {Q : Exit → Act → World → Prop}
theorem wpList_put (ht : P.underlying ts = some (.map ks es)) (hks : P.underlying ks = some .string) (hg : o.guard = none) (m x v : Operand) (hop : o.op = Op.mapUpdate ts m x v) (b n : Nat) (f : List UInt8 → Option Value) (q : List UInt8) (val : Value)
    (hm : a.eval m = .map (some b)) (hown : Is P ks w b n f) (hn : n < maxLen) (hx : a.eval x = .string ⟨q.toArray⟩) (hq : q.length ≤ maxLen) (hv : a.eval v = val)
    (hK : ∀ w', Is P ks w' b (n + 1) (put f q val) → w.grownBy w' (some b) → wpList P ops Q rest (a.put o.dst undef) w') : wpList P ops Q (o :: rest) a w := by
  refine wpList_plain hg fun K' hK' => ?_
  obtain ⟨w', hrun, h1, h2⟩ := run_put ht hks hown hn hq val
  unfold Oper.wp
  simp [execOp, hop, hm, hx, hv, hrun, Result.andThen]
  exact hK' _ _ (hK w' h1 h2)
/-- The same as one step of a region that draws its order. -/
theorem step_put (ht : P.underlying ts = some (.map ks es)) (hks : P.underlying ks = some .string) {K0 : Act → World → Prop} {F : Prop} (hg : o.guard = none) (m x v : Operand) (hop : o.op = Op.mapUpdate ts m x v) (b n : Nat) (f : List UInt8 → Option Value) (q : List UInt8) (val : Value)
    (hm : a.eval m = .map (some b)) (hown : Is P ks w b n f) (hn : n < maxLen) (hx : a.eval x = .string ⟨q.toArray⟩) (hq : q.length ≤ maxLen) (hv : a.eval v = val)
    (hK : ∀ w', Is P ks w' b (n + 1) (put f q val) → w.grownBy w' (some b) → K0 (a.put o.dst undef) w') : if Region.wanted o (yielded ops a.tmps) = true then Oper.wp P o a w K0 Q else F := by
  have hw : Region.wanted o (yielded ops a.tmps) = true := by simp [Region.wanted, hg]
  rw [if_pos hw]
  obtain ⟨w', hrun, h1, h2⟩ := run_put ht hks hown hn hq val
  unfold Oper.wp
  simp [execOp, hop, hm, hx, hv, hrun, Result.andThen]
  exact hK w' h1 h2
theorem wpList_look (ht : P.underlying ts = some (.map ks es)) (hks : P.underlying ks = some .string) {z : Value} (hz : (zeroValue es).run P w = .ok z w) (hg : o.guard = none) (m x : Operand) (hop : o.op = Op.lookup ts m x false) (b n : Nat) (f : List UInt8 → Option Value) (q : List UInt8)
    (hm : a.eval m = .map (some b)) (hown : Is P ks w b n f) (hx : a.eval x = .string ⟨q.toArray⟩) (hq : q.length ≤ maxLen) (val : Value) (hv : (f q).getD z = val) (hK : wpList P ops Q rest (a.put o.dst val) w) : wpList P ops Q (o :: rest) a w := by
  refine wpList_plain hg fun K' hK' => ?_
  have hrun := run_look ht hks hz hown hq
  rw [hv] at hrun
  unfold Oper.wp
  simp [execOp, hop, hm, hx, hrun, Result.andThen]
  exact hK' _ _ hK
theorem wpList_look_ok (ht : P.underlying ts = some (.map ks es)) (hks : P.underlying ks = some .string) {z : Value} (hz : (zeroValue es).run P w = .ok z w) (hg : o.guard = none) (m x : Operand) (hop : o.op = Op.lookup ts m x true) (b n : Nat) (f : List UInt8 → Option Value) (q : List UInt8)
    (hm : a.eval m = .map (some b)) (hown : Is P ks w b n f) (hx : a.eval x = .string ⟨q.toArray⟩) (hq : q.length ≤ maxLen) (val : Value) (hv : (f q).getD z = val) (is : Bool) (hi : (f q).isSome = is) (hK : wpList P ops Q rest (a.put o.dst (.tuple #[val, .bool is])) w) : wpList P ops Q (o :: rest) a w := by
  refine wpList_plain hg fun K' hK' => ?_
  have hrun := run_look_ok ht hks hz hown hq
  rw [hv, hi] at hrun
  unfold Oper.wp
  simp [execOp, hop, hm, hx, hrun, Result.andThen]
  exact hK' _ _ hK
/-- 'len(m)'. -/
theorem wpList_len (ht : P.underlying ts = some (.map ks es)) (hks : P.underlying ks = some .string) (hg : o.guard = none) (m : Operand) (hop : o.op = Op.call { callee := Callee.builtin Builtin.len, args := #[m], argTypes := #[ts] }) (b n : Nat) (f : List UInt8 → Option Value)
    (hm : a.eval m = .map (some b)) (hown : Is P ks w b n f) {T : List (List UInt8)} (hT : T.Pairwise (fun x y => x < y)) (hmem : ∀ q, q ∈ T ↔ (f q).isSome = true) (k : Nat) (hk : T.length = k) (hK : wpList P ops Q rest (a.put o.dst (.int .i64 (k : Int))) w) : wpList P ops Q (o :: rest) a w := by
  obtain ⟨D, hD, hs, _⟩ := hown.keys hks hT hmem
  refine wpList_len_own w hg m ts hop ks es ht RV b n D hm hD ?_
  rw [hs, hk]; exact hK
end TextMap
end Go.Proofs.YtjnlooccddnbkaaGreatDoor

namespace Go.Proofs.YtjnlooccddnbkaaGreatDoor
namespace TextMap
open Go.RowKit Go.Maps
variable {P : Program} {ts ks es : TypeId} {w : World} {b n : Nat} {f : List UInt8 → Option Value}
def without (f : List UInt8 → Option Value) (q : List UInt8) : List UInt8 → Option Value := fun x => if x = q then none else f x
theorem wpList_drop {ops : Array Oper} {rest : List Oper} {o : Oper} {a : Act} {Q : Exit → Act → World → Prop} (ht : P.underlying ts = some (.map ks es)) (hks : P.underlying ks = some .string) (hg : o.guard = none) (m x : Operand)
    (hop : o.op = Op.call { callee := Callee.builtin Builtin.delete, args := #[m, x], argTypes := #[ts, ks] }) (b n : Nat) (f : List UInt8 → Option Value) (q : List UInt8)
    (hm : a.eval m = .map (some b)) (hown : Is P ks w b n f) (hx : a.eval x = .string ⟨q.toArray⟩) (hq : q.length ≤ maxLen)
    (hK : ∀ w', Is P ks w' b n (without f q) → w.grownBy w' (some b) → wpList P ops Q rest (a.put o.dst (.tuple #[])) w') : wpList P ops Q (o :: rest) a w := by
  obtain ⟨D, h1, h2⟩ := hown
  refine wpList_delete_own w hg m x ts ks hop es (string_keyed hks) ht RV b n D hm h1 _ _ hx (key_of hks hq) ?_
  rintro w' hd ⟨es, clock, es', clock', hb, rfl⟩
  refine hK _ ⟨_, hd, fun y => ?_⟩ ⟨rfl, rfl, rfl, (by show _ ≤ (w.heap.setIfInBounds b _).size; rw [Array.size_setIfInBounds]; exact Nat.le_refl _), fun k _ hne => ?_⟩
  · unfold without
    by_cases e : y = q
    · subst e
      rw [if_pos rfl]
      exact ⟨has_del_same, fun v hv => by cases hv⟩
    · rw [if_neg e]
      have hne : Lit.string y ≠ Lit.string q := fun h => e (by cases h; rfl)
      refine ⟨(has_del_other hne).trans (h2 y).1, fun v hv z => ?_⟩
      rw [atKey_del_other hne]
      exact (h2 y).2 v hv z
  · have : b ≠ k := fun e => hne (by rw [e])
    show (w.heap.setIfInBounds b _)[k]? = _
    rw [Array.getElem?_setIfInBounds_ne this]
/-- 'len(m)', as a run. -/
theorem run_len (ht : P.underlying ts = some (.map ks es)) (hks : P.underlying ks = some .string) (hown : Is P ks w b n f) {T : List (List UInt8)} (hT : T.Pairwise (fun x y => x < y)) (hmem : ∀ q, q ∈ T ↔ (f q).isSome = true) (k : Nat) (hk : T.length = k) (ty : TypeId) :
    (Builtin.len_ #[ts] ty #[.map (some b)]).run P w = .ok (.int .i64 (k : Int)) w := by
  obtain ⟨D, hD, hs, _⟩ := hown.keys hks hT hmem
  rw [hD.len ht ty, hs, hk]
end TextMap
end Go.Proofs.YtjnlooccddnbkaaGreatDoor

namespace Go.Proofs.YtjnlooccddnbkaaGreatDoor
namespace Marks
open Go.RowKit
/-- Marks at blocks from B on, below N, each at its own. -/
def Lie (B N : Nat) : List Deferred → World → Prop
  | [], _ => True
  | d :: ds, w => ∃ D, d = { target := .collected D, args := #[] } ∧ B ≤ D ∧ D < N ∧ w.heap[D]? = some (.deferred (some [])) ∧ (∀ d' ∈ ds, d' ≠ { target := .collected D, args := #[] }) ∧ Lie B N ds w
theorem Lie.kept {B N : Nat} {w w' : World} : ∀ {ds : List Deferred}, Lie B N ds w → (∀ D, B ≤ D → D < N → w.heap[D]? = some (.deferred (some [])) → w'.heap[D]? = some (.deferred (some []))) → Lie B N ds w'
  | [], _, _ => trivial
  | _ :: _, ⟨D, e, h1, h2, h3, h4, h5⟩, k => ⟨D, e, h1, h2, k D h1 h2 h3, h4, Lie.kept h5 k⟩
theorem Lie.more {B N M : Nat} {w : World} (hM : N ≤ M) : ∀ {ds : List Deferred}, Lie B N ds w → Lie B M ds w
  | [], _ => trivial
  | _ :: _, ⟨D, e, h1, h2, h3, h4, h5⟩ => ⟨D, e, h1, Nat.lt_of_lt_of_le h2 hM, h3, h4, Lie.more hM h5⟩
theorem Lie.off {B N : Nat} {w : World} {ds : List Deferred} (h : Lie B N ds w) {D : Nat} (hD : N ≤ D) : ∀ d' ∈ ds, d' ≠ { target := .collected D, args := #[] } := by
  induction ds with
  | nil => intro d' h'; cases h'
  | cons d ds ih =>
    obtain ⟨E, e, _, h2, _, _, h5⟩ := h
    intro d' hd' e'
    rcases List.mem_cons.1 hd' with rfl | hd'
    · rw [e] at e'
      simp only [Deferred.mk.injEq, Target.collected.injEq, and_true] at e'
      omega
    · exact ih h5 d' hd' e'
/-- A mark more. -/
theorem Lie.cons {B N : Nat} {w : World} {ds : List Deferred} (h : Lie B N ds w) {D : Nat} (hB : B ≤ D) (hN : N ≤ D) (hw : w.heap[D]? = some (.deferred (some []))) : Lie B w.heap.size ({ target := .collected D, args := #[] } :: ds) w := by
  have hlt := (Array.getElem?_eq_some_iff.1 hw).1
  exact ⟨D, rfl, hB, hlt, hw, h.off hN, h.more (by omega)⟩
theorem lie_ownFrom {β : Type} (B N : Nat) (ds : List Deferred) : OwnFrom N (fun (_ : β) W => Lie B N ds W) := fun _ W W' row h hg hr =>
  h.kept fun D _ hN hD => by
    rw [hg.block D (Array.getElem?_eq_some_iff.1 hD).1 (fun e => by have := (hr D e.symm).1; omega)]
    exact hD
/-- The marks are shut. -/
structure Shut (B : Nat) (w w' : World) : Prop where
  below : Below B w w'
  cells : ∀ (k : Nat) (o : Obj), o.isCells = true → w.heap[k]? = some o → w'.heap[k]? = some o
theorem Shut.refl (B : Nat) (w : World) : Shut B w w := ⟨Below.refl _ _, fun _ _ _ h => h⟩
theorem leaves {F : Fence} {n : Nat} {P : Program} {fn : Func} {tmps : Array Value} {R : Ending → World → Prop} {B N : Nat} : ∀ (ds : List Deferred) (w : World), Lie B N ds w → B ≤ w.heap.size →
    (∀ w', Shut B w w' → ∃ v, (results fn tmps).run P w' = .ok v w' ∧ R (.returned v) w') → LeavesInM F n P fn tmps R ds .returning w
  | [], w, _, _, h => h w (Shut.refl _ _)
  | _ :: ds, w, ⟨D, rfl, h1, _, h3, h4, h5⟩, hB, h => by
    have hlt := (Array.getElem?_eq_some_iff.1 h3).1
    have kb : Below B w (w.putObj D (.deferred none)) := (Below.refl B w).grown (grownBy_putObj' w D _) hB (fun k e => by cases e; exact h1)
    refine ⟨by simp, .inl ⟨D, _, rfl, run_takeDeferred h3, leaves ds _ (go ds h5 h4) (Nat.le_trans hB kb.size) fun w' hs => h w' ⟨kb.trans hs.below, fun k o ho hk => hs.cells k o ho ?_⟩⟩⟩
    by_cases e : k = D
    · subst e; rw [h3] at hk; cases hk; cases ho
    · rw [World.putObj_heap_other e]; exact hk
where
  go {B N D : Nat} {w : World} {o : Obj} : ∀ (ds : List Deferred), Lie B N ds w → (∀ d' ∈ ds, d' ≠ { target := .collected D, args := #[] }) → Lie B N ds (w.putObj D o)
    | [], _, _ => trivial
    | _ :: ds, ⟨E, e, h1, h2, h3, h4, h5⟩, hne => by
      refine ⟨E, e, h1, h2, ?_, h4, go ds h5 (fun d' hd' => hne d' (List.mem_cons_of_mem _ hd'))⟩
      have : E ≠ D := fun h => hne _ (List.mem_cons_self ..) (by rw [e, h])
      rw [World.putObj_heap_other this]; exact h3
end Marks
end Go.Proofs.YtjnlooccddnbkaaGreatDoor

namespace Go
section
variable {F : Fence} {n : Nat} {P : Program} {Q : Exit → Act → World → Prop} {a : Act} {w : World}
theorem stepR_scope' {b : Frame} {a : Act} {k : List Item} {cs : List Frame} {w : World} {c : Code} : step P (lone (b.atR a (.code (.scope c) :: k)) cs w) = .next (lone (b.atR a (.code c :: .inScope c :: k)) cs w) :=
  step_lone_go (by simp [stepG, stepG.exec, Frame.atR])
theorem stepR_inScope' {b : Frame} {a : Act} {k : List Item} {cs : List Frame} {w : World} {c : Code} : step P (lone (b.atR a (.inScope c :: k)) cs w) = .next (lone (b.atR a k) cs w) :=
  step_lone_go (by simp [stepG, stepG.exec, Frame.atR])
theorem wpIn_scope_straight' {c : Code} (h : c.wpIn F n P (Exit.noGoto Q) a w) : (Code.scope c).wpIn F n P Q a w := by
  intro b k cs hro hb hr
  have h0 : (lone (b.atR a (.code (.scope c) :: k)) cs w).fenced P F := fenced_calm hb hr rfl
  obtain ⟨e, a₁, w₁, hq, harr⟩ := h b (.inScope c :: k) cs hro hb hr
  cases e with
  | normal => exact ⟨.normal, a₁, w₁, hq, .head h0 stepR_scope' (StepsIn.trans harr (.one (fenced_calm hb hr rfl) stepR_inScope'))⟩
  | exit id =>
    have hx : exitTo id (.inScope c :: k) = exitTo id k := by simp [exitTo]
    exact ⟨.exit id, a₁, w₁, hq, fun k' hk => .head h0 stepR_scope' (harr.1 k' (by rw [hx]; exact hk)),
      fun hr' hk => let ⟨k₁, h1, h2⟩ := harr.2 hr' (by rw [hx]; exact hk); ⟨k₁, h1, .head h0 stepR_scope' h2⟩⟩
  | goto l => exact hq.elim
  | ret => exact ⟨_, a₁, w₁, hq, .of_steps (.one h0 stepR_scope') harr⟩
  | panic ch => exact ⟨_, a₁, w₁, hq, .of_steps (.one h0 stepR_scope') harr⟩
  | outgrown => exact ⟨_, a₁, w₁, hq, .of_steps (.one h0 stepR_scope') harr⟩
end
end Go
