
/- maps from texts to values of any kind, of a call's own: made, put, asked; what stands while two blocks turn. -/
import Derived.Test.YtibdpjhiblhnmaaDoorTextSet
import Derived.Sort.KeysCollected
namespace Go.Proofs.YtibdpjhiblhnmaaDoor
/-- All blocks but two stand. -/
structure Save (b c : Nat) (w w' : World) : Prop where
  os : w'.os = w.os
  tape : w'.tape = w.tape
  output : w'.output = w.output
  size : w.heap.size ≤ w'.heap.size
  block : ∀ k, k < w.heap.size → k ≠ b → k ≠ c → w'.heap[k]? = w.heap[k]?
namespace Save
open Go.RowKit
variable {b c : Nat} {w x y : World}
theorem refl (b c : Nat) (w : World) : Save b c w w := ⟨rfl, rfl, rfl, Nat.le_refl _, fun _ _ _ _ => rfl⟩
theorem trans (h : Save b c w x) (k : Save b c x y) : Save b c w y :=
  ⟨k.os.trans h.os, k.tape.trans h.tape, k.output.trans h.output, Nat.le_trans h.size k.size, fun j hj hb hc => (k.block j (Nat.lt_of_lt_of_le hj h.size) hb hc).trans (h.block j hj hb hc)⟩
theorem of (k : Below w.heap.size w x) : Save b c w x := ⟨k.os, k.tape, k.output, k.size, fun j hj _ _ => k.block j hj⟩
/-- A block that is new at w may turn, too. -/
theorem new (h : Save b c w x) {d : Nat} (hd : w.heap.size ≤ d) (k : Save b d x y) : Save b c w y :=
  ⟨k.os.trans h.os, k.tape.trans h.tape, k.output.trans h.output, Nat.le_trans h.size k.size, fun j hj hb hc => (k.block j (Nat.lt_of_lt_of_le hj h.size) hb (by omega)).trans (h.block j hj hb hc)⟩
theorem alloc (h : Save b c w x) (o : Obj) : Save b c w (x.alloc o) := h.trans (of ((Below.refl _ _).alloc (Nat.le_refl _) o))
theorem drew (h : Save b c w x) : Save b c w x.drew := h.trans (of (Below.drew (Below.refl _ _)))
theorem grown1 (k : w.grownBy x (some b)) : Save b c w x := by
  obtain ⟨h1, h2, h3, h4, h5⟩ := k
  exact ⟨h1, h2, h3, h4, fun j hj hb _ => h5 j hj (by simpa using hb)⟩
theorem grown2 (k : w.grownBy x (some c)) : Save b c w x := by
  obtain ⟨h1, h2, h3, h4, h5⟩ := k
  exact ⟨h1, h2, h3, h4, fun j hj _ hc => h5 j hj (by simpa using hc)⟩
theorem set1 {p : Addr} (hp : p.block = b) (v : Value) : Save b c w (w.setCell p v) := by
  have k := (Below.refl w.heap.size w)
  exact ⟨rfl, rfl, rfl, by simp, fun j _ hb _ => by rw [Below.heap_setCell _ _ _ _ (by rw [hp]; exact hb)]⟩
theorem below {B : Nat} (h : Below B w x) (k : Save b c x y) (hb : B ≤ b) (hc : B ≤ c) (hB : B ≤ x.heap.size) : Below B w y :=
  ⟨k.os.trans h.os, k.tape.trans h.tape, k.output.trans h.output, Nat.le_trans h.size k.size, fun j hj => (k.block j (Nat.lt_of_lt_of_le hj hB) (by omega) (by omega)).trans (h.block j hj)⟩
theorem cell (h : Save b c w x) {p : Addr} (hp : p.block < w.heap.size) (hb : p.block ≠ b) (hc : p.block ≠ c) : x.cell? p = w.cell? p := World.cell?_of_block (w := w) (h.block p.block hp hb hc)
end Save
namespace TextMap
open Go.RowKit Go.Maps
variable {P : Program} {ts ks es : TypeId}
/-- How an element reads: as itself. -/
def RV : Value → Option (DataW Value × List MemPlace) := fun v => some (.held v, [])
/-- Block b is a map of at most n entries: f. -/
def Is (P : Program) (ks : TypeId) (w : World) (b n : Nat) (f : List UInt8 → Option Value) : Prop :=
  ∃ D, w.ownsMap P ks RV b n D ∧ ∀ q, Maps.has D (.string q) = (f q).isSome ∧ ∀ v, f q = some v → ∀ z, D.atKey (.string q) z = .held v
variable {w w' : World} {b n : Nat} {f : List UInt8 → Option Value}
theorem Is.made (w : World) : Is P ks (w.alloc (.map #[] 0)) w.heap.size 0 (fun _ => none) := ⟨_, World.ownsMap_made _ _ _ _, fun _ => ⟨rfl, fun _ h => by cases h⟩⟩
theorem Is.alloc (h : Is P ks w b n f) (o : Obj) : Is P ks (w.alloc o) b n f := by
  obtain ⟨D, h1, h2⟩ := h
  exact ⟨D, World.ownsMap.alloc h1 o, h2⟩
theorem Is.lt (h : Is P ks w b n f) : b < w.heap.size := by
  obtain ⟨D, h1, _⟩ := h
  exact World.ownsMap.lt h1
theorem Is.isMap (h : Is P ks w b n f) : ∃ es clock, w.heap[b]? = some (.map es clock) := by
  obtain ⟨D, ⟨es, clock, hb, _⟩, _⟩ := h
  exact ⟨es, clock, hb⟩
theorem Is.moved (h : Is P ks w b n f) (k : w'.heap[b]? = w.heap[b]?) : Is P ks w' b n f := by
  obtain ⟨D, ⟨es, clock, hb, r⟩, h2⟩ := h
  exact ⟨D, ⟨es, clock, k.trans hb, r⟩, h2⟩
theorem Is.below (h : Is P ks w b n f) (k : Below w.heap.size w w') : Is P ks w' b n f := h.moved (k.block _ h.lt)
theorem Is.save (h : Is P ks w b n f) {p c : Nat} (k : Save p c w w') (hp : b ≠ p) (hc : b ≠ c) : Is P ks w' b n f := h.moved (k.block _ h.lt hp hc)
theorem Is.mono (h : Is P ks w b n f) {m : Nat} (hm : n ≤ m) : Is P ks w b m f := by
  obtain ⟨D, h1, h2⟩ := h
  exact ⟨D, World.ownsMap.mono h1 hm, h2⟩
theorem Is.ext (h : Is P ks w b n f) {g : List UInt8 → Option Value} (hg : ∀ q, f q = g q) : Is P ks w b n g := by
  obtain rfl : f = g := funext hg
  exact h
def put (f : List UInt8 → Option Value) (q : List UInt8) (v : Value) : List UInt8 → Option Value := fun x => if x = q then some v else f x
theorem key_of (hks : P.underlying ks = some .string) {q : List UInt8} (hq : q.length ≤ maxLen) : keyOf P ks (.string ⟨q.toArray⟩) = some (.string q) := WideMaps.keyOf_string_mk hks (by show (⟨q.toArray⟩ : ByteArray).data.size ≤ maxLen; simpa using hq)
theorem run_put (ht : P.underlying ts = some (.map ks es)) (hks : P.underlying ks = some .string) (h : Is P ks w b n f) (hn : n < maxLen) {q : List UInt8} (hq : q.length ≤ maxLen) (v : Value) :
    ∃ w', (Instr.mapUpdate ts (.map (some b)) (.string ⟨q.toArray⟩) v).run P w = .ok () w' ∧ Is P ks w' b (n + 1) (put f q v) ∧ w.grownBy w' (some b) := by
  obtain ⟨D, h1, h2⟩ := h
  obtain ⟨w', hr, ho, hg⟩ := World.ownsMap.update h1 (string_keyed hks) ht hn (key_of hks hq) (val := v) (d := .held v) (ps := []) rfl
  refine ⟨w', hr, ⟨_, ho, fun x => ?_⟩, hg⟩
  have hm := World.ownsMap.isMap h1
  unfold put
  by_cases e : x = q
  · subst e
    rw [if_pos rfl]
    refine ⟨has_put_same hm (by trivial) _, fun y hy z => ?_⟩
    cases hy
    exact atKey_put_same hm (by trivial) _ _
  · rw [if_neg e]
    have hne : Lit.string x ≠ Lit.string q := fun h => e (by cases h; rfl)
    refine ⟨(has_put_other hne _).trans (h2 x).1, fun y hy z => ?_⟩
    rw [atKey_put_other hne]
    exact (h2 x).2 y hy z
theorem run_look (ht : P.underlying ts = some (.map ks es)) (hks : P.underlying ks = some .string) {z : Value} (hz : (zeroValue es).run P w = .ok z w) (h : Is P ks w b n f) {q : List UInt8} (hq : q.length ≤ maxLen) :
    (Instr.lookup ts (.map (some b)) (.string ⟨q.toArray⟩) false).run P w = .ok ((f q).getD z) w := by
  obtain ⟨D, h1, h2⟩ := h
  obtain ⟨v, ps, hr, hv⟩ := World.ownsMap.lookup h1 (string_keyed hks) ht hz (zd := .held z) (zp := []) rfl (key_of hks hq)
  rw [hr]
  simp only [RV, Option.some.injEq, Prod.mk.injEq] at hv
  cases hf : f q with
  | none =>
    have := (h2 q).1
    rw [hf] at this
    rw [atKey_of_not_has this] at hv
    cases hv.1; rfl
  | some y =>
    rw [(h2 q).2 y hf] at hv
    cases hv.1; rfl
theorem run_look_ok (ht : P.underlying ts = some (.map ks es)) (hks : P.underlying ks = some .string) {z : Value} (hz : (zeroValue es).run P w = .ok z w) (h : Is P ks w b n f) {q : List UInt8} (hq : q.length ≤ maxLen) :
    (Instr.lookup ts (.map (some b)) (.string ⟨q.toArray⟩) true).run P w = .ok (.tuple #[(f q).getD z, .bool (f q).isSome]) w := by
  obtain ⟨D, h1, h2⟩ := h
  obtain ⟨v, ps, hr, hv⟩ := World.ownsMap.look_ok h1 (string_keyed hks) ht hz (zd := .held z) (zp := []) rfl (key_of hks hq)
  rw [hr, (h2 q).1]
  simp only [RV, Option.some.injEq, Prod.mk.injEq] at hv
  cases hf : f q with
  | none =>
    have := (h2 q).1
    rw [hf] at this
    rw [atKey_of_not_has this] at hv
    cases hv.1; rfl
  | some y =>
    rw [(h2 q).2 y hf] at hv
    cases hv.1; rfl
/-- The map's keys, rising. -/
theorem Is.keys (hks : P.underlying ks = some .string) (h : Is P ks w b n f) {T : List (List UInt8)} (hT : T.Pairwise (fun x y => x < y)) (hm : ∀ q, q ∈ T ↔ (f q).isSome = true) :
    ∃ D, w.ownsMap P ks RV b n D ∧ Maps.size D = T.length ∧ ∀ ss : List (List UInt8), ss.Perm (strKeys D) → ss.mergeSort (fun x y => decide (x ≤ y)) = T := by
  obtain ⟨D, h1, h2⟩ := h
  refine ⟨D, h1, ?_⟩
  have hnd : T.Nodup := hT.imp (fun {a b} hab e => by rw [e] at hab; exact List.lt_irrefl b hab)
  obtain ⟨es', hD, hko⟩ := World.ownsMap.keysOf h1
  have hp : T.Perm (strKeys D) := by
    obtain ⟨es2, hes, hpw⟩ := World.ownsMap.tidy h1 (string_keyed hks)
    rw [hes] at hD
    cases hD
    rw [hes]
    refine perm_strKeys hpw (fun p hp => ?_) hnd (fun x => ?_)
    · obtain ⟨key, hk⟩ := hko p hp
      obtain ⟨x, _, e, _⟩ := Maps.keyOf_str hks hk
      exact ⟨x, e⟩
    · rw [hm x, ← (h2 x).1, hes]
  refine ⟨?_, fun ss hs => ?_⟩
  · rw [hp.length_eq, hD]
    simp [strKeys, Maps.size]
  · have hpt : (ss.mergeSort (fun x y => decide (x ≤ y))).Perm T := ((List.mergeSort_perm _ _).trans hs).trans hp.symm
    refine List.Perm.eq_of_pairwise (le := fun a b => a ≤ b) (fun a b _ _ h1 h2 => List.le_antisymm h1 h2) ?_ ?_ hpt
    · refine (List.pairwise_mergeSort (fun a b c h1 h2 => ?_) (fun a b => ?_) ss).imp (fun h => by simpa using h)
      · simp only [decide_eq_true_eq] at *; exact List.le_trans h1 h2
      · simp only [Bool.or_eq_true, decide_eq_true_eq]; exact List.le_total a b
    · exact hT.imp (fun h => List.le_of_lt h)
-- at the operations
variable {ops : Array Oper} {rest : List Oper} {o : Oper} {a : Act} {Q : Exit → Act → World → Prop}
theorem wpList_put (ht : P.underlying ts = some (.map ks es)) (hks : P.underlying ks = some .string) (hg : o.guard = none) (m x v : Operand) (hop : o.op = Op.mapUpdate ts m x v) (b n : Nat) (f : List UInt8 → Option Value) (q : List UInt8) (val : Value)
    (hm : a.eval m = .map (some b)) (hown : Is P ks w b n f) (hn : n < maxLen) (hx : a.eval x = .string ⟨q.toArray⟩) (hq : q.length ≤ maxLen) (hv : a.eval v = val)
    (hK : ∀ w', Is P ks w' b (n + 1) (put f q val) → w.grownBy w' (some b) → wpList P ops Q rest (a.put o.dst undef) w') : wpList P ops Q (o :: rest) a w := by
  refine wpList_plain hg fun K' hK' => ?_
  obtain ⟨w', hrun, h1, h2⟩ := run_put ht hks hown hn hq val
  unfold Oper.wp
  simp [execOp, hop, hm, hx, hv, hrun, Result.andThen]
  exact hK' _ _ (hK w' h1 h2)
/-- The same as one step of a region that draws its order. -/
theorem step_put (ht : P.underlying ts = some (.map ks es)) (hks : P.underlying ks = some .string) {K0 : Act → World → Prop} {F : Prop} (hg : o.guard = none) (m x v : Operand) (hop : o.op = Op.mapUpdate ts m x v) (b n : Nat) (f : List UInt8 → Option Value) (q : List UInt8) (val : Value)
    (hm : a.eval m = .map (some b)) (hown : Is P ks w b n f) (hn : n < maxLen) (hx : a.eval x = .string ⟨q.toArray⟩) (hq : q.length ≤ maxLen) (hv : a.eval v = val)
    (hK : ∀ w', Is P ks w' b (n + 1) (put f q val) → w.grownBy w' (some b) → K0 (a.put o.dst undef) w') : if Region.wanted o (yielded ops a.tmps) = true then Oper.wp P o a w K0 Q else F := by
  have hw : Region.wanted o (yielded ops a.tmps) = true := by simp [Region.wanted, hg]
  rw [if_pos hw]
  obtain ⟨w', hrun, h1, h2⟩ := run_put ht hks hown hn hq val
  unfold Oper.wp
  simp [execOp, hop, hm, hx, hv, hrun, Result.andThen]
  exact hK w' h1 h2
theorem wpList_look (ht : P.underlying ts = some (.map ks es)) (hks : P.underlying ks = some .string) {z : Value} (hz : (zeroValue es).run P w = .ok z w) (hg : o.guard = none) (m x : Operand) (hop : o.op = Op.lookup ts m x false) (b n : Nat) (f : List UInt8 → Option Value) (q : List UInt8)
    (hm : a.eval m = .map (some b)) (hown : Is P ks w b n f) (hx : a.eval x = .string ⟨q.toArray⟩) (hq : q.length ≤ maxLen) (val : Value) (hv : (f q).getD z = val) (hK : wpList P ops Q rest (a.put o.dst val) w) : wpList P ops Q (o :: rest) a w := by
  refine wpList_plain hg fun K' hK' => ?_
  have hrun := run_look ht hks hz hown hq
  rw [hv] at hrun
  unfold Oper.wp
  simp [execOp, hop, hm, hx, hrun, Result.andThen]
  exact hK' _ _ hK
theorem wpList_look_ok (ht : P.underlying ts = some (.map ks es)) (hks : P.underlying ks = some .string) {z : Value} (hz : (zeroValue es).run P w = .ok z w) (hg : o.guard = none) (m x : Operand) (hop : o.op = Op.lookup ts m x true) (b n : Nat) (f : List UInt8 → Option Value) (q : List UInt8)
    (hm : a.eval m = .map (some b)) (hown : Is P ks w b n f) (hx : a.eval x = .string ⟨q.toArray⟩) (hq : q.length ≤ maxLen) (val : Value) (hv : (f q).getD z = val) (is : Bool) (hi : (f q).isSome = is) (hK : wpList P ops Q rest (a.put o.dst (.tuple #[val, .bool is])) w) : wpList P ops Q (o :: rest) a w := by
  refine wpList_plain hg fun K' hK' => ?_
  have hrun := run_look_ok ht hks hz hown hq
  rw [hv, hi] at hrun
  unfold Oper.wp
  simp [execOp, hop, hm, hx, hrun, Result.andThen]
  exact hK' _ _ hK
/-- 'len(m)'. -/
theorem wpList_len (ht : P.underlying ts = some (.map ks es)) (hks : P.underlying ks = some .string) (hg : o.guard = none) (m : Operand) (hop : o.op = Op.call { callee := Callee.builtin Builtin.len, args := #[m], argTypes := #[ts] }) (b n : Nat) (f : List UInt8 → Option Value)
    (hm : a.eval m = .map (some b)) (hown : Is P ks w b n f) {T : List (List UInt8)} (hT : T.Pairwise (fun x y => x < y)) (hmem : ∀ q, q ∈ T ↔ (f q).isSome = true) (k : Nat) (hk : T.length = k) (hK : wpList P ops Q rest (a.put o.dst (.int .i64 (k : Int))) w) : wpList P ops Q (o :: rest) a w := by
  obtain ⟨D, hD, hs, _⟩ := hown.keys hks hT hmem
  refine wpList_len_own w hg m ts hop ks es ht RV b n D hm hD ?_
  rw [hs, hk]; exact hK
end TextMap
end Go.Proofs.YtibdpjhiblhnmaaDoor
