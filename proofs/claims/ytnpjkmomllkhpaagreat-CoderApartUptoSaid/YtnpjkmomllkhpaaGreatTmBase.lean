/- Merged texts: Frame, But, Recs, Sized, Trod, Row, RowOwn, Bulk, TrodB. -/
import Derived.WalkKit
import Derived.SliceStrings
import Derived.OpenShut
import Derived.Below
import Derived.WalkSmall
import Derived.Deep.Slices
import Derived.Deep.Fields
import Derived.ChangeArms
import Derived.SizedLaws
import Derived.Laws.AppendOwn
import Derived.Laws.OwnMore
import Derived.OwnWalk
import Derived.Tactics
import Derived.Laws.CopyRow
import Derived.Lib.AppendZerosOnto
import Derived.Test.YtnpjkmomllkhpaaGreatRows
namespace Go.Proofs.YtnpjkmomllkhpaaGreat
open Go.RowKit

/-- One call more: what was there when the walk began is as it was. -/
theorem bstep {w a b : World} (h : Below w.heap.size w a) (k : Below a.heap.size a b) : Below w.heap.size w b := h.trans (k.mono h.size)

theorem balloc {w a : World} (h : Below w.heap.size w a) (o : Obj) : Below w.heap.size w (a.alloc o) := h.alloc h.size o
theorem bdrewN {w a : World} (h : Below w.heap.size w a) (n : Nat) : Below w.heap.size w (a.drewN n) := below_drewN h n
theorem bset {w a : World} (h : Below w.heap.size w a) {p : Addr} (hp : w.heap.size ≤ p.block) (v : Value) : Below w.heap.size w (a.setCell p v) := h.setCell hp v

/-- A slice of integers that came in: nil, or a row of cap cells, the numbers zs, of which the first len are its elements. -/
def IsRow (k : IntKind) (w : World) (a : Option Addr) (len cap : Nat) (zs : List Int) : Prop :=
  (a = none ∧ len = 0 ∧ cap = 0 ∧ zs = []) ∨
  ∃ x, a = some x ∧ len ≤ cap ∧ cap ≤ maxLen ∧ zs.length = cap ∧ (∀ i, i < zs.length → w.cell? (x.add i) = some (.int k (zs.getD i 0))) ∧ ∀ n ∈ zs, (Lit.int k n).wf = true

/-- A slice of strings that came in. -/
def IsStrs (w : World) (a : Option Addr) (len cap : Nat) (zs : List ByteArray) : Prop :=
  (a = none ∧ len = 0 ∧ cap = 0 ∧ zs = []) ∨
  ∃ x, a = some x ∧ len ≤ cap ∧ cap ≤ maxLen ∧ zs.length = cap ∧ (∀ i, i < zs.length → w.cell? (x.add i) = some (.string (zs.getD i ByteArray.empty))) ∧ ∀ n ∈ zs, n.size ≤ maxLen

/-- The elements of a slice of uint64 that came in, as numbers, each with its cell. -/
def Nats (w : World) (a : Option Addr) (len : Nat) (l : List Nat) : Prop :=
  l.length = len ∧ (∀ n ∈ l, n ≤ 18446744073709551615) ∧ (0 < len → ∃ b off, a = some ⟨b, off, none⟩ ∧ b < w.heap.size ∧ ∀ j (h : j < l.length), w.cell? ⟨b, off + j, none⟩ = some (.int .u64 ((l[j] : Nat) : Int)))

theorem IsRow.nats {w : World} {a : Option Addr} {len cap : Nat} {zs : List Int} (h : IsRow .u64 w a len cap zs) : len ≤ maxLen ∧ ∃ l, Nats w a len l := by
  rcases h with ⟨rfl, rfl, rfl, rfl⟩ | ⟨x, rfl, h1, h2, h3, h4, h5⟩
  · exact ⟨by unfold maxLen; omega, [], rfl, (fun n h => by cases h), (fun h => absurd h (by omega))⟩
  · have hb : ∀ n ∈ zs, 0 ≤ n ∧ n ≤ 18446744073709551615 := fun n hn => bounds_u64 (h5 n hn)
    refine ⟨by omega, (zs.take len).map Int.toNat, by simp; omega, ?_, fun hl => ?_⟩
    · intro n hn
      obtain ⟨z, hz, rfl⟩ := List.mem_map.1 hn
      have := hb z (List.mem_of_mem_take hz)
      omega
    · obtain ⟨b, off, rfl, hc⟩ := ints_at h4 (by omega)
      refine ⟨b, off, rfl, World.block_lt_of_cell? _ _ (hc 0 (by omega)), fun j hj => ?_⟩
      have hj' : j < len := by simp at hj; omega
      rw [hc j (by omega)]
      have := hb zs[j] (List.getElem_mem _)
      simp only [List.getElem_map, List.getElem_take, List.getD_eq_getElem?_getD, List.getElem?_eq_getElem (show j < zs.length by omega), Option.getD_some]
      rw [Int.toNat_of_nonneg this.1]

theorem Nats.below {w w' : World} {a : Option Addr} {len : Nat} {l : List Nat} (h : Nats w a len l) {B : Nat} (hB : B = w.heap.size) (hb : Below B w w') : Nats w' a len l := by
  refine ⟨h.1, h.2.1, fun hl => ?_⟩
  obtain ⟨b, off, e, hlt, hc⟩ := h.2.2 hl
  subst hB
  exact ⟨b, off, e, Nat.lt_of_lt_of_le hlt hb.size, fun j hj => by rw [hb.cell (p := ⟨b, off + j, none⟩) hlt]; exact hc j hj⟩

end Go.Proofs.YtnpjkmomllkhpaaGreat

namespace Go.Proofs.YtnpjkmomllkhpaaGreat
open Go.RowKit
/-- All blocks but one stand as they stood. -/
structure But (b : Nat) (w w' : World) : Prop where
  os : w'.os = w.os
  tape : w'.tape = w.tape
  output : w'.output = w.output
  size : w.heap.size ≤ w'.heap.size
  block : ∀ k, k < w.heap.size → k ≠ b → w'.heap[k]? = w.heap[k]?
namespace But
theorem refl (b : Nat) (w : World) : But b w w := ⟨rfl, rfl, rfl, Nat.le_refl _, fun _ _ _ => rfl⟩
theorem trans {b : Nat} {w x y : World} (h : But b w x) (k : But b x y) : But b w y :=
  ⟨k.os.trans h.os, k.tape.trans h.tape, k.output.trans h.output, Nat.le_trans h.size k.size, fun j hj hb => (k.block j (Nat.lt_of_lt_of_le hj h.size) hb).trans (h.block j hj hb)⟩
theorem of {b : Nat} {w x : World} (k : Below w.heap.size w x) : But b w x := ⟨k.os, k.tape, k.output, k.size, fun j hj _ => k.block j hj⟩
theorem alloc {b : Nat} {w x : World} (h : But b w x) (o : Obj) : But b w (x.alloc o) := h.trans (of (balloc (Below.refl _ _) o))
theorem set {b : Nat} {w x : World} (h : But b w x) (p : Addr) (hp : p.block = b) (v : Value) : But b w (x.setCell p v) :=
  h.trans ⟨rfl, rfl, rfl, by simp [World.setCell], fun j _ hb => Below.heap_setCell _ _ _ _ (by rw [hp]; exact hb)⟩
/-- A block above is set. -/
theorem put {b : Nat} {w x : World} (h : But b w x) (p : Addr) (hp : w.heap.size ≤ p.block) (v : Value) : But b w (x.setCell p v) :=
  ⟨h.os, h.tape, h.output, by simpa [World.setCell] using h.size, fun j hj hb => (Below.heap_setCell _ _ _ _ (by omega)).trans (h.block j hj hb)⟩
theorem below {B b : Nat} {w x y : World} (h : Below B w x) (k : But b x y) (hb : B ≤ b) (hB : B ≤ x.heap.size) : Below B w y :=
  h.trans ⟨k.os, k.tape, k.output, k.size, fun j hj => k.block j (by omega) (by omega)⟩
theorem cell {b : Nat} {w x : World} (h : But b w x) {p : Addr} (hp : p.block < w.heap.size) (hb : p.block ≠ b) : x.cell? p = w.cell? p := World.cell?_of_block (w := w) (h.block p.block hp hb)
theorem frozen {b : Nat} {w x : World} (h : But b w x) {p : Addr} (hp : p.block < w.heap.size) (hb : p.block ≠ b) : x.frozen? p = w.frozen? p := World.frozen?_of_block (w := w) (h.block p.block hp hb)
theorem drew {b : Nat} {w x : World} (h : But b w x) : But b w x.drew := h.trans (of (Below.drew (Below.refl _ _)))
theorem drewN {b : Nat} {w x : World} (h : But b w x) (n : Nat) : But b w (x.drewN n) := h.trans (of (bdrewN (Below.refl _ _) n))
end But
end Go.Proofs.YtnpjkmomllkhpaaGreat

namespace Go.Proofs.YtnpjkmomllkhpaaGreat
open Go.RowKit

/-- The kind of a field of one cell. -/
inductive Fk where
  | int (k : IntKind)
  | str
  | bool
def Fk.ok : Fk → Value → Prop
  | .int k, v => ∃ n, v = .int k n ∧ (Lit.int k n).wf = true
  | .str, v => ∃ s : ByteArray, v = .string s ∧ s.size ≤ maxLen
  | .bool, v => ∃ b, v = .bool b
def Fk.fits (P : Program) : Fk → TypeId → Prop
  | .int k, t => P.underlying t = some (.int k)
  | .str, t => P.underlying t = some .string
  | .bool, t => P.underlying t = some .bool

/-- The elements' fields, each in its cell. -/
def Recs (w : World) (ks : List Fk) (a : Option Addr) (len : Nat) : Prop :=
  len ≤ maxLen ∧ (0 < len → ∃ b off, a = some ⟨b, off, none⟩ ∧ b < w.heap.size ∧ ∀ i, i < len → ∀ (j : Nat) (k : Fk), ks[j]? = some k → ∃ v, w.cell? ⟨b, off + (i * ks.length + j), none⟩ = some v ∧ k.ok v)

theorem Recs.below {w w' : World} {ks : List Fk} {a : Option Addr} {len : Nat} (h : Recs w ks a len) (hb : Below w.heap.size w w') : Recs w' ks a len := by
  refine ⟨h.1, fun hl => ?_⟩
  obtain ⟨b, off, e, hlt, hc⟩ := h.2 hl
  refine ⟨b, off, e, Nat.lt_of_lt_of_le hlt hb.size, fun i hi j k hk => ?_⟩
  obtain ⟨v, hv, ok⟩ := hc i hi j k hk
  exact ⟨v, (hb.cell (p := ⟨b, off + (i * ks.length + j), none⟩) hlt).trans hv, ok⟩

section
variable {H : Type} {enc : TypeId × Value → H} {P : Program} {w : World} {base : Nat} {spare : Nat → Bool} {held : Bool}

theorem Fk.read {k : Fk} {t : TypeId} {fuel : Nat} {v : Value} {x : DataW H × List MemPlace} (hk : k.fits P t) (h : DataW.trod enc P w base spare held fuel t [v] = some x) : k.ok v := by
  cases k with
  | int q =>
    obtain ⟨n, hn, _, hw⟩ := DataW.trod_int hk h
    simp only [List.cons.injEq, and_true] at hn
    exact ⟨n, hn, hw⟩
  | str =>
    obtain ⟨s, hs, _, hw⟩ := DataW.trod_string hk h
    simp only [List.cons.injEq, and_true] at hs
    exact ⟨s, hs, hw⟩
  | bool =>
    obtain ⟨b, hb, _⟩ := DataW.trod_bool hk h
    simp only [List.cons.injEq, and_true] at hb
    exact ⟨b, hb⟩

theorem recs_of {t e : TypeId} {fs : Array Field} {fuel : Nat} {a : Option Addr} {len cap : Nat} {x : DataW H × List MemPlace} (ks : List Fk) (ht : P.underlying t = some (.slice e)) (he : P.underlying e = some (.struct fs))
    (hone : Go.Deep.oneCellFields P fs = true) (hC : P.cellsOf e = ks.length) (hn : 0 < ks.length) (hks : ∀ (j : Nat) (k : Fk), ks[j]? = some k → ∃ f, fs[j]? = some f ∧ k.fits P f.type)
    (h : DataW.trod enc P w base spare held fuel t [.slice a len cap] = some x) : Recs w ks a len := by
  rcases Go.Deep.open_slice ht h with ⟨h0, _⟩ | ⟨y, l, c, m, n, D, Pl, hcs, _, hl, hm, hmm, _, hi⟩
  · simp only [List.cons.injEq, Value.slice.injEq, and_true] at h0
    obtain ⟨_, rfl, _⟩ := h0
    exact ⟨Nat.zero_le _, fun h => absurd h (by omega)⟩
  · simp only [List.cons.injEq, Value.slice.injEq, and_true] at hcs
    obtain ⟨rfl, rfl, rfl⟩ := hcs
    have hlm : len ≤ m := by rw [hmm]; split <;> omega
    rw [hC] at hi
    have hcell : ∀ i, i < len → ∀ (j : Nat) (k : Fk), ks[j]? = some k → ∃ v, w.cell? (y.add (i * ks.length + j)) = some v ∧ k.ok v := by
      intro i hil j k hk
      obtain ⟨cs, hc, hd⟩ := hi i (by omega)
      obtain ⟨f, hf, hfit⟩ := hks j k hk
      obtain ⟨_, hcl, hat⟩ := World.cells?_some hc
      obtain ⟨ys, n', _, _, _, hyl, hfl⟩ := DataW.trod_struct he hd
      obtain ⟨ho, hk1⟩ := Go.Deep.hone_of hone j f hf
      have hj : j < ks.length := (List.getElem?_eq_some_iff.1 hk).1
      have hjf : j < fs.size := (Array.getElem?_eq_some_iff.1 hf).1
      have hfj := hfl j f hf
      rw [ho, hk1, List.drop_eq_getElem_cons (by omega), List.take_succ_cons, List.take_zero, List.getElem?_eq_getElem (show j < ys.length by omega)] at hfj
      refine ⟨cs[j], ?_, Fk.read hfit hfj⟩
      have := hat j hj
      rw [Go.Deep.add_add, List.getElem?_eq_getElem (by omega)] at this
      exact this
    refine ⟨Nat.le_trans hl hm, fun hlen => ?_⟩
    obtain ⟨v0, hv0, _⟩ := hcell 0 hlen 0 _ (List.getElem?_eq_getElem hn)
    obtain ⟨b, off, sp⟩ := y
    have hsp : sp = none := by
      have := World.cell?_spot hv0
      simpa [Addr.add] using this
    subst hsp
    refine ⟨b, off, rfl, ?_, fun i hil j k hk => ?_⟩
    · rw [Go.WideShapes.add_plain] at hv0
      exact World.block_lt_of_cell? _ _ hv0
    · obtain ⟨v, hv, ok⟩ := hcell i hil j k hk
      rw [Go.WideShapes.add_plain] at hv
      exact ⟨v, hv, ok⟩
end
end Go.Proofs.YtnpjkmomllkhpaaGreat

namespace Go.Proofs.YtnpjkmomllkhpaaGreat
open Go.RowKit

section
variable {H : Type} {enc : TypeId × Value → H} {P : Program} {w : World} {base : Nat} {spare : Nat → Bool} {held : Bool} {ts : List TypeId} {ds : List (DataW H)}

theorem slice_reach (hz : (DataW.weightsEach P ts ds).all (· ≤ reachBytes) = true) {j : Nat} {t e : TypeId} {d : DataW H} {ps : List MemPlace} {a : Option Addr} {len cap : Nat} (ht : ts[j]? = some t) (hd : ds[j]? = some d) (hu : P.underlying t = some (.slice e))
    (hb : Nat.ble 1 (P.bytesOf e) = true) (h : DataW.Trod enc P w base spare held t (.slice a len cap) d ps) : len ≤ 140737488351232 := by
  obtain ⟨fuel, hf⟩ := h
  rcases Go.Deep.open_slice hu hf with ⟨h0, _⟩ | ⟨y, l, c, m, n, D, Pl, hcs, _, hl, hm, hmm, hx, _⟩
  · simp only [Value.cells, List.cons.injEq, Value.slice.injEq, and_true] at h0
    omega
  · simp only [Value.cells, List.cons.injEq, Value.slice.injEq, and_true] at hcs
    obtain ⟨_, rfl, rfl⟩ := hcs
    simp only [Prod.mk.injEq] at hx
    have hs := sized_slice hz ht (hd.trans (by rw [hx.1])) hu
    simp only [List.length_map, List.length_range] at hs
    have h1 : len * 1 ≤ (len + (m - len)) * P.bytesOf e := Nat.mul_le_mul (by omega) (Nat.le_of_ble_eq_true hb)
    have h2 : reachBytes = 140737488351232 := rfl
    omega
theorem string_reach (hz : (DataW.weightsEach P ts ds).all (· ≤ reachBytes) = true) {j : Nat} {t : TypeId} {d : DataW H} {ps : List MemPlace} {a : ByteArray} (ht : ts[j]? = some t) (hd : ds[j]? = some d) (hu : P.underlying t = some .string)
    (h : DataW.Trod enc P w base spare held t (.string a) d ps) : a.size ≤ 140737488351232 := by
  obtain ⟨fuel, hf⟩ := h
  obtain ⟨s, hs, hx, _⟩ := DataW.trod_string hu hf
  simp only [Value.cells, List.cons.injEq, Value.string.injEq, and_true] at hs
  subst hs
  simp only [Prod.mk.injEq] at hx
  have := sized_string hz ht (hd.trans (by rw [hx.1]))
  have h2 : reachBytes = 140737488351232 := rfl
  have h3 : a.data.toList.length = a.size := by simp
  omega
theorem weights_all {e : TypeId} : ∀ {l : List (DataW H)} {i : Nat} {d : DataW H}, l[i]? = some d → ∀ n ∈ d.weights P e, n ∈ DataW.weightsAll P e l
  | [], _, _, h, _, _ => by simp at h
  | x :: l, 0, d, h, n, hn => by
    simp only [List.getElem?_cons_zero, Option.some.injEq] at h
    subst h
    simp only [DataW.weightsAll, List.mem_append]
    exact .inl hn
  | x :: l, i + 1, d, h, n, hn => by
    simp only [List.getElem?_cons_succ] at h
    simp only [DataW.weightsAll, List.mem_append]
    exact .inr (weights_all h n hn)

/-- Each string in a slice's cells is within the reach. -/
def StrsIn (w : World) (a : Option Addr) (len : Nat) : Prop := ∀ x, a = some x → ∀ j, j < len → ∀ s, w.cell? (x.add j) = some (.string s) → s.size ≤ 140737488351232
theorem strs_reach (hz : (DataW.weightsEach P ts ds).all (· ≤ reachBytes) = true) {j : Nat} {t e : TypeId} {d : DataW H} {ps : List MemPlace} {a : Option Addr} {len cap : Nat} (ht : ts[j]? = some t) (hd : ds[j]? = some d) (hu : P.underlying t = some (.slice e))
    (he : P.underlying e = some .string) (hc : P.cellsOf e = 1) (h : DataW.Trod enc P w base spare held t (.slice a len cap) d ps) : StrsIn w a len := by
  intro x hx i hi s hs
  subst hx
  obtain ⟨fuel, hf⟩ := h
  rcases Go.Deep.open_slice1 hu hc hf with ⟨h0, _⟩ | ⟨y, l, c, m, n, V, D, Pl, hcs, _, hl, hm, hmm, hx, hV⟩
  · simp [Value.cells] at h0
  · simp only [Value.cells, List.cons.injEq, Value.slice.injEq, and_true, Option.some.injEq] at hcs
    obtain ⟨rfl, rfl, rfl⟩ := hcs
    simp only [Prod.mk.injEq] at hx
    have him : i < m := by rw [hmm]; split <;> omega
    obtain ⟨hv, htr⟩ := hV i him
    rw [hs] at hv
    simp only [Option.some.injEq] at hv
    rw [← hv] at htr
    obtain ⟨s', hs', hx', _⟩ := DataW.trod_string he htr
    simp only [List.cons.injEq, Value.string.injEq, and_true] at hs'
    subst hs'
    simp only [Prod.mk.injEq] at hx'
    have h1 : ((List.range len).map D)[i]? = some (.lit (.string s.data.toList)) := by
      rw [List.getElem?_map, List.getElem?_range hi]; simp [hx'.1]
    have h2 : s.data.toList.length ∈ (DataW.slice ((List.range len).map D) ((List.range (m - len)).map fun j => D (len + j))).weights P t := by
      simp only [DataW.weights, hu, List.mem_cons, List.mem_append]
      exact .inr (.inl (weights_all h1 _ (by simp [DataW.weights])))
    have h3 := List.all_eq_true.1 hz _ (DataW.weights_mem_each ht (hd.trans (by rw [hx.1])) _ h2)
    have h4 : reachBytes = 140737488351232 := rfl
    have h5 : s.data.toList.length = s.size := by simp
    simp only [decide_eq_true_eq] at h3
    omega
end
end Go.Proofs.YtnpjkmomllkhpaaGreat

namespace Go.Proofs.YtnpjkmomllkhpaaGreat
open Go.RowKit

section
variable {H : Type} {enc : TypeId × Value → H} {P : Program} {w : World} {base : Nat} {spare : Nat → Bool} {held : Bool} {t e : TypeId} {cs : List Value}

/-- Cells that read as data of a type, all its sizes within the reach. -/
def Tr (enc : TypeId × Value → H) (P : Program) (w : World) (base : Nat) (spare : Nat → Bool) (held : Bool) (t : TypeId) (cs : List Value) : Prop :=
  ∃ fuel d ps, DataW.trod enc P w base spare held fuel t cs = some (d, ps) ∧ ∀ n ∈ d.weights P t, n ≤ 140737488351232
theorem reach_is : reachBytes = 140737488351232 := rfl
theorem Tr.of {ts : List TypeId} {ds : List (DataW H)} (hz : (DataW.weightsEach P ts ds).all (· ≤ reachBytes) = true) {j : Nat} {d : DataW H} {ps : List MemPlace} {v : Value} (ht : ts[j]? = some t) (hd : ds[j]? = some d)
    (h : DataW.Trod enc P w base spare held t v d ps) : Tr enc P w base spare held t v.cells.toList := by
  obtain ⟨fuel, hf⟩ := h
  refine ⟨fuel, d, ps, hf, fun n hn => ?_⟩
  have := List.all_eq_true.1 hz _ (DataW.weights_mem_each ht hd n hn)
  rw [← reach_is]; simpa using this
theorem Tr.int {k : IntKind} (ht : P.underlying t = some (.int k)) (h : Tr enc P w base spare held t cs) : ∃ n, cs = [.int k n] ∧ (Lit.int k n).wf = true := by
  obtain ⟨fuel, d, ps, hf, _⟩ := h
  obtain ⟨n, hn, _, hw⟩ := DataW.trod_int ht hf
  exact ⟨n, hn, hw⟩
theorem Tr.bool (ht : P.underlying t = some .bool) (h : Tr enc P w base spare held t cs) : ∃ b, cs = [.bool b] := by
  obtain ⟨fuel, d, ps, hf, _⟩ := h
  obtain ⟨b, hb, _⟩ := DataW.trod_bool ht hf
  exact ⟨b, hb⟩
theorem Tr.str (ht : P.underlying t = some .string) (h : Tr enc P w base spare held t cs) : ∃ l : List UInt8, cs = [.string ⟨l.toArray⟩] ∧ l.length ≤ 140737488351232 := by
  obtain ⟨fuel, d, ps, hf, hz⟩ := h
  obtain ⟨s, hs, hx, _⟩ := DataW.trod_string ht hf
  simp only [Prod.mk.injEq] at hx
  refine ⟨s.data.toList, by rw [hs], ?_⟩
  apply hz
  rw [hx.1]; simp [DataW.weights]
theorem Tr.struct {fs : Array Field} (ht : P.underlying t = some (.struct fs)) (h : Tr enc P w base spare held t cs) :
    cs.length = P.cellsOf t ∧ ∀ (i : Nat) (f : Field), fs[i]? = some f → Tr enc P w base spare held f.type ((cs.drop f.offset).take (P.cellsOf f.type)) := by
  obtain ⟨fuel, d, ps, hf, hz⟩ := h
  obtain ⟨xs, n, _, hx, hl, hlen, hi⟩ := DataW.trod_struct ht hf
  simp only [Prod.mk.injEq] at hx
  refine ⟨hl, fun i f hfi => ?_⟩
  have hlt : i < fs.size := (Array.getElem?_eq_some_iff.1 hfi).1
  have h1 := hi i f hfi
  rw [List.getElem?_eq_getElem (by omega)] at h1
  refine ⟨n, xs[i].1, xs[i].2, h1, fun m hm => hz m ?_⟩
  rw [hx.1]
  simp only [DataW.weights, ht]
  refine DataW.weights_mem_each (j := i) (t := f.type) (d := xs[i].1) ?_ ?_ m hm
  · rw [List.getElem?_map, Array.getElem?_toList, hfi]; rfl
  · rw [List.getElem?_map, List.getElem?_eq_getElem (by omega)]; rfl
theorem Tr.field {fs : Array Field} (ht : P.underlying t = some (.struct fs)) (h : Tr enc P w base spare held t cs) (i : Nat) (f : Field) (hf : fs[i]? = some f) {u : TypeId} {o c : Nat} (hu : f.type = u) (ho : f.offset = o) (hc : P.cellsOf u = c) : Tr enc P w base spare held u ((cs.drop o).take c) := by
  subst hu; subst ho; subst hc
  exact (Tr.struct ht h).2 i f hf
theorem Tr.slice (ht : P.underlying t = some (.slice e)) (h : Tr enc P w base spare held t cs) :
    ∃ a len cap, cs = [.slice a len cap] ∧ len * P.bytesOf e ≤ 140737488351232 ∧ len ≤ cap ∧ cap ≤ maxLen ∧ (a = none → len = 0 ∧ cap = 0) ∧
      ∀ y, a = some y → ∀ i, i < len → ∃ cs', w.cells? base (y.add (i * P.cellsOf e)) (P.cellsOf e) = some cs' ∧ Tr enc P w base spare held e cs' := by
  obtain ⟨fuel, d, ps, hf, hz⟩ := h
  rcases Go.Deep.open_slice ht hf with ⟨h0, _⟩ | ⟨y, len, cap, m, n, D, Pl, hcs, _, hl, hm, hmm, hx, hi⟩
  · exact ⟨none, 0, 0, h0, by omega, Nat.le_refl _, Nat.zero_le _, fun _ => ⟨rfl, rfl⟩, fun y hy => by cases hy⟩
  · simp only [Prod.mk.injEq] at hx
    have hlm : len ≤ m := by rw [hmm]; split <;> omega
    have hmem : ∀ k, k ∈ ((((List.range len).map D).length + ((List.range (m - len)).map fun j => D (len + j)).length) * P.bytesOf e :: (DataW.weightsAll P e ((List.range len).map D) ++ DataW.weightsAll P e ((List.range (m - len)).map fun j => D (len + j)))) → k ≤ 140737488351232 := by
      intro k hk
      apply hz k
      rw [hx.1]
      simp only [DataW.weights, ht]
      exact hk
    refine ⟨some y, len, cap, hcs, ?_, hl, hm, (fun h => (by cases h)), fun y' hy i hil => ?_⟩
    · have h1 := hmem _ List.mem_cons_self
      simp only [List.length_map, List.length_range] at h1
      exact Nat.le_trans (Nat.mul_le_mul_right _ (by omega)) h1
    · cases hy
      obtain ⟨cs', hc, hd⟩ := hi i (by omega)
      refine ⟨cs', hc, n, D i, Pl i, hd, fun k hk => hmem k ?_⟩
      refine List.mem_cons_of_mem _ (List.mem_append_left _ ?_)
      exact weights_all (i := i) (d := D i) (by rw [List.getElem?_map, List.getElem?_range hil]; rfl) k hk
/-- A struct by value, opened. -/
theorem open_struct {b0 : Nat} {r : Reach} {v : Value} {d : DataW H} {ps : List MemPlace} {ts : List TypeId} {ds : List (DataW H)} {j : Nat} {fs : Array Field}
    (hz : (DataW.weightsEach P ts ds).all (· ≤ reachBytes) = true) (ht : ts[j]? = some t) (hd : ds[j]? = some d) (hs : P.underlying t = some (.struct fs)) (hv : Value.okWide P w r b0 t v)
    (h : DataW.Trod enc P w base spare held t v d ps) : ∃ cs, v = .agg cs ∧ Tr enc P w base spare held t cs.toList := by
  obtain ⟨cs, rfl, _⟩ := Go.WideShapes.okWide_struct hs hv
  exact ⟨cs, rfl, Tr.of hz ht hd h⟩
/-- Cells that lie in a row, one by one. -/
theorem cells_at {a : Addr} {c : Nat} {cs : List Value} (h : w.cells? base a c = some cs) : cs.length = c ∧ ∀ j, j < c → w.cell? (a.add j) = cs[j]? := ⟨(World.cells?_some h).2.1, (World.cells?_some h).2.2⟩
/-- An address that holds cells has no spot. -/
theorem spot_none {y : Addr} {c k : Nat} {cs : List Value} (hk : 0 < k) (h : w.cells? base (y.add (0 * c)) k = some cs) : ∃ b off, y = ⟨b, off, none⟩ ∧ b < w.heap.size := by
  obtain ⟨hl, hc⟩ := cells_at h
  have h0 := hc 0 hk
  rw [List.getElem?_eq_getElem (by omega)] at h0
  obtain ⟨b, off, sp⟩ := y
  have hsp : sp = none := by
    have := World.cell?_spot h0
    simpa [Addr.add] using this
  subst hsp
  refine ⟨b, off, rfl, ?_⟩
  rw [Go.WideShapes.add_plain, Go.WideShapes.add_plain] at h0
  exact World.block_lt_of_cell? _ _ h0
end
end Go.Proofs.YtnpjkmomllkhpaaGreat

namespace Go.Proofs.YtnpjkmomllkhpaaGreat
namespace Row
open Go.RowKit

/-- append of a nil source, to nil. -/
theorem wpList_nil {P : Program} {w : World} {ops : Array Oper} {rest : List Oper} {o : Oper} {a : Act} {Q : Exit → Act → World → Prop} (hgd : o.guard = none) (s x : Operand) (t e : TypeId)
    (ho : o.op = .call { callee := .builtin .append, args := #[s, x], argTypes := #[t, t] }) (i : TypeInfo) (ht : P.underlying t = some (.slice e)) (hi : P.info? e = some i) (c : Nat)
    (hs : a.eval s = .slice none 0 0) (hx : a.eval x = .slice none 0 c) (h : wpList P ops Q rest (a.put o.dst (.slice none 0 0)) w) : wpList P ops Q (o :: rest) a w := by
  refine wpList_plain hgd fun K hK => ?_
  have hrun : (Builtin.append_ #[t, t] o.type #[.slice none 0 0, .slice none 0 c]).run P w = .ok (.slice none 0 0) w := by simp [Builtin.append_, run_underlying ht, sizeOf, typeInfo, hi, Builtin.lenOf, Builtin.firstCells]
  unfold Oper.wp
  simp [execOp, ho, resolve, invoke, builtin, hs, hx, hrun, Result.andThen]
  exact hK _ _ h
/-- How a record lies: its cells. -/
structure Enc (α : Type) where
  k : Nat
  pos : 0 < k
  cells : α → List Value
  len : ∀ x, (cells x).length = k
  one : ∀ x, ∀ v ∈ cells x, v.oneCell' = true
variable {α : Type} (E : Enc α)

def flat (L : List α) : List Value := L.flatMap E.cells
theorem flat_nil : flat E [] = [] := rfl
theorem flat_cons (x : α) (L : List α) : flat E (x :: L) = E.cells x ++ flat E L := rfl
theorem flat_append (L K : List α) : flat E (L ++ K) = flat E L ++ flat E K := by simp [flat]
theorem flat_length : ∀ L : List α, (flat E L).length = L.length * E.k
  | [] => by simp [flat]
  | x :: L => by rw [flat_cons, List.length_append, E.len, flat_length L, List.length_cons, Nat.add_mul]; omega
theorem flat_get : ∀ (L : List α) (j : Nat) (h : j < L.length) (i : Nat), i < E.k → (flat E L)[j * E.k + i]? = (E.cells L[j])[i]?
  | x :: L, 0, _, i, hi => by
    rw [flat_cons, Nat.zero_mul, Nat.zero_add, List.getElem?_append_left (by rw [E.len]; exact hi)]; rfl
  | x :: L, j + 1, h, i, hi => by
    have hl : j < L.length := by simpa using h
    rw [flat_cons, List.getElem?_append_right (by rw [E.len, Nat.add_mul]; omega), E.len]
    rw [show (j + 1) * E.k + i - E.k = j * E.k + i by rw [Nat.add_mul]; omega]
    exact flat_get L j hl i hi
theorem flat_one (L : List α) : ∀ u ∈ flat E L, u.oneCell' = true := by
  intro u hu
  obtain ⟨x, _, h⟩ := List.mem_flatMap.1 hu
  exact E.one x u h
theorem flat_take (K : List α) (i : Nat) : flat E (K.take i) = (flat E K).take (i * E.k) := by
  induction K generalizing i with
  | nil => simp [flat]
  | cons x K ih =>
    cases i with
    | zero => simp [flat]
    | succ i =>
      have h1 : (E.cells x).take ((i + 1) * E.k) = E.cells x := List.take_of_length_le (by rw [E.len, Nat.add_mul]; omega)
      rw [List.take_succ_cons, flat_cons, flat_cons, ih, List.take_append, h1, E.len, show (i + 1) * E.k - E.k = i * E.k by rw [Nat.add_mul]; omega]

/-- A slice's elements, each in its cells. -/
def Lies (w : World) (a : Option Addr) (n : Nat) (L : List α) : Prop :=
  n = L.length ∧ (0 < n → ∃ b off, a = some ⟨b, off, none⟩ ∧ ∀ j (h : j < L.length) i u, (E.cells L[j])[i]? = some u → w.cell? ⟨b, off + j * E.k + i, none⟩ = some u)
variable {E}
theorem Lies.nil (w : World) (a : Option Addr) : Lies E w a 0 [] := ⟨rfl, fun h => absurd h (by omega)⟩
theorem Lies.below {w w' : World} {a : Option Addr} {n : Nat} {L : List α} (h : Lies E w a n L) (k : Below w.heap.size w w') : Lies E w' a n L := by
  refine ⟨h.1, fun hn => ?_⟩
  obtain ⟨b, off, e, hc⟩ := h.2 hn
  exact ⟨b, off, e, fun j hj i u hu => by
    have hv := hc j hj i u hu
    exact (World.cell?_of_block (k.block _ (World.block_lt_of_cell? _ _ hv))).trans hv⟩
/-- The same cells as a plain row of values. -/
theorem Lies.at {w : World} {b off n : Nat} {L : List α} (h : Lies E w (some ⟨b, off, none⟩) n L) : ∀ j u, (flat E L)[j]? = some u → w.cell? ((⟨b, off, none⟩ : Addr).add j) = some u := by
  intro j u hu
  have hj : j < L.length * E.k := by rw [← flat_length]; exact (List.getElem?_eq_some_iff.1 hu).1
  have hk := E.pos
  have hl : j / E.k < L.length := (Nat.div_lt_iff_lt_mul hk).2 hj
  obtain ⟨b', off', e, hc⟩ := h.2 (by rw [h.1]; exact Nat.lt_of_le_of_lt (Nat.zero_le _) hl)
  simp only [Option.some.injEq, Addr.mk.injEq, and_true] at e
  obtain ⟨rfl, rfl⟩ := e
  rw [Go.WideShapes.add_plain]
  have hg := flat_get E L (j / E.k) hl (j % E.k) (Nat.mod_lt _ hk)
  have e2 : j / E.k * E.k + j % E.k = j := by rw [Nat.mul_comm]; exact Nat.div_add_mod j E.k
  rw [e2, hu] at hg
  have := hc (j / E.k) hl (j % E.k) u hg.symm
  rw [Nat.add_assoc, e2] at this
  exact this
theorem lies_own {w : World} {B : Nat} {t : TypeId} {v : Value} {L : List α} (h : w.ownsRow B t E.k v L.length (flat E L)) :
    ∃ a c, v = .slice a L.length c ∧ L.length ≤ c ∧ c ≤ maxLen ∧ Lies E w a L.length L ∧ (∀ q, a = some q → B ≤ q.block) := by
  have h0 := h
  rcases h.2 with ⟨rfl, hc⟩ | ⟨g, cap, cur, rfl, hB, _, hle, hmx, _⟩
  · have : L = [] := List.length_eq_zero_iff.1 hc
    subst this
    exact ⟨none, 0, rfl, Nat.le_refl _, Nat.zero_le _, Lies.nil _ _, fun q e => by cases e⟩
  · refine ⟨_, cap, rfl, hle, hmx, ⟨rfl, fun _ => ⟨g, 0, rfl, fun j hj i u hu => ?_⟩⟩, fun q e => by cases e; exact hB⟩
    have hi : i < E.k := by rw [← E.len L[j]]; exact (List.getElem?_eq_some_iff.1 hu).1
    have hb : j * E.k + i < L.length * E.k := by
      have : (j + 1) * E.k ≤ L.length * E.k := Nat.mul_le_mul_right _ hj
      rw [Nat.add_mul] at this; omega
    rw [Nat.zero_add]
    exact (h0.cellAt (j * E.k + i) hb).trans ((flat_get E L j hj i hi).trans hu)

section
variable {H : Type} {enc : TypeId × Value → H} {P : Program} {w : World} {base : Nat} {spare : Nat → Bool} {held : Bool} {cs : List Value}
/-- Records that came in. -/
theorem rows_in {ts te : TypeId} {Was : α → Prop} (hs : P.underlying ts = some (.slice te)) (hC : P.cellsOf te = E.k) (hB : Nat.ble 1 (P.bytesOf te) = true) (hel : ∀ cs, Tr enc P w base spare held te cs → ∃ x, cs = E.cells x ∧ Was x)
    (h : Tr enc P w base spare held ts cs) : ∃ a c L, cs = [.slice a L.length c] ∧ Lies E w a L.length L ∧ (∀ x ∈ L, Was x) ∧ L.length ≤ 140737488351232 ∧ (a = none → c = 0) := by
  obtain ⟨a, len, cap, rfl, hz, _, _, hnil, hi⟩ := Tr.slice hs h
  have hlen : len ≤ 140737488351232 := by
    have := Nat.mul_le_mul_left len (Nat.le_of_ble_eq_true hB)
    omega
  by_cases h0 : 0 < len
  · cases a with
    | none => exact absurd (hnil rfl).1 (by omega)
    | some y =>
      have hi := hi y rfl
      obtain ⟨cs0, hc0, _⟩ := hi 0 h0
      obtain ⟨b, off, rfl, _⟩ := spot_none (by rw [hC]; exact E.pos) hc0
      have key : ∀ q, q ≤ len → ∃ L : List α, L.length = q ∧ (∀ m ∈ L, Was m) ∧ ∀ j (hj : j < L.length) i u, (E.cells L[j])[i]? = some u → w.cell? ⟨b, off + j * E.k + i, none⟩ = some u := by
        intro q
        induction q with
        | zero => intro _; exact ⟨[], rfl, fun m hm => (by cases hm), fun j hj => absurd hj (Nat.not_lt_zero j)⟩
        | succ q ih =>
          intro hk
          obtain ⟨L, hl, hok, hL⟩ := ih (by omega)
          obtain ⟨cs', hc, ht⟩ := hi q (by omega)
          rw [hC] at hc
          obtain ⟨m, rfl, hm⟩ := hel _ ht
          obtain ⟨_, hat⟩ := cells_at hc
          refine ⟨L ++ [m], by simp [hl], fun x hx => ?_, fun j hj i u hu => ?_⟩
          · rcases List.mem_append.1 hx with hx | hx
            · exact hok x hx
            · simp at hx; subst hx; exact hm
          · by_cases hjk : j < L.length
            · rw [List.getElem_append_left hjk] at hu; exact hL j hjk i u hu
            · have : j = q := by simp at hj; omega
              subst this
              rw [List.getElem_append_right (by omega)] at hu
              have hz : j - L.length = 0 := by omega
              simp only [hz, List.getElem_cons_zero] at hu
              have hik : i < E.k := by rw [← E.len m]; exact (List.getElem?_eq_some_iff.1 hu).1
              have e1 := hat i hik
              rw [Go.WideShapes.add_plain, Go.WideShapes.add_plain] at e1
              exact e1.trans hu
      obtain ⟨L, rfl, hok, hL⟩ := key len (Nat.le_refl _)
      exact ⟨_, cap, L, rfl, ⟨rfl, fun _ => ⟨b, off, rfl, hL⟩⟩, hok, hlen, fun h => by cases h⟩
  · obtain rfl : len = 0 := by omega
    exact ⟨a, cap, [], rfl, Lies.nil _ _, fun m hm => (by cases hm), Nat.zero_le _, fun h => (hnil h).2⟩
end
end Row
end Go.Proofs.YtnpjkmomllkhpaaGreat

namespace Go.Proofs.YtnpjkmomllkhpaaGreat
namespace Row
open Go.RowKit
variable {α : Type} {E : Enc α} {P : Program} {ts te : TypeId} {z : Value} {bytes : Nat}

/-- What a program says of a slice's type and its element's. -/
structure Typ (P : Program) (E : Enc α) (ts te : TypeId) (z : Value) (bytes : Nat) : Prop where
  und : P.underlying ts = some (.slice te)
  info : ∃ i, P.info? te = some i ∧ i.zero = some z ∧ i.size = E.k ∧ i.bytes = bytes
  zsize : z.cells.size = E.k
  small : bytes ≤ 128
theorem info_of {i? : Option TypeInfo} {z : Value} {s b : Nat} (h : i?.map (fun i => (i.zero, i.size, i.bytes)) = some (some z, s, b)) : ∃ i, i? = some i ∧ i.zero = some z ∧ i.size = s ∧ i.bytes = b := by
  cases i? with
  | none => cases h
  | some i => simp only [Option.map_some, Option.some.injEq, Prod.mk.injEq] at h; exact ⟨i, rfl, h.1, h.2.1, h.2.2⟩
/-- A row of the call's own. -/
def Own (E : Enc α) (te : TypeId) (w : World) (B : Nat) (v : Value) (L : List α) : Prop := w.ownsRow B te E.k v L.length (flat E L)
theorem Own.nil (w : World) (B : Nat) : Own E te w B (.slice none 0 0) [] := World.ownsRow_nil _ _ _ _
theorem Own.lies {w : World} {B : Nat} {v : Value} {L : List α} (h : Own E te w B v L) : ∃ a c, v = .slice a L.length c ∧ L.length ≤ c ∧ c ≤ maxLen ∧ Lies E w a L.length L ∧ (∀ q, a = some q → B ≤ q.block) := lies_own h
theorem Own.base {w : World} {B B' : Nat} {v : Value} {L : List α} (h : Own E te w B v L) (hB : B' ≤ B) : Own E te w B' v L := by
  refine ⟨h.1, h.2.imp id ?_⟩
  rintro ⟨g, cap, cur, h1, h2, h3⟩
  exact ⟨g, cap, cur, h1, by omega, h3⟩
theorem Own.lt {w : World} {B : Nat} {v : Value} {L : List α} (h : Own E te w B v L) : ∀ k, v.ownBlock = some k → B ≤ k ∧ k < w.heap.size := World.ownsRow.lt h
theorem Own.drew {w : World} {B : Nat} {v : Value} {L : List α} (h : Own E te w B v L) : Own E te w.drew B v L := h
theorem Own.alloc {w : World} {B : Nat} {v : Value} {L : List α} (h : Own E te w B v L) (o : Obj) : Own E te (w.alloc o) B v L := World.ownsRow.alloc h o
theorem Own.below {w w' : World} {B : Nat} {v : Value} {L : List α} (h : Own E te w B v L) (k : Below w.heap.size w w') : Own E te w' B v L := by
  refine ⟨h.1, ?_⟩
  rcases h.2 with h' | ⟨g, cap, cur, e, hB, hg, hr⟩
  · exact .inl h'
  · refine .inr ⟨g, cap, cur, e, hB, ?_, hr⟩
    rw [k.block g (Array.getElem?_eq_some_iff.1 hg).1]; exact hg
/-- A record in a new block. -/
theorem lies_new (w : World) (x : α) (T : TypeId) : Lies E (w.alloc (.cells (E.cells x).toArray T)) (some ⟨w.heap.size, 0, none⟩) 1 [x] := by
  refine ⟨rfl, fun _ => ⟨w.heap.size, 0, rfl, fun j hj i u hu => ?_⟩⟩
  obtain rfl : j = 0 := by simp at hj; exact hj
  rw [Nat.zero_mul, Nat.zero_add, World.cell?_alloc_at _ _ _ i rfl, List.getElem?_toArray]
  exact hu
theorem flat_one_list (x : α) : flat E [x] = E.cells x := by simp [flat]
theorem flat_snoc (L : List α) (x : α) : flat E (L ++ [x]) = flat E L ++ E.cells x := by rw [flat_append, flat_one_list]

/-- Records that lie anywhere, appended to a call's own row. -/
theorem wpList_app (T : Typ P E ts te z bytes) {ops : Array Oper} {rest : List Oper} {o : Oper} {a : Act} {w : World} {Q : Exit → Act → World → Prop} (hgd : o.guard = none) (s x : Operand)
    (ho : o.op = .call { callee := .builtin .append, args := #[s, x], argTypes := #[ts, ts] }) (B : Nat) (v : Value) (L : List α) (hs : a.eval s = v) (hown : Own E te w B v L)
    (ax : Option Addr) (nx cx : Nat) (K : List α) (hx : a.eval x = .slice ax nx cx) (hK : Lies E w ax nx K)
    (hlen : L.length + nx ≤ 1099511627776) (hbase : B ≤ w.heap.size)
    (h : ∀ v' w', Own E te w' B v' (L ++ K) → w.grownBy w' v.ownBlock → Below B w w' → wpList P ops Q rest (a.put o.dst v') w') : wpList P ops Q (o :: rest) a w := by
  obtain ⟨i0, hi, hz0, hz1, hz2⟩ := T.info
  cases ax with
  | none =>
    have hn0 : nx = 0 := by
      rcases Nat.eq_zero_or_pos nx with h | h
      · exact h
      · obtain ⟨_, _, e, _⟩ := hK.2 h; cases e
    have hl0 : K = [] := List.length_eq_zero_iff.1 (by rw [← hK.1]; exact hn0)
    subst hl0
    subst hn0
    refine wpList_plain hgd fun k hk => ?_
    have hrun : (Builtin.append_ #[ts, ts] o.type #[v, .slice none 0 cx]).run P w = .ok v w := by
      rcases hown.2 with ⟨rfl, _⟩ | ⟨g, cap, cur, rfl, _, _, hnc, _⟩
      · simp [Builtin.append_, run_underlying T.und, sizeOf, typeInfo, hi, Builtin.lenOf, Builtin.firstCells]
      · simp [Builtin.append_, run_underlying T.und, sizeOf, typeInfo, hi, Builtin.lenOf, Builtin.firstCells, hnc, storeCells]
    unfold Oper.wp
    simp [execOp, ho, resolve, invoke, builtin, hs, hx, hrun, Result.andThen]
    exact hk _ _ (h v w (by rw [List.append_nil]; exact hown) (World.grownBy.refl _ _) (Below.refl _ _))
  | some q =>
    have hnews : ∀ j u, (flat E K)[j]? = some u → w.cell? (q.add j) = some u := fun j u hu => by
      have hj : j < K.length * E.k := by rw [← flat_length]; exact (List.getElem?_eq_some_iff.1 hu).1
      have hK0 : 0 < K.length := by
        rcases Nat.eq_zero_or_pos K.length with h | h
        · rw [h] at hj; omega
        · exact h
      obtain ⟨b, off, e, _⟩ := hK.2 (by rw [hK.1]; exact hK0)
      obtain rfl : q = ⟨b, off, none⟩ := Option.some.inj e
      exact Lies.at hK j u hu
    have hsm := T.small
    refine wpList_append_own w hgd s x ts ho B te i0 z E.k bytes T.und hi hz0 hz1 hz2 T.zsize E.pos v L.length (flat E L) hs hown q nx cx (flat E K) hx (by rw [flat_length, hK.1]) hnews (flat_one E K) (by unfold maxLen; omega) (Nat.le_trans (Nat.mul_le_mul hlen hsm) (by decide)) hbase ?_
    intro v' w' h1 h2 _
    refine h v' w' ?_ h2 (Below.grown (Below.refl B w) h2 hbase (fun k e => (hown.lt k e).1))
    unfold Own
    rw [flat_append, List.length_append, ← hK.1]
    exact h1
/-- The same as one step of a region that draws its order: a record that lies in memory, appended. -/
theorem step_app (T : Typ P E ts te z bytes) {ops : Array Oper} {o : Oper} {a : Act} {w : World} {K0 : Act → World → Prop} {Q : Exit → Act → World → Prop} {F : Prop} (hgd : o.guard = none) (s x : Operand)
    (ho : o.op = .call { callee := .builtin .append, args := #[s, x], argTypes := #[ts, ts] }) (B : Nat) (v : Value) (L : List α) (hs : a.eval s = v) (hown : Own E te w B v L)
    (q : Addr) (nx cx : Nat) (K : List α) (hx : a.eval x = .slice (some q) nx cx) (hK : Lies E w (some q) nx K)
    (hlen : L.length + nx ≤ 1099511627776) (hbase : B ≤ w.heap.size)
    (h : ∀ v' w', Own E te w' B v' (L ++ K) → w.grownBy w' v.ownBlock → Below B w w' → K0 (a.put o.dst v') w') : if Region.wanted o (yielded ops a.tmps) = true then Oper.wp P o a w K0 Q else F := by
  have hw : Region.wanted o (yielded ops a.tmps) = true := by simp [Region.wanted, hgd]
  rw [if_pos hw]
  obtain ⟨i0, hi, hz0, hz1, hz2⟩ := T.info
  have hnews : ∀ j u, (flat E K)[j]? = some u → w.cell? (q.add j) = some u := fun j u hu => by
    have hj : j < K.length * E.k := by rw [← flat_length]; exact (List.getElem?_eq_some_iff.1 hu).1
    have hK0 : 0 < K.length := by
      rcases Nat.eq_zero_or_pos K.length with h | h
      · rw [h] at hj; omega
      · exact h
    obtain ⟨b, off, e, _⟩ := hK.2 (by rw [hK.1]; exact hK0)
    obtain rfl : q = ⟨b, off, none⟩ := Option.some.inj e
    exact Lies.at hK j u hu
  have hsm := T.small
  refine wp_append_own w s x ts ho B te i0 z E.k bytes T.und hi hz0 hz1 hz2 T.zsize E.pos v L.length (flat E L) hs hown q nx cx (flat E K) hx (by rw [flat_length, hK.1]) hnews (flat_one E K) (by unfold maxLen; omega) (Nat.le_trans (Nat.mul_le_mul hlen hsm) (by decide)) hbase ?_
  intro v' w' h1 h2 _
  refine h v' w' ?_ h2 (Below.grown (Below.refl B w) h2 hbase (fun k e => (hown.lt k e).1))
  unfold Own
  rw [flat_append, List.length_append, ← hK.1]
  exact h1
/-- The rest of a slice. -/
theorem Lies.tail {w : World} {b off n : Nat} {x : α} {L : List α} (h : Lies E w (some ⟨b, off, none⟩) n (x :: L)) : Lies E w (some ⟨b, off + E.k, none⟩) (n - 1) L := by
  refine ⟨by rw [h.1]; rfl, fun hn => ?_⟩
  obtain ⟨b', o', e, hc⟩ := h.2 (by omega)
  simp only [Option.some.injEq, Addr.mk.injEq, and_true] at e
  obtain ⟨rfl, rfl⟩ := e
  refine ⟨b, off + E.k, rfl, fun j hj i u hu => ?_⟩
  have := hc (j + 1) (by simpa using hj) i u (by simpa using hu)
  rw [← this]
  congr 2
  rw [Nat.add_mul]; omega
/-- An own row of a block, cut to the first n elements that it has room for. -/
theorem own_of {w : World} {B g n cap : Nat} {L : List α} {cur : Array Value} (hB : B ≤ g) (hg : w.heap[g]? = some (.cells cur te (0, 0))) (hn : n = L.length) (hc : L.length ≤ cap) (hm : cap ≤ maxLen) (hs : cur.size = cap * E.k) (ht : cur.toList.take (L.length * E.k) = flat E L) :
    Own E te w B (.slice (some ⟨g, 0, none⟩) n cap) L := by
  subst hn
  exact ⟨flat_length E L, .inr ⟨g, cap, cur, rfl, hB, hg, hc, hm, hs, ht⟩⟩
theorem Own.row {w : World} {B g n cap : Nat} {L : List α} (h : Own E te w B (.slice (some ⟨g, 0, none⟩) n cap) L) : ∃ cur, B ≤ g ∧ w.heap[g]? = some (.cells cur te (0, 0)) ∧ n = L.length ∧ L.length ≤ cap ∧ cap ≤ maxLen ∧ cur.size = cap * E.k ∧ cur.toList.take (L.length * E.k) = flat E L := by
  rcases h.2 with ⟨h', _⟩ | ⟨g', cap', cur, h', hb, hg, hnc, hcm, hcs, htake⟩
  · simp at h'
  · simp only [Value.slice.injEq, Option.some.injEq, Addr.mk.injEq, and_true] at h'
    obtain ⟨rfl, rfl, rfl⟩ := h'
    exact ⟨cur, hb, hg, rfl, hnc, hcm, hcs, htake⟩
/-- copy at records of several cells. -/
theorem run_copy_rows (w : World) (dT sT ty elem : TypeId) (i : TypeInfo) (g o dLen dCap : Nat) (a : Addr) (sLen sCap : Nat) (cur : Array Value) (t : TypeId) (cs : List Value)
    (hu : P.underlying dT = some (.slice elem)) (hi : P.info? elem = some i) (hg : w.heap[g]? = some (.cells cur t (0, 0))) (hn : cs.length = Nat.min sLen dLen * i.size)
    (hsrc : ∀ j v, cs[j]? = some v → w.cell? (a.add j) = some v) (hfit : o + cs.length ≤ cur.size) (h1 : ∀ v ∈ cs, v.oneCell' = true) :
    (Builtin.copy_ #[dT, sT] ty #[.slice (some ⟨g, o, none⟩) dLen dCap, .slice (some a) sLen sCap]).run P w =
      .ok (goInt (Nat.min sLen dLen)) (w.setRow g (cur.toList.take o ++ cs ++ cur.toList.drop (o + cs.length)).toArray) := by
  have hl := run_loadCells_list (P := P) w a cs hsrc
  have hst := run_storeCells_at P g o t cs 0 cur w hg (by simpa using hfit) h1
  simp [Builtin.copy_, run_underlying hu, Builtin.lenOf, Builtin.firstCells, sizeOf, typeInfo, hi, ← hn, hl, hst]
end Row
end Go.Proofs.YtnpjkmomllkhpaaGreat

namespace Go.Proofs.YtnpjkmomllkhpaaGreat.Bulk
theorem one_le {H : Type} (d : DataW H) : 1 ≤ Rows.uptoBulk d := by
  cases d with
  | lit l => cases l <;> simp [Rows.uptoBulk]
  | nil => simp [Rows.uptoBulk]
  | ptr d => simp [Rows.uptoBulk]
  | slice elems spare => simp [Rows.uptoBulk]
  | agg parts => simp [Rows.uptoBulk]
  | iface t d => simp [Rows.uptoBulk]
  | map entries => simp [Rows.uptoBulk]
  | held h => simp [Rows.uptoBulk]
theorem part_le {H : Type} {d : DataW H} {l : List (DataW H)} (h : d ∈ l) : Rows.uptoBulk d ≤ Rows.uptoBulkAll l := by
  induction l with
  | nil => cases h
  | cons x r ih =>
    simp only [Rows.uptoBulkAll]
    cases List.mem_cons.1 h with
    | inl e => subst e; omega
    | inr e => have := ih e; omega
theorem length_le {H : Type} (l : List (DataW H)) : l.length ≤ Rows.uptoBulkAll l := by
  induction l with
  | nil => simp [Rows.uptoBulkAll]
  | cons x r ih => have := one_le x; simp only [Rows.uptoBulkAll, List.length_cons]; omega
theorem bound {H : Type} {l : List (DataW H)} (hk : Rows.uptoSmall H l = true) : Rows.uptoBulkAll l ≤ 1048576 := of_decide_eq_true hk
theorem at_le {H : Type} {l : List (DataW H)} (hk : Rows.uptoSmall H l = true) {j : Nat} {d : DataW H} (hd : l[j]? = some d) : Rows.uptoBulk d ≤ 1048576 :=
  Nat.le_trans (part_le (List.mem_of_getElem? hd)) (bound hk)
theorem str {H : Type} {l : List (DataW H)} (hk : Rows.uptoSmall H l = true) {j : Nat} {s : ByteArray} (hd : l[j]? = some (.lit (.string s.data.toList))) : s.size ≤ 1048576 := by
  have h := at_le hk hd
  simp only [Rows.uptoBulk] at h
  have e : s.data.toList.length = s.size := by rw [Array.length_toList]; rfl
  omega
end Go.Proofs.YtnpjkmomllkhpaaGreat.Bulk

namespace Go.Proofs.YtnpjkmomllkhpaaGreat
open Go.RowKit
section
variable {H : Type} {enc : TypeId × Value → H} {P : Program} {w : World} {base : Nat} {spare : Nat → Bool} {held : Bool} {t e : TypeId} {cs : List Value}
/-- Cells that read as data of a type, of small bulk. -/
def Tb (enc : TypeId × Value → H) (P : Program) (w : World) (base : Nat) (spare : Nat → Bool) (held : Bool) (t : TypeId) (cs : List Value) : Prop :=
  ∃ fuel d ps, DataW.trod enc P w base spare held fuel t cs = some (d, ps) ∧ Rows.uptoBulk d ≤ 1048576
theorem Tb.of {ds : List (DataW H)} (hk : Rows.uptoSmall H ds = true) {j : Nat} {d : DataW H} {ps : List MemPlace} {v : Value} (hd : ds[j]? = some d)
    (h : DataW.Trod enc P w base spare held t v d ps) : Tb enc P w base spare held t v.cells.toList := by
  obtain ⟨fuel, hf⟩ := h
  exact ⟨fuel, d, ps, hf, Bulk.at_le hk hd⟩
theorem Tb.int {k : IntKind} (ht : P.underlying t = some (.int k)) (h : Tb enc P w base spare held t cs) : ∃ n, cs = [.int k n] ∧ (Lit.int k n).wf = true := by
  obtain ⟨fuel, d, ps, hf, _⟩ := h
  obtain ⟨n, hn, _, hw⟩ := DataW.trod_int ht hf
  exact ⟨n, hn, hw⟩
theorem Tb.bool (ht : P.underlying t = some .bool) (h : Tb enc P w base spare held t cs) : ∃ b, cs = [.bool b] := by
  obtain ⟨fuel, d, ps, hf, _⟩ := h
  obtain ⟨b, hb, _⟩ := DataW.trod_bool ht hf
  exact ⟨b, hb⟩
theorem Tb.str (ht : P.underlying t = some .string) (h : Tb enc P w base spare held t cs) : ∃ l : List UInt8, cs = [.string ⟨l.toArray⟩] ∧ l.length ≤ 1048576 := by
  obtain ⟨fuel, d, ps, hf, hz⟩ := h
  obtain ⟨s, hs, hx, _⟩ := DataW.trod_string ht hf
  simp only [Prod.mk.injEq] at hx
  refine ⟨s.data.toList, by rw [hs], ?_⟩
  rw [hx.1] at hz
  simp only [Rows.uptoBulk] at hz
  omega
theorem Tb.struct {fs : Array Field} (ht : P.underlying t = some (.struct fs)) (h : Tb enc P w base spare held t cs) :
    cs.length = P.cellsOf t ∧ ∀ (i : Nat) (f : Field), fs[i]? = some f → Tb enc P w base spare held f.type ((cs.drop f.offset).take (P.cellsOf f.type)) := by
  obtain ⟨fuel, d, ps, hf, hz⟩ := h
  obtain ⟨xs, n, _, hx, hl, hlen, hi⟩ := DataW.trod_struct ht hf
  simp only [Prod.mk.injEq] at hx
  refine ⟨hl, fun i f hfi => ?_⟩
  have hlt : i < fs.size := (Array.getElem?_eq_some_iff.1 hfi).1
  have h1 := hi i f hfi
  rw [List.getElem?_eq_getElem (by omega)] at h1
  refine ⟨n, xs[i].1, xs[i].2, h1, ?_⟩
  rw [hx.1] at hz
  simp only [Rows.uptoBulk] at hz
  have hm : xs[i].1 ∈ xs.map Prod.fst := List.mem_map.2 ⟨xs[i], List.getElem_mem _, rfl⟩
  exact Nat.le_trans (Bulk.part_le hm) (Nat.le_trans (Nat.le_succ _) hz)
theorem Tb.field {fs : Array Field} (ht : P.underlying t = some (.struct fs)) (h : Tb enc P w base spare held t cs) (i : Nat) (f : Field) (hf : fs[i]? = some f) {u : TypeId} {o c : Nat} (hu : f.type = u) (ho : f.offset = o) (hc : P.cellsOf u = c) : Tb enc P w base spare held u ((cs.drop o).take c) := by
  subst hu; subst ho; subst hc
  exact (Tb.struct ht h).2 i f hf
theorem Tb.slice (ht : P.underlying t = some (.slice e)) (h : Tb enc P w base spare held t cs) :
    ∃ a len cap, cs = [.slice a len cap] ∧ len ≤ 1048576 ∧ (a = none → len = 0 ∧ cap = 0) ∧
      ∀ y, a = some y → ∀ i, i < len → ∃ cs', w.cells? base (y.add (i * P.cellsOf e)) (P.cellsOf e) = some cs' ∧ Tb enc P w base spare held e cs' := by
  obtain ⟨fuel, d, ps, hf, hz⟩ := h
  rcases Go.Deep.open_slice ht hf with ⟨h0, _⟩ | ⟨y, len, cap, m, n, D, Pl, hcs, _, hl, hm, hmm, hx, hi⟩
  · exact ⟨none, 0, 0, h0, by omega, fun _ => ⟨rfl, rfl⟩, fun y hy => by cases hy⟩
  · simp only [Prod.mk.injEq] at hx
    have hlm : len ≤ m := by rw [hmm]; split <;> omega
    rw [hx.1] at hz
    simp only [Rows.uptoBulk] at hz
    have h1 := Bulk.length_le ((List.range len).map D)
    rw [List.length_map, List.length_range] at h1
    refine ⟨some y, len, cap, hcs, by omega, (fun h => (by cases h)), fun y' hy i hil => ?_⟩
    cases hy
    obtain ⟨cs', hc, hd⟩ := hi i (by omega)
    refine ⟨cs', hc, n, D i, Pl i, hd, ?_⟩
    have h2 : D i ∈ (List.range len).map D := List.mem_map.2 ⟨i, List.mem_range.2 hil, rfl⟩
    have := Bulk.part_le h2
    omega
end
namespace Row
section
variable {α : Type} {E : Enc α} {H : Type} {enc : TypeId × Value → H} {P : Program} {w : World} {base : Nat} {spare : Nat → Bool} {held : Bool} {cs : List Value}
/-- Records that came in. -/
theorem rows_tb {ts te : TypeId} {Was : α → Prop} (hs : P.underlying ts = some (.slice te)) (hC : P.cellsOf te = E.k) (hel : ∀ cs, Tb enc P w base spare held te cs → ∃ x, cs = E.cells x ∧ Was x)
    (h : Tb enc P w base spare held ts cs) : ∃ a c L, cs = [.slice a L.length c] ∧ Lies E w a L.length L ∧ (∀ x ∈ L, Was x) ∧ L.length ≤ 1048576 ∧ (a = none → c = 0) := by
  obtain ⟨a, len, cap, rfl, hlen, hnil, hi⟩ := Tb.slice hs h
  by_cases h0 : 0 < len
  · cases a with
    | none => exact absurd (hnil rfl).1 (by omega)
    | some y =>
      have hi := hi y rfl
      obtain ⟨cs0, hc0, _⟩ := hi 0 h0
      obtain ⟨b, off, rfl, _⟩ := spot_none (by rw [hC]; exact E.pos) hc0
      have key : ∀ q, q ≤ len → ∃ L : List α, L.length = q ∧ (∀ m ∈ L, Was m) ∧ ∀ j (hj : j < L.length) i u, (E.cells L[j])[i]? = some u → w.cell? ⟨b, off + j * E.k + i, none⟩ = some u := by
        intro q
        induction q with
        | zero => intro _; exact ⟨[], rfl, fun m hm => (by cases hm), fun j hj => absurd hj (Nat.not_lt_zero j)⟩
        | succ q ih =>
          intro hk
          obtain ⟨L, hl, hok, hL⟩ := ih (by omega)
          obtain ⟨cs', hc, ht⟩ := hi q (by omega)
          rw [hC] at hc
          obtain ⟨m, rfl, hm⟩ := hel _ ht
          obtain ⟨_, hat⟩ := cells_at hc
          refine ⟨L ++ [m], by simp [hl], fun x hx => ?_, fun j hj i u hu => ?_⟩
          · rcases List.mem_append.1 hx with hx | hx
            · exact hok x hx
            · simp at hx; subst hx; exact hm
          · by_cases hjk : j < L.length
            · rw [List.getElem_append_left hjk] at hu; exact hL j hjk i u hu
            · have : j = q := by simp at hj; omega
              subst this
              rw [List.getElem_append_right (by omega)] at hu
              have hz : j - L.length = 0 := by omega
              simp only [hz, List.getElem_cons_zero] at hu
              have hik : i < E.k := by rw [← E.len m]; exact (List.getElem?_eq_some_iff.1 hu).1
              have e1 := hat i hik
              rw [Go.WideShapes.add_plain, Go.WideShapes.add_plain] at e1
              exact e1.trans hu
      obtain ⟨L, rfl, hok, hL⟩ := key len (Nat.le_refl _)
      exact ⟨_, cap, L, rfl, ⟨rfl, fun _ => ⟨b, off, rfl, hL⟩⟩, hok, hlen, fun h => by cases h⟩
  · obtain rfl : len = 0 := by omega
    exact ⟨a, cap, [], rfl, Lies.nil _ _, fun m hm => (by cases hm), Nat.zero_le _, fun h => (hnil h).2⟩
end
end Row
end Go.Proofs.YtnpjkmomllkhpaaGreat
