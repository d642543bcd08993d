
/- What came in, read to the bottom, within the reach. -/
import Derived.Test.YtibdpjhiblhnmaaDoorSized
import Derived.ChangeArms
import Derived.Deep.Slices
namespace Go.Proofs.YtibdpjhiblhnmaaDoor
open Go.RowKit

section
variable {H : Type} {enc : TypeId × Value → H} {P : Program} {w : World} {base : Nat} {spare : Nat → Bool} {held : Bool} {t e : TypeId} {cs : List Value}

/-- Cells that read as data of a type, all its sizes within the reach. -/
def Tr (enc : TypeId × Value → H) (P : Program) (w : World) (base : Nat) (spare : Nat → Bool) (held : Bool) (t : TypeId) (cs : List Value) : Prop :=
  ∃ fuel d ps, DataW.trod enc P w base spare held fuel t cs = some (d, ps) ∧ ∀ n ∈ d.weights P t, n ≤ 140737488351232
theorem reach_is : reachBytes = 140737488351232 := rfl
theorem Tr.of {ts : List TypeId} {ds : List (DataW H)} (hz : (DataW.weightsEach P ts ds).all (· ≤ reachBytes) = true) {j : Nat} {d : DataW H} {ps : List MemPlace} {v : Value} (ht : ts[j]? = some t) (hd : ds[j]? = some d)
    (h : DataW.Trod enc P w base spare held t v d ps) : Tr enc P w base spare held t v.cells.toList := by
  obtain ⟨fuel, hf⟩ := h
  refine ⟨fuel, d, ps, hf, fun n hn => ?_⟩
  have := List.all_eq_true.1 hz _ (DataW.weights_mem_each ht hd n hn)
  rw [← reach_is]; simpa using this
theorem Tr.int {k : IntKind} (ht : P.underlying t = some (.int k)) (h : Tr enc P w base spare held t cs) : ∃ n, cs = [.int k n] ∧ (Lit.int k n).wf = true := by
  obtain ⟨fuel, d, ps, hf, _⟩ := h
  obtain ⟨n, hn, _, hw⟩ := DataW.trod_int ht hf
  exact ⟨n, hn, hw⟩
theorem Tr.bool (ht : P.underlying t = some .bool) (h : Tr enc P w base spare held t cs) : ∃ b, cs = [.bool b] := by
  obtain ⟨fuel, d, ps, hf, _⟩ := h
  obtain ⟨b, hb, _⟩ := DataW.trod_bool ht hf
  exact ⟨b, hb⟩
theorem Tr.str (ht : P.underlying t = some .string) (h : Tr enc P w base spare held t cs) : ∃ l : List UInt8, cs = [.string ⟨l.toArray⟩] ∧ l.length ≤ 140737488351232 := by
  obtain ⟨fuel, d, ps, hf, hz⟩ := h
  obtain ⟨s, hs, hx, _⟩ := DataW.trod_string ht hf
  simp only [Prod.mk.injEq] at hx
  refine ⟨s.data.toList, by rw [hs], ?_⟩
  apply hz
  rw [hx.1]; simp [DataW.weights]
theorem Tr.struct {fs : Array Field} (ht : P.underlying t = some (.struct fs)) (h : Tr enc P w base spare held t cs) :
    cs.length = P.cellsOf t ∧ ∀ (i : Nat) (f : Field), fs[i]? = some f → Tr enc P w base spare held f.type ((cs.drop f.offset).take (P.cellsOf f.type)) := by
  obtain ⟨fuel, d, ps, hf, hz⟩ := h
  obtain ⟨xs, n, _, hx, hl, hlen, hi⟩ := DataW.trod_struct ht hf
  simp only [Prod.mk.injEq] at hx
  refine ⟨hl, fun i f hfi => ?_⟩
  have hlt : i < fs.size := (Array.getElem?_eq_some_iff.1 hfi).1
  have h1 := hi i f hfi
  rw [List.getElem?_eq_getElem (by omega)] at h1
  refine ⟨n, xs[i].1, xs[i].2, h1, fun m hm => hz m ?_⟩
  rw [hx.1]
  simp only [DataW.weights, ht]
  refine DataW.weights_mem_each (j := i) (t := f.type) (d := xs[i].1) ?_ ?_ m hm
  · rw [List.getElem?_map, Array.getElem?_toList, hfi]; rfl
  · rw [List.getElem?_map, List.getElem?_eq_getElem (by omega)]; rfl
theorem Tr.field {fs : Array Field} (ht : P.underlying t = some (.struct fs)) (h : Tr enc P w base spare held t cs) (i : Nat) (f : Field) (hf : fs[i]? = some f) {u : TypeId} {o c : Nat} (hu : f.type = u) (ho : f.offset = o) (hc : P.cellsOf u = c) : Tr enc P w base spare held u ((cs.drop o).take c) := by
  subst hu; subst ho; subst hc
  exact (Tr.struct ht h).2 i f hf
theorem Tr.slice (ht : P.underlying t = some (.slice e)) (h : Tr enc P w base spare held t cs) :
    ∃ a len cap, cs = [.slice a len cap] ∧ len * P.bytesOf e ≤ 140737488351232 ∧ len ≤ cap ∧ cap ≤ maxLen ∧ (a = none → len = 0 ∧ cap = 0) ∧
      ∀ y, a = some y → ∀ i, i < len → ∃ cs', w.cells? base (y.add (i * P.cellsOf e)) (P.cellsOf e) = some cs' ∧ Tr enc P w base spare held e cs' := by
  obtain ⟨fuel, d, ps, hf, hz⟩ := h
  rcases Go.Deep.open_slice ht hf with ⟨h0, _⟩ | ⟨y, len, cap, m, n, D, Pl, hcs, _, hl, hm, hmm, hx, hi⟩
  · exact ⟨none, 0, 0, h0, by omega, Nat.le_refl _, Nat.zero_le _, fun _ => ⟨rfl, rfl⟩, fun y hy => by cases hy⟩
  · simp only [Prod.mk.injEq] at hx
    have hlm : len ≤ m := by rw [hmm]; split <;> omega
    have hmem : ∀ k, k ∈ ((((List.range len).map D).length + ((List.range (m - len)).map fun j => D (len + j)).length) * P.bytesOf e :: (DataW.weightsAll P e ((List.range len).map D) ++ DataW.weightsAll P e ((List.range (m - len)).map fun j => D (len + j)))) → k ≤ 140737488351232 := by
      intro k hk
      apply hz k
      rw [hx.1]
      simp only [DataW.weights, ht]
      exact hk
    refine ⟨some y, len, cap, hcs, ?_, hl, hm, (fun h => (by cases h)), fun y' hy i hil => ?_⟩
    · have h1 := hmem _ List.mem_cons_self
      simp only [List.length_map, List.length_range] at h1
      exact Nat.le_trans (Nat.mul_le_mul_right _ (by omega)) h1
    · cases hy
      obtain ⟨cs', hc, hd⟩ := hi i (by omega)
      refine ⟨cs', hc, n, D i, Pl i, hd, fun k hk => hmem k ?_⟩
      refine List.mem_cons_of_mem _ (List.mem_append_left _ ?_)
      exact weights_all (i := i) (d := D i) (by rw [List.getElem?_map, List.getElem?_range hil]; rfl) k hk
/-- A struct by value, opened. -/
theorem open_struct {b0 : Nat} {r : Reach} {v : Value} {d : DataW H} {ps : List MemPlace} {ts : List TypeId} {ds : List (DataW H)} {j : Nat} {fs : Array Field}
    (hz : (DataW.weightsEach P ts ds).all (· ≤ reachBytes) = true) (ht : ts[j]? = some t) (hd : ds[j]? = some d) (hs : P.underlying t = some (.struct fs)) (hv : Value.okWide P w r b0 t v)
    (h : DataW.Trod enc P w base spare held t v d ps) : ∃ cs, v = .agg cs ∧ Tr enc P w base spare held t cs.toList := by
  obtain ⟨cs, rfl, _⟩ := Go.WideShapes.okWide_struct hs hv
  exact ⟨cs, rfl, Tr.of hz ht hd h⟩
/-- Cells that lie in a row, one by one. -/
theorem cells_at {a : Addr} {c : Nat} {cs : List Value} (h : w.cells? base a c = some cs) : cs.length = c ∧ ∀ j, j < c → w.cell? (a.add j) = cs[j]? := ⟨(World.cells?_some h).2.1, (World.cells?_some h).2.2⟩
/-- An address that holds cells has no spot. -/
theorem spot_none {y : Addr} {c k : Nat} {cs : List Value} (hk : 0 < k) (h : w.cells? base (y.add (0 * c)) k = some cs) : ∃ b off, y = ⟨b, off, none⟩ ∧ b < w.heap.size := by
  obtain ⟨hl, hc⟩ := cells_at h
  have h0 := hc 0 hk
  rw [List.getElem?_eq_getElem (by omega)] at h0
  obtain ⟨b, off, sp⟩ := y
  have hsp : sp = none := by
    have := World.cell?_spot h0
    simpa [Addr.add] using this
  subst hsp
  refine ⟨b, off, rfl, ?_⟩
  rw [Go.WideShapes.add_plain, Go.WideShapes.add_plain] at h0
  exact World.block_lt_of_cell? _ _ h0
end
end Go.Proofs.YtibdpjhiblhnmaaDoor
