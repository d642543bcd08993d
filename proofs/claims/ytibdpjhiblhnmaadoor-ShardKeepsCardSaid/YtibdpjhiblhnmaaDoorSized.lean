
/- How long a slice, or a string, that came in may be: the reach of every claim. -/
import Derived.Test.YtibdpjhiblhnmaaDoorFrame
import Derived.Deep.Slices
import Derived.SizedLaws
namespace Go.Proofs.YtibdpjhiblhnmaaDoor
open Go.RowKit

section
variable {H : Type} {enc : TypeId × Value → H} {P : Program} {w : World} {base : Nat} {spare : Nat → Bool} {held : Bool} {ts : List TypeId} {ds : List (DataW H)}

theorem slice_reach (hz : (DataW.weightsEach P ts ds).all (· ≤ reachBytes) = true) {j : Nat} {t e : TypeId} {d : DataW H} {ps : List MemPlace} {a : Option Addr} {len cap : Nat} (ht : ts[j]? = some t) (hd : ds[j]? = some d) (hu : P.underlying t = some (.slice e))
    (hb : Nat.ble 1 (P.bytesOf e) = true) (h : DataW.Trod enc P w base spare held t (.slice a len cap) d ps) : len ≤ 140737488351232 := by
  obtain ⟨fuel, hf⟩ := h
  rcases Go.Deep.open_slice hu hf with ⟨h0, _⟩ | ⟨y, l, c, m, n, D, Pl, hcs, _, hl, hm, hmm, hx, _⟩
  · simp only [Value.cells, List.cons.injEq, Value.slice.injEq, and_true] at h0
    omega
  · simp only [Value.cells, List.cons.injEq, Value.slice.injEq, and_true] at hcs
    obtain ⟨_, rfl, rfl⟩ := hcs
    simp only [Prod.mk.injEq] at hx
    have hs := sized_slice hz ht (hd.trans (by rw [hx.1])) hu
    simp only [List.length_map, List.length_range] at hs
    have h1 : len * 1 ≤ (len + (m - len)) * P.bytesOf e := Nat.mul_le_mul (by omega) (Nat.le_of_ble_eq_true hb)
    have h2 : reachBytes = 140737488351232 := rfl
    omega
theorem string_reach (hz : (DataW.weightsEach P ts ds).all (· ≤ reachBytes) = true) {j : Nat} {t : TypeId} {d : DataW H} {ps : List MemPlace} {a : ByteArray} (ht : ts[j]? = some t) (hd : ds[j]? = some d) (hu : P.underlying t = some .string)
    (h : DataW.Trod enc P w base spare held t (.string a) d ps) : a.size ≤ 140737488351232 := by
  obtain ⟨fuel, hf⟩ := h
  obtain ⟨s, hs, hx, _⟩ := DataW.trod_string hu hf
  simp only [Value.cells, List.cons.injEq, Value.string.injEq, and_true] at hs
  subst hs
  simp only [Prod.mk.injEq] at hx
  have := sized_string hz ht (hd.trans (by rw [hx.1]))
  have h2 : reachBytes = 140737488351232 := rfl
  have h3 : a.data.toList.length = a.size := by simp
  omega
theorem weights_all {e : TypeId} : ∀ {l : List (DataW H)} {i : Nat} {d : DataW H}, l[i]? = some d → ∀ n ∈ d.weights P e, n ∈ DataW.weightsAll P e l
  | [], _, _, h, _, _ => by simp at h
  | x :: l, 0, d, h, n, hn => by
    simp only [List.getElem?_cons_zero, Option.some.injEq] at h
    subst h
    simp only [DataW.weightsAll, List.mem_append]
    exact .inl hn
  | x :: l, i + 1, d, h, n, hn => by
    simp only [List.getElem?_cons_succ] at h
    simp only [DataW.weightsAll, List.mem_append]
    exact .inr (weights_all h n hn)

/-- Each string in a slice's cells is within the reach. -/
def StrsIn (w : World) (a : Option Addr) (len : Nat) : Prop := ∀ x, a = some x → ∀ j, j < len → ∀ s, w.cell? (x.add j) = some (.string s) → s.size ≤ 140737488351232
theorem strs_reach (hz : (DataW.weightsEach P ts ds).all (· ≤ reachBytes) = true) {j : Nat} {t e : TypeId} {d : DataW H} {ps : List MemPlace} {a : Option Addr} {len cap : Nat} (ht : ts[j]? = some t) (hd : ds[j]? = some d) (hu : P.underlying t = some (.slice e))
    (he : P.underlying e = some .string) (hc : P.cellsOf e = 1) (h : DataW.Trod enc P w base spare held t (.slice a len cap) d ps) : StrsIn w a len := by
  intro x hx i hi s hs
  subst hx
  obtain ⟨fuel, hf⟩ := h
  rcases Go.Deep.open_slice1 hu hc hf with ⟨h0, _⟩ | ⟨y, l, c, m, n, V, D, Pl, hcs, _, hl, hm, hmm, hx, hV⟩
  · simp [Value.cells] at h0
  · simp only [Value.cells, List.cons.injEq, Value.slice.injEq, and_true, Option.some.injEq] at hcs
    obtain ⟨rfl, rfl, rfl⟩ := hcs
    simp only [Prod.mk.injEq] at hx
    have him : i < m := by rw [hmm]; split <;> omega
    obtain ⟨hv, htr⟩ := hV i him
    rw [hs] at hv
    simp only [Option.some.injEq] at hv
    rw [← hv] at htr
    obtain ⟨s', hs', hx', _⟩ := DataW.trod_string he htr
    simp only [List.cons.injEq, Value.string.injEq, and_true] at hs'
    subst hs'
    simp only [Prod.mk.injEq] at hx'
    have h1 : ((List.range len).map D)[i]? = some (.lit (.string s.data.toList)) := by
      rw [List.getElem?_map, List.getElem?_range hi]; simp [hx'.1]
    have h2 : s.data.toList.length ∈ (DataW.slice ((List.range len).map D) ((List.range (m - len)).map fun j => D (len + j))).weights P t := by
      simp only [DataW.weights, hu, List.mem_cons, List.mem_append]
      exact .inr (.inl (weights_all h1 _ (by simp [DataW.weights])))
    have h3 := List.all_eq_true.1 hz _ (DataW.weights_mem_each ht (hd.trans (by rw [hx.1])) _ h2)
    have h4 : reachBytes = 140737488351232 := rfl
    have h5 : s.data.toList.length = s.size := by simp
    simp only [decide_eq_true_eq] at h3
    omega
end
end Go.Proofs.YtibdpjhiblhnmaaDoor
