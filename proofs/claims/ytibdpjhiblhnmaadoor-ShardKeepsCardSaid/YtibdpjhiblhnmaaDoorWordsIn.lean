/- Rows of texts that came in. -/
import Derived.Test.YtibdpjhiblhnmaaDoorWords
namespace Go.Proofs.YtibdpjhiblhnmaaDoor
namespace WordsIn
open Go.RowKit
theorem k_str : Tryd.prog.cellsOf 9 = 1 := by kernel_rfl
section
variable {H : Type} {enc' : TypeId × Value → H} {w : World} {base : Nat} {spare : Nat → Bool} {held : Bool} {cs : List Value}
theorem word_in (cs : List Value) (h : Tr enc' Tryd.prog w base spare held 9 cs) : ∃ x : List UInt8, cs = Words.enc.cells x ∧ x.length ≤ 140737488351232 := Tr.str Tryd.underlying9 h
theorem words_in (h : Tr enc' Tryd.prog w base spare held 25 cs) : ∃ (a : Option Addr) (c : Nat) (L : List (List UInt8)), cs = [.slice a L.length c] ∧ Words.Lies w a L.length L ∧ (∀ x ∈ L, x.length ≤ 140737488351232) ∧ L.length ≤ 140737488351232 := by
  obtain ⟨a, c, L, e, h1, h2, h3, _⟩ := Row.rows_in (E := Words.enc) Tryd.underlying25 k_str (by kernel_rfl) word_in h
  exact ⟨a, c, L, e, h1, h2, h3⟩
end
section
variable {H : Type} {enc' : TypeId × Value → H} {w : World} {base b0 : Nat} {spare : Nat → Bool} {held : Bool} {r : Reach} {v : Value} {d : DataW H} {ps : List MemPlace} {ts : List TypeId} {ds : List (DataW H)} {j : Nat}
set_option maxRecDepth 100000 in
theorem slice_is {t e : TypeId} (ht : Tryd.prog.underlying t = some (.slice e)) (hv : Value.okWide Tryd.prog w r b0 t v) {a : Option Addr} {n c : Nat} (h : v.cells.toList = [.slice a n c]) : v = .slice a n c := by
  obtain ⟨a0, n0, c0, rfl⟩ := Go.WideShapes.okWide_slice ht hv
  simpa [Value.cells] using h
set_option maxRecDepth 100000 in
theorem open_words (hz : (DataW.weightsEach Tryd.prog ts ds).all (· ≤ reachBytes) = true) (ht : ts[j]? = some 25) (hd : ds[j]? = some d) (hv : Value.okWide Tryd.prog w r b0 25 v) (h : DataW.Trod enc' Tryd.prog w base spare held 25 v d ps) :
    ∃ (L : List (List UInt8)) (a : Option Addr) (c : Nat), v = .slice a L.length c ∧ L.length ≤ 140737488351232 ∧ Words.Lies w a L.length L ∧ ∀ x ∈ L, x.length ≤ 140737488351232 := by
  obtain ⟨a, c, L, e, h1, h2, h3⟩ := words_in (Tr.of hz ht hd h)
  exact ⟨L, a, c, slice_is Tryd.underlying25 hv e, h3, h1, h2⟩
end
end WordsIn
end Go.Proofs.YtibdpjhiblhnmaaDoor
