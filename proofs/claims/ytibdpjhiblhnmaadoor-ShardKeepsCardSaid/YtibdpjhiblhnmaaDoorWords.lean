
/- rows of texts. -/
import Derived.Test.YtibdpjhiblhnmaaDoorRowOwn
import Derived.Test.YtibdpjhiblhnmaaDoorProg
namespace Go.Proofs.YtibdpjhiblhnmaaDoor
namespace Row
open Go.RowKit
theorem lies_new' {α : Type} {E : Enc α} (w : World) (x : α) (T : TypeId) {g : Nat} (hg : g = w.heap.size) : Lies E (w.alloc (.cells (E.cells x).toArray T)) (some ⟨g, 0, none⟩) 1 [x] := by subst hg; exact lies_new w x T
theorem Own.lies' {α : Type} {E : Enc α} {te : TypeId} {w : World} {B : Nat} {v : Value} {L : List α} (h : Own E te w B v L) : ∃ a c, v = .slice a L.length c ∧ L.length ≤ c ∧ c ≤ maxLen ∧ Lies E w a L.length L ∧ (∀ q, a = some q → B ≤ q.block) ∧ (a = none → c = 0) := by
  obtain ⟨a, c, rfl, h1, h2, h3, h4⟩ := h.lies
  refine ⟨a, c, rfl, h1, h2, h3, h4, fun e => ?_⟩
  subst e
  rcases h.2 with ⟨e, _⟩ | ⟨g, cap, cur, e, _⟩
  · simp only [Value.slice.injEq] at e; exact e.2.2
  · simp at e
end Row
namespace Words
open Go.RowKit
def enc : Row.Enc (List UInt8) := ⟨1, by decide, fun x => [.string ⟨x.toArray⟩], fun _ => rfl, fun x v hv => by
  simp only [List.mem_cons, List.not_mem_nil, or_false] at hv
  rw [hv]; rfl⟩
theorem info_str : (Tryd.prog.info? 9).map (fun i => (i.zero, i.size, i.bytes)) = some (some (.string ⟨#[]⟩), 1, 16) := by kernel_rfl
theorem typ : Row.Typ Tryd.prog enc 25 9 (.string ⟨#[]⟩) 16 := ⟨Tryd.underlying25, Row.info_of info_str, rfl, by decide⟩
abbrev Mine := Row.Own enc 9
abbrev Lies := Row.Lies enc
theorem words_at {w : World} {n : Nat} {L : List (List UInt8)} {a : Option Addr} (h : Lies w a n L) (hn : 0 < n) : ∃ b off, a = some ⟨b, off, none⟩ ∧ ∀ j (hj : j < L.length), w.cell? ⟨b, off + j, none⟩ = some (.string ⟨(L[j]).toArray⟩) := by
  obtain ⟨b, off, e, hc⟩ := h.2 hn
  exact ⟨b, off, e, fun j hj => by have := hc j hj 0 _ rfl; simpa [enc] using this⟩
theorem Lies.of_cells {w : World} {b off : Nat} {L : List (List UInt8)} (h : ∀ j (hj : j < L.length), w.cell? ⟨b, off + j, none⟩ = some (.string ⟨(L[j]).toArray⟩)) : Lies w (some ⟨b, off, none⟩) L.length L := by
  refine ⟨rfl, fun _ => ⟨b, off, rfl, fun j hj i u hu => ?_⟩⟩
  have hi : i = 0 := by
    have := (List.getElem?_eq_some_iff.1 hu).1
    simp [enc] at this; exact this
  subst hi
  simp only [enc, List.getElem?_cons_zero, Option.some.injEq] at hu
  rw [← hu]
  simpa [enc] using h j hj
end Words
end Go.Proofs.YtibdpjhiblhnmaaDoor
