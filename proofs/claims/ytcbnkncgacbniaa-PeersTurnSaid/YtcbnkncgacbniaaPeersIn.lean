/- what comes into Peers' laws: texts, marks, steps. -/
import Derived.Test.YtcbnkncgacbniaaPeersWorks
namespace Go.Proofs.Ytcbnkncgacbniaa
namespace PeersLaw
open Go.RowKit Go.Proofs.Ytcbnkncgacbniaa.Mark Go.Proofs.Ytcbnkncgacbniaa.Peers
theorem k_int : Try.prog.cellsOf 3 = 1 := by kernel_rfl
theorem k_str : Try.prog.cellsOf 9 = 1 := by kernel_rfl
theorem k_u64 : Try.prog.cellsOf 26 = 1 := by kernel_rfl
theorem k_strs : Try.prog.cellsOf 22 = 1 := by kernel_rfl
theorem k_marks : Try.prog.cellsOf 25 = 1 := by kernel_rfl
theorem k_prn : Try.prog.cellsOf 28 = 4 := by kernel_rfl
theorem k_step : Try.prog.cellsOf 30 = 8 := by kernel_rfl
section
variable {H : Type} {enc' : TypeId × Value → H} {w : World} {base : Nat} {spare : Nat → Bool} {held : Bool} {cs : List Value}
theorem word_in (cs : List Value) (h : Tr enc' Try.prog w base spare held 9 cs) : ∃ x : List UInt8, cs = Words.enc.cells x ∧ x.length ≤ 140737488351232 := Tr.str Try.underlying9 h
theorem words_in (h : Tr enc' Try.prog w base spare held 22 cs) : ∃ (a : Option Addr) (c : Nat) (L : List (List UInt8)), cs = [.slice a L.length c] ∧ Words.Lies w a L.length L ∧ (∀ x ∈ L, x.length ≤ 140737488351232) ∧ L.length ≤ 140737488351232 := by
  obtain ⟨a, c, L, e, h1, h2, h3, _⟩ := Row.rows_in (E := Words.enc) Try.underlying22 k_str (by kernel_rfl) word_in h
  exact ⟨a, c, L, e, h1, h2, h3⟩
set_option maxRecDepth 100000 in
theorem step_in (cs : List Value) (h : Tr enc' Try.prog w base spare held 30 cs) : ∃ x : St, cs = Peers.encS.cells x ∧ (x.Sized ∧ x.Deep w) := by
  have hl := (Tr.struct Try.underlying30 h).1.trans k_step
  have h0 := Tr.field Try.underlying30 h 0 _ rfl rfl rfl k_int
  have h1 := Tr.field Try.underlying30 h 1 _ rfl rfl rfl k_strs
  have h2 := Tr.field Try.underlying30 h 2 _ rfl rfl rfl k_str
  have h3 := Tr.field Try.underlying30 h 3 _ rfl rfl rfl k_marks
  have h4 := Tr.field Try.underlying30 h 4 _ rfl rfl rfl k_prn
  have p0 := Tr.field Try.underlying28 h4 0 _ rfl rfl rfl k_str
  have p1 := Tr.field Try.underlying28 h4 1 _ rfl rfl rfl k_u64
  have p2 := Tr.field Try.underlying28 h4 2 _ rfl rfl rfl k_str
  have p3 := Tr.field Try.underlying28 h4 3 _ rfl rfl rfl k_u64
  match cs, hl with
  | [x0, x1, x2, x3, x4, x5, x6, x7], _ =>
    obtain ⟨d, e0, _⟩ := Tr.int Try.underlying3 h0
    obtain ⟨ls, lc, L, e1, hL, zL, _⟩ := words_in h1
    obtain ⟨pe, e2, z2⟩ := Tr.str Try.underlying9 h2
    obtain ⟨ms, mc, A, e3, hA, zA, _⟩ := marks_in h3
    obtain ⟨bp, e4, z4⟩ := Tr.str Try.underlying9 p0
    obtain ⟨cap, e5, z5⟩ := Tr.int Try.underlying26 p1
    obtain ⟨ow, e6, z6⟩ := Tr.str Try.underlying9 p2
    obtain ⟨bs, e7, z7⟩ := Tr.int Try.underlying26 p3
    obtain rfl : x0 = _ := List.head_eq_of_cons_eq e0
    obtain rfl : x1 = _ := List.head_eq_of_cons_eq e1
    obtain rfl : x2 = _ := List.head_eq_of_cons_eq e2
    obtain rfl : x3 = _ := List.head_eq_of_cons_eq e3
    obtain rfl : x4 = _ := List.head_eq_of_cons_eq e4
    obtain rfl : x5 = _ := List.head_eq_of_cons_eq e5
    obtain rfl : x6 = _ := List.head_eq_of_cons_eq e6
    obtain rfl : x7 = _ := List.head_eq_of_cons_eq e7
    obtain ⟨c0, c1⟩ := bounds_u64 z5
    obtain ⟨b0, b1⟩ := bounds_u64 z7
    obtain ⟨cap, rfl⟩ := Int.eq_ofNat_of_zero_le c0
    obtain ⟨bs, rfl⟩ := Int.eq_ofNat_of_zero_le b0
    exact ⟨⟨d, ls, lc, L, pe, ms, mc, A, bp, cap, ow, bs⟩, rfl, ⟨z2, z4, z6, zL, fun m hm => ⟨(zA m hm).2, (zA m hm).1⟩, by show cap ≤ _; omega, by show bs ≤ _; omega⟩, hL, hA⟩
end
section
variable {H : Type} {enc' : TypeId × Value → H} {w : World} {base b0 : Nat} {spare : Nat → Bool} {held : Bool} {r : Reach} {v : Value} {d : DataW H} {ps : List MemPlace} {ts : List TypeId} {ds : List (DataW H)} {j : Nat}
set_option maxRecDepth 100000 in
theorem slice_is {t e : TypeId} (ht : Try.prog.underlying t = some (.slice e)) (hv : Value.okWide Try.prog w r b0 t v) {a : Option Addr} {n c : Nat} (h : v.cells.toList = [.slice a n c]) : v = .slice a n c := by
  obtain ⟨a0, n0, c0, rfl⟩ := Go.WideShapes.okWide_slice ht hv
  simpa [Value.cells] using h
set_option maxRecDepth 100000 in
theorem open_words (hz : (DataW.weightsEach Try.prog ts ds).all (· ≤ reachBytes) = true) (ht : ts[j]? = some 22) (hd : ds[j]? = some d) (hv : Value.okWide Try.prog w r b0 22 v) (h : DataW.Trod enc' Try.prog w base spare held 22 v d ps) :
    ∃ (L : List (List UInt8)) (a : Option Addr) (c : Nat), v = .slice a L.length c ∧ L.length ≤ 140737488351232 ∧ Words.Lies w a L.length L ∧ ∀ x ∈ L, x.length ≤ 140737488351232 := by
  obtain ⟨a, c, L, e, h1, h2, h3⟩ := words_in (Tr.of hz ht hd h)
  exact ⟨L, a, c, slice_is Try.underlying22 hv e, h3, h1, h2⟩
set_option maxRecDepth 100000 in
theorem open_marks (hz : (DataW.weightsEach Try.prog ts ds).all (· ≤ reachBytes) = true) (ht : ts[j]? = some 25) (hd : ds[j]? = some d) (hv : Value.okWide Try.prog w r b0 25 v) (h : DataW.Trod enc' Try.prog w base spare held 25 v d ps) :
    ∃ (L : List M) (a : Option Addr) (c : Nat), v = .slice a L.length c ∧ L.length ≤ 140737488351232 ∧ Mark.Lies w a L.length L ∧ ∀ x ∈ L, x.Was := by
  obtain ⟨a, c, L, e, h1, h2, h3⟩ := marks_in (Tr.of hz ht hd h)
  exact ⟨L, a, c, slice_is Try.underlying25 hv e, h3, h1, h2⟩
set_option maxRecDepth 100000 in
theorem open_steps (hz : (DataW.weightsEach Try.prog ts ds).all (· ≤ reachBytes) = true) (ht : ts[j]? = some 23) (hd : ds[j]? = some d) (hv : Value.okWide Try.prog w r b0 23 v) (h : DataW.Trod enc' Try.prog w base spare held 23 v d ps) :
    ∃ (L : List St) (a : Option Addr) (c : Nat), v = .slice a L.length c ∧ L.length ≤ 140737488351232 ∧ Peers.Steps w a L.length L ∧ ∀ x ∈ L, x.Sized ∧ x.Deep w := by
  obtain ⟨a, c, L, e, h1, h2, h3, _⟩ := Row.rows_in (E := Peers.encS) Try.underlying23 k_step (by kernel_rfl) step_in (Tr.of hz ht hd h)
  exact ⟨L, a, c, slice_is Try.underlying23 hv e, h3, h1, h2⟩
end
end PeersLaw
end Go.Proofs.Ytcbnkncgacbniaa
