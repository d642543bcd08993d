/- beats: how they lie, what came in; the reference's May of a path. -/
import Derived.Test.YtfdcmmafdgagoaaRow
import Derived.Test.YtfdcmmafdgagoaaPathFns
import Derived.Test.YtfdcmmafdgagoaaRefPathRead
namespace Go.Proofs.Ytfdcmmafdgagoaa
namespace RefPath
open Go.RowKit Go.Proofs.Ytfdcmmafdgagoaa.Path

theorem may_any (p : List UInt8) (w : World) (hp : p.length ≤ 1099511627776) :
    Calls Try.prog 19 #[.string ⟨p.toArray⟩] w fun e w' => e = .returned (.bool (decide (parse p ≠ []))) ∧ Below w.heap.size w w' := by
  have C := Lib.hid (fun w => read_any p w hp)
  go_enter Try.func19, Try.ntmps19
  go_wp2_with fail
  refine (C.out _).mono ?_
  rintro e w1 ⟨a, n, c, b, rfl, hbv, hr, hb⟩
  have HB := Lib.hid hbv
  clear hr hbv
  go_wp2
  go_ret
  exact ⟨by rw [← HB.out]; rfl, hb⟩
end RefPath
namespace Beat
open Go.RowKit

/-- A beat: whose, its number, is it bad. -/
structure B where
  p : List UInt8
  n : Nat
  bad : Bool
  deriving DecidableEq
def B.cells (x : B) : List Value := [.string ⟨x.p.toArray⟩, .int .u64 (x.n : Int), .bool x.bad]
def enc : Row.Enc B := ⟨3, by decide, B.cells, fun _ => rfl, fun x v hv => by
  simp only [B.cells, List.mem_cons, List.not_mem_nil, or_false] at hv
  rcases hv with rfl | rfl | rfl <;> rfl⟩
abbrev Lies := Row.Lies enc
abbrev flat := Row.flat enc
theorem lies_at {w : World} {n : Nat} {L : List B} {a : Option Addr} (h : Lies w a n L) (hn : 0 < n) : ∃ b off, a = some ⟨b, off, none⟩ ∧ ∀ j (hj : j < L.length), w.cell? ⟨b, off + j * 3, none⟩ = some (.string ⟨(L[j]).p.toArray⟩) ∧
    w.cell? ⟨b, off + j * 3 + 1, none⟩ = some (.int .u64 ((L[j]).n : Int)) ∧ w.cell? ⟨b, off + j * 3 + 2, none⟩ = some (.bool (L[j]).bad) := by
  obtain ⟨b, off, e, hc⟩ := h.2 hn
  exact ⟨b, off, e, fun j hj => ⟨hc j hj 0 _ rfl, hc j hj 1 _ rfl, hc j hj 2 _ rfl⟩⟩
theorem keepC {w w' : World} {b o : Nat} {v : Value} (h : w.cell? ⟨b, o, none⟩ = some v) (k : Below w.heap.size w w') : w'.cell? ⟨b, o, none⟩ = some v :=
  (k.cell (p := ⟨b, o, none⟩) (World.block_lt_of_cell? _ _ h)).trans h

theorem c_str : Try.prog.cellsOf 9 = 1 := by kernel_rfl
theorem c_u64 : Try.prog.cellsOf 26 = 1 := by kernel_rfl
theorem c_bool : Try.prog.cellsOf 4 = 1 := by kernel_rfl
theorem c_beat : Try.prog.cellsOf 28 = 3 := by kernel_rfl
/-- What a beat that came in is. -/
def B.Was (x : B) : Prop := x.n ≤ 18446744073709551615 ∧ x.p.length ≤ 140737488351232
section
variable {H : Type} {enc' : TypeId × Value → H} {w : World} {base : Nat} {spare : Nat → Bool} {held : Bool} {cs : List Value}
theorem beat_in (h : Tr enc' Try.prog w base spare held 28 cs) : ∃ x : B, cs = enc.cells x ∧ x.Was := by
  have hl := (Tr.struct Try.underlying28 h).1.trans c_beat
  have h0 := Tr.field Try.underlying28 h 0 _ rfl rfl rfl c_str
  have h1 := Tr.field Try.underlying28 h 1 _ rfl rfl rfl c_u64
  have h2 := Tr.field Try.underlying28 h 2 _ rfl rfl rfl c_bool
  match cs, hl with
  | [x, y, z], _ =>
    obtain ⟨l, e0, hl⟩ := Tr.str Try.underlying9 h0
    obtain ⟨n, e1, hn⟩ := Tr.int Try.underlying26 h1
    obtain ⟨b, e2⟩ := Tr.bool Try.underlying4 h2
    obtain rfl : x = _ := List.head_eq_of_cons_eq e0
    obtain rfl : y = _ := List.head_eq_of_cons_eq e1
    obtain rfl : z = _ := List.head_eq_of_cons_eq e2
    obtain ⟨n0, n1⟩ := bounds_u64 hn
    obtain ⟨n, rfl⟩ := Int.eq_ofNat_of_zero_le n0
    exact ⟨⟨l, n, b⟩, rfl, by show n ≤ _; omega, hl⟩
end
set_option maxRecDepth 100000 in
theorem open_beats {H : Type} {enc' : TypeId × Value → H} {w : World} {base b0 : Nat} {spare : Nat → Bool} {held : Bool} {r : Reach} {v : Value} {d : DataW H} {ps : List MemPlace} {ts : List TypeId} {ds : List (DataW H)} {j : Nat}
    (hz : (DataW.weightsEach Try.prog ts ds).all (· ≤ reachBytes) = true) (ht : ts[j]? = some 22) (hd : ds[j]? = some d) (_ : Value.okWide Try.prog w r b0 22 v)
    (h : DataW.Trod enc' Try.prog w base spare held 22 v d ps) : ∃ (L : List B) (a : Option Addr) (c : Nat), v.cells.toList = [.slice a L.length c] ∧ Lies w a L.length L ∧ (∀ x ∈ L, x.Was) ∧ L.length ≤ 140737488351232 := by
  obtain ⟨a, c, L, e, h1, h2, h3, _⟩ := Row.rows_in (E := enc) Try.underlying22 c_beat (by kernel_rfl) (fun cs h => beat_in h) (Tr.of hz ht hd h)
  exact ⟨L, a, c, e, h1, h2, h3⟩
end Beat
end Go.Proofs.Ytfdcmmafdgagoaa
