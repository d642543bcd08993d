/- a message in plain words; msg.mayPart, msg.fits. -/
import Derived.Test.YtcfimfoccbaepaaDoorMarkMay
import Derived.Test.YtcfimfoccbaepaaDoorFramePut
import Derived.Laws.StructEq
namespace Go.Proofs.YtcfimfoccbaepaaDoor
namespace Msg
open Go.RowKit Go.Proofs.YtcfimfoccbaepaaDoor.Mark Go.Proofs.YtcfimfoccbaepaaDoor.Dots

instance : DecidableEq M := fun a b => if h : a.p = b.p ∧ a.n = b.n then .isTrue (M.ext' h.1 h.2) else .isFalse (fun e => h (by rw [e]; exact ⟨rfl, rfl⟩))
/-- A message: its numbers, texts, marks, and its part. -/
structure G where
  kind : Nat
  src : List UInt8
  dst : List UInt8
  fr : List UInt8
  seq : Nat
  all : List M
  id : Nat
  i : Int
  n : Int
  tx : List UInt8
  deriving DecidableEq
/-- Its cells, where its marks lie. -/
def G.cells (m : G) (a : Option Addr) (c : Nat) : Array Value := #[.int .u8 (m.kind : Int), .string ⟨m.src.toArray⟩, .string ⟨m.dst.toArray⟩, .string ⟨m.fr.toArray⟩, .int .u64 (m.seq : Int), .slice a m.all.length c, .int .u64 (m.id : Int), .int .i64 m.i, .int .i64 m.n, .string ⟨m.tx.toArray⟩]
/-- Its numbers and texts are such as the machine can have. -/
structure G.Ok (m : G) : Prop where
  kind : m.kind < 256
  src : m.src.length ≤ 1099511627776
  dst : m.dst.length ≤ 1099511627776
  fr : m.fr.length ≤ 1099511627776
  seq : m.seq ≤ 18446744073709551615
  all : Mark.Ok m.all
  len : m.all.length ≤ 1099511627776
  id : m.id ≤ 18446744073709551615
  i : -9223372036854775808 ≤ m.i ∧ m.i ≤ 9223372036854775807
  n : -9223372036854775808 ≤ m.n ∧ m.n ≤ 9223372036854775807
  tx : m.tx.length ≤ 1099511627776
def pathB (p : List UInt8) : Bool := decide (0 < (Path.parse p).length)
def mayPartB (i n : Int) (tx : List UInt8) : Bool := decide (1 ≤ n) && (decide (n ≤ 256) && (decide (0 ≤ i) && (decide (i < n) && decide (tx.length ≤ 4096))))
def noPart (id : Nat) (i n : Int) (tx : List UInt8) : Bool := decide (id = 0 ∧ i = 0 ∧ n = 0 ∧ tx = [])
def shapeB (m : G) : Bool :=
  if m.kind = 1 then m.fr == [] && (decide (m.seq = 0) && mayPartB m.i m.n m.tx)
  else if m.kind = 2 then m.fr == [] && (decide (m.all.length = 0) && noPart m.id m.i m.n m.tx)
  else if m.kind = 3 then pathB m.fr && (decide (m.all.length = 0) && noPart m.id m.i m.n m.tx)
  else if m.kind = 4 then (m.fr == [] || pathB m.fr) && noPart m.id m.i m.n m.tx
  else false
def fitsB (m : G) : Bool := pathB m.src && (pathB m.dst && (decide (m.seq ≤ 281474976710656) && (mayL m.all && shapeB m)))

theorem pmay_is {p : List UInt8} (r : Bool) (h : pathB p = r) (hp : p.length ≤ 1099511627776) (w : World) :
    Calls Tryd.prog 51 #[.string ⟨p.toArray⟩] w fun e w' => e = .returned (.bool r) ∧ Below w.heap.size w w' := by rw [← h]; exact Path.may_any p w hp
theorem may_is {L : List M} {a : Option Addr} {n c : Nat} {w : World} (v : Bool) (h : mayL L = v) (hL : Lies w a n L) (hn : n ≤ 1099511627776) (hok : Mark.Ok L) :
    Calls Tryd.prog 52 #[.slice a n c] w fun e w' => e = .returned (.bool v) ∧ Below w.heap.size w w' := by rw [← h]; exact Dots.may_any L a n c w hL hn hok
theorem eql_part (id : Nat) (i n : Int) (tx : List UInt8) (w : World) :
    (binOp .eql 25 (.agg #[.int .u64 (id : Int), .int .i64 i, .int .i64 n, .string ⟨tx.toArray⟩]) (.agg #[.int .u64 0, .int .i64 0, .int .i64 0, .string ⟨#[]⟩])).run Tryd.prog w = .ok (.bool (noPart id i n tx)) w := by
  rw [run_eql_struct]
  have hS : Tryd.prog.underlying 25 = some (.struct (Tryd.prog.fieldsOf 25)) := by rw [Program.fieldsOf]; kernel_rfl
  rw [show (10000 : Nat) = 9999 + 1 from rfl, run_equalIn_agg w 9999 25 _ _ hS (by kernel_rfl)]
  simp only [Program.fieldsOf, Tryd.underlying25]
  have u1 := Tryd.underlying9
  have u2 := Tryd.underlying22
  have u3 := Tryd.underlying3
  go_simp
  unfold noPart
  by_cases h1 : id = 0 <;> by_cases h2 : i = 0 <;> by_cases h3 : n = 0 <;> by_cases h4 : tx = [] <;> simp [h1, h2, h3, h4]
theorem box_cells (w : World) (C : Array Value) (T : TypeId) (j : Nat) (v : Value) (h : C[j]? = some v) : (w.alloc (.cells C T)).cell? ⟨w.heap.size, j, none⟩ = some v := by
  rw [World.cell?_alloc_new]; exact h
theorem keepC {w w' : World} {b o : Nat} {v : Value} (h : w.cell? ⟨b, o, none⟩ = some v) (k : Below w.heap.size w w') : w'.cell? ⟨b, o, none⟩ = some v := Dots.keepC h k

set_option maxRecDepth 100000 in
theorem mayPart_any (id : Nat) (i n : Int) (tx : List UInt8) (w : World) (ht : tx.length ≤ 1099511627776) :
    Calls Tryd.prog 53 #[.agg #[.int .u64 (id : Int), .int .i64 i, .int .i64 n, .string ⟨tx.toArray⟩]] w fun e w' => e = .returned (.bool (mayPartB i n tx)) ∧ Below w.heap.size w w' := by
  have hb := Below.refl w.heap.size w
  have hsz := Str.size_mk tx
  by_cases h0 : 1 ≤ n
  rotate_left
  · have d0 : decide (1 ≤ n) = false := decide_eq_false h0
    have d0b : decide (n ≥ 1) = false := decide_eq_false h0
    have HV : Hid (mayPartB i n tx = false) := Lib.hid (by unfold mayPartB; rw [d0]; simp)
    go_enter Tryd.func53, Tryd.ntmps53
    go_wp2
    go_ret
    exact ⟨by rw [HV.out]; rfl, balloc hb _⟩
  have d0 : decide (1 ≤ n) = true := decide_eq_true h0
  have d0b : decide (n ≥ 1) = true := decide_eq_true h0
  by_cases h1 : n ≤ 256
  rotate_left
  · have d1 : decide (n ≤ 256) = false := decide_eq_false h1
    have HV : Hid (mayPartB i n tx = false) := Lib.hid (by unfold mayPartB; rw [d1]; simp)
    go_enter Tryd.func53, Tryd.ntmps53
    go_wp2
    go_ret
    exact ⟨by rw [HV.out]; rfl, balloc hb _⟩
  have d1 : decide (n ≤ 256) = true := decide_eq_true h1
  by_cases h2 : 0 ≤ i
  rotate_left
  · have d2 : decide (0 ≤ i) = false := decide_eq_false h2
    have d2b : decide (i ≥ 0) = false := decide_eq_false h2
    have HV : Hid (mayPartB i n tx = false) := Lib.hid (by unfold mayPartB; rw [d2]; simp)
    go_enter Tryd.func53, Tryd.ntmps53
    go_wp2
    go_ret
    exact ⟨by rw [HV.out]; rfl, balloc hb _⟩
  have d2 : decide (0 ≤ i) = true := decide_eq_true h2
  have d2b : decide (i ≥ 0) = true := decide_eq_true h2
  by_cases h3 : i < n
  rotate_left
  · have d3 : decide (i < n) = false := decide_eq_false h3
    have HV : Hid (mayPartB i n tx = false) := Lib.hid (by unfold mayPartB; rw [d3]; simp)
    go_enter Tryd.func53, Tryd.ntmps53
    go_wp2
    go_ret
    exact ⟨by rw [HV.out]; rfl, balloc hb _⟩
  have d3 : decide (i < n) = true := decide_eq_true h3
  by_cases h4 : (tx.length : Int) ≤ 4096
  rotate_left
  · have d4 : decide ((tx.length : Int) ≤ 4096) = false := decide_eq_false h4
    have HV : Hid (mayPartB i n tx = false) := Lib.hid (by unfold mayPartB; rw [decide_eq_false (show ¬ tx.length ≤ 4096 by omega)]; simp)
    go_enter Tryd.func53, Tryd.ntmps53
    go_wp2
    go_ret
    exact ⟨by rw [HV.out]; rfl, balloc hb _⟩
  have d4 : decide ((tx.length : Int) ≤ 4096) = true := decide_eq_true h4
  have HV : Hid (mayPartB i n tx = true) := Lib.hid (by unfold mayPartB; rw [d0, d1, d2, d3, decide_eq_true (show tx.length ≤ 4096 by omega)]; rfl)
  go_enter Tryd.func53, Tryd.ntmps53
  go_wp2
  go_ret
  exact ⟨by rw [HV.out]; rfl, balloc hb _⟩
theorem mayPart_is {id : Nat} {i n : Int} {tx : List UInt8} (v : Bool) (h : mayPartB i n tx = v) (w : World) (ht : tx.length ≤ 1099511627776) :
    Calls Tryd.prog 53 #[.agg #[.int .u64 (id : Int), .int .i64 i, .int .i64 n, .string ⟨tx.toArray⟩]] w fun e w' => e = .returned (.bool v) ∧ Below w.heap.size w w' := by rw [← h]; exact mayPart_any id i n tx w ht
set_option maxRecDepth 100000 in
set_option maxHeartbeats 8000000 in
theorem fits_any (k : Nat) (src dst fr : List UInt8) (seq : Nat) (all : List M) (id : Nat) (i n : Int) (tx : List UInt8) (a : Option Addr) (c : Nat) (w : World) (hok : (G.mk k src dst fr seq all id i n tx).Ok) (hL : Lies w a all.length all) :
    Calls Tryd.prog 36 #[.agg #[.int .u8 (k : Int), .string ⟨src.toArray⟩, .string ⟨dst.toArray⟩, .string ⟨fr.toArray⟩, .int .u64 (seq : Int), .slice a all.length c, .int .u64 (id : Int), .int .i64 i, .int .i64 n, .string ⟨tx.toArray⟩]] w fun e w' => e = .returned (.bool (fitsB ⟨k, src, dst, fr, seq, all, id, i, n, tx⟩)) ∧ Below w.heap.size w w' := by
  obtain ⟨ok0, ok1, ok2, ok3, ok4, ok5, ok6, ok7, ok8, ok9, ok10⟩ := hok
  simp only at ok0 ok1 ok2 ok3 ok4 ok5 ok6 ok7 ok8 ok9 ok10
  have hb := Below.refl w.heap.size w
  have lA := Lib.hid hL
  have oA := Lib.hid ok5
  clear hL ok5 ok7 ok8 ok9
  have XB := fun j v h => box_cells w #[.int .u8 (k : Int), .string ⟨src.toArray⟩, .string ⟨dst.toArray⟩, .string ⟨fr.toArray⟩, .int .u64 (seq : Int), .slice a all.length c, .int .u64 (id : Int), .int .i64 i, .int .i64 n, .string ⟨tx.toArray⟩] 27 j v h
  have X0 := Lib.hid (XB 0 (.int .u8 (k : Int)) rfl)
  have X1 := Lib.hid (XB 1 (.string ⟨src.toArray⟩) rfl)
  have X2 := Lib.hid (XB 2 (.string ⟨dst.toArray⟩) rfl)
  have X3 := Lib.hid (XB 3 (.string ⟨fr.toArray⟩) rfl)
  have X4 := Lib.hid (XB 4 (.int .u64 (seq : Int)) rfl)
  have X5 := Lib.hid (XB 5 (.slice a all.length c) rfl)
  have X6 := Lib.hid (XB 6 (.int .u64 (id : Int)) rfl)
  have X7 := Lib.hid (XB 7 (.int .i64 i) rfl)
  have X8 := Lib.hid (XB 8 (.int .i64 n) rfl)
  have X9 := Lib.hid (XB 9 (.string ⟨tx.toArray⟩) rfl)
  clear XB
  have hsz := Str.size_mk fr
  have q1 := eql_part id i n tx
  cases h0 : pathB src
  · skip
    have HV : Hid (fitsB ⟨k, src, dst, fr, seq, all, id, i, n, tx⟩ = false) := Lib.hid (by unfold fitsB shapeB; simp [*])
    go_enter Tryd.func36, Tryd.ntmps36
    go_wp2_with fail
    replace lA := Lib.hid ((lA.out).below (balloc (Below.refl _ _) (.cells #[.int .u8 (k : Int), .string ⟨src.toArray⟩, .string ⟨dst.toArray⟩, .string ⟨fr.toArray⟩, .int .u64 (seq : Int), .slice a all.length c, .int .u64 (id : Int), .int .i64 i, .int .i64 n, .string ⟨tx.toArray⟩] 27)))
    replace hb := bstep hb (balloc (Below.refl _ _) (.cells #[.int .u8 (k : Int), .string ⟨src.toArray⟩, .string ⟨dst.toArray⟩, .string ⟨fr.toArray⟩, .int .u64 (seq : Int), .slice a all.length c, .int .u64 (id : Int), .int .i64 i, .int .i64 n, .string ⟨tx.toArray⟩] 27))
    have x0 := X0.out
    have x1 := X1.out
    have x2 := X2.out
    have x3 := X3.out
    have x4 := X4.out
    have x5 := X5.out
    have x6 := X6.out
    have x7 := X7.out
    have x8 := X8.out
    have x9 := X9.out
    clear X0 X1 X2 X3 X4 X5 X6 X7 X8 X9
    go_wp2_with fail
    refine (pmay_is _ h0 (by omega) _).mono ?_
    rintro e v1 ⟨rfl, k1⟩
    replace lA := Lib.hid ((lA.out).below k1)
    replace x0 := (Msg.keepC x0 k1)
    replace x1 := (Msg.keepC x1 k1)
    replace x2 := (Msg.keepC x2 k1)
    replace x3 := (Msg.keepC x3 k1)
    replace x4 := (Msg.keepC x4 k1)
    replace x5 := (Msg.keepC x5 k1)
    replace x6 := (Msg.keepC x6 k1)
    replace x7 := (Msg.keepC x7 k1)
    replace x8 := (Msg.keepC x8 k1)
    replace x9 := (Msg.keepC x9 k1)
    replace hb := bstep hb k1
    clear k1
    go_wp2
    go_ret
    exact ⟨by rw [HV.out]; rfl, hb⟩
  cases h1 : pathB dst
  · skip
    have HV : Hid (fitsB ⟨k, src, dst, fr, seq, all, id, i, n, tx⟩ = false) := Lib.hid (by unfold fitsB shapeB; simp [*])
    go_enter Tryd.func36, Tryd.ntmps36
    go_wp2_with fail
    replace lA := Lib.hid ((lA.out).below (balloc (Below.refl _ _) (.cells #[.int .u8 (k : Int), .string ⟨src.toArray⟩, .string ⟨dst.toArray⟩, .string ⟨fr.toArray⟩, .int .u64 (seq : Int), .slice a all.length c, .int .u64 (id : Int), .int .i64 i, .int .i64 n, .string ⟨tx.toArray⟩] 27)))
    replace hb := bstep hb (balloc (Below.refl _ _) (.cells #[.int .u8 (k : Int), .string ⟨src.toArray⟩, .string ⟨dst.toArray⟩, .string ⟨fr.toArray⟩, .int .u64 (seq : Int), .slice a all.length c, .int .u64 (id : Int), .int .i64 i, .int .i64 n, .string ⟨tx.toArray⟩] 27))
    have x0 := X0.out
    have x1 := X1.out
    have x2 := X2.out
    have x3 := X3.out
    have x4 := X4.out
    have x5 := X5.out
    have x6 := X6.out
    have x7 := X7.out
    have x8 := X8.out
    have x9 := X9.out
    clear X0 X1 X2 X3 X4 X5 X6 X7 X8 X9
    go_wp2_with fail
    refine (pmay_is _ h0 (by omega) _).mono ?_
    rintro e v2 ⟨rfl, k2⟩
    replace lA := Lib.hid ((lA.out).below k2)
    replace x0 := (Msg.keepC x0 k2)
    replace x1 := (Msg.keepC x1 k2)
    replace x2 := (Msg.keepC x2 k2)
    replace x3 := (Msg.keepC x3 k2)
    replace x4 := (Msg.keepC x4 k2)
    replace x5 := (Msg.keepC x5 k2)
    replace x6 := (Msg.keepC x6 k2)
    replace x7 := (Msg.keepC x7 k2)
    replace x8 := (Msg.keepC x8 k2)
    replace x9 := (Msg.keepC x9 k2)
    replace hb := bstep hb k2
    clear k2
    go_wp2_with fail
    refine (pmay_is _ h1 (by omega) _).mono ?_
    rintro e v3 ⟨rfl, k3⟩
    replace lA := Lib.hid ((lA.out).below k3)
    replace x0 := (Msg.keepC x0 k3)
    replace x1 := (Msg.keepC x1 k3)
    replace x2 := (Msg.keepC x2 k3)
    replace x3 := (Msg.keepC x3 k3)
    replace x4 := (Msg.keepC x4 k3)
    replace x5 := (Msg.keepC x5 k3)
    replace x6 := (Msg.keepC x6 k3)
    replace x7 := (Msg.keepC x7 k3)
    replace x8 := (Msg.keepC x8 k3)
    replace x9 := (Msg.keepC x9 k3)
    replace hb := bstep hb k3
    clear k3
    go_wp2
    go_ret
    exact ⟨by rw [HV.out]; rfl, hb⟩
  by_cases h2 : 281474976710656 < seq
  · have d2 : decide ((seq : Int) > 281474976710656) = true := decide_eq_true (by omega)
    have d2b : decide ((281474976710656 : Int) < (seq : Int)) = true := decide_eq_true (by omega)
    have e2 : ¬ seq ≤ 281474976710656 := by omega
    have HV : Hid (fitsB ⟨k, src, dst, fr, seq, all, id, i, n, tx⟩ = false) := Lib.hid (by unfold fitsB shapeB; simp [*])
    go_enter Tryd.func36, Tryd.ntmps36
    go_wp2_with fail
    replace lA := Lib.hid ((lA.out).below (balloc (Below.refl _ _) (.cells #[.int .u8 (k : Int), .string ⟨src.toArray⟩, .string ⟨dst.toArray⟩, .string ⟨fr.toArray⟩, .int .u64 (seq : Int), .slice a all.length c, .int .u64 (id : Int), .int .i64 i, .int .i64 n, .string ⟨tx.toArray⟩] 27)))
    replace hb := bstep hb (balloc (Below.refl _ _) (.cells #[.int .u8 (k : Int), .string ⟨src.toArray⟩, .string ⟨dst.toArray⟩, .string ⟨fr.toArray⟩, .int .u64 (seq : Int), .slice a all.length c, .int .u64 (id : Int), .int .i64 i, .int .i64 n, .string ⟨tx.toArray⟩] 27))
    have x0 := X0.out
    have x1 := X1.out
    have x2 := X2.out
    have x3 := X3.out
    have x4 := X4.out
    have x5 := X5.out
    have x6 := X6.out
    have x7 := X7.out
    have x8 := X8.out
    have x9 := X9.out
    clear X0 X1 X2 X3 X4 X5 X6 X7 X8 X9
    go_wp2_with fail
    refine (pmay_is _ h0 (by omega) _).mono ?_
    rintro e v4 ⟨rfl, k4⟩
    replace lA := Lib.hid ((lA.out).below k4)
    replace x0 := (Msg.keepC x0 k4)
    replace x1 := (Msg.keepC x1 k4)
    replace x2 := (Msg.keepC x2 k4)
    replace x3 := (Msg.keepC x3 k4)
    replace x4 := (Msg.keepC x4 k4)
    replace x5 := (Msg.keepC x5 k4)
    replace x6 := (Msg.keepC x6 k4)
    replace x7 := (Msg.keepC x7 k4)
    replace x8 := (Msg.keepC x8 k4)
    replace x9 := (Msg.keepC x9 k4)
    replace hb := bstep hb k4
    clear k4
    go_wp2_with fail
    refine (pmay_is _ h1 (by omega) _).mono ?_
    rintro e v5 ⟨rfl, k5⟩
    replace lA := Lib.hid ((lA.out).below k5)
    replace x0 := (Msg.keepC x0 k5)
    replace x1 := (Msg.keepC x1 k5)
    replace x2 := (Msg.keepC x2 k5)
    replace x3 := (Msg.keepC x3 k5)
    replace x4 := (Msg.keepC x4 k5)
    replace x5 := (Msg.keepC x5 k5)
    replace x6 := (Msg.keepC x6 k5)
    replace x7 := (Msg.keepC x7 k5)
    replace x8 := (Msg.keepC x8 k5)
    replace x9 := (Msg.keepC x9 k5)
    replace hb := bstep hb k5
    clear k5
    go_wp2
    go_ret
    exact ⟨by rw [HV.out]; rfl, hb⟩
  have d2 : decide ((seq : Int) > 281474976710656) = false := decide_eq_false (by omega)
  have d2b : decide ((281474976710656 : Int) < (seq : Int)) = false := decide_eq_false (by omega)
  have e2 : seq ≤ 281474976710656 := by omega
  cases h3 : mayL all
  · skip
    have HV : Hid (fitsB ⟨k, src, dst, fr, seq, all, id, i, n, tx⟩ = false) := Lib.hid (by unfold fitsB shapeB; simp [*])
    go_enter Tryd.func36, Tryd.ntmps36
    go_wp2_with fail
    replace lA := Lib.hid ((lA.out).below (balloc (Below.refl _ _) (.cells #[.int .u8 (k : Int), .string ⟨src.toArray⟩, .string ⟨dst.toArray⟩, .string ⟨fr.toArray⟩, .int .u64 (seq : Int), .slice a all.length c, .int .u64 (id : Int), .int .i64 i, .int .i64 n, .string ⟨tx.toArray⟩] 27)))
    replace hb := bstep hb (balloc (Below.refl _ _) (.cells #[.int .u8 (k : Int), .string ⟨src.toArray⟩, .string ⟨dst.toArray⟩, .string ⟨fr.toArray⟩, .int .u64 (seq : Int), .slice a all.length c, .int .u64 (id : Int), .int .i64 i, .int .i64 n, .string ⟨tx.toArray⟩] 27))
    have x0 := X0.out
    have x1 := X1.out
    have x2 := X2.out
    have x3 := X3.out
    have x4 := X4.out
    have x5 := X5.out
    have x6 := X6.out
    have x7 := X7.out
    have x8 := X8.out
    have x9 := X9.out
    clear X0 X1 X2 X3 X4 X5 X6 X7 X8 X9
    go_wp2_with fail
    refine (pmay_is _ h0 (by omega) _).mono ?_
    rintro e v6 ⟨rfl, k6⟩
    replace lA := Lib.hid ((lA.out).below k6)
    replace x0 := (Msg.keepC x0 k6)
    replace x1 := (Msg.keepC x1 k6)
    replace x2 := (Msg.keepC x2 k6)
    replace x3 := (Msg.keepC x3 k6)
    replace x4 := (Msg.keepC x4 k6)
    replace x5 := (Msg.keepC x5 k6)
    replace x6 := (Msg.keepC x6 k6)
    replace x7 := (Msg.keepC x7 k6)
    replace x8 := (Msg.keepC x8 k6)
    replace x9 := (Msg.keepC x9 k6)
    replace hb := bstep hb k6
    clear k6
    go_wp2_with fail
    refine (pmay_is _ h1 (by omega) _).mono ?_
    rintro e v7 ⟨rfl, k7⟩
    replace lA := Lib.hid ((lA.out).below k7)
    replace x0 := (Msg.keepC x0 k7)
    replace x1 := (Msg.keepC x1 k7)
    replace x2 := (Msg.keepC x2 k7)
    replace x3 := (Msg.keepC x3 k7)
    replace x4 := (Msg.keepC x4 k7)
    replace x5 := (Msg.keepC x5 k7)
    replace x6 := (Msg.keepC x6 k7)
    replace x7 := (Msg.keepC x7 k7)
    replace x8 := (Msg.keepC x8 k7)
    replace x9 := (Msg.keepC x9 k7)
    replace hb := bstep hb k7
    clear k7
    go_wp2_with fail
    refine (may_is _ h3 lA.out (by omega) oA.out).mono ?_
    rintro e v8 ⟨rfl, k8⟩
    replace lA := Lib.hid ((lA.out).below k8)
    replace x0 := (Msg.keepC x0 k8)
    replace x1 := (Msg.keepC x1 k8)
    replace x2 := (Msg.keepC x2 k8)
    replace x3 := (Msg.keepC x3 k8)
    replace x4 := (Msg.keepC x4 k8)
    replace x5 := (Msg.keepC x5 k8)
    replace x6 := (Msg.keepC x6 k8)
    replace x7 := (Msg.keepC x7 k8)
    replace x8 := (Msg.keepC x8 k8)
    replace x9 := (Msg.keepC x9 k8)
    replace hb := bstep hb k8
    clear k8
    go_wp2
    go_ret
    exact ⟨by rw [HV.out]; rfl, hb⟩
  by_cases kk : k = 1
  · skip
    have z1 : ((k : Int) == 1) = true := by rw [beq_iff_eq]; omega
    cases g0 : (fr == [])
    · skip
      have HV : Hid (fitsB ⟨k, src, dst, fr, seq, all, id, i, n, tx⟩ = false) := Lib.hid (by unfold fitsB shapeB; simp [*])
      try replace kk := Lib.hid kk
      try replace kk2 := Lib.hid kk2
      try replace kk3 := Lib.hid kk3
      try replace kk4 := Lib.hid kk4
      go_enter Tryd.func36, Tryd.ntmps36
      go_wp2_with fail
      replace lA := Lib.hid ((lA.out).below (balloc (Below.refl _ _) (.cells #[.int .u8 (k : Int), .string ⟨src.toArray⟩, .string ⟨dst.toArray⟩, .string ⟨fr.toArray⟩, .int .u64 (seq : Int), .slice a all.length c, .int .u64 (id : Int), .int .i64 i, .int .i64 n, .string ⟨tx.toArray⟩] 27)))
      replace hb := bstep hb (balloc (Below.refl _ _) (.cells #[.int .u8 (k : Int), .string ⟨src.toArray⟩, .string ⟨dst.toArray⟩, .string ⟨fr.toArray⟩, .int .u64 (seq : Int), .slice a all.length c, .int .u64 (id : Int), .int .i64 i, .int .i64 n, .string ⟨tx.toArray⟩] 27))
      have x0 := X0.out
      have x1 := X1.out
      have x2 := X2.out
      have x3 := X3.out
      have x4 := X4.out
      have x5 := X5.out
      have x6 := X6.out
      have x7 := X7.out
      have x8 := X8.out
      have x9 := X9.out
      clear X0 X1 X2 X3 X4 X5 X6 X7 X8 X9
      go_wp2_with fail
      refine (pmay_is _ h0 (by omega) _).mono ?_
      rintro e v9 ⟨rfl, k9⟩
      replace lA := Lib.hid ((lA.out).below k9)
      replace x0 := (Msg.keepC x0 k9)
      replace x1 := (Msg.keepC x1 k9)
      replace x2 := (Msg.keepC x2 k9)
      replace x3 := (Msg.keepC x3 k9)
      replace x4 := (Msg.keepC x4 k9)
      replace x5 := (Msg.keepC x5 k9)
      replace x6 := (Msg.keepC x6 k9)
      replace x7 := (Msg.keepC x7 k9)
      replace x8 := (Msg.keepC x8 k9)
      replace x9 := (Msg.keepC x9 k9)
      replace hb := bstep hb k9
      clear k9
      go_wp2_with fail
      refine (pmay_is _ h1 (by omega) _).mono ?_
      rintro e v10 ⟨rfl, k10⟩
      replace lA := Lib.hid ((lA.out).below k10)
      replace x0 := (Msg.keepC x0 k10)
      replace x1 := (Msg.keepC x1 k10)
      replace x2 := (Msg.keepC x2 k10)
      replace x3 := (Msg.keepC x3 k10)
      replace x4 := (Msg.keepC x4 k10)
      replace x5 := (Msg.keepC x5 k10)
      replace x6 := (Msg.keepC x6 k10)
      replace x7 := (Msg.keepC x7 k10)
      replace x8 := (Msg.keepC x8 k10)
      replace x9 := (Msg.keepC x9 k10)
      replace hb := bstep hb k10
      clear k10
      go_wp2_with fail
      refine (may_is _ h3 lA.out (by omega) oA.out).mono ?_
      rintro e v11 ⟨rfl, k11⟩
      replace lA := Lib.hid ((lA.out).below k11)
      replace x0 := (Msg.keepC x0 k11)
      replace x1 := (Msg.keepC x1 k11)
      replace x2 := (Msg.keepC x2 k11)
      replace x3 := (Msg.keepC x3 k11)
      replace x4 := (Msg.keepC x4 k11)
      replace x5 := (Msg.keepC x5 k11)
      replace x6 := (Msg.keepC x6 k11)
      replace x7 := (Msg.keepC x7 k11)
      replace x8 := (Msg.keepC x8 k11)
      replace x9 := (Msg.keepC x9 k11)
      replace hb := bstep hb k11
      clear k11
      go_wp2
      go_ret
      exact ⟨by rw [HV.out]; rfl, hb⟩
    by_cases g1 : seq = 0
    · have y1 : ((seq : Int) == 0) = true := by rw [beq_iff_eq]; omega
      have HV : Hid (fitsB ⟨k, src, dst, fr, seq, all, id, i, n, tx⟩ = mayPartB i n tx) := Lib.hid (by unfold fitsB shapeB; simp [*])
      try replace kk := Lib.hid kk
      try replace kk2 := Lib.hid kk2
      try replace kk3 := Lib.hid kk3
      try replace kk4 := Lib.hid kk4
      replace g1 := Lib.hid g1
      go_enter Tryd.func36, Tryd.ntmps36
      go_wp2_with fail
      replace lA := Lib.hid ((lA.out).below (balloc (Below.refl _ _) (.cells #[.int .u8 (k : Int), .string ⟨src.toArray⟩, .string ⟨dst.toArray⟩, .string ⟨fr.toArray⟩, .int .u64 (seq : Int), .slice a all.length c, .int .u64 (id : Int), .int .i64 i, .int .i64 n, .string ⟨tx.toArray⟩] 27)))
      replace hb := bstep hb (balloc (Below.refl _ _) (.cells #[.int .u8 (k : Int), .string ⟨src.toArray⟩, .string ⟨dst.toArray⟩, .string ⟨fr.toArray⟩, .int .u64 (seq : Int), .slice a all.length c, .int .u64 (id : Int), .int .i64 i, .int .i64 n, .string ⟨tx.toArray⟩] 27))
      have x0 := X0.out
      have x1 := X1.out
      have x2 := X2.out
      have x3 := X3.out
      have x4 := X4.out
      have x5 := X5.out
      have x6 := X6.out
      have x7 := X7.out
      have x8 := X8.out
      have x9 := X9.out
      clear X0 X1 X2 X3 X4 X5 X6 X7 X8 X9
      go_wp2_with fail
      refine (pmay_is _ h0 (by omega) _).mono ?_
      rintro e v12 ⟨rfl, k12⟩
      replace lA := Lib.hid ((lA.out).below k12)
      replace x0 := (Msg.keepC x0 k12)
      replace x1 := (Msg.keepC x1 k12)
      replace x2 := (Msg.keepC x2 k12)
      replace x3 := (Msg.keepC x3 k12)
      replace x4 := (Msg.keepC x4 k12)
      replace x5 := (Msg.keepC x5 k12)
      replace x6 := (Msg.keepC x6 k12)
      replace x7 := (Msg.keepC x7 k12)
      replace x8 := (Msg.keepC x8 k12)
      replace x9 := (Msg.keepC x9 k12)
      replace hb := bstep hb k12
      clear k12
      go_wp2_with fail
      refine (pmay_is _ h1 (by omega) _).mono ?_
      rintro e v13 ⟨rfl, k13⟩
      replace lA := Lib.hid ((lA.out).below k13)
      replace x0 := (Msg.keepC x0 k13)
      replace x1 := (Msg.keepC x1 k13)
      replace x2 := (Msg.keepC x2 k13)
      replace x3 := (Msg.keepC x3 k13)
      replace x4 := (Msg.keepC x4 k13)
      replace x5 := (Msg.keepC x5 k13)
      replace x6 := (Msg.keepC x6 k13)
      replace x7 := (Msg.keepC x7 k13)
      replace x8 := (Msg.keepC x8 k13)
      replace x9 := (Msg.keepC x9 k13)
      replace hb := bstep hb k13
      clear k13
      go_wp2_with fail
      refine (may_is _ h3 lA.out (by omega) oA.out).mono ?_
      rintro e v14 ⟨rfl, k14⟩
      replace lA := Lib.hid ((lA.out).below k14)
      replace x0 := (Msg.keepC x0 k14)
      replace x1 := (Msg.keepC x1 k14)
      replace x2 := (Msg.keepC x2 k14)
      replace x3 := (Msg.keepC x3 k14)
      replace x4 := (Msg.keepC x4 k14)
      replace x5 := (Msg.keepC x5 k14)
      replace x6 := (Msg.keepC x6 k14)
      replace x7 := (Msg.keepC x7 k14)
      replace x8 := (Msg.keepC x8 k14)
      replace x9 := (Msg.keepC x9 k14)
      replace hb := bstep hb k14
      clear k14
      go_wp2_with fail
      refine (mayPart_any id i n tx _ (by omega)).mono ?_
      rintro e v15 ⟨rfl, k15⟩
      replace lA := Lib.hid ((lA.out).below k15)
      replace x0 := (Msg.keepC x0 k15)
      replace x1 := (Msg.keepC x1 k15)
      replace x2 := (Msg.keepC x2 k15)
      replace x3 := (Msg.keepC x3 k15)
      replace x4 := (Msg.keepC x4 k15)
      replace x5 := (Msg.keepC x5 k15)
      replace x6 := (Msg.keepC x6 k15)
      replace x7 := (Msg.keepC x7 k15)
      replace x8 := (Msg.keepC x8 k15)
      replace x9 := (Msg.keepC x9 k15)
      replace hb := bstep hb k15
      clear k15
      go_wp2
      go_ret
      exact ⟨by rw [HV.out]; rfl, hb⟩
    · have y1 : ((seq : Int) == 0) = false := by rw [beq_eq_false_iff_ne]; omega
      have HV : Hid (fitsB ⟨k, src, dst, fr, seq, all, id, i, n, tx⟩ = false) := Lib.hid (by unfold fitsB shapeB; simp [*])
      try replace kk := Lib.hid kk
      try replace kk2 := Lib.hid kk2
      try replace kk3 := Lib.hid kk3
      try replace kk4 := Lib.hid kk4
      go_enter Tryd.func36, Tryd.ntmps36
      go_wp2_with fail
      replace lA := Lib.hid ((lA.out).below (balloc (Below.refl _ _) (.cells #[.int .u8 (k : Int), .string ⟨src.toArray⟩, .string ⟨dst.toArray⟩, .string ⟨fr.toArray⟩, .int .u64 (seq : Int), .slice a all.length c, .int .u64 (id : Int), .int .i64 i, .int .i64 n, .string ⟨tx.toArray⟩] 27)))
      replace hb := bstep hb (balloc (Below.refl _ _) (.cells #[.int .u8 (k : Int), .string ⟨src.toArray⟩, .string ⟨dst.toArray⟩, .string ⟨fr.toArray⟩, .int .u64 (seq : Int), .slice a all.length c, .int .u64 (id : Int), .int .i64 i, .int .i64 n, .string ⟨tx.toArray⟩] 27))
      have x0 := X0.out
      have x1 := X1.out
      have x2 := X2.out
      have x3 := X3.out
      have x4 := X4.out
      have x5 := X5.out
      have x6 := X6.out
      have x7 := X7.out
      have x8 := X8.out
      have x9 := X9.out
      clear X0 X1 X2 X3 X4 X5 X6 X7 X8 X9
      go_wp2_with fail
      refine (pmay_is _ h0 (by omega) _).mono ?_
      rintro e v16 ⟨rfl, k16⟩
      replace lA := Lib.hid ((lA.out).below k16)
      replace x0 := (Msg.keepC x0 k16)
      replace x1 := (Msg.keepC x1 k16)
      replace x2 := (Msg.keepC x2 k16)
      replace x3 := (Msg.keepC x3 k16)
      replace x4 := (Msg.keepC x4 k16)
      replace x5 := (Msg.keepC x5 k16)
      replace x6 := (Msg.keepC x6 k16)
      replace x7 := (Msg.keepC x7 k16)
      replace x8 := (Msg.keepC x8 k16)
      replace x9 := (Msg.keepC x9 k16)
      replace hb := bstep hb k16
      clear k16
      go_wp2_with fail
      refine (pmay_is _ h1 (by omega) _).mono ?_
      rintro e v17 ⟨rfl, k17⟩
      replace lA := Lib.hid ((lA.out).below k17)
      replace x0 := (Msg.keepC x0 k17)
      replace x1 := (Msg.keepC x1 k17)
      replace x2 := (Msg.keepC x2 k17)
      replace x3 := (Msg.keepC x3 k17)
      replace x4 := (Msg.keepC x4 k17)
      replace x5 := (Msg.keepC x5 k17)
      replace x6 := (Msg.keepC x6 k17)
      replace x7 := (Msg.keepC x7 k17)
      replace x8 := (Msg.keepC x8 k17)
      replace x9 := (Msg.keepC x9 k17)
      replace hb := bstep hb k17
      clear k17
      go_wp2_with fail
      refine (may_is _ h3 lA.out (by omega) oA.out).mono ?_
      rintro e v18 ⟨rfl, k18⟩
      replace lA := Lib.hid ((lA.out).below k18)
      replace x0 := (Msg.keepC x0 k18)
      replace x1 := (Msg.keepC x1 k18)
      replace x2 := (Msg.keepC x2 k18)
      replace x3 := (Msg.keepC x3 k18)
      replace x4 := (Msg.keepC x4 k18)
      replace x5 := (Msg.keepC x5 k18)
      replace x6 := (Msg.keepC x6 k18)
      replace x7 := (Msg.keepC x7 k18)
      replace x8 := (Msg.keepC x8 k18)
      replace x9 := (Msg.keepC x9 k18)
      replace hb := bstep hb k18
      clear k18
      go_wp2
      go_ret
      exact ⟨by rw [HV.out]; rfl, hb⟩
  by_cases kk2 : k = 2
  · skip
    have z1 : ((k : Int) == 1) = false := by rw [beq_eq_false_iff_ne]; omega
    have z2 : ((k : Int) == 2) = true := by rw [beq_iff_eq]; omega
    cases g0 : (fr == [])
    · skip
      have HV : Hid (fitsB ⟨k, src, dst, fr, seq, all, id, i, n, tx⟩ = false) := Lib.hid (by unfold fitsB shapeB; simp [*])
      try replace kk := Lib.hid kk
      try replace kk2 := Lib.hid kk2
      try replace kk3 := Lib.hid kk3
      try replace kk4 := Lib.hid kk4
      go_enter Tryd.func36, Tryd.ntmps36
      go_wp2_with fail
      replace lA := Lib.hid ((lA.out).below (balloc (Below.refl _ _) (.cells #[.int .u8 (k : Int), .string ⟨src.toArray⟩, .string ⟨dst.toArray⟩, .string ⟨fr.toArray⟩, .int .u64 (seq : Int), .slice a all.length c, .int .u64 (id : Int), .int .i64 i, .int .i64 n, .string ⟨tx.toArray⟩] 27)))
      replace hb := bstep hb (balloc (Below.refl _ _) (.cells #[.int .u8 (k : Int), .string ⟨src.toArray⟩, .string ⟨dst.toArray⟩, .string ⟨fr.toArray⟩, .int .u64 (seq : Int), .slice a all.length c, .int .u64 (id : Int), .int .i64 i, .int .i64 n, .string ⟨tx.toArray⟩] 27))
      have x0 := X0.out
      have x1 := X1.out
      have x2 := X2.out
      have x3 := X3.out
      have x4 := X4.out
      have x5 := X5.out
      have x6 := X6.out
      have x7 := X7.out
      have x8 := X8.out
      have x9 := X9.out
      clear X0 X1 X2 X3 X4 X5 X6 X7 X8 X9
      go_wp2_with fail
      refine (pmay_is _ h0 (by omega) _).mono ?_
      rintro e v19 ⟨rfl, k19⟩
      replace lA := Lib.hid ((lA.out).below k19)
      replace x0 := (Msg.keepC x0 k19)
      replace x1 := (Msg.keepC x1 k19)
      replace x2 := (Msg.keepC x2 k19)
      replace x3 := (Msg.keepC x3 k19)
      replace x4 := (Msg.keepC x4 k19)
      replace x5 := (Msg.keepC x5 k19)
      replace x6 := (Msg.keepC x6 k19)
      replace x7 := (Msg.keepC x7 k19)
      replace x8 := (Msg.keepC x8 k19)
      replace x9 := (Msg.keepC x9 k19)
      replace hb := bstep hb k19
      clear k19
      go_wp2_with fail
      refine (pmay_is _ h1 (by omega) _).mono ?_
      rintro e v20 ⟨rfl, k20⟩
      replace lA := Lib.hid ((lA.out).below k20)
      replace x0 := (Msg.keepC x0 k20)
      replace x1 := (Msg.keepC x1 k20)
      replace x2 := (Msg.keepC x2 k20)
      replace x3 := (Msg.keepC x3 k20)
      replace x4 := (Msg.keepC x4 k20)
      replace x5 := (Msg.keepC x5 k20)
      replace x6 := (Msg.keepC x6 k20)
      replace x7 := (Msg.keepC x7 k20)
      replace x8 := (Msg.keepC x8 k20)
      replace x9 := (Msg.keepC x9 k20)
      replace hb := bstep hb k20
      clear k20
      go_wp2_with fail
      refine (may_is _ h3 lA.out (by omega) oA.out).mono ?_
      rintro e v21 ⟨rfl, k21⟩
      replace lA := Lib.hid ((lA.out).below k21)
      replace x0 := (Msg.keepC x0 k21)
      replace x1 := (Msg.keepC x1 k21)
      replace x2 := (Msg.keepC x2 k21)
      replace x3 := (Msg.keepC x3 k21)
      replace x4 := (Msg.keepC x4 k21)
      replace x5 := (Msg.keepC x5 k21)
      replace x6 := (Msg.keepC x6 k21)
      replace x7 := (Msg.keepC x7 k21)
      replace x8 := (Msg.keepC x8 k21)
      replace x9 := (Msg.keepC x9 k21)
      replace hb := bstep hb k21
      clear k21
      go_wp2
      go_ret
      exact ⟨by rw [HV.out]; rfl, hb⟩
    by_cases g2 : all.length = 0
    · have y2 : ((all.length : Int) == 0) = true := by rw [beq_iff_eq]; omega
      have HV : Hid (fitsB ⟨k, src, dst, fr, seq, all, id, i, n, tx⟩ = noPart id i n tx) := Lib.hid (by unfold fitsB shapeB; simp [*])
      try replace kk := Lib.hid kk
      try replace kk2 := Lib.hid kk2
      try replace kk3 := Lib.hid kk3
      try replace kk4 := Lib.hid kk4
      try replace g2 := Lib.hid g2
      go_enter Tryd.func36, Tryd.ntmps36
      go_wp2_with fail
      replace lA := Lib.hid ((lA.out).below (balloc (Below.refl _ _) (.cells #[.int .u8 (k : Int), .string ⟨src.toArray⟩, .string ⟨dst.toArray⟩, .string ⟨fr.toArray⟩, .int .u64 (seq : Int), .slice a all.length c, .int .u64 (id : Int), .int .i64 i, .int .i64 n, .string ⟨tx.toArray⟩] 27)))
      replace hb := bstep hb (balloc (Below.refl _ _) (.cells #[.int .u8 (k : Int), .string ⟨src.toArray⟩, .string ⟨dst.toArray⟩, .string ⟨fr.toArray⟩, .int .u64 (seq : Int), .slice a all.length c, .int .u64 (id : Int), .int .i64 i, .int .i64 n, .string ⟨tx.toArray⟩] 27))
      have x0 := X0.out
      have x1 := X1.out
      have x2 := X2.out
      have x3 := X3.out
      have x4 := X4.out
      have x5 := X5.out
      have x6 := X6.out
      have x7 := X7.out
      have x8 := X8.out
      have x9 := X9.out
      clear X0 X1 X2 X3 X4 X5 X6 X7 X8 X9
      go_wp2_with fail
      refine (pmay_is _ h0 (by omega) _).mono ?_
      rintro e v22 ⟨rfl, k22⟩
      replace lA := Lib.hid ((lA.out).below k22)
      replace x0 := (Msg.keepC x0 k22)
      replace x1 := (Msg.keepC x1 k22)
      replace x2 := (Msg.keepC x2 k22)
      replace x3 := (Msg.keepC x3 k22)
      replace x4 := (Msg.keepC x4 k22)
      replace x5 := (Msg.keepC x5 k22)
      replace x6 := (Msg.keepC x6 k22)
      replace x7 := (Msg.keepC x7 k22)
      replace x8 := (Msg.keepC x8 k22)
      replace x9 := (Msg.keepC x9 k22)
      replace hb := bstep hb k22
      clear k22
      go_wp2_with fail
      refine (pmay_is _ h1 (by omega) _).mono ?_
      rintro e v23 ⟨rfl, k23⟩
      replace lA := Lib.hid ((lA.out).below k23)
      replace x0 := (Msg.keepC x0 k23)
      replace x1 := (Msg.keepC x1 k23)
      replace x2 := (Msg.keepC x2 k23)
      replace x3 := (Msg.keepC x3 k23)
      replace x4 := (Msg.keepC x4 k23)
      replace x5 := (Msg.keepC x5 k23)
      replace x6 := (Msg.keepC x6 k23)
      replace x7 := (Msg.keepC x7 k23)
      replace x8 := (Msg.keepC x8 k23)
      replace x9 := (Msg.keepC x9 k23)
      replace hb := bstep hb k23
      clear k23
      go_wp2_with fail
      refine (may_is _ h3 lA.out (by omega) oA.out).mono ?_
      rintro e v24 ⟨rfl, k24⟩
      replace lA := Lib.hid ((lA.out).below k24)
      replace x0 := (Msg.keepC x0 k24)
      replace x1 := (Msg.keepC x1 k24)
      replace x2 := (Msg.keepC x2 k24)
      replace x3 := (Msg.keepC x3 k24)
      replace x4 := (Msg.keepC x4 k24)
      replace x5 := (Msg.keepC x5 k24)
      replace x6 := (Msg.keepC x6 k24)
      replace x7 := (Msg.keepC x7 k24)
      replace x8 := (Msg.keepC x8 k24)
      replace x9 := (Msg.keepC x9 k24)
      replace hb := bstep hb k24
      clear k24
      go_wp2
      go_ret
      exact ⟨by rw [HV.out]; rfl, hb⟩
    · have y2 : ((all.length : Int) == 0) = false := by rw [beq_eq_false_iff_ne]; omega
      have HV : Hid (fitsB ⟨k, src, dst, fr, seq, all, id, i, n, tx⟩ = false) := Lib.hid (by unfold fitsB shapeB; simp [*])
      try replace kk := Lib.hid kk
      try replace kk2 := Lib.hid kk2
      try replace kk3 := Lib.hid kk3
      try replace kk4 := Lib.hid kk4
      go_enter Tryd.func36, Tryd.ntmps36
      go_wp2_with fail
      replace lA := Lib.hid ((lA.out).below (balloc (Below.refl _ _) (.cells #[.int .u8 (k : Int), .string ⟨src.toArray⟩, .string ⟨dst.toArray⟩, .string ⟨fr.toArray⟩, .int .u64 (seq : Int), .slice a all.length c, .int .u64 (id : Int), .int .i64 i, .int .i64 n, .string ⟨tx.toArray⟩] 27)))
      replace hb := bstep hb (balloc (Below.refl _ _) (.cells #[.int .u8 (k : Int), .string ⟨src.toArray⟩, .string ⟨dst.toArray⟩, .string ⟨fr.toArray⟩, .int .u64 (seq : Int), .slice a all.length c, .int .u64 (id : Int), .int .i64 i, .int .i64 n, .string ⟨tx.toArray⟩] 27))
      have x0 := X0.out
      have x1 := X1.out
      have x2 := X2.out
      have x3 := X3.out
      have x4 := X4.out
      have x5 := X5.out
      have x6 := X6.out
      have x7 := X7.out
      have x8 := X8.out
      have x9 := X9.out
      clear X0 X1 X2 X3 X4 X5 X6 X7 X8 X9
      go_wp2_with fail
      refine (pmay_is _ h0 (by omega) _).mono ?_
      rintro e v25 ⟨rfl, k25⟩
      replace lA := Lib.hid ((lA.out).below k25)
      replace x0 := (Msg.keepC x0 k25)
      replace x1 := (Msg.keepC x1 k25)
      replace x2 := (Msg.keepC x2 k25)
      replace x3 := (Msg.keepC x3 k25)
      replace x4 := (Msg.keepC x4 k25)
      replace x5 := (Msg.keepC x5 k25)
      replace x6 := (Msg.keepC x6 k25)
      replace x7 := (Msg.keepC x7 k25)
      replace x8 := (Msg.keepC x8 k25)
      replace x9 := (Msg.keepC x9 k25)
      replace hb := bstep hb k25
      clear k25
      go_wp2_with fail
      refine (pmay_is _ h1 (by omega) _).mono ?_
      rintro e v26 ⟨rfl, k26⟩
      replace lA := Lib.hid ((lA.out).below k26)
      replace x0 := (Msg.keepC x0 k26)
      replace x1 := (Msg.keepC x1 k26)
      replace x2 := (Msg.keepC x2 k26)
      replace x3 := (Msg.keepC x3 k26)
      replace x4 := (Msg.keepC x4 k26)
      replace x5 := (Msg.keepC x5 k26)
      replace x6 := (Msg.keepC x6 k26)
      replace x7 := (Msg.keepC x7 k26)
      replace x8 := (Msg.keepC x8 k26)
      replace x9 := (Msg.keepC x9 k26)
      replace hb := bstep hb k26
      clear k26
      go_wp2_with fail
      refine (may_is _ h3 lA.out (by omega) oA.out).mono ?_
      rintro e v27 ⟨rfl, k27⟩
      replace lA := Lib.hid ((lA.out).below k27)
      replace x0 := (Msg.keepC x0 k27)
      replace x1 := (Msg.keepC x1 k27)
      replace x2 := (Msg.keepC x2 k27)
      replace x3 := (Msg.keepC x3 k27)
      replace x4 := (Msg.keepC x4 k27)
      replace x5 := (Msg.keepC x5 k27)
      replace x6 := (Msg.keepC x6 k27)
      replace x7 := (Msg.keepC x7 k27)
      replace x8 := (Msg.keepC x8 k27)
      replace x9 := (Msg.keepC x9 k27)
      replace hb := bstep hb k27
      clear k27
      go_wp2
      go_ret
      exact ⟨by rw [HV.out]; rfl, hb⟩
  by_cases kk3 : k = 3
  · skip
    have z1 : ((k : Int) == 1) = false := by rw [beq_eq_false_iff_ne]; omega
    have z2 : ((k : Int) == 2) = false := by rw [beq_eq_false_iff_ne]; omega
    have z3 : ((k : Int) == 3) = true := by rw [beq_iff_eq]; omega
    cases g1 : pathB fr
    · skip
      have HV : Hid (fitsB ⟨k, src, dst, fr, seq, all, id, i, n, tx⟩ = false) := Lib.hid (by unfold fitsB shapeB; simp [*])
      try replace kk := Lib.hid kk
      try replace kk2 := Lib.hid kk2
      try replace kk3 := Lib.hid kk3
      try replace kk4 := Lib.hid kk4
      go_enter Tryd.func36, Tryd.ntmps36
      go_wp2_with fail
      replace lA := Lib.hid ((lA.out).below (balloc (Below.refl _ _) (.cells #[.int .u8 (k : Int), .string ⟨src.toArray⟩, .string ⟨dst.toArray⟩, .string ⟨fr.toArray⟩, .int .u64 (seq : Int), .slice a all.length c, .int .u64 (id : Int), .int .i64 i, .int .i64 n, .string ⟨tx.toArray⟩] 27)))
      replace hb := bstep hb (balloc (Below.refl _ _) (.cells #[.int .u8 (k : Int), .string ⟨src.toArray⟩, .string ⟨dst.toArray⟩, .string ⟨fr.toArray⟩, .int .u64 (seq : Int), .slice a all.length c, .int .u64 (id : Int), .int .i64 i, .int .i64 n, .string ⟨tx.toArray⟩] 27))
      have x0 := X0.out
      have x1 := X1.out
      have x2 := X2.out
      have x3 := X3.out
      have x4 := X4.out
      have x5 := X5.out
      have x6 := X6.out
      have x7 := X7.out
      have x8 := X8.out
      have x9 := X9.out
      clear X0 X1 X2 X3 X4 X5 X6 X7 X8 X9
      go_wp2_with fail
      refine (pmay_is _ h0 (by omega) _).mono ?_
      rintro e v28 ⟨rfl, k28⟩
      replace lA := Lib.hid ((lA.out).below k28)
      replace x0 := (Msg.keepC x0 k28)
      replace x1 := (Msg.keepC x1 k28)
      replace x2 := (Msg.keepC x2 k28)
      replace x3 := (Msg.keepC x3 k28)
      replace x4 := (Msg.keepC x4 k28)
      replace x5 := (Msg.keepC x5 k28)
      replace x6 := (Msg.keepC x6 k28)
      replace x7 := (Msg.keepC x7 k28)
      replace x8 := (Msg.keepC x8 k28)
      replace x9 := (Msg.keepC x9 k28)
      replace hb := bstep hb k28
      clear k28
      go_wp2_with fail
      refine (pmay_is _ h1 (by omega) _).mono ?_
      rintro e v29 ⟨rfl, k29⟩
      replace lA := Lib.hid ((lA.out).below k29)
      replace x0 := (Msg.keepC x0 k29)
      replace x1 := (Msg.keepC x1 k29)
      replace x2 := (Msg.keepC x2 k29)
      replace x3 := (Msg.keepC x3 k29)
      replace x4 := (Msg.keepC x4 k29)
      replace x5 := (Msg.keepC x5 k29)
      replace x6 := (Msg.keepC x6 k29)
      replace x7 := (Msg.keepC x7 k29)
      replace x8 := (Msg.keepC x8 k29)
      replace x9 := (Msg.keepC x9 k29)
      replace hb := bstep hb k29
      clear k29
      go_wp2_with fail
      refine (may_is _ h3 lA.out (by omega) oA.out).mono ?_
      rintro e v30 ⟨rfl, k30⟩
      replace lA := Lib.hid ((lA.out).below k30)
      replace x0 := (Msg.keepC x0 k30)
      replace x1 := (Msg.keepC x1 k30)
      replace x2 := (Msg.keepC x2 k30)
      replace x3 := (Msg.keepC x3 k30)
      replace x4 := (Msg.keepC x4 k30)
      replace x5 := (Msg.keepC x5 k30)
      replace x6 := (Msg.keepC x6 k30)
      replace x7 := (Msg.keepC x7 k30)
      replace x8 := (Msg.keepC x8 k30)
      replace x9 := (Msg.keepC x9 k30)
      replace hb := bstep hb k30
      clear k30
      go_wp2_with fail
      refine (pmay_is _ g1 (by omega) _).mono ?_
      rintro e v31 ⟨rfl, k31⟩
      replace lA := Lib.hid ((lA.out).below k31)
      replace x0 := (Msg.keepC x0 k31)
      replace x1 := (Msg.keepC x1 k31)
      replace x2 := (Msg.keepC x2 k31)
      replace x3 := (Msg.keepC x3 k31)
      replace x4 := (Msg.keepC x4 k31)
      replace x5 := (Msg.keepC x5 k31)
      replace x6 := (Msg.keepC x6 k31)
      replace x7 := (Msg.keepC x7 k31)
      replace x8 := (Msg.keepC x8 k31)
      replace x9 := (Msg.keepC x9 k31)
      replace hb := bstep hb k31
      clear k31
      go_wp2
      go_ret
      exact ⟨by rw [HV.out]; rfl, hb⟩
    by_cases g2 : all.length = 0
    · have y2 : ((all.length : Int) == 0) = true := by rw [beq_iff_eq]; omega
      have HV : Hid (fitsB ⟨k, src, dst, fr, seq, all, id, i, n, tx⟩ = noPart id i n tx) := Lib.hid (by unfold fitsB shapeB; simp [*])
      try replace kk := Lib.hid kk
      try replace kk2 := Lib.hid kk2
      try replace kk3 := Lib.hid kk3
      try replace kk4 := Lib.hid kk4
      try replace g2 := Lib.hid g2
      go_enter Tryd.func36, Tryd.ntmps36
      go_wp2_with fail
      replace lA := Lib.hid ((lA.out).below (balloc (Below.refl _ _) (.cells #[.int .u8 (k : Int), .string ⟨src.toArray⟩, .string ⟨dst.toArray⟩, .string ⟨fr.toArray⟩, .int .u64 (seq : Int), .slice a all.length c, .int .u64 (id : Int), .int .i64 i, .int .i64 n, .string ⟨tx.toArray⟩] 27)))
      replace hb := bstep hb (balloc (Below.refl _ _) (.cells #[.int .u8 (k : Int), .string ⟨src.toArray⟩, .string ⟨dst.toArray⟩, .string ⟨fr.toArray⟩, .int .u64 (seq : Int), .slice a all.length c, .int .u64 (id : Int), .int .i64 i, .int .i64 n, .string ⟨tx.toArray⟩] 27))
      have x0 := X0.out
      have x1 := X1.out
      have x2 := X2.out
      have x3 := X3.out
      have x4 := X4.out
      have x5 := X5.out
      have x6 := X6.out
      have x7 := X7.out
      have x8 := X8.out
      have x9 := X9.out
      clear X0 X1 X2 X3 X4 X5 X6 X7 X8 X9
      go_wp2_with fail
      refine (pmay_is _ h0 (by omega) _).mono ?_
      rintro e v32 ⟨rfl, k32⟩
      replace lA := Lib.hid ((lA.out).below k32)
      replace x0 := (Msg.keepC x0 k32)
      replace x1 := (Msg.keepC x1 k32)
      replace x2 := (Msg.keepC x2 k32)
      replace x3 := (Msg.keepC x3 k32)
      replace x4 := (Msg.keepC x4 k32)
      replace x5 := (Msg.keepC x5 k32)
      replace x6 := (Msg.keepC x6 k32)
      replace x7 := (Msg.keepC x7 k32)
      replace x8 := (Msg.keepC x8 k32)
      replace x9 := (Msg.keepC x9 k32)
      replace hb := bstep hb k32
      clear k32
      go_wp2_with fail
      refine (pmay_is _ h1 (by omega) _).mono ?_
      rintro e v33 ⟨rfl, k33⟩
      replace lA := Lib.hid ((lA.out).below k33)
      replace x0 := (Msg.keepC x0 k33)
      replace x1 := (Msg.keepC x1 k33)
      replace x2 := (Msg.keepC x2 k33)
      replace x3 := (Msg.keepC x3 k33)
      replace x4 := (Msg.keepC x4 k33)
      replace x5 := (Msg.keepC x5 k33)
      replace x6 := (Msg.keepC x6 k33)
      replace x7 := (Msg.keepC x7 k33)
      replace x8 := (Msg.keepC x8 k33)
      replace x9 := (Msg.keepC x9 k33)
      replace hb := bstep hb k33
      clear k33
      go_wp2_with fail
      refine (may_is _ h3 lA.out (by omega) oA.out).mono ?_
      rintro e v34 ⟨rfl, k34⟩
      replace lA := Lib.hid ((lA.out).below k34)
      replace x0 := (Msg.keepC x0 k34)
      replace x1 := (Msg.keepC x1 k34)
      replace x2 := (Msg.keepC x2 k34)
      replace x3 := (Msg.keepC x3 k34)
      replace x4 := (Msg.keepC x4 k34)
      replace x5 := (Msg.keepC x5 k34)
      replace x6 := (Msg.keepC x6 k34)
      replace x7 := (Msg.keepC x7 k34)
      replace x8 := (Msg.keepC x8 k34)
      replace x9 := (Msg.keepC x9 k34)
      replace hb := bstep hb k34
      clear k34
      go_wp2_with fail
      refine (pmay_is _ g1 (by omega) _).mono ?_
      rintro e v35 ⟨rfl, k35⟩
      replace lA := Lib.hid ((lA.out).below k35)
      replace x0 := (Msg.keepC x0 k35)
      replace x1 := (Msg.keepC x1 k35)
      replace x2 := (Msg.keepC x2 k35)
      replace x3 := (Msg.keepC x3 k35)
      replace x4 := (Msg.keepC x4 k35)
      replace x5 := (Msg.keepC x5 k35)
      replace x6 := (Msg.keepC x6 k35)
      replace x7 := (Msg.keepC x7 k35)
      replace x8 := (Msg.keepC x8 k35)
      replace x9 := (Msg.keepC x9 k35)
      replace hb := bstep hb k35
      clear k35
      go_wp2
      go_ret
      exact ⟨by rw [HV.out]; rfl, hb⟩
    · have y2 : ((all.length : Int) == 0) = false := by rw [beq_eq_false_iff_ne]; omega
      have HV : Hid (fitsB ⟨k, src, dst, fr, seq, all, id, i, n, tx⟩ = false) := Lib.hid (by unfold fitsB shapeB; simp [*])
      try replace kk := Lib.hid kk
      try replace kk2 := Lib.hid kk2
      try replace kk3 := Lib.hid kk3
      try replace kk4 := Lib.hid kk4
      go_enter Tryd.func36, Tryd.ntmps36
      go_wp2_with fail
      replace lA := Lib.hid ((lA.out).below (balloc (Below.refl _ _) (.cells #[.int .u8 (k : Int), .string ⟨src.toArray⟩, .string ⟨dst.toArray⟩, .string ⟨fr.toArray⟩, .int .u64 (seq : Int), .slice a all.length c, .int .u64 (id : Int), .int .i64 i, .int .i64 n, .string ⟨tx.toArray⟩] 27)))
      replace hb := bstep hb (balloc (Below.refl _ _) (.cells #[.int .u8 (k : Int), .string ⟨src.toArray⟩, .string ⟨dst.toArray⟩, .string ⟨fr.toArray⟩, .int .u64 (seq : Int), .slice a all.length c, .int .u64 (id : Int), .int .i64 i, .int .i64 n, .string ⟨tx.toArray⟩] 27))
      have x0 := X0.out
      have x1 := X1.out
      have x2 := X2.out
      have x3 := X3.out
      have x4 := X4.out
      have x5 := X5.out
      have x6 := X6.out
      have x7 := X7.out
      have x8 := X8.out
      have x9 := X9.out
      clear X0 X1 X2 X3 X4 X5 X6 X7 X8 X9
      go_wp2_with fail
      refine (pmay_is _ h0 (by omega) _).mono ?_
      rintro e v36 ⟨rfl, k36⟩
      replace lA := Lib.hid ((lA.out).below k36)
      replace x0 := (Msg.keepC x0 k36)
      replace x1 := (Msg.keepC x1 k36)
      replace x2 := (Msg.keepC x2 k36)
      replace x3 := (Msg.keepC x3 k36)
      replace x4 := (Msg.keepC x4 k36)
      replace x5 := (Msg.keepC x5 k36)
      replace x6 := (Msg.keepC x6 k36)
      replace x7 := (Msg.keepC x7 k36)
      replace x8 := (Msg.keepC x8 k36)
      replace x9 := (Msg.keepC x9 k36)
      replace hb := bstep hb k36
      clear k36
      go_wp2_with fail
      refine (pmay_is _ h1 (by omega) _).mono ?_
      rintro e v37 ⟨rfl, k37⟩
      replace lA := Lib.hid ((lA.out).below k37)
      replace x0 := (Msg.keepC x0 k37)
      replace x1 := (Msg.keepC x1 k37)
      replace x2 := (Msg.keepC x2 k37)
      replace x3 := (Msg.keepC x3 k37)
      replace x4 := (Msg.keepC x4 k37)
      replace x5 := (Msg.keepC x5 k37)
      replace x6 := (Msg.keepC x6 k37)
      replace x7 := (Msg.keepC x7 k37)
      replace x8 := (Msg.keepC x8 k37)
      replace x9 := (Msg.keepC x9 k37)
      replace hb := bstep hb k37
      clear k37
      go_wp2_with fail
      refine (may_is _ h3 lA.out (by omega) oA.out).mono ?_
      rintro e v38 ⟨rfl, k38⟩
      replace lA := Lib.hid ((lA.out).below k38)
      replace x0 := (Msg.keepC x0 k38)
      replace x1 := (Msg.keepC x1 k38)
      replace x2 := (Msg.keepC x2 k38)
      replace x3 := (Msg.keepC x3 k38)
      replace x4 := (Msg.keepC x4 k38)
      replace x5 := (Msg.keepC x5 k38)
      replace x6 := (Msg.keepC x6 k38)
      replace x7 := (Msg.keepC x7 k38)
      replace x8 := (Msg.keepC x8 k38)
      replace x9 := (Msg.keepC x9 k38)
      replace hb := bstep hb k38
      clear k38
      go_wp2_with fail
      refine (pmay_is _ g1 (by omega) _).mono ?_
      rintro e v39 ⟨rfl, k39⟩
      replace lA := Lib.hid ((lA.out).below k39)
      replace x0 := (Msg.keepC x0 k39)
      replace x1 := (Msg.keepC x1 k39)
      replace x2 := (Msg.keepC x2 k39)
      replace x3 := (Msg.keepC x3 k39)
      replace x4 := (Msg.keepC x4 k39)
      replace x5 := (Msg.keepC x5 k39)
      replace x6 := (Msg.keepC x6 k39)
      replace x7 := (Msg.keepC x7 k39)
      replace x8 := (Msg.keepC x8 k39)
      replace x9 := (Msg.keepC x9 k39)
      replace hb := bstep hb k39
      clear k39
      go_wp2
      go_ret
      exact ⟨by rw [HV.out]; rfl, hb⟩
  by_cases kk4 : k = 4
  · skip
    have z1 : ((k : Int) == 1) = false := by rw [beq_eq_false_iff_ne]; omega
    have z2 : ((k : Int) == 2) = false := by rw [beq_eq_false_iff_ne]; omega
    have z3 : ((k : Int) == 3) = false := by rw [beq_eq_false_iff_ne]; omega
    have z4 : ((k : Int) == 4) = true := by rw [beq_iff_eq]; omega
    cases g0 : (fr == [])
    · skip
      cases g1 : pathB fr
      · skip
        have HV : Hid (fitsB ⟨k, src, dst, fr, seq, all, id, i, n, tx⟩ = false) := Lib.hid (by unfold fitsB shapeB; simp [*])
        try replace kk := Lib.hid kk
        try replace kk2 := Lib.hid kk2
        try replace kk3 := Lib.hid kk3
        try replace kk4 := Lib.hid kk4
        go_enter Tryd.func36, Tryd.ntmps36
        go_wp2_with fail
        replace lA := Lib.hid ((lA.out).below (balloc (Below.refl _ _) (.cells #[.int .u8 (k : Int), .string ⟨src.toArray⟩, .string ⟨dst.toArray⟩, .string ⟨fr.toArray⟩, .int .u64 (seq : Int), .slice a all.length c, .int .u64 (id : Int), .int .i64 i, .int .i64 n, .string ⟨tx.toArray⟩] 27)))
        replace hb := bstep hb (balloc (Below.refl _ _) (.cells #[.int .u8 (k : Int), .string ⟨src.toArray⟩, .string ⟨dst.toArray⟩, .string ⟨fr.toArray⟩, .int .u64 (seq : Int), .slice a all.length c, .int .u64 (id : Int), .int .i64 i, .int .i64 n, .string ⟨tx.toArray⟩] 27))
        have x0 := X0.out
        have x1 := X1.out
        have x2 := X2.out
        have x3 := X3.out
        have x4 := X4.out
        have x5 := X5.out
        have x6 := X6.out
        have x7 := X7.out
        have x8 := X8.out
        have x9 := X9.out
        clear X0 X1 X2 X3 X4 X5 X6 X7 X8 X9
        go_wp2_with fail
        refine (pmay_is _ h0 (by omega) _).mono ?_
        rintro e v40 ⟨rfl, k40⟩
        replace lA := Lib.hid ((lA.out).below k40)
        replace x0 := (Msg.keepC x0 k40)
        replace x1 := (Msg.keepC x1 k40)
        replace x2 := (Msg.keepC x2 k40)
        replace x3 := (Msg.keepC x3 k40)
        replace x4 := (Msg.keepC x4 k40)
        replace x5 := (Msg.keepC x5 k40)
        replace x6 := (Msg.keepC x6 k40)
        replace x7 := (Msg.keepC x7 k40)
        replace x8 := (Msg.keepC x8 k40)
        replace x9 := (Msg.keepC x9 k40)
        replace hb := bstep hb k40
        clear k40
        go_wp2_with fail
        refine (pmay_is _ h1 (by omega) _).mono ?_
        rintro e v41 ⟨rfl, k41⟩
        replace lA := Lib.hid ((lA.out).below k41)
        replace x0 := (Msg.keepC x0 k41)
        replace x1 := (Msg.keepC x1 k41)
        replace x2 := (Msg.keepC x2 k41)
        replace x3 := (Msg.keepC x3 k41)
        replace x4 := (Msg.keepC x4 k41)
        replace x5 := (Msg.keepC x5 k41)
        replace x6 := (Msg.keepC x6 k41)
        replace x7 := (Msg.keepC x7 k41)
        replace x8 := (Msg.keepC x8 k41)
        replace x9 := (Msg.keepC x9 k41)
        replace hb := bstep hb k41
        clear k41
        go_wp2_with fail
        refine (may_is _ h3 lA.out (by omega) oA.out).mono ?_
        rintro e v42 ⟨rfl, k42⟩
        replace lA := Lib.hid ((lA.out).below k42)
        replace x0 := (Msg.keepC x0 k42)
        replace x1 := (Msg.keepC x1 k42)
        replace x2 := (Msg.keepC x2 k42)
        replace x3 := (Msg.keepC x3 k42)
        replace x4 := (Msg.keepC x4 k42)
        replace x5 := (Msg.keepC x5 k42)
        replace x6 := (Msg.keepC x6 k42)
        replace x7 := (Msg.keepC x7 k42)
        replace x8 := (Msg.keepC x8 k42)
        replace x9 := (Msg.keepC x9 k42)
        replace hb := bstep hb k42
        clear k42
        go_wp2_with fail
        refine (pmay_is _ g1 (by omega) _).mono ?_
        rintro e v43 ⟨rfl, k43⟩
        replace lA := Lib.hid ((lA.out).below k43)
        replace x0 := (Msg.keepC x0 k43)
        replace x1 := (Msg.keepC x1 k43)
        replace x2 := (Msg.keepC x2 k43)
        replace x3 := (Msg.keepC x3 k43)
        replace x4 := (Msg.keepC x4 k43)
        replace x5 := (Msg.keepC x5 k43)
        replace x6 := (Msg.keepC x6 k43)
        replace x7 := (Msg.keepC x7 k43)
        replace x8 := (Msg.keepC x8 k43)
        replace x9 := (Msg.keepC x9 k43)
        replace hb := bstep hb k43
        clear k43
        go_wp2
        go_ret
        exact ⟨by rw [HV.out]; rfl, hb⟩
      · skip
        have HV : Hid (fitsB ⟨k, src, dst, fr, seq, all, id, i, n, tx⟩ = noPart id i n tx) := Lib.hid (by unfold fitsB shapeB; simp [*])
        try replace kk := Lib.hid kk
        try replace kk2 := Lib.hid kk2
        try replace kk3 := Lib.hid kk3
        try replace kk4 := Lib.hid kk4
        try replace g2 := Lib.hid g2
        go_enter Tryd.func36, Tryd.ntmps36
        go_wp2_with fail
        replace lA := Lib.hid ((lA.out).below (balloc (Below.refl _ _) (.cells #[.int .u8 (k : Int), .string ⟨src.toArray⟩, .string ⟨dst.toArray⟩, .string ⟨fr.toArray⟩, .int .u64 (seq : Int), .slice a all.length c, .int .u64 (id : Int), .int .i64 i, .int .i64 n, .string ⟨tx.toArray⟩] 27)))
        replace hb := bstep hb (balloc (Below.refl _ _) (.cells #[.int .u8 (k : Int), .string ⟨src.toArray⟩, .string ⟨dst.toArray⟩, .string ⟨fr.toArray⟩, .int .u64 (seq : Int), .slice a all.length c, .int .u64 (id : Int), .int .i64 i, .int .i64 n, .string ⟨tx.toArray⟩] 27))
        have x0 := X0.out
        have x1 := X1.out
        have x2 := X2.out
        have x3 := X3.out
        have x4 := X4.out
        have x5 := X5.out
        have x6 := X6.out
        have x7 := X7.out
        have x8 := X8.out
        have x9 := X9.out
        clear X0 X1 X2 X3 X4 X5 X6 X7 X8 X9
        go_wp2_with fail
        refine (pmay_is _ h0 (by omega) _).mono ?_
        rintro e v44 ⟨rfl, k44⟩
        replace lA := Lib.hid ((lA.out).below k44)
        replace x0 := (Msg.keepC x0 k44)
        replace x1 := (Msg.keepC x1 k44)
        replace x2 := (Msg.keepC x2 k44)
        replace x3 := (Msg.keepC x3 k44)
        replace x4 := (Msg.keepC x4 k44)
        replace x5 := (Msg.keepC x5 k44)
        replace x6 := (Msg.keepC x6 k44)
        replace x7 := (Msg.keepC x7 k44)
        replace x8 := (Msg.keepC x8 k44)
        replace x9 := (Msg.keepC x9 k44)
        replace hb := bstep hb k44
        clear k44
        go_wp2_with fail
        refine (pmay_is _ h1 (by omega) _).mono ?_
        rintro e v45 ⟨rfl, k45⟩
        replace lA := Lib.hid ((lA.out).below k45)
        replace x0 := (Msg.keepC x0 k45)
        replace x1 := (Msg.keepC x1 k45)
        replace x2 := (Msg.keepC x2 k45)
        replace x3 := (Msg.keepC x3 k45)
        replace x4 := (Msg.keepC x4 k45)
        replace x5 := (Msg.keepC x5 k45)
        replace x6 := (Msg.keepC x6 k45)
        replace x7 := (Msg.keepC x7 k45)
        replace x8 := (Msg.keepC x8 k45)
        replace x9 := (Msg.keepC x9 k45)
        replace hb := bstep hb k45
        clear k45
        go_wp2_with fail
        refine (may_is _ h3 lA.out (by omega) oA.out).mono ?_
        rintro e v46 ⟨rfl, k46⟩
        replace lA := Lib.hid ((lA.out).below k46)
        replace x0 := (Msg.keepC x0 k46)
        replace x1 := (Msg.keepC x1 k46)
        replace x2 := (Msg.keepC x2 k46)
        replace x3 := (Msg.keepC x3 k46)
        replace x4 := (Msg.keepC x4 k46)
        replace x5 := (Msg.keepC x5 k46)
        replace x6 := (Msg.keepC x6 k46)
        replace x7 := (Msg.keepC x7 k46)
        replace x8 := (Msg.keepC x8 k46)
        replace x9 := (Msg.keepC x9 k46)
        replace hb := bstep hb k46
        clear k46
        go_wp2_with fail
        refine (pmay_is _ g1 (by omega) _).mono ?_
        rintro e v47 ⟨rfl, k47⟩
        replace lA := Lib.hid ((lA.out).below k47)
        replace x0 := (Msg.keepC x0 k47)
        replace x1 := (Msg.keepC x1 k47)
        replace x2 := (Msg.keepC x2 k47)
        replace x3 := (Msg.keepC x3 k47)
        replace x4 := (Msg.keepC x4 k47)
        replace x5 := (Msg.keepC x5 k47)
        replace x6 := (Msg.keepC x6 k47)
        replace x7 := (Msg.keepC x7 k47)
        replace x8 := (Msg.keepC x8 k47)
        replace x9 := (Msg.keepC x9 k47)
        replace hb := bstep hb k47
        clear k47
        go_wp2
        go_ret
        exact ⟨by rw [HV.out]; rfl, hb⟩
    · skip
      have HV : Hid (fitsB ⟨k, src, dst, fr, seq, all, id, i, n, tx⟩ = noPart id i n tx) := Lib.hid (by unfold fitsB shapeB; simp [*])
      try replace kk := Lib.hid kk
      try replace kk2 := Lib.hid kk2
      try replace kk3 := Lib.hid kk3
      try replace kk4 := Lib.hid kk4
      try replace g2 := Lib.hid g2
      go_enter Tryd.func36, Tryd.ntmps36
      go_wp2_with fail
      replace lA := Lib.hid ((lA.out).below (balloc (Below.refl _ _) (.cells #[.int .u8 (k : Int), .string ⟨src.toArray⟩, .string ⟨dst.toArray⟩, .string ⟨fr.toArray⟩, .int .u64 (seq : Int), .slice a all.length c, .int .u64 (id : Int), .int .i64 i, .int .i64 n, .string ⟨tx.toArray⟩] 27)))
      replace hb := bstep hb (balloc (Below.refl _ _) (.cells #[.int .u8 (k : Int), .string ⟨src.toArray⟩, .string ⟨dst.toArray⟩, .string ⟨fr.toArray⟩, .int .u64 (seq : Int), .slice a all.length c, .int .u64 (id : Int), .int .i64 i, .int .i64 n, .string ⟨tx.toArray⟩] 27))
      have x0 := X0.out
      have x1 := X1.out
      have x2 := X2.out
      have x3 := X3.out
      have x4 := X4.out
      have x5 := X5.out
      have x6 := X6.out
      have x7 := X7.out
      have x8 := X8.out
      have x9 := X9.out
      clear X0 X1 X2 X3 X4 X5 X6 X7 X8 X9
      go_wp2_with fail
      refine (pmay_is _ h0 (by omega) _).mono ?_
      rintro e v48 ⟨rfl, k48⟩
      replace lA := Lib.hid ((lA.out).below k48)
      replace x0 := (Msg.keepC x0 k48)
      replace x1 := (Msg.keepC x1 k48)
      replace x2 := (Msg.keepC x2 k48)
      replace x3 := (Msg.keepC x3 k48)
      replace x4 := (Msg.keepC x4 k48)
      replace x5 := (Msg.keepC x5 k48)
      replace x6 := (Msg.keepC x6 k48)
      replace x7 := (Msg.keepC x7 k48)
      replace x8 := (Msg.keepC x8 k48)
      replace x9 := (Msg.keepC x9 k48)
      replace hb := bstep hb k48
      clear k48
      go_wp2_with fail
      refine (pmay_is _ h1 (by omega) _).mono ?_
      rintro e v49 ⟨rfl, k49⟩
      replace lA := Lib.hid ((lA.out).below k49)
      replace x0 := (Msg.keepC x0 k49)
      replace x1 := (Msg.keepC x1 k49)
      replace x2 := (Msg.keepC x2 k49)
      replace x3 := (Msg.keepC x3 k49)
      replace x4 := (Msg.keepC x4 k49)
      replace x5 := (Msg.keepC x5 k49)
      replace x6 := (Msg.keepC x6 k49)
      replace x7 := (Msg.keepC x7 k49)
      replace x8 := (Msg.keepC x8 k49)
      replace x9 := (Msg.keepC x9 k49)
      replace hb := bstep hb k49
      clear k49
      go_wp2_with fail
      refine (may_is _ h3 lA.out (by omega) oA.out).mono ?_
      rintro e v50 ⟨rfl, k50⟩
      replace lA := Lib.hid ((lA.out).below k50)
      replace x0 := (Msg.keepC x0 k50)
      replace x1 := (Msg.keepC x1 k50)
      replace x2 := (Msg.keepC x2 k50)
      replace x3 := (Msg.keepC x3 k50)
      replace x4 := (Msg.keepC x4 k50)
      replace x5 := (Msg.keepC x5 k50)
      replace x6 := (Msg.keepC x6 k50)
      replace x7 := (Msg.keepC x7 k50)
      replace x8 := (Msg.keepC x8 k50)
      replace x9 := (Msg.keepC x9 k50)
      replace hb := bstep hb k50
      clear k50
      go_wp2
      go_ret
      exact ⟨by rw [HV.out]; rfl, hb⟩
  have z1 : ((k : Int) == 1) = false := by rw [beq_eq_false_iff_ne]; omega
  have z2 : ((k : Int) == 2) = false := by rw [beq_eq_false_iff_ne]; omega
  have z3 : ((k : Int) == 3) = false := by rw [beq_eq_false_iff_ne]; omega
  have z4 : ((k : Int) == 4) = false := by rw [beq_eq_false_iff_ne]; omega
  have HV : Hid (fitsB ⟨k, src, dst, fr, seq, all, id, i, n, tx⟩ = false) := Lib.hid (by unfold fitsB shapeB; simp [*])
  try replace kk := Lib.hid kk
  try replace kk2 := Lib.hid kk2
  try replace kk3 := Lib.hid kk3
  try replace kk4 := Lib.hid kk4
  go_enter Tryd.func36, Tryd.ntmps36
  go_wp2_with fail
  replace lA := Lib.hid ((lA.out).below (balloc (Below.refl _ _) (.cells #[.int .u8 (k : Int), .string ⟨src.toArray⟩, .string ⟨dst.toArray⟩, .string ⟨fr.toArray⟩, .int .u64 (seq : Int), .slice a all.length c, .int .u64 (id : Int), .int .i64 i, .int .i64 n, .string ⟨tx.toArray⟩] 27)))
  replace hb := bstep hb (balloc (Below.refl _ _) (.cells #[.int .u8 (k : Int), .string ⟨src.toArray⟩, .string ⟨dst.toArray⟩, .string ⟨fr.toArray⟩, .int .u64 (seq : Int), .slice a all.length c, .int .u64 (id : Int), .int .i64 i, .int .i64 n, .string ⟨tx.toArray⟩] 27))
  have x0 := X0.out
  have x1 := X1.out
  have x2 := X2.out
  have x3 := X3.out
  have x4 := X4.out
  have x5 := X5.out
  have x6 := X6.out
  have x7 := X7.out
  have x8 := X8.out
  have x9 := X9.out
  clear X0 X1 X2 X3 X4 X5 X6 X7 X8 X9
  go_wp2_with fail
  refine (pmay_is _ h0 (by omega) _).mono ?_
  rintro e v51 ⟨rfl, k51⟩
  replace lA := Lib.hid ((lA.out).below k51)
  replace x0 := (Msg.keepC x0 k51)
  replace x1 := (Msg.keepC x1 k51)
  replace x2 := (Msg.keepC x2 k51)
  replace x3 := (Msg.keepC x3 k51)
  replace x4 := (Msg.keepC x4 k51)
  replace x5 := (Msg.keepC x5 k51)
  replace x6 := (Msg.keepC x6 k51)
  replace x7 := (Msg.keepC x7 k51)
  replace x8 := (Msg.keepC x8 k51)
  replace x9 := (Msg.keepC x9 k51)
  replace hb := bstep hb k51
  clear k51
  go_wp2_with fail
  refine (pmay_is _ h1 (by omega) _).mono ?_
  rintro e v52 ⟨rfl, k52⟩
  replace lA := Lib.hid ((lA.out).below k52)
  replace x0 := (Msg.keepC x0 k52)
  replace x1 := (Msg.keepC x1 k52)
  replace x2 := (Msg.keepC x2 k52)
  replace x3 := (Msg.keepC x3 k52)
  replace x4 := (Msg.keepC x4 k52)
  replace x5 := (Msg.keepC x5 k52)
  replace x6 := (Msg.keepC x6 k52)
  replace x7 := (Msg.keepC x7 k52)
  replace x8 := (Msg.keepC x8 k52)
  replace x9 := (Msg.keepC x9 k52)
  replace hb := bstep hb k52
  clear k52
  go_wp2_with fail
  refine (may_is _ h3 lA.out (by omega) oA.out).mono ?_
  rintro e v53 ⟨rfl, k53⟩
  replace lA := Lib.hid ((lA.out).below k53)
  replace x0 := (Msg.keepC x0 k53)
  replace x1 := (Msg.keepC x1 k53)
  replace x2 := (Msg.keepC x2 k53)
  replace x3 := (Msg.keepC x3 k53)
  replace x4 := (Msg.keepC x4 k53)
  replace x5 := (Msg.keepC x5 k53)
  replace x6 := (Msg.keepC x6 k53)
  replace x7 := (Msg.keepC x7 k53)
  replace x8 := (Msg.keepC x8 k53)
  replace x9 := (Msg.keepC x9 k53)
  replace hb := bstep hb k53
  clear k53
  go_wp2
  go_ret
  exact ⟨by rw [HV.out]; rfl, hb⟩

end Msg
end Go.Proofs.YtcfimfoccbaepaaDoor
