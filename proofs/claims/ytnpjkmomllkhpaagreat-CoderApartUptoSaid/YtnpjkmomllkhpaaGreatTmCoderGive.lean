/- coder: what is given out: bytes, or an error. -/
import Derived.Test.YtnpjkmomllkhpaaGreatTmCoderSMay
import Derived.Test.YtnpjkmomllkhpaaGreatTmCodB
namespace Go.Proofs.YtnpjkmomllkhpaaGreat
namespace Coder
open Go.RowKit Go.Proofs.YtnpjkmomllkhpaaGreat.Mark Go.Proofs.YtnpjkmomllkhpaaGreat.Num Go.Proofs.YtnpjkmomllkhpaaGreat.Wire Go.Proofs.YtnpjkmomllkhpaaGreat.Bag Go.Proofs.YtnpjkmomllkhpaaGreat.Dots
def outS (m : Bool) (l : List UInt8) : List UInt8 := if m = true then l else []
def outE (m : Bool) : Int := if m = true then 0 else 2
def InnerD (w : World) (ba : Option Addr) (B : List M) (x : RS) : Prop := Mark.Lies w ba B.length B ∧ InnerS w x
theorem InnerD.below {w w' : World} {ba : Option Addr} {B : List M} {x : RS} (h : InnerD w ba B x) (k : Below w.heap.size w w') : InnerD w' ba B x := ⟨h.1.below k, h.2.below k⟩
structure DOk (B : List M) (x : RS) : Prop where
  b : B.length ≤ 1048576
  bm : ∀ m ∈ B, m.p.length ≤ 1048576 ∧ m.n ≤ 18446744073709551615
  ok : x.Ok
  fine : x.Fine
set_option maxRecDepth 100000 in
set_option maxHeartbeats 8000000 in
theorem mayD_any (ba : Option Addr) (bc : Nat) (B : List M) (x : RS) (w : World) (hx : InnerD w ba B x) (ox : DOk B x) :
    Calls Tryz.prog 24 #[.agg #[.slice ba B.length bc, .slice x.aa x.a.length x.ac, .slice x.ea x.e.length x.ec, .slice x.pa x.p.length x.pc]] w fun e w' => e = .returned (.bool (mayD B x.s)) ∧ Below w.heap.size w w' := by
  have lx := Lib.hid hx
  have OX := Lib.hid ox
  clear hx ox
  obtain ⟨q0, hq0⟩ : ∃ q, q = mayL B := ⟨_, rfl⟩
  obtain ⟨q1, hq1⟩ : ∃ q, q = mayS x.s := ⟨_, rfl⟩
  have HV : Hid (mayD B x.s = (q0 && q1)) := Lib.hid (by rw [hq0, hq1]; rfl)
  have C0 := Lib.hid (fun W (hx : InnerD W ba B x) => (by rw [hq0]; exact Dots.may_any B ba B.length bc W hx.1 (by have := OX.out.b; omega) (ok_of OX.out.bm) : Calls Tryz.prog 34 #[.slice ba B.length bc] W fun e W' => e = .returned (.bool q0) ∧ Below W.heap.size W W'))
  have C1 := Lib.hid (fun W (hx : InnerD W ba B x) => (by rw [hq1]; exact mayS_any x W hx.2 OX.out.ok OX.out.fine : Calls Tryz.prog 52 #[.agg #[.slice x.aa x.a.length x.ac, .slice x.ea x.e.length x.ec, .slice x.pa x.p.length x.pc]] W fun e W' => e = .returned (.bool q1) ∧ Below W.heap.size W W'))
  clear hq0 hq1
  go_enter Tryz.func24, Tryz.ntmps24
  go_upto_region 1 with (fail)
  have hb0 := balloc (Below.refl w.heap.size w) (.cells #[.slice ba B.length bc, .slice x.aa x.a.length x.ac, .slice x.ea x.e.length x.ec, .slice x.pa x.p.length x.pc] 35)
  have p0 := box_cells w #[.slice ba B.length bc, .slice x.aa x.a.length x.ac, .slice x.ea x.e.length x.ec, .slice x.pa x.p.length x.pc] 35 0 (.slice ba B.length bc) rfl
  have p1 := box_cells w #[.slice ba B.length bc, .slice x.aa x.a.length x.ac, .slice x.ea x.e.length x.ec, .slice x.pa x.p.length x.pc] 35 1 (.slice x.aa x.a.length x.ac) rfl
  have p2 := box_cells w #[.slice ba B.length bc, .slice x.aa x.a.length x.ac, .slice x.ea x.e.length x.ec, .slice x.pa x.p.length x.pc] 35 2 (.slice x.ea x.e.length x.ec) rfl
  have p3 := box_cells w #[.slice ba B.length bc, .slice x.aa x.a.length x.ac, .slice x.ea x.e.length x.ec, .slice x.pa x.p.length x.pc] 35 3 (.slice x.pa x.p.length x.pc) rfl
  obtain ⟨w0, hw0⟩ : ∃ v, v = (w.alloc (.cells #[.slice ba B.length bc, .slice x.aa x.a.length x.ac, .slice x.ea x.e.length x.ec, .slice x.pa x.p.length x.pc] 35)) := ⟨_, rfl⟩
  rw [← hw0] at hb0 p0 p1 p2 p3 ⊢
  obtain ⟨bp, hbp⟩ : ∃ b, b = w.heap.size := ⟨_, rfl⟩
  rw [← hbp] at p0 p1 p2 p3 ⊢
  have hb := hb0
  clear hb0 hw0 hbp
  replace lx := Lib.hid (lx.out.below hb)
  go_wp2_with fail
  refine (C0.out _ lx.out).mono ?_
  rintro e v1 ⟨rfl, k1⟩
  replace p0 := (Coder.keepC p0 k1)
  replace p1 := (Coder.keepC p1 k1)
  replace p2 := (Coder.keepC p2 k1)
  replace p3 := (Coder.keepC p3 k1)
  replace lx := Lib.hid ((lx.out).below k1)
  replace hb := bstep hb k1
  clear k1
  cases q0
  · have HV2 : Hid (mayD B x.s = false) := Lib.hid (by rw [HV.out]; rfl)
    go_wp2
    go_ret
    exact ⟨by rw [HV2.out]; rfl, hb⟩
  go_wp2_with fail
  refine (C1.out _ lx.out).mono ?_
  rintro e v2 ⟨rfl, k2⟩
  replace p0 := (Coder.keepC p0 k2)
  replace p1 := (Coder.keepC p1 k2)
  replace p2 := (Coder.keepC p2 k2)
  replace p3 := (Coder.keepC p3 k2)
  replace lx := Lib.hid ((lx.out).below k2)
  replace hb := bstep hb k2
  clear k2
  have HV2 : Hid (mayD B x.s = q1) := Lib.hid (by rw [HV.out]; rfl)
  go_wp2
  go_ret
  exact ⟨by rw [HV2.out]; rfl, hb⟩
set_option maxRecDepth 100000 in
set_option maxHeartbeats 8000000 in
theorem writeEntry (x : RE) (w : World) (hx : InnerE w x) (ox : x.Ok) (of : Bag.Fine (x.j.map RI.it)) (hs : (fE x).length ≤ 70368744177664) :
    Calls Tryz.prog 18 #[.agg #[.string ⟨x.k.toArray⟩, .slice x.sa x.s.length x.sc, .slice x.ca x.c.length x.cc, .slice x.ia x.j.length x.ic, .int .u64 (x.l.s : Int), .string ⟨x.l.t.toArray⟩, .bool x.l.g], .func (.func 19) #[] #[], .func (.func 20) #[] #[]] w fun e w' => e = .returned (.tuple #[.string ⟨(outS (mayE x.e) (fE x)).toArray⟩, .int .i64 (outE (mayE x.e))]) ∧ Below w.heap.size w w' := by
  have lx := Lib.hid hx
  have OX := Lib.hid ox
  have OF := Lib.hid of
  have HS := Lib.hid hs
  clear hx ox of hs
  obtain ⟨q, hq⟩ : ∃ q, q = mayE x.e := ⟨_, rfl⟩
  obtain ⟨l, hl⟩ : ∃ l, l = fE x := ⟨_, rfl⟩
  rw [← hq, ← hl]
  have C0 := Lib.hid (fun W (h : InnerE W x) => (by rw [hq]; exact mayE_any x W h OX.out OF.out : Calls Tryz.prog 19 #[.agg #[.string ⟨x.k.toArray⟩, .slice x.sa x.s.length x.sc, .slice x.ca x.c.length x.cc, .slice x.ia x.j.length x.ic, .int .u64 (x.l.s : Int), .string ⟨x.l.t.toArray⟩, .bool x.l.g]] W fun e W' => e = .returned (.bool q) ∧ Below W.heap.size W W'))
  have C1 := Lib.hid (fun W (h : InnerE W x) => (by rw [hl]; exact entry_any x W h OX.out HS.out : Calls Tryz.prog 20 #[.agg #[.string ⟨x.k.toArray⟩, .slice x.sa x.s.length x.sc, .slice x.ca x.c.length x.cc, .slice x.ia x.j.length x.ic, .int .u64 (x.l.s : Int), .string ⟨x.l.t.toArray⟩, .bool x.l.g]] W fun e W' => e = .returned (.string ⟨l.toArray⟩) ∧ Below W.heap.size W W'))
  clear hq hl
  go_enter Tryz.func18, Tryz.ntmps18
  go_upto_region 1 with (fail)
  have hb0 := balloc (Below.refl w.heap.size w) (.cells #[.string ⟨x.k.toArray⟩, .slice x.sa x.s.length x.sc, .slice x.ca x.c.length x.cc, .slice x.ia x.j.length x.ic, .int .u64 (x.l.s : Int), .string ⟨x.l.t.toArray⟩, .bool x.l.g] 29)
  have p0 := box_cells w #[.string ⟨x.k.toArray⟩, .slice x.sa x.s.length x.sc, .slice x.ca x.c.length x.cc, .slice x.ia x.j.length x.ic, .int .u64 (x.l.s : Int), .string ⟨x.l.t.toArray⟩, .bool x.l.g] 29 0 (.string ⟨x.k.toArray⟩) rfl
  have p1 := box_cells w #[.string ⟨x.k.toArray⟩, .slice x.sa x.s.length x.sc, .slice x.ca x.c.length x.cc, .slice x.ia x.j.length x.ic, .int .u64 (x.l.s : Int), .string ⟨x.l.t.toArray⟩, .bool x.l.g] 29 1 (.slice x.sa x.s.length x.sc) rfl
  have p2 := box_cells w #[.string ⟨x.k.toArray⟩, .slice x.sa x.s.length x.sc, .slice x.ca x.c.length x.cc, .slice x.ia x.j.length x.ic, .int .u64 (x.l.s : Int), .string ⟨x.l.t.toArray⟩, .bool x.l.g] 29 2 (.slice x.ca x.c.length x.cc) rfl
  have p3 := box_cells w #[.string ⟨x.k.toArray⟩, .slice x.sa x.s.length x.sc, .slice x.ca x.c.length x.cc, .slice x.ia x.j.length x.ic, .int .u64 (x.l.s : Int), .string ⟨x.l.t.toArray⟩, .bool x.l.g] 29 3 (.slice x.ia x.j.length x.ic) rfl
  have p4 := box_cells w #[.string ⟨x.k.toArray⟩, .slice x.sa x.s.length x.sc, .slice x.ca x.c.length x.cc, .slice x.ia x.j.length x.ic, .int .u64 (x.l.s : Int), .string ⟨x.l.t.toArray⟩, .bool x.l.g] 29 4 (.int .u64 (x.l.s : Int)) rfl
  have p5 := box_cells w #[.string ⟨x.k.toArray⟩, .slice x.sa x.s.length x.sc, .slice x.ca x.c.length x.cc, .slice x.ia x.j.length x.ic, .int .u64 (x.l.s : Int), .string ⟨x.l.t.toArray⟩, .bool x.l.g] 29 5 (.string ⟨x.l.t.toArray⟩) rfl
  have p6 := box_cells w #[.string ⟨x.k.toArray⟩, .slice x.sa x.s.length x.sc, .slice x.ca x.c.length x.cc, .slice x.ia x.j.length x.ic, .int .u64 (x.l.s : Int), .string ⟨x.l.t.toArray⟩, .bool x.l.g] 29 6 (.bool x.l.g) rfl
  obtain ⟨w0, hw0⟩ : ∃ v, v = (w.alloc (.cells #[.string ⟨x.k.toArray⟩, .slice x.sa x.s.length x.sc, .slice x.ca x.c.length x.cc, .slice x.ia x.j.length x.ic, .int .u64 (x.l.s : Int), .string ⟨x.l.t.toArray⟩, .bool x.l.g] 29)) := ⟨_, rfl⟩
  rw [← hw0] at hb0 p0 p1 p2 p3 p4 p5 p6 ⊢
  obtain ⟨bp, hbp⟩ : ∃ b, b = w.heap.size := ⟨_, rfl⟩
  rw [← hbp] at p0 p1 p2 p3 p4 p5 p6 ⊢
  have hb := hb0
  clear hb0 hw0 hbp
  replace lx := Lib.hid (lx.out.below hb)
  go_wp2_with fail
  refine (C0.out _ lx.out).mono ?_
  rintro e v3 ⟨rfl, k3⟩
  replace p0 := (Coder.keepC p0 k3)
  replace p1 := (Coder.keepC p1 k3)
  replace p2 := (Coder.keepC p2 k3)
  replace p3 := (Coder.keepC p3 k3)
  replace p4 := (Coder.keepC p4 k3)
  replace p5 := (Coder.keepC p5 k3)
  replace p6 := (Coder.keepC p6 k3)
  replace lx := Lib.hid ((lx.out).below k3)
  replace hb := bstep hb k3
  clear k3
  cases q
  · go_wp2
    go_ret2
    exact ⟨rfl, hb⟩
  go_wp2_with fail
  refine (C1.out _ lx.out).mono ?_
  rintro e v4 ⟨rfl, k4⟩
  replace p0 := (Coder.keepC p0 k4)
  replace p1 := (Coder.keepC p1 k4)
  replace p2 := (Coder.keepC p2 k4)
  replace p3 := (Coder.keepC p3 k4)
  replace p4 := (Coder.keepC p4 k4)
  replace p5 := (Coder.keepC p5 k4)
  replace p6 := (Coder.keepC p6 k4)
  replace lx := Lib.hid ((lx.out).below k4)
  replace hb := bstep hb k4
  clear k4
  go_wp2
  go_ret2
  exact ⟨rfl, hb⟩
set_option maxRecDepth 100000 in
set_option maxHeartbeats 8000000 in
theorem giveEntry (x : RE) (w : World) (hx : InnerE w x) (ox : x.Ok) (of : Bag.Fine (x.j.map RI.it)) (hs : (fE x).length ≤ 70368744177664) :
    Calls Tryz.prog 7 #[.agg #[.string ⟨x.k.toArray⟩, .slice x.sa x.s.length x.sc, .slice x.ca x.c.length x.cc, .slice x.ia x.j.length x.ic, .int .u64 (x.l.s : Int), .string ⟨x.l.t.toArray⟩, .bool x.l.g]] w fun e w' => e = .returned (.tuple #[.string ⟨(outS (mayE x.e) (fE x)).toArray⟩, .int .i64 (outE (mayE x.e))]) ∧ Below w.heap.size w w' := by
  have lx := Lib.hid hx
  have OX := Lib.hid ox
  have OF := Lib.hid of
  have HS := Lib.hid hs
  clear hx ox of hs
  obtain ⟨q, hq⟩ : ∃ q, q = mayE x.e := ⟨_, rfl⟩
  obtain ⟨l, hl⟩ : ∃ l, l = fE x := ⟨_, rfl⟩
  rw [← hq, ← hl]
  have C0 := Lib.hid (fun W (h : InnerE W x) => (by rw [hq, hl]; exact writeEntry x W h OX.out OF.out HS.out : Calls Tryz.prog 18 #[.agg #[.string ⟨x.k.toArray⟩, .slice x.sa x.s.length x.sc, .slice x.ca x.c.length x.cc, .slice x.ia x.j.length x.ic, .int .u64 (x.l.s : Int), .string ⟨x.l.t.toArray⟩, .bool x.l.g], .func (.func 19) #[] #[], .func (.func 20) #[] #[]] W fun e W' => e = .returned (.tuple #[.string ⟨(outS q l).toArray⟩, .int .i64 (outE q)]) ∧ Below W.heap.size W W'))
  clear hq hl
  go_enter Tryz.func7, Tryz.ntmps7
  go_upto_region 1 with (fail)
  have hb0 := balloc (Below.refl w.heap.size w) (.cells #[.string ⟨x.k.toArray⟩, .slice x.sa x.s.length x.sc, .slice x.ca x.c.length x.cc, .slice x.ia x.j.length x.ic, .int .u64 (x.l.s : Int), .string ⟨x.l.t.toArray⟩, .bool x.l.g] 29)
  have p0 := box_cells w #[.string ⟨x.k.toArray⟩, .slice x.sa x.s.length x.sc, .slice x.ca x.c.length x.cc, .slice x.ia x.j.length x.ic, .int .u64 (x.l.s : Int), .string ⟨x.l.t.toArray⟩, .bool x.l.g] 29 0 (.string ⟨x.k.toArray⟩) rfl
  have p1 := box_cells w #[.string ⟨x.k.toArray⟩, .slice x.sa x.s.length x.sc, .slice x.ca x.c.length x.cc, .slice x.ia x.j.length x.ic, .int .u64 (x.l.s : Int), .string ⟨x.l.t.toArray⟩, .bool x.l.g] 29 1 (.slice x.sa x.s.length x.sc) rfl
  have p2 := box_cells w #[.string ⟨x.k.toArray⟩, .slice x.sa x.s.length x.sc, .slice x.ca x.c.length x.cc, .slice x.ia x.j.length x.ic, .int .u64 (x.l.s : Int), .string ⟨x.l.t.toArray⟩, .bool x.l.g] 29 2 (.slice x.ca x.c.length x.cc) rfl
  have p3 := box_cells w #[.string ⟨x.k.toArray⟩, .slice x.sa x.s.length x.sc, .slice x.ca x.c.length x.cc, .slice x.ia x.j.length x.ic, .int .u64 (x.l.s : Int), .string ⟨x.l.t.toArray⟩, .bool x.l.g] 29 3 (.slice x.ia x.j.length x.ic) rfl
  have p4 := box_cells w #[.string ⟨x.k.toArray⟩, .slice x.sa x.s.length x.sc, .slice x.ca x.c.length x.cc, .slice x.ia x.j.length x.ic, .int .u64 (x.l.s : Int), .string ⟨x.l.t.toArray⟩, .bool x.l.g] 29 4 (.int .u64 (x.l.s : Int)) rfl
  have p5 := box_cells w #[.string ⟨x.k.toArray⟩, .slice x.sa x.s.length x.sc, .slice x.ca x.c.length x.cc, .slice x.ia x.j.length x.ic, .int .u64 (x.l.s : Int), .string ⟨x.l.t.toArray⟩, .bool x.l.g] 29 5 (.string ⟨x.l.t.toArray⟩) rfl
  have p6 := box_cells w #[.string ⟨x.k.toArray⟩, .slice x.sa x.s.length x.sc, .slice x.ca x.c.length x.cc, .slice x.ia x.j.length x.ic, .int .u64 (x.l.s : Int), .string ⟨x.l.t.toArray⟩, .bool x.l.g] 29 6 (.bool x.l.g) rfl
  obtain ⟨w0, hw0⟩ : ∃ v, v = (w.alloc (.cells #[.string ⟨x.k.toArray⟩, .slice x.sa x.s.length x.sc, .slice x.ca x.c.length x.cc, .slice x.ia x.j.length x.ic, .int .u64 (x.l.s : Int), .string ⟨x.l.t.toArray⟩, .bool x.l.g] 29)) := ⟨_, rfl⟩
  rw [← hw0] at hb0 p0 p1 p2 p3 p4 p5 p6 ⊢
  obtain ⟨bp, hbp⟩ : ∃ b, b = w.heap.size := ⟨_, rfl⟩
  rw [← hbp] at p0 p1 p2 p3 p4 p5 p6 ⊢
  have hb := hb0
  clear hb0 hw0 hbp
  replace lx := Lib.hid (lx.out.below hb)
  go_wp2_with fail
  refine (C0.out _ lx.out).mono ?_
  rintro e v5 ⟨rfl, k5⟩
  replace p0 := (Coder.keepC p0 k5)
  replace p1 := (Coder.keepC p1 k5)
  replace p2 := (Coder.keepC p2 k5)
  replace p3 := (Coder.keepC p3 k5)
  replace p4 := (Coder.keepC p4 k5)
  replace p5 := (Coder.keepC p5 k5)
  replace p6 := (Coder.keepC p6 k5)
  replace lx := Lib.hid ((lx.out).below k5)
  replace hb := bstep hb k5
  clear k5
  go_wp2
  go_ret2
  exact ⟨rfl, hb⟩
set_option maxRecDepth 100000 in
set_option maxHeartbeats 8000000 in
theorem writeDelta (ba : Option Addr) (bc : Nat) (B : List M) (x : RS) (w : World) (hx : InnerD w ba B x) (ox : DOk B x) (hs : (fD B x).length ≤ 70368744177664) :
    Calls Tryz.prog 23 #[.agg #[.slice ba B.length bc, .slice x.aa x.a.length x.ac, .slice x.ea x.e.length x.ec, .slice x.pa x.p.length x.pc], .func (.func 24) #[] #[], .func (.func 25) #[] #[]] w fun e w' => e = .returned (.tuple #[.string ⟨(outS (mayD B x.s) (fD B x)).toArray⟩, .int .i64 (outE (mayD B x.s))]) ∧ Below w.heap.size w w' := by
  have lx := Lib.hid hx
  have OX := Lib.hid ox
  have HS := Lib.hid hs
  clear hx ox hs
  obtain ⟨q, hq⟩ : ∃ q, q = mayD B x.s := ⟨_, rfl⟩
  obtain ⟨l, hl⟩ : ∃ l, l = fD B x := ⟨_, rfl⟩
  rw [← hq, ← hl]
  have C0 := Lib.hid (fun W (h : InnerD W ba B x) => (by rw [hq]; exact mayD_any ba bc B x W h OX.out : Calls Tryz.prog 24 #[.agg #[.slice ba B.length bc, .slice x.aa x.a.length x.ac, .slice x.ea x.e.length x.ec, .slice x.pa x.p.length x.pc]] W fun e W' => e = .returned (.bool q) ∧ Below W.heap.size W W'))
  have C1 := Lib.hid (fun W (h : InnerD W ba B x) => (by rw [hl]; exact delta_any ba bc B x W h.1 OX.out.b OX.out.bm h.2 OX.out.ok HS.out : Calls Tryz.prog 25 #[.agg #[.slice ba B.length bc, .slice x.aa x.a.length x.ac, .slice x.ea x.e.length x.ec, .slice x.pa x.p.length x.pc]] W fun e W' => e = .returned (.string ⟨l.toArray⟩) ∧ Below W.heap.size W W'))
  clear hq hl
  go_enter Tryz.func23, Tryz.ntmps23
  go_upto_region 1 with (fail)
  have hb0 := balloc (Below.refl w.heap.size w) (.cells #[.slice ba B.length bc, .slice x.aa x.a.length x.ac, .slice x.ea x.e.length x.ec, .slice x.pa x.p.length x.pc] 35)
  have p0 := box_cells w #[.slice ba B.length bc, .slice x.aa x.a.length x.ac, .slice x.ea x.e.length x.ec, .slice x.pa x.p.length x.pc] 35 0 (.slice ba B.length bc) rfl
  have p1 := box_cells w #[.slice ba B.length bc, .slice x.aa x.a.length x.ac, .slice x.ea x.e.length x.ec, .slice x.pa x.p.length x.pc] 35 1 (.slice x.aa x.a.length x.ac) rfl
  have p2 := box_cells w #[.slice ba B.length bc, .slice x.aa x.a.length x.ac, .slice x.ea x.e.length x.ec, .slice x.pa x.p.length x.pc] 35 2 (.slice x.ea x.e.length x.ec) rfl
  have p3 := box_cells w #[.slice ba B.length bc, .slice x.aa x.a.length x.ac, .slice x.ea x.e.length x.ec, .slice x.pa x.p.length x.pc] 35 3 (.slice x.pa x.p.length x.pc) rfl
  obtain ⟨w0, hw0⟩ : ∃ v, v = (w.alloc (.cells #[.slice ba B.length bc, .slice x.aa x.a.length x.ac, .slice x.ea x.e.length x.ec, .slice x.pa x.p.length x.pc] 35)) := ⟨_, rfl⟩
  rw [← hw0] at hb0 p0 p1 p2 p3 ⊢
  obtain ⟨bp, hbp⟩ : ∃ b, b = w.heap.size := ⟨_, rfl⟩
  rw [← hbp] at p0 p1 p2 p3 ⊢
  have hb := hb0
  clear hb0 hw0 hbp
  replace lx := Lib.hid (lx.out.below hb)
  go_wp2_with fail
  refine (C0.out _ lx.out).mono ?_
  rintro e v6 ⟨rfl, k6⟩
  replace p0 := (Coder.keepC p0 k6)
  replace p1 := (Coder.keepC p1 k6)
  replace p2 := (Coder.keepC p2 k6)
  replace p3 := (Coder.keepC p3 k6)
  replace lx := Lib.hid ((lx.out).below k6)
  replace hb := bstep hb k6
  clear k6
  cases q
  · go_wp2
    go_ret2
    exact ⟨rfl, hb⟩
  go_wp2_with fail
  refine (C1.out _ lx.out).mono ?_
  rintro e v7 ⟨rfl, k7⟩
  replace p0 := (Coder.keepC p0 k7)
  replace p1 := (Coder.keepC p1 k7)
  replace p2 := (Coder.keepC p2 k7)
  replace p3 := (Coder.keepC p3 k7)
  replace lx := Lib.hid ((lx.out).below k7)
  replace hb := bstep hb k7
  clear k7
  go_wp2
  go_ret2
  exact ⟨rfl, hb⟩
set_option maxRecDepth 100000 in
set_option maxHeartbeats 8000000 in
theorem giveDelta (ba : Option Addr) (bc : Nat) (B : List M) (x : RS) (w : World) (hx : InnerD w ba B x) (ox : DOk B x) (hs : (fD B x).length ≤ 70368744177664) :
    Calls Tryz.prog 9 #[.agg #[.slice ba B.length bc, .slice x.aa x.a.length x.ac, .slice x.ea x.e.length x.ec, .slice x.pa x.p.length x.pc]] w fun e w' => e = .returned (.tuple #[.string ⟨(outS (mayD B x.s) (fD B x)).toArray⟩, .int .i64 (outE (mayD B x.s))]) ∧ Below w.heap.size w w' := by
  have lx := Lib.hid hx
  have OX := Lib.hid ox
  have HS := Lib.hid hs
  clear hx ox hs
  obtain ⟨q, hq⟩ : ∃ q, q = mayD B x.s := ⟨_, rfl⟩
  obtain ⟨l, hl⟩ : ∃ l, l = fD B x := ⟨_, rfl⟩
  rw [← hq, ← hl]
  have C0 := Lib.hid (fun W (h : InnerD W ba B x) => (by rw [hq, hl]; exact writeDelta ba bc B x W h OX.out HS.out : Calls Tryz.prog 23 #[.agg #[.slice ba B.length bc, .slice x.aa x.a.length x.ac, .slice x.ea x.e.length x.ec, .slice x.pa x.p.length x.pc], .func (.func 24) #[] #[], .func (.func 25) #[] #[]] W fun e W' => e = .returned (.tuple #[.string ⟨(outS q l).toArray⟩, .int .i64 (outE q)]) ∧ Below W.heap.size W W'))
  clear hq hl
  go_enter Tryz.func9, Tryz.ntmps9
  go_upto_region 1 with (fail)
  have hb0 := balloc (Below.refl w.heap.size w) (.cells #[.slice ba B.length bc, .slice x.aa x.a.length x.ac, .slice x.ea x.e.length x.ec, .slice x.pa x.p.length x.pc] 35)
  have p0 := box_cells w #[.slice ba B.length bc, .slice x.aa x.a.length x.ac, .slice x.ea x.e.length x.ec, .slice x.pa x.p.length x.pc] 35 0 (.slice ba B.length bc) rfl
  have p1 := box_cells w #[.slice ba B.length bc, .slice x.aa x.a.length x.ac, .slice x.ea x.e.length x.ec, .slice x.pa x.p.length x.pc] 35 1 (.slice x.aa x.a.length x.ac) rfl
  have p2 := box_cells w #[.slice ba B.length bc, .slice x.aa x.a.length x.ac, .slice x.ea x.e.length x.ec, .slice x.pa x.p.length x.pc] 35 2 (.slice x.ea x.e.length x.ec) rfl
  have p3 := box_cells w #[.slice ba B.length bc, .slice x.aa x.a.length x.ac, .slice x.ea x.e.length x.ec, .slice x.pa x.p.length x.pc] 35 3 (.slice x.pa x.p.length x.pc) rfl
  obtain ⟨w0, hw0⟩ : ∃ v, v = (w.alloc (.cells #[.slice ba B.length bc, .slice x.aa x.a.length x.ac, .slice x.ea x.e.length x.ec, .slice x.pa x.p.length x.pc] 35)) := ⟨_, rfl⟩
  rw [← hw0] at hb0 p0 p1 p2 p3 ⊢
  obtain ⟨bp, hbp⟩ : ∃ b, b = w.heap.size := ⟨_, rfl⟩
  rw [← hbp] at p0 p1 p2 p3 ⊢
  have hb := hb0
  clear hb0 hw0 hbp
  replace lx := Lib.hid (lx.out.below hb)
  go_wp2_with fail
  refine (C0.out _ lx.out).mono ?_
  rintro e v8 ⟨rfl, k8⟩
  replace p0 := (Coder.keepC p0 k8)
  replace p1 := (Coder.keepC p1 k8)
  replace p2 := (Coder.keepC p2 k8)
  replace p3 := (Coder.keepC p3 k8)
  replace lx := Lib.hid ((lx.out).below k8)
  replace hb := bstep hb k8
  clear k8
  go_wp2
  go_ret2
  exact ⟨rfl, hb⟩
set_option maxRecDepth 100000 in
set_option maxHeartbeats 8000000 in
theorem writeOp (x : O) (w : World) (ox : x.Ok) :
    Calls Tryz.prog 27 #[.agg #[.int .u8 (x.d : Int), .string ⟨x.k.toArray⟩, .int .i64 x.n, .string ⟨x.t.toArray⟩], .func (.func 28) #[] #[], .func (.func 29) #[] #[]] w fun e w' => e = .returned (.tuple #[.string ⟨(outS (mayO x) (opb x)).toArray⟩, .int .i64 (outE (mayO x))]) ∧ Below w.heap.size w w' := by
  have OX := Lib.hid ox
  clear ox
  obtain ⟨q, hq⟩ : ∃ q, q = mayO x := ⟨_, rfl⟩
  obtain ⟨l, hl⟩ : ∃ l, l = opb x := ⟨_, rfl⟩
  rw [← hq, ← hl]
  have C0 := Lib.hid (fun W  => (by rw [hq]; exact mayO_any x.d x.k x.n x.t W OX.out.k : Calls Tryz.prog 28 #[.agg #[.int .u8 (x.d : Int), .string ⟨x.k.toArray⟩, .int .i64 x.n, .string ⟨x.t.toArray⟩]] W fun e W' => e = .returned (.bool q) ∧ Below W.heap.size W W'))
  have C1 := Lib.hid (fun W  => (by rw [hl]; exact op_any x W OX.out : Calls Tryz.prog 29 #[.agg #[.int .u8 (x.d : Int), .string ⟨x.k.toArray⟩, .int .i64 x.n, .string ⟨x.t.toArray⟩]] W fun e W' => e = .returned (.string ⟨l.toArray⟩) ∧ Below W.heap.size W W'))
  clear hq hl
  go_enter Tryz.func27, Tryz.ntmps27
  go_upto_region 1 with (fail)
  have hb0 := balloc (Below.refl w.heap.size w) (.cells #[.int .u8 (x.d : Int), .string ⟨x.k.toArray⟩, .int .i64 x.n, .string ⟨x.t.toArray⟩] 37)
  have p0 := box_cells w #[.int .u8 (x.d : Int), .string ⟨x.k.toArray⟩, .int .i64 x.n, .string ⟨x.t.toArray⟩] 37 0 (.int .u8 (x.d : Int)) rfl
  have p1 := box_cells w #[.int .u8 (x.d : Int), .string ⟨x.k.toArray⟩, .int .i64 x.n, .string ⟨x.t.toArray⟩] 37 1 (.string ⟨x.k.toArray⟩) rfl
  have p2 := box_cells w #[.int .u8 (x.d : Int), .string ⟨x.k.toArray⟩, .int .i64 x.n, .string ⟨x.t.toArray⟩] 37 2 (.int .i64 x.n) rfl
  have p3 := box_cells w #[.int .u8 (x.d : Int), .string ⟨x.k.toArray⟩, .int .i64 x.n, .string ⟨x.t.toArray⟩] 37 3 (.string ⟨x.t.toArray⟩) rfl
  obtain ⟨w0, hw0⟩ : ∃ v, v = (w.alloc (.cells #[.int .u8 (x.d : Int), .string ⟨x.k.toArray⟩, .int .i64 x.n, .string ⟨x.t.toArray⟩] 37)) := ⟨_, rfl⟩
  rw [← hw0] at hb0 p0 p1 p2 p3 ⊢
  obtain ⟨bp, hbp⟩ : ∃ b, b = w.heap.size := ⟨_, rfl⟩
  rw [← hbp] at p0 p1 p2 p3 ⊢
  have hb := hb0
  clear hb0 hw0 hbp
  go_wp2_with fail
  refine (C0.out _).mono ?_
  rintro e v9 ⟨rfl, k9⟩
  replace p0 := (Coder.keepC p0 k9)
  replace p1 := (Coder.keepC p1 k9)
  replace p2 := (Coder.keepC p2 k9)
  replace p3 := (Coder.keepC p3 k9)
  replace hb := bstep hb k9
  clear k9
  cases q
  · go_wp2
    go_ret2
    exact ⟨rfl, hb⟩
  go_wp2_with fail
  refine (C1.out _).mono ?_
  rintro e v10 ⟨rfl, k10⟩
  replace p0 := (Coder.keepC p0 k10)
  replace p1 := (Coder.keepC p1 k10)
  replace p2 := (Coder.keepC p2 k10)
  replace p3 := (Coder.keepC p3 k10)
  replace hb := bstep hb k10
  clear k10
  go_wp2
  go_ret2
  exact ⟨rfl, hb⟩
set_option maxRecDepth 100000 in
set_option maxHeartbeats 8000000 in
theorem giveOp (x : O) (w : World) (ox : x.Ok) :
    Calls Tryz.prog 12 #[.agg #[.int .u8 (x.d : Int), .string ⟨x.k.toArray⟩, .int .i64 x.n, .string ⟨x.t.toArray⟩]] w fun e w' => e = .returned (.tuple #[.string ⟨(outS (mayO x) (opb x)).toArray⟩, .int .i64 (outE (mayO x))]) ∧ Below w.heap.size w w' := by
  have OX := Lib.hid ox
  clear ox
  obtain ⟨q, hq⟩ : ∃ q, q = mayO x := ⟨_, rfl⟩
  obtain ⟨l, hl⟩ : ∃ l, l = opb x := ⟨_, rfl⟩
  rw [← hq, ← hl]
  have C0 := Lib.hid (fun W  => (by rw [hq, hl]; exact writeOp x W OX.out : Calls Tryz.prog 27 #[.agg #[.int .u8 (x.d : Int), .string ⟨x.k.toArray⟩, .int .i64 x.n, .string ⟨x.t.toArray⟩], .func (.func 28) #[] #[], .func (.func 29) #[] #[]] W fun e W' => e = .returned (.tuple #[.string ⟨(outS q l).toArray⟩, .int .i64 (outE q)]) ∧ Below W.heap.size W W'))
  clear hq hl
  go_enter Tryz.func12, Tryz.ntmps12
  go_upto_region 1 with (fail)
  have hb0 := balloc (Below.refl w.heap.size w) (.cells #[.int .u8 (x.d : Int), .string ⟨x.k.toArray⟩, .int .i64 x.n, .string ⟨x.t.toArray⟩] 37)
  have p0 := box_cells w #[.int .u8 (x.d : Int), .string ⟨x.k.toArray⟩, .int .i64 x.n, .string ⟨x.t.toArray⟩] 37 0 (.int .u8 (x.d : Int)) rfl
  have p1 := box_cells w #[.int .u8 (x.d : Int), .string ⟨x.k.toArray⟩, .int .i64 x.n, .string ⟨x.t.toArray⟩] 37 1 (.string ⟨x.k.toArray⟩) rfl
  have p2 := box_cells w #[.int .u8 (x.d : Int), .string ⟨x.k.toArray⟩, .int .i64 x.n, .string ⟨x.t.toArray⟩] 37 2 (.int .i64 x.n) rfl
  have p3 := box_cells w #[.int .u8 (x.d : Int), .string ⟨x.k.toArray⟩, .int .i64 x.n, .string ⟨x.t.toArray⟩] 37 3 (.string ⟨x.t.toArray⟩) rfl
  obtain ⟨w0, hw0⟩ : ∃ v, v = (w.alloc (.cells #[.int .u8 (x.d : Int), .string ⟨x.k.toArray⟩, .int .i64 x.n, .string ⟨x.t.toArray⟩] 37)) := ⟨_, rfl⟩
  rw [← hw0] at hb0 p0 p1 p2 p3 ⊢
  obtain ⟨bp, hbp⟩ : ∃ b, b = w.heap.size := ⟨_, rfl⟩
  rw [← hbp] at p0 p1 p2 p3 ⊢
  have hb := hb0
  clear hb0 hw0 hbp
  go_wp2_with fail
  refine (C0.out _).mono ?_
  rintro e v11 ⟨rfl, k11⟩
  replace p0 := (Coder.keepC p0 k11)
  replace p1 := (Coder.keepC p1 k11)
  replace p2 := (Coder.keepC p2 k11)
  replace p3 := (Coder.keepC p3 k11)
  replace hb := bstep hb k11
  clear k11
  go_wp2
  go_ret2
  exact ⟨rfl, hb⟩
end Coder
end Go.Proofs.YtnpjkmomllkhpaaGreat
