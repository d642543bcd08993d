/- Merged texts: CoderLarge, CoderSameS. -/
import Derived.Test.YtnpjkmomllkhpaaGreatTake
import Derived.Test.YtnpjkmomllkhpaaGreatTmCoderState
import Derived.Test.YtnpjkmomllkhpaaGreatTmBagWt
import Derived.Test.YtnpjkmomllkhpaaGreatTmCellA
import Derived.Test.YtnpjkmomllkhpaaGreatTmCodC
namespace Go.Proofs.YtnpjkmomllkhpaaGreat
namespace Coder
open Go.RowKit Go.Proofs.YtnpjkmomllkhpaaGreat.Mark Go.Proofs.YtnpjkmomllkhpaaGreat.Num Go.Proofs.YtnpjkmomllkhpaaGreat.Wire Go.Proofs.YtnpjkmomllkhpaaGreat.Bag Go.Proofs.YtnpjkmomllkhpaaGreat.Dots
theorem InnerI.lies' {w : World} {x : RE} (h : InnerI w x) : Bag.Lies w x.ia x.j.length (x.j.map RI.it) := ⟨x.j, rfl, h.1, h.2⟩
/-- An entry that a statement looks at. -/
structure RE.Few (x : RE) : Prop where
  k : x.k.length ≤ 1024
  s : x.s.length ≤ 60
  c : x.c.length ≤ 60
  i : BagLaw.wt (x.j.map RI.it) ≤ 400
  t : x.l.t.length ≤ 8192
structure RS.Few (x : RS) : Prop where
  a : x.a.length ≤ 60
  e : x.e.length ≤ 20
  em : ∀ y ∈ x.e, y.Few
  p : x.p.length ≤ 60
  pm : ∀ t ∈ x.p, t.length ≤ 256
set_option maxHeartbeats 400000 in
theorem long_any (a : Option Addr) (n c : Nat) (w : World) : Calls Tryz.prog 13 #[.slice a n c] w fun e w' => e = .returned (.bool (decide ((60 : Int) < (n : Int)))) ∧ w = w' := by
  go_enter Tryz.func13, Tryz.ntmps13
  go_wp2
  go_ret
  exact ⟨rfl, rfl⟩
set_option maxRecDepth 100000 in
set_option maxHeartbeats 8000000 in
theorem largeE_any (x : RE) (w : World) (hx : InnerE w x) (ox : x.Ok) :
    Calls Tryz.prog 4 #[.agg #[.string ⟨x.k.toArray⟩, .slice x.sa x.s.length x.sc, .slice x.ca x.c.length x.cc, .slice x.ia x.j.length x.ic, .int .u64 (x.l.s : Int), .string ⟨x.l.t.toArray⟩, .bool x.l.g]] w fun e w' => ∃ z, e = .returned (.bool z) ∧ (z = false → x.Few) ∧ Below w.heap.size w w' := by
  have kx := Lib.hid hx
  have OX := Lib.hid ox
  clear hx ox
  have z0 := Str.size_mk x.k
  have z5 := Str.size_mk x.l.t
  have C3 := Lib.hid (fun W (hx : InnerE W x) => BagLaw.large_any (x.j.map RI.it) x.ia x.j.length x.ic W hx.i.lies' (by have := OX.out.j; omega) (fun z hz => by
    obtain ⟨u, hu, rfl⟩ := List.mem_map.1 hz
    have h1 := (OX.out.jm u hu).1
    have h2 := (OX.out.jm u hu).2.1
    exact ⟨by show u.t.length ≤ _; omega, by show u.d.length ≤ _; omega⟩))
  have C4 := Lib.hid (fun W => Cell.large_any (x.l.s : Int) ⟨x.l.t.toArray⟩ x.l.g W)
  rw [z5] at C4
  go_enter Tryz.func4, Tryz.ntmps4
  go_upto_region 1 with (fail)
  have hb0 := balloc (Below.refl w.heap.size w) (.cells #[.string ⟨x.k.toArray⟩, .slice x.sa x.s.length x.sc, .slice x.ca x.c.length x.cc, .slice x.ia x.j.length x.ic, .int .u64 (x.l.s : Int), .string ⟨x.l.t.toArray⟩, .bool x.l.g] 29)
  have p0 := box_cells w #[.string ⟨x.k.toArray⟩, .slice x.sa x.s.length x.sc, .slice x.ca x.c.length x.cc, .slice x.ia x.j.length x.ic, .int .u64 (x.l.s : Int), .string ⟨x.l.t.toArray⟩, .bool x.l.g] 29 0 (.string ⟨x.k.toArray⟩) rfl
  have p1 := box_cells w #[.string ⟨x.k.toArray⟩, .slice x.sa x.s.length x.sc, .slice x.ca x.c.length x.cc, .slice x.ia x.j.length x.ic, .int .u64 (x.l.s : Int), .string ⟨x.l.t.toArray⟩, .bool x.l.g] 29 1 (.slice x.sa x.s.length x.sc) rfl
  have p2 := box_cells w #[.string ⟨x.k.toArray⟩, .slice x.sa x.s.length x.sc, .slice x.ca x.c.length x.cc, .slice x.ia x.j.length x.ic, .int .u64 (x.l.s : Int), .string ⟨x.l.t.toArray⟩, .bool x.l.g] 29 2 (.slice x.ca x.c.length x.cc) rfl
  have p3 := box_cells w #[.string ⟨x.k.toArray⟩, .slice x.sa x.s.length x.sc, .slice x.ca x.c.length x.cc, .slice x.ia x.j.length x.ic, .int .u64 (x.l.s : Int), .string ⟨x.l.t.toArray⟩, .bool x.l.g] 29 3 (.slice x.ia x.j.length x.ic) rfl
  have p4 := box_cells w #[.string ⟨x.k.toArray⟩, .slice x.sa x.s.length x.sc, .slice x.ca x.c.length x.cc, .slice x.ia x.j.length x.ic, .int .u64 (x.l.s : Int), .string ⟨x.l.t.toArray⟩, .bool x.l.g] 29 4 (.int .u64 (x.l.s : Int)) rfl
  have p5 := box_cells w #[.string ⟨x.k.toArray⟩, .slice x.sa x.s.length x.sc, .slice x.ca x.c.length x.cc, .slice x.ia x.j.length x.ic, .int .u64 (x.l.s : Int), .string ⟨x.l.t.toArray⟩, .bool x.l.g] 29 5 (.string ⟨x.l.t.toArray⟩) rfl
  have p6 := box_cells w #[.string ⟨x.k.toArray⟩, .slice x.sa x.s.length x.sc, .slice x.ca x.c.length x.cc, .slice x.ia x.j.length x.ic, .int .u64 (x.l.s : Int), .string ⟨x.l.t.toArray⟩, .bool x.l.g] 29 6 (.bool x.l.g) rfl
  obtain ⟨w0, hw0⟩ : ∃ v, v = (w.alloc (.cells #[.string ⟨x.k.toArray⟩, .slice x.sa x.s.length x.sc, .slice x.ca x.c.length x.cc, .slice x.ia x.j.length x.ic, .int .u64 (x.l.s : Int), .string ⟨x.l.t.toArray⟩, .bool x.l.g] 29)) := ⟨_, rfl⟩
  rw [← hw0] at hb0 p0 p1 p2 p3 p4 p5 p6 ⊢
  obtain ⟨bp, hbp⟩ : ∃ b, b = w.heap.size := ⟨_, rfl⟩
  rw [← hbp] at p0 p1 p2 p3 p4 p5 p6 ⊢
  have hb := hb0
  clear hb0 hw0 hbp
  replace kx := Lib.hid (kx.out.below hb)
  by_cases h0 : 1024 < x.k.length
  · have d0 : decide ((1024 : Int) < (x.k.length : Int)) = true := decide_eq_true (by omega)
    clear h0
    go_wp2
    go_ret
    exact ⟨true, rfl, (fun h => by cases h), hb⟩
  have d0 : decide ((1024 : Int) < (x.k.length : Int)) = false := decide_eq_false (by omega)
  replace h0 := Lib.hid h0
  by_cases h1 : 60 < x.s.length
  · have d1 : decide ((60 : Int) < (x.s.length : Int)) = true := decide_eq_true (by omega)
    clear h1
    go_wp2
    go_ret
    exact ⟨true, rfl, (fun h => by cases h), hb⟩
  have d1 : decide ((60 : Int) < (x.s.length : Int)) = false := decide_eq_false (by omega)
  replace h1 := Lib.hid h1
  by_cases h2 : 60 < x.c.length
  · have d2 : decide ((60 : Int) < (x.c.length : Int)) = true := decide_eq_true (by omega)
    clear h2
    go_wp2_with fail
    refine (long_any _ _ _ _).mono ?_
    rintro e w1 ⟨rfl, rfl⟩
    rw [d2]
    go_wp2
    go_ret
    exact ⟨true, rfl, (fun h => by cases h), hb⟩
  have d2 : decide ((60 : Int) < (x.c.length : Int)) = false := decide_eq_false (by omega)
  replace h2 := Lib.hid h2
  go_wp2_with fail
  refine (long_any _ _ _ _).mono ?_
  rintro e w1 ⟨rfl, rfl⟩
  rw [d2]
  go_wp2_with fail
  refine (C3.out _ kx.out).mono ?_
  rintro e v1 ⟨z, rfl, hz, k1⟩
  replace p0 := (Coder.keepC p0 k1)
  replace p1 := (Coder.keepC p1 k1)
  replace p2 := (Coder.keepC p2 k1)
  replace p3 := (Coder.keepC p3 k1)
  replace p4 := (Coder.keepC p4 k1)
  replace p5 := (Coder.keepC p5 k1)
  replace p6 := (Coder.keepC p6 k1)
  replace kx := Lib.hid ((kx.out).below k1)
  replace hb := bstep hb k1
  clear k1
  replace hz := Lib.hid hz
  cases z
  · skip
    by_cases h4 : 8192 < x.l.t.length
    · have d4 : decide ((8192 : Int) < (x.l.t.length : Int)) = true := decide_eq_true (by omega)
      clear h4
      rw [d4] at C4
      go_wp2_with fail
      refine (C4.out _).mono ?_
      rintro e v2 ⟨rfl, k2⟩
      replace p0 := (Coder.keepC p0 k2)
      replace p1 := (Coder.keepC p1 k2)
      replace p2 := (Coder.keepC p2 k2)
      replace p3 := (Coder.keepC p3 k2)
      replace p4 := (Coder.keepC p4 k2)
      replace p5 := (Coder.keepC p5 k2)
      replace p6 := (Coder.keepC p6 k2)
      replace kx := Lib.hid ((kx.out).below k2)
      replace hb := bstep hb k2
      clear k2
      go_wp2
      go_ret
      exact ⟨true, rfl, (fun h => by cases h), hb⟩
    have d4 : decide ((8192 : Int) < (x.l.t.length : Int)) = false := decide_eq_false (by omega)
    replace h4 := Lib.hid h4
    rw [d4] at C4
    go_wp2_with fail
    refine (C4.out _).mono ?_
    rintro e v3 ⟨rfl, k3⟩
    replace p0 := (Coder.keepC p0 k3)
    replace p1 := (Coder.keepC p1 k3)
    replace p2 := (Coder.keepC p2 k3)
    replace p3 := (Coder.keepC p3 k3)
    replace p4 := (Coder.keepC p4 k3)
    replace p5 := (Coder.keepC p5 k3)
    replace p6 := (Coder.keepC p6 k3)
    replace kx := Lib.hid ((kx.out).below k3)
    replace hb := bstep hb k3
    clear k3
    go_wp2
    go_ret
    exact ⟨false, rfl, fun _ => ⟨by have := h0.out; omega, by have := h1.out; omega, by have := h2.out; omega, (by first | exact hz.out rfl | exact hz.out trivial | exact hz.out), by have := h4.out; omega⟩, hb⟩
  · skip
    go_wp2
    go_ret
    exact ⟨true, rfl, (fun h => by cases h), hb⟩
end Coder
end Go.Proofs.YtnpjkmomllkhpaaGreat

namespace Go.Proofs.YtnpjkmomllkhpaaGreat
namespace Coder
open Go.RowKit Go.Proofs.YtnpjkmomllkhpaaGreat.Mark Go.Proofs.YtnpjkmomllkhpaaGreat.Num Go.Proofs.YtnpjkmomllkhpaaGreat.Wire Go.Proofs.YtnpjkmomllkhpaaGreat.Bag Go.Proofs.YtnpjkmomllkhpaaGreat.Dots
theorem same_s (x y : RS) : decide (x.s = y.s) = (decide (x.a = y.a) && (decide (x.e.map RE.e = y.e.map RE.e) && decide (x.p = y.p))) := by
  rw [Bool.eq_iff_iff]
  simp only [Bool.and_eq_true, decide_eq_true_eq, RS.s, S.mk.injEq]
set_option maxRecDepth 100000 in
set_option maxHeartbeats 8000000 in
theorem sameS_any (x y : RS) (w : World) (hx : InnerS w x) (hy : InnerS w y) (ox : x.Ok) (oy : y.Ok) :
    Calls Tryz.prog 11 #[.agg #[.slice x.aa x.a.length x.ac, .slice x.ea x.e.length x.ec, .slice x.pa x.p.length x.pc], .agg #[.slice y.aa y.a.length y.ac, .slice y.ea y.e.length y.ec, .slice y.pa y.p.length y.pc]] w fun e w' => e = .returned (.bool (decide (x.s = y.s))) ∧ Below w.heap.size w w' := by
  have lx := Lib.hid hx
  have ly := Lib.hid hy
  have hnx := ox.e
  have hny := oy.e
  have OX := Lib.hid ox
  have OY := Lib.hid oy
  clear hx hy ox oy
  obtain ⟨V, hV⟩ : ∃ V, V = decide (x.s = y.s) := ⟨_, rfl⟩
  rw [← hV]
  obtain ⟨q0, hq0⟩ : ∃ q, q = decide (x.a = y.a) := ⟨_, rfl⟩
  obtain ⟨q2, hq2⟩ : ∃ q, q = decide (x.p = y.p) := ⟨_, rfl⟩
  have HV : Hid (V = (q0 && (decide (x.e.map RE.e = y.e.map RE.e) && q2))) := Lib.hid (by rw [hV, hq0, hq2]; exact same_s x y)
  have C0 := Lib.hid (fun W (hx : InnerS W x) (hy : InnerS W y) => (by rw [hq0]; exact RefDots.same_any x.a y.a x.aa y.aa x.a.length y.a.length x.ac y.ac W hx.a hy.a (by have := OX.out.a; omega) (by have := OY.out.a; omega) : Calls Tryz.prog 10 #[.slice x.aa x.a.length x.ac, .slice y.aa y.a.length y.ac] W fun e W' => e = .returned (.bool q0) ∧ Below W.heap.size W W'))
  have C2 := Lib.hid (fun W (hx : InnerS W x) (hy : InnerS W y) => (by rw [hq2]; exact texts_any x.p y.p x.pa y.pa x.p.length y.p.length x.pc y.pc W hx.p hy.p (by have := OX.out.p; omega) : Calls Tryz.prog 26 #[.slice x.pa x.p.length x.pc, .slice y.pa y.p.length y.pc] W fun e W' => e = .returned (.bool q2) ∧ Below W.heap.size W W'))
  clear hq0 hq2 hV
  go_enter Tryz.func11, Tryz.ntmps11
  go_upto_region 1 with (fail)
  have hb0 := balloc (balloc (Below.refl w.heap.size w) (.cells #[.slice x.aa x.a.length x.ac, .slice x.ea x.e.length x.ec, .slice x.pa x.p.length x.pc] 33)) (.cells #[.slice y.aa y.a.length y.ac, .slice y.ea y.e.length y.ec, .slice y.pa y.p.length y.pc] 33)
  have p0 := Coder.keepC (box_cells w #[.slice x.aa x.a.length x.ac, .slice x.ea x.e.length x.ec, .slice x.pa x.p.length x.pc] 33 0 (.slice x.aa x.a.length x.ac) rfl) (balloc (Below.refl _ _) (.cells #[.slice y.aa y.a.length y.ac, .slice y.ea y.e.length y.ec, .slice y.pa y.p.length y.pc] 33))
  have p1 := Coder.keepC (box_cells w #[.slice x.aa x.a.length x.ac, .slice x.ea x.e.length x.ec, .slice x.pa x.p.length x.pc] 33 1 (.slice x.ea x.e.length x.ec) rfl) (balloc (Below.refl _ _) (.cells #[.slice y.aa y.a.length y.ac, .slice y.ea y.e.length y.ec, .slice y.pa y.p.length y.pc] 33))
  have p2 := Coder.keepC (box_cells w #[.slice x.aa x.a.length x.ac, .slice x.ea x.e.length x.ec, .slice x.pa x.p.length x.pc] 33 2 (.slice x.pa x.p.length x.pc) rfl) (balloc (Below.refl _ _) (.cells #[.slice y.aa y.a.length y.ac, .slice y.ea y.e.length y.ec, .slice y.pa y.p.length y.pc] 33))
  have r0 := box_cells (w.alloc (.cells #[.slice x.aa x.a.length x.ac, .slice x.ea x.e.length x.ec, .slice x.pa x.p.length x.pc] 33)) #[.slice y.aa y.a.length y.ac, .slice y.ea y.e.length y.ec, .slice y.pa y.p.length y.pc] 33 0 (.slice y.aa y.a.length y.ac) rfl
  simp only [World.size_alloc] at r0
  have r1 := box_cells (w.alloc (.cells #[.slice x.aa x.a.length x.ac, .slice x.ea x.e.length x.ec, .slice x.pa x.p.length x.pc] 33)) #[.slice y.aa y.a.length y.ac, .slice y.ea y.e.length y.ec, .slice y.pa y.p.length y.pc] 33 1 (.slice y.ea y.e.length y.ec) rfl
  simp only [World.size_alloc] at r1
  have r2 := box_cells (w.alloc (.cells #[.slice x.aa x.a.length x.ac, .slice x.ea x.e.length x.ec, .slice x.pa x.p.length x.pc] 33)) #[.slice y.aa y.a.length y.ac, .slice y.ea y.e.length y.ec, .slice y.pa y.p.length y.pc] 33 2 (.slice y.pa y.p.length y.pc) rfl
  simp only [World.size_alloc] at r2
  obtain ⟨w0, hw0⟩ : ∃ v, v = ((w.alloc (.cells #[.slice x.aa x.a.length x.ac, .slice x.ea x.e.length x.ec, .slice x.pa x.p.length x.pc] 33)).alloc (.cells #[.slice y.aa y.a.length y.ac, .slice y.ea y.e.length y.ec, .slice y.pa y.p.length y.pc] 33)) := ⟨_, rfl⟩
  rw [← hw0] at hb0 p0 p1 p2 r0 r1 r2 ⊢
  obtain ⟨br, hbr⟩ : ∃ b, b = w.heap.size + 1 := ⟨_, rfl⟩
  rw [← hbr] at r0 r1 r2 ⊢
  obtain ⟨bp, hbp⟩ : ∃ b, b = w.heap.size := ⟨_, rfl⟩
  rw [← hbp] at p0 p1 p2 ⊢
  have hb := hb0
  clear hb0 hw0 hbp hbr
  replace lx := Lib.hid (lx.out.below hb)
  replace ly := Lib.hid (ly.out.below hb)
  go_wp2_with fail
  refine (C0.out _ lx.out ly.out).mono ?_
  rintro e v1 ⟨rfl, k1⟩
  replace p0 := (Coder.keepC p0 k1)
  replace p1 := (Coder.keepC p1 k1)
  replace p2 := (Coder.keepC p2 k1)
  replace r0 := (Coder.keepC r0 k1)
  replace r1 := (Coder.keepC r1 k1)
  replace r2 := (Coder.keepC r2 k1)
  replace lx := Lib.hid ((lx.out).below k1)
  replace ly := Lib.hid ((ly.out).below k1)
  replace hb := bstep hb k1
  clear k1
  cases q0
  · skip
    have HV2 : Hid (V = false) := Lib.hid (by rw [HV.out]; try simp)
    go_wp2
    go_ret
    exact ⟨by rw [HV2.out]; rfl, hb⟩
  by_cases hn : x.e.length = y.e.length
  rotate_left
  · have hne : ((x.e.length : Int) != (y.e.length : Int)) = true := by rw [bne_iff_ne]; omega
    have he : decide (x.e.map RE.e = y.e.map RE.e) = false := decide_eq_false fun h => hn (by have := congrArg List.length h; simpa using this)
    have HV2 : Hid (V = false) := Lib.hid (by rw [HV.out, he]; try simp)
    go_wp2
    go_ret
    exact ⟨by rw [HV2.out]; rfl, hb⟩
  have hne : ((x.e.length : Int) != (y.e.length : Int)) = false := by rw [bne_eq_false_iff_eq]; omega
  have HN := Lib.hid hn
  clear hn
  go_wp2_with fail
  refine (C2.out _ lx.out ly.out).mono ?_
  rintro e v2 ⟨rfl, k2⟩
  replace p0 := (Coder.keepC p0 k2)
  replace p1 := (Coder.keepC p1 k2)
  replace p2 := (Coder.keepC p2 k2)
  replace r0 := (Coder.keepC r0 k2)
  replace r1 := (Coder.keepC r1 k2)
  replace r2 := (Coder.keepC r2 k2)
  replace lx := Lib.hid ((lx.out).below k2)
  replace ly := Lib.hid ((ly.out).below k2)
  replace hb := bstep hb k2
  clear k2
  cases q2
  · skip
    have HV2 : Hid (V = false) := Lib.hid (by rw [HV.out]; try simp)
    go_wp2
    go_ret
    exact ⟨by rw [HV2.out]; rfl, hb⟩
  have HV1 : Hid (V = decide (x.e.map RE.e = y.e.map RE.e)) := Lib.hid (by rw [HV.out]; simp)
  clear HV C0 C2
  go_wp2_with fail
  go_loopw [5] (fun iv wr => ∃ k : Nat, k ≤ x.e.length ∧ iv = .int .i64 k ∧ Hid ((x.e.map RE.e).take k = (y.e.map RE.e).take k) ∧ Below w.heap.size w wr ∧ (wr.cell? ⟨bp, 0, none⟩ = some (.slice x.aa x.a.length x.ac)) ∧ (wr.cell? ⟨bp, 1, none⟩ = some (.slice x.ea x.e.length x.ec)) ∧ (wr.cell? ⟨bp, 2, none⟩ = some (.slice x.pa x.p.length x.pc)) ∧ (wr.cell? ⟨br, 0, none⟩ = some (.slice y.aa y.a.length y.ac)) ∧ (wr.cell? ⟨br, 1, none⟩ = some (.slice y.ea y.e.length y.ec)) ∧ (wr.cell? ⟨br, 2, none⟩ = some (.slice y.pa y.p.length y.pc)) ∧ Hid (InnerS wr x) ∧ Hid (InnerS wr y)) (fun iv _ => x.e.length - (intOf iv).toNat)
  case atStart => exact ⟨0, by omega, rfl, Lib.hid rfl, hb, p0, p1, p2, r0, r1, r2, lx, ly⟩
  case round =>
    clear hb p0 p1 p2 r0 r1 r2 lx ly
    obtain ⟨k, hk, rfl, hs, hb, p0, p1, p2, r0, r1, r2, lx, ly⟩ := hrel
    by_cases hlt : k < x.e.length
    rotate_left
    · have HE : Hid (V = true) := Lib.hid (by
        have e := HN.out
        rw [HV1.out]
        refine decide_eq_true ?_
        have h := hs.out
        rw [List.take_of_length_le (by simp; omega), List.take_of_length_le (by simp; omega)] at h
        exact h)
      go_wp2
      go_ret
      exact ⟨by rw [HE.out]; rfl, hb⟩
    have hl2 : k < y.e.length := by have := HN.out; omega
    have d1 : decide ((k : Int) < (x.e.length : Int)) = true := decide_eq_true (by omega)
    have j1 : (0 : Int) ≤ (k : Int) := by omega
    have j2 : (k : Int) < (x.e.length : Int) := by omega
    have j3 : (k : Int) < (y.e.length : Int) := by omega
    obtain ⟨b, o, hea, hc⟩ := lx.out.e.1.2 (by omega)
    obtain ⟨b2, o2, heb, hc2⟩ := ly.out.e.1.2 (by omega)
    rw [hea] at p1 ⊢
    rw [heb] at r1 ⊢
    have c0 : wr.cell? ⟨b, o + k * 7, none⟩ = some (.string ⟨(x.e[k]).k.toArray⟩) := hc k hlt 0 _ rfl
    have c1 : wr.cell? ⟨b, o + k * 7 + 1, none⟩ = some (.slice (x.e[k]).sa (x.e[k]).s.length (x.e[k]).sc) := hc k hlt 1 _ rfl
    have c2 : wr.cell? ⟨b, o + k * 7 + 2, none⟩ = some (.slice (x.e[k]).ca (x.e[k]).c.length (x.e[k]).cc) := hc k hlt 2 _ rfl
    have c3 : wr.cell? ⟨b, o + k * 7 + 3, none⟩ = some (.slice (x.e[k]).ia (x.e[k]).j.length (x.e[k]).ic) := hc k hlt 3 _ rfl
    have c4 : wr.cell? ⟨b, o + k * 7 + 4, none⟩ = some (.int .u64 ((x.e[k]).l.s : Int)) := hc k hlt 4 _ rfl
    have c5 : wr.cell? ⟨b, o + k * 7 + 5, none⟩ = some (.string ⟨(x.e[k]).l.t.toArray⟩) := hc k hlt 5 _ rfl
    have c6 : wr.cell? ⟨b, o + k * 7 + 6, none⟩ = some (.bool (x.e[k]).l.g) := hc k hlt 6 _ rfl
    have f0 : wr.cell? ⟨b2, o2 + k * 7, none⟩ = some (.string ⟨(y.e[k]).k.toArray⟩) := hc2 k hl2 0 _ rfl
    have f1 : wr.cell? ⟨b2, o2 + k * 7 + 1, none⟩ = some (.slice (y.e[k]).sa (y.e[k]).s.length (y.e[k]).sc) := hc2 k hl2 1 _ rfl
    have f2 : wr.cell? ⟨b2, o2 + k * 7 + 2, none⟩ = some (.slice (y.e[k]).ca (y.e[k]).c.length (y.e[k]).cc) := hc2 k hl2 2 _ rfl
    have f3 : wr.cell? ⟨b2, o2 + k * 7 + 3, none⟩ = some (.slice (y.e[k]).ia (y.e[k]).j.length (y.e[k]).ic) := hc2 k hl2 3 _ rfl
    have f4 : wr.cell? ⟨b2, o2 + k * 7 + 4, none⟩ = some (.int .u64 ((y.e[k]).l.s : Int)) := hc2 k hl2 4 _ rfl
    have f5 : wr.cell? ⟨b2, o2 + k * 7 + 5, none⟩ = some (.string ⟨(y.e[k]).l.t.toArray⟩) := hc2 k hl2 5 _ rfl
    have f6 : wr.cell? ⟨b2, o2 + k * 7 + 6, none⟩ = some (.bool (y.e[k]).l.g) := hc2 k hl2 6 _ rfl
    have lu : Hid (InnerE wr (x.e[k])) := Lib.hid (lx.out.e.2 _ (List.getElem_mem hlt))
    have lv : Hid (InnerE wr (y.e[k])) := Lib.hid (ly.out.e.2 _ (List.getElem_mem hl2))
    have OU := Lib.hid (OX.out.em _ (List.getElem_mem hlt))
    have OV := Lib.hid (OY.out.em _ (List.getElem_mem hl2))
    have t1 : (x.e.map RE.e).take (k + 1) = (x.e.map RE.e).take k ++ [(x.e[k]).e] := by rw [List.take_succ_eq_append_getElem (by simpa using hlt), List.getElem_map]
    have t2 : (y.e.map RE.e).take (k + 1) = (y.e.map RE.e).take k ++ [(y.e[k]).e] := by rw [List.take_succ_eq_append_getElem (by simpa using hl2), List.getElem_map]
    have t3 : (x.e.map RE.e)[k]? = some (x.e[k]).e := by rw [List.getElem?_map, List.getElem?_eq_getElem hlt]; rfl
    have t4 : (y.e.map RE.e)[k]? = some (y.e[k]).e := by rw [List.getElem?_map, List.getElem?_eq_getElem hl2]; rfl
    obtain ⟨u, hu⟩ : ∃ u, u = x.e[k] := ⟨_, rfl⟩
    obtain ⟨v, hv⟩ : ∃ v, v = y.e[k] := ⟨_, rfl⟩
    rw [← hu] at lu OU t1 t3 c0 c1 c2 c3 c4 c5 c6
    rw [← hv] at lv OV t2 t4 f0 f1 f2 f3 f4 f5 f6
    obtain ⟨q, hq⟩ : ∃ q, q = decide (u.e = v.e) := ⟨_, rfl⟩
    have HT : Hid (q = true → (x.e.map RE.e).take (k + 1) = (y.e.map RE.e).take (k + 1)) := Lib.hid (fun h => by rw [t1, t2, hs.out, of_decide_eq_true (hq.symm.trans h)])
    have HF : Hid (q = false → V = false) := Lib.hid (fun h => by
      rw [HV1.out]
      refine decide_eq_false fun e => ?_
      rw [e, t4] at t3
      exact of_decide_eq_false (hq.symm.trans h) (Option.some.inj t3).symm)
    have D0 := Lib.hid (fun W (h1 : InnerE W u) (h2 : InnerE W v) => (by rw [hq]; exact sameE_any u v W h1 h2 OU.out.1 OV.out.1 : Calls Tryz.prog 8 #[.agg #[.string ⟨u.k.toArray⟩, .slice u.sa u.s.length u.sc, .slice u.ca u.c.length u.cc, .slice u.ia u.j.length u.ic, .int .u64 (u.l.s : Int), .string ⟨u.l.t.toArray⟩, .bool u.l.g], .agg #[.string ⟨v.k.toArray⟩, .slice v.sa v.s.length v.sc, .slice v.ca v.c.length v.cc, .slice v.ia v.j.length v.ic, .int .u64 (v.l.s : Int), .string ⟨v.l.t.toArray⟩, .bool v.l.g]] W fun e W' => e = .returned (.bool q) ∧ Below W.heap.size W W'))
    have HI := Lib.hid hlt
    clear hc hc2 hu hv hq t1 t2 t3 t4 hlt hl2 hs OU OV hea heb
    go_wp2_with fail
    refine wp_region_noPanic ?_
    refine wp_region_held_drew (S := (fun w' => Below w.heap.size w w' ∧ w'.cell? ⟨bp, 0, none⟩ = some (.slice x.aa x.a.length x.ac) ∧ w'.cell? ⟨bp, 1, none⟩ = some (.slice (some ⟨b, o, none⟩) x.e.length x.ec) ∧ w'.cell? ⟨bp, 2, none⟩ = some (.slice x.pa x.p.length x.pc) ∧ w'.cell? ⟨br, 0, none⟩ = some (.slice y.aa y.a.length y.ac) ∧ w'.cell? ⟨br, 1, none⟩ = some (.slice (some ⟨b2, o2, none⟩) y.e.length y.ec) ∧ w'.cell? ⟨br, 2, none⟩ = some (.slice y.pa y.p.length y.pc) ∧ InnerS w' x ∧ InnerS w' y ∧ InnerE w' u ∧ InnerE w' v ∧ w'.cell? ⟨b, o + k * 7, none⟩ = some (.string ⟨u.k.toArray⟩) ∧ w'.cell? ⟨b, o + k * 7 + 1, none⟩ = some (.slice u.sa u.s.length u.sc) ∧ w'.cell? ⟨b, o + k * 7 + 2, none⟩ = some (.slice u.ca u.c.length u.cc) ∧ w'.cell? ⟨b, o + k * 7 + 3, none⟩ = some (.slice u.ia u.j.length u.ic) ∧ w'.cell? ⟨b, o + k * 7 + 4, none⟩ = some (.int .u64 (u.l.s : Int)) ∧ w'.cell? ⟨b, o + k * 7 + 5, none⟩ = some (.string ⟨u.l.t.toArray⟩) ∧ w'.cell? ⟨b, o + k * 7 + 6, none⟩ = some (.bool u.l.g) ∧ w'.cell? ⟨b2, o2 + k * 7, none⟩ = some (.string ⟨v.k.toArray⟩) ∧ w'.cell? ⟨b2, o2 + k * 7 + 1, none⟩ = some (.slice v.sa v.s.length v.sc) ∧ w'.cell? ⟨b2, o2 + k * 7 + 2, none⟩ = some (.slice v.ca v.c.length v.cc) ∧ w'.cell? ⟨b2, o2 + k * 7 + 3, none⟩ = some (.slice v.ia v.j.length v.ic) ∧ w'.cell? ⟨b2, o2 + k * 7 + 4, none⟩ = some (.int .u64 (v.l.s : Int)) ∧ w'.cell? ⟨b2, o2 + k * 7 + 5, none⟩ = some (.string ⟨v.l.t.toArray⟩) ∧ w'.cell? ⟨b2, o2 + k * 7 + 6, none⟩ = some (.bool v.l.g))) (by kernel_rfl) (⟨Below.drew hb, Coder.keepC p0 (Below.drew (Below.refl _ _)), Coder.keepC p1 (Below.drew (Below.refl _ _)), Coder.keepC p2 (Below.drew (Below.refl _ _)), Coder.keepC r0 (Below.drew (Below.refl _ _)), Coder.keepC r1 (Below.drew (Below.refl _ _)), Coder.keepC r2 (Below.drew (Below.refl _ _)), (lx.out).below (Below.drew (Below.refl _ _)), (ly.out).below (Below.drew (Below.refl _ _)), (lu.out).below (Below.drew (Below.refl _ _)), (lv.out).below (Below.drew (Below.refl _ _)), Coder.keepC c0 (Below.drew (Below.refl _ _)), Coder.keepC c1 (Below.drew (Below.refl _ _)), Coder.keepC c2 (Below.drew (Below.refl _ _)), Coder.keepC c3 (Below.drew (Below.refl _ _)), Coder.keepC c4 (Below.drew (Below.refl _ _)), Coder.keepC c5 (Below.drew (Below.refl _ _)), Coder.keepC c6 (Below.drew (Below.refl _ _)), Coder.keepC f0 (Below.drew (Below.refl _ _)), Coder.keepC f1 (Below.drew (Below.refl _ _)), Coder.keepC f2 (Below.drew (Below.refl _ _)), Coder.keepC f3 (Below.drew (Below.refl _ _)), Coder.keepC f4 (Below.drew (Below.refl _ _)), Coder.keepC f5 (Below.drew (Below.refl _ _)), Coder.keepC f6 (Below.drew (Below.refl _ _))⟩) (fun hHeld => ?_)
    refine tk 0 ?_
    try simp only [Act.put, List.setIfInBounds_toArray, List.set_cons_zero, List.set_cons_succ]
    refine tk 1 ?_
    try simp only [Act.put, List.setIfInBounds_toArray, List.set_cons_zero, List.set_cons_succ]
    refine tk 2 ?_
    try simp only [Act.put, List.setIfInBounds_toArray, List.set_cons_zero, List.set_cons_succ]
    refine tk 3 ?_
    try simp only [Act.put, List.setIfInBounds_toArray, List.set_cons_zero, List.set_cons_succ]
    refine tk 4 ?_
    try simp only [Act.put, List.setIfInBounds_toArray, List.set_cons_zero, List.set_cons_succ]
    refine tk 5 ?_
    try simp only [Act.put, List.setIfInBounds_toArray, List.set_cons_zero, List.set_cons_succ]
    refine tk 6 ?_
    try simp only [Act.put, List.setIfInBounds_toArray, List.set_cons_zero, List.set_cons_succ]
    refine tk 7 ?_
    try simp only [Act.put, List.setIfInBounds_toArray, List.set_cons_zero, List.set_cons_succ]
    refine tk 8 ?_
    try simp only [Act.put, List.setIfInBounds_toArray, List.set_cons_zero, List.set_cons_succ]
    refine tk 9 ?_
    try simp only [Act.put, List.setIfInBounds_toArray, List.set_cons_zero, List.set_cons_succ]
    refine wpAnyH_ready (rs := [10]) (by kernel_rfl) (by simp) ?_
    refine AllReadyH.cons (by simp only [List.getElem?_toArray, List.getElem?_cons_succ, List.getElem?_cons_zero]; rfl) (fun K hK => ?_) AllReadyH.nil
    go_simp
    go_at_call 8
    refine (D0.out _ hHeld.2.2.2.2.2.2.2.2.2.1 hHeld.2.2.2.2.2.2.2.2.2.2.1).mono ?_
    rintro e v3 ⟨rfl, k3⟩
    go_wp2_with fail
    refine hK.out _ _ (⟨bstep hHeld.1 k3, Coder.keepC hHeld.2.1 k3, Coder.keepC hHeld.2.2.1 k3, Coder.keepC hHeld.2.2.2.1 k3, Coder.keepC hHeld.2.2.2.2.1 k3, Coder.keepC hHeld.2.2.2.2.2.1 k3, Coder.keepC hHeld.2.2.2.2.2.2.1 k3, (hHeld.2.2.2.2.2.2.2.1).below k3, (hHeld.2.2.2.2.2.2.2.2.1).below k3, (hHeld.2.2.2.2.2.2.2.2.2.1).below k3, (hHeld.2.2.2.2.2.2.2.2.2.2.1).below k3, Coder.keepC hHeld.2.2.2.2.2.2.2.2.2.2.2.1 k3, Coder.keepC hHeld.2.2.2.2.2.2.2.2.2.2.2.2.1 k3, Coder.keepC hHeld.2.2.2.2.2.2.2.2.2.2.2.2.2.1 k3, Coder.keepC hHeld.2.2.2.2.2.2.2.2.2.2.2.2.2.2.1 k3, Coder.keepC hHeld.2.2.2.2.2.2.2.2.2.2.2.2.2.2.2.1 k3, Coder.keepC hHeld.2.2.2.2.2.2.2.2.2.2.2.2.2.2.2.2.1 k3, Coder.keepC hHeld.2.2.2.2.2.2.2.2.2.2.2.2.2.2.2.2.2.1 k3, Coder.keepC hHeld.2.2.2.2.2.2.2.2.2.2.2.2.2.2.2.2.2.2.1 k3, Coder.keepC hHeld.2.2.2.2.2.2.2.2.2.2.2.2.2.2.2.2.2.2.2.1 k3, Coder.keepC hHeld.2.2.2.2.2.2.2.2.2.2.2.2.2.2.2.2.2.2.2.2.1 k3, Coder.keepC hHeld.2.2.2.2.2.2.2.2.2.2.2.2.2.2.2.2.2.2.2.2.2.1 k3, Coder.keepC hHeld.2.2.2.2.2.2.2.2.2.2.2.2.2.2.2.2.2.2.2.2.2.2.1 k3, Coder.keepC hHeld.2.2.2.2.2.2.2.2.2.2.2.2.2.2.2.2.2.2.2.2.2.2.2.1 k3, Coder.keepC hHeld.2.2.2.2.2.2.2.2.2.2.2.2.2.2.2.2.2.2.2.2.2.2.2.2 k3⟩) (fun hHeld => ?_)
    clear hK K k3
    try simp only [Act.put, List.setIfInBounds_toArray, List.set_cons_zero, List.set_cons_succ]
    refine tk 11 ?_
    try simp only [Act.put, List.setIfInBounds_toArray, List.set_cons_zero, List.set_cons_succ]
    refine wpAnyH_done (by kernel_rfl) ?_ _
    refine NoPanic.normal ?_
    clear hb p0 p1 p2 r0 r1 r2 lx ly lu lv c0 c1 c2 c3 c4 c5 c6 f0 f1 f2 f3 f4 f5 f6
    obtain ⟨hb, p0, p1, p2, r0, r1, r2, lx, ly, lu, lv, c0, c1, c2, c3, c4, c5, c6, f0, f1, f2, f3, f4, f5, f6⟩ := hHeld
    replace lx := Lib.hid lx
    replace ly := Lib.hid ly
    replace lu := Lib.hid lu
    replace lv := Lib.hid lv
    clear D0 lu lv c0 c1 c2 c3 c4 c5 c6 f0 f1 f2 f3 f4 f5 f6
    cases q
    · have HV2 : Hid (V = false) := Lib.hid (HF.out rfl)
      clear HT HF
      go_wp2
      go_ret
      exact ⟨by rw [HV2.out]; rfl, hb⟩
    · have HT2 := Lib.hid (HT.out rfl)
      clear HT HF
      go_wp2
      go_roundw
      case rel => exact ⟨k + 1, by have := HI.out; omega, by go_num, HT2, hb, p0, p1, p2, r0, r1, r2, lx, ly⟩
      case measure => simp [intOf]; have := HI.out; omega
/-- A state of a size, its entries' bytes aside. -/
structure RS.Sz (x : RS) : Prop where
  a : x.a.length ≤ 1048576
  am : ∀ m ∈ x.a, m.p.length ≤ 1048576 ∧ m.n ≤ 18446744073709551615
  e : x.e.length ≤ 1048576
  em : ∀ y ∈ x.e, y.Ok
  p : x.p.length ≤ 1048576
  pm : ∀ m ∈ x.p, m.length ≤ 1048576
set_option maxRecDepth 100000 in
set_option maxHeartbeats 8000000 in
theorem largeS_any (x : RS) (w : World) (hx : InnerS w x) (ox : x.Sz) :
    Calls Tryz.prog 5 #[.agg #[.slice x.aa x.a.length x.ac, .slice x.ea x.e.length x.ec, .slice x.pa x.p.length x.pc]] w fun e w' => ∃ z, e = .returned (.bool z) ∧ (z = false → x.Few) ∧ Below w.heap.size w w' := by
  have lx := Lib.hid hx
  have hnx := ox.e
  have hnp := ox.p
  have OX := Lib.hid ox
  clear hx ox
  go_enter Tryz.func5, Tryz.ntmps5
  go_upto_region 1 with (fail)
  have hb0 := balloc (Below.refl w.heap.size w) (.cells #[.slice x.aa x.a.length x.ac, .slice x.ea x.e.length x.ec, .slice x.pa x.p.length x.pc] 33)
  have p0 := box_cells w #[.slice x.aa x.a.length x.ac, .slice x.ea x.e.length x.ec, .slice x.pa x.p.length x.pc] 33 0 (.slice x.aa x.a.length x.ac) rfl
  have p1 := box_cells w #[.slice x.aa x.a.length x.ac, .slice x.ea x.e.length x.ec, .slice x.pa x.p.length x.pc] 33 1 (.slice x.ea x.e.length x.ec) rfl
  have p2 := box_cells w #[.slice x.aa x.a.length x.ac, .slice x.ea x.e.length x.ec, .slice x.pa x.p.length x.pc] 33 2 (.slice x.pa x.p.length x.pc) rfl
  obtain ⟨w0, hw0⟩ : ∃ v, v = (w.alloc (.cells #[.slice x.aa x.a.length x.ac, .slice x.ea x.e.length x.ec, .slice x.pa x.p.length x.pc] 33)) := ⟨_, rfl⟩
  rw [← hw0] at hb0 p0 p1 p2 ⊢
  obtain ⟨bp, hbp⟩ : ∃ b, b = w.heap.size := ⟨_, rfl⟩
  rw [← hbp] at p0 p1 p2 ⊢
  have hb := hb0
  clear hb0 hw0 hbp
  replace lx := Lib.hid (lx.out.below hb)
  by_cases h0 : 60 < x.a.length
  · have d0 : decide ((60 : Int) < (x.a.length : Int)) = true := decide_eq_true (by omega)
    clear h0
    go_wp2
    go_ret
    exact ⟨true, rfl, (fun h => by cases h), hb⟩
  have d0 : decide ((60 : Int) < (x.a.length : Int)) = false := decide_eq_false (by omega)
  replace h0 := Lib.hid h0
  by_cases h1 : 20 < x.e.length
  · have d1 : decide ((20 : Int) < (x.e.length : Int)) = true := decide_eq_true (by omega)
    clear h1
    go_wp2
    go_ret
    exact ⟨true, rfl, (fun h => by cases h), hb⟩
  have d1 : decide ((20 : Int) < (x.e.length : Int)) = false := decide_eq_false (by omega)
  replace h1 := Lib.hid h1
  by_cases h2 : 60 < x.p.length
  · have d2 : decide ((60 : Int) < (x.p.length : Int)) = true := decide_eq_true (by omega)
    clear h2
    go_wp2
    go_ret
    exact ⟨true, rfl, (fun h => by cases h), hb⟩
  have d2 : decide ((60 : Int) < (x.p.length : Int)) = false := decide_eq_false (by omega)
  replace h2 := Lib.hid h2
  go_wp2_with fail
  go_loopw [3] (fun iv wr => ∃ k : Nat, k ≤ x.e.length ∧ iv = .int .i64 k ∧ Hid (∀ y ∈ x.e.take k, y.Few) ∧ Below w.heap.size w wr ∧ (wr.cell? ⟨bp, 0, none⟩ = some (.slice x.aa x.a.length x.ac)) ∧ (wr.cell? ⟨bp, 1, none⟩ = some (.slice x.ea x.e.length x.ec)) ∧ (wr.cell? ⟨bp, 2, none⟩ = some (.slice x.pa x.p.length x.pc)) ∧ Hid (InnerS wr x)) (fun iv _ => x.e.length - (intOf iv).toNat)
  case atStart => exact ⟨0, by omega, rfl, Lib.hid (fun y hy => by cases hy), hb, p0, p1, p2, lx⟩
  case round =>
    clear hb p0 p1 p2 lx
    obtain ⟨k, hk, rfl, hs, hb, p0, p1, p2, lx⟩ := hrel
    by_cases hlt : k < x.e.length
    · skip
      have d3 : decide ((k : Int) < (x.e.length : Int)) = true := decide_eq_true (by omega)
      have j1 : (0 : Int) ≤ (k : Int) := by omega
      have j2 : (k : Int) < (x.e.length : Int) := by omega
      obtain ⟨b, o, hea, hc⟩ := lx.out.e.1.2 (by omega)
      rw [hea] at p1 ⊢
      have c0 : wr.cell? ⟨b, o + k * 7, none⟩ = some (.string ⟨(x.e[k]).k.toArray⟩) := hc k hlt 0 _ rfl
      have c1 : wr.cell? ⟨b, o + k * 7 + 1, none⟩ = some (.slice (x.e[k]).sa (x.e[k]).s.length (x.e[k]).sc) := hc k hlt 1 _ rfl
      have c2 : wr.cell? ⟨b, o + k * 7 + 2, none⟩ = some (.slice (x.e[k]).ca (x.e[k]).c.length (x.e[k]).cc) := hc k hlt 2 _ rfl
      have c3 : wr.cell? ⟨b, o + k * 7 + 3, none⟩ = some (.slice (x.e[k]).ia (x.e[k]).j.length (x.e[k]).ic) := hc k hlt 3 _ rfl
      have c4 : wr.cell? ⟨b, o + k * 7 + 4, none⟩ = some (.int .u64 ((x.e[k]).l.s : Int)) := hc k hlt 4 _ rfl
      have c5 : wr.cell? ⟨b, o + k * 7 + 5, none⟩ = some (.string ⟨(x.e[k]).l.t.toArray⟩) := hc k hlt 5 _ rfl
      have c6 : wr.cell? ⟨b, o + k * 7 + 6, none⟩ = some (.bool (x.e[k]).l.g) := hc k hlt 6 _ rfl
      have lu : InnerE wr (x.e[k]) := lx.out.e.2 _ (List.getElem_mem hlt)
      have OU := OX.out.em _ (List.getElem_mem hlt)
      have t1 : x.e.take (k + 1) = x.e.take k ++ [x.e[k]] := List.take_succ_eq_append_getElem hlt
      obtain ⟨u, hu⟩ : ∃ u, u = x.e[k] := ⟨_, rfl⟩
      rw [← hu] at lu OU t1 c0 c1 c2 c3 c4 c5 c6
      have D0 := Lib.hid (largeE_any u wr lu OU)
      have HT : Hid (u.Few → ∀ y ∈ x.e.take (k + 1), y.Few) := Lib.hid (fun h y hy => by
        rw [t1] at hy
        rcases List.mem_append.1 hy with hy | hy
        · exact hs.out y hy
        · rw [List.mem_singleton.1 hy]; exact h)
      have HI := Lib.hid hlt
      clear hc hu t1 hlt hs OU lu hea
      go_wp2_with fail
      refine (D0.out).mono ?_
      rintro e v1 ⟨z, rfl, hz, k1⟩
      replace hz := Lib.hid hz
      replace p0 := (Coder.keepC p0 k1)
      replace p1 := (Coder.keepC p1 k1)
      replace p2 := (Coder.keepC p2 k1)
      replace lx := Lib.hid ((lx.out).below k1)
      replace hb := bstep hb k1
      clear k1 c0 c1 c2 c3 c4 c5 c6 D0
      cases z
      rotate_left
      · skip
        go_wp2
        go_ret
        exact ⟨true, rfl, (fun h => by cases h), hb⟩
      have HT2 := Lib.hid (HT.out (by first | exact hz.out rfl | exact hz.out trivial | exact hz.out))
      clear HT hz
      go_wp2
      go_roundw
      case rel => exact ⟨k + 1, by have := HI.out; omega, by go_num, HT2, hb, p0, p1, p2, lx⟩
      case measure => simp [intOf]; have := HI.out; omega
    · skip
      have HE : Hid (∀ y ∈ x.e, y.Few) := Lib.hid (by have h := hs.out; rw [List.take_of_length_le (by omega)] at h; exact h)
      have d3 : decide ((k : Int) < (x.e.length : Int)) = false := decide_eq_false (by omega)
      clear hs
      go_wp2_with fail
      clear hlt
      go_loopw [4] (fun iv wr => ∃ k : Nat, k ≤ x.p.length ∧ iv = .int .i64 k ∧ Hid (∀ t ∈ x.p.take k, t.length ≤ 256) ∧ Below w.heap.size w wr ∧ (wr.cell? ⟨bp, 0, none⟩ = some (.slice x.aa x.a.length x.ac)) ∧ (wr.cell? ⟨bp, 1, none⟩ = some (.slice x.ea x.e.length x.ec)) ∧ (wr.cell? ⟨bp, 2, none⟩ = some (.slice x.pa x.p.length x.pc)) ∧ Hid (InnerS wr x)) (fun iv _ => x.p.length - (intOf iv).toNat)
      case atStart => exact ⟨0, by omega, rfl, Lib.hid (fun y hy => by cases hy), hb, p0, p1, p2, lx⟩
      case round =>
        clear hb p0 p1 p2 lx d3 hk
        obtain ⟨k, hk, rfl, hs, hb, p0, p1, p2, lx⟩ := hrel
        by_cases hlt : k < x.p.length
        rotate_left
        · have HE2 : Hid (∀ t ∈ x.p, t.length ≤ 256) := Lib.hid (by have h := hs.out; rw [List.take_of_length_le (by omega)] at h; exact h)
          go_wp2
          go_ret
          exact ⟨false, rfl, (fun _ => ⟨by have := h0.out; omega, by have := h1.out; omega, HE.out, by have := h2.out; omega, HE2.out⟩), hb⟩
        have d3 : decide ((k : Int) < (x.p.length : Int)) = true := decide_eq_true (by omega)
        have j1 : (0 : Int) ≤ (k : Int) := by omega
        have j2 : (k : Int) < (x.p.length : Int) := by omega
        obtain ⟨b, o, hea, hc⟩ := lx.out.p.2 (by omega)
        rw [hea] at p2 ⊢
        have c0 : wr.cell? ⟨b, o + k, none⟩ = some (.string ⟨(x.p[k]).toArray⟩) := by
          have q := hc k hlt 0 _ rfl
          rw [show o + k * wE.k + 0 = o + k by show o + k * 1 + 0 = o + k; omega] at q
          exact q
        have t1 : x.p.take (k + 1) = x.p.take k ++ [x.p[k]] := List.take_succ_eq_append_getElem hlt
        obtain ⟨u, hu⟩ : ∃ u, u = x.p[k] := ⟨_, rfl⟩
        rw [← hu] at t1 c0
        have zu := Str.size_mk u
        have HT : Hid (u.length ≤ 256 → ∀ y ∈ x.p.take (k + 1), y.length ≤ 256) := Lib.hid (fun h y hy => by
          rw [t1] at hy
          rcases List.mem_append.1 hy with hy | hy
          · exact hs.out y hy
          · rw [List.mem_singleton.1 hy]; exact h)
        have HI := Lib.hid hlt
        clear hc hu t1 hlt hs hea
        by_cases h9 : 256 < u.length
        · have d9 : decide ((256 : Int) < (u.length : Int)) = true := decide_eq_true (by omega)
          clear h9
          go_wp2
          go_ret
          exact ⟨true, rfl, (fun h => by cases h), hb⟩
        have d9 : decide ((256 : Int) < (u.length : Int)) = false := decide_eq_false (by omega)
        have HT2 := Lib.hid (HT.out (by omega))
        clear HT h9
        go_wp2
        go_roundw
        case rel => exact ⟨k + 1, by have := HI.out; omega, by go_num, HT2, hb, p0, p1, p2, lx⟩
        case measure => simp [intOf]; have := HI.out; omega
end Coder
end Go.Proofs.YtnpjkmomllkhpaaGreat
