/- entry.May. -/
import Derived.Test.YtnpjkmomllkhpaaGreatTmCodB
import Derived.Test.YtnpjkmomllkhpaaGreatTmCoderCount
import Derived.Test.YtnpjkmomllkhpaaGreatTmCodC
import Derived.Test.YtnpjkmomllkhpaaGreatTmCellA
import Derived.Test.YtnpjkmomllkhpaaGreatTmBagMay
import Derived.Test.YtnpjkmomllkhpaaGreatTmDotA
import Derived.Test.YtnpjkmomllkhpaaGreatTmMaps
namespace Go.Proofs.YtnpjkmomllkhpaaGreat
namespace Coder
open Go.RowKit Go.Proofs.YtnpjkmomllkhpaaGreat.Mark Go.Proofs.YtnpjkmomllkhpaaGreat.Num Go.Proofs.YtnpjkmomllkhpaaGreat.Wire Go.Proofs.YtnpjkmomllkhpaaGreat.Bag Go.Proofs.YtnpjkmomllkhpaaGreat.Dots
/-- An entry that lies in a box. -/
def InB (w : World) (b : Nat) (x : RE) : Prop := ∀ j v, (eE.cells x)[j]? = some v → w.cell? ⟨b, j, none⟩ = some v
theorem InB.below {w w' : World} {b : Nat} {x : RE} (h : InB w b x) (k : Below w.heap.size w w') : InB w' b x := fun j v hv => Coder.keepC (h j v hv) k
theorem InB.of {w : World} {b : Nat} {x : RE} (h0 : w.cell? ⟨b, 0, none⟩ = some (.string ⟨x.k.toArray⟩)) (h1 : w.cell? ⟨b, 1, none⟩ = some (.slice x.sa x.s.length x.sc)) (h2 : w.cell? ⟨b, 2, none⟩ = some (.slice x.ca x.c.length x.cc)) (h3 : w.cell? ⟨b, 3, none⟩ = some (.slice x.ia x.j.length x.ic)) (h4 : w.cell? ⟨b, 4, none⟩ = some (.int .u64 (x.l.s : Int))) (h5 : w.cell? ⟨b, 5, none⟩ = some (.string ⟨x.l.t.toArray⟩)) (h6 : w.cell? ⟨b, 6, none⟩ = some (.bool x.l.g)) : InB w b x := fun j v hv => by
  match j, hv with
  | 0, hv => cases hv; exact h0
  | 1, hv => cases hv; exact h1
  | 2, hv => cases hv; exact h2
  | 3, hv => cases hv; exact h3
  | 4, hv => cases hv; exact h4
  | 5, hv => cases hv; exact h5
  | 6, hv => cases hv; exact h6
  | j + 7, hv => simp [eE] at hv
theorem zeroL_eq (c : Cl) : zeroL c = decide (c = Cl.zero) := by
  obtain ⟨s, t, g⟩ := c
  unfold zeroL Cl.zero
  rw [Bool.eq_iff_iff]
  simp only [Bool.and_eq_true, decide_eq_true_eq, Bool.not_eq_true', Cl.mk.injEq]
theorem mayCl_eq (c : Cl) : Cell.may (c.s : Int) ⟨c.t.toArray⟩ c.g = mayCl c := by
  obtain ⟨s, t, g⟩ := c
  unfold Cell.may mayCl
  rw [Str.size_mk]
  simp only [Lib.toList_data]
  have e1 : t.isEmpty = decide (t = []) := by cases t <;> simp
  have e2 : decide ((s : Int) ≤ 281474976710656) = decide (s ≤ 281474976710656) := by rw [Bool.eq_iff_iff]; simp only [decide_eq_true_eq]; omega
  have e3 : decide ((t.length : Int) ≤ 4096) = decide (t.length ≤ 4096) := by rw [Bool.eq_iff_iff]; simp only [decide_eq_true_eq]; omega
  rw [e1, e2, e3]
  by_cases h : s = 0
  · rw [if_pos h, if_pos (by omega)]
  · rw [if_neg h, if_neg (by omega)]
theorem kd_le (k : List UInt8) : kd k ≤ 3 := by
  unfold kd Text.kind
  split
  · omega
  · split
    · exact Text.hd_le _
    · omega
theorem ok_of {s : List M} (h : ∀ m ∈ s, m.p.length ≤ 1048576 ∧ m.n ≤ 18446744073709551615) : Ok s := fun m hm => ⟨(h m hm).2, by have := (h m hm).1; omega⟩
def B1 (x : RE) : Bool := mayCt none x.c && (seenC x.s x.c && (decide (x.j.length = 0) && zeroL x.l))
def B2 (x : RE) : Bool := mayB (x.j.map RI.it) && (seenJ x.s x.j && (decide (x.c.length = 0) && zeroL x.l))
def B3 (x : RE) : Bool := mayCl x.l && (decide (x.c.length = 0) && decide (x.j.length = 0))
theorem kinds_is (x : RE) : kinds x.e = if kd x.k = 1 then B1 x else if kd x.k = 2 then B2 x else if kd x.k = 3 then B3 x else false := by
  unfold kinds B1 B2 B3
  simp only [RE.e, List.length_map, seenJ_is]
  rfl
set_option maxRecDepth 100000 in
set_option maxHeartbeats 8000000 in
theorem may1_any (x : RE) (b : Nat) (w : World) (hB : InB w b x) (hx : InnerE w x) (ox : x.Ok) :
    Calls Tryz.prog 35 #[.pointer (some ⟨b, 0, none⟩)] w fun e w' => e = .returned (.bool (B1 x)) ∧ Below w.heap.size w w' := by
  have hb := Below.refl w.heap.size w
  have kx := Lib.hid hx
  have OX := Lib.hid ox
  clear hx ox
  have p0 : w.cell? ⟨b, 0, none⟩ = some (.string ⟨x.k.toArray⟩) := hB 0 _ rfl
  have p1 : w.cell? ⟨b, 1, none⟩ = some (.slice x.sa x.s.length x.sc) := hB 1 _ rfl
  have p2 : w.cell? ⟨b, 2, none⟩ = some (.slice x.ca x.c.length x.cc) := hB 2 _ rfl
  have p3 : w.cell? ⟨b, 3, none⟩ = some (.slice x.ia x.j.length x.ic) := hB 3 _ rfl
  have p4 : w.cell? ⟨b, 4, none⟩ = some (.int .u64 (x.l.s : Int)) := hB 4 _ rfl
  have p5 : w.cell? ⟨b, 5, none⟩ = some (.string ⟨x.l.t.toArray⟩) := hB 5 _ rfl
  have p6 : w.cell? ⟨b, 6, none⟩ = some (.bool x.l.g) := hB 6 _ rfl
  clear hB
  obtain ⟨q0, hq0⟩ : ∃ q, q = mayCt none x.c := ⟨_, rfl⟩
  obtain ⟨q1, hq1⟩ : ∃ q, q = seenC x.s x.c := ⟨_, rfl⟩
  obtain ⟨q2, hq2⟩ : ∃ q, q = decide (x.j.length = 0) := ⟨_, rfl⟩
  obtain ⟨q3, hq3⟩ : ∃ q, q = zeroL x.l := ⟨_, rfl⟩
  have HV : Hid (B1 x = (q0 && (q1 && (q2 && (q3))))) := Lib.hid (by unfold B1; rw [hq0, hq1, hq2, hq3])
  have e2 : ((x.j.length : Int) == 0) = q2 := by rw [hq2]; by_cases h : x.j.length = 0 <;> simp [h]
  have CL : ∀ W, (binOp .eql 27 (.agg #[.int .u64 (x.l.s : Int), .string ⟨x.l.t.toArray⟩, .bool x.l.g]) (.agg #[.int .u64 0, .string ⟨#[]⟩, .bool false])).run Tryz.prog W = .ok (.bool q3) W := by rw [hq3, zeroL_eq]; exact fun W => eql_cell x.l Cl.zero W
  have C0 := Lib.hid (fun W (hx : InnerE W x) => (by rw [hq0]; exact mayC_any x.ca x.c.length x.cc x.c W hx.c (by have := OX.out.c; omega) : Calls Tryz.prog 36 #[.slice x.ca x.c.length x.cc] W fun e W' => e = .returned (.bool q0) ∧ Below W.heap.size W W'))
  have C1 := Lib.hid (fun W (hx : InnerE W x) => (by rw [hq1]; exact seenC_any x.k x.sa x.sc x.s x.ca x.cc x.c x.ia x.ic x.j x.l W hx.s hx.c OX.out.s OX.out.sm OX.out.c : Calls Tryz.prog 37 #[.agg #[.string ⟨x.k.toArray⟩, .slice x.sa x.s.length x.sc, .slice x.ca x.c.length x.cc, .slice x.ia x.j.length x.ic, .int .u64 (x.l.s : Int), .string ⟨x.l.t.toArray⟩, .bool x.l.g]] W fun e W' => e = .returned (.bool q1) ∧ Below W.heap.size W W'))
  clear hq0 hq1 hq2 hq3
  go_enter Tryz.func35, Tryz.ntmps35
  go_wp2_with fail
  refine (C0.out _ kx.out).mono ?_
  rintro e v1 ⟨rfl, k1⟩
  replace p0 := (Coder.keepC p0 k1)
  replace p1 := (Coder.keepC p1 k1)
  replace p2 := (Coder.keepC p2 k1)
  replace p3 := (Coder.keepC p3 k1)
  replace p4 := (Coder.keepC p4 k1)
  replace p5 := (Coder.keepC p5 k1)
  replace p6 := (Coder.keepC p6 k1)
  replace kx := Lib.hid ((kx.out).below k1)
  replace hb := bstep hb k1
  clear k1
  cases q0
  · skip
    have HV2 : Hid (B1 x = false) := Lib.hid (by rw [HV.out]; try simp)
    go_wp2
    go_ret
    exact ⟨by rw [HV2.out]; rfl, hb⟩
  · skip
    go_wp2_with fail
    refine (C1.out _ kx.out).mono ?_
    rintro e v2 ⟨rfl, k2⟩
    replace p0 := (Coder.keepC p0 k2)
    replace p1 := (Coder.keepC p1 k2)
    replace p2 := (Coder.keepC p2 k2)
    replace p3 := (Coder.keepC p3 k2)
    replace p4 := (Coder.keepC p4 k2)
    replace p5 := (Coder.keepC p5 k2)
    replace p6 := (Coder.keepC p6 k2)
    replace kx := Lib.hid ((kx.out).below k2)
    replace hb := bstep hb k2
    clear k2
    cases q1
    · skip
      have HV2 : Hid (B1 x = false) := Lib.hid (by rw [HV.out]; try simp)
      go_wp2
      go_ret
      exact ⟨by rw [HV2.out]; rfl, hb⟩
    · skip
      cases q2
      · skip
        have HV2 : Hid (B1 x = false) := Lib.hid (by rw [HV.out]; try simp)
        go_wp2
        go_ret
        exact ⟨by rw [HV2.out]; rfl, hb⟩
      · skip
        have HV2 : Hid (B1 x = q3) := Lib.hid (by rw [HV.out]; simp only [Bool.true_and])
        go_wp2
        go_ret
        exact ⟨by rw [HV2.out]; rfl, hb⟩
set_option maxRecDepth 100000 in
set_option maxHeartbeats 8000000 in
theorem may2_any (x : RE) (b : Nat) (w : World) (hB : InB w b x) (hx : InnerE w x) (ox : x.Ok) (of : Fine (x.j.map RI.it)) :
    Calls Tryz.prog 38 #[.pointer (some ⟨b, 0, none⟩)] w fun e w' => e = .returned (.bool (B2 x)) ∧ Below w.heap.size w w' := by
  have hb := Below.refl w.heap.size w
  have kx := Lib.hid hx
  have OX := Lib.hid ox
  clear hx ox
  have p0 : w.cell? ⟨b, 0, none⟩ = some (.string ⟨x.k.toArray⟩) := hB 0 _ rfl
  have p1 : w.cell? ⟨b, 1, none⟩ = some (.slice x.sa x.s.length x.sc) := hB 1 _ rfl
  have p2 : w.cell? ⟨b, 2, none⟩ = some (.slice x.ca x.c.length x.cc) := hB 2 _ rfl
  have p3 : w.cell? ⟨b, 3, none⟩ = some (.slice x.ia x.j.length x.ic) := hB 3 _ rfl
  have p4 : w.cell? ⟨b, 4, none⟩ = some (.int .u64 (x.l.s : Int)) := hB 4 _ rfl
  have p5 : w.cell? ⟨b, 5, none⟩ = some (.string ⟨x.l.t.toArray⟩) := hB 5 _ rfl
  have p6 : w.cell? ⟨b, 6, none⟩ = some (.bool x.l.g) := hB 6 _ rfl
  clear hB
  obtain ⟨q0, hq0⟩ : ∃ q, q = mayB (x.j.map RI.it) := ⟨_, rfl⟩
  obtain ⟨q1, hq1⟩ : ∃ q, q = seenJ x.s x.j := ⟨_, rfl⟩
  obtain ⟨q2, hq2⟩ : ∃ q, q = decide (x.c.length = 0) := ⟨_, rfl⟩
  obtain ⟨q3, hq3⟩ : ∃ q, q = zeroL x.l := ⟨_, rfl⟩
  have HV : Hid (B2 x = (q0 && (q1 && (q2 && (q3))))) := Lib.hid (by unfold B2; rw [hq0, hq1, hq2, hq3])
  have e2 : ((x.c.length : Int) == 0) = q2 := by rw [hq2]; by_cases h : x.c.length = 0 <;> simp [h]
  have CL : ∀ W, (binOp .eql 27 (.agg #[.int .u64 (x.l.s : Int), .string ⟨x.l.t.toArray⟩, .bool x.l.g]) (.agg #[.int .u64 0, .string ⟨#[]⟩, .bool false])).run Tryz.prog W = .ok (.bool q3) W := by rw [hq3, zeroL_eq]; exact fun W => eql_cell x.l Cl.zero W
  have C0 := Lib.hid (fun W (hx : InnerE W x) => (by rw [hq0]; exact may_any (x.j.map RI.it) x.ia x.j.length x.ic W ⟨x.j, rfl, hx.i.1, hx.i.2⟩ of : Calls Tryz.prog 39 #[.slice x.ia x.j.length x.ic] W fun e W' => e = .returned (.bool q0) ∧ Below W.heap.size W W'))
  have C1 := Lib.hid (fun W (hx : InnerE W x) => (by rw [hq1]; exact seenI_any x.k x.sa x.sc x.s x.ca x.cc x.c x.ia x.ic x.j x.l W hx.s hx.i.1 hx.i.2 OX.out.s OX.out.sm OX.out.j (fun y hy => (OX.out.jm y hy).2.1) : Calls Tryz.prog 40 #[.agg #[.string ⟨x.k.toArray⟩, .slice x.sa x.s.length x.sc, .slice x.ca x.c.length x.cc, .slice x.ia x.j.length x.ic, .int .u64 (x.l.s : Int), .string ⟨x.l.t.toArray⟩, .bool x.l.g]] W fun e W' => e = .returned (.bool q1) ∧ Below W.heap.size W W'))
  clear hq0 hq1 hq2 hq3
  go_enter Tryz.func38, Tryz.ntmps38
  go_wp2_with fail
  refine (C0.out _ kx.out).mono ?_
  rintro e v3 ⟨rfl, k3⟩
  replace p0 := (Coder.keepC p0 k3)
  replace p1 := (Coder.keepC p1 k3)
  replace p2 := (Coder.keepC p2 k3)
  replace p3 := (Coder.keepC p3 k3)
  replace p4 := (Coder.keepC p4 k3)
  replace p5 := (Coder.keepC p5 k3)
  replace p6 := (Coder.keepC p6 k3)
  replace kx := Lib.hid ((kx.out).below k3)
  replace hb := bstep hb k3
  clear k3
  cases q0
  · skip
    have HV2 : Hid (B2 x = false) := Lib.hid (by rw [HV.out]; try simp)
    go_wp2
    go_ret
    exact ⟨by rw [HV2.out]; rfl, hb⟩
  · skip
    go_wp2_with fail
    refine (C1.out _ kx.out).mono ?_
    rintro e v4 ⟨rfl, k4⟩
    replace p0 := (Coder.keepC p0 k4)
    replace p1 := (Coder.keepC p1 k4)
    replace p2 := (Coder.keepC p2 k4)
    replace p3 := (Coder.keepC p3 k4)
    replace p4 := (Coder.keepC p4 k4)
    replace p5 := (Coder.keepC p5 k4)
    replace p6 := (Coder.keepC p6 k4)
    replace kx := Lib.hid ((kx.out).below k4)
    replace hb := bstep hb k4
    clear k4
    cases q1
    · skip
      have HV2 : Hid (B2 x = false) := Lib.hid (by rw [HV.out]; try simp)
      go_wp2
      go_ret
      exact ⟨by rw [HV2.out]; rfl, hb⟩
    · skip
      cases q2
      · skip
        have HV2 : Hid (B2 x = false) := Lib.hid (by rw [HV.out]; try simp)
        go_wp2
        go_ret
        exact ⟨by rw [HV2.out]; rfl, hb⟩
      · skip
        have HV2 : Hid (B2 x = q3) := Lib.hid (by rw [HV.out]; simp only [Bool.true_and])
        go_wp2
        go_ret
        exact ⟨by rw [HV2.out]; rfl, hb⟩
set_option maxRecDepth 100000 in
set_option maxHeartbeats 8000000 in
theorem may3_any (x : RE) (b : Nat) (w : World) (hB : InB w b x) (hx : InnerE w x) (ox : x.Ok) :
    Calls Tryz.prog 41 #[.pointer (some ⟨b, 0, none⟩)] w fun e w' => e = .returned (.bool (B3 x)) ∧ Below w.heap.size w w' := by
  have hb := Below.refl w.heap.size w
  have kx := Lib.hid hx
  have OX := Lib.hid ox
  clear hx ox
  have p0 : w.cell? ⟨b, 0, none⟩ = some (.string ⟨x.k.toArray⟩) := hB 0 _ rfl
  have p1 : w.cell? ⟨b, 1, none⟩ = some (.slice x.sa x.s.length x.sc) := hB 1 _ rfl
  have p2 : w.cell? ⟨b, 2, none⟩ = some (.slice x.ca x.c.length x.cc) := hB 2 _ rfl
  have p3 : w.cell? ⟨b, 3, none⟩ = some (.slice x.ia x.j.length x.ic) := hB 3 _ rfl
  have p4 : w.cell? ⟨b, 4, none⟩ = some (.int .u64 (x.l.s : Int)) := hB 4 _ rfl
  have p5 : w.cell? ⟨b, 5, none⟩ = some (.string ⟨x.l.t.toArray⟩) := hB 5 _ rfl
  have p6 : w.cell? ⟨b, 6, none⟩ = some (.bool x.l.g) := hB 6 _ rfl
  clear hB
  obtain ⟨q0, hq0⟩ : ∃ q, q = mayCl x.l := ⟨_, rfl⟩
  obtain ⟨q1, hq1⟩ : ∃ q, q = decide (x.c.length = 0) := ⟨_, rfl⟩
  obtain ⟨q2, hq2⟩ : ∃ q, q = decide (x.j.length = 0) := ⟨_, rfl⟩
  have HV : Hid (B3 x = (q0 && (q1 && (q2)))) := Lib.hid (by unfold B3; rw [hq0, hq1, hq2])
  have e1 : ((x.c.length : Int) == 0) = q1 := by rw [hq1]; by_cases h : x.c.length = 0 <;> simp [h]
  have e2 : ((x.j.length : Int) == 0) = q2 := by rw [hq2]; by_cases h : x.j.length = 0 <;> simp [h]
  have C0 := Lib.hid (fun W => (by rw [hq0, ← mayCl_eq]; exact Cell.may_any (x.l.s : Int) ⟨x.l.t.toArray⟩ x.l.g W : Calls Tryz.prog 42 #[.agg #[.int .u64 (x.l.s : Int), .string ⟨x.l.t.toArray⟩, .bool x.l.g]] W fun e W' => e = .returned (.bool q0) ∧ Below W.heap.size W W'))
  clear hq0 hq1 hq2
  go_enter Tryz.func41, Tryz.ntmps41
  go_wp2_with fail
  refine (C0.out _).mono ?_
  rintro e v5 ⟨rfl, k5⟩
  replace p0 := (Coder.keepC p0 k5)
  replace p1 := (Coder.keepC p1 k5)
  replace p2 := (Coder.keepC p2 k5)
  replace p3 := (Coder.keepC p3 k5)
  replace p4 := (Coder.keepC p4 k5)
  replace p5 := (Coder.keepC p5 k5)
  replace p6 := (Coder.keepC p6 k5)
  replace kx := Lib.hid ((kx.out).below k5)
  replace hb := bstep hb k5
  clear k5
  cases q0
  · skip
    have HV2 : Hid (B3 x = false) := Lib.hid (by rw [HV.out]; try simp)
    go_wp2
    go_ret
    exact ⟨by rw [HV2.out]; rfl, hb⟩
  · skip
    cases q1
    · skip
      have HV2 : Hid (B3 x = false) := Lib.hid (by rw [HV.out]; try simp)
      go_wp2
      go_ret
      exact ⟨by rw [HV2.out]; rfl, hb⟩
    · skip
      have HV2 : Hid (B3 x = q2) := Lib.hid (by rw [HV.out]; simp only [Bool.true_and])
      go_wp2
      go_ret
      exact ⟨by rw [HV2.out]; rfl, hb⟩
theorem zero_fn {w : World} : (zeroValue 40).run Tryz.prog w = .ok .nilFunc w := by kernel_rfl
set_option maxRecDepth 100000 in
set_option maxHeartbeats 8000000 in
theorem mayE_any (x : RE) (w : World) (hx : InnerE w x) (ox : x.Ok) (of : Fine (x.j.map RI.it)) :
    Calls Tryz.prog 19 #[.agg #[.string ⟨x.k.toArray⟩, .slice x.sa x.s.length x.sc, .slice x.ca x.c.length x.cc, .slice x.ia x.j.length x.ic, .int .u64 (x.l.s : Int), .string ⟨x.l.t.toArray⟩, .bool x.l.g]] w fun e w' => e = .returned (.bool (mayE x.e)) ∧ Below w.heap.size w w' := by
  have kx := Lib.hid hx
  have OX := Lib.hid ox
  have OF := Lib.hid of
  clear hx ox of
  obtain ⟨q0, hq0⟩ : ∃ q, q = mayL x.s := ⟨_, rfl⟩
  obtain ⟨q1, hq1⟩ : ∃ q, q = decide (x.s.length = 0) := ⟨_, rfl⟩
  have e1 : ((x.s.length : Int) == 0) = q1 := by rw [hq1]; by_cases h : x.s.length = 0 <;> simp [h]
  have HV : Hid (mayE x.e = (q0 && (!q1 && kinds x.e))) := Lib.hid (by rw [hq0, hq1]; rfl)
  have C0 := Lib.hid (fun W (hx : InnerE W x) => (by rw [hq0]; exact Dots.may_any x.s x.sa x.s.length x.sc W hx.s (by have := OX.out.s; omega) (ok_of OX.out.sm) : Calls Tryz.prog 34 #[.slice x.sa x.s.length x.sc] W fun e W' => e = .returned (.bool q0) ∧ Below W.heap.size W W'))
  clear hq0 hq1
  obtain ⟨q, hq⟩ : ∃ q, q = kd x.k := ⟨_, rfl⟩
  have hq3 : q ≤ 3 := by rw [hq]; exact kd_le _
  have KD := Lib.hid (fun W => (by rw [hq]; exact kind_k x.k W OX.out.k : Calls Tryz.prog 43 #[.string ⟨x.k.toArray⟩] W fun e W' => e = .returned (.int .u8 (q : Nat)) ∧ Below W.heap.size W W'))
  have HB : Hid (kinds x.e = if q = 1 then B1 x else if q = 2 then B2 x else if q = 3 then B3 x else false) := Lib.hid (by rw [hq, kinds_is])
  clear hq
  have hmm := @run_makeMap Tryz.prog
  have hmf : ∀ (fn : Fn) (first cap : Array Value) (w : World), (Instr.makeFunc fn first cap).run Tryz.prog w = .ok (.func fn first cap) w := fun _ _ _ _ => rfl
  go_enter Tryz.func19, Tryz.ntmps19
  go_upto_region 1 with (fail)
  have hb0 := balloc (Below.refl w.heap.size w) (.cells #[.string ⟨x.k.toArray⟩, .slice x.sa x.s.length x.sc, .slice x.ca x.c.length x.cc, .slice x.ia x.j.length x.ic, .int .u64 (x.l.s : Int), .string ⟨x.l.t.toArray⟩, .bool x.l.g] 29)
  have p0 := box_cells w #[.string ⟨x.k.toArray⟩, .slice x.sa x.s.length x.sc, .slice x.ca x.c.length x.cc, .slice x.ia x.j.length x.ic, .int .u64 (x.l.s : Int), .string ⟨x.l.t.toArray⟩, .bool x.l.g] 29 0 (.string ⟨x.k.toArray⟩) rfl
  have p1 := box_cells w #[.string ⟨x.k.toArray⟩, .slice x.sa x.s.length x.sc, .slice x.ca x.c.length x.cc, .slice x.ia x.j.length x.ic, .int .u64 (x.l.s : Int), .string ⟨x.l.t.toArray⟩, .bool x.l.g] 29 1 (.slice x.sa x.s.length x.sc) rfl
  have p2 := box_cells w #[.string ⟨x.k.toArray⟩, .slice x.sa x.s.length x.sc, .slice x.ca x.c.length x.cc, .slice x.ia x.j.length x.ic, .int .u64 (x.l.s : Int), .string ⟨x.l.t.toArray⟩, .bool x.l.g] 29 2 (.slice x.ca x.c.length x.cc) rfl
  have p3 := box_cells w #[.string ⟨x.k.toArray⟩, .slice x.sa x.s.length x.sc, .slice x.ca x.c.length x.cc, .slice x.ia x.j.length x.ic, .int .u64 (x.l.s : Int), .string ⟨x.l.t.toArray⟩, .bool x.l.g] 29 3 (.slice x.ia x.j.length x.ic) rfl
  have p4 := box_cells w #[.string ⟨x.k.toArray⟩, .slice x.sa x.s.length x.sc, .slice x.ca x.c.length x.cc, .slice x.ia x.j.length x.ic, .int .u64 (x.l.s : Int), .string ⟨x.l.t.toArray⟩, .bool x.l.g] 29 4 (.int .u64 (x.l.s : Int)) rfl
  have p5 := box_cells w #[.string ⟨x.k.toArray⟩, .slice x.sa x.s.length x.sc, .slice x.ca x.c.length x.cc, .slice x.ia x.j.length x.ic, .int .u64 (x.l.s : Int), .string ⟨x.l.t.toArray⟩, .bool x.l.g] 29 5 (.string ⟨x.l.t.toArray⟩) rfl
  have p6 := box_cells w #[.string ⟨x.k.toArray⟩, .slice x.sa x.s.length x.sc, .slice x.ca x.c.length x.cc, .slice x.ia x.j.length x.ic, .int .u64 (x.l.s : Int), .string ⟨x.l.t.toArray⟩, .bool x.l.g] 29 6 (.bool x.l.g) rfl
  obtain ⟨w0, hw0⟩ : ∃ v, v = (w.alloc (.cells #[.string ⟨x.k.toArray⟩, .slice x.sa x.s.length x.sc, .slice x.ca x.c.length x.cc, .slice x.ia x.j.length x.ic, .int .u64 (x.l.s : Int), .string ⟨x.l.t.toArray⟩, .bool x.l.g] 29)) := ⟨_, rfl⟩
  rw [← hw0] at hb0 p0 p1 p2 p3 p4 p5 p6 ⊢
  obtain ⟨bp, hbp⟩ : ∃ b, b = w.heap.size := ⟨_, rfl⟩
  rw [← hbp] at p0 p1 p2 p3 p4 p5 p6 ⊢
  have hb := hb0
  clear hb0 hw0 hbp
  replace kx := Lib.hid (kx.out.below hb)
  go_wp2_with fail
  refine (C0.out _ kx.out).mono ?_
  rintro e v6 ⟨rfl, k6⟩
  replace p0 := (Coder.keepC p0 k6)
  replace p1 := (Coder.keepC p1 k6)
  replace p2 := (Coder.keepC p2 k6)
  replace p3 := (Coder.keepC p3 k6)
  replace p4 := (Coder.keepC p4 k6)
  replace p5 := (Coder.keepC p5 k6)
  replace p6 := (Coder.keepC p6 k6)
  replace kx := Lib.hid ((kx.out).below k6)
  replace hb := bstep hb k6
  clear k6
  cases q0
  · skip
    have HV2 : Hid (mayE x.e = false) := Lib.hid (by rw [HV.out]; try simp)
    go_wp2
    go_ret
    exact ⟨by rw [HV2.out]; rfl, hb⟩
  · skip
    cases q1
    rotate_left
    · skip
      have HV2 : Hid (mayE x.e = false) := Lib.hid (by rw [HV.out]; try simp)
      go_wp2
      go_ret
      exact ⟨by rw [HV2.out]; rfl, hb⟩
    have HK : Hid (mayE x.e = kinds x.e) := Lib.hid (by rw [HV.out]; simp only [Bool.true_and, Bool.not_false])
    clear HV
    go_upto_region 3 with (fail)
    obtain ⟨wq, hwq⟩ : ∃ v, v = v6.alloc (.map #[] 0) := ⟨_, rfl⟩
    obtain ⟨mb, hmb⟩ : ∃ b, b = v6.heap.size := ⟨_, rfl⟩
    have I0 : ByteMap.Is Tryz.prog 5 wq mb 0 (fun _ => none) := by rw [hwq, hmb]; exact (ByteMap.Is.made v6 )
    have kq : Below v6.heap.size v6 wq := by rw [hwq]; exact balloc (Below.refl _ _) _
    have hmbb : v6.heap.size ≤ mb := by omega
    have hmz : mb < wq.heap.size := ByteMap.Is.lt I0
    have mk : (Instr.makeMap 85 none).run Tryz.prog v6  = .ok (.map (some mb)) wq := by rw [hwq, hmb]; exact run_makeMap ..
    obtain ⟨w1, r1, I1, g1⟩ := ByteMap.run_put Tryz.underlying85 Tryz.underlying5 I0 (by unfold maxLen; omega) (q := 1) (by omega) (.func (.func 35) #[] #[.pointer (some ⟨bp, 0, none⟩)])
    obtain ⟨w2, r2, I2, g2⟩ := ByteMap.run_put Tryz.underlying85 Tryz.underlying5 I1 (by unfold maxLen; omega) (q := 2) (by omega) (.func (.func 38) #[] #[.pointer (some ⟨bp, 0, none⟩)])
    obtain ⟨w3, r3, I3, g3⟩ := ByteMap.run_put Tryz.underlying85 Tryz.underlying5 I2 (by unfold maxLen; omega) (q := 3) (by omega) (.func (.func 41) #[] #[.pointer (some ⟨bp, 0, none⟩)])
    replace r1 : (Instr.mapUpdate 85 (.map (some mb)) (.int .u8 1) (.func (.func 35) #[] #[.pointer (some ⟨bp, 0, none⟩)])).run Tryz.prog wq = .ok () w1 := r1
    replace r2 : (Instr.mapUpdate 85 (.map (some mb)) (.int .u8 2) (.func (.func 38) #[] #[.pointer (some ⟨bp, 0, none⟩)])).run Tryz.prog w1 = .ok () w2 := r2
    replace r3 : (Instr.mapUpdate 85 (.map (some mb)) (.int .u8 3) (.func (.func 41) #[] #[.pointer (some ⟨bp, 0, none⟩)])).run Tryz.prog w2 = .ok () w3 := r3
    have ka := kq.grown g1 kq.size (fun k hk => by cases hk; exact hmbb)
    have kb := ka.grown g2 ka.size (fun k hk => by cases hk; exact hmbb)
    have kw := kb.grown g3 kb.size (fun k hk => by cases hk; exact hmbb)
    clear ka kb
    clear hmm
    obtain ⟨f, hf⟩ : ∃ f, f = ByteMap.put (ByteMap.put (ByteMap.put (fun _ => none) 1 (.func (.func 35) #[] #[.pointer (some ⟨bp, 0, none⟩)])) 2 (.func (.func 38) #[] #[.pointer (some ⟨bp, 0, none⟩)])) 3 (.func (.func 41) #[] #[.pointer (some ⟨bp, 0, none⟩)]) := ⟨_, rfl⟩
    rw [← hf] at I3
    replace I3 := Lib.hid I3
    replace hf := Lib.hid hf
    clear hwq hmb I0 I1 I2 g1 g2 g3 kq
    replace p0 := (Coder.keepC p0 kw)
    replace p1 := (Coder.keepC p1 kw)
    replace p2 := (Coder.keepC p2 kw)
    replace p3 := (Coder.keepC p3 kw)
    replace p4 := (Coder.keepC p4 kw)
    replace p5 := (Coder.keepC p5 kw)
    replace p6 := (Coder.keepC p6 kw)
    replace kx := Lib.hid ((kx.out).below kw)
    replace hb := bstep hb kw
    clear kw
    go_wp2_with fail
    refine (KD.out _).mono ?_
    rintro e v7 ⟨rfl, k7⟩
    replace p0 := (Coder.keepC p0 k7)
    replace p1 := (Coder.keepC p1 k7)
    replace p2 := (Coder.keepC p2 k7)
    replace p3 := (Coder.keepC p3 k7)
    replace p4 := (Coder.keepC p4 k7)
    replace p5 := (Coder.keepC p5 k7)
    replace p6 := (Coder.keepC p6 k7)
    replace kx := Lib.hid ((kx.out).below k7)
    replace I3 := Lib.hid ((I3.out).below k7)
    replace hb := bstep hb k7
    clear k7
    clear mk r1 r2 r3 hmf
    by_cases k1 : q = 1
    · skip
      have HF : Hid (mayE x.e = B1 x) := Lib.hid (by rw [HK.out, HB.out, if_pos k1])
      have rl := ByteMap.run_look_ok Tryz.underlying85 Tryz.underlying5 zero_fn I3.out (q := 1) (by omega)
      have ef : f 1 = some (.func (.func 35) #[] #[.pointer (some ⟨bp, 0, none⟩)]) := by rw [hf.out]; rfl
      rw [ef] at rl
      replace rl : (Instr.lookup 85 (.map (some mb)) (.int .u8 1) true).run Tryz.prog v7 = .ok (.tuple #[.func (.func 35) #[] #[.pointer (some ⟨bp, 0, none⟩)], .bool true]) v7 := rl
      have HIB := Lib.hid (InB.of p0 p1 p2 p3 p4 p5 p6)
      clear ef
      subst k1
      clear I3 hf
      go_wp2_with fail
      refine (may1_any x bp _ HIB.out kx.out OX.out).mono ?_
      rintro e v8 ⟨rfl, k8⟩
      replace p0 := (Coder.keepC p0 k8)
      replace p1 := (Coder.keepC p1 k8)
      replace p2 := (Coder.keepC p2 k8)
      replace p3 := (Coder.keepC p3 k8)
      replace p4 := (Coder.keepC p4 k8)
      replace p5 := (Coder.keepC p5 k8)
      replace p6 := (Coder.keepC p6 k8)
      replace kx := Lib.hid ((kx.out).below k8)
      replace hb := bstep hb k8
      go_wp2
      go_ret
      exact ⟨by rw [HF.out]; rfl, hb⟩
    by_cases k2 : q = 2
    · skip
      have HF : Hid (mayE x.e = B2 x) := Lib.hid (by rw [HK.out, HB.out, if_neg k1, if_pos k2])
      have rl := ByteMap.run_look_ok Tryz.underlying85 Tryz.underlying5 zero_fn I3.out (q := 2) (by omega)
      have ef : f 2 = some (.func (.func 38) #[] #[.pointer (some ⟨bp, 0, none⟩)]) := by rw [hf.out]; rfl
      rw [ef] at rl
      replace rl : (Instr.lookup 85 (.map (some mb)) (.int .u8 2) true).run Tryz.prog v7 = .ok (.tuple #[.func (.func 38) #[] #[.pointer (some ⟨bp, 0, none⟩)], .bool true]) v7 := rl
      have HIB := Lib.hid (InB.of p0 p1 p2 p3 p4 p5 p6)
      clear ef k1
      subst k2
      clear I3 hf
      go_wp2_with fail
      refine (may2_any x bp _ HIB.out kx.out OX.out OF.out).mono ?_
      rintro e v9 ⟨rfl, k9⟩
      replace p0 := (Coder.keepC p0 k9)
      replace p1 := (Coder.keepC p1 k9)
      replace p2 := (Coder.keepC p2 k9)
      replace p3 := (Coder.keepC p3 k9)
      replace p4 := (Coder.keepC p4 k9)
      replace p5 := (Coder.keepC p5 k9)
      replace p6 := (Coder.keepC p6 k9)
      replace kx := Lib.hid ((kx.out).below k9)
      replace hb := bstep hb k9
      go_wp2
      go_ret
      exact ⟨by rw [HF.out]; rfl, hb⟩
    by_cases k3 : q = 3
    · skip
      have HF : Hid (mayE x.e = B3 x) := Lib.hid (by rw [HK.out, HB.out, if_neg k1, if_neg k2, if_pos k3])
      have rl := ByteMap.run_look_ok Tryz.underlying85 Tryz.underlying5 zero_fn I3.out (q := 3) (by omega)
      have ef : f 3 = some (.func (.func 41) #[] #[.pointer (some ⟨bp, 0, none⟩)]) := by rw [hf.out]; rfl
      rw [ef] at rl
      replace rl : (Instr.lookup 85 (.map (some mb)) (.int .u8 3) true).run Tryz.prog v7 = .ok (.tuple #[.func (.func 41) #[] #[.pointer (some ⟨bp, 0, none⟩)], .bool true]) v7 := rl
      have HIB := Lib.hid (InB.of p0 p1 p2 p3 p4 p5 p6)
      clear ef k1 k2
      subst k3
      clear I3 hf
      go_wp2_with fail
      refine (may3_any x bp _ HIB.out kx.out OX.out).mono ?_
      rintro e v10 ⟨rfl, k10⟩
      replace p0 := (Coder.keepC p0 k10)
      replace p1 := (Coder.keepC p1 k10)
      replace p2 := (Coder.keepC p2 k10)
      replace p3 := (Coder.keepC p3 k10)
      replace p4 := (Coder.keepC p4 k10)
      replace p5 := (Coder.keepC p5 k10)
      replace p6 := (Coder.keepC p6 k10)
      replace kx := Lib.hid ((kx.out).below k10)
      replace hb := bstep hb k10
      go_wp2
      go_ret
      exact ⟨by rw [HF.out]; rfl, hb⟩
    obtain rfl : q = 0 := by omega
    have HF : Hid (mayE x.e = false) := Lib.hid (by rw [HK.out, HB.out, if_neg k1, if_neg k2, if_neg k3])
    have rl := ByteMap.run_look_ok Tryz.underlying85 Tryz.underlying5 zero_fn I3.out (q := 0) (by omega)
    have ef : f 0 = none := by rw [hf.out]; rfl
    rw [ef] at rl
    replace rl : (Instr.lookup 85 (.map (some mb)) (.int .u8 0) true).run Tryz.prog v7 = .ok (.tuple #[.nilFunc, .bool false]) v7 := rl
    clear ef k1 k2 k3 I3 hf
    go_wp2
    go_ret
    exact ⟨by rw [HF.out]; rfl, hb⟩
end Coder
end Go.Proofs.YtnpjkmomllkhpaaGreat
