/- HealthClears: the walk. -/
import Derived.Test.YtfdcmmafdgagoaaBeatUse
namespace Go.Proofs.Ytfdcmmafdgagoaa
namespace HealthClears
open Go.RowKit Go.Proofs.Ytfdcmmafdgagoaa.Order Go.Proofs.Ytfdcmmafdgagoaa.Beat
theorem path_no {q : List UInt8} {b : Bool} (h : pathB q = b) : decide (Path.parse q ≠ []) = b := (path_iff q).trans h

set_option maxRecDepth 100000 in
set_option maxHeartbeats 8000000 in
theorem walk (a0 : List Beat.B) (s0 : Option Addr) (c0 : Nat) (a1 : List Beat.B) (s1 : Option Addr) (c1 : Nat) (a2 : ByteArray) (w : World) (w0 : ∀ x ∈ a0, x.Was) (l0 : Beat.Came w s0 c0 a0) (w1 : ∀ x ∈ a1, x.Was) (l1 : Beat.Came w s1 c1 a1) (w2 : a2.size ≤ maxLen) (u2 : a2.size ≤ 1048576) :
    Calls Try.prog 4 #[.slice s0 a0.length c0, .slice s1 a1.length c1, .string a2] w fun e w' => e = .returned (.bool true) ∧ Below w.heap.size w w' := by
  obtain ⟨q, rfl⟩ : ∃ l : List UInt8, a2 = ⟨l.toArray⟩ := ⟨a2.data.toList, (Str.mk_toList a2).symm⟩
  have hsz := Str.size_mk q
  have HQ : Hid (q.length ≤ 1048576) := Lib.hid (by omega)
  clear w2 u2 hsz
  have hb := Below.refl w.heap.size w
  have C0 := Lib.hid (fun w h => heavy_any a0 s0 c0 w h (fun x hx => (w0 x hx).2))
  have C1 := Lib.hid (fun w h => heavy_any a1 s1 c1 w h (fun x hx => (w1 x hx).2))
  have D0 := Lib.hid (fun w h n sm => rmay_any a0 s0 c0 w h n sm)
  have D1 := Lib.hid (fun w h n sm => rmay_any a1 s1 c1 w h n sm)
  have DQ := Lib.hid (fun w => RefPath.may_any q w (Nat.le_trans HQ.out (by decide)))
  replace l0 := Lib.hid l0
  replace l1 := Lib.hid l1
  clear w0 w1
  cases h0 : heavyB a0
  rotate_left
  · have H0 := Lib.hid h0
    clear h0
    go_enter Try.func4, Try.ntmps4
    go_wp2_with fail
    refine (C0.out _ l0.out.1).mono ?_
    rintro e w1 ⟨rfl, rfl⟩
    rw [H0.out]
    go_wp2_with fail
    refine (works_any _).mono ?_
    rintro e v2 ⟨rfl, k2⟩
    replace l0 := Lib.hid ((l0.out).below k2)
    replace l1 := Lib.hid ((l1.out).below k2)
    replace hb := bstep hb k2
    clear k2
    go_wp2
    go_ret
    exact ⟨rfl, hb⟩
  have H0 := Lib.hid h0
  have K0 := Lib.hid (light h0)
  clear h0
  cases h1 : heavyB a1
  rotate_left
  · have H1 := Lib.hid h1
    clear h1
    go_enter Try.func4, Try.ntmps4
    go_wp2_with fail
    refine (C0.out _ l0.out.1).mono ?_
    rintro e w3 ⟨rfl, rfl⟩
    rw [H0.out]
    go_wp2_with fail
    refine (C1.out _ l1.out.1).mono ?_
    rintro e w4 ⟨rfl, rfl⟩
    rw [H1.out]
    go_wp2_with fail
    refine (works_any _).mono ?_
    rintro e v5 ⟨rfl, k5⟩
    replace l0 := Lib.hid ((l0.out).below k5)
    replace l1 := Lib.hid ((l1.out).below k5)
    replace hb := bstep hb k5
    clear k5
    go_wp2
    go_ret
    exact ⟨rfl, hb⟩
  have H1 := Lib.hid h1
  have K1 := Lib.hid (light h1)
  clear h1
  cases m0 : mayB a0
  · have M0 := Lib.hid m0
    clear m0
    go_enter Try.func4, Try.ntmps4
    go_wp2_with fail
    refine (C0.out _ l0.out.1).mono ?_
    rintro e w6 ⟨rfl, rfl⟩
    rw [H0.out]
    go_wp2_with fail
    refine (C1.out _ l1.out.1).mono ?_
    rintro e w7 ⟨rfl, rfl⟩
    rw [H1.out]
    go_wp2_with fail
    refine (D0.out _ l0.out.1 (by have := K0.out.1; omega) K0.out.2).mono ?_
    rintro e v8 ⟨rfl, k8⟩
    replace l0 := Lib.hid ((l0.out).below k8)
    replace l1 := Lib.hid ((l1.out).below k8)
    replace hb := bstep hb k8
    clear k8
    rw [M0.out]
    go_wp2_with fail
    refine (works_any _).mono ?_
    rintro e v9 ⟨rfl, k9⟩
    replace l0 := Lib.hid ((l0.out).below k9)
    replace l1 := Lib.hid ((l1.out).below k9)
    replace hb := bstep hb k9
    clear k9
    go_wp2
    go_ret
    exact ⟨rfl, hb⟩
  have M0 := Lib.hid m0
  clear m0
  cases m1 : mayB a1
  · have M1 := Lib.hid m1
    clear m1
    go_enter Try.func4, Try.ntmps4
    go_wp2_with fail
    refine (C0.out _ l0.out.1).mono ?_
    rintro e w10 ⟨rfl, rfl⟩
    rw [H0.out]
    go_wp2_with fail
    refine (C1.out _ l1.out.1).mono ?_
    rintro e w11 ⟨rfl, rfl⟩
    rw [H1.out]
    go_wp2_with fail
    refine (D0.out _ l0.out.1 (by have := K0.out.1; omega) K0.out.2).mono ?_
    rintro e v12 ⟨rfl, k12⟩
    replace l0 := Lib.hid ((l0.out).below k12)
    replace l1 := Lib.hid ((l1.out).below k12)
    replace hb := bstep hb k12
    clear k12
    rw [M0.out]
    go_wp2_with fail
    refine (D1.out _ l1.out.1 (by have := K1.out.1; omega) K1.out.2).mono ?_
    rintro e v13 ⟨rfl, k13⟩
    replace l0 := Lib.hid ((l0.out).below k13)
    replace l1 := Lib.hid ((l1.out).below k13)
    replace hb := bstep hb k13
    clear k13
    rw [M1.out]
    go_wp2_with fail
    refine (works_any _).mono ?_
    rintro e v14 ⟨rfl, k14⟩
    replace l0 := Lib.hid ((l0.out).below k14)
    replace l1 := Lib.hid ((l1.out).below k14)
    replace hb := bstep hb k14
    clear k14
    go_wp2
    go_ret
    exact ⟨rfl, hb⟩
  have M1 := Lib.hid m1
  clear m1
  cases mq : pathB q
  · have MQ := Lib.hid (path_no mq)
    clear mq
    go_enter Try.func4, Try.ntmps4
    go_wp2_with fail
    refine (C0.out _ l0.out.1).mono ?_
    rintro e w15 ⟨rfl, rfl⟩
    rw [H0.out]
    go_wp2_with fail
    refine (C1.out _ l1.out.1).mono ?_
    rintro e w16 ⟨rfl, rfl⟩
    rw [H1.out]
    go_wp2_with fail
    refine (D0.out _ l0.out.1 (by have := K0.out.1; omega) K0.out.2).mono ?_
    rintro e v17 ⟨rfl, k17⟩
    replace l0 := Lib.hid ((l0.out).below k17)
    replace l1 := Lib.hid ((l1.out).below k17)
    replace hb := bstep hb k17
    clear k17
    rw [M0.out]
    go_wp2_with fail
    refine (D1.out _ l1.out.1 (by have := K1.out.1; omega) K1.out.2).mono ?_
    rintro e v18 ⟨rfl, k18⟩
    replace l0 := Lib.hid ((l0.out).below k18)
    replace l1 := Lib.hid ((l1.out).below k18)
    replace hb := bstep hb k18
    clear k18
    rw [M1.out]
    go_wp2_with fail
    refine (DQ.out _).mono ?_
    rintro e v19 ⟨rfl, k19⟩
    replace l0 := Lib.hid ((l0.out).below k19)
    replace l1 := Lib.hid ((l1.out).below k19)
    replace hb := bstep hb k19
    clear k19
    rw [MQ.out]
    go_wp2_with fail
    refine (works_any _).mono ?_
    rintro e v20 ⟨rfl, k20⟩
    replace l0 := Lib.hid ((l0.out).below k20)
    replace l1 := Lib.hid ((l1.out).below k20)
    replace hb := bstep hb k20
    clear k20
    go_wp2
    go_ret
    exact ⟨rfl, hb⟩
  have MQ := Lib.hid (path_no mq)
  have MP := Lib.hid mq
  clear mq
  obtain ⟨n0, hn0⟩ : ∃ n, n = a0.length := ⟨_, rfl⟩
  obtain ⟨n1, hn1⟩ : ∃ n, n = a1.length := ⟨_, rfl⟩
  have HN := Lib.hid (And.intro hn0 hn1)
  have e0 : n0 ≤ 40 := by have := K0.out.1; omega
  have e1 : n1 ≤ 40 := by have := K1.out.1; omega
  have E0 : Hid (∀ w, Came w s0 c0 a0 → Calls Try.prog 9 #[.slice s0 n0 c0] w (Got a0 w)) := Lib.hid (fun w h => by rw [hn0]; exact copied_got h (by omega))
  have E1 : Hid (∀ w, Came w s1 c1 a1 → Calls Try.prog 9 #[.slice s1 n1 c1] w (Got a1 w)) := Lib.hid (fun w h => by rw [hn1]; exact copied_got h (by omega))
  rw [← hn0] at C0 D0 ⊢
  rw [← hn1] at C1 D1 ⊢
  replace D0 : Hid (∀ w, Came w s0 c0 a0 → Calls Try.prog 7 #[.slice s0 n0 c0] w fun e w' => e = .returned (.bool true) ∧ Below w.heap.size w w') := Lib.hid (fun w h => by have := rmay_any a0 s0 c0 w h.1 (by omega) K0.out.2; rw [M0.out, ← hn0] at this; exact this)
  replace D1 : Hid (∀ w, Came w s1 c1 a1 → Calls Try.prog 7 #[.slice s1 n1 c1] w fun e w' => e = .returned (.bool true) ∧ Below w.heap.size w w') := Lib.hid (fun w h => by have := rmay_any a1 s1 c1 w h.1 (by omega) K1.out.2; rw [M1.out, ← hn1] at this; exact this)
  replace C0 : Hid (∀ w, Came w s0 c0 a0 → Calls Try.prog 5 #[.slice s0 n0 c0] w fun e w' => e = .returned (.bool false) ∧ w = w') := Lib.hid (fun w h => by have := C0.out w (by rw [hn0]; exact h.1); rw [H0.out] at this; exact this)
  replace C1 : Hid (∀ w, Came w s1 c1 a1 → Calls Try.prog 5 #[.slice s1 n1 c1] w fun e w' => e = .returned (.bool false) ∧ w = w') := Lib.hid (fun w h => by have := C1.out w (by rw [hn1]; exact h.1); rw [H1.out] at this; exact this)
  clear hn0 hn1
  by_cases hbig : n0 + n1 + 1 > 24
  · have d1 : decide ((n0 : Int) + (n1 : Int) + 1 > 24) = true := decide_eq_true (by omega)
    have d2 : decide ((24 : Int) < (n0 : Int) + (n1 : Int) + 1) = true := decide_eq_true (by omega)
    clear hbig
    go_enter Try.func4, Try.ntmps4
    go_wp2_with fail
    refine (C0.out _ l0.out).mono ?_
    rintro e w21 ⟨rfl, rfl⟩
    go_wp2_with fail
    refine (C1.out _ l1.out).mono ?_
    rintro e w22 ⟨rfl, rfl⟩
    go_wp2_with fail
    refine (D0.out _ l0.out).mono ?_
    rintro e v23 ⟨rfl, k23⟩
    replace l0 := Lib.hid ((l0.out).below k23)
    replace l1 := Lib.hid ((l1.out).below k23)
    replace hb := bstep hb k23
    clear k23
    go_wp2_with fail
    refine (D1.out _ l1.out).mono ?_
    rintro e v24 ⟨rfl, k24⟩
    replace l0 := Lib.hid ((l0.out).below k24)
    replace l1 := Lib.hid ((l1.out).below k24)
    replace hb := bstep hb k24
    clear k24
    go_wp2_with fail
    refine (DQ.out _).mono ?_
    rintro e v25 ⟨rfl, k25⟩
    replace l0 := Lib.hid ((l0.out).below k25)
    replace l1 := Lib.hid ((l1.out).below k25)
    replace hb := bstep hb k25
    clear k25
    rw [MQ.out]
    go_wp2_with fail
    refine (works_any _).mono ?_
    rintro e v26 ⟨rfl, k26⟩
    replace l0 := Lib.hid ((l0.out).below k26)
    replace l1 := Lib.hid ((l1.out).below k26)
    replace hb := bstep hb k26
    clear k26
    go_wp2
    go_ret
    exact ⟨rfl, hb⟩
  have d1 : decide ((n0 : Int) + (n1 : Int) + 1 > 24) = false := decide_eq_false (by omega)
  have d2 : decide ((24 : Int) < (n0 : Int) + (n1 : Int) + 1) = false := decide_eq_false (by omega)
  have HX := HealthPlain_clears M0.out M1.out MP.out (by have := HN.out; omega) K0.out.2 K1.out.2 (Nat.le_trans HQ.out (by decide))
  clear hbig
  obtain ⟨all, bad, n, X1, Y1, X2, Y2, X3, hn, HX⟩ := HX
  replace X1 := Lib.hid X1
  replace X2 := Lib.hid X2
  replace X3 := Lib.hid X3
  replace Y1 := Lib.hid Y1
  replace Y2 := Lib.hid Y2
  replace HX := Lib.hid HX
  obtain ⟨i1, hi1⟩ : ∃ i, isB bad q = i := ⟨_, rfl⟩
  replace hi1 := Lib.hid hi1
  have HQ2 : Hid (q.length ≤ 1099511627776) := Lib.hid (Nat.le_trans HQ.out (by decide))
  by_cases hlt : n < 281474976710656
  rotate_left
  · have d3 : decide ((n : Int) ≥ 281474976710656) = true := decide_eq_true (by omega)
    have d4 : decide ((281474976710656 : Int) ≤ (n : Int)) = true := decide_eq_true (by omega)
    clear hlt
    go_enter Try.func4, Try.ntmps4
    go_wp2_with fail
    refine (C0.out _ l0.out).mono ?_
    rintro e w27 ⟨rfl, rfl⟩
    go_wp2_with fail
    refine (C1.out _ l1.out).mono ?_
    rintro e w28 ⟨rfl, rfl⟩
    go_wp2_with fail
    refine (D0.out _ l0.out).mono ?_
    rintro e v29 ⟨rfl, k29⟩
    replace l0 := Lib.hid ((l0.out).below k29)
    replace l1 := Lib.hid ((l1.out).below k29)
    replace hb := bstep hb k29
    clear k29
    go_wp2_with fail
    refine (D1.out _ l1.out).mono ?_
    rintro e v30 ⟨rfl, k30⟩
    replace l0 := Lib.hid ((l0.out).below k30)
    replace l1 := Lib.hid ((l1.out).below k30)
    replace hb := bstep hb k30
    clear k30
    go_wp2_with fail
    refine (DQ.out _).mono ?_
    rintro e v31 ⟨rfl, k31⟩
    replace l0 := Lib.hid ((l0.out).below k31)
    replace l1 := Lib.hid ((l1.out).below k31)
    replace hb := bstep hb k31
    clear k31
    rw [MQ.out]
    go_wp2_with fail
    refine (E0.out _ l0.out).mono ?_
    rintro e v32 ⟨z1, y1, rfl, t1, k32⟩
    replace l0 := Lib.hid ((l0.out).below k32)
    replace l1 := Lib.hid ((l1.out).below k32)
    replace hb := bstep hb k32
    clear k32
    replace t1 := Lib.hid t1
    go_wp2_with fail
    refine (E1.out _ l1.out).mono ?_
    rintro e v33 ⟨z2, y2, rfl, t2, k33⟩
    replace l0 := Lib.hid ((l0.out).below k33)
    replace l1 := Lib.hid ((l1.out).below k33)
    replace t1 := Lib.hid ((t1.out).below k33)
    replace hb := bstep hb k33
    clear k33
    replace t2 := Lib.hid t2
    go_wp2_with fail
    refine (join_got X1.out t1.out t2.out K0.out.2 K1.out.2 Y1.out.1).mono ?_
    rintro e v34 ⟨z3, y3, rfl, t3, k34⟩
    replace l0 := Lib.hid ((l0.out).below k34)
    replace l1 := Lib.hid ((l1.out).below k34)
    replace t1 := Lib.hid ((t1.out).below k34)
    replace t2 := Lib.hid ((t2.out).below k34)
    replace hb := bstep hb k34
    clear k34
    replace t3 := Lib.hid t3
    clear t1 t2
    go_wp2_with fail
    refine (copied_got t3.out Y1.out.1).mono ?_
    rintro e v35 ⟨z4, y4, rfl, t4, k35⟩
    replace l0 := Lib.hid ((l0.out).below k35)
    replace l1 := Lib.hid ((l1.out).below k35)
    replace t3 := Lib.hid ((t3.out).below k35)
    replace hb := bstep hb k35
    clear k35
    replace t4 := Lib.hid t4
    go_wp2_with fail
    refine (sus_got X2.out t4.out Y1.out.2 HQ2.out Y2.out.1).mono ?_
    rintro e v36 ⟨z5, y5, rfl, t5, k36⟩
    replace l0 := Lib.hid ((l0.out).below k36)
    replace l1 := Lib.hid ((l1.out).below k36)
    replace t3 := Lib.hid ((t3.out).below k36)
    replace t4 := Lib.hid ((t4.out).below k36)
    replace hb := bstep hb k36
    clear k36
    replace t5 := Lib.hid t5
    clear t4
    go_wp2_with fail
    refine (copied_got t5.out Y2.out.1).mono ?_
    rintro e v37 ⟨z6, y6, rfl, t6, k37⟩
    replace l0 := Lib.hid ((l0.out).below k37)
    replace l1 := Lib.hid ((l1.out).below k37)
    replace t3 := Lib.hid ((t3.out).below k37)
    replace t5 := Lib.hid ((t5.out).below k37)
    replace hb := bstep hb k37
    clear k37
    replace t6 := Lib.hid t6
    go_wp2_with fail
    refine (of_is X3.out hi1.out t6.out Y2.out.2 HQ2.out).mono ?_
    rintro e v38 ⟨rfl, k38⟩
    replace l0 := Lib.hid ((l0.out).below k38)
    replace l1 := Lib.hid ((l1.out).below k38)
    replace t3 := Lib.hid ((t3.out).below k38)
    replace t5 := Lib.hid ((t5.out).below k38)
    replace t6 := Lib.hid ((t6.out).below k38)
    replace hb := bstep hb k38
    clear k38
    clear t6
    have x0 : (v38.alloc (.cells #[.string ⟨q.toArray⟩, .int .u64 (n : Int), .bool true] 28)).cell? ⟨v38.heap.size, 1, none⟩ = some (.int .u64 (n : Int)) := by rw [World.cell?_alloc_new]; rfl
    have x1 : (v38.alloc (.cells #[.string ⟨q.toArray⟩, .int .u64 (n : Int), .bool true] 28)).cell? ⟨v38.heap.size, 2, none⟩ = some (.bool true) := by rw [World.cell?_alloc_new]; rfl
    go_wp2_with fail
    refine (works_any _).mono ?_
    rintro e w9 ⟨rfl, k9⟩
    go_wp2
    go_ret
    exact ⟨rfl, bstep (balloc hb _) k9⟩
  have d3 : decide ((n : Int) ≥ 281474976710656) = false := decide_eq_false (by omega)
  have d4 : decide ((281474976710656 : Int) ≤ (n : Int)) = false := decide_eq_false (by omega)
  obtain ⟨fine, again, X4, Y4, X5, X6, X7, Y7, X8⟩ := HX.out hlt
  clear hlt
  obtain ⟨m, hm⟩ : ∃ m, m = n + 1 := ⟨_, rfl⟩
  rw [← hm] at X6 X8
  have wr : IntKind.u64.wrap ((n : Int) + 1) = (m : Int) := by rw [IntKind.wrap_u64]; omega
  clear hm
  replace X4 := Lib.hid X4
  replace X5 := Lib.hid X5
  replace X6 := Lib.hid X6
  replace X7 := Lib.hid X7
  replace X8 := Lib.hid X8
  replace Y4 := Lib.hid Y4
  replace Y7 := Lib.hid Y7
  obtain ⟨i2, hi2⟩ : ∃ i, isB fine q = i := ⟨_, rfl⟩
  replace hi2 := Lib.hid hi2
  obtain ⟨i3, hi3⟩ : ∃ i, isB again q = i := ⟨_, rfl⟩
  replace hi3 := Lib.hid hi3
  go_enter Try.func4, Try.ntmps4
  go_wp2_with fail
  refine (C0.out _ l0.out).mono ?_
  rintro e w39 ⟨rfl, rfl⟩
  go_wp2_with fail
  refine (C1.out _ l1.out).mono ?_
  rintro e w40 ⟨rfl, rfl⟩
  go_wp2_with fail
  refine (D0.out _ l0.out).mono ?_
  rintro e v41 ⟨rfl, k41⟩
  replace l0 := Lib.hid ((l0.out).below k41)
  replace l1 := Lib.hid ((l1.out).below k41)
  replace hb := bstep hb k41
  clear k41
  go_wp2_with fail
  refine (D1.out _ l1.out).mono ?_
  rintro e v42 ⟨rfl, k42⟩
  replace l0 := Lib.hid ((l0.out).below k42)
  replace l1 := Lib.hid ((l1.out).below k42)
  replace hb := bstep hb k42
  clear k42
  go_wp2_with fail
  refine (DQ.out _).mono ?_
  rintro e v43 ⟨rfl, k43⟩
  replace l0 := Lib.hid ((l0.out).below k43)
  replace l1 := Lib.hid ((l1.out).below k43)
  replace hb := bstep hb k43
  clear k43
  rw [MQ.out]
  go_wp2_with fail
  refine (E0.out _ l0.out).mono ?_
  rintro e v44 ⟨z7, y7, rfl, t7, k44⟩
  replace l0 := Lib.hid ((l0.out).below k44)
  replace l1 := Lib.hid ((l1.out).below k44)
  replace hb := bstep hb k44
  clear k44
  replace t7 := Lib.hid t7
  go_wp2_with fail
  refine (E1.out _ l1.out).mono ?_
  rintro e v45 ⟨z8, y8, rfl, t8, k45⟩
  replace l0 := Lib.hid ((l0.out).below k45)
  replace l1 := Lib.hid ((l1.out).below k45)
  replace t7 := Lib.hid ((t7.out).below k45)
  replace hb := bstep hb k45
  clear k45
  replace t8 := Lib.hid t8
  go_wp2_with fail
  refine (join_got X1.out t7.out t8.out K0.out.2 K1.out.2 Y1.out.1).mono ?_
  rintro e v46 ⟨z9, y9, rfl, t9, k46⟩
  replace l0 := Lib.hid ((l0.out).below k46)
  replace l1 := Lib.hid ((l1.out).below k46)
  replace t7 := Lib.hid ((t7.out).below k46)
  replace t8 := Lib.hid ((t8.out).below k46)
  replace hb := bstep hb k46
  clear k46
  replace t9 := Lib.hid t9
  clear t7 t8
  go_wp2_with fail
  refine (copied_got t9.out Y1.out.1).mono ?_
  rintro e v47 ⟨z10, y10, rfl, t10, k47⟩
  replace l0 := Lib.hid ((l0.out).below k47)
  replace l1 := Lib.hid ((l1.out).below k47)
  replace t9 := Lib.hid ((t9.out).below k47)
  replace hb := bstep hb k47
  clear k47
  replace t10 := Lib.hid t10
  go_wp2_with fail
  refine (sus_got X2.out t10.out Y1.out.2 HQ2.out Y2.out.1).mono ?_
  rintro e v48 ⟨z11, y11, rfl, t11, k48⟩
  replace l0 := Lib.hid ((l0.out).below k48)
  replace l1 := Lib.hid ((l1.out).below k48)
  replace t9 := Lib.hid ((t9.out).below k48)
  replace t10 := Lib.hid ((t10.out).below k48)
  replace hb := bstep hb k48
  clear k48
  replace t11 := Lib.hid t11
  clear t10
  go_wp2_with fail
  refine (copied_got t11.out Y2.out.1).mono ?_
  rintro e v49 ⟨z12, y12, rfl, t12, k49⟩
  replace l0 := Lib.hid ((l0.out).below k49)
  replace l1 := Lib.hid ((l1.out).below k49)
  replace t9 := Lib.hid ((t9.out).below k49)
  replace t11 := Lib.hid ((t11.out).below k49)
  replace hb := bstep hb k49
  clear k49
  replace t12 := Lib.hid t12
  go_wp2_with fail
  refine (of_is X3.out hi1.out t12.out Y2.out.2 HQ2.out).mono ?_
  rintro e v50 ⟨rfl, k50⟩
  replace l0 := Lib.hid ((l0.out).below k50)
  replace l1 := Lib.hid ((l1.out).below k50)
  replace t9 := Lib.hid ((t9.out).below k50)
  replace t11 := Lib.hid ((t11.out).below k50)
  replace t12 := Lib.hid ((t12.out).below k50)
  replace hb := bstep hb k50
  clear k50
  clear t12
  have x0 : (v50.alloc (.cells #[.string ⟨q.toArray⟩, .int .u64 (n : Int), .bool true] 28)).cell? ⟨v50.heap.size, 1, none⟩ = some (.int .u64 (n : Int)) := by rw [World.cell?_alloc_new]; rfl
  have x1 : (v50.alloc (.cells #[.string ⟨q.toArray⟩, .int .u64 (n : Int), .bool true] 28)).cell? ⟨v50.heap.size, 2, none⟩ = some (.bool true) := by rw [World.cell?_alloc_new]; rfl
  go_wp2_with fail
  have hbx : Below v50.heap.size v50 (v50.alloc (.cells #[.string ⟨q.toArray⟩, .int .u64 (n : Int), .bool true] 28)) := balloc (Below.refl _ _) _
  have hgl : v50.heap.size < (v50.alloc (.cells #[.string ⟨q.toArray⟩, .int .u64 (n : Int), .bool true] 28)).heap.size := by rw [World.size_alloc]; omega
  replace l0 := Lib.hid ((l0.out).below hbx)
  replace l1 := Lib.hid ((l1.out).below hbx)
  replace t9 := Lib.hid ((t9.out).below hbx)
  replace t11 := Lib.hid ((t11.out).below hbx)
  replace hb := bstep hb hbx
  generalize v50.alloc _ = u0 at *
  generalize v50.heap.size = g0 at *
  clear hbx
  clear hgl
  refine (copied_got t11.out Y2.out.1).mono ?_
  rintro e v51 ⟨z13, y13, rfl, t13, k51⟩
  replace l0 := Lib.hid ((l0.out).below k51)
  replace l1 := Lib.hid ((l1.out).below k51)
  replace t9 := Lib.hid ((t9.out).below k51)
  replace t11 := Lib.hid ((t11.out).below k51)
  replace x0 := (Beat.keepC x0 k51)
  replace x1 := (Beat.keepC x1 k51)
  replace hb := bstep hb k51
  clear k51
  replace t13 := Lib.hid t13
  go_wp2_with fail
  refine (ref_got X4.out t13.out Y2.out.2 HQ2.out Y4.out.1).mono ?_
  rintro e v52 ⟨z14, y14, rfl, t14, k52⟩
  replace l0 := Lib.hid ((l0.out).below k52)
  replace l1 := Lib.hid ((l1.out).below k52)
  replace t9 := Lib.hid ((t9.out).below k52)
  replace t11 := Lib.hid ((t11.out).below k52)
  replace x0 := (Beat.keepC x0 k52)
  replace x1 := (Beat.keepC x1 k52)
  replace t13 := Lib.hid ((t13.out).below k52)
  replace hb := bstep hb k52
  clear k52
  replace t14 := Lib.hid t14
  clear t13
  go_wp2_with fail
  refine (copied_got t14.out Y4.out.1).mono ?_
  rintro e v53 ⟨z15, y15, rfl, t15, k53⟩
  replace l0 := Lib.hid ((l0.out).below k53)
  replace l1 := Lib.hid ((l1.out).below k53)
  replace t9 := Lib.hid ((t9.out).below k53)
  replace t11 := Lib.hid ((t11.out).below k53)
  replace x0 := (Beat.keepC x0 k53)
  replace x1 := (Beat.keepC x1 k53)
  replace t14 := Lib.hid ((t14.out).below k53)
  replace hb := bstep hb k53
  clear k53
  replace t15 := Lib.hid t15
  go_wp2_with fail
  refine (copied_got t11.out Y2.out.1).mono ?_
  rintro e v54 ⟨z16, y16, rfl, t16, k54⟩
  replace l0 := Lib.hid ((l0.out).below k54)
  replace l1 := Lib.hid ((l1.out).below k54)
  replace t9 := Lib.hid ((t9.out).below k54)
  replace t11 := Lib.hid ((t11.out).below k54)
  replace x0 := (Beat.keepC x0 k54)
  replace x1 := (Beat.keepC x1 k54)
  replace t14 := Lib.hid ((t14.out).below k54)
  replace t15 := Lib.hid ((t15.out).below k54)
  replace hb := bstep hb k54
  clear k54
  replace t16 := Lib.hid t16
  go_wp2_with fail
  refine (join_got X5.out t15.out t16.out Y4.out.2 Y2.out.2 Y4.out.1).mono ?_
  rintro e v55 ⟨z17, y17, rfl, t17, k55⟩
  replace l0 := Lib.hid ((l0.out).below k55)
  replace l1 := Lib.hid ((l1.out).below k55)
  replace t9 := Lib.hid ((t9.out).below k55)
  replace t11 := Lib.hid ((t11.out).below k55)
  replace x0 := (Beat.keepC x0 k55)
  replace x1 := (Beat.keepC x1 k55)
  replace t14 := Lib.hid ((t14.out).below k55)
  replace t15 := Lib.hid ((t15.out).below k55)
  replace t16 := Lib.hid ((t16.out).below k55)
  replace hb := bstep hb k55
  clear k55
  replace t17 := Lib.hid t17
  clear t15 t16
  go_wp2_with fail
  refine (copied_got t17.out Y4.out.1).mono ?_
  rintro e v56 ⟨z18, y18, rfl, t18, k56⟩
  replace l0 := Lib.hid ((l0.out).below k56)
  replace l1 := Lib.hid ((l1.out).below k56)
  replace t9 := Lib.hid ((t9.out).below k56)
  replace t11 := Lib.hid ((t11.out).below k56)
  replace x0 := (Beat.keepC x0 k56)
  replace x1 := (Beat.keepC x1 k56)
  replace t14 := Lib.hid ((t14.out).below k56)
  replace t17 := Lib.hid ((t17.out).below k56)
  replace hb := bstep hb k56
  clear k56
  replace t18 := Lib.hid t18
  go_wp2_with fail
  refine (of_is X6.out hi2.out t18.out Y4.out.2 HQ2.out).mono ?_
  rintro e v57 ⟨rfl, k57⟩
  replace l0 := Lib.hid ((l0.out).below k57)
  replace l1 := Lib.hid ((l1.out).below k57)
  replace t9 := Lib.hid ((t9.out).below k57)
  replace t11 := Lib.hid ((t11.out).below k57)
  replace x0 := (Beat.keepC x0 k57)
  replace x1 := (Beat.keepC x1 k57)
  replace t14 := Lib.hid ((t14.out).below k57)
  replace t17 := Lib.hid ((t17.out).below k57)
  replace t18 := Lib.hid ((t18.out).below k57)
  replace hb := bstep hb k57
  clear k57
  clear t18
  have x2 : (v57.alloc (.cells #[.string ⟨q.toArray⟩, .int .u64 (m : Int), .bool false] 28)).cell? ⟨v57.heap.size, 1, none⟩ = some (.int .u64 (m : Int)) := by rw [World.cell?_alloc_new]; rfl
  have x3 : (v57.alloc (.cells #[.string ⟨q.toArray⟩, .int .u64 (m : Int), .bool false] 28)).cell? ⟨v57.heap.size, 2, none⟩ = some (.bool false) := by rw [World.cell?_alloc_new]; rfl
  go_wp2_with fail
  have hbx : Below v57.heap.size v57 (v57.alloc (.cells #[.string ⟨q.toArray⟩, .int .u64 (m : Int), .bool false] 28)) := balloc (Below.refl _ _) _
  replace l0 := Lib.hid ((l0.out).below hbx)
  replace l1 := Lib.hid ((l1.out).below hbx)
  replace t9 := Lib.hid ((t9.out).below hbx)
  replace t11 := Lib.hid ((t11.out).below hbx)
  replace x0 := (Beat.keepC x0 hbx)
  replace x1 := (Beat.keepC x1 hbx)
  replace t14 := Lib.hid ((t14.out).below hbx)
  replace t17 := Lib.hid ((t17.out).below hbx)
  replace hb := bstep hb hbx
  generalize v57.alloc _ = u1 at *
  generalize v57.heap.size = g1 at *
  clear hbx
  refine (copied_got t17.out Y4.out.1).mono ?_
  rintro e v58 ⟨z19, y19, rfl, t19, k58⟩
  replace l0 := Lib.hid ((l0.out).below k58)
  replace l1 := Lib.hid ((l1.out).below k58)
  replace t9 := Lib.hid ((t9.out).below k58)
  replace t11 := Lib.hid ((t11.out).below k58)
  replace x0 := (Beat.keepC x0 k58)
  replace x1 := (Beat.keepC x1 k58)
  replace t14 := Lib.hid ((t14.out).below k58)
  replace t17 := Lib.hid ((t17.out).below k58)
  replace x2 := (Beat.keepC x2 k58)
  replace x3 := (Beat.keepC x3 k58)
  replace hb := bstep hb k58
  clear k58
  replace t19 := Lib.hid t19
  go_wp2_with fail
  refine (sus_got X7.out t19.out Y4.out.2 HQ2.out Y7.out.1).mono ?_
  rintro e v59 ⟨z20, y20, rfl, t20, k59⟩
  replace l0 := Lib.hid ((l0.out).below k59)
  replace l1 := Lib.hid ((l1.out).below k59)
  replace t9 := Lib.hid ((t9.out).below k59)
  replace t11 := Lib.hid ((t11.out).below k59)
  replace x0 := (Beat.keepC x0 k59)
  replace x1 := (Beat.keepC x1 k59)
  replace t14 := Lib.hid ((t14.out).below k59)
  replace t17 := Lib.hid ((t17.out).below k59)
  replace x2 := (Beat.keepC x2 k59)
  replace x3 := (Beat.keepC x3 k59)
  replace t19 := Lib.hid ((t19.out).below k59)
  replace hb := bstep hb k59
  clear k59
  replace t20 := Lib.hid t20
  clear t19
  go_wp2_with fail
  refine (copied_got t20.out Y7.out.1).mono ?_
  rintro e v60 ⟨z21, y21, rfl, t21, k60⟩
  replace l0 := Lib.hid ((l0.out).below k60)
  replace l1 := Lib.hid ((l1.out).below k60)
  replace t9 := Lib.hid ((t9.out).below k60)
  replace t11 := Lib.hid ((t11.out).below k60)
  replace x0 := (Beat.keepC x0 k60)
  replace x1 := (Beat.keepC x1 k60)
  replace t14 := Lib.hid ((t14.out).below k60)
  replace t17 := Lib.hid ((t17.out).below k60)
  replace x2 := (Beat.keepC x2 k60)
  replace x3 := (Beat.keepC x3 k60)
  replace t20 := Lib.hid ((t20.out).below k60)
  replace hb := bstep hb k60
  clear k60
  replace t21 := Lib.hid t21
  go_wp2_with fail
  refine (of_is X8.out hi3.out t21.out Y7.out.2 HQ2.out).mono ?_
  rintro e v61 ⟨rfl, k61⟩
  replace l0 := Lib.hid ((l0.out).below k61)
  replace l1 := Lib.hid ((l1.out).below k61)
  replace t9 := Lib.hid ((t9.out).below k61)
  replace t11 := Lib.hid ((t11.out).below k61)
  replace x0 := (Beat.keepC x0 k61)
  replace x1 := (Beat.keepC x1 k61)
  replace t14 := Lib.hid ((t14.out).below k61)
  replace t17 := Lib.hid ((t17.out).below k61)
  replace x2 := (Beat.keepC x2 k61)
  replace x3 := (Beat.keepC x3 k61)
  replace t20 := Lib.hid ((t20.out).below k61)
  replace t21 := Lib.hid ((t21.out).below k61)
  replace hb := bstep hb k61
  clear k61
  clear t21
  have x4 : (v61.alloc (.cells #[.string ⟨q.toArray⟩, .int .u64 (m : Int), .bool true] 28)).cell? ⟨v61.heap.size, 1, none⟩ = some (.int .u64 (m : Int)) := by rw [World.cell?_alloc_new]; rfl
  have x5 : (v61.alloc (.cells #[.string ⟨q.toArray⟩, .int .u64 (m : Int), .bool true] 28)).cell? ⟨v61.heap.size, 2, none⟩ = some (.bool true) := by rw [World.cell?_alloc_new]; rfl
  replace l0 := Lib.hid ((l0.out).below (balloc (Below.refl _ _) (.cells #[.string ⟨q.toArray⟩, .int .u64 (m : Int), .bool true] 28)))
  replace l1 := Lib.hid ((l1.out).below (balloc (Below.refl _ _) (.cells #[.string ⟨q.toArray⟩, .int .u64 (m : Int), .bool true] 28)))
  replace t9 := Lib.hid ((t9.out).below (balloc (Below.refl _ _) (.cells #[.string ⟨q.toArray⟩, .int .u64 (m : Int), .bool true] 28)))
  replace t11 := Lib.hid ((t11.out).below (balloc (Below.refl _ _) (.cells #[.string ⟨q.toArray⟩, .int .u64 (m : Int), .bool true] 28)))
  replace x0 := (Beat.keepC x0 (balloc (Below.refl _ _) (.cells #[.string ⟨q.toArray⟩, .int .u64 (m : Int), .bool true] 28)))
  replace x1 := (Beat.keepC x1 (balloc (Below.refl _ _) (.cells #[.string ⟨q.toArray⟩, .int .u64 (m : Int), .bool true] 28)))
  replace t14 := Lib.hid ((t14.out).below (balloc (Below.refl _ _) (.cells #[.string ⟨q.toArray⟩, .int .u64 (m : Int), .bool true] 28)))
  replace t17 := Lib.hid ((t17.out).below (balloc (Below.refl _ _) (.cells #[.string ⟨q.toArray⟩, .int .u64 (m : Int), .bool true] 28)))
  replace x2 := (Beat.keepC x2 (balloc (Below.refl _ _) (.cells #[.string ⟨q.toArray⟩, .int .u64 (m : Int), .bool true] 28)))
  replace x3 := (Beat.keepC x3 (balloc (Below.refl _ _) (.cells #[.string ⟨q.toArray⟩, .int .u64 (m : Int), .bool true] 28)))
  replace t20 := Lib.hid ((t20.out).below (balloc (Below.refl _ _) (.cells #[.string ⟨q.toArray⟩, .int .u64 (m : Int), .bool true] 28)))
  replace hb := bstep hb (balloc (Below.refl _ _) (.cells #[.string ⟨q.toArray⟩, .int .u64 (m : Int), .bool true] 28))
  go_wp2_with fail
  refine (works_any _).mono ?_
  rintro e w9 ⟨rfl, k9⟩
  go_wp2
  go_ret
  exact ⟨rfl, bstep hb k9⟩
end HealthClears
end Go.Proofs.Ytfdcmmafdgagoaa
