/- The walk of DotsSet: it answers true. -/
import Derived.Test.YtafelgmppmfcaaaDotPlain
import Derived.Deep.DeepCutAuto
namespace Go.Proofs.Ytafelgmppmfcaaa.DotsSet
open Go.RowKit Go.Proofs.Ytafelgmppmfcaaa.Mark Go.Proofs.Ytafelgmppmfcaaa.Dots

theorem next_of (x : Nat) (hx : x ≤ 18446744073709551615) : ∃ y : Nat, IntKind.u64.wrap ((x : Int) + 1) = (y : Int) ∧ ((y = 0) ∨ y = x + 1) := by
  by_cases h : x = 18446744073709551615
  · subst h; exact ⟨0, by decide, .inl rfl⟩
  · exact ⟨x + 1, by rw [IntKind.wrap_u64]; omega, .inr rfl⟩
set_option maxRecDepth 100000 in
set_option maxHeartbeats 40000000 in
theorem walk (a0 : Option Addr) (len0 cap0 : Nat) (a1 : Option Addr) (len1 cap1 : Nat) (a2 : ByteArray) (a3 : ByteArray) (a4 : Int) (w : World) (w0 : Recs w [.str, .int .u64] a0 len0) (w1 : Recs w [.str, .int .u64] a1 len1) (w2 : a2.size ≤ maxLen) (w3 : a3.size ≤ maxLen) (w4 : (Lit.int .u64 a4).wf = true) :
    Calls Try.prog 6 #[.slice a0 len0 cap0, .slice a1 len1 cap1, .string a2, .string a3, .int .u64 a4] w fun e w' => e = .returned (.bool true) ∧ Below w.heap.size w w' := by
  obtain ⟨A, lA, okA⟩ := recs_lies w0
  obtain ⟨B, lB, okB⟩ := recs_lies w1
  obtain ⟨p, hp⟩ := str_of a2
  obtain ⟨o, ho⟩ := str_of a3
  obtain ⟨x, hx, bx⟩ := num_of a4 w4
  subst hp ho hx
  have bp : p.length ≤ 9223372036854775807 := by rw [Str.size_mk] at w2; exact w2
  obtain ⟨y, hy, y2⟩ := next_of x bx
  replace lA := Lib.hid lA
  replace lB := Lib.hid lB
  replace okA := Lib.hid okA
  replace okB := Lib.hid okB
  clear w0 w1 w2 w3 w4
  have hb := Below.refl w.heap.size w
  by_cases d1 : 100 < len0
  · have e1 := Lib.hid (decide_eq_true d1)
    go_enter Try.func6, Try.ntmps6
    go_wp2_with fail
    refine (long_is true e1.out).mono ?_
    rintro e w1 ⟨rfl, rfl⟩
    go_wp2_with fail
    refine (alive_any _).mono ?_
    rintro e v2 ⟨rfl, k2⟩
    replace lA := Lib.hid ((lA.out).below k2)
    replace lB := Lib.hid ((lB.out).below k2)
    replace hb := bstep hb k2
    clear k2
    go_wp2
    go_ret
    exact ⟨rfl, hb⟩
  have e1 := Lib.hid (decide_eq_false d1)
  by_cases d2 : 100 < len1
  · have e2 := Lib.hid (decide_eq_true d2)
    go_enter Try.func6, Try.ntmps6
    go_wp2_with fail
    refine (long_is false e1.out).mono ?_
    rintro e w3 ⟨rfl, rfl⟩
    go_wp2_with fail
    refine (long_is true e2.out).mono ?_
    rintro e w4 ⟨rfl, rfl⟩
    go_wp2_with fail
    refine (alive_any _).mono ?_
    rintro e v5 ⟨rfl, k5⟩
    replace lA := Lib.hid ((lA.out).below k5)
    replace lB := Lib.hid ((lB.out).below k5)
    replace hb := bstep hb k5
    clear k5
    go_wp2
    go_ret
    exact ⟨rfl, hb⟩
  have e2 := Lib.hid (decide_eq_false d2)
  by_cases d3 : p = []
  · subst d3
    clear y2 bp
    go_enter Try.func6, Try.ntmps6
    go_wp2_with fail
    refine (long_is false e1.out).mono ?_
    rintro e w6 ⟨rfl, rfl⟩
    go_wp2_with fail
    refine (long_is false e2.out).mono ?_
    rintro e w7 ⟨rfl, rfl⟩
    go_wp2_with fail
    refine (alive_any _).mono ?_
    rintro e v8 ⟨rfl, k8⟩
    replace lA := Lib.hid ((lA.out).below k8)
    replace lB := Lib.hid ((lB.out).below k8)
    replace hb := bstep hb k8
    clear k8
    go_wp2
    go_ret
    exact ⟨rfl, hb⟩
  have e3 : (p == []) = false := by rw [beq_eq_false_iff_ne]; exact d3
  have l0 : len0 ≤ 100 := by omega
  have l1 : len1 ≤ 100 := by omega
  go_enter Try.func6, Try.ntmps6
  go_wp2_with fail
  refine (long_is false e1.out).mono ?_
  rintro e w9 ⟨rfl, rfl⟩
  go_wp2_with fail
  refine (long_is false e2.out).mono ?_
  rintro e w10 ⟨rfl, rfl⟩
  go_wp2_with fail
  refine (set_s p x lA.out (by omega)).mono ?_
  rintro e v11 ⟨aS, cS, T, rfl, iS, jS, lS, k11⟩
  replace lA := Lib.hid ((lA.out).below k11)
  replace lB := Lib.hid ((lB.out).below k11)
  replace hb := bstep hb k11
  clear k11
  replace lS := Lib.hid lS
  have okS := Lib.hid (set_ok iS okA.out bx bp)
  replace iS := Lib.hid iS
  go_wp2_with fail
  refine (drop_s p lA.out (by omega)).mono ?_
  rintro e v12 ⟨aD, cD, D, rfl, iD, jD, lD, k12⟩
  replace lA := Lib.hid ((lA.out).below k12)
  replace lB := Lib.hid ((lB.out).below k12)
  replace lS := Lib.hid ((lS.out).below k12)
  replace hb := bstep hb k12
  clear k12
  replace lD := Lib.hid lD
  have okD := Lib.hid (drop_ok iD okA.out)
  replace iD := Lib.hid iD
  clear e1 e2 e3 d1 d2
  go_upto_region 4 with fail
  go_cut [65] (fun s wx => s = .bool false ∧ Below w.heap.size w wx ∧ Lies wx a0 len0 A ∧ Lies wx a1 len1 B ∧ Lies wx aS T.length T ∧ Lies wx aD D.length D)
  case first =>
    go_wp2_with fail
    refine (of_is p x (of_set iS.out d3) lS.out (by omega) okS.out).mono ?_
    rintro e v13 ⟨rfl, k13⟩
    replace lA := Lib.hid ((lA.out).below k13)
    replace lB := Lib.hid ((lB.out).below k13)
    replace lS := Lib.hid ((lS.out).below k13)
    replace lD := Lib.hid ((lD.out).below k13)
    replace hb := bstep hb k13
    clear k13
    go_wp2_with fail
    refine (of_is p 0 (of_drop iD.out) lD.out (by omega) okD.out).mono ?_
    rintro e v14 ⟨rfl, k14⟩
    replace lA := Lib.hid ((lA.out).below k14)
    replace lB := Lib.hid ((lB.out).below k14)
    replace lS := Lib.hid ((lS.out).below k14)
    replace lD := Lib.hid ((lD.out).below k14)
    replace hb := bstep hb k14
    clear k14
    by_cases d4 : o = p
    · have e4 : (o == p) = true := by rw [beq_iff_eq]; exact d4
      replace d4 := Lib.hid d4
      go_wp2_with fail
      go_meet
      exact ⟨rfl, hb, lA.out, lB.out, lS.out, lD.out⟩
    · have e4 : (o == p) = false := by rw [beq_eq_false_iff_ne]; exact d4
      go_wp2_with fail
      refine (of_is o _ (of_set_ne iS.out d4) lS.out (by omega) okS.out).mono ?_
      rintro e v15 ⟨rfl, k15⟩
      replace lA := Lib.hid ((lA.out).below k15)
      replace lB := Lib.hid ((lB.out).below k15)
      replace lS := Lib.hid ((lS.out).below k15)
      replace lD := Lib.hid ((lD.out).below k15)
      replace hb := bstep hb k15
      clear k15
      go_wp2_with fail
      refine (of_is o _ rfl lA.out (by omega) okA.out).mono ?_
      rintro e v16 ⟨rfl, k16⟩
      replace lA := Lib.hid ((lA.out).below k16)
      replace lB := Lib.hid ((lB.out).below k16)
      replace lS := Lib.hid ((lS.out).below k16)
      replace lD := Lib.hid ((lD.out).below k16)
      replace hb := bstep hb k16
      clear k16
      go_wp2_with fail
      refine (of_is o _ (of_drop_ne iD.out d4) lD.out (by omega) okD.out).mono ?_
      rintro e v17 ⟨rfl, k17⟩
      replace lA := Lib.hid ((lA.out).below k17)
      replace lB := Lib.hid ((lB.out).below k17)
      replace lS := Lib.hid ((lS.out).below k17)
      replace lD := Lib.hid ((lD.out).below k17)
      replace hb := bstep hb k17
      clear k17
      go_wp2_with fail
      refine (of_is o _ rfl lA.out (by omega) okA.out).mono ?_
      rintro e v18 ⟨rfl, k18⟩
      replace lA := Lib.hid ((lA.out).below k18)
      replace lB := Lib.hid ((lB.out).below k18)
      replace lS := Lib.hid ((lS.out).below k18)
      replace lD := Lib.hid ((lD.out).below k18)
      replace hb := bstep hb k18
      clear k18
      go_wp2_with fail
      go_meet
      exact ⟨rfl, hb, lA.out, lB.out, lS.out, lD.out⟩
  clear hb lA lB lS lD
  obtain ⟨rfl, hb, lA, lB, lS, lD⟩ := hcut
  replace lA := Lib.hid lA
  replace lB := Lib.hid lB
  replace lS := Lib.hid lS
  replace lD := Lib.hid lD
  go_upto_region 6 with fail
  go_cut [100] (fun s wx => s = .bool false ∧ Below w.heap.size w wx ∧ Lies wx a0 len0 A ∧ Lies wx a1 len1 B ∧ Lies wx aS T.length T ∧ Lies wx aD D.length D)
  case first =>
    obtain ⟨z, hz⟩ : ∃ z, ofL A p = z := ⟨_, rfl⟩
    have q1 := has_set iS.out d3 x
    have q2 := has_set iS.out d3 y
    have q3 : (decide (1 ≤ y) && decide (y ≤ x)) = false := by
      rcases y2 with rfl | rfl
      · rfl
      · rw [decide_eq_false (show ¬ x + 1 ≤ x by omega), Bool.and_false]
    rw [q3] at q2
    clear q3
    replace q2 := Lib.hid q2
    replace y2 := Lib.hid y2
    by_cases dx : 0 < x
    · rw [decide_eq_true (show 1 ≤ x by omega), decide_eq_true (Nat.le_refl x)] at q1
      have e7 : decide ((x : Int) > 0) = true := decide_eq_true (by omega)
      have e8 : decide ((0 : Int) < (x : Int)) = true := decide_eq_true (by omega)
      replace q1 := Lib.hid q1
      by_cases dz : z ≤ x
      · have e5 : decide ((x : Int) ≥ (z : Int)) = true := decide_eq_true (by omega)
        have e6 : decide ((z : Int) ≤ (x : Int)) = true := decide_eq_true (by omega)
        go_wp2_with fail
        refine (of_is p z hz lA.out (by omega) okA.out).mono ?_
        rintro e v19 ⟨rfl, k19⟩
        replace lA := Lib.hid ((lA.out).below k19)
        replace lB := Lib.hid ((lB.out).below k19)
        replace lS := Lib.hid ((lS.out).below k19)
        replace lD := Lib.hid ((lD.out).below k19)
        replace hb := bstep hb k19
        clear k19
        go_wp2_with fail
        refine (covers_is true (cov_set iS.out d3 (by omega)) lS.out lA.out (by omega) (by omega)).mono ?_
        rintro e v20 ⟨rfl, k20⟩
        replace lA := Lib.hid ((lA.out).below k20)
        replace lB := Lib.hid ((lB.out).below k20)
        replace lS := Lib.hid ((lS.out).below k20)
        replace lD := Lib.hid ((lD.out).below k20)
        replace hb := bstep hb k20
        clear k20
        go_wp2_with fail
        refine (covers_is true (cov_drop iD.out) lA.out lD.out (by omega) (by omega)).mono ?_
        rintro e v21 ⟨rfl, k21⟩
        replace lA := Lib.hid ((lA.out).below k21)
        replace lB := Lib.hid ((lB.out).below k21)
        replace lS := Lib.hid ((lS.out).below k21)
        replace lD := Lib.hid ((lD.out).below k21)
        replace hb := bstep hb k21
        clear k21
        go_wp2_with fail
        refine (has_is p x _ q1.out lS.out (by omega) okS.out).mono ?_
        rintro e v22 ⟨rfl, k22⟩
        replace lA := Lib.hid ((lA.out).below k22)
        replace lB := Lib.hid ((lB.out).below k22)
        replace lS := Lib.hid ((lS.out).below k22)
        replace lD := Lib.hid ((lD.out).below k22)
        replace hb := bstep hb k22
        clear k22
        go_wp2_with fail
        refine (has_is p y _ q2.out lS.out (by omega) okS.out).mono ?_
        rintro e v23 ⟨rfl, k23⟩
        replace lA := Lib.hid ((lA.out).below k23)
        replace lB := Lib.hid ((lB.out).below k23)
        replace lS := Lib.hid ((lS.out).below k23)
        replace lD := Lib.hid ((lD.out).below k23)
        replace hb := bstep hb k23
        clear k23
        go_wp2_with fail
        go_meet
        exact ⟨rfl, hb, lA.out, lB.out, lS.out, lD.out⟩
      · have e5 : decide ((x : Int) ≥ (z : Int)) = false := decide_eq_false (by omega)
        have e6 : decide ((z : Int) ≤ (x : Int)) = false := decide_eq_false (by omega)
        go_wp2_with fail
        refine (of_is p z hz lA.out (by omega) okA.out).mono ?_
        rintro e v24 ⟨rfl, k24⟩
        replace lA := Lib.hid ((lA.out).below k24)
        replace lB := Lib.hid ((lB.out).below k24)
        replace lS := Lib.hid ((lS.out).below k24)
        replace lD := Lib.hid ((lD.out).below k24)
        replace hb := bstep hb k24
        clear k24
        go_wp2_with fail
        refine (covers_is true (cov_drop iD.out) lA.out lD.out (by omega) (by omega)).mono ?_
        rintro e v25 ⟨rfl, k25⟩
        replace lA := Lib.hid ((lA.out).below k25)
        replace lB := Lib.hid ((lB.out).below k25)
        replace lS := Lib.hid ((lS.out).below k25)
        replace lD := Lib.hid ((lD.out).below k25)
        replace hb := bstep hb k25
        clear k25
        go_wp2_with fail
        refine (has_is p x _ q1.out lS.out (by omega) okS.out).mono ?_
        rintro e v26 ⟨rfl, k26⟩
        replace lA := Lib.hid ((lA.out).below k26)
        replace lB := Lib.hid ((lB.out).below k26)
        replace lS := Lib.hid ((lS.out).below k26)
        replace lD := Lib.hid ((lD.out).below k26)
        replace hb := bstep hb k26
        clear k26
        go_wp2_with fail
        refine (has_is p y _ q2.out lS.out (by omega) okS.out).mono ?_
        rintro e v27 ⟨rfl, k27⟩
        replace lA := Lib.hid ((lA.out).below k27)
        replace lB := Lib.hid ((lB.out).below k27)
        replace lS := Lib.hid ((lS.out).below k27)
        replace lD := Lib.hid ((lD.out).below k27)
        replace hb := bstep hb k27
        clear k27
        go_wp2_with fail
        go_meet
        exact ⟨rfl, hb, lA.out, lB.out, lS.out, lD.out⟩
    · rw [decide_eq_false (show ¬ 1 ≤ x by omega), Bool.false_and] at q1
      have e7 : decide ((x : Int) > 0) = false := decide_eq_false (by omega)
      have e8 : decide ((0 : Int) < (x : Int)) = false := decide_eq_false (by omega)
      replace q1 := Lib.hid q1
      by_cases dz : z ≤ x
      · have e5 : decide ((x : Int) ≥ (z : Int)) = true := decide_eq_true (by omega)
        have e6 : decide ((z : Int) ≤ (x : Int)) = true := decide_eq_true (by omega)
        go_wp2_with fail
        refine (of_is p z hz lA.out (by omega) okA.out).mono ?_
        rintro e v28 ⟨rfl, k28⟩
        replace lA := Lib.hid ((lA.out).below k28)
        replace lB := Lib.hid ((lB.out).below k28)
        replace lS := Lib.hid ((lS.out).below k28)
        replace lD := Lib.hid ((lD.out).below k28)
        replace hb := bstep hb k28
        clear k28
        go_wp2_with fail
        refine (covers_is true (cov_set iS.out d3 (by omega)) lS.out lA.out (by omega) (by omega)).mono ?_
        rintro e v29 ⟨rfl, k29⟩
        replace lA := Lib.hid ((lA.out).below k29)
        replace lB := Lib.hid ((lB.out).below k29)
        replace lS := Lib.hid ((lS.out).below k29)
        replace lD := Lib.hid ((lD.out).below k29)
        replace hb := bstep hb k29
        clear k29
        go_wp2_with fail
        refine (covers_is true (cov_drop iD.out) lA.out lD.out (by omega) (by omega)).mono ?_
        rintro e v30 ⟨rfl, k30⟩
        replace lA := Lib.hid ((lA.out).below k30)
        replace lB := Lib.hid ((lB.out).below k30)
        replace lS := Lib.hid ((lS.out).below k30)
        replace lD := Lib.hid ((lD.out).below k30)
        replace hb := bstep hb k30
        clear k30
        go_wp2_with fail
        refine (has_is p x _ q1.out lS.out (by omega) okS.out).mono ?_
        rintro e v31 ⟨rfl, k31⟩
        replace lA := Lib.hid ((lA.out).below k31)
        replace lB := Lib.hid ((lB.out).below k31)
        replace lS := Lib.hid ((lS.out).below k31)
        replace lD := Lib.hid ((lD.out).below k31)
        replace hb := bstep hb k31
        clear k31
        go_wp2_with fail
        refine (has_is p y _ q2.out lS.out (by omega) okS.out).mono ?_
        rintro e v32 ⟨rfl, k32⟩
        replace lA := Lib.hid ((lA.out).below k32)
        replace lB := Lib.hid ((lB.out).below k32)
        replace lS := Lib.hid ((lS.out).below k32)
        replace lD := Lib.hid ((lD.out).below k32)
        replace hb := bstep hb k32
        clear k32
        go_wp2_with fail
        go_meet
        exact ⟨rfl, hb, lA.out, lB.out, lS.out, lD.out⟩
      · have e5 : decide ((x : Int) ≥ (z : Int)) = false := decide_eq_false (by omega)
        have e6 : decide ((z : Int) ≤ (x : Int)) = false := decide_eq_false (by omega)
        go_wp2_with fail
        refine (of_is p z hz lA.out (by omega) okA.out).mono ?_
        rintro e v33 ⟨rfl, k33⟩
        replace lA := Lib.hid ((lA.out).below k33)
        replace lB := Lib.hid ((lB.out).below k33)
        replace lS := Lib.hid ((lS.out).below k33)
        replace lD := Lib.hid ((lD.out).below k33)
        replace hb := bstep hb k33
        clear k33
        go_wp2_with fail
        refine (covers_is true (cov_drop iD.out) lA.out lD.out (by omega) (by omega)).mono ?_
        rintro e v34 ⟨rfl, k34⟩
        replace lA := Lib.hid ((lA.out).below k34)
        replace lB := Lib.hid ((lB.out).below k34)
        replace lS := Lib.hid ((lS.out).below k34)
        replace lD := Lib.hid ((lD.out).below k34)
        replace hb := bstep hb k34
        clear k34
        go_wp2_with fail
        refine (has_is p x _ q1.out lS.out (by omega) okS.out).mono ?_
        rintro e v35 ⟨rfl, k35⟩
        replace lA := Lib.hid ((lA.out).below k35)
        replace lB := Lib.hid ((lB.out).below k35)
        replace lS := Lib.hid ((lS.out).below k35)
        replace lD := Lib.hid ((lD.out).below k35)
        replace hb := bstep hb k35
        clear k35
        go_wp2_with fail
        refine (has_is p y _ q2.out lS.out (by omega) okS.out).mono ?_
        rintro e v36 ⟨rfl, k36⟩
        replace lA := Lib.hid ((lA.out).below k36)
        replace lB := Lib.hid ((lB.out).below k36)
        replace lS := Lib.hid ((lS.out).below k36)
        replace lD := Lib.hid ((lD.out).below k36)
        replace hb := bstep hb k36
        clear k36
        go_wp2_with fail
        go_meet
        exact ⟨rfl, hb, lA.out, lB.out, lS.out, lD.out⟩
  clear hb lA lB lS lD
  obtain ⟨rfl, hb, lA, lB, lS, lD⟩ := hcut
  replace lA := Lib.hid lA
  replace lB := Lib.hid lB
  replace lS := Lib.hid lS
  replace lD := Lib.hid lD
  go_upto_region 8 with fail
  go_cut [13] (fun s wx => s = .bool (covB A B && covB B A) ∧ Below w.heap.size w wx ∧ Lies wx a0 len0 A ∧ Lies wx a1 len1 B ∧ Lies wx aS T.length T ∧ Lies wx aD D.length D)
  case first =>
    have q1 := Lib.hid (covB_iff A B)
    have q2 := Lib.hid (covB_iff B A)
    go_wp2_with fail
    refine (covers_is _ q1.out lA.out lB.out (by omega) (by omega)).mono ?_
    rintro e v37 ⟨rfl, k37⟩
    replace lA := Lib.hid ((lA.out).below k37)
    replace lB := Lib.hid ((lB.out).below k37)
    replace lS := Lib.hid ((lS.out).below k37)
    replace lD := Lib.hid ((lD.out).below k37)
    replace hb := bstep hb k37
    clear k37
    generalize hc : covB A B = c1
    cases c1
    · skip
      go_wp2_with fail
      go_meet
      exact ⟨(by rw [hc]; rfl), hb, lA.out, lB.out, lS.out, lD.out⟩
    · skip
      go_wp2_with fail
      refine (covers_is _ q2.out lB.out lA.out (by omega) (by omega)).mono ?_
      rintro e v38 ⟨rfl, k38⟩
      replace lA := Lib.hid ((lA.out).below k38)
      replace lB := Lib.hid ((lB.out).below k38)
      replace lS := Lib.hid ((lS.out).below k38)
      replace lD := Lib.hid ((lD.out).below k38)
      replace hb := bstep hb k38
      clear k38
      go_wp2_with fail
      go_meet
      exact ⟨(by rw [hc]; rfl), hb, lA.out, lB.out, lS.out, lD.out⟩
  clear hb lA lB lS lD
  obtain ⟨rfl, hb, lA, lB, lS, lD⟩ := hcut
  replace lA := Lib.hid lA
  replace lB := Lib.hid lB
  replace lS := Lib.hid lS
  replace lD := Lib.hid lD
  go_wp2_with fail
  refine (join_s lA.out (Lies.nil _ none) (by omega) (by omega)).mono ?_
  rintro e v39 ⟨a39, c39, J39, rfl, i39, j39, l39, k39⟩
  replace lA := Lib.hid ((lA.out).below k39)
  replace lB := Lib.hid ((lB.out).below k39)
  replace lS := Lib.hid ((lS.out).below k39)
  replace lD := Lib.hid ((lD.out).below k39)
  replace hb := bstep hb k39
  clear k39
  replace l39 := Lib.hid l39
  replace i39 := Lib.hid i39
  go_wp2_with fail
  refine (join_s lB.out (Lies.nil _ none) (by omega) (by omega)).mono ?_
  rintro e v40 ⟨a40, c40, J40, rfl, i40, j40, l40, k40⟩
  replace lA := Lib.hid ((lA.out).below k40)
  replace lB := Lib.hid ((lB.out).below k40)
  replace lS := Lib.hid ((lS.out).below k40)
  replace lD := Lib.hid ((lD.out).below k40)
  replace l39 := Lib.hid ((l39.out).below k40)
  replace hb := bstep hb k40
  clear k40
  replace l40 := Lib.hid l40
  replace i40 := Lib.hid i40
  go_wp2_with fail
  refine (same_is _ (both_same i39.out i40.out) l39.out l40.out (by omega) (by omega)).mono ?_
  rintro e v41 ⟨rfl, k41⟩
  replace lA := Lib.hid ((lA.out).below k41)
  replace lB := Lib.hid ((lB.out).below k41)
  replace lS := Lib.hid ((lS.out).below k41)
  replace lD := Lib.hid ((lD.out).below k41)
  replace l39 := Lib.hid ((l39.out).below k41)
  replace l40 := Lib.hid ((l40.out).below k41)
  replace hb := bstep hb k41
  clear k41
  go_wp2_with fail
  refine (alive_any _).mono ?_
  rintro e v42 ⟨rfl, k42⟩
  replace lA := Lib.hid ((lA.out).below k42)
  replace lB := Lib.hid ((lB.out).below k42)
  replace lS := Lib.hid ((lS.out).below k42)
  replace lD := Lib.hid ((lD.out).below k42)
  replace l39 := Lib.hid ((l39.out).below k42)
  replace l40 := Lib.hid ((l40.out).below k42)
  replace hb := bstep hb k42
  clear k42
  go_wp2
  go_ret
  exact ⟨rfl, hb⟩

end Go.Proofs.Ytafelgmppmfcaaa.DotsSet
