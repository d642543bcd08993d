/- The walk of DotsMakes: it answers true. -/
import Derived.Test.YtafelgmppmfcaaaDotLaw
namespace Go.Proofs.Ytafelgmppmfcaaa.DotsMakes
open Go.RowKit Go.Proofs.Ytafelgmppmfcaaa.Mark Go.Proofs.Ytafelgmppmfcaaa.Dots

set_option maxRecDepth 100000 in
set_option maxHeartbeats 4000000 in
theorem walk (a0 : Option Addr) (len0 cap0 : Nat) (a1 : Option Addr) (len1 cap1 : Nat) (a2 : ByteArray) (a3 : Int) (w : World) (w0 : Recs w [.str, .int .u64] a0 len0) (w1 : Recs w [.str, .int .u64] a1 len1) (w2 : a2.size ≤ maxLen) (w3 : (Lit.int .u64 a3).wf = true) :
    Calls Try.prog 4 #[.slice a0 len0 cap0, .slice a1 len1 cap1, .string a2, .int .u64 a3] w fun e w' => e = .returned (.bool true) ∧ Below w.heap.size w w' := by
  obtain ⟨A, lA, okA⟩ := recs_lies w0
  obtain ⟨B, lB, okB⟩ := recs_lies w1
  obtain ⟨p, hp⟩ := str_of a2
  obtain ⟨x, hx, bx⟩ := num_of a3 w3
  subst hp hx
  replace lA := Lib.hid lA
  replace lB := Lib.hid lB
  replace okA := Lib.hid okA
  replace okB := Lib.hid okB
  clear w0 w1 w2 w3
  have hb := Below.refl w.heap.size w
  by_cases d1 : 100 < len0
  · have e1 := Lib.hid (decide_eq_true d1)
    go_enter Try.func4, Try.ntmps4
    go_wp2_with fail
    refine (long_is true e1.out).mono ?_
    rintro e w1 ⟨rfl, rfl⟩
    go_wp2_with fail
    refine (alive_any _).mono ?_
    rintro e v2 ⟨rfl, k2⟩
    replace lA := Lib.hid ((lA.out).below k2)
    replace lB := Lib.hid ((lB.out).below k2)
    replace hb := bstep hb k2
    clear k2
    go_wp2
    go_ret
    exact ⟨rfl, hb⟩
  have e1 := Lib.hid (decide_eq_false d1)
  by_cases d2 : 100 < len1
  · have e2 := Lib.hid (decide_eq_true d2)
    go_enter Try.func4, Try.ntmps4
    go_wp2_with fail
    refine (long_is false e1.out).mono ?_
    rintro e w3 ⟨rfl, rfl⟩
    go_wp2_with fail
    refine (long_is true e2.out).mono ?_
    rintro e w4 ⟨rfl, rfl⟩
    go_wp2_with fail
    refine (alive_any _).mono ?_
    rintro e v5 ⟨rfl, k5⟩
    replace lA := Lib.hid ((lA.out).below k5)
    replace lB := Lib.hid ((lB.out).below k5)
    replace hb := bstep hb k5
    clear k5
    go_wp2
    go_ret
    exact ⟨rfl, hb⟩
  have e2 := Lib.hid (decide_eq_false d2)
  have l0 : len0 ≤ 100 := by omega
  have l1 : len1 ≤ 100 := by omega
  go_enter Try.func4, Try.ntmps4
  go_wp2_with fail
  refine (long_is false e1.out).mono ?_
  rintro e w6 ⟨rfl, rfl⟩
  go_wp2_with fail
  refine (long_is false e2.out).mono ?_
  rintro e w7 ⟨rfl, rfl⟩
  go_wp2_with fail
  refine (set_s p x lA.out (by omega)).mono ?_
  rintro e v8 ⟨a8, c8, J8, rfl, i8, j8, l8, k8⟩
  replace lA := Lib.hid ((lA.out).below k8)
  replace lB := Lib.hid ((lB.out).below k8)
  replace hb := bstep hb k8
  clear k8
  replace l8 := Lib.hid l8
  replace i8 := Lib.hid i8
  go_wp2_with fail
  refine (rset_s p x lA.out (by omega) okA.out).mono ?_
  rintro e v9 ⟨a9, c9, J9, rfl, i9, j9, l9, k9⟩
  replace lA := Lib.hid ((lA.out).below k9)
  replace lB := Lib.hid ((lB.out).below k9)
  replace l8 := Lib.hid ((l8.out).below k9)
  replace hb := bstep hb k9
  clear k9
  replace l9 := Lib.hid l9
  have u9 := Lib.hid (IsVec.uniq i8.out i9)
  go_wp2_with fail
  refine (same_eq u9.out l8.out l9.out (by omega) (by omega)).mono ?_
  rintro e v10 ⟨rfl, k10⟩
  replace lA := Lib.hid ((lA.out).below k10)
  replace lB := Lib.hid ((lB.out).below k10)
  replace l8 := Lib.hid ((l8.out).below k10)
  replace l9 := Lib.hid ((l9.out).below k10)
  replace hb := bstep hb k10
  clear k10
  clear l8 l9 i8 i9 u9
  go_wp2_with fail
  refine (drop_s p lA.out (by omega)).mono ?_
  rintro e v11 ⟨a11, c11, J11, rfl, i11, j11, l11, k11⟩
  replace lA := Lib.hid ((lA.out).below k11)
  replace lB := Lib.hid ((lB.out).below k11)
  replace hb := bstep hb k11
  clear k11
  replace l11 := Lib.hid l11
  replace i11 := Lib.hid i11
  go_wp2_with fail
  refine (rdrop_s p lA.out (by omega) okA.out).mono ?_
  rintro e v12 ⟨a12, c12, J12, rfl, i12, j12, l12, k12⟩
  replace lA := Lib.hid ((lA.out).below k12)
  replace lB := Lib.hid ((lB.out).below k12)
  replace l11 := Lib.hid ((l11.out).below k12)
  replace hb := bstep hb k12
  clear k12
  replace l12 := Lib.hid l12
  have u12 := Lib.hid (IsVec.uniq i11.out i12)
  go_wp2_with fail
  refine (same_eq u12.out l11.out l12.out (by omega) (by omega)).mono ?_
  rintro e v13 ⟨rfl, k13⟩
  replace lA := Lib.hid ((lA.out).below k13)
  replace lB := Lib.hid ((lB.out).below k13)
  replace l11 := Lib.hid ((l11.out).below k13)
  replace l12 := Lib.hid ((l12.out).below k13)
  replace hb := bstep hb k13
  clear k13
  clear l11 l12 i11 i12 u12
  go_wp2_with fail
  refine (join_s lA.out lB.out (by omega) (by omega)).mono ?_
  rintro e v14 ⟨a14, c14, J14, rfl, i14, j14, l14, k14⟩
  replace lA := Lib.hid ((lA.out).below k14)
  replace lB := Lib.hid ((lB.out).below k14)
  replace hb := bstep hb k14
  clear k14
  replace l14 := Lib.hid l14
  replace i14 := Lib.hid i14
  go_wp2_with fail
  refine (rjoin_s lA.out lB.out (by omega) (by omega) okA.out okB.out).mono ?_
  rintro e v15 ⟨a15, c15, J15, rfl, i15, j15, l15, k15⟩
  replace lA := Lib.hid ((lA.out).below k15)
  replace lB := Lib.hid ((lB.out).below k15)
  replace l14 := Lib.hid ((l14.out).below k15)
  replace hb := bstep hb k15
  clear k15
  replace l15 := Lib.hid l15
  have u15 := Lib.hid (IsVec.uniq i14.out i15)
  go_wp2_with fail
  refine (same_eq u15.out l14.out l15.out (by omega) (by omega)).mono ?_
  rintro e v16 ⟨rfl, k16⟩
  replace lA := Lib.hid ((lA.out).below k16)
  replace lB := Lib.hid ((lB.out).below k16)
  replace l14 := Lib.hid ((l14.out).below k16)
  replace l15 := Lib.hid ((l15.out).below k16)
  replace hb := bstep hb k16
  clear k16
  clear l14 l15 i14 i15 u15
  go_wp2_with fail
  refine (covers_is _ (covB_iff A B) lA.out lB.out (by omega) (by omega)).mono ?_
  rintro e v17 ⟨rfl, k17⟩
  replace lA := Lib.hid ((lA.out).below k17)
  replace lB := Lib.hid ((lB.out).below k17)
  replace hb := bstep hb k17
  clear k17
  go_wp2_with fail
  refine (rcovers_is _ (covB_iff A B) lA.out lB.out (by omega) (by omega) okA.out okB.out).mono ?_
  rintro e v18 ⟨rfl, k18⟩
  replace lA := Lib.hid ((lA.out).below k18)
  replace lB := Lib.hid ((lB.out).below k18)
  replace hb := bstep hb k18
  clear k18
  go_wp2_with fail
  refine (alive_any _).mono ?_
  rintro e v19 ⟨rfl, k19⟩
  replace lA := Lib.hid ((lA.out).below k19)
  replace lB := Lib.hid ((lB.out).below k19)
  replace hb := bstep hb k19
  clear k19
  go_wp2
  go_ret
  exact ⟨rfl, hb⟩

end Go.Proofs.Ytafelgmppmfcaaa.DotsMakes
