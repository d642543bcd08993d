/- health.Of. -/
import Derived.Test.YtfdcmmafdgagoaaBeatFind
namespace Go.Proofs.Ytfdcmmafdgagoaa
namespace Beat
open Go.RowKit Go.Proofs.Ytfdcmmafdgagoaa.Order

def zeroB : B := ⟨[], 0, false⟩
/-- The beat of a member, if there is one. -/
def ofB (L : List B) (q : List UInt8) : B := if mayB L && pathB q then (look L q).getD zeroB else zeroB
def isB (L : List B) (q : List UInt8) : Bool := mayB L && pathB q && hasB L q
theorem ofB_no {L : List B} {q : List UInt8} (h : isB L q = false) : ofB L q = zeroB := by
  unfold isB at h; unfold ofB
  cases h1 : (mayB L && pathB q) with
  | false => rfl
  | true =>
    rw [h1, Bool.true_and] at h
    unfold hasB at h
    rw [if_pos rfl]
    cases h2 : look L q with
    | none => rfl
    | some x => rw [h2] at h; cases h
theorem cut_is {L : List B} {q : List UInt8} {i : Nat} (hR : Rise L) (h : Cut L q i) (hh : hasB L q = true) : ∃ hi : i < L.length, L[i].p = q ∧ look L q = some L[i] := by
  by_cases hi : i < L.length
  · have h1 := cut_look hR h
    have h2 := cut_has hR h hi
    rw [hh] at h2
    have h3 : L[i].p = q := of_decide_eq_true h2.symm
    rw [dif_pos hi, if_pos h3] at h1
    exact ⟨hi, h3, h1⟩
  · rw [cut_hasnt hR h hi] at hh; cases hh

set_option maxRecDepth 100000 in
set_option maxHeartbeats 4000000 in
theorem of_any (L : List B) (q : List UInt8) (a : Option Addr) (c : Nat) (w : World) (hL : Lies w a L.length L) (hW : Small L) (hq : q.length ≤ 1099511627776) :
    Calls Try.prog 10 #[.slice a L.length c, .string ⟨q.toArray⟩] w fun e w' => e = .returned (.tuple #[.agg #[.string ⟨(ofB L q).p.toArray⟩, .int .u64 ((ofB L q).n : Int), .bool (ofB L q).bad], .bool (isB L q)]) ∧ Below w.heap.size w w' := by
  have hb := Below.refl w.heap.size w
  have lL := Lib.hid hL
  have CM := Lib.hid (fun w h => may_any L a c w h hW)
  have CP := Lib.hid (fun w => Path.may_any q w hq)
  have HI : Hid (isB L q = (mayB L && pathB q && hasB L q)) := Lib.hid rfl
  have HO : Hid (isB L q = false → ofB L q = zeroB) := Lib.hid ofB_no
  clear hL hW hq
  cases h1 : mayB L
  · have hm := h1
    have H1 : Hid (isB L q = false) := Lib.hid (by rw [HI.out]; simp [h1])
    have H2 := Lib.hid (HO.out H1.out)
    clear h1
    go_enter Try.func10, Try.ntmps10
    go_wp2_with fail
    replace lL := Lib.hid ((lL.out).below (balloc (Below.refl _ _) (.cells #[.string ⟨#[]⟩, .int .u64 0, .bool false] 28)))
    replace hb := bstep hb (balloc (Below.refl _ _) (.cells #[.string ⟨#[]⟩, .int .u64 0, .bool false] 28))
    have r0 : (w.alloc (.cells #[.string ⟨#[]⟩, .int .u64 0, .bool false] 28)).cell? ⟨w.heap.size, 0, none⟩ = some (.string ⟨#[]⟩) := by rw [World.cell?_alloc_new]; rfl
    have r1 : (w.alloc (.cells #[.string ⟨#[]⟩, .int .u64 0, .bool false] 28)).cell? ⟨w.heap.size, 1, none⟩ = some (.int .u64 0) := by rw [World.cell?_alloc_new]; rfl
    have r2 : (w.alloc (.cells #[.string ⟨#[]⟩, .int .u64 0, .bool false] 28)).cell? ⟨w.heap.size, 2, none⟩ = some (.bool false) := by rw [World.cell?_alloc_new]; rfl
    have rF : ∀ j, (w.alloc (.cells #[.string ⟨#[]⟩, .int .u64 0, .bool false] 28)).frozen? ⟨w.heap.size, j, none⟩ = false := fun j => World.frozen?_alloc_at _ _ _ j rfl
    have rB : w.heap.size < (w.alloc (.cells #[.string ⟨#[]⟩, .int .u64 0, .bool false] 28)).heap.size := by rw [World.size_alloc]; omega
    go_wp2_with fail
    refine (CM.out _ lL.out).mono ?_
    rintro e v1 ⟨rfl, k1⟩
    replace lL := Lib.hid ((lL.out).below k1)
    replace r0 := (Beat.keepC r0 k1)
    replace r1 := (Beat.keepC r1 k1)
    replace r2 := (Beat.keepC r2 k1)
    replace rF := (fun j => (Below.frozen k1 (p := ⟨w.heap.size, j, none⟩) rB).trans (rF j))
    replace rB := (Nat.lt_of_lt_of_le rB (k1).size)
    replace hb := bstep hb k1
    clear k1
    rw [hm]
    go_wp2
    refine bodyPost_ret (v := .tuple #[.agg #[.string ⟨#[]⟩, .int .u64 0, .bool false], .bool false]) (by simp [results, Try.results10, go_sem, r0, r1, r2]; try rfl) rfl ?_
    exact ⟨by rw [H1.out, H2.out]; rfl, by repeat (first | exact hb | refine bset ?_ (Nat.le_refl _) _)⟩
  have hm := h1
  have MF := may_facts h1
  have HP0 : (decide (0 < (Path.parse q).length)) = pathB q := rfl
  cases h2 : pathB q
  · rw [h2] at HP0
    have HP := Lib.hid HP0
    have H1 : Hid (isB L q = false) := Lib.hid (by rw [HI.out]; simp [h1, h2])
    have H2 := Lib.hid (HO.out H1.out)
    clear h1 h2
    clear HP0
    go_enter Try.func10, Try.ntmps10
    go_wp2_with fail
    replace lL := Lib.hid ((lL.out).below (balloc (Below.refl _ _) (.cells #[.string ⟨#[]⟩, .int .u64 0, .bool false] 28)))
    replace hb := bstep hb (balloc (Below.refl _ _) (.cells #[.string ⟨#[]⟩, .int .u64 0, .bool false] 28))
    have r0 : (w.alloc (.cells #[.string ⟨#[]⟩, .int .u64 0, .bool false] 28)).cell? ⟨w.heap.size, 0, none⟩ = some (.string ⟨#[]⟩) := by rw [World.cell?_alloc_new]; rfl
    have r1 : (w.alloc (.cells #[.string ⟨#[]⟩, .int .u64 0, .bool false] 28)).cell? ⟨w.heap.size, 1, none⟩ = some (.int .u64 0) := by rw [World.cell?_alloc_new]; rfl
    have r2 : (w.alloc (.cells #[.string ⟨#[]⟩, .int .u64 0, .bool false] 28)).cell? ⟨w.heap.size, 2, none⟩ = some (.bool false) := by rw [World.cell?_alloc_new]; rfl
    have rF : ∀ j, (w.alloc (.cells #[.string ⟨#[]⟩, .int .u64 0, .bool false] 28)).frozen? ⟨w.heap.size, j, none⟩ = false := fun j => World.frozen?_alloc_at _ _ _ j rfl
    have rB : w.heap.size < (w.alloc (.cells #[.string ⟨#[]⟩, .int .u64 0, .bool false] 28)).heap.size := by rw [World.size_alloc]; omega
    go_wp2_with fail
    refine (CM.out _ lL.out).mono ?_
    rintro e v2 ⟨rfl, k2⟩
    replace lL := Lib.hid ((lL.out).below k2)
    replace r0 := (Beat.keepC r0 k2)
    replace r1 := (Beat.keepC r1 k2)
    replace r2 := (Beat.keepC r2 k2)
    replace rF := (fun j => (Below.frozen k2 (p := ⟨w.heap.size, j, none⟩) rB).trans (rF j))
    replace rB := (Nat.lt_of_lt_of_le rB (k2).size)
    replace hb := bstep hb k2
    clear k2
    rw [hm]
    go_wp2_with fail
    refine (CP.out _).mono ?_
    rintro e v3 ⟨rfl, k3⟩
    replace lL := Lib.hid ((lL.out).below k3)
    replace r0 := (Beat.keepC r0 k3)
    replace r1 := (Beat.keepC r1 k3)
    replace r2 := (Beat.keepC r2 k3)
    replace rF := (fun j => (Below.frozen k3 (p := ⟨w.heap.size, j, none⟩) rB).trans (rF j))
    replace rB := (Nat.lt_of_lt_of_le rB (k3).size)
    replace hb := bstep hb k3
    clear k3
    have hp := HP.out
    rw [hp]
    go_wp2
    refine bodyPost_ret (v := .tuple #[.agg #[.string ⟨#[]⟩, .int .u64 0, .bool false], .bool false]) (by simp [results, Try.results10, go_sem, r0, r1, r2]; try rfl) rfl ?_
    exact ⟨by rw [H1.out, H2.out]; rfl, by repeat (first | exact hb | refine bset ?_ (Nat.le_refl _) _)⟩
  rw [h2] at HP0
  have HP := Lib.hid HP0
  have CF := Lib.hid (fun w h => find_any L q a c w h (by omega) MF.2.2)
  have HR := Lib.hid MF.2.2
  cases h3 : hasB L q
  · have hh := h3
    have H1 : Hid (isB L q = false) := Lib.hid (by rw [HI.out]; simp [h1, h2, h3])
    have H2 := Lib.hid (HO.out H1.out)
    clear h1 h2 h3
    clear HP0
    go_enter Try.func10, Try.ntmps10
    go_wp2_with fail
    replace lL := Lib.hid ((lL.out).below (balloc (Below.refl _ _) (.cells #[.string ⟨#[]⟩, .int .u64 0, .bool false] 28)))
    replace hb := bstep hb (balloc (Below.refl _ _) (.cells #[.string ⟨#[]⟩, .int .u64 0, .bool false] 28))
    have r0 : (w.alloc (.cells #[.string ⟨#[]⟩, .int .u64 0, .bool false] 28)).cell? ⟨w.heap.size, 0, none⟩ = some (.string ⟨#[]⟩) := by rw [World.cell?_alloc_new]; rfl
    have r1 : (w.alloc (.cells #[.string ⟨#[]⟩, .int .u64 0, .bool false] 28)).cell? ⟨w.heap.size, 1, none⟩ = some (.int .u64 0) := by rw [World.cell?_alloc_new]; rfl
    have r2 : (w.alloc (.cells #[.string ⟨#[]⟩, .int .u64 0, .bool false] 28)).cell? ⟨w.heap.size, 2, none⟩ = some (.bool false) := by rw [World.cell?_alloc_new]; rfl
    have rF : ∀ j, (w.alloc (.cells #[.string ⟨#[]⟩, .int .u64 0, .bool false] 28)).frozen? ⟨w.heap.size, j, none⟩ = false := fun j => World.frozen?_alloc_at _ _ _ j rfl
    have rB : w.heap.size < (w.alloc (.cells #[.string ⟨#[]⟩, .int .u64 0, .bool false] 28)).heap.size := by rw [World.size_alloc]; omega
    go_wp2_with fail
    refine (CM.out _ lL.out).mono ?_
    rintro e v4 ⟨rfl, k4⟩
    replace lL := Lib.hid ((lL.out).below k4)
    replace r0 := (Beat.keepC r0 k4)
    replace r1 := (Beat.keepC r1 k4)
    replace r2 := (Beat.keepC r2 k4)
    replace rF := (fun j => (Below.frozen k4 (p := ⟨w.heap.size, j, none⟩) rB).trans (rF j))
    replace rB := (Nat.lt_of_lt_of_le rB (k4).size)
    replace hb := bstep hb k4
    clear k4
    rw [hm]
    go_wp2_with fail
    refine (CP.out _).mono ?_
    rintro e v5 ⟨rfl, k5⟩
    replace lL := Lib.hid ((lL.out).below k5)
    replace r0 := (Beat.keepC r0 k5)
    replace r1 := (Beat.keepC r1 k5)
    replace r2 := (Beat.keepC r2 k5)
    replace rF := (fun j => (Below.frozen k5 (p := ⟨w.heap.size, j, none⟩) rB).trans (rF j))
    replace rB := (Nat.lt_of_lt_of_le rB (k5).size)
    replace hb := bstep hb k5
    clear k5
    have hp := HP.out
    rw [hp]
    go_wp2_with fail
    refine (CF.out _ lL.out).mono ?_
    rintro e v6 ⟨i, rfl, hi, k6⟩
    replace lL := Lib.hid ((lL.out).below k6)
    replace r0 := (Beat.keepC r0 k6)
    replace r1 := (Beat.keepC r1 k6)
    replace r2 := (Beat.keepC r2 k6)
    replace rF := (fun j => (Below.frozen k6 (p := ⟨w.heap.size, j, none⟩) rB).trans (rF j))
    replace rB := (Nat.lt_of_lt_of_le rB (k6).size)
    replace hb := bstep hb k6
    clear k6
    have HC := Lib.hid hi
    clear hi
    rw [hh]
    go_wp2
    refine bodyPost_ret (v := .tuple #[.agg #[.string ⟨#[]⟩, .int .u64 0, .bool false], .bool false]) (by simp [results, Try.results10, go_sem, r0, r1, r2]; try rfl) rfl ?_
    exact ⟨by rw [H1.out, H2.out]; rfl, by repeat (first | exact hb | refine bset ?_ (Nat.le_refl _) _)⟩
  have hh := h3
  have H1 : Hid (isB L q = true) := Lib.hid (by rw [HI.out]; simp [h1, h2, h3])
  have HK : Hid (∀ i, Cut L q i → ∃ hi : i < L.length, ofB L q = L[i]) := Lib.hid fun i hi => (cut_is HR.out hi h3).imp fun h k => by unfold ofB; rw [h1, h2, k.2]; rfl
  clear h1 h2 h3 HP0
  go_enter Try.func10, Try.ntmps10
  go_wp2_with fail
  replace lL := Lib.hid ((lL.out).below (balloc (Below.refl _ _) (.cells #[.string ⟨#[]⟩, .int .u64 0, .bool false] 28)))
  replace hb := bstep hb (balloc (Below.refl _ _) (.cells #[.string ⟨#[]⟩, .int .u64 0, .bool false] 28))
  have r0 : (w.alloc (.cells #[.string ⟨#[]⟩, .int .u64 0, .bool false] 28)).cell? ⟨w.heap.size, 0, none⟩ = some (.string ⟨#[]⟩) := by rw [World.cell?_alloc_new]; rfl
  have r1 : (w.alloc (.cells #[.string ⟨#[]⟩, .int .u64 0, .bool false] 28)).cell? ⟨w.heap.size, 1, none⟩ = some (.int .u64 0) := by rw [World.cell?_alloc_new]; rfl
  have r2 : (w.alloc (.cells #[.string ⟨#[]⟩, .int .u64 0, .bool false] 28)).cell? ⟨w.heap.size, 2, none⟩ = some (.bool false) := by rw [World.cell?_alloc_new]; rfl
  have rF : ∀ j, (w.alloc (.cells #[.string ⟨#[]⟩, .int .u64 0, .bool false] 28)).frozen? ⟨w.heap.size, j, none⟩ = false := fun j => World.frozen?_alloc_at _ _ _ j rfl
  have rB : w.heap.size < (w.alloc (.cells #[.string ⟨#[]⟩, .int .u64 0, .bool false] 28)).heap.size := by rw [World.size_alloc]; omega
  go_wp2_with fail
  refine (CM.out _ lL.out).mono ?_
  rintro e v7 ⟨rfl, k7⟩
  replace lL := Lib.hid ((lL.out).below k7)
  replace r0 := (Beat.keepC r0 k7)
  replace r1 := (Beat.keepC r1 k7)
  replace r2 := (Beat.keepC r2 k7)
  replace rF := (fun j => (Below.frozen k7 (p := ⟨w.heap.size, j, none⟩) rB).trans (rF j))
  replace rB := (Nat.lt_of_lt_of_le rB (k7).size)
  replace hb := bstep hb k7
  clear k7
  rw [hm]
  go_wp2_with fail
  refine (CP.out _).mono ?_
  rintro e v8 ⟨rfl, k8⟩
  replace lL := Lib.hid ((lL.out).below k8)
  replace r0 := (Beat.keepC r0 k8)
  replace r1 := (Beat.keepC r1 k8)
  replace r2 := (Beat.keepC r2 k8)
  replace rF := (fun j => (Below.frozen k8 (p := ⟨w.heap.size, j, none⟩) rB).trans (rF j))
  replace rB := (Nat.lt_of_lt_of_le rB (k8).size)
  replace hb := bstep hb k8
  clear k8
  have hp := HP.out
  rw [hp]
  go_wp2_with fail
  refine (CF.out _ lL.out).mono ?_
  rintro e v9 ⟨i, rfl, hi, k9⟩
  replace lL := Lib.hid ((lL.out).below k9)
  replace r0 := (Beat.keepC r0 k9)
  replace r1 := (Beat.keepC r1 k9)
  replace r2 := (Beat.keepC r2 k9)
  replace rF := (fun j => (Below.frozen k9 (p := ⟨w.heap.size, j, none⟩) rB).trans (rF j))
  replace rB := (Nat.lt_of_lt_of_le rB (k9).size)
  replace hb := bstep hb k9
  clear k9
  have HC := Lib.hid hi
  clear hi
  rw [hh]
  obtain ⟨hi, HV⟩ := HK.out i HC.out
  obtain ⟨b, o, rfl, hcell⟩ := lies_at lL.out (by omega)
  obtain ⟨c1, c2, c3⟩ := hcell i hi
  rw [← HV] at c1 c2 c3
  have j1 : (0 : Int) ≤ (i : Int) := by omega
  have j2 : (i : Int) < (L.length : Int) := by omega
  obtain ⟨m, hm⟩ : ∃ m, m = ofB L q := ⟨_, rfl⟩
  rw [← hm] at c1 c2 c3
  have HM := Lib.hid hm
  clear hcell HV hm
  go_wp2
  refine bodyPost_ret (v := .tuple #[.agg #[.string ⟨m.p.toArray⟩, .int .u64 (m.n : Int), .bool m.bad], .bool true]) (by simp [results, Try.results10, go_sem, r0, r1, r2]; try rfl) rfl ?_
  exact ⟨by rw [H1.out, ← HM.out], by repeat (first | exact hb | refine bset ?_ (Nat.le_refl _) _)⟩
end Beat
end Go.Proofs.Ytfdcmmafdgagoaa
