/- the law's same, at beats. -/
import Derived.Test.YtfdcmmafdgagoaaBeatSame
namespace Go.Proofs.Ytfdcmmafdgagoaa
namespace Beat
open Go.RowKit

set_option maxRecDepth 100000 in
set_option maxHeartbeats 8000000 in
theorem same_any (R R2 : List B) (a a2 : Option Addr) (c c2 : Nat) (w : World) (hL : Lies w a R.length R) (hK : Lies w a2 R2.length R2) (hn : R.length ≤ 1099511627776) :
    Calls Try.prog 17 #[.slice a R.length c, .slice a2 R2.length c2] w fun e w' => e = .returned (.bool (decide (R = R2))) ∧ Below w.heap.size w w' := by
  have hb := Below.refl w.heap.size w
  by_cases hne : R.length = R2.length
  rotate_left
  · have HV : Hid (decide (R = R2) = false) := Lib.hid (decide_eq_false fun e => hne (by rw [e]))
    have hneq : ((R.length : Int) != (R2.length : Int)) = true := by rw [bne_iff_ne]; omega
    go_enter Try.func17, Try.ntmps17
    go_wp2
    go_ret
    exact ⟨by rw [HV.out]; rfl, hb⟩
  have hneq : ((R.length : Int) != (R2.length : Int)) = false := by rw [bne_eq_false_iff_eq]; omega
  have HN := Lib.hid hne
  have lL := Lib.hid hL
  have lK := Lib.hid hK
  clear hne hL hK
  go_enter Try.func17, Try.ntmps17
  go_wp2_with fail
  go_loopw [5] (fun iv wr => ∃ q : Nat, q ≤ R.length ∧ iv = .int .i64 q ∧ R.take q = R2.take q ∧ Below w.heap.size w wr ∧ Lies wr a R.length R ∧ Lies wr a2 R2.length R2) (fun iv _ => R.length - (intOf iv).toNat)
  case atStart => exact ⟨0, by omega, rfl, rfl, hb, lL.out, lK.out⟩
  case round =>
    clear hb lL lK
    obtain ⟨q, hq, rfl, hs, hb, lL, lK⟩ := hrel
    have hne := HN.out
    by_cases hlt : q < R.length
    · obtain ⟨b1, o1, rfl, hcell1⟩ := lies_at lL (by omega)
      obtain ⟨b2, o2, rfl, hcell2⟩ := lies_at lK (by omega)
      obtain ⟨d1, d2, d3⟩ := hcell1 q (by omega)
      obtain ⟨d4, d5, d6⟩ := hcell2 q (by omega)
      have hs1 : R.take (q + 1) = R.take q ++ [R[q]'(by omega)] := List.take_succ_eq_append_getElem (by omega)
      have hs2 : R2.take (q + 1) = R2.take q ++ [R2[q]'(by omega)] := List.take_succ_eq_append_getElem (by omega)
      obtain ⟨m, hm⟩ : ∃ m, m = R[q]'(by omega) := ⟨_, rfl⟩
      obtain ⟨x, hx⟩ : ∃ x, x = R2[q]'(by omega) := ⟨_, rfl⟩
      rw [← hm] at d1 d2 d3 hs1
      rw [← hx] at d4 d5 d6 hs2
      have hE := neq_beat m x
      have j0 : decide ((q : Int) < (R.length : Int)) = true := decide_eq_true (by omega)
      have j1 : (0 : Int) ≤ (q : Int) := by omega
      have j2 : (q : Int) < (R.length : Int) := by omega
      have j3 : (q : Int) < (R2.length : Int) := by omega
      replace lL := Lib.hid lL
      replace lK := Lib.hid lK
      by_cases he : m = x
      · rw [decide_eq_true he] at hE
        have HS : Hid (R.take (q + 1) = R2.take (q + 1)) := Lib.hid (by rw [hs1, hs2, hs, he])
        have HQ := Lib.hid hlt
        clear hs hs1 hs2 hm hx hcell1 hcell2 he hlt
        go_wp2_with fail
        refine wp_region_noPanic ?_
        refine wp_region_held_drew (S := (fun w' => Below w.heap.size w w' ∧ w'.cell? ⟨b1, o1 + q * 3, none⟩ = some (.string ⟨m.p.toArray⟩) ∧ w'.cell? ⟨b1, o1 + q * 3 + 1, none⟩ = some (.int .u64 (m.n : Int)) ∧ w'.cell? ⟨b1, o1 + q * 3 + 2, none⟩ = some (.bool m.bad) ∧ w'.cell? ⟨b2, o2 + q * 3, none⟩ = some (.string ⟨x.p.toArray⟩) ∧ w'.cell? ⟨b2, o2 + q * 3 + 1, none⟩ = some (.int .u64 (x.n : Int)) ∧ w'.cell? ⟨b2, o2 + q * 3 + 2, none⟩ = some (.bool x.bad) ∧ Lies w' (some ⟨b1, o1, none⟩) R.length R ∧ Lies w' (some ⟨b2, o2, none⟩) R2.length R2)) (by kernel_rfl) (⟨Below.drew hb, Beat.keepC d1 (Below.drew (Below.refl _ _)), Beat.keepC d2 (Below.drew (Below.refl _ _)), Beat.keepC d3 (Below.drew (Below.refl _ _)), Beat.keepC d4 (Below.drew (Below.refl _ _)), Beat.keepC d5 (Below.drew (Below.refl _ _)), Beat.keepC d6 (Below.drew (Below.refl _ _)), (lL.out).below (Below.drew (Below.refl _ _)), (lK.out).below (Below.drew (Below.refl _ _))⟩) (fun hHeld => ?_)
        refine wpAnyH_take (i := 0) (v := ?_) (by simp only [List.getElem?_toArray, List.getElem?_cons_zero]; rfl) (by kernel_rfl) (by kernel_rfl) (by kernel_rfl) (fun _ _ _ h => h) (Or.inl ⟨by rfl, ?_⟩) (by assumption) ?_
        rotate_left
        · (intro w hSw; (try dsimp only at hSw); go_simp; try with_reducible rfl)
        try simp only [Act.put, List.setIfInBounds_toArray, List.set_cons_zero, List.set_cons_succ]
        refine wpAnyH_take (i := 1) (v := ?_) (by simp only [List.getElem?_toArray, List.getElem?_cons_succ, List.getElem?_cons_zero]; rfl) (by kernel_rfl) (by kernel_rfl) (by kernel_rfl) (fun _ _ _ h => h) (Or.inl ⟨by rfl, ?_⟩) (by assumption) ?_
        rotate_left
        · (intro w hSw; (try dsimp only at hSw); go_simp; try with_reducible rfl)
        try simp only [Act.put, List.setIfInBounds_toArray, List.set_cons_zero, List.set_cons_succ]
        refine wpAnyH_take (i := 2) (v := ?_) (by simp only [List.getElem?_toArray, List.getElem?_cons_succ, List.getElem?_cons_zero]; rfl) (by kernel_rfl) (by kernel_rfl) (by kernel_rfl) (fun _ _ _ h => h) (Or.inl ⟨by rfl, ?_⟩) (by assumption) ?_
        rotate_left
        · (intro w hSw; (try dsimp only at hSw); go_simp; try with_reducible rfl)
        try simp only [Act.put, List.setIfInBounds_toArray, List.set_cons_zero, List.set_cons_succ]
        refine wpAnyH_take (i := 3) (v := ?_) (by simp only [List.getElem?_toArray, List.getElem?_cons_succ, List.getElem?_cons_zero]; rfl) (by kernel_rfl) (by kernel_rfl) (by kernel_rfl) (fun _ _ _ h => h) (Or.inl ⟨by rfl, ?_⟩) (by assumption) ?_
        rotate_left
        · (intro w hSw; (try dsimp only at hSw); go_simp; try with_reducible rfl)
        try simp only [Act.put, List.setIfInBounds_toArray, List.set_cons_zero, List.set_cons_succ]
        refine wpAnyH_take (i := 4) (v := ?_) (by simp only [List.getElem?_toArray, List.getElem?_cons_succ, List.getElem?_cons_zero]; rfl) (by kernel_rfl) (by kernel_rfl) (by kernel_rfl) (fun _ _ _ h => h) (Or.inl ⟨by rfl, ?_⟩) (by assumption) ?_
        rotate_left
        · (intro w hSw; (try dsimp only at hSw); go_simp; try with_reducible rfl)
        try simp only [Act.put, List.setIfInBounds_toArray, List.set_cons_zero, List.set_cons_succ]
        refine wpAnyH_take (i := 5) (v := ?_) (by simp only [List.getElem?_toArray, List.getElem?_cons_succ, List.getElem?_cons_zero]; rfl) (by kernel_rfl) (by kernel_rfl) (by kernel_rfl) (fun _ _ _ h => h) (Or.inl ⟨by rfl, ?_⟩) (by assumption) ?_
        rotate_left
        · (intro w hSw; (try dsimp only at hSw); go_simp; try with_reducible rfl)
        try simp only [Act.put, List.setIfInBounds_toArray, List.set_cons_zero, List.set_cons_succ]
        refine wpAnyH_take (i := 6) (v := ?_) (by simp only [List.getElem?_toArray, List.getElem?_cons_succ, List.getElem?_cons_zero]; rfl) (by kernel_rfl) (by kernel_rfl) (by kernel_rfl) (fun _ _ _ h => h) (Or.inl ⟨by rfl, ?_⟩) (by assumption) ?_
        rotate_left
        · (intro w hSw; (try dsimp only at hSw); go_simp; try with_reducible rfl)
        try simp only [Act.put, List.setIfInBounds_toArray, List.set_cons_zero, List.set_cons_succ]
        refine wpAnyH_take (i := 7) (v := ?_) (by simp only [List.getElem?_toArray, List.getElem?_cons_succ, List.getElem?_cons_zero]; rfl) (by kernel_rfl) (by kernel_rfl) (by kernel_rfl) (fun _ _ _ h => h) (Or.inl ⟨by rfl, ?_⟩) (by assumption) ?_
        rotate_left
        · (intro w hSw; (try dsimp only at hSw); go_simp; try with_reducible rfl)
        try simp only [Act.put, List.setIfInBounds_toArray, List.set_cons_zero, List.set_cons_succ]
        refine wpAnyH_take (i := 8) (v := ?_) (by simp only [List.getElem?_toArray, List.getElem?_cons_succ, List.getElem?_cons_zero]; rfl) (by kernel_rfl) (by kernel_rfl) (by kernel_rfl) (fun _ _ _ h => h) (Or.inl ⟨by rfl, ?_⟩) (by assumption) ?_
        rotate_left
        · (intro w hSw; (try dsimp only at hSw); go_simp; try with_reducible rfl)
        try simp only [Act.put, List.setIfInBounds_toArray, List.set_cons_zero, List.set_cons_succ]
        refine wpAnyH_done (by kernel_rfl) ?_ _
        refine NoPanic.normal ?_
        clear hb d1 d2 d3 d4 d5 d6 lL lK
        obtain ⟨hb, d1, d2, d3, d4, d5, d6, lL, lK⟩ := hHeld
        replace lL := Lib.hid lL
        replace lK := Lib.hid lK
        go_wp2
        go_roundw
        case rel => exact ⟨q + 1, by have := HQ.out; omega, by go_num, HS.out, hb, lL.out, lK.out⟩
        case measure => have := HQ.out; simp [intOf]; omega
      · rw [decide_eq_false he] at hE
        have HV : Hid (decide (R = R2) = false) := Lib.hid (decide_eq_false fun e => he (by rw [hm, hx]; simp only [e]))
        clear hs hs1 hs2 hm hx hcell1 hcell2 he hlt
        go_wp2_with fail
        refine wp_region_noPanic ?_
        refine wp_region_held_drew (S := (fun w' => Below w.heap.size w w' ∧ w'.cell? ⟨b1, o1 + q * 3, none⟩ = some (.string ⟨m.p.toArray⟩) ∧ w'.cell? ⟨b1, o1 + q * 3 + 1, none⟩ = some (.int .u64 (m.n : Int)) ∧ w'.cell? ⟨b1, o1 + q * 3 + 2, none⟩ = some (.bool m.bad) ∧ w'.cell? ⟨b2, o2 + q * 3, none⟩ = some (.string ⟨x.p.toArray⟩) ∧ w'.cell? ⟨b2, o2 + q * 3 + 1, none⟩ = some (.int .u64 (x.n : Int)) ∧ w'.cell? ⟨b2, o2 + q * 3 + 2, none⟩ = some (.bool x.bad) ∧ Lies w' (some ⟨b1, o1, none⟩) R.length R ∧ Lies w' (some ⟨b2, o2, none⟩) R2.length R2)) (by kernel_rfl) (⟨Below.drew hb, Beat.keepC d1 (Below.drew (Below.refl _ _)), Beat.keepC d2 (Below.drew (Below.refl _ _)), Beat.keepC d3 (Below.drew (Below.refl _ _)), Beat.keepC d4 (Below.drew (Below.refl _ _)), Beat.keepC d5 (Below.drew (Below.refl _ _)), Beat.keepC d6 (Below.drew (Below.refl _ _)), (lL.out).below (Below.drew (Below.refl _ _)), (lK.out).below (Below.drew (Below.refl _ _))⟩) (fun hHeld => ?_)
        refine wpAnyH_take (i := 0) (v := ?_) (by simp only [List.getElem?_toArray, List.getElem?_cons_zero]; rfl) (by kernel_rfl) (by kernel_rfl) (by kernel_rfl) (fun _ _ _ h => h) (Or.inl ⟨by rfl, ?_⟩) (by assumption) ?_
        rotate_left
        · (intro w hSw; (try dsimp only at hSw); go_simp; try with_reducible rfl)
        try simp only [Act.put, List.setIfInBounds_toArray, List.set_cons_zero, List.set_cons_succ]
        refine wpAnyH_take (i := 1) (v := ?_) (by simp only [List.getElem?_toArray, List.getElem?_cons_succ, List.getElem?_cons_zero]; rfl) (by kernel_rfl) (by kernel_rfl) (by kernel_rfl) (fun _ _ _ h => h) (Or.inl ⟨by rfl, ?_⟩) (by assumption) ?_
        rotate_left
        · (intro w hSw; (try dsimp only at hSw); go_simp; try with_reducible rfl)
        try simp only [Act.put, List.setIfInBounds_toArray, List.set_cons_zero, List.set_cons_succ]
        refine wpAnyH_take (i := 2) (v := ?_) (by simp only [List.getElem?_toArray, List.getElem?_cons_succ, List.getElem?_cons_zero]; rfl) (by kernel_rfl) (by kernel_rfl) (by kernel_rfl) (fun _ _ _ h => h) (Or.inl ⟨by rfl, ?_⟩) (by assumption) ?_
        rotate_left
        · (intro w hSw; (try dsimp only at hSw); go_simp; try with_reducible rfl)
        try simp only [Act.put, List.setIfInBounds_toArray, List.set_cons_zero, List.set_cons_succ]
        refine wpAnyH_take (i := 3) (v := ?_) (by simp only [List.getElem?_toArray, List.getElem?_cons_succ, List.getElem?_cons_zero]; rfl) (by kernel_rfl) (by kernel_rfl) (by kernel_rfl) (fun _ _ _ h => h) (Or.inl ⟨by rfl, ?_⟩) (by assumption) ?_
        rotate_left
        · (intro w hSw; (try dsimp only at hSw); go_simp; try with_reducible rfl)
        try simp only [Act.put, List.setIfInBounds_toArray, List.set_cons_zero, List.set_cons_succ]
        refine wpAnyH_take (i := 4) (v := ?_) (by simp only [List.getElem?_toArray, List.getElem?_cons_succ, List.getElem?_cons_zero]; rfl) (by kernel_rfl) (by kernel_rfl) (by kernel_rfl) (fun _ _ _ h => h) (Or.inl ⟨by rfl, ?_⟩) (by assumption) ?_
        rotate_left
        · (intro w hSw; (try dsimp only at hSw); go_simp; try with_reducible rfl)
        try simp only [Act.put, List.setIfInBounds_toArray, List.set_cons_zero, List.set_cons_succ]
        refine wpAnyH_take (i := 5) (v := ?_) (by simp only [List.getElem?_toArray, List.getElem?_cons_succ, List.getElem?_cons_zero]; rfl) (by kernel_rfl) (by kernel_rfl) (by kernel_rfl) (fun _ _ _ h => h) (Or.inl ⟨by rfl, ?_⟩) (by assumption) ?_
        rotate_left
        · (intro w hSw; (try dsimp only at hSw); go_simp; try with_reducible rfl)
        try simp only [Act.put, List.setIfInBounds_toArray, List.set_cons_zero, List.set_cons_succ]
        refine wpAnyH_take (i := 6) (v := ?_) (by simp only [List.getElem?_toArray, List.getElem?_cons_succ, List.getElem?_cons_zero]; rfl) (by kernel_rfl) (by kernel_rfl) (by kernel_rfl) (fun _ _ _ h => h) (Or.inl ⟨by rfl, ?_⟩) (by assumption) ?_
        rotate_left
        · (intro w hSw; (try dsimp only at hSw); go_simp; try with_reducible rfl)
        try simp only [Act.put, List.setIfInBounds_toArray, List.set_cons_zero, List.set_cons_succ]
        refine wpAnyH_take (i := 7) (v := ?_) (by simp only [List.getElem?_toArray, List.getElem?_cons_succ, List.getElem?_cons_zero]; rfl) (by kernel_rfl) (by kernel_rfl) (by kernel_rfl) (fun _ _ _ h => h) (Or.inl ⟨by rfl, ?_⟩) (by assumption) ?_
        rotate_left
        · (intro w hSw; (try dsimp only at hSw); go_simp; try with_reducible rfl)
        try simp only [Act.put, List.setIfInBounds_toArray, List.set_cons_zero, List.set_cons_succ]
        refine wpAnyH_take (i := 8) (v := ?_) (by simp only [List.getElem?_toArray, List.getElem?_cons_succ, List.getElem?_cons_zero]; rfl) (by kernel_rfl) (by kernel_rfl) (by kernel_rfl) (fun _ _ _ h => h) (Or.inl ⟨by rfl, ?_⟩) (by assumption) ?_
        rotate_left
        · (intro w hSw; (try dsimp only at hSw); go_simp; try with_reducible rfl)
        try simp only [Act.put, List.setIfInBounds_toArray, List.set_cons_zero, List.set_cons_succ]
        refine wpAnyH_done (by kernel_rfl) ?_ _
        refine NoPanic.normal ?_
        clear hb d1 d2 d3 d4 d5 d6 lL lK
        obtain ⟨hb, d1, d2, d3, d4, d5, d6, lL, lK⟩ := hHeld
        replace lL := Lib.hid lL
        replace lK := Lib.hid lK
        go_wp2
        go_ret
        exact ⟨by rw [HV.out]; rfl, hb⟩
    · obtain rfl : q = R.length := by omega
      have hv : R = R2 := by
        rw [← List.take_of_length_le (l := R) (i := R.length) (by omega), hs, List.take_of_length_le (by omega)]
      have hd : decide ((R.length : Int) < (R.length : Int)) = false := decide_eq_false (by omega)
      have HV : Hid (decide (R = R2) = true) := Lib.hid (decide_eq_true hv)
      clear hs hne hlt hv lL lK
      go_wp2
      go_ret
      exact ⟨by rw [HV.out]; rfl, hb⟩

end Beat
end Go.Proofs.Ytfdcmmafdgagoaa
