/- Merged texts: BagLarge, BagIn. -/
import Derived.Test.YtnlbgjghckbbcaaTmBagD
import Derived.Test.YtnlbgjghckbbcaaTmMarkB
namespace Go.Proofs.Ytnlbgjghckbbcaa
namespace BagLaw
open Go.RowKit Go.Proofs.Ytnlbgjghckbbcaa.Mark Go.Proofs.Ytnlbgjghckbbcaa.Dots Go.Proofs.Ytnlbgjghckbbcaa.Bag
set_option maxRecDepth 100000 in
set_option maxHeartbeats 8000000 in
theorem same_any (R R2 : List (List UInt8)) (a a2 : Option Addr) (c c2 : Nat) (w : World) (hL : Words.Lies w a R.length R) (hK : Words.Lies w a2 R2.length R2) (hn : R.length ≤ 1099511627776) :
    Calls Try.prog 17 #[.slice a R.length c, .slice a2 R2.length c2] w fun e w' => e = .returned (.bool (decide (R = R2))) ∧ Below w.heap.size w w' := by
  have hb := Below.refl w.heap.size w
  by_cases hne : R.length = R2.length
  rotate_left
  · have HV : Hid (decide (R = R2) = false) := Lib.hid (decide_eq_false fun e => hne (by rw [e]))
    have hneq : ((R.length : Int) != (R2.length : Int)) = true := by rw [bne_iff_ne]; omega
    go_enter Try.func17, Try.ntmps17
    go_wp2
    go_ret
    exact ⟨by rw [HV.out]; rfl, hb⟩
  have hneq : ((R.length : Int) != (R2.length : Int)) = false := by rw [bne_eq_false_iff_eq]; omega
  have HN := Lib.hid hne
  have lL := Lib.hid hL
  have lK := Lib.hid hK
  clear hne hL hK
  go_enter Try.func17, Try.ntmps17
  go_wp2_with fail
  go_loopw [5] (fun iv wr => ∃ q : Nat, q ≤ R.length ∧ iv = .int .i64 q ∧ R.take q = R2.take q ∧ Below w.heap.size w wr ∧ Words.Lies wr a R.length R ∧ Words.Lies wr a2 R2.length R2) (fun iv _ => R.length - (intOf iv).toNat)
  case atStart => exact ⟨0, by omega, rfl, rfl, hb, lL.out, lK.out⟩
  case round =>
    clear hb lL lK
    obtain ⟨q, hq, rfl, hs, hb, lL, lK⟩ := hrel
    have hne := HN.out
    by_cases hlt : q < R.length
    · obtain ⟨b1, o1, rfl, hcell1⟩ := Words.words_at lL (by omega)
      obtain ⟨b2, o2, rfl, hcell2⟩ := Words.words_at lK (by omega)
      have d1 := hcell1 q (by omega)
      have d4 := hcell2 q (by omega)
      have hs1 : R.take (q + 1) = R.take q ++ [R[q]'(by omega)] := List.take_succ_eq_append_getElem (by omega)
      have hs2 : R2.take (q + 1) = R2.take q ++ [R2[q]'(by omega)] := List.take_succ_eq_append_getElem (by omega)
      obtain ⟨m, hm⟩ : ∃ m, m = R[q]'(by omega) := ⟨_, rfl⟩
      obtain ⟨x, hx⟩ : ∃ x, x = R2[q]'(by omega) := ⟨_, rfl⟩
      rw [← hm] at d1 hs1
      rw [← hx] at d4 hs2
      have j0 : decide ((q : Int) < (R.length : Int)) = true := decide_eq_true (by omega)
      have j1 : (0 : Int) ≤ (q : Int) := by omega
      have j2 : (q : Int) < (R.length : Int) := by omega
      have j3 : (q : Int) < (R2.length : Int) := by omega
      replace lL := Lib.hid lL
      replace lK := Lib.hid lK
      by_cases he : m = x
      · have e1 : (m == x) = true := by simp [he]
        have e2 : (m != x) = false := by simp [he]
        have HS : Hid (R.take (q + 1) = R2.take (q + 1)) := Lib.hid (by rw [hs1, hs2, hs, he])
        have HQ := Lib.hid hlt
        clear hs hs1 hs2 hm hx hcell1 hcell2 he hlt
        go_wp2_with fail
        refine wp_region_noPanic ?_
        refine wp_region_held_drew (S := (fun w' => Below w.heap.size w w' ∧ w'.cell? ⟨b1, o1 + q, none⟩ = some (.string ⟨m.toArray⟩) ∧ w'.cell? ⟨b2, o2 + q, none⟩ = some (.string ⟨x.toArray⟩) ∧ Words.Lies w' (some ⟨b1, o1, none⟩) R.length R ∧ Words.Lies w' (some ⟨b2, o2, none⟩) R2.length R2)) (by kernel_rfl) (⟨Below.drew hb, Dots.keepC d1 (Below.drew (Below.refl _ _)), Dots.keepC d4 (Below.drew (Below.refl _ _)), (lL.out).below (Below.drew (Below.refl _ _)), (lK.out).below (Below.drew (Below.refl _ _))⟩) (fun hHeld => ?_)
        refine wpAnyH_take (i := 0) (v := ?_) (by simp only [List.getElem?_toArray, List.getElem?_cons_zero]; rfl) (by kernel_rfl) (by kernel_rfl) (by kernel_rfl) (fun _ _ _ h => h) (Or.inl ⟨by rfl, ?_⟩) (by assumption) ?_
        rotate_left
        · (intro w hSw; (try dsimp only at hSw); go_simp; try with_reducible rfl)
        try simp only [Act.put, List.setIfInBounds_toArray, List.set_cons_zero, List.set_cons_succ]
        refine wpAnyH_take (i := 1) (v := ?_) (by simp only [List.getElem?_toArray, List.getElem?_cons_succ, List.getElem?_cons_zero]; rfl) (by kernel_rfl) (by kernel_rfl) (by kernel_rfl) (fun _ _ _ h => h) (Or.inl ⟨by rfl, ?_⟩) (by assumption) ?_
        rotate_left
        · (intro w hSw; (try dsimp only at hSw); go_simp; try with_reducible rfl)
        try simp only [Act.put, List.setIfInBounds_toArray, List.set_cons_zero, List.set_cons_succ]
        refine wpAnyH_take (i := 2) (v := ?_) (by simp only [List.getElem?_toArray, List.getElem?_cons_succ, List.getElem?_cons_zero]; rfl) (by kernel_rfl) (by kernel_rfl) (by kernel_rfl) (fun _ _ _ h => h) (Or.inl ⟨by rfl, ?_⟩) (by assumption) ?_
        rotate_left
        · (intro w hSw; (try dsimp only at hSw); go_simp; try with_reducible rfl)
        try simp only [Act.put, List.setIfInBounds_toArray, List.set_cons_zero, List.set_cons_succ]
        refine wpAnyH_take (i := 3) (v := ?_) (by simp only [List.getElem?_toArray, List.getElem?_cons_succ, List.getElem?_cons_zero]; rfl) (by kernel_rfl) (by kernel_rfl) (by kernel_rfl) (fun _ _ _ h => h) (Or.inl ⟨by rfl, ?_⟩) (by assumption) ?_
        rotate_left
        · (intro w hSw; (try dsimp only at hSw); go_simp; try with_reducible rfl)
        try simp only [Act.put, List.setIfInBounds_toArray, List.set_cons_zero, List.set_cons_succ]
        refine wpAnyH_take (i := 4) (v := ?_) (by simp only [List.getElem?_toArray, List.getElem?_cons_succ, List.getElem?_cons_zero]; rfl) (by kernel_rfl) (by kernel_rfl) (by kernel_rfl) (fun _ _ _ h => h) (Or.inl ⟨by rfl, ?_⟩) (by assumption) ?_
        rotate_left
        · (intro w hSw; (try dsimp only at hSw); go_simp; try with_reducible rfl)
        try simp only [Act.put, List.setIfInBounds_toArray, List.set_cons_zero, List.set_cons_succ]
        refine wpAnyH_take (i := 5) (v := ?_) (by simp only [List.getElem?_toArray, List.getElem?_cons_succ, List.getElem?_cons_zero]; rfl) (by kernel_rfl) (by kernel_rfl) (by kernel_rfl) (fun _ _ _ h => h) (Or.inl ⟨by rfl, ?_⟩) (by assumption) ?_
        rotate_left
        · (intro w hSw; (try dsimp only at hSw); go_simp; try with_reducible rfl)
        try simp only [Act.put, List.setIfInBounds_toArray, List.set_cons_zero, List.set_cons_succ]
        refine wpAnyH_take (i := 6) (v := ?_) (by simp only [List.getElem?_toArray, List.getElem?_cons_succ, List.getElem?_cons_zero]; rfl) (by kernel_rfl) (by kernel_rfl) (by kernel_rfl) (fun _ _ _ h => h) (Or.inl ⟨by rfl, ?_⟩) (by assumption) ?_
        rotate_left
        · (intro w hSw; (try dsimp only at hSw); go_simp; try with_reducible rfl)
        try simp only [Act.put, List.setIfInBounds_toArray, List.set_cons_zero, List.set_cons_succ]
        refine wpAnyH_take (i := 7) (v := ?_) (by simp only [List.getElem?_toArray, List.getElem?_cons_succ, List.getElem?_cons_zero]; rfl) (by kernel_rfl) (by kernel_rfl) (by kernel_rfl) (fun _ _ _ h => h) (Or.inl ⟨by rfl, ?_⟩) (by assumption) ?_
        rotate_left
        · (intro w hSw; (try dsimp only at hSw); go_simp; try with_reducible rfl)
        try simp only [Act.put, List.setIfInBounds_toArray, List.set_cons_zero, List.set_cons_succ]
        refine wpAnyH_take (i := 8) (v := ?_) (by simp only [List.getElem?_toArray, List.getElem?_cons_succ, List.getElem?_cons_zero]; rfl) (by kernel_rfl) (by kernel_rfl) (by kernel_rfl) (fun _ _ _ h => h) (Or.inl ⟨by rfl, ?_⟩) (by assumption) ?_
        rotate_left
        · (intro w hSw; (try dsimp only at hSw); go_simp; try with_reducible rfl)
        try simp only [Act.put, List.setIfInBounds_toArray, List.set_cons_zero, List.set_cons_succ]
        refine wpAnyH_done (by kernel_rfl) ?_ _
        refine NoPanic.normal ?_
        clear hb d1 d4 lL lK
        obtain ⟨hb, d1, d4, lL, lK⟩ := hHeld
        replace lL := Lib.hid lL
        replace lK := Lib.hid lK
        go_wp2
        go_roundw
        case rel => exact ⟨q + 1, by have := HQ.out; omega, by go_num, HS.out, hb, lL.out, lK.out⟩
        case measure => have := HQ.out; simp [intOf]; omega
      · have e1 : (m == x) = false := by simp [he]
        have e2 : (m != x) = true := by simp [he]
        have HV : Hid (decide (R = R2) = false) := Lib.hid (decide_eq_false fun e => he (by rw [hm, hx]; simp only [e]))
        clear hs hs1 hs2 hm hx hcell1 hcell2 he hlt
        go_wp2_with fail
        refine wp_region_noPanic ?_
        refine wp_region_held_drew (S := (fun w' => Below w.heap.size w w' ∧ w'.cell? ⟨b1, o1 + q, none⟩ = some (.string ⟨m.toArray⟩) ∧ w'.cell? ⟨b2, o2 + q, none⟩ = some (.string ⟨x.toArray⟩) ∧ Words.Lies w' (some ⟨b1, o1, none⟩) R.length R ∧ Words.Lies w' (some ⟨b2, o2, none⟩) R2.length R2)) (by kernel_rfl) (⟨Below.drew hb, Dots.keepC d1 (Below.drew (Below.refl _ _)), Dots.keepC d4 (Below.drew (Below.refl _ _)), (lL.out).below (Below.drew (Below.refl _ _)), (lK.out).below (Below.drew (Below.refl _ _))⟩) (fun hHeld => ?_)
        refine wpAnyH_take (i := 0) (v := ?_) (by simp only [List.getElem?_toArray, List.getElem?_cons_zero]; rfl) (by kernel_rfl) (by kernel_rfl) (by kernel_rfl) (fun _ _ _ h => h) (Or.inl ⟨by rfl, ?_⟩) (by assumption) ?_
        rotate_left
        · (intro w hSw; (try dsimp only at hSw); go_simp; try with_reducible rfl)
        try simp only [Act.put, List.setIfInBounds_toArray, List.set_cons_zero, List.set_cons_succ]
        refine wpAnyH_take (i := 1) (v := ?_) (by simp only [List.getElem?_toArray, List.getElem?_cons_succ, List.getElem?_cons_zero]; rfl) (by kernel_rfl) (by kernel_rfl) (by kernel_rfl) (fun _ _ _ h => h) (Or.inl ⟨by rfl, ?_⟩) (by assumption) ?_
        rotate_left
        · (intro w hSw; (try dsimp only at hSw); go_simp; try with_reducible rfl)
        try simp only [Act.put, List.setIfInBounds_toArray, List.set_cons_zero, List.set_cons_succ]
        refine wpAnyH_take (i := 2) (v := ?_) (by simp only [List.getElem?_toArray, List.getElem?_cons_succ, List.getElem?_cons_zero]; rfl) (by kernel_rfl) (by kernel_rfl) (by kernel_rfl) (fun _ _ _ h => h) (Or.inl ⟨by rfl, ?_⟩) (by assumption) ?_
        rotate_left
        · (intro w hSw; (try dsimp only at hSw); go_simp; try with_reducible rfl)
        try simp only [Act.put, List.setIfInBounds_toArray, List.set_cons_zero, List.set_cons_succ]
        refine wpAnyH_take (i := 3) (v := ?_) (by simp only [List.getElem?_toArray, List.getElem?_cons_succ, List.getElem?_cons_zero]; rfl) (by kernel_rfl) (by kernel_rfl) (by kernel_rfl) (fun _ _ _ h => h) (Or.inl ⟨by rfl, ?_⟩) (by assumption) ?_
        rotate_left
        · (intro w hSw; (try dsimp only at hSw); go_simp; try with_reducible rfl)
        try simp only [Act.put, List.setIfInBounds_toArray, List.set_cons_zero, List.set_cons_succ]
        refine wpAnyH_take (i := 4) (v := ?_) (by simp only [List.getElem?_toArray, List.getElem?_cons_succ, List.getElem?_cons_zero]; rfl) (by kernel_rfl) (by kernel_rfl) (by kernel_rfl) (fun _ _ _ h => h) (Or.inl ⟨by rfl, ?_⟩) (by assumption) ?_
        rotate_left
        · (intro w hSw; (try dsimp only at hSw); go_simp; try with_reducible rfl)
        try simp only [Act.put, List.setIfInBounds_toArray, List.set_cons_zero, List.set_cons_succ]
        refine wpAnyH_take (i := 5) (v := ?_) (by simp only [List.getElem?_toArray, List.getElem?_cons_succ, List.getElem?_cons_zero]; rfl) (by kernel_rfl) (by kernel_rfl) (by kernel_rfl) (fun _ _ _ h => h) (Or.inl ⟨by rfl, ?_⟩) (by assumption) ?_
        rotate_left
        · (intro w hSw; (try dsimp only at hSw); go_simp; try with_reducible rfl)
        try simp only [Act.put, List.setIfInBounds_toArray, List.set_cons_zero, List.set_cons_succ]
        refine wpAnyH_take (i := 6) (v := ?_) (by simp only [List.getElem?_toArray, List.getElem?_cons_succ, List.getElem?_cons_zero]; rfl) (by kernel_rfl) (by kernel_rfl) (by kernel_rfl) (fun _ _ _ h => h) (Or.inl ⟨by rfl, ?_⟩) (by assumption) ?_
        rotate_left
        · (intro w hSw; (try dsimp only at hSw); go_simp; try with_reducible rfl)
        try simp only [Act.put, List.setIfInBounds_toArray, List.set_cons_zero, List.set_cons_succ]
        refine wpAnyH_take (i := 7) (v := ?_) (by simp only [List.getElem?_toArray, List.getElem?_cons_succ, List.getElem?_cons_zero]; rfl) (by kernel_rfl) (by kernel_rfl) (by kernel_rfl) (fun _ _ _ h => h) (Or.inl ⟨by rfl, ?_⟩) (by assumption) ?_
        rotate_left
        · (intro w hSw; (try dsimp only at hSw); go_simp; try with_reducible rfl)
        try simp only [Act.put, List.setIfInBounds_toArray, List.set_cons_zero, List.set_cons_succ]
        refine wpAnyH_take (i := 8) (v := ?_) (by simp only [List.getElem?_toArray, List.getElem?_cons_succ, List.getElem?_cons_zero]; rfl) (by kernel_rfl) (by kernel_rfl) (by kernel_rfl) (fun _ _ _ h => h) (Or.inl ⟨by rfl, ?_⟩) (by assumption) ?_
        rotate_left
        · (intro w hSw; (try dsimp only at hSw); go_simp; try with_reducible rfl)
        try simp only [Act.put, List.setIfInBounds_toArray, List.set_cons_zero, List.set_cons_succ]
        refine wpAnyH_done (by kernel_rfl) ?_ _
        refine NoPanic.normal ?_
        clear hb d1 d4 lL lK
        obtain ⟨hb, d1, d4, lL, lK⟩ := hHeld
        replace lL := Lib.hid lL
        replace lK := Lib.hid lK
        go_wp2
        go_ret
        exact ⟨by rw [HV.out]; rfl, hb⟩
    · obtain rfl : q = R.length := by omega
      have hv : R = R2 := by
        rw [← List.take_of_length_le (l := R) (i := R.length) (by omega), hs, List.take_of_length_le (by omega)]
      have hd : decide ((R.length : Int) < (R.length : Int)) = false := decide_eq_false (by omega)
      have HV : Hid (decide (R = R2) = true) := Lib.hid (decide_eq_true hv)
      clear hs hne hlt hv lL lK
      go_wp2
      go_ret
      exact ⟨by rw [HV.out]; rfl, hb⟩
/-- How much of a bag there is. -/
def wt (L : List It) : Nat := (L.map (fun x => 1 + x.d.length + x.t.length / 64)).sum
theorem wt_snoc (L : List It) (x : It) : wt (L ++ [x]) = wt L + (1 + x.d.length + x.t.length / 64) := by unfold wt; simp
theorem wt_len : ∀ L : List It, L.length ≤ wt L
  | [] => Nat.le_refl _
  | x :: L => by have := wt_len L; unfold wt at *; simp; omega
theorem wt_pls : ∀ L : List It, (pls L).length ≤ wt L
  | [] => Nat.le_refl _
  | x :: L => by
    have := wt_pls L
    unfold wt pls at *
    simp only [List.flatMap_cons, List.length_append, onT_len, List.map_cons, List.sum_cons]
    omega
theorem wt_text {L : List It} : ∀ x ∈ L, x.d.length ≤ wt L ∧ x.t.length ≤ 64 * wt L + 63 := by
  induction L with
  | nil => intro x hx; cases hx
  | cons y L ih =>
    intro x hx
    have e : wt (y :: L) = (1 + y.d.length + y.t.length / 64) + wt L := by unfold wt; simp
    rcases List.mem_cons.1 hx with rfl | hx
    · constructor <;> omega
    · have := ih x hx; constructor <;> omega
set_option maxRecDepth 100000 in
set_option maxHeartbeats 1000000 in
theorem large_any (L : List It) (a : Option Addr) (n c : Nat) (w : World) (hL : Bag.Lies w a n L) (hn : n ≤ 140737488351232) (hz : ∀ x ∈ L, x.t.length ≤ 140737488351232 ∧ x.d.length ≤ 140737488351232) :
    Calls Try.prog 7 #[.slice a n c] w fun e w' => ∃ z, e = .returned (.bool z) ∧ (z = false → wt L ≤ 400) ∧ Below w.heap.size w w' := by
  obtain ⟨J, rfl, hJ, hD⟩ := hL
  have HJ := Lib.hid hJ
  have HN := Lib.hid hJ.1
  have HZ := Lib.hid hz
  have HNN := Lib.hid hn
  have h0 := Below.refl w.heap.size w
  have HW0 : Hid (0 = wt ((J.map RI.it).take 0)) := Lib.hid rfl
  clear hJ hD hz hn
  go_enter Try.func7, Try.ntmps7
  go_wp2_with fail
  go_loopw [3, 4] (fun sv iv wr => ∃ (i s : Nat), i ≤ n ∧ iv = .int .i64 i ∧ sv = .int .i64 s ∧ Hid (s = wt ((J.map RI.it).take i)) ∧ Hid (s ≤ 500000000000000) ∧ Below w.heap.size w wr) (fun _ iv _ => n - (intOf iv).toNat)
  case atStart => exact ⟨0, 0, by omega, rfl, rfl, HW0, Lib.hid (by omega), h0⟩
  case round =>
    clear HW0 h0
    obtain ⟨i, s, hi, rfl, rfl, HW, HS, hb⟩ := hrel
    by_cases hlt : i < n
    rotate_left
    · obtain rfl : i = n := by omega
      have d1 : decide ((i : Int) < (i : Int)) = false := decide_eq_false (by omega)
      by_cases hs : s ≤ 400
      · have d2 : decide ((400 : Int) < (s : Int)) = false := decide_eq_false (by omega)
        have HE : Hid (wt (J.map RI.it) ≤ 400) := Lib.hid (by
          have := HW.out
          rw [List.take_of_length_le (by rw [List.length_map]; have := HN.out; omega)] at this
          omega)
        clear hs
        go_wp2
        go_ret
        exact ⟨false, rfl, fun _ => HE.out, hb⟩
      · have d2 : decide ((400 : Int) < (s : Int)) = true := decide_eq_true (by omega)
        clear hs
        go_wp2
        go_ret
        exact ⟨true, rfl, fun h => (by cases h), hb⟩
    have d1 : decide ((i : Int) < (n : Int)) = true := decide_eq_true (by omega)
    by_cases hs : s ≤ 400
    rotate_left
    · have d2 : decide ((400 : Int) < (s : Int)) = true := decide_eq_true (by omega)
      have d3 : decide ((s : Int) ≤ (400 : Int)) = false := decide_eq_false (by omega)
      clear hs
      go_wp2
      go_ret
      exact ⟨true, rfl, fun h => (by cases h), hb⟩
    have d3 : decide ((s : Int) ≤ (400 : Int)) = true := decide_eq_true (by omega)
    have j1 : (0 : Int) ≤ (i : Int) := by omega
    have j2 : (i : Int) < (n : Int) := by omega
    have hil : i < J.length := by have := HN.out; omega
    have hml : i < (J.map RI.it).length := by rw [List.length_map]; exact hil
    obtain ⟨b, o, rfl, hc⟩ := items_at (HJ.out.below hb) (by omega)
    obtain ⟨c0, c1⟩ := hc i hil
    have hts : (J.map RI.it).take (i + 1) = (J.map RI.it).take i ++ [(J.map RI.it)[i]] := List.take_succ_eq_append_getElem hml
    rw [List.getElem_map] at hts
    have hzx := HZ.out J[i].it (List.mem_map.2 ⟨J[i], List.getElem_mem hil, rfl⟩)
    obtain ⟨x, hx⟩ : ∃ x, x = J[i] := ⟨_, rfl⟩
    rw [← hx] at c0 c1 hts hzx
    obtain ⟨t, xa, xc, d⟩ := x
    simp only [RI.it] at c0 c1 hts hzx
    have HT := Lib.hid hts
    have HI := Lib.hid hlt
    obtain ⟨nd, hnd⟩ : ∃ k, k = d.length := ⟨_, rfl⟩
    rw [← hnd] at c1 hzx
    have HW1 : Hid (s + (1 + nd + t.length / 64) = wt ((J.map RI.it).take (i + 1))) := Lib.hid (by rw [HT.out, wt_snoc, ← HW.out, hnd])
    have HWR : Hid (IntKind.i64.wrap ((s : Int) + 1) = (s : Int) + 1 ∧ IntKind.i64.wrap ((s : Int) + 1 + (nd : Int)) = ((s + 1 + nd : Nat) : Int) ∧ IntKind.i64.wrap ((t.length : Int) / 64) = ((t.length / 64 : Nat) : Int) ∧ IntKind.i64.wrap (((s + 1 + nd : Nat) : Int) + ((t.length / 64 : Nat) : Int)) = ((s + (1 + nd + t.length / 64) : Nat) : Int)) := Lib.hid (by
      refine ⟨?_, ?_, ?_, ?_⟩ <;> rw [IntKind.wrap_i64] <;> omega)
    have hjw : wrap64 ((i : Int) + 1) = ((i + 1 : Nat) : Int) := by have := HNN.out; unfold wrap64; omega
    have HS1 : Hid (s + (1 + nd + t.length / 64) ≤ 500000000000000) := Lib.hid (by omega)
    clear hc hil hml hts hzx hx hlt hnd HW HT hs
    go_wp2_with fail
    refine wp_region_noPanic ?_
    refine wp_region_held_drew (S := (fun w' => w'.cell? ⟨b, o + i * 2, none⟩ = some (.string ⟨t.toArray⟩) ∧ w'.cell? ⟨b, o + i * 2 + 1, none⟩ = some (.slice xa nd xc))) (by kernel_rfl) (⟨Dots.keepC c0 (Below.drew (Below.refl _ _)), Dots.keepC c1 (Below.drew (Below.refl _ _))⟩) (fun hHeld => ?_)
    refine wpAnyH_take (i := 0) (v := ?_) (by simp only [List.getElem?_toArray, List.getElem?_cons_zero]; rfl) (by kernel_rfl) (by kernel_rfl) (by kernel_rfl) (fun _ _ _ h => h) (Or.inl ⟨by rfl, ?_⟩) (by assumption) ?_
    rotate_left
    · (intro w hSw; (try dsimp only at hSw); go_simp; try with_reducible rfl)
    try simp only [Act.put, List.setIfInBounds_toArray, List.set_cons_zero, List.set_cons_succ]
    refine wpAnyH_take (i := 1) (v := ?_) (by simp only [List.getElem?_toArray, List.getElem?_cons_succ, List.getElem?_cons_zero]; rfl) (by kernel_rfl) (by kernel_rfl) (by kernel_rfl) (fun _ _ _ h => h) (Or.inl ⟨by rfl, ?_⟩) (by assumption) ?_
    rotate_left
    · (intro w hSw; (try dsimp only at hSw); go_simp; try with_reducible rfl)
    try simp only [Act.put, List.setIfInBounds_toArray, List.set_cons_zero, List.set_cons_succ]
    refine wpAnyH_take (i := 2) (v := ?_) (by simp only [List.getElem?_toArray, List.getElem?_cons_succ, List.getElem?_cons_zero]; rfl) (by kernel_rfl) (by kernel_rfl) (by kernel_rfl) (fun _ _ _ h => h) (Or.inl ⟨by rfl, ?_⟩) (by assumption) ?_
    rotate_left
    · (intro w hSw; (try dsimp only at hSw); go_simp; try with_reducible rfl)
    try simp only [Act.put, List.setIfInBounds_toArray, List.set_cons_zero, List.set_cons_succ]
    refine wpAnyH_take (i := 3) (v := ?_) (by simp only [List.getElem?_toArray, List.getElem?_cons_succ, List.getElem?_cons_zero]; rfl) (by kernel_rfl) (by kernel_rfl) (by kernel_rfl) (fun _ _ _ h => h) (Or.inl ⟨by rfl, ?_⟩) (by assumption) ?_
    rotate_left
    · (intro w hSw; (try dsimp only at hSw); go_simp; try with_reducible rfl)
    try simp only [Act.put, List.setIfInBounds_toArray, List.set_cons_zero, List.set_cons_succ]
    refine wpAnyH_take (i := 4) (v := ?_) (by simp only [List.getElem?_toArray, List.getElem?_cons_succ, List.getElem?_cons_zero]; rfl) (by kernel_rfl) (by kernel_rfl) (by kernel_rfl) (fun _ _ _ h => h) (Or.inl ⟨by rfl, ?_⟩) (by assumption) ?_
    rotate_left
    · (intro w hSw; (try dsimp only at hSw); go_simp; try with_reducible rfl)
    try simp only [Act.put, List.setIfInBounds_toArray, List.set_cons_zero, List.set_cons_succ]
    refine wpAnyH_take (i := 5) (v := ?_) (by simp only [List.getElem?_toArray, List.getElem?_cons_succ, List.getElem?_cons_zero]; rfl) (by kernel_rfl) (by kernel_rfl) (by kernel_rfl) (fun _ _ _ h => h) (Or.inl ⟨by rfl, ?_⟩) (by assumption) ?_
    rotate_left
    · (intro w hSw; (try dsimp only at hSw); go_simp; try with_reducible rfl)
    try simp only [Act.put, List.setIfInBounds_toArray, List.set_cons_zero, List.set_cons_succ]
    refine wpAnyH_take (i := 6) (v := ?_) (by simp only [List.getElem?_toArray, List.getElem?_cons_succ, List.getElem?_cons_zero]; rfl) (by kernel_rfl) (by kernel_rfl) (by kernel_rfl) (fun _ _ _ h => h) (Or.inl ⟨by rfl, ?_⟩) (by assumption) ?_
    rotate_left
    · (intro w hSw; (try dsimp only at hSw); go_simp; try with_reducible rfl)
    try simp only [Act.put, List.setIfInBounds_toArray, List.set_cons_zero, List.set_cons_succ]
    refine wpAnyH_take (i := 7) (v := ?_) (by simp only [List.getElem?_toArray, List.getElem?_cons_succ, List.getElem?_cons_zero]; rfl) (by kernel_rfl) (by kernel_rfl) (by kernel_rfl) (fun _ _ _ h => h) (Or.inl ⟨by rfl, ?_⟩) (by assumption) ?_
    rotate_left
    · (intro w hSw; (try dsimp only at hSw); go_simp; try with_reducible rfl)
    try simp only [Act.put, List.setIfInBounds_toArray, List.set_cons_zero, List.set_cons_succ]
    refine wpAnyH_take (i := 8) (v := ?_) (by simp only [List.getElem?_toArray, List.getElem?_cons_succ, List.getElem?_cons_zero]; rfl) (by kernel_rfl) (by kernel_rfl) (by kernel_rfl) (fun _ _ _ h => h) (Or.inl ⟨by rfl, ?_⟩) (by assumption) ?_
    rotate_left
    · (intro w hSw; (try dsimp only at hSw); go_simp; try with_reducible rfl)
    try simp only [Act.put, List.setIfInBounds_toArray, List.set_cons_zero, List.set_cons_succ]
    refine wpAnyH_take (i := 9) (v := ?_) (by simp only [List.getElem?_toArray, List.getElem?_cons_succ, List.getElem?_cons_zero]; rfl) (by kernel_rfl) (by kernel_rfl) (by kernel_rfl) (fun _ _ _ h => h) (Or.inl ⟨by rfl, ?_⟩) (by assumption) ?_
    rotate_left
    · (intro w hSw; (try dsimp only at hSw); go_simp; try with_reducible rfl)
    try simp only [Act.put, List.setIfInBounds_toArray, List.set_cons_zero, List.set_cons_succ]
    refine wpAnyH_take (i := 10) (v := ?_) (by simp only [List.getElem?_toArray, List.getElem?_cons_succ, List.getElem?_cons_zero]; rfl) (by kernel_rfl) (by kernel_rfl) (by kernel_rfl) (fun _ _ _ h => h) (Or.inl ⟨by rfl, ?_⟩) (by assumption) ?_
    rotate_left
    · (intro w hSw; (try dsimp only at hSw); go_simp; try with_reducible rfl)
    try simp only [Act.put, List.setIfInBounds_toArray, List.set_cons_zero, List.set_cons_succ]
    refine wpAnyH_take (i := 11) (v := ?_) (by simp only [List.getElem?_toArray, List.getElem?_cons_succ, List.getElem?_cons_zero]; rfl) (by kernel_rfl) (by kernel_rfl) (by kernel_rfl) (fun _ _ _ h => h) (Or.inl ⟨by rfl, ?_⟩) (by assumption) ?_
    rotate_left
    · (intro w hSw; (try dsimp only at hSw); go_simp; try with_reducible rfl)
    try simp only [Act.put, List.setIfInBounds_toArray, List.set_cons_zero, List.set_cons_succ]
    refine wpAnyH_take (i := 12) (v := ?_) (by simp only [List.getElem?_toArray, List.getElem?_cons_succ, List.getElem?_cons_zero]; rfl) (by kernel_rfl) (by kernel_rfl) (by kernel_rfl) (fun _ _ _ h => h) (Or.inl ⟨by rfl, ?_⟩) (by assumption) ?_
    rotate_left
    · (intro w hSw; (try dsimp only at hSw); go_simp; try with_reducible rfl)
    try simp only [Act.put, List.setIfInBounds_toArray, List.set_cons_zero, List.set_cons_succ]
    refine wpAnyH_take (i := 13) (v := ?_) (by simp only [List.getElem?_toArray, List.getElem?_cons_succ, List.getElem?_cons_zero]; rfl) (by kernel_rfl) (by kernel_rfl) (by kernel_rfl) (fun _ _ _ h => h) (Or.inl ⟨by rfl, ?_⟩) (by assumption) ?_
    rotate_left
    · (intro w hSw; (try dsimp only at hSw); go_simp; try with_reducible rfl)
    try simp only [Act.put, List.setIfInBounds_toArray, List.set_cons_zero, List.set_cons_succ]
    refine wpAnyH_take (i := 14) (v := ?_) (by simp only [List.getElem?_toArray, List.getElem?_cons_succ, List.getElem?_cons_zero]; rfl) (by kernel_rfl) (by kernel_rfl) (by kernel_rfl) (fun _ _ _ h => h) (Or.inl ⟨by rfl, ?_⟩) (by assumption) ?_
    rotate_left
    · (intro w hSw; (try dsimp only at hSw); go_simp; try with_reducible rfl)
    try simp only [Act.put, List.setIfInBounds_toArray, List.set_cons_zero, List.set_cons_succ]
    refine wpAnyH_take (i := 15) (v := ?_) (by simp only [List.getElem?_toArray, List.getElem?_cons_succ, List.getElem?_cons_zero]; rfl) (by kernel_rfl) (by kernel_rfl) (by kernel_rfl) (fun _ _ _ h => h) (Or.inl ⟨by rfl, ?_⟩) (by assumption) ?_
    rotate_left
    · (intro w hSw; (try dsimp only at hSw); go_simp; try with_reducible rfl)
    try simp only [Act.put, List.setIfInBounds_toArray, List.set_cons_zero, List.set_cons_succ]
    refine wpAnyH_take (i := 16) (v := ?_) (by simp only [List.getElem?_toArray, List.getElem?_cons_succ, List.getElem?_cons_zero]; rfl) (by kernel_rfl) (by kernel_rfl) (by kernel_rfl) (fun _ _ _ h => h) (Or.inl ⟨by rfl, ?_⟩) (by assumption) ?_
    rotate_left
    · (intro w hSw; (try dsimp only at hSw); go_simp; try with_reducible rfl)
    try simp only [Act.put, List.setIfInBounds_toArray, List.set_cons_zero, List.set_cons_succ]
    refine wpAnyH_take (i := 17) (v := ?_) (by simp only [List.getElem?_toArray, List.getElem?_cons_succ, List.getElem?_cons_zero]; rfl) (by kernel_rfl) (by kernel_rfl) (by kernel_rfl) (fun _ _ _ h => h) (Or.inl ⟨by rfl, ?_⟩) (by assumption) ?_
    rotate_left
    · (intro w hSw; (try dsimp only at hSw); go_simp; try with_reducible rfl)
    try simp only [Act.put, List.setIfInBounds_toArray, List.set_cons_zero, List.set_cons_succ]
    refine wpAnyH_done (by kernel_rfl) ?_ _
    refine NoPanic.normal ?_
    clear hHeld
    go_wp2
    go_roundw
    case rel => exact ⟨i + 1, s + (1 + nd + t.length / 64), by have := HI.out; omega, by rw [hjw], by rw [HWR.out.1, HWR.out.2.1, HWR.out.2.2.1, HWR.out.2.2.2], HW1, HS1, Below.drew hb⟩
    case measure => rw [hjw]; have := HI.out; simp only [intOf]; omega
end BagLaw
end Go.Proofs.Ytnlbgjghckbbcaa

namespace Go.Proofs.Ytnlbgjghckbbcaa
namespace BagLaw
open Go.RowKit Go.Proofs.Ytnlbgjghckbbcaa.Mark Go.Proofs.Ytnlbgjghckbbcaa.Dots Go.Proofs.Ytnlbgjghckbbcaa.Bag
theorem k_str : Try.prog.cellsOf 9 = 1 := by kernel_rfl
theorem k_u64 : Try.prog.cellsOf 29 = 1 := by kernel_rfl
theorem k_dot : Try.prog.cellsOf 31 = 2 := by kernel_rfl
theorem k_dots : Try.prog.cellsOf 38 = 1 := by kernel_rfl
theorem k_item : Try.prog.cellsOf 42 = 2 := by kernel_rfl
/-- What an item that came in is. -/
def _root_.Go.Proofs.Ytnlbgjghckbbcaa.Bag.It.Was (x : It) : Prop := x.t.length ≤ 140737488351232 ∧ x.d.length ≤ 140737488351232 ∧ ∀ m ∈ x.d, m.Was
section
variable {H : Type} {enc' : TypeId × Value → H} {w : World} {base : Nat} {spare : Nat → Bool} {held : Bool} {cs : List Value}
set_option maxRecDepth 100000 in
theorem dot_in (cs : List Value) (h : Tr enc' Try.prog w base spare held 31 cs) : ∃ m : M, cs = dE.cells m ∧ m.Was := by
  have hl := (Tr.struct Try.underlying31 h).1.trans k_dot
  have h0 := Tr.field Try.underlying31 h 0 _ rfl rfl rfl k_str
  have h1 := Tr.field Try.underlying31 h 1 _ rfl rfl rfl k_u64
  match cs, hl with
  | [x, y], _ =>
    obtain ⟨l, e0, hl⟩ := Tr.str Try.underlying9 h0
    obtain ⟨n, e1, hn⟩ := Tr.int Try.underlying29 h1
    obtain rfl : x = _ := List.head_eq_of_cons_eq e0
    obtain rfl : y = _ := List.head_eq_of_cons_eq e1
    obtain ⟨n0, n1⟩ := bounds_u64 hn
    obtain ⟨n, rfl⟩ := Int.eq_ofNat_of_zero_le n0
    exact ⟨⟨l, n⟩, rfl, by show n ≤ _; omega, hl⟩
set_option maxRecDepth 100000 in
theorem dots_in (h : Tr enc' Try.prog w base spare held 38 cs) : ∃ a c L, cs = [.slice a L.length c] ∧ Row.Lies dE w a L.length L ∧ (∀ x ∈ L, x.Was) ∧ L.length ≤ 140737488351232 := by
  obtain ⟨a, c, L, e, h1, h2, h3, -⟩ := Row.rows_in (E := dE) Try.underlying38 k_dot (by kernel_rfl) dot_in h
  exact ⟨a, c, L, e, h1, h2, h3⟩
set_option maxRecDepth 100000 in
theorem item_in (cs : List Value) (h : Tr enc' Try.prog w base spare held 42 cs) : ∃ x : RI, cs = iE.cells x ∧ (x.it.Was ∧ Inner w x) := by
  have hl := (Tr.struct Try.underlying42 h).1.trans k_item
  have h0 := Tr.field Try.underlying42 h 0 _ rfl rfl rfl k_str
  have h1 := Tr.field Try.underlying42 h 1 _ rfl rfl rfl k_dots
  match cs, hl with
  | [x, y], _ =>
    obtain ⟨l, e0, hl⟩ := Tr.str Try.underlying9 h0
    obtain ⟨a, c, D, e1, g1, g2, g3⟩ := dots_in h1
    obtain rfl : x = _ := List.head_eq_of_cons_eq e0
    obtain rfl : y = _ := List.head_eq_of_cons_eq e1
    exact ⟨⟨l, a, c, D⟩, rfl, ⟨hl, g3, g2⟩, g1⟩
end
section
variable {H : Type} {enc' : TypeId × Value → H} {w : World} {base b0 : Nat} {spare : Nat → Bool} {held : Bool} {r : Reach} {v : Value} {d : DataW H} {ps : List MemPlace} {ts : List TypeId} {ds : List (DataW H)} {j : Nat}
set_option maxRecDepth 100000 in
theorem slice_is {t e : TypeId} (ht : Try.prog.underlying t = some (.slice e)) (hv : Value.okWide Try.prog w r b0 t v) {a : Option Addr} {n c : Nat} (h : v.cells.toList = [.slice a n c]) : v = .slice a n c := by
  obtain ⟨a0, n0, c0, rfl⟩ := Go.WideShapes.okWide_slice ht hv
  simpa [Value.cells] using h
set_option maxRecDepth 100000 in
theorem open_marks (hz : (DataW.weightsEach Try.prog ts ds).all (· ≤ reachBytes) = true) (ht : ts[j]? = some 23) (hd : ds[j]? = some d) (hv : Value.okWide Try.prog w r b0 23 v) (h : DataW.Trod enc' Try.prog w base spare held 23 v d ps) :
    ∃ (L : List M) (a : Option Addr) (c : Nat), v = .slice a L.length c ∧ L.length ≤ 140737488351232 ∧ Mark.Lies w a L.length L ∧ ∀ x ∈ L, x.Was := by
  obtain ⟨a, c, L, e, h1, h2, h3⟩ := marks_in (Tr.of hz ht hd h)
  exact ⟨L, a, c, slice_is Try.underlying23 hv e, h3, h1, h2⟩
set_option maxRecDepth 100000 in
theorem open_items (hz : (DataW.weightsEach Try.prog ts ds).all (· ≤ reachBytes) = true) (ht : ts[j]? = some 22) (hd : ds[j]? = some d) (hv : Value.okWide Try.prog w r b0 22 v) (h : DataW.Trod enc' Try.prog w base spare held 22 v d ps) :
    ∃ (L : List It) (a : Option Addr) (c : Nat), v = .slice a L.length c ∧ L.length ≤ 140737488351232 ∧ Bag.Lies w a L.length L ∧ ∀ x ∈ L, x.Was := by
  obtain ⟨a, c, J, e, h1, h2, h3, _⟩ := Row.rows_in (E := iE) Try.underlying22 k_item (by kernel_rfl) item_in (Tr.of hz ht hd h)
  refine ⟨J.map RI.it, a, c, ?_, by rw [List.length_map]; exact h3, ⟨J, rfl, by rw [List.length_map]; exact h1, fun x hx => (h2 x hx).2⟩, fun x hx => ?_⟩
  · rw [List.length_map]; exact slice_is Try.underlying22 hv e
  · obtain ⟨y, hy, rfl⟩ := List.mem_map.1 hx
    exact (h2 y hy).1
end
theorem fine_in {L : List It} (h : ∀ x ∈ L, x.Was) (k : wt L ≤ 400) : Fine L where
  items := by have := wt_len L; omega
  few := by have := wt_pls L; omega
  fine p hp := by
    obtain ⟨x, hx, e, hm⟩ := (mem_pls L p.t p.m).1 hp
    obtain ⟨h1, -, h2⟩ := h x hx
    obtain ⟨h3, h4⟩ := h2 p.m hm
    have : 140737488351232 ≤ maxLen := by decide
    exact ⟨by rw [← e]; omega, by omega, h3⟩
theorem ok_in {L : List M} (h : ∀ x ∈ L, x.Was) : Ok L := fun m hm => ⟨(h m hm).1, Nat.le_trans (h m hm).2 (by decide)⟩
end BagLaw
end Go.Proofs.Ytnlbgjghckbbcaa
