/- The walk of DotsOrder: it answers true. -/
import Derived.Test.YtafelgmppmfcaaaDotPlain
import Derived.Deep.DeepCutAuto
import Derived.Laws.StructEq
namespace Go.Proofs.Ytafelgmppmfcaaa.DotsOrder
open Go.RowKit Go.Proofs.Ytafelgmppmfcaaa.Mark Go.Proofs.Ytafelgmppmfcaaa.Dots

theorem three_boxes (w : World) (a b c : M) (T : TypeId) :
    (((w.alloc (boxM a T)).alloc (boxM b T)).alloc (boxM c T)).cell? ⟨w.heap.size, 0, none⟩ = some (.string ⟨a.p.toArray⟩) ∧ (((w.alloc (boxM a T)).alloc (boxM b T)).alloc (boxM c T)).cell? ⟨w.heap.size, 1, none⟩ = some (.int .u64 (a.n : Int)) ∧
    (((w.alloc (boxM a T)).alloc (boxM b T)).alloc (boxM c T)).cell? ⟨w.heap.size + 1, 0, none⟩ = some (.string ⟨b.p.toArray⟩) ∧ (((w.alloc (boxM a T)).alloc (boxM b T)).alloc (boxM c T)).cell? ⟨w.heap.size + 1, 1, none⟩ = some (.int .u64 (b.n : Int)) ∧
    (((w.alloc (boxM a T)).alloc (boxM b T)).alloc (boxM c T)).cell? ⟨w.heap.size + 1 + 1, 0, none⟩ = some (.string ⟨c.p.toArray⟩) ∧ (((w.alloc (boxM a T)).alloc (boxM b T)).alloc (boxM c T)).cell? ⟨w.heap.size + 1 + 1, 1, none⟩ = some (.int .u64 (c.n : Int)) := by
  obtain ⟨x1, x2, x3, x4⟩ := two_boxes w a b T T
  obtain ⟨y1, y2⟩ := one_box ((w.alloc (boxM a T)).alloc (boxM b T)) c T
  rw [World.size_alloc, World.size_alloc] at y1 y2
  have k := balloc (Below.refl ((w.alloc (boxM a T)).alloc (boxM b T)).heap.size ((w.alloc (boxM a T)).alloc (boxM b T))) (boxM c T)
  exact ⟨Dots.keepC x1 k, Dots.keepC x2 k, Dots.keepC x3 k, Dots.keepC x4 k, y1, y2⟩

theorem cov_at {L K : List M} {r : Bool} (h : covB L K = r) : (∀ q, ofL K q ≤ ofL L q) ↔ r = true := h ▸ covB_iff L K

set_option maxRecDepth 100000 in
set_option maxHeartbeats 40000000 in
theorem walk (a0_0 : ByteArray) (a0_1 : Int) (a1_0 : ByteArray) (a1_1 : Int) (a2_0 : ByteArray) (a2_1 : Int) (a3 : Option Addr) (len3 cap3 : Nat) (a4 : Option Addr) (len4 cap4 : Nat) (a5 : Option Addr) (len5 cap5 : Nat) (w : World) (w0_0 : a0_0.size ≤ maxLen) (w0_1 : (Lit.int .u64 a0_1).wf = true) (w1_0 : a1_0.size ≤ maxLen) (w1_1 : (Lit.int .u64 a1_1).wf = true) (w2_0 : a2_0.size ≤ maxLen) (w2_1 : (Lit.int .u64 a2_1).wf = true) (w3 : Recs w [.str, .int .u64] a3 len3) (w4 : Recs w [.str, .int .u64] a4 len4) (w5 : Recs w [.str, .int .u64] a5 len5) :
    Calls Try.prog 7 #[.agg #[.string a0_0, .int .u64 a0_1], .agg #[.string a1_0, .int .u64 a1_1], .agg #[.string a2_0, .int .u64 a2_1], .slice a3 len3 cap3, .slice a4 len4 cap4, .slice a5 len5 cap5] w fun e w' => e = .returned (.bool true) ∧ Below w.heap.size w w' := by
  obtain ⟨A, lA, okA⟩ := recs_lies w3
  obtain ⟨B, lB, okB⟩ := recs_lies w4
  obtain ⟨C, lC, okC⟩ := recs_lies w5
  obtain ⟨⟨p, x⟩, hp, hx, b1⟩ := mark_of a0_0 a0_1 w0_1
  obtain ⟨⟨q, y⟩, hq, hy, b2⟩ := mark_of a1_0 a1_1 w1_1
  obtain ⟨⟨r, z⟩, hr, hz, b3⟩ := mark_of a2_0 a2_1 w2_1
  simp only at hp hx hq hy hr hz
  subst hp hx hq hy hr hz
  replace lA := Lib.hid lA
  replace lB := Lib.hid lB
  replace lC := Lib.hid lC
  replace okA := Lib.hid okA
  replace okB := Lib.hid okB
  replace okC := Lib.hid okC
  clear w0_0 w0_1 w1_0 w1_1 w2_0 w2_1 w3 w4 w5 b1 b2 b3
  have hb := Below.refl w.heap.size w
  have XB := three_boxes w ⟨p, x⟩ ⟨q, y⟩ ⟨r, z⟩ 25
  unfold boxM at XB
  replace XB := Lib.hid XB
  by_cases d1 : 100 < len3
  · have e1 := Lib.hid (decide_eq_true d1)
    go_enter Try.func7, Try.ntmps7
    go_wp2_with fail
    replace lA := Lib.hid ((lA.out).below (balloc (balloc (balloc (Below.refl _ _) (.cells #[.string ⟨p.toArray⟩, .int .u64 (x : Int)] 25)) (.cells #[.string ⟨q.toArray⟩, .int .u64 (y : Int)] 25)) (.cells #[.string ⟨r.toArray⟩, .int .u64 (z : Int)] 25)))
    replace lB := Lib.hid ((lB.out).below (balloc (balloc (balloc (Below.refl _ _) (.cells #[.string ⟨p.toArray⟩, .int .u64 (x : Int)] 25)) (.cells #[.string ⟨q.toArray⟩, .int .u64 (y : Int)] 25)) (.cells #[.string ⟨r.toArray⟩, .int .u64 (z : Int)] 25)))
    replace lC := Lib.hid ((lC.out).below (balloc (balloc (balloc (Below.refl _ _) (.cells #[.string ⟨p.toArray⟩, .int .u64 (x : Int)] 25)) (.cells #[.string ⟨q.toArray⟩, .int .u64 (y : Int)] 25)) (.cells #[.string ⟨r.toArray⟩, .int .u64 (z : Int)] 25)))
    replace hb := bstep hb (balloc (balloc (balloc (Below.refl _ _) (.cells #[.string ⟨p.toArray⟩, .int .u64 (x : Int)] 25)) (.cells #[.string ⟨q.toArray⟩, .int .u64 (y : Int)] 25)) (.cells #[.string ⟨r.toArray⟩, .int .u64 (z : Int)] 25))
    go_wp2_with fail
    refine (long_is true e1.out).mono ?_
    rintro e w1 ⟨rfl, rfl⟩
    go_wp2_with fail
    refine (alive_any _).mono ?_
    rintro e v2 ⟨rfl, k2⟩
    replace lA := Lib.hid ((lA.out).below k2)
    replace lB := Lib.hid ((lB.out).below k2)
    replace lC := Lib.hid ((lC.out).below k2)
    replace hb := bstep hb k2
    clear k2
    go_wp2
    go_ret
    exact ⟨rfl, hb⟩
  have e1 := Lib.hid (decide_eq_false d1)
  by_cases d2 : 100 < len4
  · have e2 := Lib.hid (decide_eq_true d2)
    go_enter Try.func7, Try.ntmps7
    go_wp2_with fail
    replace lA := Lib.hid ((lA.out).below (balloc (balloc (balloc (Below.refl _ _) (.cells #[.string ⟨p.toArray⟩, .int .u64 (x : Int)] 25)) (.cells #[.string ⟨q.toArray⟩, .int .u64 (y : Int)] 25)) (.cells #[.string ⟨r.toArray⟩, .int .u64 (z : Int)] 25)))
    replace lB := Lib.hid ((lB.out).below (balloc (balloc (balloc (Below.refl _ _) (.cells #[.string ⟨p.toArray⟩, .int .u64 (x : Int)] 25)) (.cells #[.string ⟨q.toArray⟩, .int .u64 (y : Int)] 25)) (.cells #[.string ⟨r.toArray⟩, .int .u64 (z : Int)] 25)))
    replace lC := Lib.hid ((lC.out).below (balloc (balloc (balloc (Below.refl _ _) (.cells #[.string ⟨p.toArray⟩, .int .u64 (x : Int)] 25)) (.cells #[.string ⟨q.toArray⟩, .int .u64 (y : Int)] 25)) (.cells #[.string ⟨r.toArray⟩, .int .u64 (z : Int)] 25)))
    replace hb := bstep hb (balloc (balloc (balloc (Below.refl _ _) (.cells #[.string ⟨p.toArray⟩, .int .u64 (x : Int)] 25)) (.cells #[.string ⟨q.toArray⟩, .int .u64 (y : Int)] 25)) (.cells #[.string ⟨r.toArray⟩, .int .u64 (z : Int)] 25))
    go_wp2_with fail
    refine (long_is false e1.out).mono ?_
    rintro e w3 ⟨rfl, rfl⟩
    go_wp2_with fail
    refine (long_is true e2.out).mono ?_
    rintro e w4 ⟨rfl, rfl⟩
    go_wp2_with fail
    refine (alive_any _).mono ?_
    rintro e v5 ⟨rfl, k5⟩
    replace lA := Lib.hid ((lA.out).below k5)
    replace lB := Lib.hid ((lB.out).below k5)
    replace lC := Lib.hid ((lC.out).below k5)
    replace hb := bstep hb k5
    clear k5
    go_wp2
    go_ret
    exact ⟨rfl, hb⟩
  have e2 := Lib.hid (decide_eq_false d2)
  by_cases d3 : 100 < len5
  · have e3 := Lib.hid (decide_eq_true d3)
    go_enter Try.func7, Try.ntmps7
    go_wp2_with fail
    replace lA := Lib.hid ((lA.out).below (balloc (balloc (balloc (Below.refl _ _) (.cells #[.string ⟨p.toArray⟩, .int .u64 (x : Int)] 25)) (.cells #[.string ⟨q.toArray⟩, .int .u64 (y : Int)] 25)) (.cells #[.string ⟨r.toArray⟩, .int .u64 (z : Int)] 25)))
    replace lB := Lib.hid ((lB.out).below (balloc (balloc (balloc (Below.refl _ _) (.cells #[.string ⟨p.toArray⟩, .int .u64 (x : Int)] 25)) (.cells #[.string ⟨q.toArray⟩, .int .u64 (y : Int)] 25)) (.cells #[.string ⟨r.toArray⟩, .int .u64 (z : Int)] 25)))
    replace lC := Lib.hid ((lC.out).below (balloc (balloc (balloc (Below.refl _ _) (.cells #[.string ⟨p.toArray⟩, .int .u64 (x : Int)] 25)) (.cells #[.string ⟨q.toArray⟩, .int .u64 (y : Int)] 25)) (.cells #[.string ⟨r.toArray⟩, .int .u64 (z : Int)] 25)))
    replace hb := bstep hb (balloc (balloc (balloc (Below.refl _ _) (.cells #[.string ⟨p.toArray⟩, .int .u64 (x : Int)] 25)) (.cells #[.string ⟨q.toArray⟩, .int .u64 (y : Int)] 25)) (.cells #[.string ⟨r.toArray⟩, .int .u64 (z : Int)] 25))
    go_wp2_with fail
    refine (long_is false e1.out).mono ?_
    rintro e w6 ⟨rfl, rfl⟩
    go_wp2_with fail
    refine (long_is false e2.out).mono ?_
    rintro e w7 ⟨rfl, rfl⟩
    go_wp2_with fail
    refine (long_is true e3.out).mono ?_
    rintro e w8 ⟨rfl, rfl⟩
    go_wp2_with fail
    refine (alive_any _).mono ?_
    rintro e v9 ⟨rfl, k9⟩
    replace lA := Lib.hid ((lA.out).below k9)
    replace lB := Lib.hid ((lB.out).below k9)
    replace lC := Lib.hid ((lC.out).below k9)
    replace hb := bstep hb k9
    clear k9
    go_wp2
    go_ret
    exact ⟨rfl, hb⟩
  have e3 := Lib.hid (decide_eq_false d3)
  have l0 : len3 ≤ 100 := by omega
  have l1 : len4 ≤ 100 := by omega
  have l2 : len5 ≤ 100 := by omega
  go_enter Try.func7, Try.ntmps7
  go_wp2_with fail
  replace lA := Lib.hid ((lA.out).below (balloc (balloc (balloc (Below.refl _ _) (.cells #[.string ⟨p.toArray⟩, .int .u64 (x : Int)] 25)) (.cells #[.string ⟨q.toArray⟩, .int .u64 (y : Int)] 25)) (.cells #[.string ⟨r.toArray⟩, .int .u64 (z : Int)] 25)))
  replace lB := Lib.hid ((lB.out).below (balloc (balloc (balloc (Below.refl _ _) (.cells #[.string ⟨p.toArray⟩, .int .u64 (x : Int)] 25)) (.cells #[.string ⟨q.toArray⟩, .int .u64 (y : Int)] 25)) (.cells #[.string ⟨r.toArray⟩, .int .u64 (z : Int)] 25)))
  replace lC := Lib.hid ((lC.out).below (balloc (balloc (balloc (Below.refl _ _) (.cells #[.string ⟨p.toArray⟩, .int .u64 (x : Int)] 25)) (.cells #[.string ⟨q.toArray⟩, .int .u64 (y : Int)] 25)) (.cells #[.string ⟨r.toArray⟩, .int .u64 (z : Int)] 25)))
  replace hb := bstep hb (balloc (balloc (balloc (Below.refl _ _) (.cells #[.string ⟨p.toArray⟩, .int .u64 (x : Int)] 25)) (.cells #[.string ⟨q.toArray⟩, .int .u64 (y : Int)] 25)) (.cells #[.string ⟨r.toArray⟩, .int .u64 (z : Int)] 25))
  obtain ⟨x1, x2, x3, x4, x5, x6⟩ := XB.out
  go_wp2_with fail
  refine (long_is false e1.out).mono ?_
  rintro e w10 ⟨rfl, rfl⟩
  go_wp2_with fail
  refine (long_is false e2.out).mono ?_
  rintro e w11 ⟨rfl, rfl⟩
  go_wp2_with fail
  refine (long_is false e3.out).mono ?_
  rintro e w12 ⟨rfl, rfl⟩
  clear e1 e2 e3 d1 d2 d3 XB
  go_upto_region 3 with fail
  go_cut [59] (fun s wx => s = .bool false ∧ Below w.heap.size w wx ∧ Lies wx a3 len3 A ∧ Lies wx a4 len4 B ∧ Lies wx a5 len5 C ∧ wx.cell? ⟨w.heap.size, 0, none⟩ = some (.string ⟨p.toArray⟩) ∧ wx.cell? ⟨w.heap.size, 1, none⟩ = some (.int .u64 (x : Int)) ∧ wx.cell? ⟨w.heap.size + 1, 0, none⟩ = some (.string ⟨q.toArray⟩) ∧ wx.cell? ⟨w.heap.size + 1, 1, none⟩ = some (.int .u64 (y : Int)) ∧ wx.cell? ⟨w.heap.size + 1 + 1, 0, none⟩ = some (.string ⟨r.toArray⟩) ∧ wx.cell? ⟨w.heap.size + 1 + 1, 1, none⟩ = some (.int .u64 (z : Int)))
  case first =>
    have fl := cmpD_flip ⟨q, y⟩ ⟨p, x⟩
    have z1 : IntKind.i64.wrap (-1) = -1 := by decide
    have z2 : IntKind.i64.wrap 1 = 1 := by decide
    have z3 : IntKind.i64.wrap 0 = 0 := by decide
    rcases cmpD_ways3 ⟨p, x⟩ ⟨q, y⟩ with h1 | ⟨h1, h2⟩ | ⟨h1, h2⟩ <;> rw [h1] at fl <;> replace fl := Lib.hid fl
    · have hE := RefDots.eql_dot ⟨p, x⟩ ⟨q, y⟩
      rw [decide_eq_false (cmpD_ne h1)] at hE
      dsimp only at hE
      have h3 := @cmpD_trans ⟨p, x⟩ ⟨q, y⟩ ⟨r, z⟩ h1
      replace h3 := Lib.hid h3
      rcases cmpD_ways3 ⟨q, y⟩ ⟨r, z⟩ with h4 | ⟨h4, h5⟩ | ⟨h4, h5⟩
      · skip
        refine wp_region_noPanic ?_
        refine wp_region_held_drew (S := (fun w' => Below w.heap.size w w' ∧ Lies w' a3 len3 A ∧ Lies w' a4 len4 B ∧ Lies w' a5 len5 C ∧ w'.cell? ⟨w.heap.size, 0, none⟩ = some (.string ⟨p.toArray⟩) ∧ w'.cell? ⟨w.heap.size, 1, none⟩ = some (.int .u64 (x : Int)) ∧ w'.cell? ⟨w.heap.size + 1, 0, none⟩ = some (.string ⟨q.toArray⟩) ∧ w'.cell? ⟨w.heap.size + 1, 1, none⟩ = some (.int .u64 (y : Int)) ∧ w'.cell? ⟨w.heap.size + 1 + 1, 0, none⟩ = some (.string ⟨r.toArray⟩) ∧ w'.cell? ⟨w.heap.size + 1 + 1, 1, none⟩ = some (.int .u64 (z : Int)))) (by kernel_rfl) (⟨Below.drew hb, (lA.out).below (Below.drew (Below.refl _ _)), (lB.out).below (Below.drew (Below.refl _ _)), (lC.out).below (Below.drew (Below.refl _ _)), Dots.keepC x1 (Below.drew (Below.refl _ _)), Dots.keepC x2 (Below.drew (Below.refl _ _)), Dots.keepC x3 (Below.drew (Below.refl _ _)), Dots.keepC x4 (Below.drew (Below.refl _ _)), Dots.keepC x5 (Below.drew (Below.refl _ _)), Dots.keepC x6 (Below.drew (Below.refl _ _))⟩) (fun hHeld => ?_)
        refine wpAnyH_take (i := 0) (v := ?_) (by simp only [List.getElem?_toArray, List.getElem?_cons_zero]; rfl) (by kernel_rfl) (by kernel_rfl) (by kernel_rfl) (fun _ _ _ h => h) (Or.inl ⟨by rfl, ?_⟩) (by assumption) ?_
        rotate_left
        · (intro w hSw; (try dsimp only at hSw); go_simp; try with_reducible rfl)
        try simp only [Act.put, List.setIfInBounds_toArray, List.set_cons_zero, List.set_cons_succ]
        refine wpAnyH_take (i := 1) (v := ?_) (by simp only [List.getElem?_toArray, List.getElem?_cons_succ, List.getElem?_cons_zero]; rfl) (by kernel_rfl) (by kernel_rfl) (by kernel_rfl) (fun _ _ _ h => h) (Or.inl ⟨by rfl, ?_⟩) (by assumption) ?_
        rotate_left
        · (intro w hSw; (try dsimp only at hSw); go_simp; try with_reducible rfl)
        try simp only [Act.put, List.setIfInBounds_toArray, List.set_cons_zero, List.set_cons_succ]
        refine wpAnyH_take (i := 3) (v := ?_) (by simp only [List.getElem?_toArray, List.getElem?_cons_succ, List.getElem?_cons_zero]; rfl) (by kernel_rfl) (by kernel_rfl) (by kernel_rfl) (fun _ _ _ h => h) (Or.inl ⟨by rfl, ?_⟩) (by assumption) ?_
        rotate_left
        · (intro w hSw; (try dsimp only at hSw); go_simp; try with_reducible rfl)
        try simp only [Act.put, List.setIfInBounds_toArray, List.set_cons_zero, List.set_cons_succ]
        refine wpAnyH_take (i := 4) (v := ?_) (by simp only [List.getElem?_toArray, List.getElem?_cons_succ, List.getElem?_cons_zero]; rfl) (by kernel_rfl) (by kernel_rfl) (by kernel_rfl) (fun _ _ _ h => h) (Or.inl ⟨by rfl, ?_⟩) (by assumption) ?_
        rotate_left
        · (intro w hSw; (try dsimp only at hSw); go_simp; try with_reducible rfl)
        try simp only [Act.put, List.setIfInBounds_toArray, List.set_cons_zero, List.set_cons_succ]
        refine wpAnyH_ready (rs := [2]) (by kernel_rfl) (by simp) ?_
        refine AllReadyH.cons (by simp only [List.getElem?_toArray, List.getElem?_cons_succ, List.getElem?_cons_zero]; rfl) (fun K hK => ?_) AllReadyH.nil
        go_simp
        go_at_call 15
        refine (cmp_is (-1) h1 _).mono ?_
        rintro e v13 ⟨rfl, k13⟩
        go_wp2_with fail
        refine hK.out _ _ (⟨bstep hHeld.1 k13, (hHeld.2.1).below k13, (hHeld.2.2.1).below k13, (hHeld.2.2.2.1).below k13, Dots.keepC hHeld.2.2.2.2.1 k13, Dots.keepC hHeld.2.2.2.2.2.1 k13, Dots.keepC hHeld.2.2.2.2.2.2.1 k13, Dots.keepC hHeld.2.2.2.2.2.2.2.1 k13, Dots.keepC hHeld.2.2.2.2.2.2.2.2.1 k13, Dots.keepC hHeld.2.2.2.2.2.2.2.2.2 k13⟩) (fun hHeld => ?_)
        clear hK K k13
        try simp only [Act.put, List.setIfInBounds_toArray, List.set_cons_zero, List.set_cons_succ]
        refine wpAnyH_ready (rs := [5]) (by kernel_rfl) (by simp) ?_
        refine AllReadyH.cons (by simp only [List.getElem?_toArray, List.getElem?_cons_succ, List.getElem?_cons_zero]; rfl) (fun K hK => ?_) AllReadyH.nil
        go_simp
        go_at_call 15
        refine (cmp_is 1 fl.out _).mono ?_
        rintro e v14 ⟨rfl, k14⟩
        go_wp2_with fail
        refine hK.out _ _ (⟨bstep hHeld.1 k14, (hHeld.2.1).below k14, (hHeld.2.2.1).below k14, (hHeld.2.2.2.1).below k14, Dots.keepC hHeld.2.2.2.2.1 k14, Dots.keepC hHeld.2.2.2.2.2.1 k14, Dots.keepC hHeld.2.2.2.2.2.2.1 k14, Dots.keepC hHeld.2.2.2.2.2.2.2.1 k14, Dots.keepC hHeld.2.2.2.2.2.2.2.2.1 k14, Dots.keepC hHeld.2.2.2.2.2.2.2.2.2 k14⟩) (fun hHeld => ?_)
        clear hK K k14
        try simp only [Act.put, List.setIfInBounds_toArray, List.set_cons_zero, List.set_cons_succ]
        refine wpAnyH_take (i := 6) (v := ?_) (by simp only [List.getElem?_toArray, List.getElem?_cons_succ, List.getElem?_cons_zero]; rfl) (by kernel_rfl) (by kernel_rfl) (by kernel_rfl) (fun _ _ _ h => h) (Or.inl ⟨by rfl, ?_⟩) (by assumption) ?_
        rotate_left
        · (intro w hSw; (try dsimp only at hSw); go_simp; try with_reducible rfl)
        try simp only [Act.put, List.setIfInBounds_toArray, List.set_cons_zero, List.set_cons_succ]
        refine wpAnyH_take (i := 7) (v := ?_) (by simp only [List.getElem?_toArray, List.getElem?_cons_succ, List.getElem?_cons_zero]; rfl) (by kernel_rfl) (by kernel_rfl) (by kernel_rfl) (fun _ _ _ h => h) (Or.inl ⟨by rfl, ?_⟩) (by assumption) ?_
        rotate_left
        · (intro w hSw; (try dsimp only at hSw); go_simp; try with_reducible rfl)
        try simp only [Act.put, List.setIfInBounds_toArray, List.set_cons_zero, List.set_cons_succ]
        refine wpAnyH_take (i := 8) (v := ?_) (by simp only [List.getElem?_toArray, List.getElem?_cons_succ, List.getElem?_cons_zero]; rfl) (by kernel_rfl) (by kernel_rfl) (by kernel_rfl) (fun _ _ _ h => h) (Or.inl ⟨by rfl, ?_⟩) (by assumption) ?_
        rotate_left
        · (intro w hSw; (try dsimp only at hSw); go_simp; try with_reducible rfl)
        try simp only [Act.put, List.setIfInBounds_toArray, List.set_cons_zero, List.set_cons_succ]
        refine wpAnyH_take (i := 9) (v := ?_) (by simp only [List.getElem?_toArray, List.getElem?_cons_succ, List.getElem?_cons_zero]; rfl) (by kernel_rfl) (by kernel_rfl) (by kernel_rfl) (fun _ _ _ h => h) (Or.inl ⟨by rfl, ?_⟩) (by assumption) ?_
        rotate_left
        · (intro w hSw; (try dsimp only at hSw); go_simp; try with_reducible rfl)
        try simp only [Act.put, List.setIfInBounds_toArray, List.set_cons_zero, List.set_cons_succ]
        refine wpAnyH_take (i := 10) (v := ?_) (by simp only [List.getElem?_toArray, List.getElem?_cons_succ, List.getElem?_cons_zero]; rfl) (by kernel_rfl) (by kernel_rfl) (by kernel_rfl) (fun _ _ _ h => h) (Or.inl ⟨by rfl, ?_⟩) (by assumption) ?_
        rotate_left
        · (intro w hSw; (try dsimp only at hSw); go_simp; try with_reducible rfl)
        try simp only [Act.put, List.setIfInBounds_toArray, List.set_cons_zero, List.set_cons_succ]
        refine wpAnyH_take (i := 13) (v := ?_) (by simp only [List.getElem?_toArray, List.getElem?_cons_succ, List.getElem?_cons_zero]; rfl) (by kernel_rfl) (by kernel_rfl) (by kernel_rfl) (fun _ _ _ h => h) (Or.inl ⟨by rfl, ?_⟩) (by assumption) ?_
        rotate_left
        · (intro w hSw; (try dsimp only at hSw); go_simp; try with_reducible rfl)
        try simp only [Act.put, List.setIfInBounds_toArray, List.set_cons_zero, List.set_cons_succ]
        refine wpAnyH_take (i := 14) (v := ?_) (by simp only [List.getElem?_toArray, List.getElem?_cons_succ, List.getElem?_cons_zero]; rfl) (by kernel_rfl) (by kernel_rfl) (by kernel_rfl) (fun _ _ _ h => h) (Or.inl ⟨by rfl, ?_⟩) (by assumption) ?_
        rotate_left
        · (intro w hSw; (try dsimp only at hSw); go_simp; try with_reducible rfl)
        try simp only [Act.put, List.setIfInBounds_toArray, List.set_cons_zero, List.set_cons_succ]
        refine wpAnyH_take (i := 15) (v := ?_) (by simp only [List.getElem?_toArray, List.getElem?_cons_succ, List.getElem?_cons_zero]; rfl) (by kernel_rfl) (by kernel_rfl) (by kernel_rfl) (fun _ _ _ h => h) (Or.inl ⟨by rfl, ?_⟩) (by assumption) ?_
        rotate_left
        · (intro w hSw; (try dsimp only at hSw); go_simp; try with_reducible rfl)
        try simp only [Act.put, List.setIfInBounds_toArray, List.set_cons_zero, List.set_cons_succ]
        refine wpAnyH_ready (rs := [11]) (by kernel_rfl) (by simp) ?_
        refine AllReadyH.cons (by simp only [List.getElem?_toArray, List.getElem?_cons_succ, List.getElem?_cons_zero]; rfl) (fun K hK => ?_) AllReadyH.nil
        go_simp
        go_at_call 15
        refine (cmp_is (-1) h1 _).mono ?_
        rintro e v15 ⟨rfl, k15⟩
        go_wp2_with fail
        refine hK.out _ _ (⟨bstep hHeld.1 k15, (hHeld.2.1).below k15, (hHeld.2.2.1).below k15, (hHeld.2.2.2.1).below k15, Dots.keepC hHeld.2.2.2.2.1 k15, Dots.keepC hHeld.2.2.2.2.2.1 k15, Dots.keepC hHeld.2.2.2.2.2.2.1 k15, Dots.keepC hHeld.2.2.2.2.2.2.2.1 k15, Dots.keepC hHeld.2.2.2.2.2.2.2.2.1 k15, Dots.keepC hHeld.2.2.2.2.2.2.2.2.2 k15⟩) (fun hHeld => ?_)
        clear hK K k15
        try simp only [Act.put, List.setIfInBounds_toArray, List.set_cons_zero, List.set_cons_succ]
        refine wpAnyH_take (i := 12) (v := ?_) (by simp only [List.getElem?_toArray, List.getElem?_cons_succ, List.getElem?_cons_zero]; rfl) (by kernel_rfl) (by kernel_rfl) (by kernel_rfl) (fun _ _ _ h => h) (Or.inl ⟨by rfl, ?_⟩) (by assumption) ?_
        rotate_left
        · (intro w hSw; (try dsimp only at hSw); go_simp; try with_reducible rfl)
        try simp only [Act.put, List.setIfInBounds_toArray, List.set_cons_zero, List.set_cons_succ]
        refine wpAnyH_take (i := 16) (v := ?_) (by simp only [List.getElem?_toArray, List.getElem?_cons_succ, List.getElem?_cons_zero]; rfl) (by kernel_rfl) (by kernel_rfl) (by kernel_rfl) (fun _ _ _ h => h) (Or.inl ⟨by rfl, ?_⟩) (by assumption) ?_
        rotate_left
        · (intro w hSw; (try dsimp only at hSw); go_simp; try with_reducible rfl)
        try simp only [Act.put, List.setIfInBounds_toArray, List.set_cons_zero, List.set_cons_succ]
        refine wpAnyH_take (i := 17) (v := ?_) (by simp only [List.getElem?_toArray, List.getElem?_cons_succ, List.getElem?_cons_zero]; rfl) (by kernel_rfl) (by kernel_rfl) (by kernel_rfl) (fun _ _ _ h => h) (Or.inl ⟨by rfl, ?_⟩) (by assumption) ?_
        rotate_left
        · (intro w hSw; (try dsimp only at hSw); go_simp; try with_reducible rfl)
        try simp only [Act.put, List.setIfInBounds_toArray, List.set_cons_zero, List.set_cons_succ]
        refine wpAnyH_take (i := 18) (v := ?_) (by simp only [List.getElem?_toArray, List.getElem?_cons_succ, List.getElem?_cons_zero]; rfl) (by kernel_rfl) (by kernel_rfl) (by kernel_rfl) (fun _ _ _ h => h) (Or.inl ⟨by rfl, ?_⟩) (by assumption) ?_
        rotate_left
        · (intro w hSw; (try dsimp only at hSw); go_simp; try with_reducible rfl)
        try simp only [Act.put, List.setIfInBounds_toArray, List.set_cons_zero, List.set_cons_succ]
        refine wpAnyH_take (i := 19) (v := ?_) (by simp only [List.getElem?_toArray, List.getElem?_cons_succ, List.getElem?_cons_zero]; rfl) (by kernel_rfl) (by kernel_rfl) (by kernel_rfl) (fun _ _ _ h => h) (Or.inl ⟨by rfl, ?_⟩) (by assumption) ?_
        rotate_left
        · (intro w hSw; (try dsimp only at hSw); go_simp; try with_reducible rfl)
        try simp only [Act.put, List.setIfInBounds_toArray, List.set_cons_zero, List.set_cons_succ]
        refine wpAnyH_take (i := 20) (v := ?_) (by simp only [List.getElem?_toArray, List.getElem?_cons_succ, List.getElem?_cons_zero]; rfl) (by kernel_rfl) (by kernel_rfl) (by kernel_rfl) (fun _ _ _ h => h) (Or.inl ⟨by rfl, ?_⟩) (by assumption) ?_
        rotate_left
        · (intro w hSw; (try dsimp only at hSw); go_simp; try with_reducible rfl)
        try simp only [Act.put, List.setIfInBounds_toArray, List.set_cons_zero, List.set_cons_succ]
        refine wpAnyH_ready (rs := [21]) (by kernel_rfl) (by simp) ?_
        refine AllReadyH.cons (by simp only [List.getElem?_toArray, List.getElem?_cons_succ, List.getElem?_cons_zero]; rfl) (fun K hK => ?_) AllReadyH.nil
        go_simp
        go_at_call 15
        refine (cmp_is (-1) h1 _).mono ?_
        rintro e v16 ⟨rfl, k16⟩
        go_wp2_with fail
        refine hK.out _ _ (⟨bstep hHeld.1 k16, (hHeld.2.1).below k16, (hHeld.2.2.1).below k16, (hHeld.2.2.2.1).below k16, Dots.keepC hHeld.2.2.2.2.1 k16, Dots.keepC hHeld.2.2.2.2.2.1 k16, Dots.keepC hHeld.2.2.2.2.2.2.1 k16, Dots.keepC hHeld.2.2.2.2.2.2.2.1 k16, Dots.keepC hHeld.2.2.2.2.2.2.2.2.1 k16, Dots.keepC hHeld.2.2.2.2.2.2.2.2.2 k16⟩) (fun hHeld => ?_)
        clear hK K k16
        try simp only [Act.put, List.setIfInBounds_toArray, List.set_cons_zero, List.set_cons_succ]
        refine wpAnyH_take (i := 22) (v := ?_) (by simp only [List.getElem?_toArray, List.getElem?_cons_succ, List.getElem?_cons_zero]; rfl) (by kernel_rfl) (by kernel_rfl) (by kernel_rfl) (fun _ _ _ h => h) (Or.inl ⟨by rfl, ?_⟩) (by assumption) ?_
        rotate_left
        · (intro w hSw; (try dsimp only at hSw); go_simp; try with_reducible rfl)
        try simp only [Act.put, List.setIfInBounds_toArray, List.set_cons_zero, List.set_cons_succ]
        refine wpAnyH_take (i := 23) (v := ?_) (by simp only [List.getElem?_toArray, List.getElem?_cons_succ, List.getElem?_cons_zero]; rfl) (by kernel_rfl) (by kernel_rfl) (by kernel_rfl) (fun _ _ _ h => h) (Or.inl ⟨by rfl, ?_⟩) (by assumption) ?_
        rotate_left
        · (intro w hSw; (try dsimp only at hSw); go_simp; try with_reducible rfl)
        try simp only [Act.put, List.setIfInBounds_toArray, List.set_cons_zero, List.set_cons_succ]
        refine wpAnyH_take (i := 24) (v := ?_) (by simp only [List.getElem?_toArray, List.getElem?_cons_succ, List.getElem?_cons_zero]; rfl) (by kernel_rfl) (by kernel_rfl) (by kernel_rfl) (fun _ _ _ h => h) (Or.inl ⟨by rfl, ?_⟩) (by assumption) ?_
        rotate_left
        · (intro w hSw; (try dsimp only at hSw); go_simp; try with_reducible rfl)
        try simp only [Act.put, List.setIfInBounds_toArray, List.set_cons_zero, List.set_cons_succ]
        refine wpAnyH_take (i := 25) (v := ?_) (by simp only [List.getElem?_toArray, List.getElem?_cons_succ, List.getElem?_cons_zero]; rfl) (by kernel_rfl) (by kernel_rfl) (by kernel_rfl) (fun _ _ _ h => h) (Or.inl ⟨by rfl, ?_⟩) (by assumption) ?_
        rotate_left
        · (intro w hSw; (try dsimp only at hSw); go_simp; try with_reducible rfl)
        try simp only [Act.put, List.setIfInBounds_toArray, List.set_cons_zero, List.set_cons_succ]
        refine wpAnyH_ready (rs := [26]) (by kernel_rfl) (by simp) ?_
        refine AllReadyH.cons (by simp only [List.getElem?_toArray, List.getElem?_cons_succ, List.getElem?_cons_zero]; rfl) (fun K hK => ?_) AllReadyH.nil
        go_simp
        go_at_call 15
        refine (cmp_is (-1) h4 _).mono ?_
        rintro e v17 ⟨rfl, k17⟩
        go_wp2_with fail
        refine hK.out _ _ (⟨bstep hHeld.1 k17, (hHeld.2.1).below k17, (hHeld.2.2.1).below k17, (hHeld.2.2.2.1).below k17, Dots.keepC hHeld.2.2.2.2.1 k17, Dots.keepC hHeld.2.2.2.2.2.1 k17, Dots.keepC hHeld.2.2.2.2.2.2.1 k17, Dots.keepC hHeld.2.2.2.2.2.2.2.1 k17, Dots.keepC hHeld.2.2.2.2.2.2.2.2.1 k17, Dots.keepC hHeld.2.2.2.2.2.2.2.2.2 k17⟩) (fun hHeld => ?_)
        clear hK K k17
        try simp only [Act.put, List.setIfInBounds_toArray, List.set_cons_zero, List.set_cons_succ]
        refine wpAnyH_take (i := 27) (v := ?_) (by simp only [List.getElem?_toArray, List.getElem?_cons_succ, List.getElem?_cons_zero]; rfl) (by kernel_rfl) (by kernel_rfl) (by kernel_rfl) (fun _ _ _ h => h) (Or.inl ⟨by rfl, ?_⟩) (by assumption) ?_
        rotate_left
        · (intro w hSw; (try dsimp only at hSw); go_simp; try with_reducible rfl)
        try simp only [Act.put, List.setIfInBounds_toArray, List.set_cons_zero, List.set_cons_succ]
        refine wpAnyH_take (i := 28) (v := ?_) (by simp only [List.getElem?_toArray, List.getElem?_cons_succ, List.getElem?_cons_zero]; rfl) (by kernel_rfl) (by kernel_rfl) (by kernel_rfl) (fun _ _ _ h => h) (Or.inl ⟨by rfl, ?_⟩) (by assumption) ?_
        rotate_left
        · (intro w hSw; (try dsimp only at hSw); go_simp; try with_reducible rfl)
        try simp only [Act.put, List.setIfInBounds_toArray, List.set_cons_zero, List.set_cons_succ]
        refine wpAnyH_take (i := 29) (v := ?_) (by simp only [List.getElem?_toArray, List.getElem?_cons_succ, List.getElem?_cons_zero]; rfl) (by kernel_rfl) (by kernel_rfl) (by kernel_rfl) (fun _ _ _ h => h) (Or.inl ⟨by rfl, ?_⟩) (by assumption) ?_
        rotate_left
        · (intro w hSw; (try dsimp only at hSw); go_simp; try with_reducible rfl)
        try simp only [Act.put, List.setIfInBounds_toArray, List.set_cons_zero, List.set_cons_succ]
        refine wpAnyH_take (i := 30) (v := ?_) (by simp only [List.getElem?_toArray, List.getElem?_cons_succ, List.getElem?_cons_zero]; rfl) (by kernel_rfl) (by kernel_rfl) (by kernel_rfl) (fun _ _ _ h => h) (Or.inl ⟨by rfl, ?_⟩) (by assumption) ?_
        rotate_left
        · (intro w hSw; (try dsimp only at hSw); go_simp; try with_reducible rfl)
        try simp only [Act.put, List.setIfInBounds_toArray, List.set_cons_zero, List.set_cons_succ]
        refine wpAnyH_take (i := 31) (v := ?_) (by simp only [List.getElem?_toArray, List.getElem?_cons_succ, List.getElem?_cons_zero]; rfl) (by kernel_rfl) (by kernel_rfl) (by kernel_rfl) (fun _ _ _ h => h) (Or.inl ⟨by rfl, ?_⟩) (by assumption) ?_
        rotate_left
        · (intro w hSw; (try dsimp only at hSw); go_simp; try with_reducible rfl)
        try simp only [Act.put, List.setIfInBounds_toArray, List.set_cons_zero, List.set_cons_succ]
        refine wpAnyH_ready (rs := [32]) (by kernel_rfl) (by simp) ?_
        refine AllReadyH.cons (by simp only [List.getElem?_toArray, List.getElem?_cons_succ, List.getElem?_cons_zero]; rfl) (fun K hK => ?_) AllReadyH.nil
        go_simp
        go_at_call 15
        refine (cmp_is (-1) (h3.out h4) _).mono ?_
        rintro e v18 ⟨rfl, k18⟩
        go_wp2_with fail
        refine hK.out _ _ (⟨bstep hHeld.1 k18, (hHeld.2.1).below k18, (hHeld.2.2.1).below k18, (hHeld.2.2.2.1).below k18, Dots.keepC hHeld.2.2.2.2.1 k18, Dots.keepC hHeld.2.2.2.2.2.1 k18, Dots.keepC hHeld.2.2.2.2.2.2.1 k18, Dots.keepC hHeld.2.2.2.2.2.2.2.1 k18, Dots.keepC hHeld.2.2.2.2.2.2.2.2.1 k18, Dots.keepC hHeld.2.2.2.2.2.2.2.2.2 k18⟩) (fun hHeld => ?_)
        clear hK K k18
        try simp only [Act.put, List.setIfInBounds_toArray, List.set_cons_zero, List.set_cons_succ]
        refine wpAnyH_take (i := 33) (v := ?_) (by simp only [List.getElem?_toArray, List.getElem?_cons_succ, List.getElem?_cons_zero]; rfl) (by kernel_rfl) (by kernel_rfl) (by kernel_rfl) (fun _ _ _ h => h) (Or.inl ⟨by rfl, ?_⟩) (by assumption) ?_
        rotate_left
        · (intro w hSw; (try dsimp only at hSw); go_simp; try with_reducible rfl)
        try simp only [Act.put, List.setIfInBounds_toArray, List.set_cons_zero, List.set_cons_succ]
        refine wpAnyH_take (i := 34) (v := ?_) (by simp only [List.getElem?_toArray, List.getElem?_cons_succ, List.getElem?_cons_zero]; rfl) (by kernel_rfl) (by kernel_rfl) (by kernel_rfl) (fun _ _ _ h => h) (Or.inl ⟨by rfl, ?_⟩) (by assumption) ?_
        rotate_left
        · (intro w hSw; (try dsimp only at hSw); go_simp; try with_reducible rfl)
        try simp only [Act.put, List.setIfInBounds_toArray, List.set_cons_zero, List.set_cons_succ]
        refine wpAnyH_take (i := 35) (v := ?_) (by simp only [List.getElem?_toArray, List.getElem?_cons_succ, List.getElem?_cons_zero]; rfl) (by kernel_rfl) (by kernel_rfl) (by kernel_rfl) (fun _ _ _ h => h) (Or.inl ⟨by rfl, ?_⟩) (by assumption) ?_
        rotate_left
        · (intro w hSw; (try dsimp only at hSw); go_simp; try with_reducible rfl)
        try simp only [Act.put, List.setIfInBounds_toArray, List.set_cons_zero, List.set_cons_succ]
        refine wpAnyH_done (by kernel_rfl) ?_ _
        refine NoPanic.normal ?_
        clear hb lA lB lC x1 x2 x3 x4 x5 x6
        obtain ⟨hb, lA, lB, lC, x1, x2, x3, x4, x5, x6⟩ := hHeld
        replace lA := Lib.hid lA
        replace lB := Lib.hid lB
        replace lC := Lib.hid lC
        go_wp2_with fail
        go_meet
        exact ⟨rfl, hb, lA.out, lB.out, lC.out, x1, x2, x3, x4, x5, x6⟩
      · clear h5
        refine wp_region_noPanic ?_
        refine wp_region_held_drew (S := (fun w' => Below w.heap.size w w' ∧ Lies w' a3 len3 A ∧ Lies w' a4 len4 B ∧ Lies w' a5 len5 C ∧ w'.cell? ⟨w.heap.size, 0, none⟩ = some (.string ⟨p.toArray⟩) ∧ w'.cell? ⟨w.heap.size, 1, none⟩ = some (.int .u64 (x : Int)) ∧ w'.cell? ⟨w.heap.size + 1, 0, none⟩ = some (.string ⟨q.toArray⟩) ∧ w'.cell? ⟨w.heap.size + 1, 1, none⟩ = some (.int .u64 (y : Int)) ∧ w'.cell? ⟨w.heap.size + 1 + 1, 0, none⟩ = some (.string ⟨r.toArray⟩) ∧ w'.cell? ⟨w.heap.size + 1 + 1, 1, none⟩ = some (.int .u64 (z : Int)))) (by kernel_rfl) (⟨Below.drew hb, (lA.out).below (Below.drew (Below.refl _ _)), (lB.out).below (Below.drew (Below.refl _ _)), (lC.out).below (Below.drew (Below.refl _ _)), Dots.keepC x1 (Below.drew (Below.refl _ _)), Dots.keepC x2 (Below.drew (Below.refl _ _)), Dots.keepC x3 (Below.drew (Below.refl _ _)), Dots.keepC x4 (Below.drew (Below.refl _ _)), Dots.keepC x5 (Below.drew (Below.refl _ _)), Dots.keepC x6 (Below.drew (Below.refl _ _))⟩) (fun hHeld => ?_)
        refine wpAnyH_take (i := 0) (v := ?_) (by simp only [List.getElem?_toArray, List.getElem?_cons_zero]; rfl) (by kernel_rfl) (by kernel_rfl) (by kernel_rfl) (fun _ _ _ h => h) (Or.inl ⟨by rfl, ?_⟩) (by assumption) ?_
        rotate_left
        · (intro w hSw; (try dsimp only at hSw); go_simp; try with_reducible rfl)
        try simp only [Act.put, List.setIfInBounds_toArray, List.set_cons_zero, List.set_cons_succ]
        refine wpAnyH_take (i := 1) (v := ?_) (by simp only [List.getElem?_toArray, List.getElem?_cons_succ, List.getElem?_cons_zero]; rfl) (by kernel_rfl) (by kernel_rfl) (by kernel_rfl) (fun _ _ _ h => h) (Or.inl ⟨by rfl, ?_⟩) (by assumption) ?_
        rotate_left
        · (intro w hSw; (try dsimp only at hSw); go_simp; try with_reducible rfl)
        try simp only [Act.put, List.setIfInBounds_toArray, List.set_cons_zero, List.set_cons_succ]
        refine wpAnyH_take (i := 3) (v := ?_) (by simp only [List.getElem?_toArray, List.getElem?_cons_succ, List.getElem?_cons_zero]; rfl) (by kernel_rfl) (by kernel_rfl) (by kernel_rfl) (fun _ _ _ h => h) (Or.inl ⟨by rfl, ?_⟩) (by assumption) ?_
        rotate_left
        · (intro w hSw; (try dsimp only at hSw); go_simp; try with_reducible rfl)
        try simp only [Act.put, List.setIfInBounds_toArray, List.set_cons_zero, List.set_cons_succ]
        refine wpAnyH_take (i := 4) (v := ?_) (by simp only [List.getElem?_toArray, List.getElem?_cons_succ, List.getElem?_cons_zero]; rfl) (by kernel_rfl) (by kernel_rfl) (by kernel_rfl) (fun _ _ _ h => h) (Or.inl ⟨by rfl, ?_⟩) (by assumption) ?_
        rotate_left
        · (intro w hSw; (try dsimp only at hSw); go_simp; try with_reducible rfl)
        try simp only [Act.put, List.setIfInBounds_toArray, List.set_cons_zero, List.set_cons_succ]
        refine wpAnyH_ready (rs := [2]) (by kernel_rfl) (by simp) ?_
        refine AllReadyH.cons (by simp only [List.getElem?_toArray, List.getElem?_cons_succ, List.getElem?_cons_zero]; rfl) (fun K hK => ?_) AllReadyH.nil
        go_simp
        go_at_call 15
        refine (cmp_is (-1) h1 _).mono ?_
        rintro e v19 ⟨rfl, k19⟩
        go_wp2_with fail
        refine hK.out _ _ (⟨bstep hHeld.1 k19, (hHeld.2.1).below k19, (hHeld.2.2.1).below k19, (hHeld.2.2.2.1).below k19, Dots.keepC hHeld.2.2.2.2.1 k19, Dots.keepC hHeld.2.2.2.2.2.1 k19, Dots.keepC hHeld.2.2.2.2.2.2.1 k19, Dots.keepC hHeld.2.2.2.2.2.2.2.1 k19, Dots.keepC hHeld.2.2.2.2.2.2.2.2.1 k19, Dots.keepC hHeld.2.2.2.2.2.2.2.2.2 k19⟩) (fun hHeld => ?_)
        clear hK K k19
        try simp only [Act.put, List.setIfInBounds_toArray, List.set_cons_zero, List.set_cons_succ]
        refine wpAnyH_ready (rs := [5]) (by kernel_rfl) (by simp) ?_
        refine AllReadyH.cons (by simp only [List.getElem?_toArray, List.getElem?_cons_succ, List.getElem?_cons_zero]; rfl) (fun K hK => ?_) AllReadyH.nil
        go_simp
        go_at_call 15
        refine (cmp_is 1 fl.out _).mono ?_
        rintro e v20 ⟨rfl, k20⟩
        go_wp2_with fail
        refine hK.out _ _ (⟨bstep hHeld.1 k20, (hHeld.2.1).below k20, (hHeld.2.2.1).below k20, (hHeld.2.2.2.1).below k20, Dots.keepC hHeld.2.2.2.2.1 k20, Dots.keepC hHeld.2.2.2.2.2.1 k20, Dots.keepC hHeld.2.2.2.2.2.2.1 k20, Dots.keepC hHeld.2.2.2.2.2.2.2.1 k20, Dots.keepC hHeld.2.2.2.2.2.2.2.2.1 k20, Dots.keepC hHeld.2.2.2.2.2.2.2.2.2 k20⟩) (fun hHeld => ?_)
        clear hK K k20
        try simp only [Act.put, List.setIfInBounds_toArray, List.set_cons_zero, List.set_cons_succ]
        refine wpAnyH_take (i := 6) (v := ?_) (by simp only [List.getElem?_toArray, List.getElem?_cons_succ, List.getElem?_cons_zero]; rfl) (by kernel_rfl) (by kernel_rfl) (by kernel_rfl) (fun _ _ _ h => h) (Or.inl ⟨by rfl, ?_⟩) (by assumption) ?_
        rotate_left
        · (intro w hSw; (try dsimp only at hSw); go_simp; try with_reducible rfl)
        try simp only [Act.put, List.setIfInBounds_toArray, List.set_cons_zero, List.set_cons_succ]
        refine wpAnyH_take (i := 7) (v := ?_) (by simp only [List.getElem?_toArray, List.getElem?_cons_succ, List.getElem?_cons_zero]; rfl) (by kernel_rfl) (by kernel_rfl) (by kernel_rfl) (fun _ _ _ h => h) (Or.inl ⟨by rfl, ?_⟩) (by assumption) ?_
        rotate_left
        · (intro w hSw; (try dsimp only at hSw); go_simp; try with_reducible rfl)
        try simp only [Act.put, List.setIfInBounds_toArray, List.set_cons_zero, List.set_cons_succ]
        refine wpAnyH_take (i := 8) (v := ?_) (by simp only [List.getElem?_toArray, List.getElem?_cons_succ, List.getElem?_cons_zero]; rfl) (by kernel_rfl) (by kernel_rfl) (by kernel_rfl) (fun _ _ _ h => h) (Or.inl ⟨by rfl, ?_⟩) (by assumption) ?_
        rotate_left
        · (intro w hSw; (try dsimp only at hSw); go_simp; try with_reducible rfl)
        try simp only [Act.put, List.setIfInBounds_toArray, List.set_cons_zero, List.set_cons_succ]
        refine wpAnyH_take (i := 9) (v := ?_) (by simp only [List.getElem?_toArray, List.getElem?_cons_succ, List.getElem?_cons_zero]; rfl) (by kernel_rfl) (by kernel_rfl) (by kernel_rfl) (fun _ _ _ h => h) (Or.inl ⟨by rfl, ?_⟩) (by assumption) ?_
        rotate_left
        · (intro w hSw; (try dsimp only at hSw); go_simp; try with_reducible rfl)
        try simp only [Act.put, List.setIfInBounds_toArray, List.set_cons_zero, List.set_cons_succ]
        refine wpAnyH_take (i := 10) (v := ?_) (by simp only [List.getElem?_toArray, List.getElem?_cons_succ, List.getElem?_cons_zero]; rfl) (by kernel_rfl) (by kernel_rfl) (by kernel_rfl) (fun _ _ _ h => h) (Or.inl ⟨by rfl, ?_⟩) (by assumption) ?_
        rotate_left
        · (intro w hSw; (try dsimp only at hSw); go_simp; try with_reducible rfl)
        try simp only [Act.put, List.setIfInBounds_toArray, List.set_cons_zero, List.set_cons_succ]
        refine wpAnyH_take (i := 13) (v := ?_) (by simp only [List.getElem?_toArray, List.getElem?_cons_succ, List.getElem?_cons_zero]; rfl) (by kernel_rfl) (by kernel_rfl) (by kernel_rfl) (fun _ _ _ h => h) (Or.inl ⟨by rfl, ?_⟩) (by assumption) ?_
        rotate_left
        · (intro w hSw; (try dsimp only at hSw); go_simp; try with_reducible rfl)
        try simp only [Act.put, List.setIfInBounds_toArray, List.set_cons_zero, List.set_cons_succ]
        refine wpAnyH_take (i := 14) (v := ?_) (by simp only [List.getElem?_toArray, List.getElem?_cons_succ, List.getElem?_cons_zero]; rfl) (by kernel_rfl) (by kernel_rfl) (by kernel_rfl) (fun _ _ _ h => h) (Or.inl ⟨by rfl, ?_⟩) (by assumption) ?_
        rotate_left
        · (intro w hSw; (try dsimp only at hSw); go_simp; try with_reducible rfl)
        try simp only [Act.put, List.setIfInBounds_toArray, List.set_cons_zero, List.set_cons_succ]
        refine wpAnyH_take (i := 15) (v := ?_) (by simp only [List.getElem?_toArray, List.getElem?_cons_succ, List.getElem?_cons_zero]; rfl) (by kernel_rfl) (by kernel_rfl) (by kernel_rfl) (fun _ _ _ h => h) (Or.inl ⟨by rfl, ?_⟩) (by assumption) ?_
        rotate_left
        · (intro w hSw; (try dsimp only at hSw); go_simp; try with_reducible rfl)
        try simp only [Act.put, List.setIfInBounds_toArray, List.set_cons_zero, List.set_cons_succ]
        refine wpAnyH_ready (rs := [11]) (by kernel_rfl) (by simp) ?_
        refine AllReadyH.cons (by simp only [List.getElem?_toArray, List.getElem?_cons_succ, List.getElem?_cons_zero]; rfl) (fun K hK => ?_) AllReadyH.nil
        go_simp
        go_at_call 15
        refine (cmp_is (-1) h1 _).mono ?_
        rintro e v21 ⟨rfl, k21⟩
        go_wp2_with fail
        refine hK.out _ _ (⟨bstep hHeld.1 k21, (hHeld.2.1).below k21, (hHeld.2.2.1).below k21, (hHeld.2.2.2.1).below k21, Dots.keepC hHeld.2.2.2.2.1 k21, Dots.keepC hHeld.2.2.2.2.2.1 k21, Dots.keepC hHeld.2.2.2.2.2.2.1 k21, Dots.keepC hHeld.2.2.2.2.2.2.2.1 k21, Dots.keepC hHeld.2.2.2.2.2.2.2.2.1 k21, Dots.keepC hHeld.2.2.2.2.2.2.2.2.2 k21⟩) (fun hHeld => ?_)
        clear hK K k21
        try simp only [Act.put, List.setIfInBounds_toArray, List.set_cons_zero, List.set_cons_succ]
        refine wpAnyH_take (i := 12) (v := ?_) (by simp only [List.getElem?_toArray, List.getElem?_cons_succ, List.getElem?_cons_zero]; rfl) (by kernel_rfl) (by kernel_rfl) (by kernel_rfl) (fun _ _ _ h => h) (Or.inl ⟨by rfl, ?_⟩) (by assumption) ?_
        rotate_left
        · (intro w hSw; (try dsimp only at hSw); go_simp; try with_reducible rfl)
        try simp only [Act.put, List.setIfInBounds_toArray, List.set_cons_zero, List.set_cons_succ]
        refine wpAnyH_take (i := 16) (v := ?_) (by simp only [List.getElem?_toArray, List.getElem?_cons_succ, List.getElem?_cons_zero]; rfl) (by kernel_rfl) (by kernel_rfl) (by kernel_rfl) (fun _ _ _ h => h) (Or.inl ⟨by rfl, ?_⟩) (by assumption) ?_
        rotate_left
        · (intro w hSw; (try dsimp only at hSw); go_simp; try with_reducible rfl)
        try simp only [Act.put, List.setIfInBounds_toArray, List.set_cons_zero, List.set_cons_succ]
        refine wpAnyH_take (i := 17) (v := ?_) (by simp only [List.getElem?_toArray, List.getElem?_cons_succ, List.getElem?_cons_zero]; rfl) (by kernel_rfl) (by kernel_rfl) (by kernel_rfl) (fun _ _ _ h => h) (Or.inl ⟨by rfl, ?_⟩) (by assumption) ?_
        rotate_left
        · (intro w hSw; (try dsimp only at hSw); go_simp; try with_reducible rfl)
        try simp only [Act.put, List.setIfInBounds_toArray, List.set_cons_zero, List.set_cons_succ]
        refine wpAnyH_take (i := 18) (v := ?_) (by simp only [List.getElem?_toArray, List.getElem?_cons_succ, List.getElem?_cons_zero]; rfl) (by kernel_rfl) (by kernel_rfl) (by kernel_rfl) (fun _ _ _ h => h) (Or.inl ⟨by rfl, ?_⟩) (by assumption) ?_
        rotate_left
        · (intro w hSw; (try dsimp only at hSw); go_simp; try with_reducible rfl)
        try simp only [Act.put, List.setIfInBounds_toArray, List.set_cons_zero, List.set_cons_succ]
        refine wpAnyH_take (i := 19) (v := ?_) (by simp only [List.getElem?_toArray, List.getElem?_cons_succ, List.getElem?_cons_zero]; rfl) (by kernel_rfl) (by kernel_rfl) (by kernel_rfl) (fun _ _ _ h => h) (Or.inl ⟨by rfl, ?_⟩) (by assumption) ?_
        rotate_left
        · (intro w hSw; (try dsimp only at hSw); go_simp; try with_reducible rfl)
        try simp only [Act.put, List.setIfInBounds_toArray, List.set_cons_zero, List.set_cons_succ]
        refine wpAnyH_take (i := 20) (v := ?_) (by simp only [List.getElem?_toArray, List.getElem?_cons_succ, List.getElem?_cons_zero]; rfl) (by kernel_rfl) (by kernel_rfl) (by kernel_rfl) (fun _ _ _ h => h) (Or.inl ⟨by rfl, ?_⟩) (by assumption) ?_
        rotate_left
        · (intro w hSw; (try dsimp only at hSw); go_simp; try with_reducible rfl)
        try simp only [Act.put, List.setIfInBounds_toArray, List.set_cons_zero, List.set_cons_succ]
        refine wpAnyH_ready (rs := [21]) (by kernel_rfl) (by simp) ?_
        refine AllReadyH.cons (by simp only [List.getElem?_toArray, List.getElem?_cons_succ, List.getElem?_cons_zero]; rfl) (fun K hK => ?_) AllReadyH.nil
        go_simp
        go_at_call 15
        refine (cmp_is (-1) h1 _).mono ?_
        rintro e v22 ⟨rfl, k22⟩
        go_wp2_with fail
        refine hK.out _ _ (⟨bstep hHeld.1 k22, (hHeld.2.1).below k22, (hHeld.2.2.1).below k22, (hHeld.2.2.2.1).below k22, Dots.keepC hHeld.2.2.2.2.1 k22, Dots.keepC hHeld.2.2.2.2.2.1 k22, Dots.keepC hHeld.2.2.2.2.2.2.1 k22, Dots.keepC hHeld.2.2.2.2.2.2.2.1 k22, Dots.keepC hHeld.2.2.2.2.2.2.2.2.1 k22, Dots.keepC hHeld.2.2.2.2.2.2.2.2.2 k22⟩) (fun hHeld => ?_)
        clear hK K k22
        try simp only [Act.put, List.setIfInBounds_toArray, List.set_cons_zero, List.set_cons_succ]
        refine wpAnyH_take (i := 22) (v := ?_) (by simp only [List.getElem?_toArray, List.getElem?_cons_succ, List.getElem?_cons_zero]; rfl) (by kernel_rfl) (by kernel_rfl) (by kernel_rfl) (fun _ _ _ h => h) (Or.inl ⟨by rfl, ?_⟩) (by assumption) ?_
        rotate_left
        · (intro w hSw; (try dsimp only at hSw); go_simp; try with_reducible rfl)
        try simp only [Act.put, List.setIfInBounds_toArray, List.set_cons_zero, List.set_cons_succ]
        refine wpAnyH_take (i := 23) (v := ?_) (by simp only [List.getElem?_toArray, List.getElem?_cons_succ, List.getElem?_cons_zero]; rfl) (by kernel_rfl) (by kernel_rfl) (by kernel_rfl) (fun _ _ _ h => h) (Or.inl ⟨by rfl, ?_⟩) (by assumption) ?_
        rotate_left
        · (intro w hSw; (try dsimp only at hSw); go_simp; try with_reducible rfl)
        try simp only [Act.put, List.setIfInBounds_toArray, List.set_cons_zero, List.set_cons_succ]
        refine wpAnyH_take (i := 24) (v := ?_) (by simp only [List.getElem?_toArray, List.getElem?_cons_succ, List.getElem?_cons_zero]; rfl) (by kernel_rfl) (by kernel_rfl) (by kernel_rfl) (fun _ _ _ h => h) (Or.inl ⟨by rfl, ?_⟩) (by assumption) ?_
        rotate_left
        · (intro w hSw; (try dsimp only at hSw); go_simp; try with_reducible rfl)
        try simp only [Act.put, List.setIfInBounds_toArray, List.set_cons_zero, List.set_cons_succ]
        refine wpAnyH_take (i := 25) (v := ?_) (by simp only [List.getElem?_toArray, List.getElem?_cons_succ, List.getElem?_cons_zero]; rfl) (by kernel_rfl) (by kernel_rfl) (by kernel_rfl) (fun _ _ _ h => h) (Or.inl ⟨by rfl, ?_⟩) (by assumption) ?_
        rotate_left
        · (intro w hSw; (try dsimp only at hSw); go_simp; try with_reducible rfl)
        try simp only [Act.put, List.setIfInBounds_toArray, List.set_cons_zero, List.set_cons_succ]
        refine wpAnyH_ready (rs := [26]) (by kernel_rfl) (by simp) ?_
        refine AllReadyH.cons (by simp only [List.getElem?_toArray, List.getElem?_cons_succ, List.getElem?_cons_zero]; rfl) (fun K hK => ?_) AllReadyH.nil
        go_simp
        go_at_call 15
        refine (cmp_is 0 h4 _).mono ?_
        rintro e v23 ⟨rfl, k23⟩
        go_wp2_with fail
        refine hK.out _ _ (⟨bstep hHeld.1 k23, (hHeld.2.1).below k23, (hHeld.2.2.1).below k23, (hHeld.2.2.2.1).below k23, Dots.keepC hHeld.2.2.2.2.1 k23, Dots.keepC hHeld.2.2.2.2.2.1 k23, Dots.keepC hHeld.2.2.2.2.2.2.1 k23, Dots.keepC hHeld.2.2.2.2.2.2.2.1 k23, Dots.keepC hHeld.2.2.2.2.2.2.2.2.1 k23, Dots.keepC hHeld.2.2.2.2.2.2.2.2.2 k23⟩) (fun hHeld => ?_)
        clear hK K k23
        try simp only [Act.put, List.setIfInBounds_toArray, List.set_cons_zero, List.set_cons_succ]
        refine wpAnyH_take (i := 27) (v := ?_) (by simp only [List.getElem?_toArray, List.getElem?_cons_succ, List.getElem?_cons_zero]; rfl) (by kernel_rfl) (by kernel_rfl) (by kernel_rfl) (fun _ _ _ h => h) (Or.inl ⟨by rfl, ?_⟩) (by assumption) ?_
        rotate_left
        · (intro w hSw; (try dsimp only at hSw); go_simp; try with_reducible rfl)
        try simp only [Act.put, List.setIfInBounds_toArray, List.set_cons_zero, List.set_cons_succ]
        refine wpAnyH_take (i := 28) (v := ?_) (by simp only [List.getElem?_toArray, List.getElem?_cons_succ, List.getElem?_cons_zero]; rfl) (by kernel_rfl) (by kernel_rfl) (by kernel_rfl) (fun _ _ _ h => h) (Or.inl ⟨by rfl, ?_⟩) (by assumption) ?_
        rotate_left
        · (intro w hSw; (try dsimp only at hSw); go_simp; try with_reducible rfl)
        try simp only [Act.put, List.setIfInBounds_toArray, List.set_cons_zero, List.set_cons_succ]
        refine wpAnyH_take (i := 29) (v := ?_) (by simp only [List.getElem?_toArray, List.getElem?_cons_succ, List.getElem?_cons_zero]; rfl) (by kernel_rfl) (by kernel_rfl) (by kernel_rfl) (fun _ _ _ h => h) (Or.inl ⟨by rfl, ?_⟩) (by assumption) ?_
        rotate_left
        · (intro w hSw; (try dsimp only at hSw); go_simp; try with_reducible rfl)
        try simp only [Act.put, List.setIfInBounds_toArray, List.set_cons_zero, List.set_cons_succ]
        refine wpAnyH_take (i := 30) (v := undef) (by simp only [List.getElem?_toArray, List.getElem?_cons_succ, List.getElem?_cons_zero]; rfl) (by kernel_rfl) (by kernel_rfl) (by kernel_rfl) (fun _ _ _ h => h) (Or.inr ⟨by rfl, rfl⟩) (by assumption) ?_
        try simp only [Act.put, List.setIfInBounds_toArray, List.set_cons_zero, List.set_cons_succ]
        refine wpAnyH_take (i := 31) (v := undef) (by simp only [List.getElem?_toArray, List.getElem?_cons_succ, List.getElem?_cons_zero]; rfl) (by kernel_rfl) (by kernel_rfl) (by kernel_rfl) (fun _ _ _ h => h) (Or.inr ⟨by rfl, rfl⟩) (by assumption) ?_
        try simp only [Act.put, List.setIfInBounds_toArray, List.set_cons_zero, List.set_cons_succ]
        refine wpAnyH_take (i := 32) (v := undef) (by simp only [List.getElem?_toArray, List.getElem?_cons_succ, List.getElem?_cons_zero]; rfl) (by kernel_rfl) (by kernel_rfl) (by kernel_rfl) (fun _ _ _ h => h) (Or.inr ⟨by rfl, rfl⟩) (by assumption) ?_
        try simp only [Act.put, List.setIfInBounds_toArray, List.set_cons_zero, List.set_cons_succ]
        refine wpAnyH_take (i := 33) (v := undef) (by simp only [List.getElem?_toArray, List.getElem?_cons_succ, List.getElem?_cons_zero]; rfl) (by kernel_rfl) (by kernel_rfl) (by kernel_rfl) (fun _ _ _ h => h) (Or.inr ⟨by rfl, rfl⟩) (by assumption) ?_
        try simp only [Act.put, List.setIfInBounds_toArray, List.set_cons_zero, List.set_cons_succ]
        refine wpAnyH_take (i := 34) (v := ?_) (by simp only [List.getElem?_toArray, List.getElem?_cons_succ, List.getElem?_cons_zero]; rfl) (by kernel_rfl) (by kernel_rfl) (by kernel_rfl) (fun _ _ _ h => h) (Or.inl ⟨by rfl, ?_⟩) (by assumption) ?_
        rotate_left
        · (intro w hSw; (try dsimp only at hSw); go_simp; try with_reducible rfl)
        try simp only [Act.put, List.setIfInBounds_toArray, List.set_cons_zero, List.set_cons_succ]
        refine wpAnyH_take (i := 35) (v := ?_) (by simp only [List.getElem?_toArray, List.getElem?_cons_succ, List.getElem?_cons_zero]; rfl) (by kernel_rfl) (by kernel_rfl) (by kernel_rfl) (fun _ _ _ h => h) (Or.inl ⟨by rfl, ?_⟩) (by assumption) ?_
        rotate_left
        · (intro w hSw; (try dsimp only at hSw); go_simp; try with_reducible rfl)
        try simp only [Act.put, List.setIfInBounds_toArray, List.set_cons_zero, List.set_cons_succ]
        refine wpAnyH_done (by kernel_rfl) ?_ _
        refine NoPanic.normal ?_
        clear hb lA lB lC x1 x2 x3 x4 x5 x6
        obtain ⟨hb, lA, lB, lC, x1, x2, x3, x4, x5, x6⟩ := hHeld
        replace lA := Lib.hid lA
        replace lB := Lib.hid lB
        replace lC := Lib.hid lC
        go_wp2_with fail
        go_meet
        exact ⟨rfl, hb, lA.out, lB.out, lC.out, x1, x2, x3, x4, x5, x6⟩
      · clear h5
        refine wp_region_noPanic ?_
        refine wp_region_held_drew (S := (fun w' => Below w.heap.size w w' ∧ Lies w' a3 len3 A ∧ Lies w' a4 len4 B ∧ Lies w' a5 len5 C ∧ w'.cell? ⟨w.heap.size, 0, none⟩ = some (.string ⟨p.toArray⟩) ∧ w'.cell? ⟨w.heap.size, 1, none⟩ = some (.int .u64 (x : Int)) ∧ w'.cell? ⟨w.heap.size + 1, 0, none⟩ = some (.string ⟨q.toArray⟩) ∧ w'.cell? ⟨w.heap.size + 1, 1, none⟩ = some (.int .u64 (y : Int)) ∧ w'.cell? ⟨w.heap.size + 1 + 1, 0, none⟩ = some (.string ⟨r.toArray⟩) ∧ w'.cell? ⟨w.heap.size + 1 + 1, 1, none⟩ = some (.int .u64 (z : Int)))) (by kernel_rfl) (⟨Below.drew hb, (lA.out).below (Below.drew (Below.refl _ _)), (lB.out).below (Below.drew (Below.refl _ _)), (lC.out).below (Below.drew (Below.refl _ _)), Dots.keepC x1 (Below.drew (Below.refl _ _)), Dots.keepC x2 (Below.drew (Below.refl _ _)), Dots.keepC x3 (Below.drew (Below.refl _ _)), Dots.keepC x4 (Below.drew (Below.refl _ _)), Dots.keepC x5 (Below.drew (Below.refl _ _)), Dots.keepC x6 (Below.drew (Below.refl _ _))⟩) (fun hHeld => ?_)
        refine wpAnyH_take (i := 0) (v := ?_) (by simp only [List.getElem?_toArray, List.getElem?_cons_zero]; rfl) (by kernel_rfl) (by kernel_rfl) (by kernel_rfl) (fun _ _ _ h => h) (Or.inl ⟨by rfl, ?_⟩) (by assumption) ?_
        rotate_left
        · (intro w hSw; (try dsimp only at hSw); go_simp; try with_reducible rfl)
        try simp only [Act.put, List.setIfInBounds_toArray, List.set_cons_zero, List.set_cons_succ]
        refine wpAnyH_take (i := 1) (v := ?_) (by simp only [List.getElem?_toArray, List.getElem?_cons_succ, List.getElem?_cons_zero]; rfl) (by kernel_rfl) (by kernel_rfl) (by kernel_rfl) (fun _ _ _ h => h) (Or.inl ⟨by rfl, ?_⟩) (by assumption) ?_
        rotate_left
        · (intro w hSw; (try dsimp only at hSw); go_simp; try with_reducible rfl)
        try simp only [Act.put, List.setIfInBounds_toArray, List.set_cons_zero, List.set_cons_succ]
        refine wpAnyH_take (i := 3) (v := ?_) (by simp only [List.getElem?_toArray, List.getElem?_cons_succ, List.getElem?_cons_zero]; rfl) (by kernel_rfl) (by kernel_rfl) (by kernel_rfl) (fun _ _ _ h => h) (Or.inl ⟨by rfl, ?_⟩) (by assumption) ?_
        rotate_left
        · (intro w hSw; (try dsimp only at hSw); go_simp; try with_reducible rfl)
        try simp only [Act.put, List.setIfInBounds_toArray, List.set_cons_zero, List.set_cons_succ]
        refine wpAnyH_take (i := 4) (v := ?_) (by simp only [List.getElem?_toArray, List.getElem?_cons_succ, List.getElem?_cons_zero]; rfl) (by kernel_rfl) (by kernel_rfl) (by kernel_rfl) (fun _ _ _ h => h) (Or.inl ⟨by rfl, ?_⟩) (by assumption) ?_
        rotate_left
        · (intro w hSw; (try dsimp only at hSw); go_simp; try with_reducible rfl)
        try simp only [Act.put, List.setIfInBounds_toArray, List.set_cons_zero, List.set_cons_succ]
        refine wpAnyH_ready (rs := [2]) (by kernel_rfl) (by simp) ?_
        refine AllReadyH.cons (by simp only [List.getElem?_toArray, List.getElem?_cons_succ, List.getElem?_cons_zero]; rfl) (fun K hK => ?_) AllReadyH.nil
        go_simp
        go_at_call 15
        refine (cmp_is (-1) h1 _).mono ?_
        rintro e v24 ⟨rfl, k24⟩
        go_wp2_with fail
        refine hK.out _ _ (⟨bstep hHeld.1 k24, (hHeld.2.1).below k24, (hHeld.2.2.1).below k24, (hHeld.2.2.2.1).below k24, Dots.keepC hHeld.2.2.2.2.1 k24, Dots.keepC hHeld.2.2.2.2.2.1 k24, Dots.keepC hHeld.2.2.2.2.2.2.1 k24, Dots.keepC hHeld.2.2.2.2.2.2.2.1 k24, Dots.keepC hHeld.2.2.2.2.2.2.2.2.1 k24, Dots.keepC hHeld.2.2.2.2.2.2.2.2.2 k24⟩) (fun hHeld => ?_)
        clear hK K k24
        try simp only [Act.put, List.setIfInBounds_toArray, List.set_cons_zero, List.set_cons_succ]
        refine wpAnyH_ready (rs := [5]) (by kernel_rfl) (by simp) ?_
        refine AllReadyH.cons (by simp only [List.getElem?_toArray, List.getElem?_cons_succ, List.getElem?_cons_zero]; rfl) (fun K hK => ?_) AllReadyH.nil
        go_simp
        go_at_call 15
        refine (cmp_is 1 fl.out _).mono ?_
        rintro e v25 ⟨rfl, k25⟩
        go_wp2_with fail
        refine hK.out _ _ (⟨bstep hHeld.1 k25, (hHeld.2.1).below k25, (hHeld.2.2.1).below k25, (hHeld.2.2.2.1).below k25, Dots.keepC hHeld.2.2.2.2.1 k25, Dots.keepC hHeld.2.2.2.2.2.1 k25, Dots.keepC hHeld.2.2.2.2.2.2.1 k25, Dots.keepC hHeld.2.2.2.2.2.2.2.1 k25, Dots.keepC hHeld.2.2.2.2.2.2.2.2.1 k25, Dots.keepC hHeld.2.2.2.2.2.2.2.2.2 k25⟩) (fun hHeld => ?_)
        clear hK K k25
        try simp only [Act.put, List.setIfInBounds_toArray, List.set_cons_zero, List.set_cons_succ]
        refine wpAnyH_take (i := 6) (v := ?_) (by simp only [List.getElem?_toArray, List.getElem?_cons_succ, List.getElem?_cons_zero]; rfl) (by kernel_rfl) (by kernel_rfl) (by kernel_rfl) (fun _ _ _ h => h) (Or.inl ⟨by rfl, ?_⟩) (by assumption) ?_
        rotate_left
        · (intro w hSw; (try dsimp only at hSw); go_simp; try with_reducible rfl)
        try simp only [Act.put, List.setIfInBounds_toArray, List.set_cons_zero, List.set_cons_succ]
        refine wpAnyH_take (i := 7) (v := ?_) (by simp only [List.getElem?_toArray, List.getElem?_cons_succ, List.getElem?_cons_zero]; rfl) (by kernel_rfl) (by kernel_rfl) (by kernel_rfl) (fun _ _ _ h => h) (Or.inl ⟨by rfl, ?_⟩) (by assumption) ?_
        rotate_left
        · (intro w hSw; (try dsimp only at hSw); go_simp; try with_reducible rfl)
        try simp only [Act.put, List.setIfInBounds_toArray, List.set_cons_zero, List.set_cons_succ]
        refine wpAnyH_take (i := 8) (v := ?_) (by simp only [List.getElem?_toArray, List.getElem?_cons_succ, List.getElem?_cons_zero]; rfl) (by kernel_rfl) (by kernel_rfl) (by kernel_rfl) (fun _ _ _ h => h) (Or.inl ⟨by rfl, ?_⟩) (by assumption) ?_
        rotate_left
        · (intro w hSw; (try dsimp only at hSw); go_simp; try with_reducible rfl)
        try simp only [Act.put, List.setIfInBounds_toArray, List.set_cons_zero, List.set_cons_succ]
        refine wpAnyH_take (i := 9) (v := ?_) (by simp only [List.getElem?_toArray, List.getElem?_cons_succ, List.getElem?_cons_zero]; rfl) (by kernel_rfl) (by kernel_rfl) (by kernel_rfl) (fun _ _ _ h => h) (Or.inl ⟨by rfl, ?_⟩) (by assumption) ?_
        rotate_left
        · (intro w hSw; (try dsimp only at hSw); go_simp; try with_reducible rfl)
        try simp only [Act.put, List.setIfInBounds_toArray, List.set_cons_zero, List.set_cons_succ]
        refine wpAnyH_take (i := 10) (v := ?_) (by simp only [List.getElem?_toArray, List.getElem?_cons_succ, List.getElem?_cons_zero]; rfl) (by kernel_rfl) (by kernel_rfl) (by kernel_rfl) (fun _ _ _ h => h) (Or.inl ⟨by rfl, ?_⟩) (by assumption) ?_
        rotate_left
        · (intro w hSw; (try dsimp only at hSw); go_simp; try with_reducible rfl)
        try simp only [Act.put, List.setIfInBounds_toArray, List.set_cons_zero, List.set_cons_succ]
        refine wpAnyH_take (i := 13) (v := ?_) (by simp only [List.getElem?_toArray, List.getElem?_cons_succ, List.getElem?_cons_zero]; rfl) (by kernel_rfl) (by kernel_rfl) (by kernel_rfl) (fun _ _ _ h => h) (Or.inl ⟨by rfl, ?_⟩) (by assumption) ?_
        rotate_left
        · (intro w hSw; (try dsimp only at hSw); go_simp; try with_reducible rfl)
        try simp only [Act.put, List.setIfInBounds_toArray, List.set_cons_zero, List.set_cons_succ]
        refine wpAnyH_take (i := 14) (v := ?_) (by simp only [List.getElem?_toArray, List.getElem?_cons_succ, List.getElem?_cons_zero]; rfl) (by kernel_rfl) (by kernel_rfl) (by kernel_rfl) (fun _ _ _ h => h) (Or.inl ⟨by rfl, ?_⟩) (by assumption) ?_
        rotate_left
        · (intro w hSw; (try dsimp only at hSw); go_simp; try with_reducible rfl)
        try simp only [Act.put, List.setIfInBounds_toArray, List.set_cons_zero, List.set_cons_succ]
        refine wpAnyH_take (i := 15) (v := ?_) (by simp only [List.getElem?_toArray, List.getElem?_cons_succ, List.getElem?_cons_zero]; rfl) (by kernel_rfl) (by kernel_rfl) (by kernel_rfl) (fun _ _ _ h => h) (Or.inl ⟨by rfl, ?_⟩) (by assumption) ?_
        rotate_left
        · (intro w hSw; (try dsimp only at hSw); go_simp; try with_reducible rfl)
        try simp only [Act.put, List.setIfInBounds_toArray, List.set_cons_zero, List.set_cons_succ]
        refine wpAnyH_ready (rs := [11]) (by kernel_rfl) (by simp) ?_
        refine AllReadyH.cons (by simp only [List.getElem?_toArray, List.getElem?_cons_succ, List.getElem?_cons_zero]; rfl) (fun K hK => ?_) AllReadyH.nil
        go_simp
        go_at_call 15
        refine (cmp_is (-1) h1 _).mono ?_
        rintro e v26 ⟨rfl, k26⟩
        go_wp2_with fail
        refine hK.out _ _ (⟨bstep hHeld.1 k26, (hHeld.2.1).below k26, (hHeld.2.2.1).below k26, (hHeld.2.2.2.1).below k26, Dots.keepC hHeld.2.2.2.2.1 k26, Dots.keepC hHeld.2.2.2.2.2.1 k26, Dots.keepC hHeld.2.2.2.2.2.2.1 k26, Dots.keepC hHeld.2.2.2.2.2.2.2.1 k26, Dots.keepC hHeld.2.2.2.2.2.2.2.2.1 k26, Dots.keepC hHeld.2.2.2.2.2.2.2.2.2 k26⟩) (fun hHeld => ?_)
        clear hK K k26
        try simp only [Act.put, List.setIfInBounds_toArray, List.set_cons_zero, List.set_cons_succ]
        refine wpAnyH_take (i := 12) (v := ?_) (by simp only [List.getElem?_toArray, List.getElem?_cons_succ, List.getElem?_cons_zero]; rfl) (by kernel_rfl) (by kernel_rfl) (by kernel_rfl) (fun _ _ _ h => h) (Or.inl ⟨by rfl, ?_⟩) (by assumption) ?_
        rotate_left
        · (intro w hSw; (try dsimp only at hSw); go_simp; try with_reducible rfl)
        try simp only [Act.put, List.setIfInBounds_toArray, List.set_cons_zero, List.set_cons_succ]
        refine wpAnyH_take (i := 16) (v := ?_) (by simp only [List.getElem?_toArray, List.getElem?_cons_succ, List.getElem?_cons_zero]; rfl) (by kernel_rfl) (by kernel_rfl) (by kernel_rfl) (fun _ _ _ h => h) (Or.inl ⟨by rfl, ?_⟩) (by assumption) ?_
        rotate_left
        · (intro w hSw; (try dsimp only at hSw); go_simp; try with_reducible rfl)
        try simp only [Act.put, List.setIfInBounds_toArray, List.set_cons_zero, List.set_cons_succ]
        refine wpAnyH_take (i := 17) (v := ?_) (by simp only [List.getElem?_toArray, List.getElem?_cons_succ, List.getElem?_cons_zero]; rfl) (by kernel_rfl) (by kernel_rfl) (by kernel_rfl) (fun _ _ _ h => h) (Or.inl ⟨by rfl, ?_⟩) (by assumption) ?_
        rotate_left
        · (intro w hSw; (try dsimp only at hSw); go_simp; try with_reducible rfl)
        try simp only [Act.put, List.setIfInBounds_toArray, List.set_cons_zero, List.set_cons_succ]
        refine wpAnyH_take (i := 18) (v := ?_) (by simp only [List.getElem?_toArray, List.getElem?_cons_succ, List.getElem?_cons_zero]; rfl) (by kernel_rfl) (by kernel_rfl) (by kernel_rfl) (fun _ _ _ h => h) (Or.inl ⟨by rfl, ?_⟩) (by assumption) ?_
        rotate_left
        · (intro w hSw; (try dsimp only at hSw); go_simp; try with_reducible rfl)
        try simp only [Act.put, List.setIfInBounds_toArray, List.set_cons_zero, List.set_cons_succ]
        refine wpAnyH_take (i := 19) (v := ?_) (by simp only [List.getElem?_toArray, List.getElem?_cons_succ, List.getElem?_cons_zero]; rfl) (by kernel_rfl) (by kernel_rfl) (by kernel_rfl) (fun _ _ _ h => h) (Or.inl ⟨by rfl, ?_⟩) (by assumption) ?_
        rotate_left
        · (intro w hSw; (try dsimp only at hSw); go_simp; try with_reducible rfl)
        try simp only [Act.put, List.setIfInBounds_toArray, List.set_cons_zero, List.set_cons_succ]
        refine wpAnyH_take (i := 20) (v := ?_) (by simp only [List.getElem?_toArray, List.getElem?_cons_succ, List.getElem?_cons_zero]; rfl) (by kernel_rfl) (by kernel_rfl) (by kernel_rfl) (fun _ _ _ h => h) (Or.inl ⟨by rfl, ?_⟩) (by assumption) ?_
        rotate_left
        · (intro w hSw; (try dsimp only at hSw); go_simp; try with_reducible rfl)
        try simp only [Act.put, List.setIfInBounds_toArray, List.set_cons_zero, List.set_cons_succ]
        refine wpAnyH_ready (rs := [21]) (by kernel_rfl) (by simp) ?_
        refine AllReadyH.cons (by simp only [List.getElem?_toArray, List.getElem?_cons_succ, List.getElem?_cons_zero]; rfl) (fun K hK => ?_) AllReadyH.nil
        go_simp
        go_at_call 15
        refine (cmp_is (-1) h1 _).mono ?_
        rintro e v27 ⟨rfl, k27⟩
        go_wp2_with fail
        refine hK.out _ _ (⟨bstep hHeld.1 k27, (hHeld.2.1).below k27, (hHeld.2.2.1).below k27, (hHeld.2.2.2.1).below k27, Dots.keepC hHeld.2.2.2.2.1 k27, Dots.keepC hHeld.2.2.2.2.2.1 k27, Dots.keepC hHeld.2.2.2.2.2.2.1 k27, Dots.keepC hHeld.2.2.2.2.2.2.2.1 k27, Dots.keepC hHeld.2.2.2.2.2.2.2.2.1 k27, Dots.keepC hHeld.2.2.2.2.2.2.2.2.2 k27⟩) (fun hHeld => ?_)
        clear hK K k27
        try simp only [Act.put, List.setIfInBounds_toArray, List.set_cons_zero, List.set_cons_succ]
        refine wpAnyH_take (i := 22) (v := ?_) (by simp only [List.getElem?_toArray, List.getElem?_cons_succ, List.getElem?_cons_zero]; rfl) (by kernel_rfl) (by kernel_rfl) (by kernel_rfl) (fun _ _ _ h => h) (Or.inl ⟨by rfl, ?_⟩) (by assumption) ?_
        rotate_left
        · (intro w hSw; (try dsimp only at hSw); go_simp; try with_reducible rfl)
        try simp only [Act.put, List.setIfInBounds_toArray, List.set_cons_zero, List.set_cons_succ]
        refine wpAnyH_take (i := 23) (v := ?_) (by simp only [List.getElem?_toArray, List.getElem?_cons_succ, List.getElem?_cons_zero]; rfl) (by kernel_rfl) (by kernel_rfl) (by kernel_rfl) (fun _ _ _ h => h) (Or.inl ⟨by rfl, ?_⟩) (by assumption) ?_
        rotate_left
        · (intro w hSw; (try dsimp only at hSw); go_simp; try with_reducible rfl)
        try simp only [Act.put, List.setIfInBounds_toArray, List.set_cons_zero, List.set_cons_succ]
        refine wpAnyH_take (i := 24) (v := ?_) (by simp only [List.getElem?_toArray, List.getElem?_cons_succ, List.getElem?_cons_zero]; rfl) (by kernel_rfl) (by kernel_rfl) (by kernel_rfl) (fun _ _ _ h => h) (Or.inl ⟨by rfl, ?_⟩) (by assumption) ?_
        rotate_left
        · (intro w hSw; (try dsimp only at hSw); go_simp; try with_reducible rfl)
        try simp only [Act.put, List.setIfInBounds_toArray, List.set_cons_zero, List.set_cons_succ]
        refine wpAnyH_take (i := 25) (v := ?_) (by simp only [List.getElem?_toArray, List.getElem?_cons_succ, List.getElem?_cons_zero]; rfl) (by kernel_rfl) (by kernel_rfl) (by kernel_rfl) (fun _ _ _ h => h) (Or.inl ⟨by rfl, ?_⟩) (by assumption) ?_
        rotate_left
        · (intro w hSw; (try dsimp only at hSw); go_simp; try with_reducible rfl)
        try simp only [Act.put, List.setIfInBounds_toArray, List.set_cons_zero, List.set_cons_succ]
        refine wpAnyH_ready (rs := [26]) (by kernel_rfl) (by simp) ?_
        refine AllReadyH.cons (by simp only [List.getElem?_toArray, List.getElem?_cons_succ, List.getElem?_cons_zero]; rfl) (fun K hK => ?_) AllReadyH.nil
        go_simp
        go_at_call 15
        refine (cmp_is 1 h4 _).mono ?_
        rintro e v28 ⟨rfl, k28⟩
        go_wp2_with fail
        refine hK.out _ _ (⟨bstep hHeld.1 k28, (hHeld.2.1).below k28, (hHeld.2.2.1).below k28, (hHeld.2.2.2.1).below k28, Dots.keepC hHeld.2.2.2.2.1 k28, Dots.keepC hHeld.2.2.2.2.2.1 k28, Dots.keepC hHeld.2.2.2.2.2.2.1 k28, Dots.keepC hHeld.2.2.2.2.2.2.2.1 k28, Dots.keepC hHeld.2.2.2.2.2.2.2.2.1 k28, Dots.keepC hHeld.2.2.2.2.2.2.2.2.2 k28⟩) (fun hHeld => ?_)
        clear hK K k28
        try simp only [Act.put, List.setIfInBounds_toArray, List.set_cons_zero, List.set_cons_succ]
        refine wpAnyH_take (i := 27) (v := ?_) (by simp only [List.getElem?_toArray, List.getElem?_cons_succ, List.getElem?_cons_zero]; rfl) (by kernel_rfl) (by kernel_rfl) (by kernel_rfl) (fun _ _ _ h => h) (Or.inl ⟨by rfl, ?_⟩) (by assumption) ?_
        rotate_left
        · (intro w hSw; (try dsimp only at hSw); go_simp; try with_reducible rfl)
        try simp only [Act.put, List.setIfInBounds_toArray, List.set_cons_zero, List.set_cons_succ]
        refine wpAnyH_take (i := 28) (v := ?_) (by simp only [List.getElem?_toArray, List.getElem?_cons_succ, List.getElem?_cons_zero]; rfl) (by kernel_rfl) (by kernel_rfl) (by kernel_rfl) (fun _ _ _ h => h) (Or.inl ⟨by rfl, ?_⟩) (by assumption) ?_
        rotate_left
        · (intro w hSw; (try dsimp only at hSw); go_simp; try with_reducible rfl)
        try simp only [Act.put, List.setIfInBounds_toArray, List.set_cons_zero, List.set_cons_succ]
        refine wpAnyH_take (i := 29) (v := ?_) (by simp only [List.getElem?_toArray, List.getElem?_cons_succ, List.getElem?_cons_zero]; rfl) (by kernel_rfl) (by kernel_rfl) (by kernel_rfl) (fun _ _ _ h => h) (Or.inl ⟨by rfl, ?_⟩) (by assumption) ?_
        rotate_left
        · (intro w hSw; (try dsimp only at hSw); go_simp; try with_reducible rfl)
        try simp only [Act.put, List.setIfInBounds_toArray, List.set_cons_zero, List.set_cons_succ]
        refine wpAnyH_take (i := 30) (v := undef) (by simp only [List.getElem?_toArray, List.getElem?_cons_succ, List.getElem?_cons_zero]; rfl) (by kernel_rfl) (by kernel_rfl) (by kernel_rfl) (fun _ _ _ h => h) (Or.inr ⟨by rfl, rfl⟩) (by assumption) ?_
        try simp only [Act.put, List.setIfInBounds_toArray, List.set_cons_zero, List.set_cons_succ]
        refine wpAnyH_take (i := 31) (v := undef) (by simp only [List.getElem?_toArray, List.getElem?_cons_succ, List.getElem?_cons_zero]; rfl) (by kernel_rfl) (by kernel_rfl) (by kernel_rfl) (fun _ _ _ h => h) (Or.inr ⟨by rfl, rfl⟩) (by assumption) ?_
        try simp only [Act.put, List.setIfInBounds_toArray, List.set_cons_zero, List.set_cons_succ]
        refine wpAnyH_take (i := 32) (v := undef) (by simp only [List.getElem?_toArray, List.getElem?_cons_succ, List.getElem?_cons_zero]; rfl) (by kernel_rfl) (by kernel_rfl) (by kernel_rfl) (fun _ _ _ h => h) (Or.inr ⟨by rfl, rfl⟩) (by assumption) ?_
        try simp only [Act.put, List.setIfInBounds_toArray, List.set_cons_zero, List.set_cons_succ]
        refine wpAnyH_take (i := 33) (v := undef) (by simp only [List.getElem?_toArray, List.getElem?_cons_succ, List.getElem?_cons_zero]; rfl) (by kernel_rfl) (by kernel_rfl) (by kernel_rfl) (fun _ _ _ h => h) (Or.inr ⟨by rfl, rfl⟩) (by assumption) ?_
        try simp only [Act.put, List.setIfInBounds_toArray, List.set_cons_zero, List.set_cons_succ]
        refine wpAnyH_take (i := 34) (v := ?_) (by simp only [List.getElem?_toArray, List.getElem?_cons_succ, List.getElem?_cons_zero]; rfl) (by kernel_rfl) (by kernel_rfl) (by kernel_rfl) (fun _ _ _ h => h) (Or.inl ⟨by rfl, ?_⟩) (by assumption) ?_
        rotate_left
        · (intro w hSw; (try dsimp only at hSw); go_simp; try with_reducible rfl)
        try simp only [Act.put, List.setIfInBounds_toArray, List.set_cons_zero, List.set_cons_succ]
        refine wpAnyH_take (i := 35) (v := ?_) (by simp only [List.getElem?_toArray, List.getElem?_cons_succ, List.getElem?_cons_zero]; rfl) (by kernel_rfl) (by kernel_rfl) (by kernel_rfl) (fun _ _ _ h => h) (Or.inl ⟨by rfl, ?_⟩) (by assumption) ?_
        rotate_left
        · (intro w hSw; (try dsimp only at hSw); go_simp; try with_reducible rfl)
        try simp only [Act.put, List.setIfInBounds_toArray, List.set_cons_zero, List.set_cons_succ]
        refine wpAnyH_done (by kernel_rfl) ?_ _
        refine NoPanic.normal ?_
        clear hb lA lB lC x1 x2 x3 x4 x5 x6
        obtain ⟨hb, lA, lB, lC, x1, x2, x3, x4, x5, x6⟩ := hHeld
        replace lA := Lib.hid lA
        replace lB := Lib.hid lB
        replace lC := Lib.hid lC
        go_wp2_with fail
        go_meet
        exact ⟨rfl, hb, lA.out, lB.out, lC.out, x1, x2, x3, x4, x5, x6⟩
    · have hE := RefDots.eql_dot ⟨p, x⟩ ⟨q, y⟩
      rw [decide_eq_true h2] at hE
      dsimp only at hE
      clear h2
      refine wp_region_noPanic ?_
      refine wp_region_held_drew (S := (fun w' => Below w.heap.size w w' ∧ Lies w' a3 len3 A ∧ Lies w' a4 len4 B ∧ Lies w' a5 len5 C ∧ w'.cell? ⟨w.heap.size, 0, none⟩ = some (.string ⟨p.toArray⟩) ∧ w'.cell? ⟨w.heap.size, 1, none⟩ = some (.int .u64 (x : Int)) ∧ w'.cell? ⟨w.heap.size + 1, 0, none⟩ = some (.string ⟨q.toArray⟩) ∧ w'.cell? ⟨w.heap.size + 1, 1, none⟩ = some (.int .u64 (y : Int)) ∧ w'.cell? ⟨w.heap.size + 1 + 1, 0, none⟩ = some (.string ⟨r.toArray⟩) ∧ w'.cell? ⟨w.heap.size + 1 + 1, 1, none⟩ = some (.int .u64 (z : Int)))) (by kernel_rfl) (⟨Below.drew hb, (lA.out).below (Below.drew (Below.refl _ _)), (lB.out).below (Below.drew (Below.refl _ _)), (lC.out).below (Below.drew (Below.refl _ _)), Dots.keepC x1 (Below.drew (Below.refl _ _)), Dots.keepC x2 (Below.drew (Below.refl _ _)), Dots.keepC x3 (Below.drew (Below.refl _ _)), Dots.keepC x4 (Below.drew (Below.refl _ _)), Dots.keepC x5 (Below.drew (Below.refl _ _)), Dots.keepC x6 (Below.drew (Below.refl _ _))⟩) (fun hHeld => ?_)
      refine wpAnyH_take (i := 0) (v := ?_) (by simp only [List.getElem?_toArray, List.getElem?_cons_zero]; rfl) (by kernel_rfl) (by kernel_rfl) (by kernel_rfl) (fun _ _ _ h => h) (Or.inl ⟨by rfl, ?_⟩) (by assumption) ?_
      rotate_left
      · (intro w hSw; (try dsimp only at hSw); go_simp; try with_reducible rfl)
      try simp only [Act.put, List.setIfInBounds_toArray, List.set_cons_zero, List.set_cons_succ]
      refine wpAnyH_take (i := 1) (v := ?_) (by simp only [List.getElem?_toArray, List.getElem?_cons_succ, List.getElem?_cons_zero]; rfl) (by kernel_rfl) (by kernel_rfl) (by kernel_rfl) (fun _ _ _ h => h) (Or.inl ⟨by rfl, ?_⟩) (by assumption) ?_
      rotate_left
      · (intro w hSw; (try dsimp only at hSw); go_simp; try with_reducible rfl)
      try simp only [Act.put, List.setIfInBounds_toArray, List.set_cons_zero, List.set_cons_succ]
      refine wpAnyH_take (i := 3) (v := ?_) (by simp only [List.getElem?_toArray, List.getElem?_cons_succ, List.getElem?_cons_zero]; rfl) (by kernel_rfl) (by kernel_rfl) (by kernel_rfl) (fun _ _ _ h => h) (Or.inl ⟨by rfl, ?_⟩) (by assumption) ?_
      rotate_left
      · (intro w hSw; (try dsimp only at hSw); go_simp; try with_reducible rfl)
      try simp only [Act.put, List.setIfInBounds_toArray, List.set_cons_zero, List.set_cons_succ]
      refine wpAnyH_take (i := 4) (v := ?_) (by simp only [List.getElem?_toArray, List.getElem?_cons_succ, List.getElem?_cons_zero]; rfl) (by kernel_rfl) (by kernel_rfl) (by kernel_rfl) (fun _ _ _ h => h) (Or.inl ⟨by rfl, ?_⟩) (by assumption) ?_
      rotate_left
      · (intro w hSw; (try dsimp only at hSw); go_simp; try with_reducible rfl)
      try simp only [Act.put, List.setIfInBounds_toArray, List.set_cons_zero, List.set_cons_succ]
      refine wpAnyH_ready (rs := [2]) (by kernel_rfl) (by simp) ?_
      refine AllReadyH.cons (by simp only [List.getElem?_toArray, List.getElem?_cons_succ, List.getElem?_cons_zero]; rfl) (fun K hK => ?_) AllReadyH.nil
      go_simp
      go_at_call 15
      refine (cmp_is 0 h1 _).mono ?_
      rintro e v29 ⟨rfl, k29⟩
      go_wp2_with fail
      refine hK.out _ _ (⟨bstep hHeld.1 k29, (hHeld.2.1).below k29, (hHeld.2.2.1).below k29, (hHeld.2.2.2.1).below k29, Dots.keepC hHeld.2.2.2.2.1 k29, Dots.keepC hHeld.2.2.2.2.2.1 k29, Dots.keepC hHeld.2.2.2.2.2.2.1 k29, Dots.keepC hHeld.2.2.2.2.2.2.2.1 k29, Dots.keepC hHeld.2.2.2.2.2.2.2.2.1 k29, Dots.keepC hHeld.2.2.2.2.2.2.2.2.2 k29⟩) (fun hHeld => ?_)
      clear hK K k29
      try simp only [Act.put, List.setIfInBounds_toArray, List.set_cons_zero, List.set_cons_succ]
      refine wpAnyH_ready (rs := [5]) (by kernel_rfl) (by simp) ?_
      refine AllReadyH.cons (by simp only [List.getElem?_toArray, List.getElem?_cons_succ, List.getElem?_cons_zero]; rfl) (fun K hK => ?_) AllReadyH.nil
      go_simp
      go_at_call 15
      refine (cmp_is 0 fl.out _).mono ?_
      rintro e v30 ⟨rfl, k30⟩
      go_wp2_with fail
      refine hK.out _ _ (⟨bstep hHeld.1 k30, (hHeld.2.1).below k30, (hHeld.2.2.1).below k30, (hHeld.2.2.2.1).below k30, Dots.keepC hHeld.2.2.2.2.1 k30, Dots.keepC hHeld.2.2.2.2.2.1 k30, Dots.keepC hHeld.2.2.2.2.2.2.1 k30, Dots.keepC hHeld.2.2.2.2.2.2.2.1 k30, Dots.keepC hHeld.2.2.2.2.2.2.2.2.1 k30, Dots.keepC hHeld.2.2.2.2.2.2.2.2.2 k30⟩) (fun hHeld => ?_)
      clear hK K k30
      try simp only [Act.put, List.setIfInBounds_toArray, List.set_cons_zero, List.set_cons_succ]
      refine wpAnyH_take (i := 6) (v := ?_) (by simp only [List.getElem?_toArray, List.getElem?_cons_succ, List.getElem?_cons_zero]; rfl) (by kernel_rfl) (by kernel_rfl) (by kernel_rfl) (fun _ _ _ h => h) (Or.inl ⟨by rfl, ?_⟩) (by assumption) ?_
      rotate_left
      · (intro w hSw; (try dsimp only at hSw); go_simp; try with_reducible rfl)
      try simp only [Act.put, List.setIfInBounds_toArray, List.set_cons_zero, List.set_cons_succ]
      refine wpAnyH_take (i := 7) (v := ?_) (by simp only [List.getElem?_toArray, List.getElem?_cons_succ, List.getElem?_cons_zero]; rfl) (by kernel_rfl) (by kernel_rfl) (by kernel_rfl) (fun _ _ _ h => h) (Or.inl ⟨by rfl, ?_⟩) (by assumption) ?_
      rotate_left
      · (intro w hSw; (try dsimp only at hSw); go_simp; try with_reducible rfl)
      try simp only [Act.put, List.setIfInBounds_toArray, List.set_cons_zero, List.set_cons_succ]
      refine wpAnyH_take (i := 8) (v := ?_) (by simp only [List.getElem?_toArray, List.getElem?_cons_succ, List.getElem?_cons_zero]; rfl) (by kernel_rfl) (by kernel_rfl) (by kernel_rfl) (fun _ _ _ h => h) (Or.inl ⟨by rfl, ?_⟩) (by assumption) ?_
      rotate_left
      · (intro w hSw; (try dsimp only at hSw); go_simp; try with_reducible rfl)
      try simp only [Act.put, List.setIfInBounds_toArray, List.set_cons_zero, List.set_cons_succ]
      refine wpAnyH_take (i := 9) (v := ?_) (by simp only [List.getElem?_toArray, List.getElem?_cons_succ, List.getElem?_cons_zero]; rfl) (by kernel_rfl) (by kernel_rfl) (by kernel_rfl) (fun _ _ _ h => h) (Or.inl ⟨by rfl, ?_⟩) (by assumption) ?_
      rotate_left
      · (intro w hSw; (try dsimp only at hSw); go_simp; try with_reducible rfl)
      try simp only [Act.put, List.setIfInBounds_toArray, List.set_cons_zero, List.set_cons_succ]
      refine wpAnyH_take (i := 10) (v := ?_) (by simp only [List.getElem?_toArray, List.getElem?_cons_succ, List.getElem?_cons_zero]; rfl) (by kernel_rfl) (by kernel_rfl) (by kernel_rfl) (fun _ _ _ h => h) (Or.inl ⟨by rfl, ?_⟩) (by assumption) ?_
      rotate_left
      · (intro w hSw; (try dsimp only at hSw); go_simp; try with_reducible rfl)
      try simp only [Act.put, List.setIfInBounds_toArray, List.set_cons_zero, List.set_cons_succ]
      refine wpAnyH_take (i := 13) (v := ?_) (by simp only [List.getElem?_toArray, List.getElem?_cons_succ, List.getElem?_cons_zero]; rfl) (by kernel_rfl) (by kernel_rfl) (by kernel_rfl) (fun _ _ _ h => h) (Or.inl ⟨by rfl, ?_⟩) (by assumption) ?_
      rotate_left
      · (intro w hSw; (try dsimp only at hSw); go_simp; try with_reducible rfl)
      try simp only [Act.put, List.setIfInBounds_toArray, List.set_cons_zero, List.set_cons_succ]
      refine wpAnyH_take (i := 14) (v := ?_) (by simp only [List.getElem?_toArray, List.getElem?_cons_succ, List.getElem?_cons_zero]; rfl) (by kernel_rfl) (by kernel_rfl) (by kernel_rfl) (fun _ _ _ h => h) (Or.inl ⟨by rfl, ?_⟩) (by assumption) ?_
      rotate_left
      · (intro w hSw; (try dsimp only at hSw); go_simp; try with_reducible rfl)
      try simp only [Act.put, List.setIfInBounds_toArray, List.set_cons_zero, List.set_cons_succ]
      refine wpAnyH_take (i := 15) (v := ?_) (by simp only [List.getElem?_toArray, List.getElem?_cons_succ, List.getElem?_cons_zero]; rfl) (by kernel_rfl) (by kernel_rfl) (by kernel_rfl) (fun _ _ _ h => h) (Or.inl ⟨by rfl, ?_⟩) (by assumption) ?_
      rotate_left
      · (intro w hSw; (try dsimp only at hSw); go_simp; try with_reducible rfl)
      try simp only [Act.put, List.setIfInBounds_toArray, List.set_cons_zero, List.set_cons_succ]
      refine wpAnyH_ready (rs := [11]) (by kernel_rfl) (by simp) ?_
      refine AllReadyH.cons (by simp only [List.getElem?_toArray, List.getElem?_cons_succ, List.getElem?_cons_zero]; rfl) (fun K hK => ?_) AllReadyH.nil
      go_simp
      go_at_call 15
      refine (cmp_is 0 h1 _).mono ?_
      rintro e v31 ⟨rfl, k31⟩
      go_wp2_with fail
      refine hK.out _ _ (⟨bstep hHeld.1 k31, (hHeld.2.1).below k31, (hHeld.2.2.1).below k31, (hHeld.2.2.2.1).below k31, Dots.keepC hHeld.2.2.2.2.1 k31, Dots.keepC hHeld.2.2.2.2.2.1 k31, Dots.keepC hHeld.2.2.2.2.2.2.1 k31, Dots.keepC hHeld.2.2.2.2.2.2.2.1 k31, Dots.keepC hHeld.2.2.2.2.2.2.2.2.1 k31, Dots.keepC hHeld.2.2.2.2.2.2.2.2.2 k31⟩) (fun hHeld => ?_)
      clear hK K k31
      try simp only [Act.put, List.setIfInBounds_toArray, List.set_cons_zero, List.set_cons_succ]
      refine wpAnyH_take (i := 12) (v := ?_) (by simp only [List.getElem?_toArray, List.getElem?_cons_succ, List.getElem?_cons_zero]; rfl) (by kernel_rfl) (by kernel_rfl) (by kernel_rfl) (fun _ _ _ h => h) (Or.inl ⟨by rfl, ?_⟩) (by assumption) ?_
      rotate_left
      · (intro w hSw; (try dsimp only at hSw); go_simp; try with_reducible rfl)
      try simp only [Act.put, List.setIfInBounds_toArray, List.set_cons_zero, List.set_cons_succ]
      refine wpAnyH_take (i := 16) (v := ?_) (by simp only [List.getElem?_toArray, List.getElem?_cons_succ, List.getElem?_cons_zero]; rfl) (by kernel_rfl) (by kernel_rfl) (by kernel_rfl) (fun _ _ _ h => h) (Or.inl ⟨by rfl, ?_⟩) (by assumption) ?_
      rotate_left
      · (intro w hSw; (try dsimp only at hSw); go_simp; try with_reducible rfl)
      try simp only [Act.put, List.setIfInBounds_toArray, List.set_cons_zero, List.set_cons_succ]
      refine wpAnyH_take (i := 17) (v := ?_) (by simp only [List.getElem?_toArray, List.getElem?_cons_succ, List.getElem?_cons_zero]; rfl) (by kernel_rfl) (by kernel_rfl) (by kernel_rfl) (fun _ _ _ h => h) (Or.inl ⟨by rfl, ?_⟩) (by assumption) ?_
      rotate_left
      · (intro w hSw; (try dsimp only at hSw); go_simp; try with_reducible rfl)
      try simp only [Act.put, List.setIfInBounds_toArray, List.set_cons_zero, List.set_cons_succ]
      refine wpAnyH_take (i := 18) (v := ?_) (by simp only [List.getElem?_toArray, List.getElem?_cons_succ, List.getElem?_cons_zero]; rfl) (by kernel_rfl) (by kernel_rfl) (by kernel_rfl) (fun _ _ _ h => h) (Or.inl ⟨by rfl, ?_⟩) (by assumption) ?_
      rotate_left
      · (intro w hSw; (try dsimp only at hSw); go_simp; try with_reducible rfl)
      try simp only [Act.put, List.setIfInBounds_toArray, List.set_cons_zero, List.set_cons_succ]
      refine wpAnyH_take (i := 19) (v := ?_) (by simp only [List.getElem?_toArray, List.getElem?_cons_succ, List.getElem?_cons_zero]; rfl) (by kernel_rfl) (by kernel_rfl) (by kernel_rfl) (fun _ _ _ h => h) (Or.inl ⟨by rfl, ?_⟩) (by assumption) ?_
      rotate_left
      · (intro w hSw; (try dsimp only at hSw); go_simp; try with_reducible rfl)
      try simp only [Act.put, List.setIfInBounds_toArray, List.set_cons_zero, List.set_cons_succ]
      refine wpAnyH_take (i := 20) (v := ?_) (by simp only [List.getElem?_toArray, List.getElem?_cons_succ, List.getElem?_cons_zero]; rfl) (by kernel_rfl) (by kernel_rfl) (by kernel_rfl) (fun _ _ _ h => h) (Or.inl ⟨by rfl, ?_⟩) (by assumption) ?_
      rotate_left
      · (intro w hSw; (try dsimp only at hSw); go_simp; try with_reducible rfl)
      try simp only [Act.put, List.setIfInBounds_toArray, List.set_cons_zero, List.set_cons_succ]
      refine wpAnyH_ready (rs := [21]) (by kernel_rfl) (by simp) ?_
      refine AllReadyH.cons (by simp only [List.getElem?_toArray, List.getElem?_cons_succ, List.getElem?_cons_zero]; rfl) (fun K hK => ?_) AllReadyH.nil
      go_simp
      go_at_call 15
      refine (cmp_is 0 h1 _).mono ?_
      rintro e v32 ⟨rfl, k32⟩
      go_wp2_with fail
      refine hK.out _ _ (⟨bstep hHeld.1 k32, (hHeld.2.1).below k32, (hHeld.2.2.1).below k32, (hHeld.2.2.2.1).below k32, Dots.keepC hHeld.2.2.2.2.1 k32, Dots.keepC hHeld.2.2.2.2.2.1 k32, Dots.keepC hHeld.2.2.2.2.2.2.1 k32, Dots.keepC hHeld.2.2.2.2.2.2.2.1 k32, Dots.keepC hHeld.2.2.2.2.2.2.2.2.1 k32, Dots.keepC hHeld.2.2.2.2.2.2.2.2.2 k32⟩) (fun hHeld => ?_)
      clear hK K k32
      try simp only [Act.put, List.setIfInBounds_toArray, List.set_cons_zero, List.set_cons_succ]
      refine wpAnyH_take (i := 22) (v := ?_) (by simp only [List.getElem?_toArray, List.getElem?_cons_succ, List.getElem?_cons_zero]; rfl) (by kernel_rfl) (by kernel_rfl) (by kernel_rfl) (fun _ _ _ h => h) (Or.inl ⟨by rfl, ?_⟩) (by assumption) ?_
      rotate_left
      · (intro w hSw; (try dsimp only at hSw); go_simp; try with_reducible rfl)
      try simp only [Act.put, List.setIfInBounds_toArray, List.set_cons_zero, List.set_cons_succ]
      refine wpAnyH_take (i := 23) (v := ?_) (by simp only [List.getElem?_toArray, List.getElem?_cons_succ, List.getElem?_cons_zero]; rfl) (by kernel_rfl) (by kernel_rfl) (by kernel_rfl) (fun _ _ _ h => h) (Or.inl ⟨by rfl, ?_⟩) (by assumption) ?_
      rotate_left
      · (intro w hSw; (try dsimp only at hSw); go_simp; try with_reducible rfl)
      try simp only [Act.put, List.setIfInBounds_toArray, List.set_cons_zero, List.set_cons_succ]
      refine wpAnyH_take (i := 24) (v := undef) (by simp only [List.getElem?_toArray, List.getElem?_cons_succ, List.getElem?_cons_zero]; rfl) (by kernel_rfl) (by kernel_rfl) (by kernel_rfl) (fun _ _ _ h => h) (Or.inr ⟨by rfl, rfl⟩) (by assumption) ?_
      try simp only [Act.put, List.setIfInBounds_toArray, List.set_cons_zero, List.set_cons_succ]
      refine wpAnyH_take (i := 25) (v := undef) (by simp only [List.getElem?_toArray, List.getElem?_cons_succ, List.getElem?_cons_zero]; rfl) (by kernel_rfl) (by kernel_rfl) (by kernel_rfl) (fun _ _ _ h => h) (Or.inr ⟨by rfl, rfl⟩) (by assumption) ?_
      try simp only [Act.put, List.setIfInBounds_toArray, List.set_cons_zero, List.set_cons_succ]
      refine wpAnyH_take (i := 26) (v := undef) (by simp only [List.getElem?_toArray, List.getElem?_cons_succ, List.getElem?_cons_zero]; rfl) (by kernel_rfl) (by kernel_rfl) (by kernel_rfl) (fun _ _ _ h => h) (Or.inr ⟨by rfl, rfl⟩) (by assumption) ?_
      try simp only [Act.put, List.setIfInBounds_toArray, List.set_cons_zero, List.set_cons_succ]
      refine wpAnyH_take (i := 27) (v := undef) (by simp only [List.getElem?_toArray, List.getElem?_cons_succ, List.getElem?_cons_zero]; rfl) (by kernel_rfl) (by kernel_rfl) (by kernel_rfl) (fun _ _ _ h => h) (Or.inr ⟨by rfl, rfl⟩) (by assumption) ?_
      try simp only [Act.put, List.setIfInBounds_toArray, List.set_cons_zero, List.set_cons_succ]
      refine wpAnyH_take (i := 28) (v := ?_) (by simp only [List.getElem?_toArray, List.getElem?_cons_succ, List.getElem?_cons_zero]; rfl) (by kernel_rfl) (by kernel_rfl) (by kernel_rfl) (fun _ _ _ h => h) (Or.inl ⟨by rfl, ?_⟩) (by assumption) ?_
      rotate_left
      · (intro w hSw; (try dsimp only at hSw); go_simp; try with_reducible rfl)
      try simp only [Act.put, List.setIfInBounds_toArray, List.set_cons_zero, List.set_cons_succ]
      refine wpAnyH_take (i := 29) (v := ?_) (by simp only [List.getElem?_toArray, List.getElem?_cons_succ, List.getElem?_cons_zero]; rfl) (by kernel_rfl) (by kernel_rfl) (by kernel_rfl) (fun _ _ _ h => h) (Or.inl ⟨by rfl, ?_⟩) (by assumption) ?_
      rotate_left
      · (intro w hSw; (try dsimp only at hSw); go_simp; try with_reducible rfl)
      try simp only [Act.put, List.setIfInBounds_toArray, List.set_cons_zero, List.set_cons_succ]
      refine wpAnyH_take (i := 30) (v := undef) (by simp only [List.getElem?_toArray, List.getElem?_cons_succ, List.getElem?_cons_zero]; rfl) (by kernel_rfl) (by kernel_rfl) (by kernel_rfl) (fun _ _ _ h => h) (Or.inr ⟨by rfl, rfl⟩) (by assumption) ?_
      try simp only [Act.put, List.setIfInBounds_toArray, List.set_cons_zero, List.set_cons_succ]
      refine wpAnyH_take (i := 31) (v := undef) (by simp only [List.getElem?_toArray, List.getElem?_cons_succ, List.getElem?_cons_zero]; rfl) (by kernel_rfl) (by kernel_rfl) (by kernel_rfl) (fun _ _ _ h => h) (Or.inr ⟨by rfl, rfl⟩) (by assumption) ?_
      try simp only [Act.put, List.setIfInBounds_toArray, List.set_cons_zero, List.set_cons_succ]
      refine wpAnyH_take (i := 32) (v := undef) (by simp only [List.getElem?_toArray, List.getElem?_cons_succ, List.getElem?_cons_zero]; rfl) (by kernel_rfl) (by kernel_rfl) (by kernel_rfl) (fun _ _ _ h => h) (Or.inr ⟨by rfl, rfl⟩) (by assumption) ?_
      try simp only [Act.put, List.setIfInBounds_toArray, List.set_cons_zero, List.set_cons_succ]
      refine wpAnyH_take (i := 33) (v := undef) (by simp only [List.getElem?_toArray, List.getElem?_cons_succ, List.getElem?_cons_zero]; rfl) (by kernel_rfl) (by kernel_rfl) (by kernel_rfl) (fun _ _ _ h => h) (Or.inr ⟨by rfl, rfl⟩) (by assumption) ?_
      try simp only [Act.put, List.setIfInBounds_toArray, List.set_cons_zero, List.set_cons_succ]
      refine wpAnyH_take (i := 34) (v := ?_) (by simp only [List.getElem?_toArray, List.getElem?_cons_succ, List.getElem?_cons_zero]; rfl) (by kernel_rfl) (by kernel_rfl) (by kernel_rfl) (fun _ _ _ h => h) (Or.inl ⟨by rfl, ?_⟩) (by assumption) ?_
      rotate_left
      · (intro w hSw; (try dsimp only at hSw); go_simp; try with_reducible rfl)
      try simp only [Act.put, List.setIfInBounds_toArray, List.set_cons_zero, List.set_cons_succ]
      refine wpAnyH_take (i := 35) (v := ?_) (by simp only [List.getElem?_toArray, List.getElem?_cons_succ, List.getElem?_cons_zero]; rfl) (by kernel_rfl) (by kernel_rfl) (by kernel_rfl) (fun _ _ _ h => h) (Or.inl ⟨by rfl, ?_⟩) (by assumption) ?_
      rotate_left
      · (intro w hSw; (try dsimp only at hSw); go_simp; try with_reducible rfl)
      try simp only [Act.put, List.setIfInBounds_toArray, List.set_cons_zero, List.set_cons_succ]
      refine wpAnyH_done (by kernel_rfl) ?_ _
      refine NoPanic.normal ?_
      clear hb lA lB lC x1 x2 x3 x4 x5 x6
      obtain ⟨hb, lA, lB, lC, x1, x2, x3, x4, x5, x6⟩ := hHeld
      replace lA := Lib.hid lA
      replace lB := Lib.hid lB
      replace lC := Lib.hid lC
      go_wp2_with fail
      go_meet
      exact ⟨rfl, hb, lA.out, lB.out, lC.out, x1, x2, x3, x4, x5, x6⟩
    · have hE := RefDots.eql_dot ⟨p, x⟩ ⟨q, y⟩
      rw [decide_eq_false h2] at hE
      dsimp only at hE
      refine wp_region_noPanic ?_
      refine wp_region_held_drew (S := (fun w' => Below w.heap.size w w' ∧ Lies w' a3 len3 A ∧ Lies w' a4 len4 B ∧ Lies w' a5 len5 C ∧ w'.cell? ⟨w.heap.size, 0, none⟩ = some (.string ⟨p.toArray⟩) ∧ w'.cell? ⟨w.heap.size, 1, none⟩ = some (.int .u64 (x : Int)) ∧ w'.cell? ⟨w.heap.size + 1, 0, none⟩ = some (.string ⟨q.toArray⟩) ∧ w'.cell? ⟨w.heap.size + 1, 1, none⟩ = some (.int .u64 (y : Int)) ∧ w'.cell? ⟨w.heap.size + 1 + 1, 0, none⟩ = some (.string ⟨r.toArray⟩) ∧ w'.cell? ⟨w.heap.size + 1 + 1, 1, none⟩ = some (.int .u64 (z : Int)))) (by kernel_rfl) (⟨Below.drew hb, (lA.out).below (Below.drew (Below.refl _ _)), (lB.out).below (Below.drew (Below.refl _ _)), (lC.out).below (Below.drew (Below.refl _ _)), Dots.keepC x1 (Below.drew (Below.refl _ _)), Dots.keepC x2 (Below.drew (Below.refl _ _)), Dots.keepC x3 (Below.drew (Below.refl _ _)), Dots.keepC x4 (Below.drew (Below.refl _ _)), Dots.keepC x5 (Below.drew (Below.refl _ _)), Dots.keepC x6 (Below.drew (Below.refl _ _))⟩) (fun hHeld => ?_)
      refine wpAnyH_take (i := 0) (v := ?_) (by simp only [List.getElem?_toArray, List.getElem?_cons_zero]; rfl) (by kernel_rfl) (by kernel_rfl) (by kernel_rfl) (fun _ _ _ h => h) (Or.inl ⟨by rfl, ?_⟩) (by assumption) ?_
      rotate_left
      · (intro w hSw; (try dsimp only at hSw); go_simp; try with_reducible rfl)
      try simp only [Act.put, List.setIfInBounds_toArray, List.set_cons_zero, List.set_cons_succ]
      refine wpAnyH_take (i := 1) (v := ?_) (by simp only [List.getElem?_toArray, List.getElem?_cons_succ, List.getElem?_cons_zero]; rfl) (by kernel_rfl) (by kernel_rfl) (by kernel_rfl) (fun _ _ _ h => h) (Or.inl ⟨by rfl, ?_⟩) (by assumption) ?_
      rotate_left
      · (intro w hSw; (try dsimp only at hSw); go_simp; try with_reducible rfl)
      try simp only [Act.put, List.setIfInBounds_toArray, List.set_cons_zero, List.set_cons_succ]
      refine wpAnyH_take (i := 3) (v := ?_) (by simp only [List.getElem?_toArray, List.getElem?_cons_succ, List.getElem?_cons_zero]; rfl) (by kernel_rfl) (by kernel_rfl) (by kernel_rfl) (fun _ _ _ h => h) (Or.inl ⟨by rfl, ?_⟩) (by assumption) ?_
      rotate_left
      · (intro w hSw; (try dsimp only at hSw); go_simp; try with_reducible rfl)
      try simp only [Act.put, List.setIfInBounds_toArray, List.set_cons_zero, List.set_cons_succ]
      refine wpAnyH_take (i := 4) (v := ?_) (by simp only [List.getElem?_toArray, List.getElem?_cons_succ, List.getElem?_cons_zero]; rfl) (by kernel_rfl) (by kernel_rfl) (by kernel_rfl) (fun _ _ _ h => h) (Or.inl ⟨by rfl, ?_⟩) (by assumption) ?_
      rotate_left
      · (intro w hSw; (try dsimp only at hSw); go_simp; try with_reducible rfl)
      try simp only [Act.put, List.setIfInBounds_toArray, List.set_cons_zero, List.set_cons_succ]
      refine wpAnyH_ready (rs := [2]) (by kernel_rfl) (by simp) ?_
      refine AllReadyH.cons (by simp only [List.getElem?_toArray, List.getElem?_cons_succ, List.getElem?_cons_zero]; rfl) (fun K hK => ?_) AllReadyH.nil
      go_simp
      go_at_call 15
      refine (cmp_is 1 h1 _).mono ?_
      rintro e v33 ⟨rfl, k33⟩
      go_wp2_with fail
      refine hK.out _ _ (⟨bstep hHeld.1 k33, (hHeld.2.1).below k33, (hHeld.2.2.1).below k33, (hHeld.2.2.2.1).below k33, Dots.keepC hHeld.2.2.2.2.1 k33, Dots.keepC hHeld.2.2.2.2.2.1 k33, Dots.keepC hHeld.2.2.2.2.2.2.1 k33, Dots.keepC hHeld.2.2.2.2.2.2.2.1 k33, Dots.keepC hHeld.2.2.2.2.2.2.2.2.1 k33, Dots.keepC hHeld.2.2.2.2.2.2.2.2.2 k33⟩) (fun hHeld => ?_)
      clear hK K k33
      try simp only [Act.put, List.setIfInBounds_toArray, List.set_cons_zero, List.set_cons_succ]
      refine wpAnyH_ready (rs := [5]) (by kernel_rfl) (by simp) ?_
      refine AllReadyH.cons (by simp only [List.getElem?_toArray, List.getElem?_cons_succ, List.getElem?_cons_zero]; rfl) (fun K hK => ?_) AllReadyH.nil
      go_simp
      go_at_call 15
      refine (cmp_is (-1) fl.out _).mono ?_
      rintro e v34 ⟨rfl, k34⟩
      go_wp2_with fail
      refine hK.out _ _ (⟨bstep hHeld.1 k34, (hHeld.2.1).below k34, (hHeld.2.2.1).below k34, (hHeld.2.2.2.1).below k34, Dots.keepC hHeld.2.2.2.2.1 k34, Dots.keepC hHeld.2.2.2.2.2.1 k34, Dots.keepC hHeld.2.2.2.2.2.2.1 k34, Dots.keepC hHeld.2.2.2.2.2.2.2.1 k34, Dots.keepC hHeld.2.2.2.2.2.2.2.2.1 k34, Dots.keepC hHeld.2.2.2.2.2.2.2.2.2 k34⟩) (fun hHeld => ?_)
      clear hK K k34
      try simp only [Act.put, List.setIfInBounds_toArray, List.set_cons_zero, List.set_cons_succ]
      refine wpAnyH_take (i := 6) (v := ?_) (by simp only [List.getElem?_toArray, List.getElem?_cons_succ, List.getElem?_cons_zero]; rfl) (by kernel_rfl) (by kernel_rfl) (by kernel_rfl) (fun _ _ _ h => h) (Or.inl ⟨by rfl, ?_⟩) (by assumption) ?_
      rotate_left
      · (intro w hSw; (try dsimp only at hSw); go_simp; try with_reducible rfl)
      try simp only [Act.put, List.setIfInBounds_toArray, List.set_cons_zero, List.set_cons_succ]
      refine wpAnyH_take (i := 7) (v := ?_) (by simp only [List.getElem?_toArray, List.getElem?_cons_succ, List.getElem?_cons_zero]; rfl) (by kernel_rfl) (by kernel_rfl) (by kernel_rfl) (fun _ _ _ h => h) (Or.inl ⟨by rfl, ?_⟩) (by assumption) ?_
      rotate_left
      · (intro w hSw; (try dsimp only at hSw); go_simp; try with_reducible rfl)
      try simp only [Act.put, List.setIfInBounds_toArray, List.set_cons_zero, List.set_cons_succ]
      refine wpAnyH_take (i := 8) (v := ?_) (by simp only [List.getElem?_toArray, List.getElem?_cons_succ, List.getElem?_cons_zero]; rfl) (by kernel_rfl) (by kernel_rfl) (by kernel_rfl) (fun _ _ _ h => h) (Or.inl ⟨by rfl, ?_⟩) (by assumption) ?_
      rotate_left
      · (intro w hSw; (try dsimp only at hSw); go_simp; try with_reducible rfl)
      try simp only [Act.put, List.setIfInBounds_toArray, List.set_cons_zero, List.set_cons_succ]
      refine wpAnyH_take (i := 9) (v := ?_) (by simp only [List.getElem?_toArray, List.getElem?_cons_succ, List.getElem?_cons_zero]; rfl) (by kernel_rfl) (by kernel_rfl) (by kernel_rfl) (fun _ _ _ h => h) (Or.inl ⟨by rfl, ?_⟩) (by assumption) ?_
      rotate_left
      · (intro w hSw; (try dsimp only at hSw); go_simp; try with_reducible rfl)
      try simp only [Act.put, List.setIfInBounds_toArray, List.set_cons_zero, List.set_cons_succ]
      refine wpAnyH_take (i := 10) (v := ?_) (by simp only [List.getElem?_toArray, List.getElem?_cons_succ, List.getElem?_cons_zero]; rfl) (by kernel_rfl) (by kernel_rfl) (by kernel_rfl) (fun _ _ _ h => h) (Or.inl ⟨by rfl, ?_⟩) (by assumption) ?_
      rotate_left
      · (intro w hSw; (try dsimp only at hSw); go_simp; try with_reducible rfl)
      try simp only [Act.put, List.setIfInBounds_toArray, List.set_cons_zero, List.set_cons_succ]
      refine wpAnyH_take (i := 13) (v := ?_) (by simp only [List.getElem?_toArray, List.getElem?_cons_succ, List.getElem?_cons_zero]; rfl) (by kernel_rfl) (by kernel_rfl) (by kernel_rfl) (fun _ _ _ h => h) (Or.inl ⟨by rfl, ?_⟩) (by assumption) ?_
      rotate_left
      · (intro w hSw; (try dsimp only at hSw); go_simp; try with_reducible rfl)
      try simp only [Act.put, List.setIfInBounds_toArray, List.set_cons_zero, List.set_cons_succ]
      refine wpAnyH_take (i := 14) (v := ?_) (by simp only [List.getElem?_toArray, List.getElem?_cons_succ, List.getElem?_cons_zero]; rfl) (by kernel_rfl) (by kernel_rfl) (by kernel_rfl) (fun _ _ _ h => h) (Or.inl ⟨by rfl, ?_⟩) (by assumption) ?_
      rotate_left
      · (intro w hSw; (try dsimp only at hSw); go_simp; try with_reducible rfl)
      try simp only [Act.put, List.setIfInBounds_toArray, List.set_cons_zero, List.set_cons_succ]
      refine wpAnyH_take (i := 15) (v := ?_) (by simp only [List.getElem?_toArray, List.getElem?_cons_succ, List.getElem?_cons_zero]; rfl) (by kernel_rfl) (by kernel_rfl) (by kernel_rfl) (fun _ _ _ h => h) (Or.inl ⟨by rfl, ?_⟩) (by assumption) ?_
      rotate_left
      · (intro w hSw; (try dsimp only at hSw); go_simp; try with_reducible rfl)
      try simp only [Act.put, List.setIfInBounds_toArray, List.set_cons_zero, List.set_cons_succ]
      refine wpAnyH_ready (rs := [11]) (by kernel_rfl) (by simp) ?_
      refine AllReadyH.cons (by simp only [List.getElem?_toArray, List.getElem?_cons_succ, List.getElem?_cons_zero]; rfl) (fun K hK => ?_) AllReadyH.nil
      go_simp
      go_at_call 15
      refine (cmp_is 1 h1 _).mono ?_
      rintro e v35 ⟨rfl, k35⟩
      go_wp2_with fail
      refine hK.out _ _ (⟨bstep hHeld.1 k35, (hHeld.2.1).below k35, (hHeld.2.2.1).below k35, (hHeld.2.2.2.1).below k35, Dots.keepC hHeld.2.2.2.2.1 k35, Dots.keepC hHeld.2.2.2.2.2.1 k35, Dots.keepC hHeld.2.2.2.2.2.2.1 k35, Dots.keepC hHeld.2.2.2.2.2.2.2.1 k35, Dots.keepC hHeld.2.2.2.2.2.2.2.2.1 k35, Dots.keepC hHeld.2.2.2.2.2.2.2.2.2 k35⟩) (fun hHeld => ?_)
      clear hK K k35
      try simp only [Act.put, List.setIfInBounds_toArray, List.set_cons_zero, List.set_cons_succ]
      refine wpAnyH_take (i := 12) (v := ?_) (by simp only [List.getElem?_toArray, List.getElem?_cons_succ, List.getElem?_cons_zero]; rfl) (by kernel_rfl) (by kernel_rfl) (by kernel_rfl) (fun _ _ _ h => h) (Or.inl ⟨by rfl, ?_⟩) (by assumption) ?_
      rotate_left
      · (intro w hSw; (try dsimp only at hSw); go_simp; try with_reducible rfl)
      try simp only [Act.put, List.setIfInBounds_toArray, List.set_cons_zero, List.set_cons_succ]
      refine wpAnyH_take (i := 16) (v := ?_) (by simp only [List.getElem?_toArray, List.getElem?_cons_succ, List.getElem?_cons_zero]; rfl) (by kernel_rfl) (by kernel_rfl) (by kernel_rfl) (fun _ _ _ h => h) (Or.inl ⟨by rfl, ?_⟩) (by assumption) ?_
      rotate_left
      · (intro w hSw; (try dsimp only at hSw); go_simp; try with_reducible rfl)
      try simp only [Act.put, List.setIfInBounds_toArray, List.set_cons_zero, List.set_cons_succ]
      refine wpAnyH_take (i := 17) (v := ?_) (by simp only [List.getElem?_toArray, List.getElem?_cons_succ, List.getElem?_cons_zero]; rfl) (by kernel_rfl) (by kernel_rfl) (by kernel_rfl) (fun _ _ _ h => h) (Or.inl ⟨by rfl, ?_⟩) (by assumption) ?_
      rotate_left
      · (intro w hSw; (try dsimp only at hSw); go_simp; try with_reducible rfl)
      try simp only [Act.put, List.setIfInBounds_toArray, List.set_cons_zero, List.set_cons_succ]
      refine wpAnyH_take (i := 18) (v := ?_) (by simp only [List.getElem?_toArray, List.getElem?_cons_succ, List.getElem?_cons_zero]; rfl) (by kernel_rfl) (by kernel_rfl) (by kernel_rfl) (fun _ _ _ h => h) (Or.inl ⟨by rfl, ?_⟩) (by assumption) ?_
      rotate_left
      · (intro w hSw; (try dsimp only at hSw); go_simp; try with_reducible rfl)
      try simp only [Act.put, List.setIfInBounds_toArray, List.set_cons_zero, List.set_cons_succ]
      refine wpAnyH_take (i := 19) (v := ?_) (by simp only [List.getElem?_toArray, List.getElem?_cons_succ, List.getElem?_cons_zero]; rfl) (by kernel_rfl) (by kernel_rfl) (by kernel_rfl) (fun _ _ _ h => h) (Or.inl ⟨by rfl, ?_⟩) (by assumption) ?_
      rotate_left
      · (intro w hSw; (try dsimp only at hSw); go_simp; try with_reducible rfl)
      try simp only [Act.put, List.setIfInBounds_toArray, List.set_cons_zero, List.set_cons_succ]
      refine wpAnyH_take (i := 20) (v := ?_) (by simp only [List.getElem?_toArray, List.getElem?_cons_succ, List.getElem?_cons_zero]; rfl) (by kernel_rfl) (by kernel_rfl) (by kernel_rfl) (fun _ _ _ h => h) (Or.inl ⟨by rfl, ?_⟩) (by assumption) ?_
      rotate_left
      · (intro w hSw; (try dsimp only at hSw); go_simp; try with_reducible rfl)
      try simp only [Act.put, List.setIfInBounds_toArray, List.set_cons_zero, List.set_cons_succ]
      refine wpAnyH_ready (rs := [21]) (by kernel_rfl) (by simp) ?_
      refine AllReadyH.cons (by simp only [List.getElem?_toArray, List.getElem?_cons_succ, List.getElem?_cons_zero]; rfl) (fun K hK => ?_) AllReadyH.nil
      go_simp
      go_at_call 15
      refine (cmp_is 1 h1 _).mono ?_
      rintro e v36 ⟨rfl, k36⟩
      go_wp2_with fail
      refine hK.out _ _ (⟨bstep hHeld.1 k36, (hHeld.2.1).below k36, (hHeld.2.2.1).below k36, (hHeld.2.2.2.1).below k36, Dots.keepC hHeld.2.2.2.2.1 k36, Dots.keepC hHeld.2.2.2.2.2.1 k36, Dots.keepC hHeld.2.2.2.2.2.2.1 k36, Dots.keepC hHeld.2.2.2.2.2.2.2.1 k36, Dots.keepC hHeld.2.2.2.2.2.2.2.2.1 k36, Dots.keepC hHeld.2.2.2.2.2.2.2.2.2 k36⟩) (fun hHeld => ?_)
      clear hK K k36
      try simp only [Act.put, List.setIfInBounds_toArray, List.set_cons_zero, List.set_cons_succ]
      refine wpAnyH_take (i := 22) (v := ?_) (by simp only [List.getElem?_toArray, List.getElem?_cons_succ, List.getElem?_cons_zero]; rfl) (by kernel_rfl) (by kernel_rfl) (by kernel_rfl) (fun _ _ _ h => h) (Or.inl ⟨by rfl, ?_⟩) (by assumption) ?_
      rotate_left
      · (intro w hSw; (try dsimp only at hSw); go_simp; try with_reducible rfl)
      try simp only [Act.put, List.setIfInBounds_toArray, List.set_cons_zero, List.set_cons_succ]
      refine wpAnyH_take (i := 23) (v := ?_) (by simp only [List.getElem?_toArray, List.getElem?_cons_succ, List.getElem?_cons_zero]; rfl) (by kernel_rfl) (by kernel_rfl) (by kernel_rfl) (fun _ _ _ h => h) (Or.inl ⟨by rfl, ?_⟩) (by assumption) ?_
      rotate_left
      · (intro w hSw; (try dsimp only at hSw); go_simp; try with_reducible rfl)
      try simp only [Act.put, List.setIfInBounds_toArray, List.set_cons_zero, List.set_cons_succ]
      refine wpAnyH_take (i := 24) (v := undef) (by simp only [List.getElem?_toArray, List.getElem?_cons_succ, List.getElem?_cons_zero]; rfl) (by kernel_rfl) (by kernel_rfl) (by kernel_rfl) (fun _ _ _ h => h) (Or.inr ⟨by rfl, rfl⟩) (by assumption) ?_
      try simp only [Act.put, List.setIfInBounds_toArray, List.set_cons_zero, List.set_cons_succ]
      refine wpAnyH_take (i := 25) (v := undef) (by simp only [List.getElem?_toArray, List.getElem?_cons_succ, List.getElem?_cons_zero]; rfl) (by kernel_rfl) (by kernel_rfl) (by kernel_rfl) (fun _ _ _ h => h) (Or.inr ⟨by rfl, rfl⟩) (by assumption) ?_
      try simp only [Act.put, List.setIfInBounds_toArray, List.set_cons_zero, List.set_cons_succ]
      refine wpAnyH_take (i := 26) (v := undef) (by simp only [List.getElem?_toArray, List.getElem?_cons_succ, List.getElem?_cons_zero]; rfl) (by kernel_rfl) (by kernel_rfl) (by kernel_rfl) (fun _ _ _ h => h) (Or.inr ⟨by rfl, rfl⟩) (by assumption) ?_
      try simp only [Act.put, List.setIfInBounds_toArray, List.set_cons_zero, List.set_cons_succ]
      refine wpAnyH_take (i := 27) (v := undef) (by simp only [List.getElem?_toArray, List.getElem?_cons_succ, List.getElem?_cons_zero]; rfl) (by kernel_rfl) (by kernel_rfl) (by kernel_rfl) (fun _ _ _ h => h) (Or.inr ⟨by rfl, rfl⟩) (by assumption) ?_
      try simp only [Act.put, List.setIfInBounds_toArray, List.set_cons_zero, List.set_cons_succ]
      refine wpAnyH_take (i := 28) (v := ?_) (by simp only [List.getElem?_toArray, List.getElem?_cons_succ, List.getElem?_cons_zero]; rfl) (by kernel_rfl) (by kernel_rfl) (by kernel_rfl) (fun _ _ _ h => h) (Or.inl ⟨by rfl, ?_⟩) (by assumption) ?_
      rotate_left
      · (intro w hSw; (try dsimp only at hSw); go_simp; try with_reducible rfl)
      try simp only [Act.put, List.setIfInBounds_toArray, List.set_cons_zero, List.set_cons_succ]
      refine wpAnyH_take (i := 29) (v := ?_) (by simp only [List.getElem?_toArray, List.getElem?_cons_succ, List.getElem?_cons_zero]; rfl) (by kernel_rfl) (by kernel_rfl) (by kernel_rfl) (fun _ _ _ h => h) (Or.inl ⟨by rfl, ?_⟩) (by assumption) ?_
      rotate_left
      · (intro w hSw; (try dsimp only at hSw); go_simp; try with_reducible rfl)
      try simp only [Act.put, List.setIfInBounds_toArray, List.set_cons_zero, List.set_cons_succ]
      refine wpAnyH_take (i := 30) (v := undef) (by simp only [List.getElem?_toArray, List.getElem?_cons_succ, List.getElem?_cons_zero]; rfl) (by kernel_rfl) (by kernel_rfl) (by kernel_rfl) (fun _ _ _ h => h) (Or.inr ⟨by rfl, rfl⟩) (by assumption) ?_
      try simp only [Act.put, List.setIfInBounds_toArray, List.set_cons_zero, List.set_cons_succ]
      refine wpAnyH_take (i := 31) (v := undef) (by simp only [List.getElem?_toArray, List.getElem?_cons_succ, List.getElem?_cons_zero]; rfl) (by kernel_rfl) (by kernel_rfl) (by kernel_rfl) (fun _ _ _ h => h) (Or.inr ⟨by rfl, rfl⟩) (by assumption) ?_
      try simp only [Act.put, List.setIfInBounds_toArray, List.set_cons_zero, List.set_cons_succ]
      refine wpAnyH_take (i := 32) (v := undef) (by simp only [List.getElem?_toArray, List.getElem?_cons_succ, List.getElem?_cons_zero]; rfl) (by kernel_rfl) (by kernel_rfl) (by kernel_rfl) (fun _ _ _ h => h) (Or.inr ⟨by rfl, rfl⟩) (by assumption) ?_
      try simp only [Act.put, List.setIfInBounds_toArray, List.set_cons_zero, List.set_cons_succ]
      refine wpAnyH_take (i := 33) (v := undef) (by simp only [List.getElem?_toArray, List.getElem?_cons_succ, List.getElem?_cons_zero]; rfl) (by kernel_rfl) (by kernel_rfl) (by kernel_rfl) (fun _ _ _ h => h) (Or.inr ⟨by rfl, rfl⟩) (by assumption) ?_
      try simp only [Act.put, List.setIfInBounds_toArray, List.set_cons_zero, List.set_cons_succ]
      refine wpAnyH_take (i := 34) (v := ?_) (by simp only [List.getElem?_toArray, List.getElem?_cons_succ, List.getElem?_cons_zero]; rfl) (by kernel_rfl) (by kernel_rfl) (by kernel_rfl) (fun _ _ _ h => h) (Or.inl ⟨by rfl, ?_⟩) (by assumption) ?_
      rotate_left
      · (intro w hSw; (try dsimp only at hSw); go_simp; try with_reducible rfl)
      try simp only [Act.put, List.setIfInBounds_toArray, List.set_cons_zero, List.set_cons_succ]
      refine wpAnyH_take (i := 35) (v := ?_) (by simp only [List.getElem?_toArray, List.getElem?_cons_succ, List.getElem?_cons_zero]; rfl) (by kernel_rfl) (by kernel_rfl) (by kernel_rfl) (fun _ _ _ h => h) (Or.inl ⟨by rfl, ?_⟩) (by assumption) ?_
      rotate_left
      · (intro w hSw; (try dsimp only at hSw); go_simp; try with_reducible rfl)
      try simp only [Act.put, List.setIfInBounds_toArray, List.set_cons_zero, List.set_cons_succ]
      refine wpAnyH_done (by kernel_rfl) ?_ _
      refine NoPanic.normal ?_
      clear hb lA lB lC x1 x2 x3 x4 x5 x6
      obtain ⟨hb, lA, lB, lC, x1, x2, x3, x4, x5, x6⟩ := hHeld
      replace lA := Lib.hid lA
      replace lB := Lib.hid lB
      replace lC := Lib.hid lC
      go_wp2_with fail
      go_meet
      exact ⟨rfl, hb, lA.out, lB.out, lC.out, x1, x2, x3, x4, x5, x6⟩
  clear hb lA lB lC x1 x2 x3 x4 x5 x6
  obtain ⟨rfl, hb, lA, lB, lC, x1, x2, x3, x4, x5, x6⟩ := hcut
  replace lA := Lib.hid lA
  replace lB := Lib.hid lB
  replace lC := Lib.hid lC
  go_upto_region 5 with fail
  go_cut [12] (fun s wx => s = .bool true ∧ Below w.heap.size w wx ∧ Lies wx a3 len3 A ∧ Lies wx a4 len4 B ∧ Lies wx a5 len5 C ∧ wx.cell? ⟨w.heap.size, 0, none⟩ = some (.string ⟨p.toArray⟩) ∧ wx.cell? ⟨w.heap.size, 1, none⟩ = some (.int .u64 (x : Int)) ∧ wx.cell? ⟨w.heap.size + 1, 0, none⟩ = some (.string ⟨q.toArray⟩) ∧ wx.cell? ⟨w.heap.size + 1, 1, none⟩ = some (.int .u64 (y : Int)) ∧ wx.cell? ⟨w.heap.size + 1 + 1, 0, none⟩ = some (.string ⟨r.toArray⟩) ∧ wx.cell? ⟨w.heap.size + 1 + 1, 1, none⟩ = some (.int .u64 (z : Int)))
  case first =>
    cases h1 : covB A B
    · skip
      go_wp2_with fail
      refine (covers_is _ (cov_at h1) lA.out lB.out (by omega) (by omega)).mono ?_
      rintro e v37 ⟨rfl, k37⟩
      replace lA := Lib.hid ((lA.out).below k37)
      replace lB := Lib.hid ((lB.out).below k37)
      replace lC := Lib.hid ((lC.out).below k37)
      replace x1 := (Dots.keepC x1 k37)
      replace x2 := (Dots.keepC x2 k37)
      replace x3 := (Dots.keepC x3 k37)
      replace x4 := (Dots.keepC x4 k37)
      replace x5 := (Dots.keepC x5 k37)
      replace x6 := (Dots.keepC x6 k37)
      replace hb := bstep hb k37
      clear k37
      go_wp2_with fail
      refine (covers_is _ (cov_at h1) lA.out lB.out (by omega) (by omega)).mono ?_
      rintro e v38 ⟨rfl, k38⟩
      replace lA := Lib.hid ((lA.out).below k38)
      replace lB := Lib.hid ((lB.out).below k38)
      replace lC := Lib.hid ((lC.out).below k38)
      replace x1 := (Dots.keepC x1 k38)
      replace x2 := (Dots.keepC x2 k38)
      replace x3 := (Dots.keepC x3 k38)
      replace x4 := (Dots.keepC x4 k38)
      replace x5 := (Dots.keepC x5 k38)
      replace x6 := (Dots.keepC x6 k38)
      replace hb := bstep hb k38
      clear k38
      go_wp2_with fail
      refine (alive_any _).mono ?_
      rintro e v39 ⟨rfl, k39⟩
      replace lA := Lib.hid ((lA.out).below k39)
      replace lB := Lib.hid ((lB.out).below k39)
      replace lC := Lib.hid ((lC.out).below k39)
      replace x1 := (Dots.keepC x1 k39)
      replace x2 := (Dots.keepC x2 k39)
      replace x3 := (Dots.keepC x3 k39)
      replace x4 := (Dots.keepC x4 k39)
      replace x5 := (Dots.keepC x5 k39)
      replace x6 := (Dots.keepC x6 k39)
      replace hb := bstep hb k39
      clear k39
      go_wp2_with fail
      go_meet
      exact ⟨rfl, hb, lA.out, lB.out, lC.out, x1, x2, x3, x4, x5, x6⟩
    · skip
      go_wp2_with fail
      refine (covers_is _ (cov_at h1) lA.out lB.out (by omega) (by omega)).mono ?_
      rintro e v40 ⟨rfl, k40⟩
      replace lA := Lib.hid ((lA.out).below k40)
      replace lB := Lib.hid ((lB.out).below k40)
      replace lC := Lib.hid ((lC.out).below k40)
      replace x1 := (Dots.keepC x1 k40)
      replace x2 := (Dots.keepC x2 k40)
      replace x3 := (Dots.keepC x3 k40)
      replace x4 := (Dots.keepC x4 k40)
      replace x5 := (Dots.keepC x5 k40)
      replace x6 := (Dots.keepC x6 k40)
      replace hb := bstep hb k40
      clear k40
      cases h2 : covB B C
      · skip
        go_wp2_with fail
        refine (covers_is _ (cov_at h2) lB.out lC.out (by omega) (by omega)).mono ?_
        rintro e v41 ⟨rfl, k41⟩
        replace lA := Lib.hid ((lA.out).below k41)
        replace lB := Lib.hid ((lB.out).below k41)
        replace lC := Lib.hid ((lC.out).below k41)
        replace x1 := (Dots.keepC x1 k41)
        replace x2 := (Dots.keepC x2 k41)
        replace x3 := (Dots.keepC x3 k41)
        replace x4 := (Dots.keepC x4 k41)
        replace x5 := (Dots.keepC x5 k41)
        replace x6 := (Dots.keepC x6 k41)
        replace hb := bstep hb k41
        clear k41
        go_wp2_with fail
        refine (covers_is _ (cov_at h1) lA.out lB.out (by omega) (by omega)).mono ?_
        rintro e v42 ⟨rfl, k42⟩
        replace lA := Lib.hid ((lA.out).below k42)
        replace lB := Lib.hid ((lB.out).below k42)
        replace lC := Lib.hid ((lC.out).below k42)
        replace x1 := (Dots.keepC x1 k42)
        replace x2 := (Dots.keepC x2 k42)
        replace x3 := (Dots.keepC x3 k42)
        replace x4 := (Dots.keepC x4 k42)
        replace x5 := (Dots.keepC x5 k42)
        replace x6 := (Dots.keepC x6 k42)
        replace hb := bstep hb k42
        clear k42
        cases h3 : hasL B p x
        · skip
          go_wp2_with fail
          refine (has_is p x _ h3 lB.out (by omega) okB.out).mono ?_
          rintro e v43 ⟨rfl, k43⟩
          replace lA := Lib.hid ((lA.out).below k43)
          replace lB := Lib.hid ((lB.out).below k43)
          replace lC := Lib.hid ((lC.out).below k43)
          replace x1 := (Dots.keepC x1 k43)
          replace x2 := (Dots.keepC x2 k43)
          replace x3 := (Dots.keepC x3 k43)
          replace x4 := (Dots.keepC x4 k43)
          replace x5 := (Dots.keepC x5 k43)
          replace x6 := (Dots.keepC x6 k43)
          replace hb := bstep hb k43
          clear k43
          go_wp2_with fail
          refine (alive_any _).mono ?_
          rintro e v44 ⟨rfl, k44⟩
          replace lA := Lib.hid ((lA.out).below k44)
          replace lB := Lib.hid ((lB.out).below k44)
          replace lC := Lib.hid ((lC.out).below k44)
          replace x1 := (Dots.keepC x1 k44)
          replace x2 := (Dots.keepC x2 k44)
          replace x3 := (Dots.keepC x3 k44)
          replace x4 := (Dots.keepC x4 k44)
          replace x5 := (Dots.keepC x5 k44)
          replace x6 := (Dots.keepC x6 k44)
          replace hb := bstep hb k44
          clear k44
          go_wp2_with fail
          go_meet
          exact ⟨rfl, hb, lA.out, lB.out, lC.out, x1, x2, x3, x4, x5, x6⟩
        · have h4 := has_cov h1 p x h3
          go_wp2_with fail
          refine (has_is p x _ h3 lB.out (by omega) okB.out).mono ?_
          rintro e v45 ⟨rfl, k45⟩
          replace lA := Lib.hid ((lA.out).below k45)
          replace lB := Lib.hid ((lB.out).below k45)
          replace lC := Lib.hid ((lC.out).below k45)
          replace x1 := (Dots.keepC x1 k45)
          replace x2 := (Dots.keepC x2 k45)
          replace x3 := (Dots.keepC x3 k45)
          replace x4 := (Dots.keepC x4 k45)
          replace x5 := (Dots.keepC x5 k45)
          replace x6 := (Dots.keepC x6 k45)
          replace hb := bstep hb k45
          clear k45
          go_wp2_with fail
          refine (has_is p x _ h4 lA.out (by omega) okA.out).mono ?_
          rintro e v46 ⟨rfl, k46⟩
          replace lA := Lib.hid ((lA.out).below k46)
          replace lB := Lib.hid ((lB.out).below k46)
          replace lC := Lib.hid ((lC.out).below k46)
          replace x1 := (Dots.keepC x1 k46)
          replace x2 := (Dots.keepC x2 k46)
          replace x3 := (Dots.keepC x3 k46)
          replace x4 := (Dots.keepC x4 k46)
          replace x5 := (Dots.keepC x5 k46)
          replace x6 := (Dots.keepC x6 k46)
          replace hb := bstep hb k46
          clear k46
          go_wp2_with fail
          refine (alive_any _).mono ?_
          rintro e v47 ⟨rfl, k47⟩
          replace lA := Lib.hid ((lA.out).below k47)
          replace lB := Lib.hid ((lB.out).below k47)
          replace lC := Lib.hid ((lC.out).below k47)
          replace x1 := (Dots.keepC x1 k47)
          replace x2 := (Dots.keepC x2 k47)
          replace x3 := (Dots.keepC x3 k47)
          replace x4 := (Dots.keepC x4 k47)
          replace x5 := (Dots.keepC x5 k47)
          replace x6 := (Dots.keepC x6 k47)
          replace hb := bstep hb k47
          clear k47
          go_wp2_with fail
          go_meet
          exact ⟨rfl, hb, lA.out, lB.out, lC.out, x1, x2, x3, x4, x5, x6⟩
      · skip
        go_wp2_with fail
        refine (covers_is _ (cov_at h2) lB.out lC.out (by omega) (by omega)).mono ?_
        rintro e v48 ⟨rfl, k48⟩
        replace lA := Lib.hid ((lA.out).below k48)
        replace lB := Lib.hid ((lB.out).below k48)
        replace lC := Lib.hid ((lC.out).below k48)
        replace x1 := (Dots.keepC x1 k48)
        replace x2 := (Dots.keepC x2 k48)
        replace x3 := (Dots.keepC x3 k48)
        replace x4 := (Dots.keepC x4 k48)
        replace x5 := (Dots.keepC x5 k48)
        replace x6 := (Dots.keepC x6 k48)
        replace hb := bstep hb k48
        clear k48
        go_wp2_with fail
        refine (covers_is true (cov_trans h1 h2) lA.out lC.out (by omega) (by omega)).mono ?_
        rintro e v49 ⟨rfl, k49⟩
        replace lA := Lib.hid ((lA.out).below k49)
        replace lB := Lib.hid ((lB.out).below k49)
        replace lC := Lib.hid ((lC.out).below k49)
        replace x1 := (Dots.keepC x1 k49)
        replace x2 := (Dots.keepC x2 k49)
        replace x3 := (Dots.keepC x3 k49)
        replace x4 := (Dots.keepC x4 k49)
        replace x5 := (Dots.keepC x5 k49)
        replace x6 := (Dots.keepC x6 k49)
        replace hb := bstep hb k49
        clear k49
        go_wp2_with fail
        refine (covers_is _ (cov_at h1) lA.out lB.out (by omega) (by omega)).mono ?_
        rintro e v50 ⟨rfl, k50⟩
        replace lA := Lib.hid ((lA.out).below k50)
        replace lB := Lib.hid ((lB.out).below k50)
        replace lC := Lib.hid ((lC.out).below k50)
        replace x1 := (Dots.keepC x1 k50)
        replace x2 := (Dots.keepC x2 k50)
        replace x3 := (Dots.keepC x3 k50)
        replace x4 := (Dots.keepC x4 k50)
        replace x5 := (Dots.keepC x5 k50)
        replace x6 := (Dots.keepC x6 k50)
        replace hb := bstep hb k50
        clear k50
        cases h3 : hasL B p x
        · skip
          go_wp2_with fail
          refine (has_is p x _ h3 lB.out (by omega) okB.out).mono ?_
          rintro e v51 ⟨rfl, k51⟩
          replace lA := Lib.hid ((lA.out).below k51)
          replace lB := Lib.hid ((lB.out).below k51)
          replace lC := Lib.hid ((lC.out).below k51)
          replace x1 := (Dots.keepC x1 k51)
          replace x2 := (Dots.keepC x2 k51)
          replace x3 := (Dots.keepC x3 k51)
          replace x4 := (Dots.keepC x4 k51)
          replace x5 := (Dots.keepC x5 k51)
          replace x6 := (Dots.keepC x6 k51)
          replace hb := bstep hb k51
          clear k51
          go_wp2_with fail
          refine (alive_any _).mono ?_
          rintro e v52 ⟨rfl, k52⟩
          replace lA := Lib.hid ((lA.out).below k52)
          replace lB := Lib.hid ((lB.out).below k52)
          replace lC := Lib.hid ((lC.out).below k52)
          replace x1 := (Dots.keepC x1 k52)
          replace x2 := (Dots.keepC x2 k52)
          replace x3 := (Dots.keepC x3 k52)
          replace x4 := (Dots.keepC x4 k52)
          replace x5 := (Dots.keepC x5 k52)
          replace x6 := (Dots.keepC x6 k52)
          replace hb := bstep hb k52
          clear k52
          go_wp2_with fail
          go_meet
          exact ⟨rfl, hb, lA.out, lB.out, lC.out, x1, x2, x3, x4, x5, x6⟩
        · have h4 := has_cov h1 p x h3
          go_wp2_with fail
          refine (has_is p x _ h3 lB.out (by omega) okB.out).mono ?_
          rintro e v53 ⟨rfl, k53⟩
          replace lA := Lib.hid ((lA.out).below k53)
          replace lB := Lib.hid ((lB.out).below k53)
          replace lC := Lib.hid ((lC.out).below k53)
          replace x1 := (Dots.keepC x1 k53)
          replace x2 := (Dots.keepC x2 k53)
          replace x3 := (Dots.keepC x3 k53)
          replace x4 := (Dots.keepC x4 k53)
          replace x5 := (Dots.keepC x5 k53)
          replace x6 := (Dots.keepC x6 k53)
          replace hb := bstep hb k53
          clear k53
          go_wp2_with fail
          refine (has_is p x _ h4 lA.out (by omega) okA.out).mono ?_
          rintro e v54 ⟨rfl, k54⟩
          replace lA := Lib.hid ((lA.out).below k54)
          replace lB := Lib.hid ((lB.out).below k54)
          replace lC := Lib.hid ((lC.out).below k54)
          replace x1 := (Dots.keepC x1 k54)
          replace x2 := (Dots.keepC x2 k54)
          replace x3 := (Dots.keepC x3 k54)
          replace x4 := (Dots.keepC x4 k54)
          replace x5 := (Dots.keepC x5 k54)
          replace x6 := (Dots.keepC x6 k54)
          replace hb := bstep hb k54
          clear k54
          go_wp2_with fail
          refine (alive_any _).mono ?_
          rintro e v55 ⟨rfl, k55⟩
          replace lA := Lib.hid ((lA.out).below k55)
          replace lB := Lib.hid ((lB.out).below k55)
          replace lC := Lib.hid ((lC.out).below k55)
          replace x1 := (Dots.keepC x1 k55)
          replace x2 := (Dots.keepC x2 k55)
          replace x3 := (Dots.keepC x3 k55)
          replace x4 := (Dots.keepC x4 k55)
          replace x5 := (Dots.keepC x5 k55)
          replace x6 := (Dots.keepC x6 k55)
          replace hb := bstep hb k55
          clear k55
          go_wp2_with fail
          go_meet
          exact ⟨rfl, hb, lA.out, lB.out, lC.out, x1, x2, x3, x4, x5, x6⟩
  clear hb lA lB lC x1 x2 x3 x4 x5 x6
  obtain ⟨rfl, hb, lA, lB, lC, x1, x2, x3, x4, x5, x6⟩ := hcut
  replace lA := Lib.hid lA
  replace lB := Lib.hid lB
  replace lC := Lib.hid lC
  go_wp2
  go_ret
  exact ⟨rfl, hb⟩

end Go.Proofs.Ytafelgmppmfcaaa.DotsOrder
