/- health.Join. -/
import Derived.Test.YtfdcmmafdgagoaaBeatSuspect
namespace Go.Proofs.Ytfdcmmafdgagoaa
namespace Beat
open Go.RowKit Go.Proofs.Ytfdcmmafdgagoaa.Order

/-- Joined. -/
def joinB (L K : List B) : List B := if mayB L && mayB K then mergeL L K else []
def lenOf : Value → Nat
  | .slice _ n _ => n
  | _ => 0
theorem merge_length : ∀ (a b : List B), (mergeL a b).length ≤ a.length + b.length
  | [], b => by rw [mergeL]; simp
  | x :: a, [] => by rw [mergeL]; simp
  | x :: a, y :: b => by
    rw [mergeL]
    split
    · have := merge_length a (y :: b); simp only [List.length_cons] at this ⊢; omega
    split
    · have := merge_length (x :: a) b; simp only [List.length_cons] at this ⊢; omega
    · have := merge_length a b; simp only [List.length_cons] at this ⊢; omega
termination_by a b => a.length + b.length
theorem merge_nil (a : List B) : mergeL a [] = a := by cases a <;> rw [mergeL]
theorem merge_lt {x y : B} {a b : List B} (h : lt x.p y.p) : mergeL (x :: a) (y :: b) = x :: mergeL a (y :: b) := by rw [mergeL, if_pos h]
theorem merge_gt {x y : B} {a b : List B} (h : lt y.p x.p) : mergeL (x :: a) (y :: b) = y :: mergeL (x :: a) b := by rw [mergeL, if_neg (lt_asymm h), if_pos h]
theorem merge_eq {x y : B} {a b : List B} (h : x.p = y.p) : mergeL (x :: a) (y :: b) = greater x y :: mergeL a b := by rw [mergeL, if_neg (by rw [h]; exact lt_irrefl _), if_neg (by rw [h]; exact lt_irrefl _)]
theorem lies_nil_of {w : World} {a : Option Addr} {A : List B} (h : Lies w a 0 A) : A = [] := List.length_eq_zero_iff.1 h.1.symm
theorem lies_cons_of {w : World} {a : Option Addr} {n : Nat} {A : List B} (h : Lies w a n A) (hn : 0 < n) : ∃ x A' b o, A = x :: A' ∧ a = some ⟨b, o, none⟩ ∧ w.cell? ⟨b, o, none⟩ = some (.string ⟨x.p.toArray⟩) ∧ w.cell? ⟨b, o + 1, none⟩ = some (.int .u64 (x.n : Int)) ∧ w.cell? ⟨b, o + 2, none⟩ = some (.bool x.bad) ∧
    Lies w (some ⟨b, o + 3, none⟩) (n - 1) A' ∧ b < w.heap.size := by
  obtain ⟨b, o, rfl, hc⟩ := lies_at h hn
  cases A with
  | nil => have := h.1; simp at this; omega
  | cons x A' =>
    obtain ⟨c1, c2, c3⟩ := hc 0 (by simp)
    simp only [Nat.zero_mul, Nat.add_zero, List.getElem_cons_zero] at c1 c2 c3
    exact ⟨x, A', b, o, rfl, rfl, c1, c2, c3, Row.Lies.tail h, World.block_lt_of_cell? _ _ c1⟩
theorem cut_tail {w : World} {b o n c : Nat} {A' : List B} (h : Lies w (some ⟨b, o + 3, none⟩) (n - 1) A') : Lies w (some ⟨b, (if c = 1 then o else o + 3), none⟩) (n - 1) A' ∨ c ≠ 1 ∨ n - 1 ≠ 0 := by
  by_cases hc : c = 1
  · by_cases hn : n - 1 = 0
    · left
      rw [hn] at h ⊢
      obtain rfl := lies_nil_of h
      exact Row.Lies.nil _ _
    · exact .inr (.inr hn)
  · exact .inr (.inl hc)

set_option maxRecDepth 100000 in
set_option maxHeartbeats 8000000 in
theorem join_any (L K : List B) (a1 a2 : Option Addr) (c1 c2 : Nat) (w : World) (hL : Lies w a1 L.length L) (hK : Lies w a2 K.length K) (hW1 : Small L) (hW2 : Small K) (hc1 : L.length ≤ c1) (hc2 : K.length ≤ c2) (hm1 : c1 ≤ 9223372036854775807) (hm2 : c2 ≤ 9223372036854775807) :
    Calls Try.prog 12 #[.slice a1 L.length c1, .slice a2 K.length c2] w fun e w' => ∃ v', e = .returned v' ∧ Mine w' w.heap.size v' (joinB L K) ∧ Below w.heap.size w w' := by
  have hb := Below.refl w.heap.size w
  have HL := Lib.hid hL
  have HK := Lib.hid hK
  have C1 := Lib.hid (fun w h => may_any L a1 c1 w h hW1)
  have C2 := Lib.hid (fun w h => may_any K a2 c2 w h hW2)
  have HO : Hid (joinB L K = if mayB L && mayB K then mergeL L K else []) := Lib.hid rfl
  clear hL hK hW1 hW2
  cases h1 : mayB L
  · have hm := h1
    have H2 : Hid (joinB L K = []) := Lib.hid (by rw [HO.out, h1]; rfl)
    clear h1
    go_enter Try.func12, Try.ntmps12
    go_wp2_with fail
    refine (C1.out _ (HL.out.below hb)).mono ?_
    rintro e v1 ⟨rfl, k1⟩
    replace hb := bstep hb k1
    clear k1
    rw [hm]
    go_wp2
    go_ret
    exact ⟨_, rfl, by rw [H2.out]; exact Row.Own.nil _ _, hb⟩
  cases h2 : mayB K
  · have hm := h1
    have hp := h2
    have H2 : Hid (joinB L K = []) := Lib.hid (by rw [HO.out, h2, Bool.and_false]; rfl)
    clear h1 h2
    go_enter Try.func12, Try.ntmps12
    go_wp2_with fail
    refine (C1.out _ (HL.out.below hb)).mono ?_
    rintro e v1 ⟨rfl, k1⟩
    replace hb := bstep hb k1
    clear k1
    rw [hm]
    go_wp2_with fail
    refine (C2.out _ (HK.out.below hb)).mono ?_
    rintro e v2 ⟨rfl, k2⟩
    replace hb := bstep hb k2
    clear k2
    rw [hp]
    go_wp2
    go_ret
    exact ⟨_, rfl, by rw [H2.out]; exact Row.Own.nil _ _, hb⟩
  have hm := h1
  have hp := h2
  have F1 := (may_facts h1).1
  have F2 := (may_facts h2).1
  have HV : Hid (joinB L K = mergeL L K) := Lib.hid (by rw [HO.out, h1, h2]; rfl)
  have HM := Lib.hid (merge_length L K)
  clear h1 h2
  obtain ⟨i0, hi, hz0, hz1, hz2⟩ := info_parts info_beat
  obtain ⟨n1, hn1⟩ : ∃ n, n = L.length := ⟨_, rfl⟩
  obtain ⟨n2, hn2⟩ : ∃ n, n = K.length := ⟨_, rfl⟩
  have C1 := C1
  have hc1 := hc1
  rw [← hn1] at HL C1 hc1 F1 HM ⊢
  rw [← hn2] at HK C2 hc2 F2 HM ⊢
  have HN := Lib.hid (And.intro hn1 hn2)
  clear hn1 hn2
  go_enter Try.func12, Try.ntmps12
  go_wp2_with fail
  refine (C1.out _ (HL.out.below hb)).mono ?_
  rintro e v1 ⟨rfl, k1⟩
  replace hb := bstep hb k1
  clear k1
  rw [hm]
  go_wp2_with fail
  refine (C2.out _ (HK.out.below hb)).mono ?_
  rintro e v2 ⟨rfl, k2⟩
  replace hb := bstep hb k2
  clear k2
  rw [hp]
  go_wp2_with (at_make; refine wpList_make_own _ rfl _ _ 22 rfl w.heap.size 28 i0 (.agg #[.string ⟨#[]⟩, .int .u64 0, .bool false]) 3 Try.underlying22 hi hz0 hz1 _ _ _ (n1 + n2) rfl rfl (by omega) (by rw [hz2]; omega) (by unfold maxLen; omega) hb.size ?_; intro wm hrow hgm; have KM := Lib.hid (Below.grown hb hgm hb.size (fun k hk => by cases hk)); have RO := Lib.hid hrow)
  go_loopw [0, 1, 5] (fun av bv lv wr => ∃ (A C out : List B) (aa ab : Option Addr) (n m ca cb : Nat), av = .slice aa n ca ∧ bv = .slice ab m cb ∧ n ≤ ca ∧ m ≤ cb ∧ ca ≤ 9223372036854775807 ∧ cb ≤ 9223372036854775807 ∧ Hid (Lies w aa n A) ∧ Hid (Lies w ab m C) ∧ Hid (Mine wr w.heap.size lv out) ∧ Hid (out ++ mergeL A C = mergeL L K) ∧ Below w.heap.size w wr) (fun av bv _ _ => lenOf av + lenOf bv)
  case atStart => exact ⟨L, K, [], a1, a2, n1, n2, c1, c2, rfl, rfl, hc1, hc2, hm1, hm2, HL, HK, Lib.hid RO.out, Lib.hid rfl, KM.out⟩
  case round =>
    clear hb hc1 hc2 hm1 hm2 KM RO
    obtain ⟨A, C, out, aa, ab, n, m, ca, cb, rfl, rfl, hca, hcb, hma, hmb, lA, lC, oO, HS, hb⟩ := hrel
    have hol : out.length ≤ 48 := by
      have h1 := congrArg List.length HS.out
      rw [List.length_append] at h1
      have := HM.out; omega
    by_cases hn : 0 < n
    rotate_left
    · obtain rfl : n = 0 := by omega
      obtain rfl := lies_nil_of lA.out
      have HE : Hid (out ++ C = mergeL L K) := Lib.hid (by have h := HS.out; rw [mergeL] at h; exact h)
      clear HS hn hol
      have hol : out.length + m ≤ 48 := by have h1 := congrArg List.length HE.out; rw [List.length_append, ← lC.out.1] at h1; have := HM.out; omega
      go_wp2_with (at_builtin; first | (refine Row.wpList_app typ rfl _ _ rfl w.heap.size _ _ rfl o8 ab m cb C rfl (lC.out.below k8') (by simp; omega) (k8'.size) ?_; intro v9 w9 o9 _ k9) | (refine Row.wpList_app typ rfl _ _ rfl w.heap.size _ _ rfl oO.out aa 0 ca [] rfl (lA.out.below hb) (by omega) hb.size ?_; intro v8 w8 o8 _ k8; have k8' := hb.trans k8))
      go_ret
      exact ⟨_, rfl, by rw [HV.out, ← HE.out]; simpa using o9, k8'.trans k9⟩
    by_cases hm' : 0 < m
    rotate_left
    · obtain rfl : m = 0 := by omega
      obtain rfl := lies_nil_of lC.out
      have HE : Hid (out ++ A = mergeL L K) := Lib.hid (by have h := HS.out; rw [merge_nil] at h; exact h)
      clear HS hm' hol
      have hol : out.length + n ≤ 48 := by have h1 := congrArg List.length HE.out; rw [List.length_append, ← lA.out.1] at h1; have := HM.out; omega
      have hla := Lib.hid lA.out.1
      have d1 : decide ((n : Int) > 0) = true := decide_eq_true (by omega)
      have d2 : decide ((0 : Int) < (n : Int)) = true := decide_eq_true (by omega)
      have d3 : decide (0 < n) = true := decide_eq_true hn
      go_wp2_with (at_builtin; first | (refine Row.wpList_app typ rfl _ _ rfl w.heap.size _ _ rfl o8 ab 0 cb [] rfl (lC.out.below k8') (by have := hla.out; simp; omega) (k8'.size) ?_; intro v9 w9 o9 _ k9) | (refine Row.wpList_app typ rfl _ _ rfl w.heap.size _ _ rfl oO.out aa n ca A rfl (lA.out.below hb) (by omega) hb.size ?_; intro v8 w8 o8 _ k8; have k8' := hb.trans k8))
      go_ret
      exact ⟨_, rfl, by rw [HV.out, ← HE.out]; simpa using o9, k8'.trans k9⟩
    obtain ⟨x, A', b1, o1, rfl, rfl, x1, x2, x3, tA, q1⟩ := lies_cons_of lA.out hn
    obtain ⟨y, C', b2, o2, rfl, rfl, y1, y2, y3, tC, q2⟩ := lies_cons_of lC.out hm'
    have d1 : decide ((n : Int) > 0) = true := decide_eq_true (by omega)
    have d2 : decide ((0 : Int) < (n : Int)) = true := decide_eq_true (by omega)
    have d3 : decide ((m : Int) > 0) = true := decide_eq_true (by omega)
    have d4 : decide ((0 : Int) < (m : Int)) = true := decide_eq_true (by omega)
    have e1 : (0 : Int) < (n : Int) := by omega
    have e2 : (0 : Int) < (m : Int) := by omega
    have e3 : (1 : Int) ≤ (n : Int) := by omega
    have e4 : (1 : Int) ≤ (m : Int) := by omega
    replace x1 := (hb.cell (p := ⟨b1, o1, none⟩) q1).trans x1
    replace x2 := (hb.cell (p := ⟨b1, o1 + 1, none⟩) q1).trans x2
    replace x3 := (hb.cell (p := ⟨b1, o1 + 2, none⟩) q1).trans x3
    replace y1 := (hb.cell (p := ⟨b2, o2, none⟩) q2).trans y1
    replace y2 := (hb.cell (p := ⟨b2, o2 + 1, none⟩) q2).trans y2
    replace y3 := (hb.cell (p := ⟨b2, o2 + 2, none⟩) q2).trans y3
    have TA := Lib.hid tA
    have TC := Lib.hid tC
    clear tA tC
    have SC := Lib.hid (fun w => Try.strings_Compare ⟨x.p.toArray⟩ ⟨y.p.toArray⟩ w)
    by_cases hl : lt x.p y.p
    · have s1 : decide (Lib.compareBytes x.p y.p < 0) = true := decide_eq_true hl
      have HC := Lib.hid hl
      clear hl
      by_cases hka : ca = 1
      · obtain rfl : ca = 1 := hka
        obtain rfl : n = 1 := by omega
        replace TA : Hid (Lies w (some ⟨b1, o1, none⟩) 0 A') := Lib.hid (by have h := TA.out; obtain rfl := lies_nil_of h; exact Row.Lies.nil _ _)
        go_wp2_with fail
        refine wp_region_noPanic ?_
        refine wp_region_held_drew (S := (fun w' => Below w.heap.size w w' ∧ w'.cell? ⟨b1, o1, none⟩ = some (.string ⟨x.p.toArray⟩) ∧ w'.cell? ⟨b1, o1 + 1, none⟩ = some (.int .u64 (x.n : Int)) ∧ w'.cell? ⟨b1, o1 + 2, none⟩ = some (.bool x.bad) ∧ w'.cell? ⟨b2, o2, none⟩ = some (.string ⟨y.p.toArray⟩) ∧ w'.cell? ⟨b2, o2 + 1, none⟩ = some (.int .u64 (y.n : Int)) ∧ w'.cell? ⟨b2, o2 + 2, none⟩ = some (.bool y.bad))) (by kernel_rfl) (⟨Below.drew hb, (((Below.drew (Below.refl _ _))).cell (p := ⟨b1, o1, none⟩) q1).trans x1, (((Below.drew (Below.refl _ _))).cell (p := ⟨b1, o1 + 1, none⟩) q1).trans x2, (((Below.drew (Below.refl _ _))).cell (p := ⟨b1, o1 + 2, none⟩) q1).trans x3, (((Below.drew (Below.refl _ _))).cell (p := ⟨b2, o2, none⟩) q2).trans y1, (((Below.drew (Below.refl _ _))).cell (p := ⟨b2, o2 + 1, none⟩) q2).trans y2, (((Below.drew (Below.refl _ _))).cell (p := ⟨b2, o2 + 2, none⟩) q2).trans y3⟩) (fun hHeld => ?_)
        refine wpAnyH_take (i := 0) (v := ?_) (by simp only [List.getElem?_toArray, List.getElem?_cons_zero]; rfl) (by kernel_rfl) (by kernel_rfl) (by kernel_rfl) (fun _ _ _ h => h) (Or.inl ⟨by rfl, ?_⟩) (by assumption) ?_
        rotate_left
        · (intro w hSw; (try dsimp only at hSw); go_simp; try with_reducible rfl)
        try simp only [Act.put, List.setIfInBounds_toArray, List.set_cons_zero, List.set_cons_succ]
        refine wpAnyH_take (i := 1) (v := ?_) (by simp only [List.getElem?_toArray, List.getElem?_cons_succ, List.getElem?_cons_zero]; rfl) (by kernel_rfl) (by kernel_rfl) (by kernel_rfl) (fun _ _ _ h => h) (Or.inl ⟨by rfl, ?_⟩) (by assumption) ?_
        rotate_left
        · (intro w hSw; (try dsimp only at hSw); go_simp; try with_reducible rfl)
        try simp only [Act.put, List.setIfInBounds_toArray, List.set_cons_zero, List.set_cons_succ]
        refine wpAnyH_take (i := 2) (v := ?_) (by simp only [List.getElem?_toArray, List.getElem?_cons_succ, List.getElem?_cons_zero]; rfl) (by kernel_rfl) (by kernel_rfl) (by kernel_rfl) (fun _ _ _ h => h) (Or.inl ⟨by rfl, ?_⟩) (by assumption) ?_
        rotate_left
        · (intro w hSw; (try dsimp only at hSw); go_simp; try with_reducible rfl)
        try simp only [Act.put, List.setIfInBounds_toArray, List.set_cons_zero, List.set_cons_succ]
        refine wpAnyH_take (i := 3) (v := ?_) (by simp only [List.getElem?_toArray, List.getElem?_cons_succ, List.getElem?_cons_zero]; rfl) (by kernel_rfl) (by kernel_rfl) (by kernel_rfl) (fun _ _ _ h => h) (Or.inl ⟨by rfl, ?_⟩) (by assumption) ?_
        rotate_left
        · (intro w hSw; (try dsimp only at hSw); go_simp; try with_reducible rfl)
        try simp only [Act.put, List.setIfInBounds_toArray, List.set_cons_zero, List.set_cons_succ]
        refine wpAnyH_take (i := 4) (v := ?_) (by simp only [List.getElem?_toArray, List.getElem?_cons_succ, List.getElem?_cons_zero]; rfl) (by kernel_rfl) (by kernel_rfl) (by kernel_rfl) (fun _ _ _ h => h) (Or.inl ⟨by rfl, ?_⟩) (by assumption) ?_
        rotate_left
        · (intro w hSw; (try dsimp only at hSw); go_simp; try with_reducible rfl)
        try simp only [Act.put, List.setIfInBounds_toArray, List.set_cons_zero, List.set_cons_succ]
        refine wpAnyH_take (i := 5) (v := ?_) (by simp only [List.getElem?_toArray, List.getElem?_cons_succ, List.getElem?_cons_zero]; rfl) (by kernel_rfl) (by kernel_rfl) (by kernel_rfl) (fun _ _ _ h => h) (Or.inl ⟨by rfl, ?_⟩) (by assumption) ?_
        rotate_left
        · (intro w hSw; (try dsimp only at hSw); go_simp; try with_reducible rfl)
        try simp only [Act.put, List.setIfInBounds_toArray, List.set_cons_zero, List.set_cons_succ]
        refine wpAnyH_take (i := 6) (v := ?_) (by simp only [List.getElem?_toArray, List.getElem?_cons_succ, List.getElem?_cons_zero]; rfl) (by kernel_rfl) (by kernel_rfl) (by kernel_rfl) (fun _ _ _ h => h) (Or.inl ⟨by rfl, ?_⟩) (by assumption) ?_
        rotate_left
        · (intro w hSw; (try dsimp only at hSw); go_simp; try with_reducible rfl)
        try simp only [Act.put, List.setIfInBounds_toArray, List.set_cons_zero, List.set_cons_succ]
        refine wpAnyH_take (i := 7) (v := ?_) (by simp only [List.getElem?_toArray, List.getElem?_cons_succ, List.getElem?_cons_zero]; rfl) (by kernel_rfl) (by kernel_rfl) (by kernel_rfl) (fun _ _ _ h => h) (Or.inl ⟨by rfl, ?_⟩) (by assumption) ?_
        rotate_left
        · (intro w hSw; (try dsimp only at hSw); go_simp; try with_reducible rfl)
        try simp only [Act.put, List.setIfInBounds_toArray, List.set_cons_zero, List.set_cons_succ]
        refine wpAnyH_ready (rs := [8]) (by kernel_rfl) (by simp) ?_
        refine AllReadyH.cons (by simp only [List.getElem?_toArray, List.getElem?_cons_succ, List.getElem?_cons_zero]; rfl) (fun K hK => ?_) AllReadyH.nil
        go_simp
        go_at_call 23
        refine (SC.out _).mono ?_
        rintro e w1 ⟨rfl, rfl⟩
        go_wp2_with fail
        refine hK.out _ _ hHeld (fun hHeld => ?_)
        clear hK K
        try simp only [Act.put, List.setIfInBounds_toArray, List.set_cons_zero, List.set_cons_succ]
        refine wpAnyH_take (i := 9) (v := ?_) (by simp only [List.getElem?_toArray, List.getElem?_cons_succ, List.getElem?_cons_zero]; rfl) (by kernel_rfl) (by kernel_rfl) (by kernel_rfl) (fun _ _ _ h => h) (Or.inl ⟨by rfl, ?_⟩) (by assumption) ?_
        rotate_left
        · (intro w hSw; (try dsimp only at hSw); go_simp; try with_reducible rfl)
        try simp only [Act.put, List.setIfInBounds_toArray, List.set_cons_zero, List.set_cons_succ]
        refine wpAnyH_done (by kernel_rfl) ?_ _
        refine NoPanic.normal ?_
        clear hb x1 x2 x3 y1 y2 y3
        obtain ⟨hb, x1, x2, x3, y1, y2, y3⟩ := hHeld
        go_wp2_with fail
        refine wp_region_noPanic ?_
        refine wp_region_held_drew (S := (fun w' => Below w.heap.size w w' ∧ w'.cell? ⟨b1, o1, none⟩ = some (.string ⟨x.p.toArray⟩) ∧ w'.cell? ⟨b1, o1 + 1, none⟩ = some (.int .u64 (x.n : Int)) ∧ w'.cell? ⟨b1, o1 + 2, none⟩ = some (.bool x.bad) ∧ w'.cell? ⟨b2, o2, none⟩ = some (.string ⟨y.p.toArray⟩) ∧ w'.cell? ⟨b2, o2 + 1, none⟩ = some (.int .u64 (y.n : Int)) ∧ w'.cell? ⟨b2, o2 + 2, none⟩ = some (.bool y.bad))) (by kernel_rfl) (⟨Below.drew hb, (((Below.drew (Below.refl _ _))).cell (p := ⟨b1, o1, none⟩) q1).trans x1, (((Below.drew (Below.refl _ _))).cell (p := ⟨b1, o1 + 1, none⟩) q1).trans x2, (((Below.drew (Below.refl _ _))).cell (p := ⟨b1, o1 + 2, none⟩) q1).trans x3, (((Below.drew (Below.refl _ _))).cell (p := ⟨b2, o2, none⟩) q2).trans y1, (((Below.drew (Below.refl _ _))).cell (p := ⟨b2, o2 + 1, none⟩) q2).trans y2, (((Below.drew (Below.refl _ _))).cell (p := ⟨b2, o2 + 2, none⟩) q2).trans y3⟩) (fun hHeld => ?_)
        refine wpAnyH_take (i := 0) (v := ?_) (by simp only [List.getElem?_toArray, List.getElem?_cons_zero]; rfl) (by kernel_rfl) (by kernel_rfl) (by kernel_rfl) (fun _ _ _ h => h) (Or.inl ⟨by rfl, ?_⟩) (by assumption) ?_
        rotate_left
        · (intro w hSw; (try dsimp only at hSw); go_simp; try with_reducible rfl)
        try simp only [Act.put, List.setIfInBounds_toArray, List.set_cons_zero, List.set_cons_succ]
        refine wpAnyH_take (i := 1) (v := ?_) (by simp only [List.getElem?_toArray, List.getElem?_cons_succ, List.getElem?_cons_zero]; rfl) (by kernel_rfl) (by kernel_rfl) (by kernel_rfl) (fun _ _ _ h => h) (Or.inl ⟨by rfl, ?_⟩) (by assumption) ?_
        rotate_left
        · (intro w hSw; (try dsimp only at hSw); go_simp; try with_reducible rfl)
        try simp only [Act.put, List.setIfInBounds_toArray, List.set_cons_zero, List.set_cons_succ]
        refine wpAnyH_take (i := 2) (v := ?_) (by simp only [List.getElem?_toArray, List.getElem?_cons_succ, List.getElem?_cons_zero]; rfl) (by kernel_rfl) (by kernel_rfl) (by kernel_rfl) (fun _ _ _ h => h) (Or.inl ⟨by rfl, ?_⟩) (by assumption) ?_
        rotate_left
        · (intro w hSw; (try dsimp only at hSw); go_simp; try with_reducible rfl)
        try simp only [Act.put, List.setIfInBounds_toArray, List.set_cons_zero, List.set_cons_succ]
        refine wpAnyH_take (i := 3) (v := ?_) (by simp only [List.getElem?_toArray, List.getElem?_cons_succ, List.getElem?_cons_zero]; rfl) (by kernel_rfl) (by kernel_rfl) (by kernel_rfl) (fun _ _ _ h => h) (Or.inl ⟨by rfl, ?_⟩) (by assumption) ?_
        rotate_left
        · (intro w hSw; (try dsimp only at hSw); go_simp; try with_reducible rfl)
        try simp only [Act.put, List.setIfInBounds_toArray, List.set_cons_zero, List.set_cons_succ]
        refine wpAnyH_take (i := 6) (v := ?_) (by simp only [List.getElem?_toArray, List.getElem?_cons_succ, List.getElem?_cons_zero]; rfl) (by kernel_rfl) (by kernel_rfl) (by kernel_rfl) (fun _ _ _ h => h) (Or.inl ⟨by rfl, ?_⟩) (by assumption) ?_
        rotate_left
        · (intro w hSw; (try dsimp only at hSw); go_simp; try with_reducible rfl)
        try simp only [Act.put, List.setIfInBounds_toArray, List.set_cons_zero, List.set_cons_succ]
        refine wpAnyH_take (i := 7) (v := ?_) (by simp only [List.getElem?_toArray, List.getElem?_cons_succ, List.getElem?_cons_zero]; rfl) (by kernel_rfl) (by kernel_rfl) (by kernel_rfl) (fun _ _ _ h => h) (Or.inl ⟨by rfl, ?_⟩) (by assumption) ?_
        rotate_left
        · (intro w hSw; (try dsimp only at hSw); go_simp; try with_reducible rfl)
        try simp only [Act.put, List.setIfInBounds_toArray, List.set_cons_zero, List.set_cons_succ]
        refine wpAnyH_ready (rs := [4]) (by kernel_rfl) (by simp) ?_
        refine AllReadyH.cons (by simp only [List.getElem?_toArray, List.getElem?_cons_succ, List.getElem?_cons_zero]; rfl) (fun K hK => ?_) AllReadyH.nil
        go_simp
        refine hK.out _ _ (⟨(hHeld.1).trans ((Below.refl w.heap.size _).alloc (hHeld.1).size _), ((((Below.refl w.heap.size _).alloc (hHeld.1).size _)).cell (p := ⟨b1, o1, none⟩) q1).trans hHeld.2.1, ((((Below.refl w.heap.size _).alloc (hHeld.1).size _)).cell (p := ⟨b1, o1 + 1, none⟩) q1).trans hHeld.2.2.1, ((((Below.refl w.heap.size _).alloc (hHeld.1).size _)).cell (p := ⟨b1, o1 + 2, none⟩) q1).trans hHeld.2.2.2.1, ((((Below.refl w.heap.size _).alloc (hHeld.1).size _)).cell (p := ⟨b2, o2, none⟩) q2).trans hHeld.2.2.2.2.1, ((((Below.refl w.heap.size _).alloc (hHeld.1).size _)).cell (p := ⟨b2, o2 + 1, none⟩) q2).trans hHeld.2.2.2.2.2.1, ((((Below.refl w.heap.size _).alloc (hHeld.1).size _)).cell (p := ⟨b2, o2 + 2, none⟩) q2).trans hHeld.2.2.2.2.2.2⟩) (fun hHeld => ?_)
        clear hK K
        try simp only [Act.put, List.setIfInBounds_toArray, List.set_cons_zero, List.set_cons_succ]
        refine wpAnyH_ready (rs := [5]) (by kernel_rfl) (by simp) ?_
        refine AllReadyH.cons (by simp only [List.getElem?_toArray, List.getElem?_cons_succ, List.getElem?_cons_zero]; rfl) (fun K hK => ?_) AllReadyH.nil
        refine Row.step_app typ rfl (.tmp 55) (.tmp 59) rfl w.heap.size _ out rfl (oO.out.alloc _) _ 1 1 [x] rfl (Row.lies_new _ (x) _) (by omega) (by have := (hHeld.1).size; simp only [World.size_alloc, World.size_drew] at this ⊢; omega) ?_
        intro v9 w9 o9 _ k9
        refine hK.out _ _ (⟨(hHeld.1).trans k9, ((k9).cell (p := ⟨b1, o1, none⟩) q1).trans hHeld.2.1, ((k9).cell (p := ⟨b1, o1 + 1, none⟩) q1).trans hHeld.2.2.1, ((k9).cell (p := ⟨b1, o1 + 2, none⟩) q1).trans hHeld.2.2.2.1, ((k9).cell (p := ⟨b2, o2, none⟩) q2).trans hHeld.2.2.2.2.1, ((k9).cell (p := ⟨b2, o2 + 1, none⟩) q2).trans hHeld.2.2.2.2.2.1, ((k9).cell (p := ⟨b2, o2 + 2, none⟩) q2).trans hHeld.2.2.2.2.2.2⟩) (fun hHeld => ?_)
        clear hK K
        try simp only [Act.put, List.setIfInBounds_toArray, List.set_cons_zero, List.set_cons_succ]
        refine wpAnyH_take (i := 8) (v := ?_) (by simp only [List.getElem?_toArray, List.getElem?_cons_succ, List.getElem?_cons_zero]; rfl) (by kernel_rfl) (by kernel_rfl) (by kernel_rfl) (fun _ _ _ h => h) (Or.inl ⟨by rfl, ?_⟩) (by assumption) ?_
        rotate_left
        · (intro w hSw; (try dsimp only at hSw); go_simp; try with_reducible rfl)
        try simp only [Act.put, List.setIfInBounds_toArray, List.set_cons_zero, List.set_cons_succ]
        refine wpAnyH_take (i := 9) (v := ?_) (by simp only [List.getElem?_toArray, List.getElem?_cons_succ, List.getElem?_cons_zero]; rfl) (by kernel_rfl) (by kernel_rfl) (by kernel_rfl) (fun _ _ _ h => h) (Or.inl ⟨by rfl, ?_⟩) (by assumption) ?_
        rotate_left
        · (intro w hSw; (try dsimp only at hSw); go_simp; try with_reducible rfl)
        try simp only [Act.put, List.setIfInBounds_toArray, List.set_cons_zero]
        refine wpAnyH_done (by kernel_rfl) ?_ _
        refine NoPanic.normal ?_
        clear hb x1 x2 x3 y1 y2 y3
        obtain ⟨hb, x1, x2, x3, y1, y2, y3⟩ := hHeld
        go_wp2
        go_roundw
        case rel => exact ⟨A', (y :: C'), out ++ [x], _, _, _, _, _, _, rfl, rfl, by omega, by omega, by omega, by omega, TA, lC, Lib.hid o9, Lib.hid (by have h := HS.out; rw [merge_lt HC.out] at h; rw [← h, List.append_assoc]; rfl), hb⟩
        case measure => first | (simp [lenOf]; done) | (simp [lenOf]; omega)
      · have za : (ca : Int) - 1 ≠ 0 := by omega
        have ya : ca - 1 ≠ 0 := by omega
        go_wp2_with fail
        refine wp_region_noPanic ?_
        refine wp_region_held_drew (S := (fun w' => Below w.heap.size w w' ∧ w'.cell? ⟨b1, o1, none⟩ = some (.string ⟨x.p.toArray⟩) ∧ w'.cell? ⟨b1, o1 + 1, none⟩ = some (.int .u64 (x.n : Int)) ∧ w'.cell? ⟨b1, o1 + 2, none⟩ = some (.bool x.bad) ∧ w'.cell? ⟨b2, o2, none⟩ = some (.string ⟨y.p.toArray⟩) ∧ w'.cell? ⟨b2, o2 + 1, none⟩ = some (.int .u64 (y.n : Int)) ∧ w'.cell? ⟨b2, o2 + 2, none⟩ = some (.bool y.bad))) (by kernel_rfl) (⟨Below.drew hb, (((Below.drew (Below.refl _ _))).cell (p := ⟨b1, o1, none⟩) q1).trans x1, (((Below.drew (Below.refl _ _))).cell (p := ⟨b1, o1 + 1, none⟩) q1).trans x2, (((Below.drew (Below.refl _ _))).cell (p := ⟨b1, o1 + 2, none⟩) q1).trans x3, (((Below.drew (Below.refl _ _))).cell (p := ⟨b2, o2, none⟩) q2).trans y1, (((Below.drew (Below.refl _ _))).cell (p := ⟨b2, o2 + 1, none⟩) q2).trans y2, (((Below.drew (Below.refl _ _))).cell (p := ⟨b2, o2 + 2, none⟩) q2).trans y3⟩) (fun hHeld => ?_)
        refine wpAnyH_take (i := 0) (v := ?_) (by simp only [List.getElem?_toArray, List.getElem?_cons_zero]; rfl) (by kernel_rfl) (by kernel_rfl) (by kernel_rfl) (fun _ _ _ h => h) (Or.inl ⟨by rfl, ?_⟩) (by assumption) ?_
        rotate_left
        · (intro w hSw; (try dsimp only at hSw); go_simp; try with_reducible rfl)
        try simp only [Act.put, List.setIfInBounds_toArray, List.set_cons_zero, List.set_cons_succ]
        refine wpAnyH_take (i := 1) (v := ?_) (by simp only [List.getElem?_toArray, List.getElem?_cons_succ, List.getElem?_cons_zero]; rfl) (by kernel_rfl) (by kernel_rfl) (by kernel_rfl) (fun _ _ _ h => h) (Or.inl ⟨by rfl, ?_⟩) (by assumption) ?_
        rotate_left
        · (intro w hSw; (try dsimp only at hSw); go_simp; try with_reducible rfl)
        try simp only [Act.put, List.setIfInBounds_toArray, List.set_cons_zero, List.set_cons_succ]
        refine wpAnyH_take (i := 2) (v := ?_) (by simp only [List.getElem?_toArray, List.getElem?_cons_succ, List.getElem?_cons_zero]; rfl) (by kernel_rfl) (by kernel_rfl) (by kernel_rfl) (fun _ _ _ h => h) (Or.inl ⟨by rfl, ?_⟩) (by assumption) ?_
        rotate_left
        · (intro w hSw; (try dsimp only at hSw); go_simp; try with_reducible rfl)
        try simp only [Act.put, List.setIfInBounds_toArray, List.set_cons_zero, List.set_cons_succ]
        refine wpAnyH_take (i := 3) (v := ?_) (by simp only [List.getElem?_toArray, List.getElem?_cons_succ, List.getElem?_cons_zero]; rfl) (by kernel_rfl) (by kernel_rfl) (by kernel_rfl) (fun _ _ _ h => h) (Or.inl ⟨by rfl, ?_⟩) (by assumption) ?_
        rotate_left
        · (intro w hSw; (try dsimp only at hSw); go_simp; try with_reducible rfl)
        try simp only [Act.put, List.setIfInBounds_toArray, List.set_cons_zero, List.set_cons_succ]
        refine wpAnyH_take (i := 4) (v := ?_) (by simp only [List.getElem?_toArray, List.getElem?_cons_succ, List.getElem?_cons_zero]; rfl) (by kernel_rfl) (by kernel_rfl) (by kernel_rfl) (fun _ _ _ h => h) (Or.inl ⟨by rfl, ?_⟩) (by assumption) ?_
        rotate_left
        · (intro w hSw; (try dsimp only at hSw); go_simp; try with_reducible rfl)
        try simp only [Act.put, List.setIfInBounds_toArray, List.set_cons_zero, List.set_cons_succ]
        refine wpAnyH_take (i := 5) (v := ?_) (by simp only [List.getElem?_toArray, List.getElem?_cons_succ, List.getElem?_cons_zero]; rfl) (by kernel_rfl) (by kernel_rfl) (by kernel_rfl) (fun _ _ _ h => h) (Or.inl ⟨by rfl, ?_⟩) (by assumption) ?_
        rotate_left
        · (intro w hSw; (try dsimp only at hSw); go_simp; try with_reducible rfl)
        try simp only [Act.put, List.setIfInBounds_toArray, List.set_cons_zero, List.set_cons_succ]
        refine wpAnyH_take (i := 6) (v := ?_) (by simp only [List.getElem?_toArray, List.getElem?_cons_succ, List.getElem?_cons_zero]; rfl) (by kernel_rfl) (by kernel_rfl) (by kernel_rfl) (fun _ _ _ h => h) (Or.inl ⟨by rfl, ?_⟩) (by assumption) ?_
        rotate_left
        · (intro w hSw; (try dsimp only at hSw); go_simp; try with_reducible rfl)
        try simp only [Act.put, List.setIfInBounds_toArray, List.set_cons_zero, List.set_cons_succ]
        refine wpAnyH_take (i := 7) (v := ?_) (by simp only [List.getElem?_toArray, List.getElem?_cons_succ, List.getElem?_cons_zero]; rfl) (by kernel_rfl) (by kernel_rfl) (by kernel_rfl) (fun _ _ _ h => h) (Or.inl ⟨by rfl, ?_⟩) (by assumption) ?_
        rotate_left
        · (intro w hSw; (try dsimp only at hSw); go_simp; try with_reducible rfl)
        try simp only [Act.put, List.setIfInBounds_toArray, List.set_cons_zero, List.set_cons_succ]
        refine wpAnyH_ready (rs := [8]) (by kernel_rfl) (by simp) ?_
        refine AllReadyH.cons (by simp only [List.getElem?_toArray, List.getElem?_cons_succ, List.getElem?_cons_zero]; rfl) (fun K hK => ?_) AllReadyH.nil
        go_simp
        go_at_call 23
        refine (SC.out _).mono ?_
        rintro e w2 ⟨rfl, rfl⟩
        go_wp2_with fail
        refine hK.out _ _ hHeld (fun hHeld => ?_)
        clear hK K
        try simp only [Act.put, List.setIfInBounds_toArray, List.set_cons_zero, List.set_cons_succ]
        refine wpAnyH_take (i := 9) (v := ?_) (by simp only [List.getElem?_toArray, List.getElem?_cons_succ, List.getElem?_cons_zero]; rfl) (by kernel_rfl) (by kernel_rfl) (by kernel_rfl) (fun _ _ _ h => h) (Or.inl ⟨by rfl, ?_⟩) (by assumption) ?_
        rotate_left
        · (intro w hSw; (try dsimp only at hSw); go_simp; try with_reducible rfl)
        try simp only [Act.put, List.setIfInBounds_toArray, List.set_cons_zero, List.set_cons_succ]
        refine wpAnyH_done (by kernel_rfl) ?_ _
        refine NoPanic.normal ?_
        clear hb x1 x2 x3 y1 y2 y3
        obtain ⟨hb, x1, x2, x3, y1, y2, y3⟩ := hHeld
        go_wp2_with fail
        refine wp_region_noPanic ?_
        refine wp_region_held_drew (S := (fun w' => Below w.heap.size w w' ∧ w'.cell? ⟨b1, o1, none⟩ = some (.string ⟨x.p.toArray⟩) ∧ w'.cell? ⟨b1, o1 + 1, none⟩ = some (.int .u64 (x.n : Int)) ∧ w'.cell? ⟨b1, o1 + 2, none⟩ = some (.bool x.bad) ∧ w'.cell? ⟨b2, o2, none⟩ = some (.string ⟨y.p.toArray⟩) ∧ w'.cell? ⟨b2, o2 + 1, none⟩ = some (.int .u64 (y.n : Int)) ∧ w'.cell? ⟨b2, o2 + 2, none⟩ = some (.bool y.bad))) (by kernel_rfl) (⟨Below.drew hb, (((Below.drew (Below.refl _ _))).cell (p := ⟨b1, o1, none⟩) q1).trans x1, (((Below.drew (Below.refl _ _))).cell (p := ⟨b1, o1 + 1, none⟩) q1).trans x2, (((Below.drew (Below.refl _ _))).cell (p := ⟨b1, o1 + 2, none⟩) q1).trans x3, (((Below.drew (Below.refl _ _))).cell (p := ⟨b2, o2, none⟩) q2).trans y1, (((Below.drew (Below.refl _ _))).cell (p := ⟨b2, o2 + 1, none⟩) q2).trans y2, (((Below.drew (Below.refl _ _))).cell (p := ⟨b2, o2 + 2, none⟩) q2).trans y3⟩) (fun hHeld => ?_)
        refine wpAnyH_take (i := 0) (v := ?_) (by simp only [List.getElem?_toArray, List.getElem?_cons_zero]; rfl) (by kernel_rfl) (by kernel_rfl) (by kernel_rfl) (fun _ _ _ h => h) (Or.inl ⟨by rfl, ?_⟩) (by assumption) ?_
        rotate_left
        · (intro w hSw; (try dsimp only at hSw); go_simp; try with_reducible rfl)
        try simp only [Act.put, List.setIfInBounds_toArray, List.set_cons_zero, List.set_cons_succ]
        refine wpAnyH_take (i := 1) (v := ?_) (by simp only [List.getElem?_toArray, List.getElem?_cons_succ, List.getElem?_cons_zero]; rfl) (by kernel_rfl) (by kernel_rfl) (by kernel_rfl) (fun _ _ _ h => h) (Or.inl ⟨by rfl, ?_⟩) (by assumption) ?_
        rotate_left
        · (intro w hSw; (try dsimp only at hSw); go_simp; try with_reducible rfl)
        try simp only [Act.put, List.setIfInBounds_toArray, List.set_cons_zero, List.set_cons_succ]
        refine wpAnyH_take (i := 2) (v := ?_) (by simp only [List.getElem?_toArray, List.getElem?_cons_succ, List.getElem?_cons_zero]; rfl) (by kernel_rfl) (by kernel_rfl) (by kernel_rfl) (fun _ _ _ h => h) (Or.inl ⟨by rfl, ?_⟩) (by assumption) ?_
        rotate_left
        · (intro w hSw; (try dsimp only at hSw); go_simp; try with_reducible rfl)
        try simp only [Act.put, List.setIfInBounds_toArray, List.set_cons_zero, List.set_cons_succ]
        refine wpAnyH_take (i := 3) (v := ?_) (by simp only [List.getElem?_toArray, List.getElem?_cons_succ, List.getElem?_cons_zero]; rfl) (by kernel_rfl) (by kernel_rfl) (by kernel_rfl) (fun _ _ _ h => h) (Or.inl ⟨by rfl, ?_⟩) (by assumption) ?_
        rotate_left
        · (intro w hSw; (try dsimp only at hSw); go_simp; try with_reducible rfl)
        try simp only [Act.put, List.setIfInBounds_toArray, List.set_cons_zero, List.set_cons_succ]
        refine wpAnyH_take (i := 6) (v := ?_) (by simp only [List.getElem?_toArray, List.getElem?_cons_succ, List.getElem?_cons_zero]; rfl) (by kernel_rfl) (by kernel_rfl) (by kernel_rfl) (fun _ _ _ h => h) (Or.inl ⟨by rfl, ?_⟩) (by assumption) ?_
        rotate_left
        · (intro w hSw; (try dsimp only at hSw); go_simp; try with_reducible rfl)
        try simp only [Act.put, List.setIfInBounds_toArray, List.set_cons_zero, List.set_cons_succ]
        refine wpAnyH_take (i := 7) (v := ?_) (by simp only [List.getElem?_toArray, List.getElem?_cons_succ, List.getElem?_cons_zero]; rfl) (by kernel_rfl) (by kernel_rfl) (by kernel_rfl) (fun _ _ _ h => h) (Or.inl ⟨by rfl, ?_⟩) (by assumption) ?_
        rotate_left
        · (intro w hSw; (try dsimp only at hSw); go_simp; try with_reducible rfl)
        try simp only [Act.put, List.setIfInBounds_toArray, List.set_cons_zero, List.set_cons_succ]
        refine wpAnyH_ready (rs := [4]) (by kernel_rfl) (by simp) ?_
        refine AllReadyH.cons (by simp only [List.getElem?_toArray, List.getElem?_cons_succ, List.getElem?_cons_zero]; rfl) (fun K hK => ?_) AllReadyH.nil
        go_simp
        refine hK.out _ _ (⟨(hHeld.1).trans ((Below.refl w.heap.size _).alloc (hHeld.1).size _), ((((Below.refl w.heap.size _).alloc (hHeld.1).size _)).cell (p := ⟨b1, o1, none⟩) q1).trans hHeld.2.1, ((((Below.refl w.heap.size _).alloc (hHeld.1).size _)).cell (p := ⟨b1, o1 + 1, none⟩) q1).trans hHeld.2.2.1, ((((Below.refl w.heap.size _).alloc (hHeld.1).size _)).cell (p := ⟨b1, o1 + 2, none⟩) q1).trans hHeld.2.2.2.1, ((((Below.refl w.heap.size _).alloc (hHeld.1).size _)).cell (p := ⟨b2, o2, none⟩) q2).trans hHeld.2.2.2.2.1, ((((Below.refl w.heap.size _).alloc (hHeld.1).size _)).cell (p := ⟨b2, o2 + 1, none⟩) q2).trans hHeld.2.2.2.2.2.1, ((((Below.refl w.heap.size _).alloc (hHeld.1).size _)).cell (p := ⟨b2, o2 + 2, none⟩) q2).trans hHeld.2.2.2.2.2.2⟩) (fun hHeld => ?_)
        clear hK K
        try simp only [Act.put, List.setIfInBounds_toArray, List.set_cons_zero, List.set_cons_succ]
        refine wpAnyH_ready (rs := [5]) (by kernel_rfl) (by simp) ?_
        refine AllReadyH.cons (by simp only [List.getElem?_toArray, List.getElem?_cons_succ, List.getElem?_cons_zero]; rfl) (fun K hK => ?_) AllReadyH.nil
        refine Row.step_app typ rfl (.tmp 55) (.tmp 59) rfl w.heap.size _ out rfl (oO.out.alloc _) _ 1 1 [x] rfl (Row.lies_new _ (x) _) (by omega) (by have := (hHeld.1).size; simp only [World.size_alloc, World.size_drew] at this ⊢; omega) ?_
        intro v9 w9 o9 _ k9
        refine hK.out _ _ (⟨(hHeld.1).trans k9, ((k9).cell (p := ⟨b1, o1, none⟩) q1).trans hHeld.2.1, ((k9).cell (p := ⟨b1, o1 + 1, none⟩) q1).trans hHeld.2.2.1, ((k9).cell (p := ⟨b1, o1 + 2, none⟩) q1).trans hHeld.2.2.2.1, ((k9).cell (p := ⟨b2, o2, none⟩) q2).trans hHeld.2.2.2.2.1, ((k9).cell (p := ⟨b2, o2 + 1, none⟩) q2).trans hHeld.2.2.2.2.2.1, ((k9).cell (p := ⟨b2, o2 + 2, none⟩) q2).trans hHeld.2.2.2.2.2.2⟩) (fun hHeld => ?_)
        clear hK K
        try simp only [Act.put, List.setIfInBounds_toArray, List.set_cons_zero, List.set_cons_succ]
        refine wpAnyH_take (i := 8) (v := ?_) (by simp only [List.getElem?_toArray, List.getElem?_cons_succ, List.getElem?_cons_zero]; rfl) (by kernel_rfl) (by kernel_rfl) (by kernel_rfl) (fun _ _ _ h => h) (Or.inl ⟨by rfl, ?_⟩) (by assumption) ?_
        rotate_left
        · (intro w hSw; (try dsimp only at hSw); go_simp; try with_reducible rfl)
        try simp only [Act.put, List.setIfInBounds_toArray, List.set_cons_zero, List.set_cons_succ]
        refine wpAnyH_take (i := 9) (v := ?_) (by simp only [List.getElem?_toArray, List.getElem?_cons_succ, List.getElem?_cons_zero]; rfl) (by kernel_rfl) (by kernel_rfl) (by kernel_rfl) (fun _ _ _ h => h) (Or.inl ⟨by rfl, ?_⟩) (by assumption) ?_
        rotate_left
        · (intro w hSw; (try dsimp only at hSw); go_simp; try with_reducible rfl)
        try simp only [Act.put, List.setIfInBounds_toArray, List.set_cons_zero]
        refine wpAnyH_done (by kernel_rfl) ?_ _
        refine NoPanic.normal ?_
        clear hb x1 x2 x3 y1 y2 y3
        obtain ⟨hb, x1, x2, x3, y1, y2, y3⟩ := hHeld
        go_wp2
        go_roundw
        case rel => exact ⟨A', (y :: C'), out ++ [x], _, _, _, _, _, _, rfl, rfl, by omega, by omega, by omega, by omega, TA, lC, Lib.hid o9, Lib.hid (by have h := HS.out; rw [merge_lt HC.out] at h; rw [← h, List.append_assoc]; rfl), hb⟩
        case measure => first | (simp [lenOf]; done) | (simp [lenOf]; omega)
    by_cases hg : lt y.p x.p
    · have s1 : decide (Lib.compareBytes x.p y.p < 0) = false := decide_eq_false hl
      have s2 : decide (Lib.compareBytes x.p y.p > 0) = true := decide_eq_true (by have h := cmp_flip x.p y.p; unfold lt at hg; omega)
      have s3 : decide (0 < Lib.compareBytes x.p y.p) = true := s2
      have HC := Lib.hid hg
      clear hl hg
      by_cases hkb : cb = 1
      · obtain rfl : cb = 1 := hkb
        obtain rfl : m = 1 := by omega
        replace TC : Hid (Lies w (some ⟨b2, o2, none⟩) 0 C') := Lib.hid (by have h := TC.out; obtain rfl := lies_nil_of h; exact Row.Lies.nil _ _)
        go_wp2_with fail
        refine wp_region_noPanic ?_
        refine wp_region_held_drew (S := (fun w' => Below w.heap.size w w' ∧ w'.cell? ⟨b1, o1, none⟩ = some (.string ⟨x.p.toArray⟩) ∧ w'.cell? ⟨b1, o1 + 1, none⟩ = some (.int .u64 (x.n : Int)) ∧ w'.cell? ⟨b1, o1 + 2, none⟩ = some (.bool x.bad) ∧ w'.cell? ⟨b2, o2, none⟩ = some (.string ⟨y.p.toArray⟩) ∧ w'.cell? ⟨b2, o2 + 1, none⟩ = some (.int .u64 (y.n : Int)) ∧ w'.cell? ⟨b2, o2 + 2, none⟩ = some (.bool y.bad))) (by kernel_rfl) (⟨Below.drew hb, (((Below.drew (Below.refl _ _))).cell (p := ⟨b1, o1, none⟩) q1).trans x1, (((Below.drew (Below.refl _ _))).cell (p := ⟨b1, o1 + 1, none⟩) q1).trans x2, (((Below.drew (Below.refl _ _))).cell (p := ⟨b1, o1 + 2, none⟩) q1).trans x3, (((Below.drew (Below.refl _ _))).cell (p := ⟨b2, o2, none⟩) q2).trans y1, (((Below.drew (Below.refl _ _))).cell (p := ⟨b2, o2 + 1, none⟩) q2).trans y2, (((Below.drew (Below.refl _ _))).cell (p := ⟨b2, o2 + 2, none⟩) q2).trans y3⟩) (fun hHeld => ?_)
        refine wpAnyH_take (i := 0) (v := ?_) (by simp only [List.getElem?_toArray, List.getElem?_cons_zero]; rfl) (by kernel_rfl) (by kernel_rfl) (by kernel_rfl) (fun _ _ _ h => h) (Or.inl ⟨by rfl, ?_⟩) (by assumption) ?_
        rotate_left
        · (intro w hSw; (try dsimp only at hSw); go_simp; try with_reducible rfl)
        try simp only [Act.put, List.setIfInBounds_toArray, List.set_cons_zero, List.set_cons_succ]
        refine wpAnyH_take (i := 1) (v := ?_) (by simp only [List.getElem?_toArray, List.getElem?_cons_succ, List.getElem?_cons_zero]; rfl) (by kernel_rfl) (by kernel_rfl) (by kernel_rfl) (fun _ _ _ h => h) (Or.inl ⟨by rfl, ?_⟩) (by assumption) ?_
        rotate_left
        · (intro w hSw; (try dsimp only at hSw); go_simp; try with_reducible rfl)
        try simp only [Act.put, List.setIfInBounds_toArray, List.set_cons_zero, List.set_cons_succ]
        refine wpAnyH_take (i := 2) (v := ?_) (by simp only [List.getElem?_toArray, List.getElem?_cons_succ, List.getElem?_cons_zero]; rfl) (by kernel_rfl) (by kernel_rfl) (by kernel_rfl) (fun _ _ _ h => h) (Or.inl ⟨by rfl, ?_⟩) (by assumption) ?_
        rotate_left
        · (intro w hSw; (try dsimp only at hSw); go_simp; try with_reducible rfl)
        try simp only [Act.put, List.setIfInBounds_toArray, List.set_cons_zero, List.set_cons_succ]
        refine wpAnyH_take (i := 3) (v := ?_) (by simp only [List.getElem?_toArray, List.getElem?_cons_succ, List.getElem?_cons_zero]; rfl) (by kernel_rfl) (by kernel_rfl) (by kernel_rfl) (fun _ _ _ h => h) (Or.inl ⟨by rfl, ?_⟩) (by assumption) ?_
        rotate_left
        · (intro w hSw; (try dsimp only at hSw); go_simp; try with_reducible rfl)
        try simp only [Act.put, List.setIfInBounds_toArray, List.set_cons_zero, List.set_cons_succ]
        refine wpAnyH_take (i := 4) (v := ?_) (by simp only [List.getElem?_toArray, List.getElem?_cons_succ, List.getElem?_cons_zero]; rfl) (by kernel_rfl) (by kernel_rfl) (by kernel_rfl) (fun _ _ _ h => h) (Or.inl ⟨by rfl, ?_⟩) (by assumption) ?_
        rotate_left
        · (intro w hSw; (try dsimp only at hSw); go_simp; try with_reducible rfl)
        try simp only [Act.put, List.setIfInBounds_toArray, List.set_cons_zero, List.set_cons_succ]
        refine wpAnyH_take (i := 5) (v := ?_) (by simp only [List.getElem?_toArray, List.getElem?_cons_succ, List.getElem?_cons_zero]; rfl) (by kernel_rfl) (by kernel_rfl) (by kernel_rfl) (fun _ _ _ h => h) (Or.inl ⟨by rfl, ?_⟩) (by assumption) ?_
        rotate_left
        · (intro w hSw; (try dsimp only at hSw); go_simp; try with_reducible rfl)
        try simp only [Act.put, List.setIfInBounds_toArray, List.set_cons_zero, List.set_cons_succ]
        refine wpAnyH_take (i := 6) (v := ?_) (by simp only [List.getElem?_toArray, List.getElem?_cons_succ, List.getElem?_cons_zero]; rfl) (by kernel_rfl) (by kernel_rfl) (by kernel_rfl) (fun _ _ _ h => h) (Or.inl ⟨by rfl, ?_⟩) (by assumption) ?_
        rotate_left
        · (intro w hSw; (try dsimp only at hSw); go_simp; try with_reducible rfl)
        try simp only [Act.put, List.setIfInBounds_toArray, List.set_cons_zero, List.set_cons_succ]
        refine wpAnyH_take (i := 7) (v := ?_) (by simp only [List.getElem?_toArray, List.getElem?_cons_succ, List.getElem?_cons_zero]; rfl) (by kernel_rfl) (by kernel_rfl) (by kernel_rfl) (fun _ _ _ h => h) (Or.inl ⟨by rfl, ?_⟩) (by assumption) ?_
        rotate_left
        · (intro w hSw; (try dsimp only at hSw); go_simp; try with_reducible rfl)
        try simp only [Act.put, List.setIfInBounds_toArray, List.set_cons_zero, List.set_cons_succ]
        refine wpAnyH_ready (rs := [8]) (by kernel_rfl) (by simp) ?_
        refine AllReadyH.cons (by simp only [List.getElem?_toArray, List.getElem?_cons_succ, List.getElem?_cons_zero]; rfl) (fun K hK => ?_) AllReadyH.nil
        go_simp
        go_at_call 23
        refine (SC.out _).mono ?_
        rintro e w3 ⟨rfl, rfl⟩
        go_wp2_with fail
        refine hK.out _ _ hHeld (fun hHeld => ?_)
        clear hK K
        try simp only [Act.put, List.setIfInBounds_toArray, List.set_cons_zero, List.set_cons_succ]
        refine wpAnyH_take (i := 9) (v := ?_) (by simp only [List.getElem?_toArray, List.getElem?_cons_succ, List.getElem?_cons_zero]; rfl) (by kernel_rfl) (by kernel_rfl) (by kernel_rfl) (fun _ _ _ h => h) (Or.inl ⟨by rfl, ?_⟩) (by assumption) ?_
        rotate_left
        · (intro w hSw; (try dsimp only at hSw); go_simp; try with_reducible rfl)
        try simp only [Act.put, List.setIfInBounds_toArray, List.set_cons_zero, List.set_cons_succ]
        refine wpAnyH_done (by kernel_rfl) ?_ _
        refine NoPanic.normal ?_
        clear hb x1 x2 x3 y1 y2 y3
        obtain ⟨hb, x1, x2, x3, y1, y2, y3⟩ := hHeld
        go_wp2_with fail
        refine wp_region_noPanic ?_
        refine wp_region_held_drew (S := (fun w' => Below w.heap.size w w' ∧ w'.cell? ⟨b1, o1, none⟩ = some (.string ⟨x.p.toArray⟩) ∧ w'.cell? ⟨b1, o1 + 1, none⟩ = some (.int .u64 (x.n : Int)) ∧ w'.cell? ⟨b1, o1 + 2, none⟩ = some (.bool x.bad) ∧ w'.cell? ⟨b2, o2, none⟩ = some (.string ⟨y.p.toArray⟩) ∧ w'.cell? ⟨b2, o2 + 1, none⟩ = some (.int .u64 (y.n : Int)) ∧ w'.cell? ⟨b2, o2 + 2, none⟩ = some (.bool y.bad))) (by kernel_rfl) (⟨Below.drew hb, (((Below.drew (Below.refl _ _))).cell (p := ⟨b1, o1, none⟩) q1).trans x1, (((Below.drew (Below.refl _ _))).cell (p := ⟨b1, o1 + 1, none⟩) q1).trans x2, (((Below.drew (Below.refl _ _))).cell (p := ⟨b1, o1 + 2, none⟩) q1).trans x3, (((Below.drew (Below.refl _ _))).cell (p := ⟨b2, o2, none⟩) q2).trans y1, (((Below.drew (Below.refl _ _))).cell (p := ⟨b2, o2 + 1, none⟩) q2).trans y2, (((Below.drew (Below.refl _ _))).cell (p := ⟨b2, o2 + 2, none⟩) q2).trans y3⟩) (fun hHeld => ?_)
        refine wpAnyH_take (i := 0) (v := ?_) (by simp only [List.getElem?_toArray, List.getElem?_cons_zero]; rfl) (by kernel_rfl) (by kernel_rfl) (by kernel_rfl) (fun _ _ _ h => h) (Or.inl ⟨by rfl, ?_⟩) (by assumption) ?_
        rotate_left
        · (intro w hSw; (try dsimp only at hSw); go_simp; try with_reducible rfl)
        try simp only [Act.put, List.setIfInBounds_toArray, List.set_cons_zero, List.set_cons_succ]
        refine wpAnyH_take (i := 1) (v := ?_) (by simp only [List.getElem?_toArray, List.getElem?_cons_succ, List.getElem?_cons_zero]; rfl) (by kernel_rfl) (by kernel_rfl) (by kernel_rfl) (fun _ _ _ h => h) (Or.inl ⟨by rfl, ?_⟩) (by assumption) ?_
        rotate_left
        · (intro w hSw; (try dsimp only at hSw); go_simp; try with_reducible rfl)
        try simp only [Act.put, List.setIfInBounds_toArray, List.set_cons_zero, List.set_cons_succ]
        refine wpAnyH_take (i := 2) (v := ?_) (by simp only [List.getElem?_toArray, List.getElem?_cons_succ, List.getElem?_cons_zero]; rfl) (by kernel_rfl) (by kernel_rfl) (by kernel_rfl) (fun _ _ _ h => h) (Or.inl ⟨by rfl, ?_⟩) (by assumption) ?_
        rotate_left
        · (intro w hSw; (try dsimp only at hSw); go_simp; try with_reducible rfl)
        try simp only [Act.put, List.setIfInBounds_toArray, List.set_cons_zero, List.set_cons_succ]
        refine wpAnyH_take (i := 3) (v := ?_) (by simp only [List.getElem?_toArray, List.getElem?_cons_succ, List.getElem?_cons_zero]; rfl) (by kernel_rfl) (by kernel_rfl) (by kernel_rfl) (fun _ _ _ h => h) (Or.inl ⟨by rfl, ?_⟩) (by assumption) ?_
        rotate_left
        · (intro w hSw; (try dsimp only at hSw); go_simp; try with_reducible rfl)
        try simp only [Act.put, List.setIfInBounds_toArray, List.set_cons_zero, List.set_cons_succ]
        refine wpAnyH_take (i := 6) (v := ?_) (by simp only [List.getElem?_toArray, List.getElem?_cons_succ, List.getElem?_cons_zero]; rfl) (by kernel_rfl) (by kernel_rfl) (by kernel_rfl) (fun _ _ _ h => h) (Or.inl ⟨by rfl, ?_⟩) (by assumption) ?_
        rotate_left
        · (intro w hSw; (try dsimp only at hSw); go_simp; try with_reducible rfl)
        try simp only [Act.put, List.setIfInBounds_toArray, List.set_cons_zero, List.set_cons_succ]
        refine wpAnyH_take (i := 7) (v := ?_) (by simp only [List.getElem?_toArray, List.getElem?_cons_succ, List.getElem?_cons_zero]; rfl) (by kernel_rfl) (by kernel_rfl) (by kernel_rfl) (fun _ _ _ h => h) (Or.inl ⟨by rfl, ?_⟩) (by assumption) ?_
        rotate_left
        · (intro w hSw; (try dsimp only at hSw); go_simp; try with_reducible rfl)
        try simp only [Act.put, List.setIfInBounds_toArray, List.set_cons_zero, List.set_cons_succ]
        refine wpAnyH_ready (rs := [4]) (by kernel_rfl) (by simp) ?_
        refine AllReadyH.cons (by simp only [List.getElem?_toArray, List.getElem?_cons_succ, List.getElem?_cons_zero]; rfl) (fun K hK => ?_) AllReadyH.nil
        go_simp
        refine hK.out _ _ (⟨(hHeld.1).trans ((Below.refl w.heap.size _).alloc (hHeld.1).size _), ((((Below.refl w.heap.size _).alloc (hHeld.1).size _)).cell (p := ⟨b1, o1, none⟩) q1).trans hHeld.2.1, ((((Below.refl w.heap.size _).alloc (hHeld.1).size _)).cell (p := ⟨b1, o1 + 1, none⟩) q1).trans hHeld.2.2.1, ((((Below.refl w.heap.size _).alloc (hHeld.1).size _)).cell (p := ⟨b1, o1 + 2, none⟩) q1).trans hHeld.2.2.2.1, ((((Below.refl w.heap.size _).alloc (hHeld.1).size _)).cell (p := ⟨b2, o2, none⟩) q2).trans hHeld.2.2.2.2.1, ((((Below.refl w.heap.size _).alloc (hHeld.1).size _)).cell (p := ⟨b2, o2 + 1, none⟩) q2).trans hHeld.2.2.2.2.2.1, ((((Below.refl w.heap.size _).alloc (hHeld.1).size _)).cell (p := ⟨b2, o2 + 2, none⟩) q2).trans hHeld.2.2.2.2.2.2⟩) (fun hHeld => ?_)
        clear hK K
        try simp only [Act.put, List.setIfInBounds_toArray, List.set_cons_zero, List.set_cons_succ]
        refine wpAnyH_ready (rs := [5]) (by kernel_rfl) (by simp) ?_
        refine AllReadyH.cons (by simp only [List.getElem?_toArray, List.getElem?_cons_succ, List.getElem?_cons_zero]; rfl) (fun K hK => ?_) AllReadyH.nil
        refine Row.step_app typ rfl (.tmp 66) (.tmp 70) rfl w.heap.size _ out rfl (oO.out.alloc _) _ 1 1 [y] rfl (Row.lies_new _ (y) _) (by omega) (by have := (hHeld.1).size; simp only [World.size_alloc, World.size_drew] at this ⊢; omega) ?_
        intro v9 w9 o9 _ k9
        refine hK.out _ _ (⟨(hHeld.1).trans k9, ((k9).cell (p := ⟨b1, o1, none⟩) q1).trans hHeld.2.1, ((k9).cell (p := ⟨b1, o1 + 1, none⟩) q1).trans hHeld.2.2.1, ((k9).cell (p := ⟨b1, o1 + 2, none⟩) q1).trans hHeld.2.2.2.1, ((k9).cell (p := ⟨b2, o2, none⟩) q2).trans hHeld.2.2.2.2.1, ((k9).cell (p := ⟨b2, o2 + 1, none⟩) q2).trans hHeld.2.2.2.2.2.1, ((k9).cell (p := ⟨b2, o2 + 2, none⟩) q2).trans hHeld.2.2.2.2.2.2⟩) (fun hHeld => ?_)
        clear hK K
        try simp only [Act.put, List.setIfInBounds_toArray, List.set_cons_zero, List.set_cons_succ]
        refine wpAnyH_take (i := 8) (v := ?_) (by simp only [List.getElem?_toArray, List.getElem?_cons_succ, List.getElem?_cons_zero]; rfl) (by kernel_rfl) (by kernel_rfl) (by kernel_rfl) (fun _ _ _ h => h) (Or.inl ⟨by rfl, ?_⟩) (by assumption) ?_
        rotate_left
        · (intro w hSw; (try dsimp only at hSw); go_simp; try with_reducible rfl)
        try simp only [Act.put, List.setIfInBounds_toArray, List.set_cons_zero, List.set_cons_succ]
        refine wpAnyH_take (i := 9) (v := ?_) (by simp only [List.getElem?_toArray, List.getElem?_cons_succ, List.getElem?_cons_zero]; rfl) (by kernel_rfl) (by kernel_rfl) (by kernel_rfl) (fun _ _ _ h => h) (Or.inl ⟨by rfl, ?_⟩) (by assumption) ?_
        rotate_left
        · (intro w hSw; (try dsimp only at hSw); go_simp; try with_reducible rfl)
        try simp only [Act.put, List.setIfInBounds_toArray, List.set_cons_zero, List.set_cons_succ]
        refine wpAnyH_done (by kernel_rfl) ?_ _
        refine NoPanic.normal ?_
        clear hb x1 x2 x3 y1 y2 y3
        obtain ⟨hb, x1, x2, x3, y1, y2, y3⟩ := hHeld
        go_wp2
        go_roundw
        case rel => exact ⟨(x :: A'), C', out ++ [y], _, _, _, _, _, _, rfl, rfl, by omega, by omega, by omega, by omega, lA, TC, Lib.hid o9, Lib.hid (by have h := HS.out; rw [merge_gt HC.out] at h; rw [← h, List.append_assoc]; rfl), hb⟩
        case measure => first | (simp [lenOf]; done) | (simp [lenOf]; omega)
      · have zb : (cb : Int) - 1 ≠ 0 := by omega
        have yb : cb - 1 ≠ 0 := by omega
        go_wp2_with fail
        refine wp_region_noPanic ?_
        refine wp_region_held_drew (S := (fun w' => Below w.heap.size w w' ∧ w'.cell? ⟨b1, o1, none⟩ = some (.string ⟨x.p.toArray⟩) ∧ w'.cell? ⟨b1, o1 + 1, none⟩ = some (.int .u64 (x.n : Int)) ∧ w'.cell? ⟨b1, o1 + 2, none⟩ = some (.bool x.bad) ∧ w'.cell? ⟨b2, o2, none⟩ = some (.string ⟨y.p.toArray⟩) ∧ w'.cell? ⟨b2, o2 + 1, none⟩ = some (.int .u64 (y.n : Int)) ∧ w'.cell? ⟨b2, o2 + 2, none⟩ = some (.bool y.bad))) (by kernel_rfl) (⟨Below.drew hb, (((Below.drew (Below.refl _ _))).cell (p := ⟨b1, o1, none⟩) q1).trans x1, (((Below.drew (Below.refl _ _))).cell (p := ⟨b1, o1 + 1, none⟩) q1).trans x2, (((Below.drew (Below.refl _ _))).cell (p := ⟨b1, o1 + 2, none⟩) q1).trans x3, (((Below.drew (Below.refl _ _))).cell (p := ⟨b2, o2, none⟩) q2).trans y1, (((Below.drew (Below.refl _ _))).cell (p := ⟨b2, o2 + 1, none⟩) q2).trans y2, (((Below.drew (Below.refl _ _))).cell (p := ⟨b2, o2 + 2, none⟩) q2).trans y3⟩) (fun hHeld => ?_)
        refine wpAnyH_take (i := 0) (v := ?_) (by simp only [List.getElem?_toArray, List.getElem?_cons_zero]; rfl) (by kernel_rfl) (by kernel_rfl) (by kernel_rfl) (fun _ _ _ h => h) (Or.inl ⟨by rfl, ?_⟩) (by assumption) ?_
        rotate_left
        · (intro w hSw; (try dsimp only at hSw); go_simp; try with_reducible rfl)
        try simp only [Act.put, List.setIfInBounds_toArray, List.set_cons_zero, List.set_cons_succ]
        refine wpAnyH_take (i := 1) (v := ?_) (by simp only [List.getElem?_toArray, List.getElem?_cons_succ, List.getElem?_cons_zero]; rfl) (by kernel_rfl) (by kernel_rfl) (by kernel_rfl) (fun _ _ _ h => h) (Or.inl ⟨by rfl, ?_⟩) (by assumption) ?_
        rotate_left
        · (intro w hSw; (try dsimp only at hSw); go_simp; try with_reducible rfl)
        try simp only [Act.put, List.setIfInBounds_toArray, List.set_cons_zero, List.set_cons_succ]
        refine wpAnyH_take (i := 2) (v := ?_) (by simp only [List.getElem?_toArray, List.getElem?_cons_succ, List.getElem?_cons_zero]; rfl) (by kernel_rfl) (by kernel_rfl) (by kernel_rfl) (fun _ _ _ h => h) (Or.inl ⟨by rfl, ?_⟩) (by assumption) ?_
        rotate_left
        · (intro w hSw; (try dsimp only at hSw); go_simp; try with_reducible rfl)
        try simp only [Act.put, List.setIfInBounds_toArray, List.set_cons_zero, List.set_cons_succ]
        refine wpAnyH_take (i := 3) (v := ?_) (by simp only [List.getElem?_toArray, List.getElem?_cons_succ, List.getElem?_cons_zero]; rfl) (by kernel_rfl) (by kernel_rfl) (by kernel_rfl) (fun _ _ _ h => h) (Or.inl ⟨by rfl, ?_⟩) (by assumption) ?_
        rotate_left
        · (intro w hSw; (try dsimp only at hSw); go_simp; try with_reducible rfl)
        try simp only [Act.put, List.setIfInBounds_toArray, List.set_cons_zero, List.set_cons_succ]
        refine wpAnyH_take (i := 4) (v := ?_) (by simp only [List.getElem?_toArray, List.getElem?_cons_succ, List.getElem?_cons_zero]; rfl) (by kernel_rfl) (by kernel_rfl) (by kernel_rfl) (fun _ _ _ h => h) (Or.inl ⟨by rfl, ?_⟩) (by assumption) ?_
        rotate_left
        · (intro w hSw; (try dsimp only at hSw); go_simp; try with_reducible rfl)
        try simp only [Act.put, List.setIfInBounds_toArray, List.set_cons_zero, List.set_cons_succ]
        refine wpAnyH_take (i := 5) (v := ?_) (by simp only [List.getElem?_toArray, List.getElem?_cons_succ, List.getElem?_cons_zero]; rfl) (by kernel_rfl) (by kernel_rfl) (by kernel_rfl) (fun _ _ _ h => h) (Or.inl ⟨by rfl, ?_⟩) (by assumption) ?_
        rotate_left
        · (intro w hSw; (try dsimp only at hSw); go_simp; try with_reducible rfl)
        try simp only [Act.put, List.setIfInBounds_toArray, List.set_cons_zero, List.set_cons_succ]
        refine wpAnyH_take (i := 6) (v := ?_) (by simp only [List.getElem?_toArray, List.getElem?_cons_succ, List.getElem?_cons_zero]; rfl) (by kernel_rfl) (by kernel_rfl) (by kernel_rfl) (fun _ _ _ h => h) (Or.inl ⟨by rfl, ?_⟩) (by assumption) ?_
        rotate_left
        · (intro w hSw; (try dsimp only at hSw); go_simp; try with_reducible rfl)
        try simp only [Act.put, List.setIfInBounds_toArray, List.set_cons_zero, List.set_cons_succ]
        refine wpAnyH_take (i := 7) (v := ?_) (by simp only [List.getElem?_toArray, List.getElem?_cons_succ, List.getElem?_cons_zero]; rfl) (by kernel_rfl) (by kernel_rfl) (by kernel_rfl) (fun _ _ _ h => h) (Or.inl ⟨by rfl, ?_⟩) (by assumption) ?_
        rotate_left
        · (intro w hSw; (try dsimp only at hSw); go_simp; try with_reducible rfl)
        try simp only [Act.put, List.setIfInBounds_toArray, List.set_cons_zero, List.set_cons_succ]
        refine wpAnyH_ready (rs := [8]) (by kernel_rfl) (by simp) ?_
        refine AllReadyH.cons (by simp only [List.getElem?_toArray, List.getElem?_cons_succ, List.getElem?_cons_zero]; rfl) (fun K hK => ?_) AllReadyH.nil
        go_simp
        go_at_call 23
        refine (SC.out _).mono ?_
        rintro e w4 ⟨rfl, rfl⟩
        go_wp2_with fail
        refine hK.out _ _ hHeld (fun hHeld => ?_)
        clear hK K
        try simp only [Act.put, List.setIfInBounds_toArray, List.set_cons_zero, List.set_cons_succ]
        refine wpAnyH_take (i := 9) (v := ?_) (by simp only [List.getElem?_toArray, List.getElem?_cons_succ, List.getElem?_cons_zero]; rfl) (by kernel_rfl) (by kernel_rfl) (by kernel_rfl) (fun _ _ _ h => h) (Or.inl ⟨by rfl, ?_⟩) (by assumption) ?_
        rotate_left
        · (intro w hSw; (try dsimp only at hSw); go_simp; try with_reducible rfl)
        try simp only [Act.put, List.setIfInBounds_toArray, List.set_cons_zero, List.set_cons_succ]
        refine wpAnyH_done (by kernel_rfl) ?_ _
        refine NoPanic.normal ?_
        clear hb x1 x2 x3 y1 y2 y3
        obtain ⟨hb, x1, x2, x3, y1, y2, y3⟩ := hHeld
        go_wp2_with fail
        refine wp_region_noPanic ?_
        refine wp_region_held_drew (S := (fun w' => Below w.heap.size w w' ∧ w'.cell? ⟨b1, o1, none⟩ = some (.string ⟨x.p.toArray⟩) ∧ w'.cell? ⟨b1, o1 + 1, none⟩ = some (.int .u64 (x.n : Int)) ∧ w'.cell? ⟨b1, o1 + 2, none⟩ = some (.bool x.bad) ∧ w'.cell? ⟨b2, o2, none⟩ = some (.string ⟨y.p.toArray⟩) ∧ w'.cell? ⟨b2, o2 + 1, none⟩ = some (.int .u64 (y.n : Int)) ∧ w'.cell? ⟨b2, o2 + 2, none⟩ = some (.bool y.bad))) (by kernel_rfl) (⟨Below.drew hb, (((Below.drew (Below.refl _ _))).cell (p := ⟨b1, o1, none⟩) q1).trans x1, (((Below.drew (Below.refl _ _))).cell (p := ⟨b1, o1 + 1, none⟩) q1).trans x2, (((Below.drew (Below.refl _ _))).cell (p := ⟨b1, o1 + 2, none⟩) q1).trans x3, (((Below.drew (Below.refl _ _))).cell (p := ⟨b2, o2, none⟩) q2).trans y1, (((Below.drew (Below.refl _ _))).cell (p := ⟨b2, o2 + 1, none⟩) q2).trans y2, (((Below.drew (Below.refl _ _))).cell (p := ⟨b2, o2 + 2, none⟩) q2).trans y3⟩) (fun hHeld => ?_)
        refine wpAnyH_take (i := 0) (v := ?_) (by simp only [List.getElem?_toArray, List.getElem?_cons_zero]; rfl) (by kernel_rfl) (by kernel_rfl) (by kernel_rfl) (fun _ _ _ h => h) (Or.inl ⟨by rfl, ?_⟩) (by assumption) ?_
        rotate_left
        · (intro w hSw; (try dsimp only at hSw); go_simp; try with_reducible rfl)
        try simp only [Act.put, List.setIfInBounds_toArray, List.set_cons_zero, List.set_cons_succ]
        refine wpAnyH_take (i := 1) (v := ?_) (by simp only [List.getElem?_toArray, List.getElem?_cons_succ, List.getElem?_cons_zero]; rfl) (by kernel_rfl) (by kernel_rfl) (by kernel_rfl) (fun _ _ _ h => h) (Or.inl ⟨by rfl, ?_⟩) (by assumption) ?_
        rotate_left
        · (intro w hSw; (try dsimp only at hSw); go_simp; try with_reducible rfl)
        try simp only [Act.put, List.setIfInBounds_toArray, List.set_cons_zero, List.set_cons_succ]
        refine wpAnyH_take (i := 2) (v := ?_) (by simp only [List.getElem?_toArray, List.getElem?_cons_succ, List.getElem?_cons_zero]; rfl) (by kernel_rfl) (by kernel_rfl) (by kernel_rfl) (fun _ _ _ h => h) (Or.inl ⟨by rfl, ?_⟩) (by assumption) ?_
        rotate_left
        · (intro w hSw; (try dsimp only at hSw); go_simp; try with_reducible rfl)
        try simp only [Act.put, List.setIfInBounds_toArray, List.set_cons_zero, List.set_cons_succ]
        refine wpAnyH_take (i := 3) (v := ?_) (by simp only [List.getElem?_toArray, List.getElem?_cons_succ, List.getElem?_cons_zero]; rfl) (by kernel_rfl) (by kernel_rfl) (by kernel_rfl) (fun _ _ _ h => h) (Or.inl ⟨by rfl, ?_⟩) (by assumption) ?_
        rotate_left
        · (intro w hSw; (try dsimp only at hSw); go_simp; try with_reducible rfl)
        try simp only [Act.put, List.setIfInBounds_toArray, List.set_cons_zero, List.set_cons_succ]
        refine wpAnyH_take (i := 6) (v := ?_) (by simp only [List.getElem?_toArray, List.getElem?_cons_succ, List.getElem?_cons_zero]; rfl) (by kernel_rfl) (by kernel_rfl) (by kernel_rfl) (fun _ _ _ h => h) (Or.inl ⟨by rfl, ?_⟩) (by assumption) ?_
        rotate_left
        · (intro w hSw; (try dsimp only at hSw); go_simp; try with_reducible rfl)
        try simp only [Act.put, List.setIfInBounds_toArray, List.set_cons_zero, List.set_cons_succ]
        refine wpAnyH_take (i := 7) (v := ?_) (by simp only [List.getElem?_toArray, List.getElem?_cons_succ, List.getElem?_cons_zero]; rfl) (by kernel_rfl) (by kernel_rfl) (by kernel_rfl) (fun _ _ _ h => h) (Or.inl ⟨by rfl, ?_⟩) (by assumption) ?_
        rotate_left
        · (intro w hSw; (try dsimp only at hSw); go_simp; try with_reducible rfl)
        try simp only [Act.put, List.setIfInBounds_toArray, List.set_cons_zero, List.set_cons_succ]
        refine wpAnyH_ready (rs := [4]) (by kernel_rfl) (by simp) ?_
        refine AllReadyH.cons (by simp only [List.getElem?_toArray, List.getElem?_cons_succ, List.getElem?_cons_zero]; rfl) (fun K hK => ?_) AllReadyH.nil
        go_simp
        refine hK.out _ _ (⟨(hHeld.1).trans ((Below.refl w.heap.size _).alloc (hHeld.1).size _), ((((Below.refl w.heap.size _).alloc (hHeld.1).size _)).cell (p := ⟨b1, o1, none⟩) q1).trans hHeld.2.1, ((((Below.refl w.heap.size _).alloc (hHeld.1).size _)).cell (p := ⟨b1, o1 + 1, none⟩) q1).trans hHeld.2.2.1, ((((Below.refl w.heap.size _).alloc (hHeld.1).size _)).cell (p := ⟨b1, o1 + 2, none⟩) q1).trans hHeld.2.2.2.1, ((((Below.refl w.heap.size _).alloc (hHeld.1).size _)).cell (p := ⟨b2, o2, none⟩) q2).trans hHeld.2.2.2.2.1, ((((Below.refl w.heap.size _).alloc (hHeld.1).size _)).cell (p := ⟨b2, o2 + 1, none⟩) q2).trans hHeld.2.2.2.2.2.1, ((((Below.refl w.heap.size _).alloc (hHeld.1).size _)).cell (p := ⟨b2, o2 + 2, none⟩) q2).trans hHeld.2.2.2.2.2.2⟩) (fun hHeld => ?_)
        clear hK K
        try simp only [Act.put, List.setIfInBounds_toArray, List.set_cons_zero, List.set_cons_succ]
        refine wpAnyH_ready (rs := [5]) (by kernel_rfl) (by simp) ?_
        refine AllReadyH.cons (by simp only [List.getElem?_toArray, List.getElem?_cons_succ, List.getElem?_cons_zero]; rfl) (fun K hK => ?_) AllReadyH.nil
        refine Row.step_app typ rfl (.tmp 66) (.tmp 70) rfl w.heap.size _ out rfl (oO.out.alloc _) _ 1 1 [y] rfl (Row.lies_new _ (y) _) (by omega) (by have := (hHeld.1).size; simp only [World.size_alloc, World.size_drew] at this ⊢; omega) ?_
        intro v9 w9 o9 _ k9
        refine hK.out _ _ (⟨(hHeld.1).trans k9, ((k9).cell (p := ⟨b1, o1, none⟩) q1).trans hHeld.2.1, ((k9).cell (p := ⟨b1, o1 + 1, none⟩) q1).trans hHeld.2.2.1, ((k9).cell (p := ⟨b1, o1 + 2, none⟩) q1).trans hHeld.2.2.2.1, ((k9).cell (p := ⟨b2, o2, none⟩) q2).trans hHeld.2.2.2.2.1, ((k9).cell (p := ⟨b2, o2 + 1, none⟩) q2).trans hHeld.2.2.2.2.2.1, ((k9).cell (p := ⟨b2, o2 + 2, none⟩) q2).trans hHeld.2.2.2.2.2.2⟩) (fun hHeld => ?_)
        clear hK K
        try simp only [Act.put, List.setIfInBounds_toArray, List.set_cons_zero, List.set_cons_succ]
        refine wpAnyH_take (i := 8) (v := ?_) (by simp only [List.getElem?_toArray, List.getElem?_cons_succ, List.getElem?_cons_zero]; rfl) (by kernel_rfl) (by kernel_rfl) (by kernel_rfl) (fun _ _ _ h => h) (Or.inl ⟨by rfl, ?_⟩) (by assumption) ?_
        rotate_left
        · (intro w hSw; (try dsimp only at hSw); go_simp; try with_reducible rfl)
        try simp only [Act.put, List.setIfInBounds_toArray, List.set_cons_zero, List.set_cons_succ]
        refine wpAnyH_take (i := 9) (v := ?_) (by simp only [List.getElem?_toArray, List.getElem?_cons_succ, List.getElem?_cons_zero]; rfl) (by kernel_rfl) (by kernel_rfl) (by kernel_rfl) (fun _ _ _ h => h) (Or.inl ⟨by rfl, ?_⟩) (by assumption) ?_
        rotate_left
        · (intro w hSw; (try dsimp only at hSw); go_simp; try with_reducible rfl)
        try simp only [Act.put, List.setIfInBounds_toArray, List.set_cons_zero, List.set_cons_succ]
        refine wpAnyH_done (by kernel_rfl) ?_ _
        refine NoPanic.normal ?_
        clear hb x1 x2 x3 y1 y2 y3
        obtain ⟨hb, x1, x2, x3, y1, y2, y3⟩ := hHeld
        go_wp2
        go_roundw
        case rel => exact ⟨(x :: A'), C', out ++ [y], _, _, _, _, _, _, rfl, rfl, by omega, by omega, by omega, by omega, lA, TC, Lib.hid o9, Lib.hid (by have h := HS.out; rw [merge_gt HC.out] at h; rw [← h, List.append_assoc]; rfl), hb⟩
        case measure => first | (simp [lenOf]; done) | (simp [lenOf]; omega)
    have HC : Hid (x.p = y.p) := Lib.hid (by rcases lt_ways x.p y.p with h | h | h; exact absurd h hl; exact h; exact absurd h hg)
    have s1 : decide (Lib.compareBytes x.p y.p < 0) = false := decide_eq_false hl
    have s2 : decide (Lib.compareBytes x.p y.p > 0) = false := decide_eq_false (by have h := cmp_flip x.p y.p; unfold lt at hg; omega)
    have s3 : decide (0 < Lib.compareBytes x.p y.p) = false := s2
    clear hl hg
    by_cases hka : ca = 1
    · obtain rfl : ca = 1 := hka
      obtain rfl : n = 1 := by omega
      replace TA : Hid (Lies w (some ⟨b1, o1, none⟩) 0 A') := Lib.hid (by have h := TA.out; obtain rfl := lies_nil_of h; exact Row.Lies.nil _ _)
      by_cases hkb : cb = 1
      · obtain rfl : cb = 1 := hkb
        obtain rfl : m = 1 := by omega
        replace TC : Hid (Lies w (some ⟨b2, o2, none⟩) 0 C') := Lib.hid (by have h := TC.out; obtain rfl := lies_nil_of h; exact Row.Lies.nil _ _)
        go_wp2_with fail
        refine wp_region_noPanic ?_
        refine wp_region_held_drew (S := (fun w' => Below w.heap.size w w' ∧ w'.cell? ⟨b1, o1, none⟩ = some (.string ⟨x.p.toArray⟩) ∧ w'.cell? ⟨b1, o1 + 1, none⟩ = some (.int .u64 (x.n : Int)) ∧ w'.cell? ⟨b1, o1 + 2, none⟩ = some (.bool x.bad) ∧ w'.cell? ⟨b2, o2, none⟩ = some (.string ⟨y.p.toArray⟩) ∧ w'.cell? ⟨b2, o2 + 1, none⟩ = some (.int .u64 (y.n : Int)) ∧ w'.cell? ⟨b2, o2 + 2, none⟩ = some (.bool y.bad))) (by kernel_rfl) (⟨Below.drew hb, (((Below.drew (Below.refl _ _))).cell (p := ⟨b1, o1, none⟩) q1).trans x1, (((Below.drew (Below.refl _ _))).cell (p := ⟨b1, o1 + 1, none⟩) q1).trans x2, (((Below.drew (Below.refl _ _))).cell (p := ⟨b1, o1 + 2, none⟩) q1).trans x3, (((Below.drew (Below.refl _ _))).cell (p := ⟨b2, o2, none⟩) q2).trans y1, (((Below.drew (Below.refl _ _))).cell (p := ⟨b2, o2 + 1, none⟩) q2).trans y2, (((Below.drew (Below.refl _ _))).cell (p := ⟨b2, o2 + 2, none⟩) q2).trans y3⟩) (fun hHeld => ?_)
        refine wpAnyH_take (i := 0) (v := ?_) (by simp only [List.getElem?_toArray, List.getElem?_cons_zero]; rfl) (by kernel_rfl) (by kernel_rfl) (by kernel_rfl) (fun _ _ _ h => h) (Or.inl ⟨by rfl, ?_⟩) (by assumption) ?_
        rotate_left
        · (intro w hSw; (try dsimp only at hSw); go_simp; try with_reducible rfl)
        try simp only [Act.put, List.setIfInBounds_toArray, List.set_cons_zero, List.set_cons_succ]
        refine wpAnyH_take (i := 1) (v := ?_) (by simp only [List.getElem?_toArray, List.getElem?_cons_succ, List.getElem?_cons_zero]; rfl) (by kernel_rfl) (by kernel_rfl) (by kernel_rfl) (fun _ _ _ h => h) (Or.inl ⟨by rfl, ?_⟩) (by assumption) ?_
        rotate_left
        · (intro w hSw; (try dsimp only at hSw); go_simp; try with_reducible rfl)
        try simp only [Act.put, List.setIfInBounds_toArray, List.set_cons_zero, List.set_cons_succ]
        refine wpAnyH_take (i := 2) (v := ?_) (by simp only [List.getElem?_toArray, List.getElem?_cons_succ, List.getElem?_cons_zero]; rfl) (by kernel_rfl) (by kernel_rfl) (by kernel_rfl) (fun _ _ _ h => h) (Or.inl ⟨by rfl, ?_⟩) (by assumption) ?_
        rotate_left
        · (intro w hSw; (try dsimp only at hSw); go_simp; try with_reducible rfl)
        try simp only [Act.put, List.setIfInBounds_toArray, List.set_cons_zero, List.set_cons_succ]
        refine wpAnyH_take (i := 3) (v := ?_) (by simp only [List.getElem?_toArray, List.getElem?_cons_succ, List.getElem?_cons_zero]; rfl) (by kernel_rfl) (by kernel_rfl) (by kernel_rfl) (fun _ _ _ h => h) (Or.inl ⟨by rfl, ?_⟩) (by assumption) ?_
        rotate_left
        · (intro w hSw; (try dsimp only at hSw); go_simp; try with_reducible rfl)
        try simp only [Act.put, List.setIfInBounds_toArray, List.set_cons_zero, List.set_cons_succ]
        refine wpAnyH_take (i := 4) (v := ?_) (by simp only [List.getElem?_toArray, List.getElem?_cons_succ, List.getElem?_cons_zero]; rfl) (by kernel_rfl) (by kernel_rfl) (by kernel_rfl) (fun _ _ _ h => h) (Or.inl ⟨by rfl, ?_⟩) (by assumption) ?_
        rotate_left
        · (intro w hSw; (try dsimp only at hSw); go_simp; try with_reducible rfl)
        try simp only [Act.put, List.setIfInBounds_toArray, List.set_cons_zero, List.set_cons_succ]
        refine wpAnyH_take (i := 5) (v := ?_) (by simp only [List.getElem?_toArray, List.getElem?_cons_succ, List.getElem?_cons_zero]; rfl) (by kernel_rfl) (by kernel_rfl) (by kernel_rfl) (fun _ _ _ h => h) (Or.inl ⟨by rfl, ?_⟩) (by assumption) ?_
        rotate_left
        · (intro w hSw; (try dsimp only at hSw); go_simp; try with_reducible rfl)
        try simp only [Act.put, List.setIfInBounds_toArray, List.set_cons_zero, List.set_cons_succ]
        refine wpAnyH_take (i := 6) (v := ?_) (by simp only [List.getElem?_toArray, List.getElem?_cons_succ, List.getElem?_cons_zero]; rfl) (by kernel_rfl) (by kernel_rfl) (by kernel_rfl) (fun _ _ _ h => h) (Or.inl ⟨by rfl, ?_⟩) (by assumption) ?_
        rotate_left
        · (intro w hSw; (try dsimp only at hSw); go_simp; try with_reducible rfl)
        try simp only [Act.put, List.setIfInBounds_toArray, List.set_cons_zero, List.set_cons_succ]
        refine wpAnyH_take (i := 7) (v := ?_) (by simp only [List.getElem?_toArray, List.getElem?_cons_succ, List.getElem?_cons_zero]; rfl) (by kernel_rfl) (by kernel_rfl) (by kernel_rfl) (fun _ _ _ h => h) (Or.inl ⟨by rfl, ?_⟩) (by assumption) ?_
        rotate_left
        · (intro w hSw; (try dsimp only at hSw); go_simp; try with_reducible rfl)
        try simp only [Act.put, List.setIfInBounds_toArray, List.set_cons_zero, List.set_cons_succ]
        refine wpAnyH_ready (rs := [8]) (by kernel_rfl) (by simp) ?_
        refine AllReadyH.cons (by simp only [List.getElem?_toArray, List.getElem?_cons_succ, List.getElem?_cons_zero]; rfl) (fun K hK => ?_) AllReadyH.nil
        go_simp
        go_at_call 23
        refine (SC.out _).mono ?_
        rintro e w5 ⟨rfl, rfl⟩
        go_wp2_with fail
        refine hK.out _ _ hHeld (fun hHeld => ?_)
        clear hK K
        try simp only [Act.put, List.setIfInBounds_toArray, List.set_cons_zero, List.set_cons_succ]
        refine wpAnyH_take (i := 9) (v := ?_) (by simp only [List.getElem?_toArray, List.getElem?_cons_succ, List.getElem?_cons_zero]; rfl) (by kernel_rfl) (by kernel_rfl) (by kernel_rfl) (fun _ _ _ h => h) (Or.inl ⟨by rfl, ?_⟩) (by assumption) ?_
        rotate_left
        · (intro w hSw; (try dsimp only at hSw); go_simp; try with_reducible rfl)
        try simp only [Act.put, List.setIfInBounds_toArray, List.set_cons_zero, List.set_cons_succ]
        refine wpAnyH_done (by kernel_rfl) ?_ _
        refine NoPanic.normal ?_
        clear hb x1 x2 x3 y1 y2 y3
        obtain ⟨hb, x1, x2, x3, y1, y2, y3⟩ := hHeld
        go_wp2_with fail
        refine wp_region_noPanic ?_
        refine wp_region_held_drew (S := (fun w' => Below w.heap.size w w' ∧ w'.cell? ⟨b1, o1, none⟩ = some (.string ⟨x.p.toArray⟩) ∧ w'.cell? ⟨b1, o1 + 1, none⟩ = some (.int .u64 (x.n : Int)) ∧ w'.cell? ⟨b1, o1 + 2, none⟩ = some (.bool x.bad) ∧ w'.cell? ⟨b2, o2, none⟩ = some (.string ⟨y.p.toArray⟩) ∧ w'.cell? ⟨b2, o2 + 1, none⟩ = some (.int .u64 (y.n : Int)) ∧ w'.cell? ⟨b2, o2 + 2, none⟩ = some (.bool y.bad))) (by kernel_rfl) (⟨Below.drew hb, (((Below.drew (Below.refl _ _))).cell (p := ⟨b1, o1, none⟩) q1).trans x1, (((Below.drew (Below.refl _ _))).cell (p := ⟨b1, o1 + 1, none⟩) q1).trans x2, (((Below.drew (Below.refl _ _))).cell (p := ⟨b1, o1 + 2, none⟩) q1).trans x3, (((Below.drew (Below.refl _ _))).cell (p := ⟨b2, o2, none⟩) q2).trans y1, (((Below.drew (Below.refl _ _))).cell (p := ⟨b2, o2 + 1, none⟩) q2).trans y2, (((Below.drew (Below.refl _ _))).cell (p := ⟨b2, o2 + 2, none⟩) q2).trans y3⟩) (fun hHeld => ?_)
        refine wpAnyH_take (i := 0) (v := ?_) (by simp only [List.getElem?_toArray, List.getElem?_cons_zero]; rfl) (by kernel_rfl) (by kernel_rfl) (by kernel_rfl) (fun _ _ _ h => h) (Or.inl ⟨by rfl, ?_⟩) (by assumption) ?_
        rotate_left
        · (intro w hSw; (try dsimp only at hSw); go_simp; try with_reducible rfl)
        try simp only [Act.put, List.setIfInBounds_toArray, List.set_cons_zero, List.set_cons_succ]
        refine wpAnyH_take (i := 1) (v := ?_) (by simp only [List.getElem?_toArray, List.getElem?_cons_succ, List.getElem?_cons_zero]; rfl) (by kernel_rfl) (by kernel_rfl) (by kernel_rfl) (fun _ _ _ h => h) (Or.inl ⟨by rfl, ?_⟩) (by assumption) ?_
        rotate_left
        · (intro w hSw; (try dsimp only at hSw); go_simp; try with_reducible rfl)
        try simp only [Act.put, List.setIfInBounds_toArray, List.set_cons_zero, List.set_cons_succ]
        refine wpAnyH_take (i := 2) (v := ?_) (by simp only [List.getElem?_toArray, List.getElem?_cons_succ, List.getElem?_cons_zero]; rfl) (by kernel_rfl) (by kernel_rfl) (by kernel_rfl) (fun _ _ _ h => h) (Or.inl ⟨by rfl, ?_⟩) (by assumption) ?_
        rotate_left
        · (intro w hSw; (try dsimp only at hSw); go_simp; try with_reducible rfl)
        try simp only [Act.put, List.setIfInBounds_toArray, List.set_cons_zero, List.set_cons_succ]
        refine wpAnyH_take (i := 3) (v := ?_) (by simp only [List.getElem?_toArray, List.getElem?_cons_succ, List.getElem?_cons_zero]; rfl) (by kernel_rfl) (by kernel_rfl) (by kernel_rfl) (fun _ _ _ h => h) (Or.inl ⟨by rfl, ?_⟩) (by assumption) ?_
        rotate_left
        · (intro w hSw; (try dsimp only at hSw); go_simp; try with_reducible rfl)
        try simp only [Act.put, List.setIfInBounds_toArray, List.set_cons_zero, List.set_cons_succ]
        refine wpAnyH_take (i := 4) (v := ?_) (by simp only [List.getElem?_toArray, List.getElem?_cons_succ, List.getElem?_cons_zero]; rfl) (by kernel_rfl) (by kernel_rfl) (by kernel_rfl) (fun _ _ _ h => h) (Or.inl ⟨by rfl, ?_⟩) (by assumption) ?_
        rotate_left
        · (intro w hSw; (try dsimp only at hSw); go_simp; try with_reducible rfl)
        try simp only [Act.put, List.setIfInBounds_toArray, List.set_cons_zero, List.set_cons_succ]
        refine wpAnyH_take (i := 5) (v := ?_) (by simp only [List.getElem?_toArray, List.getElem?_cons_succ, List.getElem?_cons_zero]; rfl) (by kernel_rfl) (by kernel_rfl) (by kernel_rfl) (fun _ _ _ h => h) (Or.inl ⟨by rfl, ?_⟩) (by assumption) ?_
        rotate_left
        · (intro w hSw; (try dsimp only at hSw); go_simp; try with_reducible rfl)
        try simp only [Act.put, List.setIfInBounds_toArray, List.set_cons_zero, List.set_cons_succ]
        refine wpAnyH_take (i := 6) (v := ?_) (by simp only [List.getElem?_toArray, List.getElem?_cons_succ, List.getElem?_cons_zero]; rfl) (by kernel_rfl) (by kernel_rfl) (by kernel_rfl) (fun _ _ _ h => h) (Or.inl ⟨by rfl, ?_⟩) (by assumption) ?_
        rotate_left
        · (intro w hSw; (try dsimp only at hSw); go_simp; try with_reducible rfl)
        try simp only [Act.put, List.setIfInBounds_toArray, List.set_cons_zero, List.set_cons_succ]
        refine wpAnyH_take (i := 10) (v := ?_) (by simp only [List.getElem?_toArray, List.getElem?_cons_succ, List.getElem?_cons_zero]; rfl) (by kernel_rfl) (by kernel_rfl) (by kernel_rfl) (fun _ _ _ h => h) (Or.inl ⟨by rfl, ?_⟩) (by assumption) ?_
        rotate_left
        · (intro w hSw; (try dsimp only at hSw); go_simp; try with_reducible rfl)
        try simp only [Act.put, List.setIfInBounds_toArray, List.set_cons_zero, List.set_cons_succ]
        refine wpAnyH_take (i := 11) (v := ?_) (by simp only [List.getElem?_toArray, List.getElem?_cons_succ, List.getElem?_cons_zero]; rfl) (by kernel_rfl) (by kernel_rfl) (by kernel_rfl) (fun _ _ _ h => h) (Or.inl ⟨by rfl, ?_⟩) (by assumption) ?_
        rotate_left
        · (intro w hSw; (try dsimp only at hSw); go_simp; try with_reducible rfl)
        try simp only [Act.put, List.setIfInBounds_toArray, List.set_cons_zero, List.set_cons_succ]
        refine wpAnyH_take (i := 12) (v := ?_) (by simp only [List.getElem?_toArray, List.getElem?_cons_succ, List.getElem?_cons_zero]; rfl) (by kernel_rfl) (by kernel_rfl) (by kernel_rfl) (fun _ _ _ h => h) (Or.inl ⟨by rfl, ?_⟩) (by assumption) ?_
        rotate_left
        · (intro w hSw; (try dsimp only at hSw); go_simp; try with_reducible rfl)
        try simp only [Act.put, List.setIfInBounds_toArray, List.set_cons_zero, List.set_cons_succ]
        refine wpAnyH_take (i := 13) (v := ?_) (by simp only [List.getElem?_toArray, List.getElem?_cons_succ, List.getElem?_cons_zero]; rfl) (by kernel_rfl) (by kernel_rfl) (by kernel_rfl) (fun _ _ _ h => h) (Or.inl ⟨by rfl, ?_⟩) (by assumption) ?_
        rotate_left
        · (intro w hSw; (try dsimp only at hSw); go_simp; try with_reducible rfl)
        try simp only [Act.put, List.setIfInBounds_toArray, List.set_cons_zero, List.set_cons_succ]
        refine wpAnyH_ready (rs := [7]) (by kernel_rfl) (by simp) ?_
        refine AllReadyH.cons (by simp only [List.getElem?_toArray, List.getElem?_cons_succ, List.getElem?_cons_zero]; rfl) (fun K hK => ?_) AllReadyH.nil
        go_simp
        go_at_call 24
        refine (greater_any x y _).mono ?_
        rintro e v6 ⟨rfl, k6⟩
        have KG := Lib.hid (oO.out.drew.drew.below k6)
        replace k6 := (k6).mono (hHeld.1).size
        go_wp2_with fail
        refine hK.out _ _ (⟨(hHeld.1).trans k6, ((k6).cell (p := ⟨b1, o1, none⟩) q1).trans hHeld.2.1, ((k6).cell (p := ⟨b1, o1 + 1, none⟩) q1).trans hHeld.2.2.1, ((k6).cell (p := ⟨b1, o1 + 2, none⟩) q1).trans hHeld.2.2.2.1, ((k6).cell (p := ⟨b2, o2, none⟩) q2).trans hHeld.2.2.2.2.1, ((k6).cell (p := ⟨b2, o2 + 1, none⟩) q2).trans hHeld.2.2.2.2.2.1, ((k6).cell (p := ⟨b2, o2 + 2, none⟩) q2).trans hHeld.2.2.2.2.2.2⟩) (fun hHeld => ?_)
        clear hK K k6
        try simp only [Act.put, List.setIfInBounds_toArray, List.set_cons_zero, List.set_cons_succ]
        refine wpAnyH_ready (rs := [8]) (by kernel_rfl) (by simp) ?_
        refine AllReadyH.cons (by simp only [List.getElem?_toArray, List.getElem?_cons_succ, List.getElem?_cons_zero]; rfl) (fun K hK => ?_) AllReadyH.nil
        go_simp
        refine hK.out _ _ (⟨(hHeld.1).trans ((Below.refl w.heap.size _).alloc (hHeld.1).size _), ((((Below.refl w.heap.size _).alloc (hHeld.1).size _)).cell (p := ⟨b1, o1, none⟩) q1).trans hHeld.2.1, ((((Below.refl w.heap.size _).alloc (hHeld.1).size _)).cell (p := ⟨b1, o1 + 1, none⟩) q1).trans hHeld.2.2.1, ((((Below.refl w.heap.size _).alloc (hHeld.1).size _)).cell (p := ⟨b1, o1 + 2, none⟩) q1).trans hHeld.2.2.2.1, ((((Below.refl w.heap.size _).alloc (hHeld.1).size _)).cell (p := ⟨b2, o2, none⟩) q2).trans hHeld.2.2.2.2.1, ((((Below.refl w.heap.size _).alloc (hHeld.1).size _)).cell (p := ⟨b2, o2 + 1, none⟩) q2).trans hHeld.2.2.2.2.2.1, ((((Below.refl w.heap.size _).alloc (hHeld.1).size _)).cell (p := ⟨b2, o2 + 2, none⟩) q2).trans hHeld.2.2.2.2.2.2⟩) (fun hHeld => ?_)
        clear hK K
        try simp only [Act.put, List.setIfInBounds_toArray, List.set_cons_zero, List.set_cons_succ]
        refine wpAnyH_ready (rs := [9]) (by kernel_rfl) (by simp) ?_
        refine AllReadyH.cons (by simp only [List.getElem?_toArray, List.getElem?_cons_succ, List.getElem?_cons_zero]; rfl) (fun K hK => ?_) AllReadyH.nil
        refine Row.step_app typ rfl (.tmp 38) (.tmp 46) rfl w.heap.size _ out rfl (KG.out.alloc _) _ 1 1 [greater x y] rfl (Row.lies_new _ (greater x y) _) (by omega) (by have := (hHeld.1).size; simp only [World.size_alloc] at this ⊢; omega) ?_
        intro v9 w9 o9 _ k9
        refine hK.out _ _ (⟨(hHeld.1).trans k9, ((k9).cell (p := ⟨b1, o1, none⟩) q1).trans hHeld.2.1, ((k9).cell (p := ⟨b1, o1 + 1, none⟩) q1).trans hHeld.2.2.1, ((k9).cell (p := ⟨b1, o1 + 2, none⟩) q1).trans hHeld.2.2.2.1, ((k9).cell (p := ⟨b2, o2, none⟩) q2).trans hHeld.2.2.2.2.1, ((k9).cell (p := ⟨b2, o2 + 1, none⟩) q2).trans hHeld.2.2.2.2.2.1, ((k9).cell (p := ⟨b2, o2 + 2, none⟩) q2).trans hHeld.2.2.2.2.2.2⟩) (fun hHeld => ?_)
        clear hK K
        try simp only [Act.put, List.setIfInBounds_toArray, List.set_cons_zero, List.set_cons_succ]
        refine wpAnyH_take (i := 14) (v := ?_) (by simp only [List.getElem?_toArray, List.getElem?_cons_succ, List.getElem?_cons_zero]; rfl) (by kernel_rfl) (by kernel_rfl) (by kernel_rfl) (fun _ _ _ h => h) (Or.inl ⟨by rfl, ?_⟩) (by assumption) ?_
        rotate_left
        · (intro w hSw; (try dsimp only at hSw); go_simp; try with_reducible rfl)
        try simp only [Act.put, List.setIfInBounds_toArray, List.set_cons_zero, List.set_cons_succ]
        refine wpAnyH_take (i := 15) (v := ?_) (by simp only [List.getElem?_toArray, List.getElem?_cons_succ, List.getElem?_cons_zero]; rfl) (by kernel_rfl) (by kernel_rfl) (by kernel_rfl) (fun _ _ _ h => h) (Or.inl ⟨by rfl, ?_⟩) (by assumption) ?_
        rotate_left
        · (intro w hSw; (try dsimp only at hSw); go_simp; try with_reducible rfl)
        try simp only [Act.put, List.setIfInBounds_toArray, List.set_cons_zero]
        refine wpAnyH_take (i := 16) (v := ?_) (by simp only [List.getElem?_toArray, List.getElem?_cons_succ, List.getElem?_cons_zero]; rfl) (by kernel_rfl) (by kernel_rfl) (by kernel_rfl) (fun _ _ _ h => h) (Or.inl ⟨by rfl, ?_⟩) (by assumption) ?_
        rotate_left
        · (intro w hSw; (try dsimp only at hSw); go_simp; try with_reducible rfl)
        try simp only [Act.put, List.setIfInBounds_toArray, List.set_cons_zero, List.set_cons_succ]
        refine wpAnyH_done (by kernel_rfl) ?_ _
        refine NoPanic.normal ?_
        clear hb x1 x2 x3 y1 y2 y3
        obtain ⟨hb, x1, x2, x3, y1, y2, y3⟩ := hHeld
        go_wp2
        go_roundw
        case rel => exact ⟨A', C', out ++ [greater x y], _, _, _, _, _, _, rfl, rfl, by omega, by omega, by omega, by omega, TA, TC, Lib.hid o9, Lib.hid (by have h := HS.out; rw [merge_eq HC.out] at h; rw [← h, List.append_assoc]; rfl), hb⟩
        case measure => first | (simp [lenOf]; done) | (simp [lenOf]; omega)
      · have zb : (cb : Int) - 1 ≠ 0 := by omega
        have yb : cb - 1 ≠ 0 := by omega
        go_wp2_with fail
        refine wp_region_noPanic ?_
        refine wp_region_held_drew (S := (fun w' => Below w.heap.size w w' ∧ w'.cell? ⟨b1, o1, none⟩ = some (.string ⟨x.p.toArray⟩) ∧ w'.cell? ⟨b1, o1 + 1, none⟩ = some (.int .u64 (x.n : Int)) ∧ w'.cell? ⟨b1, o1 + 2, none⟩ = some (.bool x.bad) ∧ w'.cell? ⟨b2, o2, none⟩ = some (.string ⟨y.p.toArray⟩) ∧ w'.cell? ⟨b2, o2 + 1, none⟩ = some (.int .u64 (y.n : Int)) ∧ w'.cell? ⟨b2, o2 + 2, none⟩ = some (.bool y.bad))) (by kernel_rfl) (⟨Below.drew hb, (((Below.drew (Below.refl _ _))).cell (p := ⟨b1, o1, none⟩) q1).trans x1, (((Below.drew (Below.refl _ _))).cell (p := ⟨b1, o1 + 1, none⟩) q1).trans x2, (((Below.drew (Below.refl _ _))).cell (p := ⟨b1, o1 + 2, none⟩) q1).trans x3, (((Below.drew (Below.refl _ _))).cell (p := ⟨b2, o2, none⟩) q2).trans y1, (((Below.drew (Below.refl _ _))).cell (p := ⟨b2, o2 + 1, none⟩) q2).trans y2, (((Below.drew (Below.refl _ _))).cell (p := ⟨b2, o2 + 2, none⟩) q2).trans y3⟩) (fun hHeld => ?_)
        refine wpAnyH_take (i := 0) (v := ?_) (by simp only [List.getElem?_toArray, List.getElem?_cons_zero]; rfl) (by kernel_rfl) (by kernel_rfl) (by kernel_rfl) (fun _ _ _ h => h) (Or.inl ⟨by rfl, ?_⟩) (by assumption) ?_
        rotate_left
        · (intro w hSw; (try dsimp only at hSw); go_simp; try with_reducible rfl)
        try simp only [Act.put, List.setIfInBounds_toArray, List.set_cons_zero, List.set_cons_succ]
        refine wpAnyH_take (i := 1) (v := ?_) (by simp only [List.getElem?_toArray, List.getElem?_cons_succ, List.getElem?_cons_zero]; rfl) (by kernel_rfl) (by kernel_rfl) (by kernel_rfl) (fun _ _ _ h => h) (Or.inl ⟨by rfl, ?_⟩) (by assumption) ?_
        rotate_left
        · (intro w hSw; (try dsimp only at hSw); go_simp; try with_reducible rfl)
        try simp only [Act.put, List.setIfInBounds_toArray, List.set_cons_zero, List.set_cons_succ]
        refine wpAnyH_take (i := 2) (v := ?_) (by simp only [List.getElem?_toArray, List.getElem?_cons_succ, List.getElem?_cons_zero]; rfl) (by kernel_rfl) (by kernel_rfl) (by kernel_rfl) (fun _ _ _ h => h) (Or.inl ⟨by rfl, ?_⟩) (by assumption) ?_
        rotate_left
        · (intro w hSw; (try dsimp only at hSw); go_simp; try with_reducible rfl)
        try simp only [Act.put, List.setIfInBounds_toArray, List.set_cons_zero, List.set_cons_succ]
        refine wpAnyH_take (i := 3) (v := ?_) (by simp only [List.getElem?_toArray, List.getElem?_cons_succ, List.getElem?_cons_zero]; rfl) (by kernel_rfl) (by kernel_rfl) (by kernel_rfl) (fun _ _ _ h => h) (Or.inl ⟨by rfl, ?_⟩) (by assumption) ?_
        rotate_left
        · (intro w hSw; (try dsimp only at hSw); go_simp; try with_reducible rfl)
        try simp only [Act.put, List.setIfInBounds_toArray, List.set_cons_zero, List.set_cons_succ]
        refine wpAnyH_take (i := 4) (v := ?_) (by simp only [List.getElem?_toArray, List.getElem?_cons_succ, List.getElem?_cons_zero]; rfl) (by kernel_rfl) (by kernel_rfl) (by kernel_rfl) (fun _ _ _ h => h) (Or.inl ⟨by rfl, ?_⟩) (by assumption) ?_
        rotate_left
        · (intro w hSw; (try dsimp only at hSw); go_simp; try with_reducible rfl)
        try simp only [Act.put, List.setIfInBounds_toArray, List.set_cons_zero, List.set_cons_succ]
        refine wpAnyH_take (i := 5) (v := ?_) (by simp only [List.getElem?_toArray, List.getElem?_cons_succ, List.getElem?_cons_zero]; rfl) (by kernel_rfl) (by kernel_rfl) (by kernel_rfl) (fun _ _ _ h => h) (Or.inl ⟨by rfl, ?_⟩) (by assumption) ?_
        rotate_left
        · (intro w hSw; (try dsimp only at hSw); go_simp; try with_reducible rfl)
        try simp only [Act.put, List.setIfInBounds_toArray, List.set_cons_zero, List.set_cons_succ]
        refine wpAnyH_take (i := 6) (v := ?_) (by simp only [List.getElem?_toArray, List.getElem?_cons_succ, List.getElem?_cons_zero]; rfl) (by kernel_rfl) (by kernel_rfl) (by kernel_rfl) (fun _ _ _ h => h) (Or.inl ⟨by rfl, ?_⟩) (by assumption) ?_
        rotate_left
        · (intro w hSw; (try dsimp only at hSw); go_simp; try with_reducible rfl)
        try simp only [Act.put, List.setIfInBounds_toArray, List.set_cons_zero, List.set_cons_succ]
        refine wpAnyH_take (i := 7) (v := ?_) (by simp only [List.getElem?_toArray, List.getElem?_cons_succ, List.getElem?_cons_zero]; rfl) (by kernel_rfl) (by kernel_rfl) (by kernel_rfl) (fun _ _ _ h => h) (Or.inl ⟨by rfl, ?_⟩) (by assumption) ?_
        rotate_left
        · (intro w hSw; (try dsimp only at hSw); go_simp; try with_reducible rfl)
        try simp only [Act.put, List.setIfInBounds_toArray, List.set_cons_zero, List.set_cons_succ]
        refine wpAnyH_ready (rs := [8]) (by kernel_rfl) (by simp) ?_
        refine AllReadyH.cons (by simp only [List.getElem?_toArray, List.getElem?_cons_succ, List.getElem?_cons_zero]; rfl) (fun K hK => ?_) AllReadyH.nil
        go_simp
        go_at_call 23
        refine (SC.out _).mono ?_
        rintro e w7 ⟨rfl, rfl⟩
        go_wp2_with fail
        refine hK.out _ _ hHeld (fun hHeld => ?_)
        clear hK K
        try simp only [Act.put, List.setIfInBounds_toArray, List.set_cons_zero, List.set_cons_succ]
        refine wpAnyH_take (i := 9) (v := ?_) (by simp only [List.getElem?_toArray, List.getElem?_cons_succ, List.getElem?_cons_zero]; rfl) (by kernel_rfl) (by kernel_rfl) (by kernel_rfl) (fun _ _ _ h => h) (Or.inl ⟨by rfl, ?_⟩) (by assumption) ?_
        rotate_left
        · (intro w hSw; (try dsimp only at hSw); go_simp; try with_reducible rfl)
        try simp only [Act.put, List.setIfInBounds_toArray, List.set_cons_zero, List.set_cons_succ]
        refine wpAnyH_done (by kernel_rfl) ?_ _
        refine NoPanic.normal ?_
        clear hb x1 x2 x3 y1 y2 y3
        obtain ⟨hb, x1, x2, x3, y1, y2, y3⟩ := hHeld
        go_wp2_with fail
        refine wp_region_noPanic ?_
        refine wp_region_held_drew (S := (fun w' => Below w.heap.size w w' ∧ w'.cell? ⟨b1, o1, none⟩ = some (.string ⟨x.p.toArray⟩) ∧ w'.cell? ⟨b1, o1 + 1, none⟩ = some (.int .u64 (x.n : Int)) ∧ w'.cell? ⟨b1, o1 + 2, none⟩ = some (.bool x.bad) ∧ w'.cell? ⟨b2, o2, none⟩ = some (.string ⟨y.p.toArray⟩) ∧ w'.cell? ⟨b2, o2 + 1, none⟩ = some (.int .u64 (y.n : Int)) ∧ w'.cell? ⟨b2, o2 + 2, none⟩ = some (.bool y.bad))) (by kernel_rfl) (⟨Below.drew hb, (((Below.drew (Below.refl _ _))).cell (p := ⟨b1, o1, none⟩) q1).trans x1, (((Below.drew (Below.refl _ _))).cell (p := ⟨b1, o1 + 1, none⟩) q1).trans x2, (((Below.drew (Below.refl _ _))).cell (p := ⟨b1, o1 + 2, none⟩) q1).trans x3, (((Below.drew (Below.refl _ _))).cell (p := ⟨b2, o2, none⟩) q2).trans y1, (((Below.drew (Below.refl _ _))).cell (p := ⟨b2, o2 + 1, none⟩) q2).trans y2, (((Below.drew (Below.refl _ _))).cell (p := ⟨b2, o2 + 2, none⟩) q2).trans y3⟩) (fun hHeld => ?_)
        refine wpAnyH_take (i := 0) (v := ?_) (by simp only [List.getElem?_toArray, List.getElem?_cons_zero]; rfl) (by kernel_rfl) (by kernel_rfl) (by kernel_rfl) (fun _ _ _ h => h) (Or.inl ⟨by rfl, ?_⟩) (by assumption) ?_
        rotate_left
        · (intro w hSw; (try dsimp only at hSw); go_simp; try with_reducible rfl)
        try simp only [Act.put, List.setIfInBounds_toArray, List.set_cons_zero, List.set_cons_succ]
        refine wpAnyH_take (i := 1) (v := ?_) (by simp only [List.getElem?_toArray, List.getElem?_cons_succ, List.getElem?_cons_zero]; rfl) (by kernel_rfl) (by kernel_rfl) (by kernel_rfl) (fun _ _ _ h => h) (Or.inl ⟨by rfl, ?_⟩) (by assumption) ?_
        rotate_left
        · (intro w hSw; (try dsimp only at hSw); go_simp; try with_reducible rfl)
        try simp only [Act.put, List.setIfInBounds_toArray, List.set_cons_zero, List.set_cons_succ]
        refine wpAnyH_take (i := 2) (v := ?_) (by simp only [List.getElem?_toArray, List.getElem?_cons_succ, List.getElem?_cons_zero]; rfl) (by kernel_rfl) (by kernel_rfl) (by kernel_rfl) (fun _ _ _ h => h) (Or.inl ⟨by rfl, ?_⟩) (by assumption) ?_
        rotate_left
        · (intro w hSw; (try dsimp only at hSw); go_simp; try with_reducible rfl)
        try simp only [Act.put, List.setIfInBounds_toArray, List.set_cons_zero, List.set_cons_succ]
        refine wpAnyH_take (i := 3) (v := ?_) (by simp only [List.getElem?_toArray, List.getElem?_cons_succ, List.getElem?_cons_zero]; rfl) (by kernel_rfl) (by kernel_rfl) (by kernel_rfl) (fun _ _ _ h => h) (Or.inl ⟨by rfl, ?_⟩) (by assumption) ?_
        rotate_left
        · (intro w hSw; (try dsimp only at hSw); go_simp; try with_reducible rfl)
        try simp only [Act.put, List.setIfInBounds_toArray, List.set_cons_zero, List.set_cons_succ]
        refine wpAnyH_take (i := 4) (v := ?_) (by simp only [List.getElem?_toArray, List.getElem?_cons_succ, List.getElem?_cons_zero]; rfl) (by kernel_rfl) (by kernel_rfl) (by kernel_rfl) (fun _ _ _ h => h) (Or.inl ⟨by rfl, ?_⟩) (by assumption) ?_
        rotate_left
        · (intro w hSw; (try dsimp only at hSw); go_simp; try with_reducible rfl)
        try simp only [Act.put, List.setIfInBounds_toArray, List.set_cons_zero, List.set_cons_succ]
        refine wpAnyH_take (i := 5) (v := ?_) (by simp only [List.getElem?_toArray, List.getElem?_cons_succ, List.getElem?_cons_zero]; rfl) (by kernel_rfl) (by kernel_rfl) (by kernel_rfl) (fun _ _ _ h => h) (Or.inl ⟨by rfl, ?_⟩) (by assumption) ?_
        rotate_left
        · (intro w hSw; (try dsimp only at hSw); go_simp; try with_reducible rfl)
        try simp only [Act.put, List.setIfInBounds_toArray, List.set_cons_zero, List.set_cons_succ]
        refine wpAnyH_take (i := 6) (v := ?_) (by simp only [List.getElem?_toArray, List.getElem?_cons_succ, List.getElem?_cons_zero]; rfl) (by kernel_rfl) (by kernel_rfl) (by kernel_rfl) (fun _ _ _ h => h) (Or.inl ⟨by rfl, ?_⟩) (by assumption) ?_
        rotate_left
        · (intro w hSw; (try dsimp only at hSw); go_simp; try with_reducible rfl)
        try simp only [Act.put, List.setIfInBounds_toArray, List.set_cons_zero, List.set_cons_succ]
        refine wpAnyH_take (i := 10) (v := ?_) (by simp only [List.getElem?_toArray, List.getElem?_cons_succ, List.getElem?_cons_zero]; rfl) (by kernel_rfl) (by kernel_rfl) (by kernel_rfl) (fun _ _ _ h => h) (Or.inl ⟨by rfl, ?_⟩) (by assumption) ?_
        rotate_left
        · (intro w hSw; (try dsimp only at hSw); go_simp; try with_reducible rfl)
        try simp only [Act.put, List.setIfInBounds_toArray, List.set_cons_zero, List.set_cons_succ]
        refine wpAnyH_take (i := 11) (v := ?_) (by simp only [List.getElem?_toArray, List.getElem?_cons_succ, List.getElem?_cons_zero]; rfl) (by kernel_rfl) (by kernel_rfl) (by kernel_rfl) (fun _ _ _ h => h) (Or.inl ⟨by rfl, ?_⟩) (by assumption) ?_
        rotate_left
        · (intro w hSw; (try dsimp only at hSw); go_simp; try with_reducible rfl)
        try simp only [Act.put, List.setIfInBounds_toArray, List.set_cons_zero, List.set_cons_succ]
        refine wpAnyH_take (i := 12) (v := ?_) (by simp only [List.getElem?_toArray, List.getElem?_cons_succ, List.getElem?_cons_zero]; rfl) (by kernel_rfl) (by kernel_rfl) (by kernel_rfl) (fun _ _ _ h => h) (Or.inl ⟨by rfl, ?_⟩) (by assumption) ?_
        rotate_left
        · (intro w hSw; (try dsimp only at hSw); go_simp; try with_reducible rfl)
        try simp only [Act.put, List.setIfInBounds_toArray, List.set_cons_zero, List.set_cons_succ]
        refine wpAnyH_take (i := 13) (v := ?_) (by simp only [List.getElem?_toArray, List.getElem?_cons_succ, List.getElem?_cons_zero]; rfl) (by kernel_rfl) (by kernel_rfl) (by kernel_rfl) (fun _ _ _ h => h) (Or.inl ⟨by rfl, ?_⟩) (by assumption) ?_
        rotate_left
        · (intro w hSw; (try dsimp only at hSw); go_simp; try with_reducible rfl)
        try simp only [Act.put, List.setIfInBounds_toArray, List.set_cons_zero, List.set_cons_succ]
        refine wpAnyH_ready (rs := [7]) (by kernel_rfl) (by simp) ?_
        refine AllReadyH.cons (by simp only [List.getElem?_toArray, List.getElem?_cons_succ, List.getElem?_cons_zero]; rfl) (fun K hK => ?_) AllReadyH.nil
        go_simp
        go_at_call 24
        refine (greater_any x y _).mono ?_
        rintro e v8 ⟨rfl, k8⟩
        have KG := Lib.hid (oO.out.drew.drew.below k8)
        replace k8 := (k8).mono (hHeld.1).size
        go_wp2_with fail
        refine hK.out _ _ (⟨(hHeld.1).trans k8, ((k8).cell (p := ⟨b1, o1, none⟩) q1).trans hHeld.2.1, ((k8).cell (p := ⟨b1, o1 + 1, none⟩) q1).trans hHeld.2.2.1, ((k8).cell (p := ⟨b1, o1 + 2, none⟩) q1).trans hHeld.2.2.2.1, ((k8).cell (p := ⟨b2, o2, none⟩) q2).trans hHeld.2.2.2.2.1, ((k8).cell (p := ⟨b2, o2 + 1, none⟩) q2).trans hHeld.2.2.2.2.2.1, ((k8).cell (p := ⟨b2, o2 + 2, none⟩) q2).trans hHeld.2.2.2.2.2.2⟩) (fun hHeld => ?_)
        clear hK K k8
        try simp only [Act.put, List.setIfInBounds_toArray, List.set_cons_zero, List.set_cons_succ]
        refine wpAnyH_ready (rs := [8]) (by kernel_rfl) (by simp) ?_
        refine AllReadyH.cons (by simp only [List.getElem?_toArray, List.getElem?_cons_succ, List.getElem?_cons_zero]; rfl) (fun K hK => ?_) AllReadyH.nil
        go_simp
        refine hK.out _ _ (⟨(hHeld.1).trans ((Below.refl w.heap.size _).alloc (hHeld.1).size _), ((((Below.refl w.heap.size _).alloc (hHeld.1).size _)).cell (p := ⟨b1, o1, none⟩) q1).trans hHeld.2.1, ((((Below.refl w.heap.size _).alloc (hHeld.1).size _)).cell (p := ⟨b1, o1 + 1, none⟩) q1).trans hHeld.2.2.1, ((((Below.refl w.heap.size _).alloc (hHeld.1).size _)).cell (p := ⟨b1, o1 + 2, none⟩) q1).trans hHeld.2.2.2.1, ((((Below.refl w.heap.size _).alloc (hHeld.1).size _)).cell (p := ⟨b2, o2, none⟩) q2).trans hHeld.2.2.2.2.1, ((((Below.refl w.heap.size _).alloc (hHeld.1).size _)).cell (p := ⟨b2, o2 + 1, none⟩) q2).trans hHeld.2.2.2.2.2.1, ((((Below.refl w.heap.size _).alloc (hHeld.1).size _)).cell (p := ⟨b2, o2 + 2, none⟩) q2).trans hHeld.2.2.2.2.2.2⟩) (fun hHeld => ?_)
        clear hK K
        try simp only [Act.put, List.setIfInBounds_toArray, List.set_cons_zero, List.set_cons_succ]
        refine wpAnyH_ready (rs := [9]) (by kernel_rfl) (by simp) ?_
        refine AllReadyH.cons (by simp only [List.getElem?_toArray, List.getElem?_cons_succ, List.getElem?_cons_zero]; rfl) (fun K hK => ?_) AllReadyH.nil
        refine Row.step_app typ rfl (.tmp 38) (.tmp 46) rfl w.heap.size _ out rfl (KG.out.alloc _) _ 1 1 [greater x y] rfl (Row.lies_new _ (greater x y) _) (by omega) (by have := (hHeld.1).size; simp only [World.size_alloc] at this ⊢; omega) ?_
        intro v9 w9 o9 _ k9
        refine hK.out _ _ (⟨(hHeld.1).trans k9, ((k9).cell (p := ⟨b1, o1, none⟩) q1).trans hHeld.2.1, ((k9).cell (p := ⟨b1, o1 + 1, none⟩) q1).trans hHeld.2.2.1, ((k9).cell (p := ⟨b1, o1 + 2, none⟩) q1).trans hHeld.2.2.2.1, ((k9).cell (p := ⟨b2, o2, none⟩) q2).trans hHeld.2.2.2.2.1, ((k9).cell (p := ⟨b2, o2 + 1, none⟩) q2).trans hHeld.2.2.2.2.2.1, ((k9).cell (p := ⟨b2, o2 + 2, none⟩) q2).trans hHeld.2.2.2.2.2.2⟩) (fun hHeld => ?_)
        clear hK K
        try simp only [Act.put, List.setIfInBounds_toArray, List.set_cons_zero, List.set_cons_succ]
        refine wpAnyH_take (i := 14) (v := ?_) (by simp only [List.getElem?_toArray, List.getElem?_cons_succ, List.getElem?_cons_zero]; rfl) (by kernel_rfl) (by kernel_rfl) (by kernel_rfl) (fun _ _ _ h => h) (Or.inl ⟨by rfl, ?_⟩) (by assumption) ?_
        rotate_left
        · (intro w hSw; (try dsimp only at hSw); go_simp; try with_reducible rfl)
        try simp only [Act.put, List.setIfInBounds_toArray, List.set_cons_zero, List.set_cons_succ]
        refine wpAnyH_take (i := 15) (v := ?_) (by simp only [List.getElem?_toArray, List.getElem?_cons_succ, List.getElem?_cons_zero]; rfl) (by kernel_rfl) (by kernel_rfl) (by kernel_rfl) (fun _ _ _ h => h) (Or.inl ⟨by rfl, ?_⟩) (by assumption) ?_
        rotate_left
        · (intro w hSw; (try dsimp only at hSw); go_simp; try with_reducible rfl)
        try simp only [Act.put, List.setIfInBounds_toArray, List.set_cons_zero]
        refine wpAnyH_take (i := 16) (v := ?_) (by simp only [List.getElem?_toArray, List.getElem?_cons_succ, List.getElem?_cons_zero]; rfl) (by kernel_rfl) (by kernel_rfl) (by kernel_rfl) (fun _ _ _ h => h) (Or.inl ⟨by rfl, ?_⟩) (by assumption) ?_
        rotate_left
        · (intro w hSw; (try dsimp only at hSw); go_simp; try with_reducible rfl)
        try simp only [Act.put, List.setIfInBounds_toArray, List.set_cons_zero, List.set_cons_succ]
        refine wpAnyH_done (by kernel_rfl) ?_ _
        refine NoPanic.normal ?_
        clear hb x1 x2 x3 y1 y2 y3
        obtain ⟨hb, x1, x2, x3, y1, y2, y3⟩ := hHeld
        go_wp2
        go_roundw
        case rel => exact ⟨A', C', out ++ [greater x y], _, _, _, _, _, _, rfl, rfl, by omega, by omega, by omega, by omega, TA, TC, Lib.hid o9, Lib.hid (by have h := HS.out; rw [merge_eq HC.out] at h; rw [← h, List.append_assoc]; rfl), hb⟩
        case measure => first | (simp [lenOf]; done) | (simp [lenOf]; omega)
    · have za : (ca : Int) - 1 ≠ 0 := by omega
      have ya : ca - 1 ≠ 0 := by omega
      by_cases hkb : cb = 1
      · obtain rfl : cb = 1 := hkb
        obtain rfl : m = 1 := by omega
        replace TC : Hid (Lies w (some ⟨b2, o2, none⟩) 0 C') := Lib.hid (by have h := TC.out; obtain rfl := lies_nil_of h; exact Row.Lies.nil _ _)
        go_wp2_with fail
        refine wp_region_noPanic ?_
        refine wp_region_held_drew (S := (fun w' => Below w.heap.size w w' ∧ w'.cell? ⟨b1, o1, none⟩ = some (.string ⟨x.p.toArray⟩) ∧ w'.cell? ⟨b1, o1 + 1, none⟩ = some (.int .u64 (x.n : Int)) ∧ w'.cell? ⟨b1, o1 + 2, none⟩ = some (.bool x.bad) ∧ w'.cell? ⟨b2, o2, none⟩ = some (.string ⟨y.p.toArray⟩) ∧ w'.cell? ⟨b2, o2 + 1, none⟩ = some (.int .u64 (y.n : Int)) ∧ w'.cell? ⟨b2, o2 + 2, none⟩ = some (.bool y.bad))) (by kernel_rfl) (⟨Below.drew hb, (((Below.drew (Below.refl _ _))).cell (p := ⟨b1, o1, none⟩) q1).trans x1, (((Below.drew (Below.refl _ _))).cell (p := ⟨b1, o1 + 1, none⟩) q1).trans x2, (((Below.drew (Below.refl _ _))).cell (p := ⟨b1, o1 + 2, none⟩) q1).trans x3, (((Below.drew (Below.refl _ _))).cell (p := ⟨b2, o2, none⟩) q2).trans y1, (((Below.drew (Below.refl _ _))).cell (p := ⟨b2, o2 + 1, none⟩) q2).trans y2, (((Below.drew (Below.refl _ _))).cell (p := ⟨b2, o2 + 2, none⟩) q2).trans y3⟩) (fun hHeld => ?_)
        refine wpAnyH_take (i := 0) (v := ?_) (by simp only [List.getElem?_toArray, List.getElem?_cons_zero]; rfl) (by kernel_rfl) (by kernel_rfl) (by kernel_rfl) (fun _ _ _ h => h) (Or.inl ⟨by rfl, ?_⟩) (by assumption) ?_
        rotate_left
        · (intro w hSw; (try dsimp only at hSw); go_simp; try with_reducible rfl)
        try simp only [Act.put, List.setIfInBounds_toArray, List.set_cons_zero, List.set_cons_succ]
        refine wpAnyH_take (i := 1) (v := ?_) (by simp only [List.getElem?_toArray, List.getElem?_cons_succ, List.getElem?_cons_zero]; rfl) (by kernel_rfl) (by kernel_rfl) (by kernel_rfl) (fun _ _ _ h => h) (Or.inl ⟨by rfl, ?_⟩) (by assumption) ?_
        rotate_left
        · (intro w hSw; (try dsimp only at hSw); go_simp; try with_reducible rfl)
        try simp only [Act.put, List.setIfInBounds_toArray, List.set_cons_zero, List.set_cons_succ]
        refine wpAnyH_take (i := 2) (v := ?_) (by simp only [List.getElem?_toArray, List.getElem?_cons_succ, List.getElem?_cons_zero]; rfl) (by kernel_rfl) (by kernel_rfl) (by kernel_rfl) (fun _ _ _ h => h) (Or.inl ⟨by rfl, ?_⟩) (by assumption) ?_
        rotate_left
        · (intro w hSw; (try dsimp only at hSw); go_simp; try with_reducible rfl)
        try simp only [Act.put, List.setIfInBounds_toArray, List.set_cons_zero, List.set_cons_succ]
        refine wpAnyH_take (i := 3) (v := ?_) (by simp only [List.getElem?_toArray, List.getElem?_cons_succ, List.getElem?_cons_zero]; rfl) (by kernel_rfl) (by kernel_rfl) (by kernel_rfl) (fun _ _ _ h => h) (Or.inl ⟨by rfl, ?_⟩) (by assumption) ?_
        rotate_left
        · (intro w hSw; (try dsimp only at hSw); go_simp; try with_reducible rfl)
        try simp only [Act.put, List.setIfInBounds_toArray, List.set_cons_zero, List.set_cons_succ]
        refine wpAnyH_take (i := 4) (v := ?_) (by simp only [List.getElem?_toArray, List.getElem?_cons_succ, List.getElem?_cons_zero]; rfl) (by kernel_rfl) (by kernel_rfl) (by kernel_rfl) (fun _ _ _ h => h) (Or.inl ⟨by rfl, ?_⟩) (by assumption) ?_
        rotate_left
        · (intro w hSw; (try dsimp only at hSw); go_simp; try with_reducible rfl)
        try simp only [Act.put, List.setIfInBounds_toArray, List.set_cons_zero, List.set_cons_succ]
        refine wpAnyH_take (i := 5) (v := ?_) (by simp only [List.getElem?_toArray, List.getElem?_cons_succ, List.getElem?_cons_zero]; rfl) (by kernel_rfl) (by kernel_rfl) (by kernel_rfl) (fun _ _ _ h => h) (Or.inl ⟨by rfl, ?_⟩) (by assumption) ?_
        rotate_left
        · (intro w hSw; (try dsimp only at hSw); go_simp; try with_reducible rfl)
        try simp only [Act.put, List.setIfInBounds_toArray, List.set_cons_zero, List.set_cons_succ]
        refine wpAnyH_take (i := 6) (v := ?_) (by simp only [List.getElem?_toArray, List.getElem?_cons_succ, List.getElem?_cons_zero]; rfl) (by kernel_rfl) (by kernel_rfl) (by kernel_rfl) (fun _ _ _ h => h) (Or.inl ⟨by rfl, ?_⟩) (by assumption) ?_
        rotate_left
        · (intro w hSw; (try dsimp only at hSw); go_simp; try with_reducible rfl)
        try simp only [Act.put, List.setIfInBounds_toArray, List.set_cons_zero, List.set_cons_succ]
        refine wpAnyH_take (i := 7) (v := ?_) (by simp only [List.getElem?_toArray, List.getElem?_cons_succ, List.getElem?_cons_zero]; rfl) (by kernel_rfl) (by kernel_rfl) (by kernel_rfl) (fun _ _ _ h => h) (Or.inl ⟨by rfl, ?_⟩) (by assumption) ?_
        rotate_left
        · (intro w hSw; (try dsimp only at hSw); go_simp; try with_reducible rfl)
        try simp only [Act.put, List.setIfInBounds_toArray, List.set_cons_zero, List.set_cons_succ]
        refine wpAnyH_ready (rs := [8]) (by kernel_rfl) (by simp) ?_
        refine AllReadyH.cons (by simp only [List.getElem?_toArray, List.getElem?_cons_succ, List.getElem?_cons_zero]; rfl) (fun K hK => ?_) AllReadyH.nil
        go_simp
        go_at_call 23
        refine (SC.out _).mono ?_
        rintro e w9 ⟨rfl, rfl⟩
        go_wp2_with fail
        refine hK.out _ _ hHeld (fun hHeld => ?_)
        clear hK K
        try simp only [Act.put, List.setIfInBounds_toArray, List.set_cons_zero, List.set_cons_succ]
        refine wpAnyH_take (i := 9) (v := ?_) (by simp only [List.getElem?_toArray, List.getElem?_cons_succ, List.getElem?_cons_zero]; rfl) (by kernel_rfl) (by kernel_rfl) (by kernel_rfl) (fun _ _ _ h => h) (Or.inl ⟨by rfl, ?_⟩) (by assumption) ?_
        rotate_left
        · (intro w hSw; (try dsimp only at hSw); go_simp; try with_reducible rfl)
        try simp only [Act.put, List.setIfInBounds_toArray, List.set_cons_zero, List.set_cons_succ]
        refine wpAnyH_done (by kernel_rfl) ?_ _
        refine NoPanic.normal ?_
        clear hb x1 x2 x3 y1 y2 y3
        obtain ⟨hb, x1, x2, x3, y1, y2, y3⟩ := hHeld
        go_wp2_with fail
        refine wp_region_noPanic ?_
        refine wp_region_held_drew (S := (fun w' => Below w.heap.size w w' ∧ w'.cell? ⟨b1, o1, none⟩ = some (.string ⟨x.p.toArray⟩) ∧ w'.cell? ⟨b1, o1 + 1, none⟩ = some (.int .u64 (x.n : Int)) ∧ w'.cell? ⟨b1, o1 + 2, none⟩ = some (.bool x.bad) ∧ w'.cell? ⟨b2, o2, none⟩ = some (.string ⟨y.p.toArray⟩) ∧ w'.cell? ⟨b2, o2 + 1, none⟩ = some (.int .u64 (y.n : Int)) ∧ w'.cell? ⟨b2, o2 + 2, none⟩ = some (.bool y.bad))) (by kernel_rfl) (⟨Below.drew hb, (((Below.drew (Below.refl _ _))).cell (p := ⟨b1, o1, none⟩) q1).trans x1, (((Below.drew (Below.refl _ _))).cell (p := ⟨b1, o1 + 1, none⟩) q1).trans x2, (((Below.drew (Below.refl _ _))).cell (p := ⟨b1, o1 + 2, none⟩) q1).trans x3, (((Below.drew (Below.refl _ _))).cell (p := ⟨b2, o2, none⟩) q2).trans y1, (((Below.drew (Below.refl _ _))).cell (p := ⟨b2, o2 + 1, none⟩) q2).trans y2, (((Below.drew (Below.refl _ _))).cell (p := ⟨b2, o2 + 2, none⟩) q2).trans y3⟩) (fun hHeld => ?_)
        refine wpAnyH_take (i := 0) (v := ?_) (by simp only [List.getElem?_toArray, List.getElem?_cons_zero]; rfl) (by kernel_rfl) (by kernel_rfl) (by kernel_rfl) (fun _ _ _ h => h) (Or.inl ⟨by rfl, ?_⟩) (by assumption) ?_
        rotate_left
        · (intro w hSw; (try dsimp only at hSw); go_simp; try with_reducible rfl)
        try simp only [Act.put, List.setIfInBounds_toArray, List.set_cons_zero, List.set_cons_succ]
        refine wpAnyH_take (i := 1) (v := ?_) (by simp only [List.getElem?_toArray, List.getElem?_cons_succ, List.getElem?_cons_zero]; rfl) (by kernel_rfl) (by kernel_rfl) (by kernel_rfl) (fun _ _ _ h => h) (Or.inl ⟨by rfl, ?_⟩) (by assumption) ?_
        rotate_left
        · (intro w hSw; (try dsimp only at hSw); go_simp; try with_reducible rfl)
        try simp only [Act.put, List.setIfInBounds_toArray, List.set_cons_zero, List.set_cons_succ]
        refine wpAnyH_take (i := 2) (v := ?_) (by simp only [List.getElem?_toArray, List.getElem?_cons_succ, List.getElem?_cons_zero]; rfl) (by kernel_rfl) (by kernel_rfl) (by kernel_rfl) (fun _ _ _ h => h) (Or.inl ⟨by rfl, ?_⟩) (by assumption) ?_
        rotate_left
        · (intro w hSw; (try dsimp only at hSw); go_simp; try with_reducible rfl)
        try simp only [Act.put, List.setIfInBounds_toArray, List.set_cons_zero, List.set_cons_succ]
        refine wpAnyH_take (i := 3) (v := ?_) (by simp only [List.getElem?_toArray, List.getElem?_cons_succ, List.getElem?_cons_zero]; rfl) (by kernel_rfl) (by kernel_rfl) (by kernel_rfl) (fun _ _ _ h => h) (Or.inl ⟨by rfl, ?_⟩) (by assumption) ?_
        rotate_left
        · (intro w hSw; (try dsimp only at hSw); go_simp; try with_reducible rfl)
        try simp only [Act.put, List.setIfInBounds_toArray, List.set_cons_zero, List.set_cons_succ]
        refine wpAnyH_take (i := 4) (v := ?_) (by simp only [List.getElem?_toArray, List.getElem?_cons_succ, List.getElem?_cons_zero]; rfl) (by kernel_rfl) (by kernel_rfl) (by kernel_rfl) (fun _ _ _ h => h) (Or.inl ⟨by rfl, ?_⟩) (by assumption) ?_
        rotate_left
        · (intro w hSw; (try dsimp only at hSw); go_simp; try with_reducible rfl)
        try simp only [Act.put, List.setIfInBounds_toArray, List.set_cons_zero, List.set_cons_succ]
        refine wpAnyH_take (i := 5) (v := ?_) (by simp only [List.getElem?_toArray, List.getElem?_cons_succ, List.getElem?_cons_zero]; rfl) (by kernel_rfl) (by kernel_rfl) (by kernel_rfl) (fun _ _ _ h => h) (Or.inl ⟨by rfl, ?_⟩) (by assumption) ?_
        rotate_left
        · (intro w hSw; (try dsimp only at hSw); go_simp; try with_reducible rfl)
        try simp only [Act.put, List.setIfInBounds_toArray, List.set_cons_zero, List.set_cons_succ]
        refine wpAnyH_take (i := 6) (v := ?_) (by simp only [List.getElem?_toArray, List.getElem?_cons_succ, List.getElem?_cons_zero]; rfl) (by kernel_rfl) (by kernel_rfl) (by kernel_rfl) (fun _ _ _ h => h) (Or.inl ⟨by rfl, ?_⟩) (by assumption) ?_
        rotate_left
        · (intro w hSw; (try dsimp only at hSw); go_simp; try with_reducible rfl)
        try simp only [Act.put, List.setIfInBounds_toArray, List.set_cons_zero, List.set_cons_succ]
        refine wpAnyH_take (i := 10) (v := ?_) (by simp only [List.getElem?_toArray, List.getElem?_cons_succ, List.getElem?_cons_zero]; rfl) (by kernel_rfl) (by kernel_rfl) (by kernel_rfl) (fun _ _ _ h => h) (Or.inl ⟨by rfl, ?_⟩) (by assumption) ?_
        rotate_left
        · (intro w hSw; (try dsimp only at hSw); go_simp; try with_reducible rfl)
        try simp only [Act.put, List.setIfInBounds_toArray, List.set_cons_zero, List.set_cons_succ]
        refine wpAnyH_take (i := 11) (v := ?_) (by simp only [List.getElem?_toArray, List.getElem?_cons_succ, List.getElem?_cons_zero]; rfl) (by kernel_rfl) (by kernel_rfl) (by kernel_rfl) (fun _ _ _ h => h) (Or.inl ⟨by rfl, ?_⟩) (by assumption) ?_
        rotate_left
        · (intro w hSw; (try dsimp only at hSw); go_simp; try with_reducible rfl)
        try simp only [Act.put, List.setIfInBounds_toArray, List.set_cons_zero, List.set_cons_succ]
        refine wpAnyH_take (i := 12) (v := ?_) (by simp only [List.getElem?_toArray, List.getElem?_cons_succ, List.getElem?_cons_zero]; rfl) (by kernel_rfl) (by kernel_rfl) (by kernel_rfl) (fun _ _ _ h => h) (Or.inl ⟨by rfl, ?_⟩) (by assumption) ?_
        rotate_left
        · (intro w hSw; (try dsimp only at hSw); go_simp; try with_reducible rfl)
        try simp only [Act.put, List.setIfInBounds_toArray, List.set_cons_zero, List.set_cons_succ]
        refine wpAnyH_take (i := 13) (v := ?_) (by simp only [List.getElem?_toArray, List.getElem?_cons_succ, List.getElem?_cons_zero]; rfl) (by kernel_rfl) (by kernel_rfl) (by kernel_rfl) (fun _ _ _ h => h) (Or.inl ⟨by rfl, ?_⟩) (by assumption) ?_
        rotate_left
        · (intro w hSw; (try dsimp only at hSw); go_simp; try with_reducible rfl)
        try simp only [Act.put, List.setIfInBounds_toArray, List.set_cons_zero, List.set_cons_succ]
        refine wpAnyH_ready (rs := [7]) (by kernel_rfl) (by simp) ?_
        refine AllReadyH.cons (by simp only [List.getElem?_toArray, List.getElem?_cons_succ, List.getElem?_cons_zero]; rfl) (fun K hK => ?_) AllReadyH.nil
        go_simp
        go_at_call 24
        refine (greater_any x y _).mono ?_
        rintro e v10 ⟨rfl, k10⟩
        have KG := Lib.hid (oO.out.drew.drew.below k10)
        replace k10 := (k10).mono (hHeld.1).size
        go_wp2_with fail
        refine hK.out _ _ (⟨(hHeld.1).trans k10, ((k10).cell (p := ⟨b1, o1, none⟩) q1).trans hHeld.2.1, ((k10).cell (p := ⟨b1, o1 + 1, none⟩) q1).trans hHeld.2.2.1, ((k10).cell (p := ⟨b1, o1 + 2, none⟩) q1).trans hHeld.2.2.2.1, ((k10).cell (p := ⟨b2, o2, none⟩) q2).trans hHeld.2.2.2.2.1, ((k10).cell (p := ⟨b2, o2 + 1, none⟩) q2).trans hHeld.2.2.2.2.2.1, ((k10).cell (p := ⟨b2, o2 + 2, none⟩) q2).trans hHeld.2.2.2.2.2.2⟩) (fun hHeld => ?_)
        clear hK K k10
        try simp only [Act.put, List.setIfInBounds_toArray, List.set_cons_zero, List.set_cons_succ]
        refine wpAnyH_ready (rs := [8]) (by kernel_rfl) (by simp) ?_
        refine AllReadyH.cons (by simp only [List.getElem?_toArray, List.getElem?_cons_succ, List.getElem?_cons_zero]; rfl) (fun K hK => ?_) AllReadyH.nil
        go_simp
        refine hK.out _ _ (⟨(hHeld.1).trans ((Below.refl w.heap.size _).alloc (hHeld.1).size _), ((((Below.refl w.heap.size _).alloc (hHeld.1).size _)).cell (p := ⟨b1, o1, none⟩) q1).trans hHeld.2.1, ((((Below.refl w.heap.size _).alloc (hHeld.1).size _)).cell (p := ⟨b1, o1 + 1, none⟩) q1).trans hHeld.2.2.1, ((((Below.refl w.heap.size _).alloc (hHeld.1).size _)).cell (p := ⟨b1, o1 + 2, none⟩) q1).trans hHeld.2.2.2.1, ((((Below.refl w.heap.size _).alloc (hHeld.1).size _)).cell (p := ⟨b2, o2, none⟩) q2).trans hHeld.2.2.2.2.1, ((((Below.refl w.heap.size _).alloc (hHeld.1).size _)).cell (p := ⟨b2, o2 + 1, none⟩) q2).trans hHeld.2.2.2.2.2.1, ((((Below.refl w.heap.size _).alloc (hHeld.1).size _)).cell (p := ⟨b2, o2 + 2, none⟩) q2).trans hHeld.2.2.2.2.2.2⟩) (fun hHeld => ?_)
        clear hK K
        try simp only [Act.put, List.setIfInBounds_toArray, List.set_cons_zero, List.set_cons_succ]
        refine wpAnyH_ready (rs := [9]) (by kernel_rfl) (by simp) ?_
        refine AllReadyH.cons (by simp only [List.getElem?_toArray, List.getElem?_cons_succ, List.getElem?_cons_zero]; rfl) (fun K hK => ?_) AllReadyH.nil
        refine Row.step_app typ rfl (.tmp 38) (.tmp 46) rfl w.heap.size _ out rfl (KG.out.alloc _) _ 1 1 [greater x y] rfl (Row.lies_new _ (greater x y) _) (by omega) (by have := (hHeld.1).size; simp only [World.size_alloc] at this ⊢; omega) ?_
        intro v9 w9 o9 _ k9
        refine hK.out _ _ (⟨(hHeld.1).trans k9, ((k9).cell (p := ⟨b1, o1, none⟩) q1).trans hHeld.2.1, ((k9).cell (p := ⟨b1, o1 + 1, none⟩) q1).trans hHeld.2.2.1, ((k9).cell (p := ⟨b1, o1 + 2, none⟩) q1).trans hHeld.2.2.2.1, ((k9).cell (p := ⟨b2, o2, none⟩) q2).trans hHeld.2.2.2.2.1, ((k9).cell (p := ⟨b2, o2 + 1, none⟩) q2).trans hHeld.2.2.2.2.2.1, ((k9).cell (p := ⟨b2, o2 + 2, none⟩) q2).trans hHeld.2.2.2.2.2.2⟩) (fun hHeld => ?_)
        clear hK K
        try simp only [Act.put, List.setIfInBounds_toArray, List.set_cons_zero, List.set_cons_succ]
        refine wpAnyH_take (i := 14) (v := ?_) (by simp only [List.getElem?_toArray, List.getElem?_cons_succ, List.getElem?_cons_zero]; rfl) (by kernel_rfl) (by kernel_rfl) (by kernel_rfl) (fun _ _ _ h => h) (Or.inl ⟨by rfl, ?_⟩) (by assumption) ?_
        rotate_left
        · (intro w hSw; (try dsimp only at hSw); go_simp; try with_reducible rfl)
        try simp only [Act.put, List.setIfInBounds_toArray, List.set_cons_zero, List.set_cons_succ]
        refine wpAnyH_take (i := 15) (v := ?_) (by simp only [List.getElem?_toArray, List.getElem?_cons_succ, List.getElem?_cons_zero]; rfl) (by kernel_rfl) (by kernel_rfl) (by kernel_rfl) (fun _ _ _ h => h) (Or.inl ⟨by rfl, ?_⟩) (by assumption) ?_
        rotate_left
        · (intro w hSw; (try dsimp only at hSw); go_simp; try with_reducible rfl)
        try simp only [Act.put, List.setIfInBounds_toArray, List.set_cons_zero]
        refine wpAnyH_take (i := 16) (v := ?_) (by simp only [List.getElem?_toArray, List.getElem?_cons_succ, List.getElem?_cons_zero]; rfl) (by kernel_rfl) (by kernel_rfl) (by kernel_rfl) (fun _ _ _ h => h) (Or.inl ⟨by rfl, ?_⟩) (by assumption) ?_
        rotate_left
        · (intro w hSw; (try dsimp only at hSw); go_simp; try with_reducible rfl)
        try simp only [Act.put, List.setIfInBounds_toArray, List.set_cons_zero, List.set_cons_succ]
        refine wpAnyH_done (by kernel_rfl) ?_ _
        refine NoPanic.normal ?_
        clear hb x1 x2 x3 y1 y2 y3
        obtain ⟨hb, x1, x2, x3, y1, y2, y3⟩ := hHeld
        go_wp2
        go_roundw
        case rel => exact ⟨A', C', out ++ [greater x y], _, _, _, _, _, _, rfl, rfl, by omega, by omega, by omega, by omega, TA, TC, Lib.hid o9, Lib.hid (by have h := HS.out; rw [merge_eq HC.out] at h; rw [← h, List.append_assoc]; rfl), hb⟩
        case measure => first | (simp [lenOf]; done) | (simp [lenOf]; omega)
      · have zb : (cb : Int) - 1 ≠ 0 := by omega
        have yb : cb - 1 ≠ 0 := by omega
        go_wp2_with fail
        refine wp_region_noPanic ?_
        refine wp_region_held_drew (S := (fun w' => Below w.heap.size w w' ∧ w'.cell? ⟨b1, o1, none⟩ = some (.string ⟨x.p.toArray⟩) ∧ w'.cell? ⟨b1, o1 + 1, none⟩ = some (.int .u64 (x.n : Int)) ∧ w'.cell? ⟨b1, o1 + 2, none⟩ = some (.bool x.bad) ∧ w'.cell? ⟨b2, o2, none⟩ = some (.string ⟨y.p.toArray⟩) ∧ w'.cell? ⟨b2, o2 + 1, none⟩ = some (.int .u64 (y.n : Int)) ∧ w'.cell? ⟨b2, o2 + 2, none⟩ = some (.bool y.bad))) (by kernel_rfl) (⟨Below.drew hb, (((Below.drew (Below.refl _ _))).cell (p := ⟨b1, o1, none⟩) q1).trans x1, (((Below.drew (Below.refl _ _))).cell (p := ⟨b1, o1 + 1, none⟩) q1).trans x2, (((Below.drew (Below.refl _ _))).cell (p := ⟨b1, o1 + 2, none⟩) q1).trans x3, (((Below.drew (Below.refl _ _))).cell (p := ⟨b2, o2, none⟩) q2).trans y1, (((Below.drew (Below.refl _ _))).cell (p := ⟨b2, o2 + 1, none⟩) q2).trans y2, (((Below.drew (Below.refl _ _))).cell (p := ⟨b2, o2 + 2, none⟩) q2).trans y3⟩) (fun hHeld => ?_)
        refine wpAnyH_take (i := 0) (v := ?_) (by simp only [List.getElem?_toArray, List.getElem?_cons_zero]; rfl) (by kernel_rfl) (by kernel_rfl) (by kernel_rfl) (fun _ _ _ h => h) (Or.inl ⟨by rfl, ?_⟩) (by assumption) ?_
        rotate_left
        · (intro w hSw; (try dsimp only at hSw); go_simp; try with_reducible rfl)
        try simp only [Act.put, List.setIfInBounds_toArray, List.set_cons_zero, List.set_cons_succ]
        refine wpAnyH_take (i := 1) (v := ?_) (by simp only [List.getElem?_toArray, List.getElem?_cons_succ, List.getElem?_cons_zero]; rfl) (by kernel_rfl) (by kernel_rfl) (by kernel_rfl) (fun _ _ _ h => h) (Or.inl ⟨by rfl, ?_⟩) (by assumption) ?_
        rotate_left
        · (intro w hSw; (try dsimp only at hSw); go_simp; try with_reducible rfl)
        try simp only [Act.put, List.setIfInBounds_toArray, List.set_cons_zero, List.set_cons_succ]
        refine wpAnyH_take (i := 2) (v := ?_) (by simp only [List.getElem?_toArray, List.getElem?_cons_succ, List.getElem?_cons_zero]; rfl) (by kernel_rfl) (by kernel_rfl) (by kernel_rfl) (fun _ _ _ h => h) (Or.inl ⟨by rfl, ?_⟩) (by assumption) ?_
        rotate_left
        · (intro w hSw; (try dsimp only at hSw); go_simp; try with_reducible rfl)
        try simp only [Act.put, List.setIfInBounds_toArray, List.set_cons_zero, List.set_cons_succ]
        refine wpAnyH_take (i := 3) (v := ?_) (by simp only [List.getElem?_toArray, List.getElem?_cons_succ, List.getElem?_cons_zero]; rfl) (by kernel_rfl) (by kernel_rfl) (by kernel_rfl) (fun _ _ _ h => h) (Or.inl ⟨by rfl, ?_⟩) (by assumption) ?_
        rotate_left
        · (intro w hSw; (try dsimp only at hSw); go_simp; try with_reducible rfl)
        try simp only [Act.put, List.setIfInBounds_toArray, List.set_cons_zero, List.set_cons_succ]
        refine wpAnyH_take (i := 4) (v := ?_) (by simp only [List.getElem?_toArray, List.getElem?_cons_succ, List.getElem?_cons_zero]; rfl) (by kernel_rfl) (by kernel_rfl) (by kernel_rfl) (fun _ _ _ h => h) (Or.inl ⟨by rfl, ?_⟩) (by assumption) ?_
        rotate_left
        · (intro w hSw; (try dsimp only at hSw); go_simp; try with_reducible rfl)
        try simp only [Act.put, List.setIfInBounds_toArray, List.set_cons_zero, List.set_cons_succ]
        refine wpAnyH_take (i := 5) (v := ?_) (by simp only [List.getElem?_toArray, List.getElem?_cons_succ, List.getElem?_cons_zero]; rfl) (by kernel_rfl) (by kernel_rfl) (by kernel_rfl) (fun _ _ _ h => h) (Or.inl ⟨by rfl, ?_⟩) (by assumption) ?_
        rotate_left
        · (intro w hSw; (try dsimp only at hSw); go_simp; try with_reducible rfl)
        try simp only [Act.put, List.setIfInBounds_toArray, List.set_cons_zero, List.set_cons_succ]
        refine wpAnyH_take (i := 6) (v := ?_) (by simp only [List.getElem?_toArray, List.getElem?_cons_succ, List.getElem?_cons_zero]; rfl) (by kernel_rfl) (by kernel_rfl) (by kernel_rfl) (fun _ _ _ h => h) (Or.inl ⟨by rfl, ?_⟩) (by assumption) ?_
        rotate_left
        · (intro w hSw; (try dsimp only at hSw); go_simp; try with_reducible rfl)
        try simp only [Act.put, List.setIfInBounds_toArray, List.set_cons_zero, List.set_cons_succ]
        refine wpAnyH_take (i := 7) (v := ?_) (by simp only [List.getElem?_toArray, List.getElem?_cons_succ, List.getElem?_cons_zero]; rfl) (by kernel_rfl) (by kernel_rfl) (by kernel_rfl) (fun _ _ _ h => h) (Or.inl ⟨by rfl, ?_⟩) (by assumption) ?_
        rotate_left
        · (intro w hSw; (try dsimp only at hSw); go_simp; try with_reducible rfl)
        try simp only [Act.put, List.setIfInBounds_toArray, List.set_cons_zero, List.set_cons_succ]
        refine wpAnyH_ready (rs := [8]) (by kernel_rfl) (by simp) ?_
        refine AllReadyH.cons (by simp only [List.getElem?_toArray, List.getElem?_cons_succ, List.getElem?_cons_zero]; rfl) (fun K hK => ?_) AllReadyH.nil
        go_simp
        go_at_call 23
        refine (SC.out _).mono ?_
        rintro e w11 ⟨rfl, rfl⟩
        go_wp2_with fail
        refine hK.out _ _ hHeld (fun hHeld => ?_)
        clear hK K
        try simp only [Act.put, List.setIfInBounds_toArray, List.set_cons_zero, List.set_cons_succ]
        refine wpAnyH_take (i := 9) (v := ?_) (by simp only [List.getElem?_toArray, List.getElem?_cons_succ, List.getElem?_cons_zero]; rfl) (by kernel_rfl) (by kernel_rfl) (by kernel_rfl) (fun _ _ _ h => h) (Or.inl ⟨by rfl, ?_⟩) (by assumption) ?_
        rotate_left
        · (intro w hSw; (try dsimp only at hSw); go_simp; try with_reducible rfl)
        try simp only [Act.put, List.setIfInBounds_toArray, List.set_cons_zero, List.set_cons_succ]
        refine wpAnyH_done (by kernel_rfl) ?_ _
        refine NoPanic.normal ?_
        clear hb x1 x2 x3 y1 y2 y3
        obtain ⟨hb, x1, x2, x3, y1, y2, y3⟩ := hHeld
        go_wp2_with fail
        refine wp_region_noPanic ?_
        refine wp_region_held_drew (S := (fun w' => Below w.heap.size w w' ∧ w'.cell? ⟨b1, o1, none⟩ = some (.string ⟨x.p.toArray⟩) ∧ w'.cell? ⟨b1, o1 + 1, none⟩ = some (.int .u64 (x.n : Int)) ∧ w'.cell? ⟨b1, o1 + 2, none⟩ = some (.bool x.bad) ∧ w'.cell? ⟨b2, o2, none⟩ = some (.string ⟨y.p.toArray⟩) ∧ w'.cell? ⟨b2, o2 + 1, none⟩ = some (.int .u64 (y.n : Int)) ∧ w'.cell? ⟨b2, o2 + 2, none⟩ = some (.bool y.bad))) (by kernel_rfl) (⟨Below.drew hb, (((Below.drew (Below.refl _ _))).cell (p := ⟨b1, o1, none⟩) q1).trans x1, (((Below.drew (Below.refl _ _))).cell (p := ⟨b1, o1 + 1, none⟩) q1).trans x2, (((Below.drew (Below.refl _ _))).cell (p := ⟨b1, o1 + 2, none⟩) q1).trans x3, (((Below.drew (Below.refl _ _))).cell (p := ⟨b2, o2, none⟩) q2).trans y1, (((Below.drew (Below.refl _ _))).cell (p := ⟨b2, o2 + 1, none⟩) q2).trans y2, (((Below.drew (Below.refl _ _))).cell (p := ⟨b2, o2 + 2, none⟩) q2).trans y3⟩) (fun hHeld => ?_)
        refine wpAnyH_take (i := 0) (v := ?_) (by simp only [List.getElem?_toArray, List.getElem?_cons_zero]; rfl) (by kernel_rfl) (by kernel_rfl) (by kernel_rfl) (fun _ _ _ h => h) (Or.inl ⟨by rfl, ?_⟩) (by assumption) ?_
        rotate_left
        · (intro w hSw; (try dsimp only at hSw); go_simp; try with_reducible rfl)
        try simp only [Act.put, List.setIfInBounds_toArray, List.set_cons_zero, List.set_cons_succ]
        refine wpAnyH_take (i := 1) (v := ?_) (by simp only [List.getElem?_toArray, List.getElem?_cons_succ, List.getElem?_cons_zero]; rfl) (by kernel_rfl) (by kernel_rfl) (by kernel_rfl) (fun _ _ _ h => h) (Or.inl ⟨by rfl, ?_⟩) (by assumption) ?_
        rotate_left
        · (intro w hSw; (try dsimp only at hSw); go_simp; try with_reducible rfl)
        try simp only [Act.put, List.setIfInBounds_toArray, List.set_cons_zero, List.set_cons_succ]
        refine wpAnyH_take (i := 2) (v := ?_) (by simp only [List.getElem?_toArray, List.getElem?_cons_succ, List.getElem?_cons_zero]; rfl) (by kernel_rfl) (by kernel_rfl) (by kernel_rfl) (fun _ _ _ h => h) (Or.inl ⟨by rfl, ?_⟩) (by assumption) ?_
        rotate_left
        · (intro w hSw; (try dsimp only at hSw); go_simp; try with_reducible rfl)
        try simp only [Act.put, List.setIfInBounds_toArray, List.set_cons_zero, List.set_cons_succ]
        refine wpAnyH_take (i := 3) (v := ?_) (by simp only [List.getElem?_toArray, List.getElem?_cons_succ, List.getElem?_cons_zero]; rfl) (by kernel_rfl) (by kernel_rfl) (by kernel_rfl) (fun _ _ _ h => h) (Or.inl ⟨by rfl, ?_⟩) (by assumption) ?_
        rotate_left
        · (intro w hSw; (try dsimp only at hSw); go_simp; try with_reducible rfl)
        try simp only [Act.put, List.setIfInBounds_toArray, List.set_cons_zero, List.set_cons_succ]
        refine wpAnyH_take (i := 4) (v := ?_) (by simp only [List.getElem?_toArray, List.getElem?_cons_succ, List.getElem?_cons_zero]; rfl) (by kernel_rfl) (by kernel_rfl) (by kernel_rfl) (fun _ _ _ h => h) (Or.inl ⟨by rfl, ?_⟩) (by assumption) ?_
        rotate_left
        · (intro w hSw; (try dsimp only at hSw); go_simp; try with_reducible rfl)
        try simp only [Act.put, List.setIfInBounds_toArray, List.set_cons_zero, List.set_cons_succ]
        refine wpAnyH_take (i := 5) (v := ?_) (by simp only [List.getElem?_toArray, List.getElem?_cons_succ, List.getElem?_cons_zero]; rfl) (by kernel_rfl) (by kernel_rfl) (by kernel_rfl) (fun _ _ _ h => h) (Or.inl ⟨by rfl, ?_⟩) (by assumption) ?_
        rotate_left
        · (intro w hSw; (try dsimp only at hSw); go_simp; try with_reducible rfl)
        try simp only [Act.put, List.setIfInBounds_toArray, List.set_cons_zero, List.set_cons_succ]
        refine wpAnyH_take (i := 6) (v := ?_) (by simp only [List.getElem?_toArray, List.getElem?_cons_succ, List.getElem?_cons_zero]; rfl) (by kernel_rfl) (by kernel_rfl) (by kernel_rfl) (fun _ _ _ h => h) (Or.inl ⟨by rfl, ?_⟩) (by assumption) ?_
        rotate_left
        · (intro w hSw; (try dsimp only at hSw); go_simp; try with_reducible rfl)
        try simp only [Act.put, List.setIfInBounds_toArray, List.set_cons_zero, List.set_cons_succ]
        refine wpAnyH_take (i := 10) (v := ?_) (by simp only [List.getElem?_toArray, List.getElem?_cons_succ, List.getElem?_cons_zero]; rfl) (by kernel_rfl) (by kernel_rfl) (by kernel_rfl) (fun _ _ _ h => h) (Or.inl ⟨by rfl, ?_⟩) (by assumption) ?_
        rotate_left
        · (intro w hSw; (try dsimp only at hSw); go_simp; try with_reducible rfl)
        try simp only [Act.put, List.setIfInBounds_toArray, List.set_cons_zero, List.set_cons_succ]
        refine wpAnyH_take (i := 11) (v := ?_) (by simp only [List.getElem?_toArray, List.getElem?_cons_succ, List.getElem?_cons_zero]; rfl) (by kernel_rfl) (by kernel_rfl) (by kernel_rfl) (fun _ _ _ h => h) (Or.inl ⟨by rfl, ?_⟩) (by assumption) ?_
        rotate_left
        · (intro w hSw; (try dsimp only at hSw); go_simp; try with_reducible rfl)
        try simp only [Act.put, List.setIfInBounds_toArray, List.set_cons_zero, List.set_cons_succ]
        refine wpAnyH_take (i := 12) (v := ?_) (by simp only [List.getElem?_toArray, List.getElem?_cons_succ, List.getElem?_cons_zero]; rfl) (by kernel_rfl) (by kernel_rfl) (by kernel_rfl) (fun _ _ _ h => h) (Or.inl ⟨by rfl, ?_⟩) (by assumption) ?_
        rotate_left
        · (intro w hSw; (try dsimp only at hSw); go_simp; try with_reducible rfl)
        try simp only [Act.put, List.setIfInBounds_toArray, List.set_cons_zero, List.set_cons_succ]
        refine wpAnyH_take (i := 13) (v := ?_) (by simp only [List.getElem?_toArray, List.getElem?_cons_succ, List.getElem?_cons_zero]; rfl) (by kernel_rfl) (by kernel_rfl) (by kernel_rfl) (fun _ _ _ h => h) (Or.inl ⟨by rfl, ?_⟩) (by assumption) ?_
        rotate_left
        · (intro w hSw; (try dsimp only at hSw); go_simp; try with_reducible rfl)
        try simp only [Act.put, List.setIfInBounds_toArray, List.set_cons_zero, List.set_cons_succ]
        refine wpAnyH_ready (rs := [7]) (by kernel_rfl) (by simp) ?_
        refine AllReadyH.cons (by simp only [List.getElem?_toArray, List.getElem?_cons_succ, List.getElem?_cons_zero]; rfl) (fun K hK => ?_) AllReadyH.nil
        go_simp
        go_at_call 24
        refine (greater_any x y _).mono ?_
        rintro e v12 ⟨rfl, k12⟩
        have KG := Lib.hid (oO.out.drew.drew.below k12)
        replace k12 := (k12).mono (hHeld.1).size
        go_wp2_with fail
        refine hK.out _ _ (⟨(hHeld.1).trans k12, ((k12).cell (p := ⟨b1, o1, none⟩) q1).trans hHeld.2.1, ((k12).cell (p := ⟨b1, o1 + 1, none⟩) q1).trans hHeld.2.2.1, ((k12).cell (p := ⟨b1, o1 + 2, none⟩) q1).trans hHeld.2.2.2.1, ((k12).cell (p := ⟨b2, o2, none⟩) q2).trans hHeld.2.2.2.2.1, ((k12).cell (p := ⟨b2, o2 + 1, none⟩) q2).trans hHeld.2.2.2.2.2.1, ((k12).cell (p := ⟨b2, o2 + 2, none⟩) q2).trans hHeld.2.2.2.2.2.2⟩) (fun hHeld => ?_)
        clear hK K k12
        try simp only [Act.put, List.setIfInBounds_toArray, List.set_cons_zero, List.set_cons_succ]
        refine wpAnyH_ready (rs := [8]) (by kernel_rfl) (by simp) ?_
        refine AllReadyH.cons (by simp only [List.getElem?_toArray, List.getElem?_cons_succ, List.getElem?_cons_zero]; rfl) (fun K hK => ?_) AllReadyH.nil
        go_simp
        refine hK.out _ _ (⟨(hHeld.1).trans ((Below.refl w.heap.size _).alloc (hHeld.1).size _), ((((Below.refl w.heap.size _).alloc (hHeld.1).size _)).cell (p := ⟨b1, o1, none⟩) q1).trans hHeld.2.1, ((((Below.refl w.heap.size _).alloc (hHeld.1).size _)).cell (p := ⟨b1, o1 + 1, none⟩) q1).trans hHeld.2.2.1, ((((Below.refl w.heap.size _).alloc (hHeld.1).size _)).cell (p := ⟨b1, o1 + 2, none⟩) q1).trans hHeld.2.2.2.1, ((((Below.refl w.heap.size _).alloc (hHeld.1).size _)).cell (p := ⟨b2, o2, none⟩) q2).trans hHeld.2.2.2.2.1, ((((Below.refl w.heap.size _).alloc (hHeld.1).size _)).cell (p := ⟨b2, o2 + 1, none⟩) q2).trans hHeld.2.2.2.2.2.1, ((((Below.refl w.heap.size _).alloc (hHeld.1).size _)).cell (p := ⟨b2, o2 + 2, none⟩) q2).trans hHeld.2.2.2.2.2.2⟩) (fun hHeld => ?_)
        clear hK K
        try simp only [Act.put, List.setIfInBounds_toArray, List.set_cons_zero, List.set_cons_succ]
        refine wpAnyH_ready (rs := [9]) (by kernel_rfl) (by simp) ?_
        refine AllReadyH.cons (by simp only [List.getElem?_toArray, List.getElem?_cons_succ, List.getElem?_cons_zero]; rfl) (fun K hK => ?_) AllReadyH.nil
        refine Row.step_app typ rfl (.tmp 38) (.tmp 46) rfl w.heap.size _ out rfl (KG.out.alloc _) _ 1 1 [greater x y] rfl (Row.lies_new _ (greater x y) _) (by omega) (by have := (hHeld.1).size; simp only [World.size_alloc] at this ⊢; omega) ?_
        intro v9 w9 o9 _ k9
        refine hK.out _ _ (⟨(hHeld.1).trans k9, ((k9).cell (p := ⟨b1, o1, none⟩) q1).trans hHeld.2.1, ((k9).cell (p := ⟨b1, o1 + 1, none⟩) q1).trans hHeld.2.2.1, ((k9).cell (p := ⟨b1, o1 + 2, none⟩) q1).trans hHeld.2.2.2.1, ((k9).cell (p := ⟨b2, o2, none⟩) q2).trans hHeld.2.2.2.2.1, ((k9).cell (p := ⟨b2, o2 + 1, none⟩) q2).trans hHeld.2.2.2.2.2.1, ((k9).cell (p := ⟨b2, o2 + 2, none⟩) q2).trans hHeld.2.2.2.2.2.2⟩) (fun hHeld => ?_)
        clear hK K
        try simp only [Act.put, List.setIfInBounds_toArray, List.set_cons_zero, List.set_cons_succ]
        refine wpAnyH_take (i := 14) (v := ?_) (by simp only [List.getElem?_toArray, List.getElem?_cons_succ, List.getElem?_cons_zero]; rfl) (by kernel_rfl) (by kernel_rfl) (by kernel_rfl) (fun _ _ _ h => h) (Or.inl ⟨by rfl, ?_⟩) (by assumption) ?_
        rotate_left
        · (intro w hSw; (try dsimp only at hSw); go_simp; try with_reducible rfl)
        try simp only [Act.put, List.setIfInBounds_toArray, List.set_cons_zero, List.set_cons_succ]
        refine wpAnyH_take (i := 15) (v := ?_) (by simp only [List.getElem?_toArray, List.getElem?_cons_succ, List.getElem?_cons_zero]; rfl) (by kernel_rfl) (by kernel_rfl) (by kernel_rfl) (fun _ _ _ h => h) (Or.inl ⟨by rfl, ?_⟩) (by assumption) ?_
        rotate_left
        · (intro w hSw; (try dsimp only at hSw); go_simp; try with_reducible rfl)
        try simp only [Act.put, List.setIfInBounds_toArray, List.set_cons_zero]
        refine wpAnyH_take (i := 16) (v := ?_) (by simp only [List.getElem?_toArray, List.getElem?_cons_succ, List.getElem?_cons_zero]; rfl) (by kernel_rfl) (by kernel_rfl) (by kernel_rfl) (fun _ _ _ h => h) (Or.inl ⟨by rfl, ?_⟩) (by assumption) ?_
        rotate_left
        · (intro w hSw; (try dsimp only at hSw); go_simp; try with_reducible rfl)
        try simp only [Act.put, List.setIfInBounds_toArray, List.set_cons_zero, List.set_cons_succ]
        refine wpAnyH_done (by kernel_rfl) ?_ _
        refine NoPanic.normal ?_
        clear hb x1 x2 x3 y1 y2 y3
        obtain ⟨hb, x1, x2, x3, y1, y2, y3⟩ := hHeld
        go_wp2
        go_roundw
        case rel => exact ⟨A', C', out ++ [greater x y], _, _, _, _, _, _, rfl, rfl, by omega, by omega, by omega, by omega, TA, TC, Lib.hid o9, Lib.hid (by have h := HS.out; rw [merge_eq HC.out] at h; rw [← h, List.append_assoc]; rfl), hb⟩
        case measure => first | (simp [lenOf]; done) | (simp [lenOf]; omega)
end Beat
end Go.Proofs.Ytfdcmmafdgagoaa
