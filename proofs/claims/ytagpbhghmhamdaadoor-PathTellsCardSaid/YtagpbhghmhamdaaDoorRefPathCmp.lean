/- The document's Compare; two lists of texts held against each other. -/
import Derived.Test.YtagpbhghmhamdaaDoorRefPathFns
import Derived.Test.YtagpbhghmhamdaaDoorPathLaw
namespace Go.Proofs.YtagpbhghmhamdaaDoor
namespace RefPath
open Go.RowKit Go.Proofs.YtagpbhghmhamdaaDoor.Path

def ordV (less same : Bool) : Int := if same then 0 else if less then -1 else 1
theorem order_any (less same : Bool) (w : World) : Calls Tryd.prog 34 #[.bool less, .bool same] w fun e w' => e = .returned (.int .i64 (ordV less same)) ∧ Below w.heap.size w w' := by
  have h0 := Below.refl w.heap.size w
  cases same
  · cases less
    all_goals
      go_enter Tryd.func34, Tryd.ntmps34
      go_wp2
      go_ret
      exact ⟨rfl, h0⟩
  · go_enter Tryd.func34, Tryd.ntmps34
    go_wp2
    go_ret
    exact ⟨rfl, h0⟩

set_option maxRecDepth 100000 in
set_option maxHeartbeats 4000000 in
theorem compare_any (a b : List UInt8) (w : World) (ha : a.length ≤ 1099511627776) (hb : b.length ≤ 1099511627776) :
    Calls Tryd.prog 24 #[.string ⟨a.toArray⟩, .string ⟨b.toArray⟩] w fun e w' => e = .returned (.int .i64 (cmpP a b)) ∧ Below w.heap.size w w' := by
  have CA := Lib.hid (fun w => read_any a w ha)
  have CB := Lib.hid (fun w => read_any b w hb)
  have O := Lib.hid order_any
  have hsa := Str.size_mk a
  have hsb := Str.size_mk b
  have h0 := Below.refl w.heap.size w
  by_cases ea : parse a = [] <;> by_cases eb : parse b = []
  · have HA := Lib.hid ea
    have HB := Lib.hid eb
    have hv : cmpP a b = Lib.compareBytes a b := by rw [cmpP, if_pos ea, if_pos eb]
    clear ea eb
    cases hl : Op.bytesLess a b with
    | true =>
      have hne : (a == b) = false := by rw [beq_eq_false_iff_ne]; intro e; have := Order.cmp_less a b hl; rw [e, Order.cmp_self] at this; cases this
      rw [Order.cmp_less a b hl] at hv
      have HV := Lib.hid hv
      clear hv
      go_enter Tryd.func24, Tryd.ntmps24
      go_wp2_with fail
      refine (CA.out _).mono ?_
      rintro e w1 ⟨a1, n, c1, b1, rfl, hbv1, hr1, hb1⟩
      obtain rfl : b1 = false := by rw [hbv1, HA.out]; rfl
      clear hbv1 hr1
      go_wp2_with fail
      refine (CB.out _).mono ?_
      rintro e w2 ⟨a2, m, c2, b2, rfl, hbv2, hr2, hb2⟩
      obtain rfl : b2 = false := by rw [hbv2, HB.out]; rfl
      clear hbv2 hr2
      have h2 := bstep hb1 hb2
      go_wp2_with fail
      refine (O.out true false _).mono ?_
      rintro e w3 ⟨rfl, k3⟩
      have h3 := bstep h2 k3
      clear k3
      go_wp2
      go_ret
      exact ⟨by rw [HV.out]; rfl, h3⟩
    | false =>
      by_cases e : a = b
      · subst e
        rw [Order.cmp_self] at hv
        have HV := Lib.hid hv
        clear hv
        have hq : (a == a) = true := by simp
        go_enter Tryd.func24, Tryd.ntmps24
        go_wp2_with fail
        refine (CA.out _).mono ?_
        rintro e w1 ⟨a1, n, c1, b1, rfl, hbv1, hr1, hb1⟩
        obtain rfl : b1 = false := by rw [hbv1, HA.out]; rfl
        clear hbv1 hr1
        go_wp2_with fail
        refine (CB.out _).mono ?_
        rintro e w2 ⟨a2, m, c2, b2, rfl, hbv2, hr2, hb2⟩
        obtain rfl : b2 = false := by rw [hbv2, HB.out]; rfl
        clear hbv2 hr2
        have h2 := bstep hb1 hb2
        go_wp2_with fail
        refine (O.out false true _).mono ?_
        rintro e w3 ⟨rfl, k3⟩
        have h3 := bstep h2 k3
        clear k3
        go_wp2
        go_ret
        exact ⟨by rw [HV.out]; rfl, h3⟩
      · have hne : (a == b) = false := by rw [beq_eq_false_iff_ne]; exact e
        rw [Order.cmp_more a b e hl] at hv
        have HV := Lib.hid hv
        clear hv e
        go_enter Tryd.func24, Tryd.ntmps24
        go_wp2_with fail
        refine (CA.out _).mono ?_
        rintro e w1 ⟨a1, n, c1, b1, rfl, hbv1, hr1, hb1⟩
        obtain rfl : b1 = false := by rw [hbv1, HA.out]; rfl
        clear hbv1 hr1
        go_wp2_with fail
        refine (CB.out _).mono ?_
        rintro e w2 ⟨a2, m, c2, b2, rfl, hbv2, hr2, hb2⟩
        obtain rfl : b2 = false := by rw [hbv2, HB.out]; rfl
        clear hbv2 hr2
        have h2 := bstep hb1 hb2
        go_wp2_with fail
        refine (O.out false false _).mono ?_
        rintro e w3 ⟨rfl, k3⟩
        have h3 := bstep h2 k3
        clear k3
        go_wp2
        go_ret
        exact ⟨by rw [HV.out]; rfl, h3⟩
  · have HA := Lib.hid ea
    have HB := Lib.hid eb
    have HV := Lib.hid (show cmpP a b = -1 by rw [cmpP, if_pos ea, if_neg eb])
    obtain ⟨M, hm⟩ : ∃ M, M = (parse b).length := ⟨_, rfl⟩
    have HM := Lib.hid hm
    clear ea eb hm
    go_enter Tryd.func24, Tryd.ntmps24
    go_wp2_with fail
    refine (CA.out _).mono ?_
    rintro e w1 ⟨a1, n, c1, b1, rfl, hbv1, hr1, hb1⟩
    obtain rfl : b1 = false := by rw [hbv1, HA.out]; rfl
    clear hbv1 hr1
    go_wp2_with fail
    refine (CB.out _).mono ?_
    rintro e w2 ⟨a2, m, c2, b2, rfl, hbv2, hr2, hb2⟩
    obtain rfl : b2 = true := by rw [hbv2]; exact decide_eq_true HB.out
    obtain ⟨hn2, _, g2, rfl, ha2⟩ := hr2 HB.out
    obtain rfl : M = m := by rw [hn2, HM.out]
    clear hbv2 hr2 hn2
    have HA2 := Lib.hid ha2
    clear ha2
    have h2 := bstep hb1 hb2
    go_wp2_with fail
    refine (O.out true false _).mono ?_
    rintro e w3 ⟨rfl, k3⟩
    have h3 := bstep h2 k3
    clear k3
    go_wp2
    go_ret
    exact ⟨by rw [HV.out]; rfl, h3⟩
  · have HA := Lib.hid ea
    have HB := Lib.hid eb
    have HV := Lib.hid (show cmpP a b = 1 by rw [cmpP, if_neg ea, if_pos eb])
    obtain ⟨L, hm⟩ : ∃ L, L = (parse a).length := ⟨_, rfl⟩
    have HL := Lib.hid hm
    clear ea eb hm
    go_enter Tryd.func24, Tryd.ntmps24
    go_wp2_with fail
    refine (CA.out _).mono ?_
    rintro e w1 ⟨a1, n, c1, b1, rfl, hbv1, hr1, hb1⟩
    obtain rfl : b1 = true := by rw [hbv1]; exact decide_eq_true HA.out
    obtain ⟨hn1, _, g1, rfl, ha1⟩ := hr1 HA.out
    obtain rfl : L = n := by rw [hn1, HL.out]
    clear hbv1 hr1 hn1
    have HA1 := Lib.hid ha1
    clear ha1
    go_wp2_with fail
    refine (CB.out _).mono ?_
    rintro e w2 ⟨a2, m, c2, b2, rfl, hbv2, hr2, hb2⟩
    obtain rfl : b2 = false := by rw [hbv2, HB.out]; rfl
    clear hbv2 hr2
    have h2 := bstep hb1 hb2
    go_wp2_with fail
    refine (O.out false false _).mono ?_
    rintro e w3 ⟨rfl, k3⟩
    have h3 := bstep h2 k3
    clear k3
    go_wp2
    go_ret
    exact ⟨by rw [HV.out]; rfl, h3⟩
  · have HA := Lib.hid ea
    have HB := Lib.hid eb
    have HV := Lib.hid (show cmpP a b = cmpL (parse a) (parse b) by rw [cmpP, if_neg ea, if_neg eb])
    have hL8 := parse_length a
    have hM8 := parse_length b
    obtain ⟨L, hl⟩ : ∃ L, L = (parse a).length := ⟨_, rfl⟩
    obtain ⟨M, hm⟩ : ∃ M, M = (parse b).length := ⟨_, rfl⟩
    rw [← hl] at hL8
    rw [← hm] at hM8
    have HL := Lib.hid hl
    have HM := Lib.hid hm
    clear ea eb hl hm
    go_enter Tryd.func24, Tryd.ntmps24
    go_wp2_with fail
    refine (CA.out _).mono ?_
    rintro e w1 ⟨a1, n, c1, b1, rfl, hbv1, hr1, hb1⟩
    obtain rfl : b1 = true := by rw [hbv1]; exact decide_eq_true HA.out
    obtain ⟨hn1, _, g1, rfl, ha1⟩ := hr1 HA.out
    obtain rfl : L = n := by rw [hn1, HL.out]
    clear hbv1 hr1 hn1
    have HA1 := Lib.hid ha1
    clear ha1
    go_wp2_with fail
    refine (CB.out _).mono ?_
    rintro e w2 ⟨a2, m, c2, b2, rfl, hbv2, hr2, hb2⟩
    obtain rfl : b2 = true := by rw [hbv2]; exact decide_eq_true HB.out
    obtain ⟨hn2, _, g2, rfl, ha2⟩ := hr2 HB.out
    obtain rfl : M = m := by rw [hn2, HM.out]
    clear hbv2 hr2 hn2
    have HA2 := Lib.hid ha2
    clear ha2
    have h2 := bstep hb1 hb2
    obtain ⟨x, hx⟩ : ∃ l, l = parse a := ⟨_, rfl⟩
    obtain ⟨y, hy⟩ : ∃ l, l = parse b := ⟨_, rfl⟩
    rw [← hx] at HL HA1 HV HA
    rw [← hy] at HM HA2 HV HB
    have HA2 := Lib.hid HA2.out
    have HA1 := Lib.hid (HA1.out.below hb2)
    clear hx hy hb1 hb2 CA CB
    go_wp2_with fail
    go_loopw [9] (fun iv wr => ∃ j : Nat, j ≤ L ∧ j ≤ M ∧ iv = .int .i64 j ∧ Hid (cmpL x y = cmpL (x.drop j) (y.drop j)) ∧ Hid (Ints wr g1 x ∧ Ints wr g2 y) ∧ Below w.heap.size w wr) (fun iv _ => L - (intOf iv).toNat)
    case atStart => exact ⟨0, by omega, by omega, rfl, Lib.hid rfl, Lib.hid ⟨HA1.out, HA2.out⟩, h2⟩
    case round =>
      clear HA1 HA2 h2
      obtain ⟨j, hj, hjm, rfl, HI, HR, h2⟩ := hrel
      have hl := HL.out
      have hm := HM.out
      by_cases b1 : j < L
      · have d1 : decide ((j : Int) < (L : Int)) = true := decide_eq_true (by omega)
        by_cases b2 : j < M
        · have d2 : decide ((j : Int) < (M : Int)) = true := decide_eq_true (by omega)
          obtain ⟨r1, r2⟩ := HR.out
          have c1 := r1 j (by omega)
          have c2 := r2 j (by omega)
          have hi := HI.out
          have e1 : x.drop j = x.getD j 0 :: x.drop (j + 1) := by rw [List.drop_eq_getElem_cons (by omega), List.getD_eq_getElem?_getD, List.getElem?_eq_getElem (by omega)]; rfl
          have e2 : y.drop j = y.getD j 0 :: y.drop (j + 1) := by rw [List.drop_eq_getElem_cons (by omega), List.getD_eq_getElem?_getD, List.getElem?_eq_getElem (by omega)]; rfl
          obtain ⟨p, hp⟩ : ∃ p, p = x.getD j 0 := ⟨_, rfl⟩
          obtain ⟨q, hq⟩ : ∃ p, p = y.getD j 0 := ⟨_, rfl⟩
          rw [← hp] at c1 e1
          rw [← hq] at c2 e2
          rw [e1, e2, cmpL] at hi
          have HJ := Lib.hid hi
          clear hi HI e1 e2 hp hq hl hm r1 r2
          by_cases b3 : p = q
          · subst b3
            go_wp2_with fail
            refine wp_region_noPanic ?_
            refine wp_region_held_drew (S := (fun w' => w'.cell? ⟨g1, j, none⟩ = some (.int .i64 (p : Int)) ∧ w'.cell? ⟨g2, j, none⟩ = some (.int .i64 (p : Int)))) (by kernel_rfl) (⟨c1, c2⟩) (fun hHeld => ?_)
            refine wpAnyH_take (i := 0) (v := ?_) (by simp only [List.getElem?_toArray, List.getElem?_cons_zero]; rfl) (by kernel_rfl) (by kernel_rfl) (by kernel_rfl) (fun _ _ _ h => h) (Or.inl ⟨by rfl, ?_⟩) (by assumption) ?_
            rotate_left
            · (intro w hSw; (try dsimp only at hSw); go_simp; try with_reducible rfl)
            try simp only [Act.put, List.setIfInBounds_toArray, List.set_cons_zero, List.set_cons_succ]
            refine wpAnyH_take (i := 1) (v := ?_) (by simp only [List.getElem?_toArray, List.getElem?_cons_succ, List.getElem?_cons_zero]; rfl) (by kernel_rfl) (by kernel_rfl) (by kernel_rfl) (fun _ _ _ h => h) (Or.inl ⟨by rfl, ?_⟩) (by assumption) ?_
            rotate_left
            · (intro w hSw; (try dsimp only at hSw); go_simp; try with_reducible rfl)
            try simp only [Act.put, List.setIfInBounds_toArray, List.set_cons_zero, List.set_cons_succ]
            refine wpAnyH_take (i := 2) (v := ?_) (by simp only [List.getElem?_toArray, List.getElem?_cons_succ, List.getElem?_cons_zero]; rfl) (by kernel_rfl) (by kernel_rfl) (by kernel_rfl) (fun _ _ _ h => h) (Or.inl ⟨by rfl, ?_⟩) (by assumption) ?_
            rotate_left
            · (intro w hSw; (try dsimp only at hSw); go_simp; try with_reducible rfl)
            try simp only [Act.put, List.setIfInBounds_toArray, List.set_cons_zero, List.set_cons_succ]
            refine wpAnyH_take (i := 3) (v := ?_) (by simp only [List.getElem?_toArray, List.getElem?_cons_succ, List.getElem?_cons_zero]; rfl) (by kernel_rfl) (by kernel_rfl) (by kernel_rfl) (fun _ _ _ h => h) (Or.inl ⟨by rfl, ?_⟩) (by assumption) ?_
            rotate_left
            · (intro w hSw; (try dsimp only at hSw); go_simp; try with_reducible rfl)
            try simp only [Act.put, List.setIfInBounds_toArray, List.set_cons_zero, List.set_cons_succ]
            refine wpAnyH_take (i := 4) (v := ?_) (by simp only [List.getElem?_toArray, List.getElem?_cons_succ, List.getElem?_cons_zero]; rfl) (by kernel_rfl) (by kernel_rfl) (by kernel_rfl) (fun _ _ _ h => h) (Or.inl ⟨by rfl, ?_⟩) (by assumption) ?_
            rotate_left
            · (intro w hSw; (try dsimp only at hSw); go_simp; try with_reducible rfl)
            try simp only [Act.put, List.setIfInBounds_toArray, List.set_cons_zero, List.set_cons_succ]
            refine wpAnyH_take (i := 5) (v := ?_) (by simp only [List.getElem?_toArray, List.getElem?_cons_succ, List.getElem?_cons_zero]; rfl) (by kernel_rfl) (by kernel_rfl) (by kernel_rfl) (fun _ _ _ h => h) (Or.inl ⟨by rfl, ?_⟩) (by assumption) ?_
            rotate_left
            · (intro w hSw; (try dsimp only at hSw); go_simp; try with_reducible rfl)
            try simp only [Act.put, List.setIfInBounds_toArray, List.set_cons_zero, List.set_cons_succ]
            refine wpAnyH_take (i := 6) (v := ?_) (by simp only [List.getElem?_toArray, List.getElem?_cons_succ, List.getElem?_cons_zero]; rfl) (by kernel_rfl) (by kernel_rfl) (by kernel_rfl) (fun _ _ _ h => h) (Or.inl ⟨by rfl, ?_⟩) (by assumption) ?_
            rotate_left
            · (intro w hSw; (try dsimp only at hSw); go_simp; try with_reducible rfl)
            try simp only [Act.put, List.setIfInBounds_toArray, List.set_cons_zero, List.set_cons_succ]
            refine wpAnyH_take (i := 7) (v := ?_) (by simp only [List.getElem?_toArray, List.getElem?_cons_succ, List.getElem?_cons_zero]; rfl) (by kernel_rfl) (by kernel_rfl) (by kernel_rfl) (fun _ _ _ h => h) (Or.inl ⟨by rfl, ?_⟩) (by assumption) ?_
            rotate_left
            · (intro w hSw; (try dsimp only at hSw); go_simp; try with_reducible rfl)
            try simp only [Act.put, List.setIfInBounds_toArray, List.set_cons_zero, List.set_cons_succ]
            refine wpAnyH_take (i := 8) (v := ?_) (by simp only [List.getElem?_toArray, List.getElem?_cons_succ, List.getElem?_cons_zero]; rfl) (by kernel_rfl) (by kernel_rfl) (by kernel_rfl) (fun _ _ _ h => h) (Or.inl ⟨by rfl, ?_⟩) (by assumption) ?_
            rotate_left
            · (intro w hSw; (try dsimp only at hSw); go_simp; try with_reducible rfl)
            try simp only [Act.put, List.setIfInBounds_toArray, List.set_cons_zero, List.set_cons_succ]
            refine wpAnyH_done (by kernel_rfl) ?_ _
            refine NoPanic.normal ?_
            go_wp2
            go_roundw
            case rel => exact ⟨j + 1, by omega, by omega, by go_num, Lib.hid (by rw [HJ.out, if_neg (by omega), if_neg (by omega)]), Lib.hid ⟨HR.out.1.below (Below.drew (Below.refl _ _)), HR.out.2.below (Below.drew (Below.refl _ _))⟩, Below.drew h2⟩
            case measure => simp [intOf]; omega
          · have y1 : ((p : Int) != (q : Int)) = true := by rw [bne_iff_ne]; omega
            have y2 : ((p : Int) == (q : Int)) = false := by rw [beq_eq_false_iff_ne]; omega
            go_wp2_with fail
            refine wp_region_noPanic ?_
            refine wp_region_held_drew (S := (fun w' => w'.cell? ⟨g1, j, none⟩ = some (.int .i64 (p : Int)) ∧ w'.cell? ⟨g2, j, none⟩ = some (.int .i64 (q : Int)))) (by kernel_rfl) (⟨c1, c2⟩) (fun hHeld => ?_)
            refine wpAnyH_take (i := 0) (v := ?_) (by simp only [List.getElem?_toArray, List.getElem?_cons_zero]; rfl) (by kernel_rfl) (by kernel_rfl) (by kernel_rfl) (fun _ _ _ h => h) (Or.inl ⟨by rfl, ?_⟩) (by assumption) ?_
            rotate_left
            · (intro w hSw; (try dsimp only at hSw); go_simp; try with_reducible rfl)
            try simp only [Act.put, List.setIfInBounds_toArray, List.set_cons_zero, List.set_cons_succ]
            refine wpAnyH_take (i := 1) (v := ?_) (by simp only [List.getElem?_toArray, List.getElem?_cons_succ, List.getElem?_cons_zero]; rfl) (by kernel_rfl) (by kernel_rfl) (by kernel_rfl) (fun _ _ _ h => h) (Or.inl ⟨by rfl, ?_⟩) (by assumption) ?_
            rotate_left
            · (intro w hSw; (try dsimp only at hSw); go_simp; try with_reducible rfl)
            try simp only [Act.put, List.setIfInBounds_toArray, List.set_cons_zero, List.set_cons_succ]
            refine wpAnyH_take (i := 2) (v := ?_) (by simp only [List.getElem?_toArray, List.getElem?_cons_succ, List.getElem?_cons_zero]; rfl) (by kernel_rfl) (by kernel_rfl) (by kernel_rfl) (fun _ _ _ h => h) (Or.inl ⟨by rfl, ?_⟩) (by assumption) ?_
            rotate_left
            · (intro w hSw; (try dsimp only at hSw); go_simp; try with_reducible rfl)
            try simp only [Act.put, List.setIfInBounds_toArray, List.set_cons_zero, List.set_cons_succ]
            refine wpAnyH_take (i := 3) (v := ?_) (by simp only [List.getElem?_toArray, List.getElem?_cons_succ, List.getElem?_cons_zero]; rfl) (by kernel_rfl) (by kernel_rfl) (by kernel_rfl) (fun _ _ _ h => h) (Or.inl ⟨by rfl, ?_⟩) (by assumption) ?_
            rotate_left
            · (intro w hSw; (try dsimp only at hSw); go_simp; try with_reducible rfl)
            try simp only [Act.put, List.setIfInBounds_toArray, List.set_cons_zero, List.set_cons_succ]
            refine wpAnyH_take (i := 4) (v := ?_) (by simp only [List.getElem?_toArray, List.getElem?_cons_succ, List.getElem?_cons_zero]; rfl) (by kernel_rfl) (by kernel_rfl) (by kernel_rfl) (fun _ _ _ h => h) (Or.inl ⟨by rfl, ?_⟩) (by assumption) ?_
            rotate_left
            · (intro w hSw; (try dsimp only at hSw); go_simp; try with_reducible rfl)
            try simp only [Act.put, List.setIfInBounds_toArray, List.set_cons_zero, List.set_cons_succ]
            refine wpAnyH_take (i := 5) (v := ?_) (by simp only [List.getElem?_toArray, List.getElem?_cons_succ, List.getElem?_cons_zero]; rfl) (by kernel_rfl) (by kernel_rfl) (by kernel_rfl) (fun _ _ _ h => h) (Or.inl ⟨by rfl, ?_⟩) (by assumption) ?_
            rotate_left
            · (intro w hSw; (try dsimp only at hSw); go_simp; try with_reducible rfl)
            try simp only [Act.put, List.setIfInBounds_toArray, List.set_cons_zero, List.set_cons_succ]
            refine wpAnyH_take (i := 6) (v := ?_) (by simp only [List.getElem?_toArray, List.getElem?_cons_succ, List.getElem?_cons_zero]; rfl) (by kernel_rfl) (by kernel_rfl) (by kernel_rfl) (fun _ _ _ h => h) (Or.inl ⟨by rfl, ?_⟩) (by assumption) ?_
            rotate_left
            · (intro w hSw; (try dsimp only at hSw); go_simp; try with_reducible rfl)
            try simp only [Act.put, List.setIfInBounds_toArray, List.set_cons_zero, List.set_cons_succ]
            refine wpAnyH_take (i := 7) (v := ?_) (by simp only [List.getElem?_toArray, List.getElem?_cons_succ, List.getElem?_cons_zero]; rfl) (by kernel_rfl) (by kernel_rfl) (by kernel_rfl) (fun _ _ _ h => h) (Or.inl ⟨by rfl, ?_⟩) (by assumption) ?_
            rotate_left
            · (intro w hSw; (try dsimp only at hSw); go_simp; try with_reducible rfl)
            try simp only [Act.put, List.setIfInBounds_toArray, List.set_cons_zero, List.set_cons_succ]
            refine wpAnyH_take (i := 8) (v := ?_) (by simp only [List.getElem?_toArray, List.getElem?_cons_succ, List.getElem?_cons_zero]; rfl) (by kernel_rfl) (by kernel_rfl) (by kernel_rfl) (fun _ _ _ h => h) (Or.inl ⟨by rfl, ?_⟩) (by assumption) ?_
            rotate_left
            · (intro w hSw; (try dsimp only at hSw); go_simp; try with_reducible rfl)
            try simp only [Act.put, List.setIfInBounds_toArray, List.set_cons_zero, List.set_cons_succ]
            refine wpAnyH_done (by kernel_rfl) ?_ _
            refine NoPanic.normal ?_
            obtain ⟨c3, c4⟩ := hHeld
            have h2 := Below.drew h2
            clear c1 c2
            by_cases b4 : p < q
            · have d4 : decide ((p : Int) < (q : Int)) = true := decide_eq_true (by omega)
              have HV2 := Lib.hid (show cmpP a b = -1 by rw [HV.out, HJ.out, if_pos b4])
              clear HV
              have HV := HV2
              clear HV2
              go_wp2_with fail
              refine wp_region_noPanic ?_
              refine wp_region_held_drew (S := (fun w' => w'.cell? ⟨g1, j, none⟩ = some (.int .i64 (p : Int)) ∧ w'.cell? ⟨g2, j, none⟩ = some (.int .i64 (q : Int)))) (by kernel_rfl) (⟨c3, c4⟩) (fun hHeld => ?_)
              refine wpAnyH_take (i := 0) (v := ?_) (by simp only [List.getElem?_toArray, List.getElem?_cons_zero]; rfl) (by kernel_rfl) (by kernel_rfl) (by kernel_rfl) (fun _ _ _ h => h) (Or.inl ⟨by rfl, ?_⟩) (by assumption) ?_
              rotate_left
              · (intro w hSw; (try dsimp only at hSw); go_simp; try with_reducible rfl)
              try simp only [Act.put, List.setIfInBounds_toArray, List.set_cons_zero, List.set_cons_succ]
              refine wpAnyH_take (i := 1) (v := ?_) (by simp only [List.getElem?_toArray, List.getElem?_cons_succ, List.getElem?_cons_zero]; rfl) (by kernel_rfl) (by kernel_rfl) (by kernel_rfl) (fun _ _ _ h => h) (Or.inl ⟨by rfl, ?_⟩) (by assumption) ?_
              rotate_left
              · (intro w hSw; (try dsimp only at hSw); go_simp; try with_reducible rfl)
              try simp only [Act.put, List.setIfInBounds_toArray, List.set_cons_zero, List.set_cons_succ]
              refine wpAnyH_take (i := 2) (v := ?_) (by simp only [List.getElem?_toArray, List.getElem?_cons_succ, List.getElem?_cons_zero]; rfl) (by kernel_rfl) (by kernel_rfl) (by kernel_rfl) (fun _ _ _ h => h) (Or.inl ⟨by rfl, ?_⟩) (by assumption) ?_
              rotate_left
              · (intro w hSw; (try dsimp only at hSw); go_simp; try with_reducible rfl)
              try simp only [Act.put, List.setIfInBounds_toArray, List.set_cons_zero, List.set_cons_succ]
              refine wpAnyH_take (i := 3) (v := ?_) (by simp only [List.getElem?_toArray, List.getElem?_cons_succ, List.getElem?_cons_zero]; rfl) (by kernel_rfl) (by kernel_rfl) (by kernel_rfl) (fun _ _ _ h => h) (Or.inl ⟨by rfl, ?_⟩) (by assumption) ?_
              rotate_left
              · (intro w hSw; (try dsimp only at hSw); go_simp; try with_reducible rfl)
              try simp only [Act.put, List.setIfInBounds_toArray, List.set_cons_zero, List.set_cons_succ]
              refine wpAnyH_take (i := 4) (v := ?_) (by simp only [List.getElem?_toArray, List.getElem?_cons_succ, List.getElem?_cons_zero]; rfl) (by kernel_rfl) (by kernel_rfl) (by kernel_rfl) (fun _ _ _ h => h) (Or.inl ⟨by rfl, ?_⟩) (by assumption) ?_
              rotate_left
              · (intro w hSw; (try dsimp only at hSw); go_simp; try with_reducible rfl)
              try simp only [Act.put, List.setIfInBounds_toArray, List.set_cons_zero, List.set_cons_succ]
              refine wpAnyH_take (i := 5) (v := ?_) (by simp only [List.getElem?_toArray, List.getElem?_cons_succ, List.getElem?_cons_zero]; rfl) (by kernel_rfl) (by kernel_rfl) (by kernel_rfl) (fun _ _ _ h => h) (Or.inl ⟨by rfl, ?_⟩) (by assumption) ?_
              rotate_left
              · (intro w hSw; (try dsimp only at hSw); go_simp; try with_reducible rfl)
              try simp only [Act.put, List.setIfInBounds_toArray, List.set_cons_zero, List.set_cons_succ]
              refine wpAnyH_take (i := 6) (v := ?_) (by simp only [List.getElem?_toArray, List.getElem?_cons_succ, List.getElem?_cons_zero]; rfl) (by kernel_rfl) (by kernel_rfl) (by kernel_rfl) (fun _ _ _ h => h) (Or.inl ⟨by rfl, ?_⟩) (by assumption) ?_
              rotate_left
              · (intro w hSw; (try dsimp only at hSw); go_simp; try with_reducible rfl)
              try simp only [Act.put, List.setIfInBounds_toArray, List.set_cons_zero, List.set_cons_succ]
              refine wpAnyH_take (i := 7) (v := ?_) (by simp only [List.getElem?_toArray, List.getElem?_cons_succ, List.getElem?_cons_zero]; rfl) (by kernel_rfl) (by kernel_rfl) (by kernel_rfl) (fun _ _ _ h => h) (Or.inl ⟨by rfl, ?_⟩) (by assumption) ?_
              rotate_left
              · (intro w hSw; (try dsimp only at hSw); go_simp; try with_reducible rfl)
              try simp only [Act.put, List.setIfInBounds_toArray, List.set_cons_zero, List.set_cons_succ]
              refine wpAnyH_take (i := 8) (v := ?_) (by simp only [List.getElem?_toArray, List.getElem?_cons_succ, List.getElem?_cons_zero]; rfl) (by kernel_rfl) (by kernel_rfl) (by kernel_rfl) (fun _ _ _ h => h) (Or.inl ⟨by rfl, ?_⟩) (by assumption) ?_
              rotate_left
              · (intro w hSw; (try dsimp only at hSw); go_simp; try with_reducible rfl)
              try simp only [Act.put, List.setIfInBounds_toArray, List.set_cons_zero, List.set_cons_succ]
              refine wpAnyH_ready (rs := [9]) (by kernel_rfl) (by simp) ?_
              refine AllReadyH.cons (by simp only [List.getElem?_toArray, List.getElem?_cons_succ, List.getElem?_cons_zero]; rfl) (fun K hK => ?_) AllReadyH.nil
              go_simp
              go_at_call 34
              refine (O.out true false _).mono ?_
              rintro e v1 ⟨rfl, k1⟩
              have h1 := bstep (w := w) (by first | exact h2 | exact Below.drew h2) k1
              go_wp2_with fail
              refine hK.out _ _ (⟨keepC hHeld.1 k1, keepC hHeld.2 k1⟩) (fun hHeld => ?_)
              clear hK K
              try simp only [Act.put, List.setIfInBounds_toArray, List.set_cons_zero, List.set_cons_succ]
              refine wpAnyH_take (i := 10) (v := ?_) (by simp only [List.getElem?_toArray, List.getElem?_cons_succ, List.getElem?_cons_zero]; rfl) (by kernel_rfl) (by kernel_rfl) (by kernel_rfl) (fun _ _ _ h => h) (Or.inl ⟨by rfl, ?_⟩) (by assumption) ?_
              rotate_left
              · (intro w hSw; (try dsimp only at hSw); go_simp; try with_reducible rfl)
              try simp only [Act.put, List.setIfInBounds_toArray, List.set_cons_zero, List.set_cons_succ]
              refine wpAnyH_done (by kernel_rfl) ?_ _
              refine NoPanic.normal ?_
              go_wp2
              go_ret
              exact ⟨by rw [HV.out]; rfl, h1⟩
            · have d4 : decide ((p : Int) < (q : Int)) = false := decide_eq_false (by omega)
              have HV2 := Lib.hid (show cmpP a b = 1 by rw [HV.out, HJ.out, if_neg b4, if_pos (by omega)])
              clear HV
              have HV := HV2
              clear HV2
              go_wp2_with fail
              refine wp_region_noPanic ?_
              refine wp_region_held_drew (S := (fun w' => w'.cell? ⟨g1, j, none⟩ = some (.int .i64 (p : Int)) ∧ w'.cell? ⟨g2, j, none⟩ = some (.int .i64 (q : Int)))) (by kernel_rfl) (⟨c3, c4⟩) (fun hHeld => ?_)
              refine wpAnyH_take (i := 0) (v := ?_) (by simp only [List.getElem?_toArray, List.getElem?_cons_zero]; rfl) (by kernel_rfl) (by kernel_rfl) (by kernel_rfl) (fun _ _ _ h => h) (Or.inl ⟨by rfl, ?_⟩) (by assumption) ?_
              rotate_left
              · (intro w hSw; (try dsimp only at hSw); go_simp; try with_reducible rfl)
              try simp only [Act.put, List.setIfInBounds_toArray, List.set_cons_zero, List.set_cons_succ]
              refine wpAnyH_take (i := 1) (v := ?_) (by simp only [List.getElem?_toArray, List.getElem?_cons_succ, List.getElem?_cons_zero]; rfl) (by kernel_rfl) (by kernel_rfl) (by kernel_rfl) (fun _ _ _ h => h) (Or.inl ⟨by rfl, ?_⟩) (by assumption) ?_
              rotate_left
              · (intro w hSw; (try dsimp only at hSw); go_simp; try with_reducible rfl)
              try simp only [Act.put, List.setIfInBounds_toArray, List.set_cons_zero, List.set_cons_succ]
              refine wpAnyH_take (i := 2) (v := ?_) (by simp only [List.getElem?_toArray, List.getElem?_cons_succ, List.getElem?_cons_zero]; rfl) (by kernel_rfl) (by kernel_rfl) (by kernel_rfl) (fun _ _ _ h => h) (Or.inl ⟨by rfl, ?_⟩) (by assumption) ?_
              rotate_left
              · (intro w hSw; (try dsimp only at hSw); go_simp; try with_reducible rfl)
              try simp only [Act.put, List.setIfInBounds_toArray, List.set_cons_zero, List.set_cons_succ]
              refine wpAnyH_take (i := 3) (v := ?_) (by simp only [List.getElem?_toArray, List.getElem?_cons_succ, List.getElem?_cons_zero]; rfl) (by kernel_rfl) (by kernel_rfl) (by kernel_rfl) (fun _ _ _ h => h) (Or.inl ⟨by rfl, ?_⟩) (by assumption) ?_
              rotate_left
              · (intro w hSw; (try dsimp only at hSw); go_simp; try with_reducible rfl)
              try simp only [Act.put, List.setIfInBounds_toArray, List.set_cons_zero, List.set_cons_succ]
              refine wpAnyH_take (i := 4) (v := ?_) (by simp only [List.getElem?_toArray, List.getElem?_cons_succ, List.getElem?_cons_zero]; rfl) (by kernel_rfl) (by kernel_rfl) (by kernel_rfl) (fun _ _ _ h => h) (Or.inl ⟨by rfl, ?_⟩) (by assumption) ?_
              rotate_left
              · (intro w hSw; (try dsimp only at hSw); go_simp; try with_reducible rfl)
              try simp only [Act.put, List.setIfInBounds_toArray, List.set_cons_zero, List.set_cons_succ]
              refine wpAnyH_take (i := 5) (v := ?_) (by simp only [List.getElem?_toArray, List.getElem?_cons_succ, List.getElem?_cons_zero]; rfl) (by kernel_rfl) (by kernel_rfl) (by kernel_rfl) (fun _ _ _ h => h) (Or.inl ⟨by rfl, ?_⟩) (by assumption) ?_
              rotate_left
              · (intro w hSw; (try dsimp only at hSw); go_simp; try with_reducible rfl)
              try simp only [Act.put, List.setIfInBounds_toArray, List.set_cons_zero, List.set_cons_succ]
              refine wpAnyH_take (i := 6) (v := ?_) (by simp only [List.getElem?_toArray, List.getElem?_cons_succ, List.getElem?_cons_zero]; rfl) (by kernel_rfl) (by kernel_rfl) (by kernel_rfl) (fun _ _ _ h => h) (Or.inl ⟨by rfl, ?_⟩) (by assumption) ?_
              rotate_left
              · (intro w hSw; (try dsimp only at hSw); go_simp; try with_reducible rfl)
              try simp only [Act.put, List.setIfInBounds_toArray, List.set_cons_zero, List.set_cons_succ]
              refine wpAnyH_take (i := 7) (v := ?_) (by simp only [List.getElem?_toArray, List.getElem?_cons_succ, List.getElem?_cons_zero]; rfl) (by kernel_rfl) (by kernel_rfl) (by kernel_rfl) (fun _ _ _ h => h) (Or.inl ⟨by rfl, ?_⟩) (by assumption) ?_
              rotate_left
              · (intro w hSw; (try dsimp only at hSw); go_simp; try with_reducible rfl)
              try simp only [Act.put, List.setIfInBounds_toArray, List.set_cons_zero, List.set_cons_succ]
              refine wpAnyH_take (i := 8) (v := ?_) (by simp only [List.getElem?_toArray, List.getElem?_cons_succ, List.getElem?_cons_zero]; rfl) (by kernel_rfl) (by kernel_rfl) (by kernel_rfl) (fun _ _ _ h => h) (Or.inl ⟨by rfl, ?_⟩) (by assumption) ?_
              rotate_left
              · (intro w hSw; (try dsimp only at hSw); go_simp; try with_reducible rfl)
              try simp only [Act.put, List.setIfInBounds_toArray, List.set_cons_zero, List.set_cons_succ]
              refine wpAnyH_ready (rs := [9]) (by kernel_rfl) (by simp) ?_
              refine AllReadyH.cons (by simp only [List.getElem?_toArray, List.getElem?_cons_succ, List.getElem?_cons_zero]; rfl) (fun K hK => ?_) AllReadyH.nil
              go_simp
              go_at_call 34
              refine (O.out false false _).mono ?_
              rintro e v2 ⟨rfl, k2⟩
              have h2 := bstep (w := w) (by first | exact h2 | exact Below.drew h2) k2
              go_wp2_with fail
              refine hK.out _ _ (⟨keepC hHeld.1 k2, keepC hHeld.2 k2⟩) (fun hHeld => ?_)
              clear hK K
              try simp only [Act.put, List.setIfInBounds_toArray, List.set_cons_zero, List.set_cons_succ]
              refine wpAnyH_take (i := 10) (v := ?_) (by simp only [List.getElem?_toArray, List.getElem?_cons_succ, List.getElem?_cons_zero]; rfl) (by kernel_rfl) (by kernel_rfl) (by kernel_rfl) (fun _ _ _ h => h) (Or.inl ⟨by rfl, ?_⟩) (by assumption) ?_
              rotate_left
              · (intro w hSw; (try dsimp only at hSw); go_simp; try with_reducible rfl)
              try simp only [Act.put, List.setIfInBounds_toArray, List.set_cons_zero, List.set_cons_succ]
              refine wpAnyH_done (by kernel_rfl) ?_ _
              refine NoPanic.normal ?_
              go_wp2
              go_ret
              exact ⟨by rw [HV.out]; rfl, h2⟩
        · obtain rfl : j = M := by omega
          have d2 : decide ((j : Int) < (j : Int)) = false := decide_eq_false (by omega)
          have d3 : decide (L < j) = false := decide_eq_false (by omega)
          have d5 : ((L : Int) == (j : Int)) = false := by rw [beq_eq_false_iff_ne]; omega
          have HV2 := Lib.hid (show cmpP a b = 1 by rw [HV.out, HI.out, show y.drop j = [] from List.drop_of_length_le (by omega), List.drop_eq_getElem_cons (by omega), cmpL])
          clear HV
          have HV := HV2
          clear HV2 hl hm
          go_wp2_with fail
          refine (O.out false false _).mono ?_
          rintro e w3 ⟨rfl, k3⟩
          have h3 := bstep h2 k3
          clear k3
          go_wp2
          go_ret
          exact ⟨by rw [HV.out]; rfl, h3⟩
      · obtain rfl : j = L := by omega
        have d1 : decide ((j : Int) < (j : Int)) = false := decide_eq_false (by omega)
        by_cases b2 : j < M
        ·
          have d3 : decide (j < M) = true := decide_eq_true (by omega)
          have d5 : ((j : Int) == (M : Int)) = false := by rw [beq_eq_false_iff_ne]; omega
          have HV2 := Lib.hid (show cmpP a b = -1 by rw [HV.out, HI.out, show x.drop j = [] from List.drop_of_length_le (by omega), List.drop_eq_getElem_cons (by omega), cmpL])
          clear HV
          have HV := HV2
          clear HV2 hl hm
          go_wp2_with fail
          refine (O.out true false _).mono ?_
          rintro e w3 ⟨rfl, k3⟩
          have h3 := bstep h2 k3
          clear k3
          go_wp2
          go_ret
          exact ⟨by rw [HV.out]; rfl, h3⟩
        · obtain rfl : j = M := by omega
          have d5 : ((j : Int) == (j : Int)) = true := by simp
          have HV2 := Lib.hid (show cmpP a b = 0 by rw [HV.out, HI.out, show x.drop j = [] from List.drop_of_length_le (by omega), show y.drop j = [] from List.drop_of_length_le (by omega), cmpL])
          clear HV
          have HV := HV2
          clear HV2 hl hm
          go_wp2_with fail
          refine (O.out false true _).mono ?_
          rintro e w3 ⟨rfl, k3⟩
          have h3 := bstep h2 k3
          clear k3
          go_wp2
          go_ret
          exact ⟨by rw [HV.out]; rfl, h3⟩

set_option maxRecDepth 100000 in
set_option maxHeartbeats 1000000 in
theorem lists_any (T : List (List UInt8)) (a1 a2 : Option Addr) (n c1 c2 : Nat) (w : World) (hn : n = T.length) (hn8 : n ≤ 8) (R1 : 0 < n → ∃ g, a1 = some ⟨g, 0, none⟩ ∧ Row w g T) (R2 : 0 < n → ∃ g, a2 = some ⟨g, 0, none⟩ ∧ Row w g T) :
    Calls Tryd.prog 20 #[.slice a1 n c1, .slice a2 n c2] w fun e w' => e = .returned (.bool true) ∧ Below w.heap.size w w' := by
  have HN := Lib.hid hn
  have H1 := Lib.hid R1
  have H2 := Lib.hid R2
  clear hn R1 R2
  go_enter Tryd.func20, Tryd.ntmps20
  go_wp2_with fail
  go_loopw [5] (fun iv wr => ∃ k : Nat, k ≤ n ∧ iv = .int .i64 k ∧ Below w.heap.size w wr) (fun iv _ => n - (intOf iv).toNat)
  case atStart => exact ⟨0, by omega, rfl, Below.refl _ _⟩
  case round =>
    obtain ⟨k, hk, rfl, hb⟩ := hrel
    have hn := HN.out
    by_cases hlt : k < n
    · obtain ⟨g1, rfl, r1⟩ := H1.out (by omega)
      obtain ⟨g2, rfl, r2⟩ := H2.out (by omega)
      have c1 := (r1.below hb) k (by omega)
      have c2 := (r2.below hb) k (by omega)
      obtain ⟨t, ht⟩ : ∃ t, t = T[k]'(by omega) := ⟨_, rfl⟩
      rw [← ht] at c1 c2
      clear ht hn r1 r2
      have d : decide ((k : Int) < (n : Int)) = true := decide_eq_true (by omega)
      go_wp2_with fail
      refine wp_region_noPanic ?_
      refine wp_region_held_drew (S := (fun w' => w'.cell? ⟨g1, k, none⟩ = some (.string ⟨t.toArray⟩) ∧ w'.cell? ⟨g2, k, none⟩ = some (.string ⟨t.toArray⟩))) (by kernel_rfl) (⟨c1, c2⟩) (fun hHeld => ?_)
      refine wpAnyH_take (i := 0) (v := ?_) (by simp only [List.getElem?_toArray, List.getElem?_cons_zero]; rfl) (by kernel_rfl) (by kernel_rfl) (by kernel_rfl) (fun _ _ _ h => h) (Or.inl ⟨by rfl, ?_⟩) (by assumption) ?_
      rotate_left
      · (intro w hSw; (try dsimp only at hSw); go_simp; try with_reducible rfl)
      try simp only [Act.put, List.setIfInBounds_toArray, List.set_cons_zero, List.set_cons_succ]
      refine wpAnyH_take (i := 1) (v := ?_) (by simp only [List.getElem?_toArray, List.getElem?_cons_succ, List.getElem?_cons_zero]; rfl) (by kernel_rfl) (by kernel_rfl) (by kernel_rfl) (fun _ _ _ h => h) (Or.inl ⟨by rfl, ?_⟩) (by assumption) ?_
      rotate_left
      · (intro w hSw; (try dsimp only at hSw); go_simp; try with_reducible rfl)
      try simp only [Act.put, List.setIfInBounds_toArray, List.set_cons_zero, List.set_cons_succ]
      refine wpAnyH_take (i := 2) (v := ?_) (by simp only [List.getElem?_toArray, List.getElem?_cons_succ, List.getElem?_cons_zero]; rfl) (by kernel_rfl) (by kernel_rfl) (by kernel_rfl) (fun _ _ _ h => h) (Or.inl ⟨by rfl, ?_⟩) (by assumption) ?_
      rotate_left
      · (intro w hSw; (try dsimp only at hSw); go_simp; try with_reducible rfl)
      try simp only [Act.put, List.setIfInBounds_toArray, List.set_cons_zero, List.set_cons_succ]
      refine wpAnyH_take (i := 3) (v := ?_) (by simp only [List.getElem?_toArray, List.getElem?_cons_succ, List.getElem?_cons_zero]; rfl) (by kernel_rfl) (by kernel_rfl) (by kernel_rfl) (fun _ _ _ h => h) (Or.inl ⟨by rfl, ?_⟩) (by assumption) ?_
      rotate_left
      · (intro w hSw; (try dsimp only at hSw); go_simp; try with_reducible rfl)
      try simp only [Act.put, List.setIfInBounds_toArray, List.set_cons_zero, List.set_cons_succ]
      refine wpAnyH_take (i := 4) (v := ?_) (by simp only [List.getElem?_toArray, List.getElem?_cons_succ, List.getElem?_cons_zero]; rfl) (by kernel_rfl) (by kernel_rfl) (by kernel_rfl) (fun _ _ _ h => h) (Or.inl ⟨by rfl, ?_⟩) (by assumption) ?_
      rotate_left
      · (intro w hSw; (try dsimp only at hSw); go_simp; try with_reducible rfl)
      try simp only [Act.put, List.setIfInBounds_toArray, List.set_cons_zero, List.set_cons_succ]
      refine wpAnyH_take (i := 5) (v := ?_) (by simp only [List.getElem?_toArray, List.getElem?_cons_succ, List.getElem?_cons_zero]; rfl) (by kernel_rfl) (by kernel_rfl) (by kernel_rfl) (fun _ _ _ h => h) (Or.inl ⟨by rfl, ?_⟩) (by assumption) ?_
      rotate_left
      · (intro w hSw; (try dsimp only at hSw); go_simp; try with_reducible rfl)
      try simp only [Act.put, List.setIfInBounds_toArray, List.set_cons_zero, List.set_cons_succ]
      refine wpAnyH_take (i := 6) (v := ?_) (by simp only [List.getElem?_toArray, List.getElem?_cons_succ, List.getElem?_cons_zero]; rfl) (by kernel_rfl) (by kernel_rfl) (by kernel_rfl) (fun _ _ _ h => h) (Or.inl ⟨by rfl, ?_⟩) (by assumption) ?_
      rotate_left
      · (intro w hSw; (try dsimp only at hSw); go_simp; try with_reducible rfl)
      try simp only [Act.put, List.setIfInBounds_toArray, List.set_cons_zero, List.set_cons_succ]
      refine wpAnyH_take (i := 7) (v := ?_) (by simp only [List.getElem?_toArray, List.getElem?_cons_succ, List.getElem?_cons_zero]; rfl) (by kernel_rfl) (by kernel_rfl) (by kernel_rfl) (fun _ _ _ h => h) (Or.inl ⟨by rfl, ?_⟩) (by assumption) ?_
      rotate_left
      · (intro w hSw; (try dsimp only at hSw); go_simp; try with_reducible rfl)
      try simp only [Act.put, List.setIfInBounds_toArray, List.set_cons_zero, List.set_cons_succ]
      refine wpAnyH_take (i := 8) (v := ?_) (by simp only [List.getElem?_toArray, List.getElem?_cons_succ, List.getElem?_cons_zero]; rfl) (by kernel_rfl) (by kernel_rfl) (by kernel_rfl) (fun _ _ _ h => h) (Or.inl ⟨by rfl, ?_⟩) (by assumption) ?_
      rotate_left
      · (intro w hSw; (try dsimp only at hSw); go_simp; try with_reducible rfl)
      try simp only [Act.put, List.setIfInBounds_toArray, List.set_cons_zero, List.set_cons_succ]
      refine wpAnyH_done (by kernel_rfl) ?_ _
      refine NoPanic.normal ?_
      go_wp2
      go_roundw
      case rel => exact ⟨k + 1, by omega, by go_num, Below.drew hb⟩
      case measure => simp [intOf]; omega
    · obtain rfl : k = n := by omega
      have d : decide ((k : Int) < (k : Int)) = false := decide_eq_false (by omega)
      clear hn
      go_wp2
      go_ret
      exact ⟨rfl, hb⟩

end RefPath
end Go.Proofs.YtagpbhghmhamdaaDoor
