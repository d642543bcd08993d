/- The walk of PathDeep: it answers true. -/
import Derived.Test.YtagpbhghmhamdaaDoorPathAlive
namespace Go.Proofs.YtagpbhghmhamdaaDoor.PathDeep
open Go.RowKit Go.Proofs.YtagpbhghmhamdaaDoor.Path

def Ok (p : List UInt8) (n : Int) : Prop := parse p ≠ [] ∧ (1 ≤ n ∧ n ≤ 1073741824) ∧ (parse p).length ≠ 8
theorem kid_valid {l : List Nat} (h : Valid l) {n : Int} (h1 : 1 ≤ n ∧ n ≤ 1073741824) (h8 : l.length ≠ 8) : Valid (l ++ [n.toNat]) := by
  obtain ⟨e1, e2, e3⟩ := h
  have hl : 0 < l.length := by
    rcases l with _ | ⟨x, r⟩
    · exact absurd e1 (by decide)
    · simp
  refine ⟨?_, by simp; omega, fun x hx => ?_⟩
  · rw [List.getD_eq_getElem?_getD] at e1 ⊢
    rw [List.getElem?_append_left hl]; exact e1
  · rcases List.mem_append.1 hx with h | h
    · exact e3 x h
    · simp at h; omega
theorem kid_ok {p : List UInt8} {n : Int} (h : Ok p n) : childT p n = (write (parse p ++ [n.toNat]), 0) ∧ parse (write (parse p ++ [n.toNat])) = parse p ++ [n.toNat] := by
  have hv := kid_valid (parse_valid p h.1) h.2.1 h.2.2
  refine ⟨?_, parse_write _ hv⟩
  rw [childT, if_neg h.1, if_neg (by have := h.2.1; omega), if_neg h.2.2, write_snoc _ _ h.1, write_parse p h.1]
theorem kid_no {p : List UInt8} {n : Int} (h : ¬ Ok p n) : (childT p n).2 ≠ 0 := by
  unfold childT
  split
  · decide
  rename_i h1
  split
  · decide
  rename_i h2
  split
  · decide
  rename_i h3
  exact absurd ⟨h1, by omega, h3⟩ h
theorem kid_full {p : List UInt8} {n : Int} : (childT p n).2 = 6 ↔ (parse p).length = 8 ∧ 1 ≤ n ∧ n ≤ 1073741824 := by
  unfold childT
  split
  · rename_i h; rw [h]; simp
  split
  · simp; omega
  split
  · simp; omega
  · rename_i h1 h2 h3; simp; intro e; exact absurd e h3
theorem kid_len (p : List UInt8) (n : Int) : (childT p n).1.length ≤ p.length + 11 := by
  unfold childT
  split
  · simp
  split
  · simp
  split
  · simp
  · have := digits_len 10 n.toNat (by decide) (by omega)
    simp; omega
theorem cmp_kid : ∀ (l : List Nat) (x : Nat), cmpL l (l ++ [x]) = -1
  | [], x => rfl
  | y :: l, x => by rw [List.cons_append, cmpL, if_neg (by omega), if_neg (by omega)]; exact cmp_kid l x
theorem cmp_kids : ∀ (l : List Nat) (x y : Nat), cmpL (l ++ [x]) (l ++ [y]) = if x < y then -1 else if y < x then 1 else 0
  | [], x, y => by rw [List.nil_append, List.nil_append, cmpL]; rfl
  | z :: l, x, y => by rw [List.cons_append, List.cons_append, cmpL, if_neg (by omega), if_neg (by omega)]; exact cmp_kids l x y

set_option maxRecDepth 100000 in
set_option maxHeartbeats 4000000 in
theorem walk (a0 : ByteArray) (a1 : ByteArray) (a2 : Int) (a3 : Int) (w : World) (_w0 : a0.size ≤ maxLen) (_w1 : a1.size ≤ maxLen) (_w2 : (Lit.int .i64 a2).wf = true) (_w3 : (Lit.int .i64 a3).wf = true) (ht : Tab w) :
    Calls Tryd.prog 6 #[.string a0, .string a1, .int .i64 a2, .int .i64 a3] w fun e w' => e = .returned (.bool true) ∧ Below w.heap.size w w' := by
  obtain ⟨p, rfl⟩ : ∃ p : List UInt8, a0 = ⟨p.toArray⟩ := ⟨a0.data.toList, (Str.mk_toList a0).symm⟩
  obtain ⟨q, rfl⟩ : ∃ q : List UInt8, a1 = ⟨q.toArray⟩ := ⟨a1.data.toList, (Str.mk_toList a1).symm⟩
  have hsp := Str.size_mk p
  have hsq := Str.size_mk q
  have T := Lib.hid ht
  clear ht
  have h0 := Below.refl w.heap.size w
  by_cases c0 : 1024 < p.length
  · have d : decide ((1024 : Int) < (p.length : Int)) = true := decide_eq_true (by omega)
    go_enter Tryd.func6, Tryd.ntmps6
    go_wp2_with fail
    refine (alive_any _ (T.out.below h0)).mono ?_
    rintro e v1 ⟨rfl, k1⟩
    have h1 := bstep h0 k1
    clear k1
    go_wp2
    go_ret
    exact ⟨rfl, h1⟩
  have d0 : decide ((1024 : Int) < (p.length : Int)) = false := decide_eq_false (by omega)
  by_cases c1 : 1024 < q.length
  · have d : decide ((1024 : Int) < (q.length : Int)) = true := decide_eq_true (by omega)
    go_enter Tryd.func6, Tryd.ntmps6
    go_wp2_with fail
    refine (alive_any _ (T.out.below h0)).mono ?_
    rintro e v2 ⟨rfl, k2⟩
    have h2 := bstep h0 k2
    clear k2
    go_wp2
    go_ret
    exact ⟨rfl, h2⟩
  have d1 : decide ((1024 : Int) < (q.length : Int)) = false := decide_eq_false (by omega)
  have la := kid_len p a2
  have lb := kid_len p a3
  have lc := kid_len q a2
  have CA := Lib.hid (fun w t => child_any p a2 w (by omega) t)
  have CB := Lib.hid (fun w t => child_any p a3 w (by omega) t)
  have CC := Lib.hid (fun w t => child_any q a2 w (by omega) t)
  have DP := Lib.hid (fun w => deep_any p w (by omega))
  have hl8 := parse_length p
  have hfull := kid_full (p := p) (n := a2)
  obtain ⟨d, hd⟩ : ∃ d, d = (parse p).length := ⟨_, rfl⟩
  rw [← hd] at DP hl8 hfull
  have HD := Lib.hid hd
  by_cases E : Ok p a2
  case neg =>
    have hne := kid_no E
    obtain ⟨⟨ta, ea⟩, hA⟩ : ∃ r, childT p a2 = r := ⟨_, rfl⟩
    rw [hA] at CA hne hfull
    simp only at hne hfull
    have b0 : (ea == 0) = false := by rw [beq_eq_false_iff_ne]; exact hne
    have b0n : (ea != 0) = true := by rw [bne, b0]; rfl
    have hres : ∃ r : Bool, (ea == 6) = r ∧ (((d : Int) == 8) && (decide (a2 ≥ 1) && decide (a2 ≤ 1073741824))) = r := by
      refine ⟨(ea == 6), rfl, ?_⟩
      rw [Bool.eq_iff_iff, Bool.and_eq_true, Bool.and_eq_true, beq_iff_eq, beq_iff_eq, decide_eq_true_eq, decide_eq_true_eq, hfull]; omega
    obtain ⟨r, hr1, hr2⟩ := hres
    clear hd hne hfull hA E la lb lc
    by_cases x1 : d = 8
    · have y1 : ((d : Int) == 8) = true := by rw [beq_iff_eq]; omega
      by_cases x2 : 1 ≤ a2
      · have y2 : decide (a2 ≥ 1) = true := decide_eq_true x2
        have y2' : decide (1 ≤ a2) = true := y2
        by_cases x3 : a2 ≤ 1073741824
        · have y3 : decide (a2 ≤ 1073741824) = true := decide_eq_true x3
          rw [y1, y2, y3] at hr2
          simp only [Bool.true_and] at hr2
          subst hr2
          go_enter Tryd.func6, Tryd.ntmps6
          go_wp2_with fail
          refine (CA.out _ (T.out.below h0)).mono ?_
          rintro e v3 ⟨rfl, k3⟩
          have h3 := bstep h0 k3
          clear k3
          go_wp2_with fail
          refine (CB.out _ (T.out.below h3)).mono ?_
          rintro e v4 ⟨rfl, k4⟩
          have h4 := bstep h3 k4
          clear k4
          go_wp2_with fail
          refine (CC.out _ (T.out.below h4)).mono ?_
          rintro e v5 ⟨rfl, k5⟩
          have h5 := bstep h4 k5
          clear k5
          go_wp2_with fail
          refine (DP.out _).mono ?_
          rintro e v6 ⟨rfl, k6⟩
          have h6 := bstep h5 k6
          clear k6
          go_wp2_with fail
          refine (alive_any _ (T.out.below h6)).mono ?_
          rintro e v7 ⟨rfl, k7⟩
          have h7 := bstep h6 k7
          clear k7
          go_wp2
          go_ret
          exact ⟨rfl, h7⟩
        · have y3 : decide (a2 ≤ 1073741824) = false := decide_eq_false x3
          rw [y1, y2, y3] at hr2
          simp only [Bool.true_and] at hr2
          subst hr2
          go_enter Tryd.func6, Tryd.ntmps6
          go_wp2_with fail
          refine (CA.out _ (T.out.below h0)).mono ?_
          rintro e v8 ⟨rfl, k8⟩
          have h8 := bstep h0 k8
          clear k8
          go_wp2_with fail
          refine (CB.out _ (T.out.below h8)).mono ?_
          rintro e v9 ⟨rfl, k9⟩
          have h9 := bstep h8 k9
          clear k9
          go_wp2_with fail
          refine (CC.out _ (T.out.below h9)).mono ?_
          rintro e v10 ⟨rfl, k10⟩
          have h10 := bstep h9 k10
          clear k10
          go_wp2_with fail
          refine (DP.out _).mono ?_
          rintro e v11 ⟨rfl, k11⟩
          have h11 := bstep h10 k11
          clear k11
          go_wp2_with fail
          refine (alive_any _ (T.out.below h11)).mono ?_
          rintro e v12 ⟨rfl, k12⟩
          have h12 := bstep h11 k12
          clear k12
          go_wp2
          go_ret
          exact ⟨rfl, h12⟩
      · have y2 : decide (a2 ≥ 1) = false := decide_eq_false x2
        have y2' : decide (1 ≤ a2) = false := y2
        rw [y1, y2] at hr2
        simp only [Bool.false_and, Bool.and_false] at hr2
        subst hr2
        go_enter Tryd.func6, Tryd.ntmps6
        go_wp2_with fail
        refine (CA.out _ (T.out.below h0)).mono ?_
        rintro e v13 ⟨rfl, k13⟩
        have h13 := bstep h0 k13
        clear k13
        go_wp2_with fail
        refine (CB.out _ (T.out.below h13)).mono ?_
        rintro e v14 ⟨rfl, k14⟩
        have h14 := bstep h13 k14
        clear k14
        go_wp2_with fail
        refine (CC.out _ (T.out.below h14)).mono ?_
        rintro e v15 ⟨rfl, k15⟩
        have h15 := bstep h14 k15
        clear k15
        go_wp2_with fail
        refine (DP.out _).mono ?_
        rintro e v16 ⟨rfl, k16⟩
        have h16 := bstep h15 k16
        clear k16
        go_wp2_with fail
        refine (alive_any _ (T.out.below h16)).mono ?_
        rintro e v17 ⟨rfl, k17⟩
        have h17 := bstep h16 k17
        clear k17
        go_wp2
        go_ret
        exact ⟨rfl, h17⟩
    · have y1 : ((d : Int) == 8) = false := by rw [beq_eq_false_iff_ne]; omega
      rw [y1] at hr2
      simp only [Bool.false_and] at hr2
      subst hr2
      go_enter Tryd.func6, Tryd.ntmps6
      go_wp2_with fail
      refine (CA.out _ (T.out.below h0)).mono ?_
      rintro e v18 ⟨rfl, k18⟩
      have h18 := bstep h0 k18
      clear k18
      go_wp2_with fail
      refine (CB.out _ (T.out.below h18)).mono ?_
      rintro e v19 ⟨rfl, k19⟩
      have h19 := bstep h18 k19
      clear k19
      go_wp2_with fail
      refine (CC.out _ (T.out.below h19)).mono ?_
      rintro e v20 ⟨rfl, k20⟩
      have h20 := bstep h19 k20
      clear k20
      go_wp2_with fail
      refine (DP.out _).mono ?_
      rintro e v21 ⟨rfl, k21⟩
      have h21 := bstep h20 k21
      clear k21
      go_wp2_with fail
      refine (alive_any _ (T.out.below h21)).mono ?_
      rintro e v22 ⟨rfl, k22⟩
      have h22 := bstep h21 k22
      clear k22
      go_wp2
      go_ret
      exact ⟨rfl, h22⟩
  case pos =>
    obtain ⟨hA, hpA⟩ := kid_ok E
    obtain ⟨ta, hta⟩ : ∃ A, A = write (parse p ++ [a2.toNat]) := ⟨_, rfl⟩
    rw [← hta] at hA hpA
    rw [hA] at CA la
    simp only at CA la
    have hd8 : d ≠ 8 := by rw [hd]; exact E.2.2
    have l1 : (parse ta).length = d + 1 := by rw [hpA, List.length_append, hd]; rfl
    have DA := Lib.hid (fun w => deep_any ta w (by omega))
    rw [l1] at DA
    have PA := Lib.hid (fun w => compare_any p ta w (by omega) (by omega))
    rw [show cmpP p ta = -1 by rw [cmpP, if_neg E.1, if_neg (by rw [hpA]; simp), hpA]; exact cmp_kid _ _] at PA
    obtain ⟨⟨tb, eb⟩, hB⟩ : ∃ r, childT p a3 = r := ⟨_, rfl⟩
    rw [hB] at CB lb
    obtain ⟨⟨tc, ec⟩, hC⟩ : ∃ r, childT q a2 = r := ⟨_, rfl⟩
    rw [hC] at CC lc
    simp only at CB CC lb lc
    have y1 : (((d + 1 : Nat) : Int) != ((d : Int) + 1)) = false := by rw [bne_eq_false_iff_eq]; omega
    have y1' : (((d + 1 : Nat) : Int) == ((d : Int) + 1)) = true := by rw [beq_iff_eq]; omega
    have y2 : decide ((8 : Int) < ((d + 1 : Nat) : Int)) = false := decide_eq_false (by omega)
    have y3 : ((d : Int) == 8) = false := by rw [beq_eq_false_iff_ne]; omega
    have hG : (ec = 0 ∧ ((ta = tc ∧ p = q) ∨ (ta ≠ tc ∧ p ≠ q))) ∨ ec ≠ 0 := by
      by_cases G : Ok q a2
      · refine Or.inl ?_
        obtain ⟨hC', hpC⟩ := kid_ok G
        rw [hC] at hC'
        obtain ⟨rfl, rfl⟩ := Prod.mk.inj hC'
        refine ⟨rfl, ?_⟩
        by_cases e : p = q
        · refine Or.inl ⟨?_, e⟩
          rw [hta, e]
        · refine Or.inr ⟨fun h => e ?_, e⟩
          have h2 : parse p ++ [a2.toNat] = parse q ++ [a2.toNat] := by rw [← hpC, ← h, hpA]
          exact parse_inj E.1 (List.append_cancel_right h2)
      · have := kid_no G; rw [hC] at this; exact Or.inr this
    have hF : (eb = 0 ∧ ((ta = tb ∧ a2 = a3 ∧ cmpP ta tb = 0) ∨ (ta ≠ tb ∧ a2 ≠ a3 ∧ a2 < a3 ∧ cmpP ta tb = -1) ∨ (ta ≠ tb ∧ a2 ≠ a3 ∧ ¬ a2 < a3 ∧ cmpP ta tb = 1))) ∨ eb ≠ 0 := by
      by_cases F : Ok p a3
      · refine Or.inl ?_
        obtain ⟨hB', hpB⟩ := kid_ok F
        rw [hB] at hB'
        obtain ⟨rfl, rfl⟩ := Prod.mk.inj hB'
        have e1 := E.2.1
        have e2 := F.2.1
        refine ⟨rfl, ?_⟩
        rw [cmpP, hpA, hpB, if_neg (by simp), if_neg (by simp), cmp_kids]
        by_cases e : a2 = a3
        · exact Or.inl ⟨by rw [hta, e], e, by rw [if_neg (by omega), if_neg (by omega)]⟩
        · refine Or.inr ?_
          have ne : ta ≠ write (parse p ++ [a3.toNat]) := fun h => by
            have h2 : parse p ++ [a2.toNat] = parse p ++ [a3.toNat] := by rw [← hpB, ← h, hpA]
            have h3 := List.append_cancel_left h2
            have h4 : a2.toNat = a3.toNat := by simpa using h3
            omega
          by_cases l : a2 < a3
          · exact Or.inl ⟨ne, e, l, by rw [if_pos (by omega)]⟩
          · exact Or.inr ⟨ne, e, l, by rw [if_neg (by omega), if_pos (by omega)]⟩
      · have := kid_no F; rw [hB] at this; exact Or.inr this
    have PB := Lib.hid (fun w => compare_any ta tb w (by omega) (by omega))
    obtain ⟨x, hx⟩ : ∃ x, cmpP ta tb = x := ⟨_, rfl⟩
    rw [hx] at PB hF
    clear hd hfull hA E la lb lc hx hB hC hpA hta l1
    go_enter Tryd.func6, Tryd.ntmps6
    go_wp2_with fail
    refine (CA.out _ (T.out.below h0)).mono ?_
    rintro e v23 ⟨rfl, k23⟩
    have h23 := bstep h0 k23
    clear k23
    go_wp2_with fail
    refine (CB.out _ (T.out.below h23)).mono ?_
    rintro e v24 ⟨rfl, k24⟩
    have h24 := bstep h23 k24
    clear k24
    go_wp2_with fail
    refine (CC.out _ (T.out.below h24)).mono ?_
    rintro e v25 ⟨rfl, k25⟩
    have h25 := bstep h24 k25
    clear k25
    go_wp2_with fail
    refine (DA.out _).mono ?_
    rintro e v26 ⟨rfl, k26⟩
    have h26 := bstep h25 k26
    clear k26
    go_wp2_with fail
    refine (DP.out _).mono ?_
    rintro e v27 ⟨rfl, k27⟩
    have h27 := bstep h26 k27
    clear k27
    go_wp2_with fail
    refine (DA.out _).mono ?_
    rintro e v28 ⟨rfl, k28⟩
    have h28 := bstep h27 k28
    clear k28
    go_wp2_with fail
    refine (PA.out _).mono ?_
    rintro e v29 ⟨rfl, k29⟩
    have h29 := bstep h28 k29
    clear k29
    go_wp2_with fail
    refine (DP.out _).mono ?_
    rintro e v30 ⟨rfl, k30⟩
    have h30 := bstep h29 k30
    clear k30
    rcases hF with ⟨rfl, ⟨rfl, rfl, rfl⟩ | ⟨u3, u4, u5, rfl⟩ | ⟨u3, u4, u5, rfl⟩⟩ | hF
    ·
      go_wp2_with fail
      refine (PB.out _).mono ?_
      rintro e v31 ⟨rfl, k31⟩
      have h31 := bstep h30 k31
      clear k31
      rcases hG with ⟨rfl, ⟨rfl, rfl⟩ | ⟨u1, u2⟩⟩ | hG
      ·
        go_wp2_with fail
        refine (alive_any _ (T.out.below h31)).mono ?_
        rintro e v32 ⟨rfl, k32⟩
        have h32 := bstep h31 k32
        clear k32
        go_wp2
        go_ret
        exact ⟨rfl, h32⟩
      · have v1 : (ta == tc) = false := by rw [beq_eq_false_iff_ne]; exact u1
        have v2 : (p == q) = false := by rw [beq_eq_false_iff_ne]; exact u2
        go_wp2_with fail
        refine (alive_any _ (T.out.below h31)).mono ?_
        rintro e v33 ⟨rfl, k33⟩
        have h33 := bstep h31 k33
        clear k33
        go_wp2
        go_ret
        exact ⟨rfl, h33⟩
      · have g1 : (ec != 0) = true := by rw [bne_iff_ne]; exact hG
        go_wp2_with fail
        refine (alive_any _ (T.out.below h31)).mono ?_
        rintro e v34 ⟨rfl, k34⟩
        have h34 := bstep h31 k34
        clear k34
        go_wp2
        go_ret
        exact ⟨rfl, h34⟩
    ·
      have v3 : (ta == tb) = false := by rw [beq_eq_false_iff_ne]; exact u3
      have v4 : (a2 == a3) = false := by rw [beq_eq_false_iff_ne]; exact u4
      have v5 : decide (a2 < a3) = true := decide_eq_true u5
      go_wp2_with fail
      refine (PB.out _).mono ?_
      rintro e v35 ⟨rfl, k35⟩
      have h35 := bstep h30 k35
      clear k35
      rcases hG with ⟨rfl, ⟨rfl, rfl⟩ | ⟨u1, u2⟩⟩ | hG
      ·
        go_wp2_with fail
        refine (alive_any _ (T.out.below h35)).mono ?_
        rintro e v36 ⟨rfl, k36⟩
        have h36 := bstep h35 k36
        clear k36
        go_wp2
        go_ret
        exact ⟨rfl, h36⟩
      · have v1 : (ta == tc) = false := by rw [beq_eq_false_iff_ne]; exact u1
        have v2 : (p == q) = false := by rw [beq_eq_false_iff_ne]; exact u2
        go_wp2_with fail
        refine (alive_any _ (T.out.below h35)).mono ?_
        rintro e v37 ⟨rfl, k37⟩
        have h37 := bstep h35 k37
        clear k37
        go_wp2
        go_ret
        exact ⟨rfl, h37⟩
      · have g1 : (ec != 0) = true := by rw [bne_iff_ne]; exact hG
        go_wp2_with fail
        refine (alive_any _ (T.out.below h35)).mono ?_
        rintro e v38 ⟨rfl, k38⟩
        have h38 := bstep h35 k38
        clear k38
        go_wp2
        go_ret
        exact ⟨rfl, h38⟩
    ·
      have v3 : (ta == tb) = false := by rw [beq_eq_false_iff_ne]; exact u3
      have v4 : (a2 == a3) = false := by rw [beq_eq_false_iff_ne]; exact u4
      have v5 : decide (a2 < a3) = false := decide_eq_false (by omega)
      go_wp2_with fail
      refine (PB.out _).mono ?_
      rintro e v39 ⟨rfl, k39⟩
      have h39 := bstep h30 k39
      clear k39
      rcases hG with ⟨rfl, ⟨rfl, rfl⟩ | ⟨u1, u2⟩⟩ | hG
      ·
        go_wp2_with fail
        refine (alive_any _ (T.out.below h39)).mono ?_
        rintro e v40 ⟨rfl, k40⟩
        have h40 := bstep h39 k40
        clear k40
        go_wp2
        go_ret
        exact ⟨rfl, h40⟩
      · have v1 : (ta == tc) = false := by rw [beq_eq_false_iff_ne]; exact u1
        have v2 : (p == q) = false := by rw [beq_eq_false_iff_ne]; exact u2
        go_wp2_with fail
        refine (alive_any _ (T.out.below h39)).mono ?_
        rintro e v41 ⟨rfl, k41⟩
        have h41 := bstep h39 k41
        clear k41
        go_wp2
        go_ret
        exact ⟨rfl, h41⟩
      · have g1 : (ec != 0) = true := by rw [bne_iff_ne]; exact hG
        go_wp2_with fail
        refine (alive_any _ (T.out.below h39)).mono ?_
        rintro e v42 ⟨rfl, k42⟩
        have h42 := bstep h39 k42
        clear k42
        go_wp2
        go_ret
        exact ⟨rfl, h42⟩
    · have f1 : (eb == 0) = false := by rw [beq_eq_false_iff_ne]; exact hF
      rcases hG with ⟨rfl, ⟨rfl, rfl⟩ | ⟨u1, u2⟩⟩ | hG
      ·
        go_wp2_with fail
        refine (alive_any _ (T.out.below h30)).mono ?_
        rintro e v43 ⟨rfl, k43⟩
        have h43 := bstep h30 k43
        clear k43
        go_wp2
        go_ret
        exact ⟨rfl, h43⟩
      · have v1 : (ta == tc) = false := by rw [beq_eq_false_iff_ne]; exact u1
        have v2 : (p == q) = false := by rw [beq_eq_false_iff_ne]; exact u2
        go_wp2_with fail
        refine (alive_any _ (T.out.below h30)).mono ?_
        rintro e v44 ⟨rfl, k44⟩
        have h44 := bstep h30 k44
        clear k44
        go_wp2
        go_ret
        exact ⟨rfl, h44⟩
      · have g1 : (ec != 0) = true := by rw [bne_iff_ne]; exact hG
        go_wp2_with fail
        refine (alive_any _ (T.out.below h30)).mono ?_
        rintro e v45 ⟨rfl, k45⟩
        have h45 := bstep h30 k45
        clear k45
        go_wp2
        go_ret
        exact ⟨rfl, h45⟩

end Go.Proofs.YtagpbhghmhamdaaDoor.PathDeep
