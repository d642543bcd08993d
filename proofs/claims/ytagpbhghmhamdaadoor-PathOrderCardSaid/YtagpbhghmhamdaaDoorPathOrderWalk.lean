/- The walk of PathOrder: it answers true. -/
import Derived.Test.YtagpbhghmhamdaaDoorPathLaw
namespace Go.Proofs.YtagpbhghmhamdaaDoor.PathOrder
open Go.RowKit Go.Proofs.YtagpbhghmhamdaaDoor.Path

set_option maxRecDepth 100000 in
set_option maxHeartbeats 4000000 in
theorem walk (a0 : ByteArray) (a1 : ByteArray) (a2 : ByteArray) (w : World) (_w0 : a0.size ≤ maxLen) (_w1 : a1.size ≤ maxLen) (_w2 : a2.size ≤ maxLen) (ht : Tab w) :
    Calls Tryd.prog 5 #[.string a0, .string a1, .string a2] w fun e w' => e = .returned (.bool true) ∧ Below w.heap.size w w' := by
  obtain ⟨a, rfl⟩ : ∃ p : List UInt8, a0 = ⟨p.toArray⟩ := ⟨a0.data.toList, (Str.mk_toList a0).symm⟩
  obtain ⟨b, rfl⟩ : ∃ p : List UInt8, a1 = ⟨p.toArray⟩ := ⟨a1.data.toList, (Str.mk_toList a1).symm⟩
  obtain ⟨c, rfl⟩ : ∃ p : List UInt8, a2 = ⟨p.toArray⟩ := ⟨a2.data.toList, (Str.mk_toList a2).symm⟩
  have hsa := Str.size_mk a
  have hsb := Str.size_mk b
  have hsc := Str.size_mk c
  have T := Lib.hid ht
  clear ht
  have h0 := Below.refl w.heap.size w
  by_cases c0 : 1024 < a.length
  · have d : decide ((1024 : Int) < (a.length : Int)) = true := decide_eq_true (by omega)
    go_enter Tryd.func5, Tryd.ntmps5
    go_wp2_with fail
    refine (alive_any _ (T.out.below h0)).mono ?_
    rintro e v1 ⟨rfl, k1⟩
    have h1 := bstep h0 k1
    clear k1
    go_wp2
    go_ret
    exact ⟨rfl, h1⟩
  have d0 : decide ((1024 : Int) < (a.length : Int)) = false := decide_eq_false (by omega)
  by_cases c1 : 1024 < b.length
  · have d : decide ((1024 : Int) < (b.length : Int)) = true := decide_eq_true (by omega)
    go_enter Tryd.func5, Tryd.ntmps5
    go_wp2_with fail
    refine (alive_any _ (T.out.below h0)).mono ?_
    rintro e v2 ⟨rfl, k2⟩
    have h2 := bstep h0 k2
    clear k2
    go_wp2
    go_ret
    exact ⟨rfl, h2⟩
  have d1 : decide ((1024 : Int) < (b.length : Int)) = false := decide_eq_false (by omega)
  by_cases c2 : 1024 < c.length
  · have d : decide ((1024 : Int) < (c.length : Int)) = true := decide_eq_true (by omega)
    go_enter Tryd.func5, Tryd.ntmps5
    go_wp2_with fail
    refine (alive_any _ (T.out.below h0)).mono ?_
    rintro e v3 ⟨rfl, k3⟩
    have h3 := bstep h0 k3
    clear k3
    go_wp2
    go_ret
    exact ⟨rfl, h3⟩
  have d2 : decide ((1024 : Int) < (c.length : Int)) = false := decide_eq_false (by omega)
  have CAB := Lib.hid (fun w => compare_any a b w (by omega) (by omega))
  have CBA := Lib.hid (fun w => compare_any b a w (by omega) (by omega))
  have CBC := Lib.hid (fun w => compare_any b c w (by omega) (by omega))
  have CAC := Lib.hid (fun w => compare_any a c w (by omega) (by omega))
  have UBA := Lib.hid (fun w => under_any b a w (by omega) (by omega))
  have UCA := Lib.hid (fun w => under_any c a w (by omega) (by omega))
  have hx := cmpP_ways a b
  have hz := cmpP_ways b c
  have ht := cmpP_ways a c
  have hf := cmpP_flip b a
  have hi := cmpP_zero a b
  have htr := cmpP_trans a b c
  have hu := @cmpP_under a b
  have hv := @under_mid a b c
  obtain ⟨x, ex⟩ : ∃ x, cmpP a b = x := ⟨_, rfl⟩
  obtain ⟨y, ey⟩ : ∃ x, cmpP b a = x := ⟨_, rfl⟩
  obtain ⟨z, ez⟩ : ∃ x, cmpP b c = x := ⟨_, rfl⟩
  obtain ⟨t, et⟩ : ∃ x, cmpP a c = x := ⟨_, rfl⟩
  obtain ⟨u, eu⟩ : ∃ x, under (parse b) (parse a) = x := ⟨_, rfl⟩
  obtain ⟨v, ev⟩ : ∃ x, under (parse c) (parse a) = x := ⟨_, rfl⟩
  rw [ex] at CAB hx hf hi htr hu hv
  rw [ey] at CBA hf
  rw [ez] at CBC hz htr hv
  rw [et] at CAC ht htr
  rw [eu] at UBA hu hv
  rw [ev] at UCA hv
  rcases hx with rfl | rfl | rfl
  ·
    have hn : (a == b) = false := by rw [beq_eq_false_iff_ne]; intro e; rw [e, cmpP_self] at ex; cases ex
    clear hi hu
    rcases hz with rfl | rfl | rfl
    ·
      have ht' := htr (by decide) (by decide)
      rcases ht with rfl | rfl | rfl
      ·
        clear ht' htr
        have hv2 : v = true → u = true := fun e => hv e (by decide) (by decide)
        clear hv ex ey ez et eu ev
        cases u with
        | false =>
          cases v with
          | true => exact absurd (hv2 rfl) (by decide)
          | false =>
            clear hv2
            subst hf
            go_enter Tryd.func5, Tryd.ntmps5
            go_wp2_with fail
            refine (CAB.out _).mono ?_
            rintro e v4 ⟨rfl, k4⟩
            have h4 := bstep h0 k4
            clear k4
            go_wp2_with fail
            refine (CBA.out _).mono ?_
            rintro e v5 ⟨rfl, k5⟩
            have h5 := bstep h4 k5
            clear k5
            go_wp2_with fail
            refine (CBC.out _).mono ?_
            rintro e v6 ⟨rfl, k6⟩
            have h6 := bstep h5 k6
            clear k6
            go_wp2_with fail
            refine (CAC.out _).mono ?_
            rintro e v7 ⟨rfl, k7⟩
            have h7 := bstep h6 k7
            clear k7
            go_wp2_with fail
            refine (UBA.out _).mono ?_
            rintro e v8 ⟨rfl, k8⟩
            have h8 := bstep h7 k8
            clear k8
            go_wp2_with fail
            refine (UCA.out _).mono ?_
            rintro e v9 ⟨rfl, k9⟩
            have h9 := bstep h8 k9
            clear k9
            go_wp2_with fail
            refine (alive_any _ (T.out.below h9)).mono ?_
            rintro e v10 ⟨rfl, k10⟩
            have h10 := bstep h9 k10
            clear k10
            go_wp2
            go_ret
            exact ⟨rfl, h10⟩
        | true =>
          clear hv2
          subst hf
          go_enter Tryd.func5, Tryd.ntmps5
          go_wp2_with fail
          refine (CAB.out _).mono ?_
          rintro e v11 ⟨rfl, k11⟩
          have h11 := bstep h0 k11
          clear k11
          go_wp2_with fail
          refine (CBA.out _).mono ?_
          rintro e v12 ⟨rfl, k12⟩
          have h12 := bstep h11 k12
          clear k12
          go_wp2_with fail
          refine (CBC.out _).mono ?_
          rintro e v13 ⟨rfl, k13⟩
          have h13 := bstep h12 k13
          clear k13
          go_wp2_with fail
          refine (CAC.out _).mono ?_
          rintro e v14 ⟨rfl, k14⟩
          have h14 := bstep h13 k14
          clear k14
          go_wp2_with fail
          refine (UBA.out _).mono ?_
          rintro e v15 ⟨rfl, k15⟩
          have h15 := bstep h14 k15
          clear k15
          go_wp2_with fail
          refine (UCA.out _).mono ?_
          rintro e v16 ⟨rfl, k16⟩
          have h16 := bstep h15 k16
          clear k16
          cases v with
          | false =>
            go_wp2_with fail
            refine (alive_any _ (T.out.below h16)).mono ?_
            rintro e v17 ⟨rfl, k17⟩
            have h17 := bstep h16 k17
            clear k17
            go_wp2
            go_ret
            exact ⟨rfl, h17⟩
          | true =>
            go_wp2_with fail
            refine (CBC.out _).mono ?_
            rintro e v18 ⟨rfl, k18⟩
            have h18 := bstep h16 k18
            clear k18
            go_wp2_with fail
            refine (UBA.out _).mono ?_
            rintro e v19 ⟨rfl, k19⟩
            have h19 := bstep h18 k19
            clear k19
            go_wp2_with fail
            refine (alive_any _ (T.out.below h19)).mono ?_
            rintro e v20 ⟨rfl, k20⟩
            have h20 := bstep h19 k20
            clear k20
            go_wp2
            go_ret
            exact ⟨rfl, h20⟩
      ·
        clear ht' htr
        have hv2 : v = true → u = true := fun e => hv e (by decide) (by decide)
        clear hv ex ey ez et eu ev
        cases u with
        | false =>
          cases v with
          | true => exact absurd (hv2 rfl) (by decide)
          | false =>
            clear hv2
            subst hf
            go_enter Tryd.func5, Tryd.ntmps5
            go_wp2_with fail
            refine (CAB.out _).mono ?_
            rintro e v21 ⟨rfl, k21⟩
            have h21 := bstep h0 k21
            clear k21
            go_wp2_with fail
            refine (CBA.out _).mono ?_
            rintro e v22 ⟨rfl, k22⟩
            have h22 := bstep h21 k22
            clear k22
            go_wp2_with fail
            refine (CBC.out _).mono ?_
            rintro e v23 ⟨rfl, k23⟩
            have h23 := bstep h22 k23
            clear k23
            go_wp2_with fail
            refine (CAC.out _).mono ?_
            rintro e v24 ⟨rfl, k24⟩
            have h24 := bstep h23 k24
            clear k24
            go_wp2_with fail
            refine (UBA.out _).mono ?_
            rintro e v25 ⟨rfl, k25⟩
            have h25 := bstep h24 k25
            clear k25
            go_wp2_with fail
            refine (UCA.out _).mono ?_
            rintro e v26 ⟨rfl, k26⟩
            have h26 := bstep h25 k26
            clear k26
            go_wp2_with fail
            refine (alive_any _ (T.out.below h26)).mono ?_
            rintro e v27 ⟨rfl, k27⟩
            have h27 := bstep h26 k27
            clear k27
            go_wp2
            go_ret
            exact ⟨rfl, h27⟩
        | true =>
          clear hv2
          subst hf
          go_enter Tryd.func5, Tryd.ntmps5
          go_wp2_with fail
          refine (CAB.out _).mono ?_
          rintro e v28 ⟨rfl, k28⟩
          have h28 := bstep h0 k28
          clear k28
          go_wp2_with fail
          refine (CBA.out _).mono ?_
          rintro e v29 ⟨rfl, k29⟩
          have h29 := bstep h28 k29
          clear k29
          go_wp2_with fail
          refine (CBC.out _).mono ?_
          rintro e v30 ⟨rfl, k30⟩
          have h30 := bstep h29 k30
          clear k30
          go_wp2_with fail
          refine (CAC.out _).mono ?_
          rintro e v31 ⟨rfl, k31⟩
          have h31 := bstep h30 k31
          clear k31
          go_wp2_with fail
          refine (UBA.out _).mono ?_
          rintro e v32 ⟨rfl, k32⟩
          have h32 := bstep h31 k32
          clear k32
          go_wp2_with fail
          refine (UCA.out _).mono ?_
          rintro e v33 ⟨rfl, k33⟩
          have h33 := bstep h32 k33
          clear k33
          cases v with
          | false =>
            go_wp2_with fail
            refine (alive_any _ (T.out.below h33)).mono ?_
            rintro e v34 ⟨rfl, k34⟩
            have h34 := bstep h33 k34
            clear k34
            go_wp2
            go_ret
            exact ⟨rfl, h34⟩
          | true =>
            go_wp2_with fail
            refine (CBC.out _).mono ?_
            rintro e v35 ⟨rfl, k35⟩
            have h35 := bstep h33 k35
            clear k35
            go_wp2_with fail
            refine (UBA.out _).mono ?_
            rintro e v36 ⟨rfl, k36⟩
            have h36 := bstep h35 k36
            clear k36
            go_wp2_with fail
            refine (alive_any _ (T.out.below h36)).mono ?_
            rintro e v37 ⟨rfl, k37⟩
            have h37 := bstep h36 k37
            clear k37
            go_wp2
            go_ret
            exact ⟨rfl, h37⟩
      ·
        exact absurd ht' (by decide)
    ·
      have ht' := htr (by decide) (by decide)
      rcases ht with rfl | rfl | rfl
      ·
        clear ht' htr
        clear hv ex ey ez et eu ev
        subst hf
        go_enter Tryd.func5, Tryd.ntmps5
        go_wp2_with fail
        refine (CAB.out _).mono ?_
        rintro e v38 ⟨rfl, k38⟩
        have h38 := bstep h0 k38
        clear k38
        go_wp2_with fail
        refine (CBA.out _).mono ?_
        rintro e v39 ⟨rfl, k39⟩
        have h39 := bstep h38 k39
        clear k39
        go_wp2_with fail
        refine (CBC.out _).mono ?_
        rintro e v40 ⟨rfl, k40⟩
        have h40 := bstep h39 k40
        clear k40
        go_wp2_with fail
        refine (CAC.out _).mono ?_
        rintro e v41 ⟨rfl, k41⟩
        have h41 := bstep h40 k41
        clear k41
        go_wp2_with fail
        refine (UBA.out _).mono ?_
        rintro e v42 ⟨rfl, k42⟩
        have h42 := bstep h41 k42
        clear k42
        cases u with
        | false =>
          go_wp2_with fail
          refine (UCA.out _).mono ?_
          rintro e v43 ⟨rfl, k43⟩
          have h43 := bstep h42 k43
          clear k43
          cases v with
          | false =>
            go_wp2_with fail
            refine (alive_any _ (T.out.below h43)).mono ?_
            rintro e v44 ⟨rfl, k44⟩
            have h44 := bstep h43 k44
            clear k44
            go_wp2
            go_ret
            exact ⟨rfl, h44⟩
          | true =>
            go_wp2_with fail
            refine (CBC.out _).mono ?_
            rintro e v45 ⟨rfl, k45⟩
            have h45 := bstep h43 k45
            clear k45
            go_wp2_with fail
            refine (alive_any _ (T.out.below h45)).mono ?_
            rintro e v46 ⟨rfl, k46⟩
            have h46 := bstep h45 k46
            clear k46
            go_wp2
            go_ret
            exact ⟨rfl, h46⟩
        | true =>
          go_wp2_with fail
          refine (UCA.out _).mono ?_
          rintro e v47 ⟨rfl, k47⟩
          have h47 := bstep h42 k47
          clear k47
          cases v with
          | false =>
            go_wp2_with fail
            refine (alive_any _ (T.out.below h47)).mono ?_
            rintro e v48 ⟨rfl, k48⟩
            have h48 := bstep h47 k48
            clear k48
            go_wp2
            go_ret
            exact ⟨rfl, h48⟩
          | true =>
            go_wp2_with fail
            refine (CBC.out _).mono ?_
            rintro e v49 ⟨rfl, k49⟩
            have h49 := bstep h47 k49
            clear k49
            go_wp2_with fail
            refine (alive_any _ (T.out.below h49)).mono ?_
            rintro e v50 ⟨rfl, k50⟩
            have h50 := bstep h49 k50
            clear k50
            go_wp2
            go_ret
            exact ⟨rfl, h50⟩
      ·
        clear ht' htr
        clear hv ex ey ez et eu ev
        subst hf
        go_enter Tryd.func5, Tryd.ntmps5
        go_wp2_with fail
        refine (CAB.out _).mono ?_
        rintro e v51 ⟨rfl, k51⟩
        have h51 := bstep h0 k51
        clear k51
        go_wp2_with fail
        refine (CBA.out _).mono ?_
        rintro e v52 ⟨rfl, k52⟩
        have h52 := bstep h51 k52
        clear k52
        go_wp2_with fail
        refine (CBC.out _).mono ?_
        rintro e v53 ⟨rfl, k53⟩
        have h53 := bstep h52 k53
        clear k53
        go_wp2_with fail
        refine (CAC.out _).mono ?_
        rintro e v54 ⟨rfl, k54⟩
        have h54 := bstep h53 k54
        clear k54
        go_wp2_with fail
        refine (UBA.out _).mono ?_
        rintro e v55 ⟨rfl, k55⟩
        have h55 := bstep h54 k55
        clear k55
        cases u with
        | false =>
          go_wp2_with fail
          refine (UCA.out _).mono ?_
          rintro e v56 ⟨rfl, k56⟩
          have h56 := bstep h55 k56
          clear k56
          cases v with
          | false =>
            go_wp2_with fail
            refine (alive_any _ (T.out.below h56)).mono ?_
            rintro e v57 ⟨rfl, k57⟩
            have h57 := bstep h56 k57
            clear k57
            go_wp2
            go_ret
            exact ⟨rfl, h57⟩
          | true =>
            go_wp2_with fail
            refine (CBC.out _).mono ?_
            rintro e v58 ⟨rfl, k58⟩
            have h58 := bstep h56 k58
            clear k58
            go_wp2_with fail
            refine (alive_any _ (T.out.below h58)).mono ?_
            rintro e v59 ⟨rfl, k59⟩
            have h59 := bstep h58 k59
            clear k59
            go_wp2
            go_ret
            exact ⟨rfl, h59⟩
        | true =>
          go_wp2_with fail
          refine (UCA.out _).mono ?_
          rintro e v60 ⟨rfl, k60⟩
          have h60 := bstep h55 k60
          clear k60
          cases v with
          | false =>
            go_wp2_with fail
            refine (alive_any _ (T.out.below h60)).mono ?_
            rintro e v61 ⟨rfl, k61⟩
            have h61 := bstep h60 k61
            clear k61
            go_wp2
            go_ret
            exact ⟨rfl, h61⟩
          | true =>
            go_wp2_with fail
            refine (CBC.out _).mono ?_
            rintro e v62 ⟨rfl, k62⟩
            have h62 := bstep h60 k62
            clear k62
            go_wp2_with fail
            refine (alive_any _ (T.out.below h62)).mono ?_
            rintro e v63 ⟨rfl, k63⟩
            have h63 := bstep h62 k63
            clear k63
            go_wp2
            go_ret
            exact ⟨rfl, h63⟩
      ·
        exact absurd ht' (by decide)
    ·
      clear hv htr ht ex ey ez et eu ev
      subst hf
      go_enter Tryd.func5, Tryd.ntmps5
      go_wp2_with fail
      refine (CAB.out _).mono ?_
      rintro e v64 ⟨rfl, k64⟩
      have h64 := bstep h0 k64
      clear k64
      go_wp2_with fail
      refine (CBA.out _).mono ?_
      rintro e v65 ⟨rfl, k65⟩
      have h65 := bstep h64 k65
      clear k65
      go_wp2_with fail
      refine (CBC.out _).mono ?_
      rintro e v66 ⟨rfl, k66⟩
      have h66 := bstep h65 k66
      clear k66
      go_wp2_with fail
      refine (UBA.out _).mono ?_
      rintro e v67 ⟨rfl, k67⟩
      have h67 := bstep h66 k67
      clear k67
      cases u with
      | false =>
        go_wp2_with fail
        refine (UCA.out _).mono ?_
        rintro e v68 ⟨rfl, k68⟩
        have h68 := bstep h67 k68
        clear k68
        cases v with
        | false =>
          go_wp2_with fail
          refine (alive_any _ (T.out.below h68)).mono ?_
          rintro e v69 ⟨rfl, k69⟩
          have h69 := bstep h68 k69
          clear k69
          go_wp2
          go_ret
          exact ⟨rfl, h69⟩
        | true =>
          go_wp2_with fail
          refine (CBC.out _).mono ?_
          rintro e v70 ⟨rfl, k70⟩
          have h70 := bstep h68 k70
          clear k70
          go_wp2_with fail
          refine (alive_any _ (T.out.below h70)).mono ?_
          rintro e v71 ⟨rfl, k71⟩
          have h71 := bstep h70 k71
          clear k71
          go_wp2
          go_ret
          exact ⟨rfl, h71⟩
      | true =>
        go_wp2_with fail
        refine (UCA.out _).mono ?_
        rintro e v72 ⟨rfl, k72⟩
        have h72 := bstep h67 k72
        clear k72
        cases v with
        | false =>
          go_wp2_with fail
          refine (alive_any _ (T.out.below h72)).mono ?_
          rintro e v73 ⟨rfl, k73⟩
          have h73 := bstep h72 k73
          clear k73
          go_wp2
          go_ret
          exact ⟨rfl, h73⟩
        | true =>
          go_wp2_with fail
          refine (CBC.out _).mono ?_
          rintro e v74 ⟨rfl, k74⟩
          have h74 := bstep h72 k74
          clear k74
          go_wp2_with fail
          refine (alive_any _ (T.out.below h74)).mono ?_
          rintro e v75 ⟨rfl, k75⟩
          have h75 := bstep h74 k75
          clear k75
          go_wp2
          go_ret
          exact ⟨rfl, h75⟩
  ·
    obtain rfl := hi rfl
    obtain rfl : z = t := by rw [← ez, et]
    rw [under_self] at eu
    subst eu
    clear hi hu hv htr ht ex ey ez et ev
    rcases hz with rfl | rfl | rfl
    ·
      subst hf
      go_enter Tryd.func5, Tryd.ntmps5
      go_wp2_with fail
      refine (CAB.out _).mono ?_
      rintro e v76 ⟨rfl, k76⟩
      have h76 := bstep h0 k76
      clear k76
      go_wp2_with fail
      refine (CBA.out _).mono ?_
      rintro e v77 ⟨rfl, k77⟩
      have h77 := bstep h76 k77
      clear k77
      go_wp2_with fail
      refine (CBC.out _).mono ?_
      rintro e v78 ⟨rfl, k78⟩
      have h78 := bstep h77 k78
      clear k78
      go_wp2_with fail
      refine (CAC.out _).mono ?_
      rintro e v79 ⟨rfl, k79⟩
      have h79 := bstep h78 k79
      clear k79
      go_wp2_with fail
      refine (UBA.out _).mono ?_
      rintro e v80 ⟨rfl, k80⟩
      have h80 := bstep h79 k80
      clear k80
      go_wp2_with fail
      refine (UCA.out _).mono ?_
      rintro e v81 ⟨rfl, k81⟩
      have h81 := bstep h80 k81
      clear k81
      cases v with
      | false =>
        go_wp2_with fail
        refine (alive_any _ (T.out.below h81)).mono ?_
        rintro e v82 ⟨rfl, k82⟩
        have h82 := bstep h81 k82
        clear k82
        go_wp2
        go_ret
        exact ⟨rfl, h82⟩
      | true =>
        go_wp2_with fail
        refine (alive_any _ (T.out.below h81)).mono ?_
        rintro e v83 ⟨rfl, k83⟩
        have h83 := bstep h81 k83
        clear k83
        go_wp2
        go_ret
        exact ⟨rfl, h83⟩
    ·
      subst hf
      go_enter Tryd.func5, Tryd.ntmps5
      go_wp2_with fail
      refine (CAB.out _).mono ?_
      rintro e v84 ⟨rfl, k84⟩
      have h84 := bstep h0 k84
      clear k84
      go_wp2_with fail
      refine (CBA.out _).mono ?_
      rintro e v85 ⟨rfl, k85⟩
      have h85 := bstep h84 k85
      clear k85
      go_wp2_with fail
      refine (CBC.out _).mono ?_
      rintro e v86 ⟨rfl, k86⟩
      have h86 := bstep h85 k86
      clear k86
      go_wp2_with fail
      refine (CAC.out _).mono ?_
      rintro e v87 ⟨rfl, k87⟩
      have h87 := bstep h86 k87
      clear k87
      go_wp2_with fail
      refine (UBA.out _).mono ?_
      rintro e v88 ⟨rfl, k88⟩
      have h88 := bstep h87 k88
      clear k88
      go_wp2_with fail
      refine (UCA.out _).mono ?_
      rintro e v89 ⟨rfl, k89⟩
      have h89 := bstep h88 k89
      clear k89
      cases v with
      | false =>
        go_wp2_with fail
        refine (alive_any _ (T.out.below h89)).mono ?_
        rintro e v90 ⟨rfl, k90⟩
        have h90 := bstep h89 k90
        clear k90
        go_wp2
        go_ret
        exact ⟨rfl, h90⟩
      | true =>
        go_wp2_with fail
        refine (alive_any _ (T.out.below h89)).mono ?_
        rintro e v91 ⟨rfl, k91⟩
        have h91 := bstep h89 k91
        clear k91
        go_wp2
        go_ret
        exact ⟨rfl, h91⟩
    ·
      subst hf
      go_enter Tryd.func5, Tryd.ntmps5
      go_wp2_with fail
      refine (CAB.out _).mono ?_
      rintro e v92 ⟨rfl, k92⟩
      have h92 := bstep h0 k92
      clear k92
      go_wp2_with fail
      refine (CBA.out _).mono ?_
      rintro e v93 ⟨rfl, k93⟩
      have h93 := bstep h92 k93
      clear k93
      go_wp2_with fail
      refine (CBC.out _).mono ?_
      rintro e v94 ⟨rfl, k94⟩
      have h94 := bstep h93 k94
      clear k94
      go_wp2_with fail
      refine (UBA.out _).mono ?_
      rintro e v95 ⟨rfl, k95⟩
      have h95 := bstep h94 k95
      clear k95
      go_wp2_with fail
      refine (UCA.out _).mono ?_
      rintro e v96 ⟨rfl, k96⟩
      have h96 := bstep h95 k96
      clear k96
      cases v with
      | false =>
        go_wp2_with fail
        refine (alive_any _ (T.out.below h96)).mono ?_
        rintro e v97 ⟨rfl, k97⟩
        have h97 := bstep h96 k97
        clear k97
        go_wp2
        go_ret
        exact ⟨rfl, h97⟩
      | true =>
        go_wp2_with fail
        refine (alive_any _ (T.out.below h96)).mono ?_
        rintro e v98 ⟨rfl, k98⟩
        have h98 := bstep h96 k98
        clear k98
        go_wp2
        go_ret
        exact ⟨rfl, h98⟩
  ·
    have hn : (a == b) = false := by rw [beq_eq_false_iff_ne]; intro e; rw [e, cmpP_self] at ex; cases ex
    cases u with
    | true => exact absurd (hu rfl) (by decide)
    | false =>
      clear hi hu hv htr ht hz ex ey ez et ev
      subst hf
      go_enter Tryd.func5, Tryd.ntmps5
      go_wp2_with fail
      refine (CAB.out _).mono ?_
      rintro e v99 ⟨rfl, k99⟩
      have h99 := bstep h0 k99
      clear k99
      go_wp2_with fail
      refine (CBA.out _).mono ?_
      rintro e v100 ⟨rfl, k100⟩
      have h100 := bstep h99 k100
      clear k100
      go_wp2_with fail
      refine (UBA.out _).mono ?_
      rintro e v101 ⟨rfl, k101⟩
      have h101 := bstep h100 k101
      clear k101
      go_wp2_with fail
      refine (UCA.out _).mono ?_
      rintro e v102 ⟨rfl, k102⟩
      have h102 := bstep h101 k102
      clear k102
      cases v with
      | false =>
        go_wp2_with fail
        refine (alive_any _ (T.out.below h102)).mono ?_
        rintro e v103 ⟨rfl, k103⟩
        have h103 := bstep h102 k103
        clear k103
        go_wp2
        go_ret
        exact ⟨rfl, h103⟩
      | true =>
        go_wp2_with fail
        refine (alive_any _ (T.out.below h102)).mono ?_
        rintro e v104 ⟨rfl, k104⟩
        have h104 := bstep h102 k104
        clear k104
        go_wp2
        go_ret
        exact ⟨rfl, h104⟩

end Go.Proofs.YtagpbhghmhamdaaDoor.PathOrder
