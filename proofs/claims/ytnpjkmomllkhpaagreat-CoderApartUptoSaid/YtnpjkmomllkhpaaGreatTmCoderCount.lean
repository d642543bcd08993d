/- counter.May. -/
import Derived.Test.YtnpjkmomllkhpaaGreatTake
import Derived.Test.YtnpjkmomllkhpaaGreatTmCoderList
import Derived.Test.YtnpjkmomllkhpaaGreatTmCodA
namespace Go.Proofs.YtnpjkmomllkhpaaGreat
namespace Coder
open Go.RowKit Go.Proofs.YtnpjkmomllkhpaaGreat.Mark Go.Proofs.YtnpjkmomllkhpaaGreat.Num Go.Proofs.YtnpjkmomllkhpaaGreat.Wire Go.Proofs.YtnpjkmomllkhpaaGreat.Bag Go.Proofs.YtnpjkmomllkhpaaGreat.Dots
def pC (l : List C) (k : Nat) : Option (List UInt8) := if k = 0 then none else (l[k - 1]?).map C.p
theorem pC_next {l : List C} {k : Nat} (h : k < l.length) : pC l (k + 1) = some l[k].p := by
  unfold pC
  rw [if_neg (by omega), Nat.add_sub_cancel, List.getElem?_eq_getElem h]
  rfl
theorem mayCt_step {l : List C} {k : Nat} (h : k < l.length) : mayCt (pC l k) (l.drop k) = ((!((decide (l[k].a = 0) && decide (l[k].b = 0)) || befT (pC l k) l[k].p)) && mayCt (pC l (k + 1)) (l.drop (k + 1))) := by
  rw [List.drop_eq_getElem_cons h, pC_next h]; rfl
set_option maxRecDepth 100000 in
set_option maxHeartbeats 4000000 in
theorem mayC_any (a : Option Addr) (n c : Nat) (L : List C) (w : World) (hL : Row.Lies cE w a n L) (hn : n ≤ 1048576) :
    Calls Tryz.prog 36 #[.slice a n c] w fun e w' => e = .returned (.bool (mayCt none L)) ∧ Below w.heap.size w w' := by
  have HL := Lib.hid hL
  have HN := Lib.hid hL.1
  clear hL
  obtain ⟨V, hV⟩ : ∃ V, V = mayCt none L := ⟨_, rfl⟩
  have HM : Hid (V = mayCt (pC L 0) (L.drop 0)) := Lib.hid (by rw [hV]; rfl)
  rw [← hV]
  clear hV
  have hb := Below.refl w.heap.size w
  go_enter Tryz.func36, Tryz.ntmps36
  go_wp2_with fail
  go_loopw [7] (fun iv wr => ∃ i : Nat, i ≤ n ∧ iv = .int .i64 i ∧ Hid (V = mayCt (pC L i) (L.drop i)) ∧ Below w.heap.size w wr) (fun iv _ => n - (intOf iv).toNat)
  case atStart => exact ⟨0, by omega, rfl, HM, hb⟩
  case round =>
    clear HM hb
    obtain ⟨i, hi, rfl, HM, hb⟩ := hrel
    by_cases hlt : i < n
    rotate_left
    · have e : i = n := by omega
      have HE : Hid (V = true) := Lib.hid (by rw [HM.out, List.drop_eq_nil_of_le (by have := HN.out; omega)]; rfl)
      go_wp2
      go_ret
      exact ⟨by rw [HE.out]; rfl, hb⟩
    have d1 : decide ((i : Int) < (n : Int)) = true := decide_eq_true (by omega)
    have j1 : (0 : Int) ≤ (i : Int) := by omega
    have j2 : (i : Int) < (n : Int) := by omega
    have hil : i < L.length := by have := HN.out; omega
    obtain ⟨b, o, rfl, hc⟩ := (HL.out.below hb).2 (by omega)
    have c0 : wr.cell? ⟨b, o + i * 3, none⟩ = some (.string ⟨(L[i]).p.toArray⟩) := hc i hil 0 _ rfl
    have c1 : wr.cell? ⟨b, o + i * 3 + 1, none⟩ = some (.int .u64 ((L[i]).a : Int)) := hc i hil 1 _ rfl
    have c2 : wr.cell? ⟨b, o + i * 3 + 2, none⟩ = some (.int .u64 ((L[i]).b : Int)) := hc i hil 2 _ rfl
    have hst := mayCt_step hil
    rw [← HM.out] at hst
    have HPV : Hid (∀ k', i = k' + 1 → ∃ pv, pC L i = some pv ∧ wr.cell? ⟨b, o + k' * 3, none⟩ = some (.string ⟨pv.toArray⟩)) := Lib.hid (fun k' hk => by
      subst hk
      have hkl : k' < L.length := by omega
      exact ⟨(L[k']).p, pC_next hkl, hc k' hkl 0 _ rfl⟩)
    obtain ⟨x, hx⟩ : ∃ x, x = L[i] := ⟨_, rfl⟩
    rw [← hx] at c0 c1 c2 hst
    obtain ⟨t, A, B⟩ := x
    dsimp only at c0 c1 c2 hst
    have HST := Lib.hid hst
    have HI := Lib.hid hlt
    clear hc hx hst hil hlt HM
    go_upto_region 4 with (fail)
    have kS := balloc (Below.refl wr.heap.size wr) (.cells #[.string ⟨t.toArray⟩, .int .u64 (A : Int), .int .u64 (B : Int)] 56)
    have s0 := box_cells wr #[.string ⟨t.toArray⟩, .int .u64 (A : Int), .int .u64 (B : Int)] 56 0 (.string ⟨t.toArray⟩) rfl
    have s1 := box_cells wr #[.string ⟨t.toArray⟩, .int .u64 (A : Int), .int .u64 (B : Int)] 56 1 (.int .u64 (A : Int)) rfl
    have s2 := box_cells wr #[.string ⟨t.toArray⟩, .int .u64 (A : Int), .int .u64 (B : Int)] 56 2 (.int .u64 (B : Int)) rfl
    obtain ⟨sb, hsb⟩ : ∃ b, b = wr.heap.size := ⟨_, rfl⟩
    obtain ⟨ws, hws⟩ : ∃ v, v = wr.alloc (.cells #[.string ⟨t.toArray⟩, .int .u64 (A : Int), .int .u64 (B : Int)] 56) := ⟨_, rfl⟩
    rw [← hws] at kS s0 s1 s2 ⊢
    rw [← hsb] at s0 s1 s2 ⊢
    replace HPV : Hid (∀ k', i = k' + 1 → ∃ pv, pC L i = some pv ∧ ws.cell? ⟨b, o + k' * 3, none⟩ = some (.string ⟨pv.toArray⟩)) := Lib.hid (fun k' hk => by
      obtain ⟨pv, h1, h2⟩ := HPV.out k' hk
      exact ⟨pv, h1, Dots.keepC h2 kS⟩)
    replace hb := bstep hb kS
    obtain ⟨o', ho'⟩ : ∃ o', o' = pC L i := ⟨_, rfl⟩
    rw [← ho'] at HST
    have HO' := Lib.hid ho'
    obtain ⟨bad, hbad⟩ : ∃ z, z = ((decide (A = 0) && decide (B = 0)) || befT o' t) := ⟨_, rfl⟩
    rw [← hbad] at HST
    have HBD := Lib.hid hbad
    clear kS hsb hws c0 c1 c2 ho' hbad
    go_cut [34] (fun zv wx => zv = .bool bad ∧ Below w.heap.size w wx)
    case first =>
      by_cases hA : A = 0
      · have a1 : ((A : Int) == 0) = true := by rw [beq_iff_eq]; omega
        by_cases hB : B = 0
        · have a2 : ((B : Int) == 0) = true := by rw [beq_iff_eq]; omega
          have HZ : Hid (bad = true) := Lib.hid (by rw [HBD.out, decide_eq_true hA, decide_eq_true hB]; rfl)
          clear hA hB HPV
          go_wp2_with fail
          refine wp_region_noPanic ?_
          refine wp_region_held_drew (S := (fun w' => w'.cell? ⟨sb, 0, none⟩ = some (.string ⟨t.toArray⟩) ∧ w'.cell? ⟨sb, 1, none⟩ = some (.int .u64 (A : Int)) ∧ w'.cell? ⟨sb, 2, none⟩ = some (.int .u64 (B : Int)))) (by kernel_rfl) (⟨Dots.keepC s0 (Below.drew (Below.refl _ _)), Dots.keepC s1 (Below.drew (Below.refl _ _)), Dots.keepC s2 (Below.drew (Below.refl _ _))⟩) (fun hHeld => ?_)
          refine tk 0 ?_
          try simp only [Act.put, List.setIfInBounds_toArray, List.set_cons_zero, List.set_cons_succ]
          refine tk 1 ?_
          try simp only [Act.put, List.setIfInBounds_toArray, List.set_cons_zero, List.set_cons_succ]
          refine tk 2 ?_
          try simp only [Act.put, List.setIfInBounds_toArray, List.set_cons_zero, List.set_cons_succ]
          refine tk 3 ?_
          try simp only [Act.put, List.setIfInBounds_toArray, List.set_cons_zero, List.set_cons_succ]
          refine tk 4 ?_
          try simp only [Act.put, List.setIfInBounds_toArray, List.set_cons_zero, List.set_cons_succ]
          refine tk 5 ?_
          try simp only [Act.put, List.setIfInBounds_toArray, List.set_cons_zero, List.set_cons_succ]
          refine tk 6 ?_
          try simp only [Act.put, List.setIfInBounds_toArray, List.set_cons_zero, List.set_cons_succ]
          refine tk 7 ?_
          try simp only [Act.put, List.setIfInBounds_toArray, List.set_cons_zero, List.set_cons_succ]
          refine tk 8 ?_
          try simp only [Act.put, List.setIfInBounds_toArray, List.set_cons_zero, List.set_cons_succ]
          refine tku 9 ?_
          try simp only [Act.put, List.setIfInBounds_toArray, List.set_cons_zero, List.set_cons_succ]
          refine tku 10 ?_
          try simp only [Act.put, List.setIfInBounds_toArray, List.set_cons_zero, List.set_cons_succ]
          refine tku 11 ?_
          try simp only [Act.put, List.setIfInBounds_toArray, List.set_cons_zero, List.set_cons_succ]
          refine tku 12 ?_
          try simp only [Act.put, List.setIfInBounds_toArray, List.set_cons_zero, List.set_cons_succ]
          refine tku 13 ?_
          try simp only [Act.put, List.setIfInBounds_toArray, List.set_cons_zero, List.set_cons_succ]
          refine tku 14 ?_
          try simp only [Act.put, List.setIfInBounds_toArray, List.set_cons_zero, List.set_cons_succ]
          refine tku 15 ?_
          try simp only [Act.put, List.setIfInBounds_toArray, List.set_cons_zero, List.set_cons_succ]
          refine tku 16 ?_
          try simp only [Act.put, List.setIfInBounds_toArray, List.set_cons_zero, List.set_cons_succ]
          refine tku 17 ?_
          try simp only [Act.put, List.setIfInBounds_toArray, List.set_cons_zero, List.set_cons_succ]
          refine tku 18 ?_
          try simp only [Act.put, List.setIfInBounds_toArray, List.set_cons_zero, List.set_cons_succ]
          refine tku 19 ?_
          try simp only [Act.put, List.setIfInBounds_toArray, List.set_cons_zero, List.set_cons_succ]
          refine tku 20 ?_
          try simp only [Act.put, List.setIfInBounds_toArray, List.set_cons_zero, List.set_cons_succ]
          refine tku 21 ?_
          try simp only [Act.put, List.setIfInBounds_toArray, List.set_cons_zero, List.set_cons_succ]
          refine tk 22 ?_
          try simp only [Act.put, List.setIfInBounds_toArray, List.set_cons_zero, List.set_cons_succ]
          refine wpAnyH_done (by kernel_rfl) ?_ _
          refine NoPanic.normal ?_
          clear hHeld
          go_wp2_with fail
          go_meet
          exact ⟨by rw [HZ.out], Below.drew hb⟩
        · have a2 : ((B : Int) == 0) = false := by rw [beq_eq_false_iff_ne]; omega
          have HY : Hid (bad = befT o' t) := Lib.hid (by rw [HBD.out, decide_eq_false hB, Bool.and_false, Bool.false_or])
          clear hA hB
          by_cases hi0 : i = 0
          · have z1 : decide ((0 : Int) < (i : Int)) = false := decide_eq_false (by omega); have z1n : decide (0 < i) = false := decide_eq_false (by omega)
            have HZ : Hid (bad = false) := Lib.hid (by rw [HY.out, HO'.out, hi0]; rfl)
            clear hi0 HPV
            go_wp2_with fail
            refine wp_region_noPanic ?_
            refine wp_region_held_drew (S := (fun w' => w'.cell? ⟨sb, 0, none⟩ = some (.string ⟨t.toArray⟩) ∧ w'.cell? ⟨sb, 1, none⟩ = some (.int .u64 (A : Int)) ∧ w'.cell? ⟨sb, 2, none⟩ = some (.int .u64 (B : Int)))) (by kernel_rfl) (⟨Dots.keepC s0 (Below.drew (Below.refl _ _)), Dots.keepC s1 (Below.drew (Below.refl _ _)), Dots.keepC s2 (Below.drew (Below.refl _ _))⟩) (fun hHeld => ?_)
            refine tk 0 ?_
            try simp only [Act.put, List.setIfInBounds_toArray, List.set_cons_zero, List.set_cons_succ]
            refine tk 1 ?_
            try simp only [Act.put, List.setIfInBounds_toArray, List.set_cons_zero, List.set_cons_succ]
            refine tk 2 ?_
            try simp only [Act.put, List.setIfInBounds_toArray, List.set_cons_zero, List.set_cons_succ]
            refine tk 3 ?_
            try simp only [Act.put, List.setIfInBounds_toArray, List.set_cons_zero, List.set_cons_succ]
            refine tk 4 ?_
            try simp only [Act.put, List.setIfInBounds_toArray, List.set_cons_zero, List.set_cons_succ]
            refine tk 5 ?_
            try simp only [Act.put, List.setIfInBounds_toArray, List.set_cons_zero, List.set_cons_succ]
            refine tk 6 ?_
            try simp only [Act.put, List.setIfInBounds_toArray, List.set_cons_zero, List.set_cons_succ]
            refine tk 7 ?_
            try simp only [Act.put, List.setIfInBounds_toArray, List.set_cons_zero, List.set_cons_succ]
            refine tk 8 ?_
            try simp only [Act.put, List.setIfInBounds_toArray, List.set_cons_zero, List.set_cons_succ]
            refine tk 9 ?_
            try simp only [Act.put, List.setIfInBounds_toArray, List.set_cons_zero, List.set_cons_succ]
            refine tk 10 ?_
            try simp only [Act.put, List.setIfInBounds_toArray, List.set_cons_zero, List.set_cons_succ]
            refine tk 11 ?_
            try simp only [Act.put, List.setIfInBounds_toArray, List.set_cons_zero, List.set_cons_succ]
            refine tku 12 ?_
            try simp only [Act.put, List.setIfInBounds_toArray, List.set_cons_zero, List.set_cons_succ]
            refine tku 13 ?_
            try simp only [Act.put, List.setIfInBounds_toArray, List.set_cons_zero, List.set_cons_succ]
            refine tku 14 ?_
            try simp only [Act.put, List.setIfInBounds_toArray, List.set_cons_zero, List.set_cons_succ]
            refine tku 15 ?_
            try simp only [Act.put, List.setIfInBounds_toArray, List.set_cons_zero, List.set_cons_succ]
            refine tku 16 ?_
            try simp only [Act.put, List.setIfInBounds_toArray, List.set_cons_zero, List.set_cons_succ]
            refine tku 17 ?_
            try simp only [Act.put, List.setIfInBounds_toArray, List.set_cons_zero, List.set_cons_succ]
            refine tku 18 ?_
            try simp only [Act.put, List.setIfInBounds_toArray, List.set_cons_zero, List.set_cons_succ]
            refine tku 19 ?_
            try simp only [Act.put, List.setIfInBounds_toArray, List.set_cons_zero, List.set_cons_succ]
            refine tku 20 ?_
            try simp only [Act.put, List.setIfInBounds_toArray, List.set_cons_zero, List.set_cons_succ]
            refine tk 21 ?_
            try simp only [Act.put, List.setIfInBounds_toArray, List.set_cons_zero, List.set_cons_succ]
            refine tk 22 ?_
            try simp only [Act.put, List.setIfInBounds_toArray, List.set_cons_zero, List.set_cons_succ]
            refine wpAnyH_done (by kernel_rfl) ?_ _
            refine NoPanic.normal ?_
            clear hHeld
            go_wp2_with fail
            go_meet
            exact ⟨by rw [HZ.out], Below.drew hb⟩
          · obtain ⟨k', hk'⟩ : ∃ k', i = k' + 1 := ⟨i - 1, by omega⟩
            obtain ⟨pv, hpv, hp0⟩ := HPV.out k' hk'
            have z1 : decide ((0 : Int) < (i : Int)) = true := decide_eq_true (by omega); have z1n : decide (0 < i) = true := decide_eq_true (by omega)
            have w1 : IntKind.i64.wrap ((i : Int) - 1) = (k' : Int) := by rw [IntKind.wrap_i64]; omega
            have j5 : (0 : Int) ≤ (k' : Int) := by omega
            have j6 : (k' : Int) < (n : Int) := by omega
            have z2 : o' = some pv := HO'.out.trans hpv
            have HY2 : Hid (bad = !(decide (TL pv t))) := Lib.hid (by rw [HY.out, z2]; rfl)
            have HK' := Lib.hid hk'
            clear z2 hi0 HPV hpv hk' HY
            rcases tl_ways pv t with hw | hw | hw
            · obtain ⟨q1, q2, q3, q4⟩ := ways_less hw
              have HZ : Hid (bad = false) := Lib.hid (by rw [HY2.out, decide_eq_true hw]; rfl)
              clear hw
              go_wp2_with fail
              refine wp_region_noPanic ?_
              refine wp_region_held_drew (S := (fun w' => w'.cell? ⟨sb, 0, none⟩ = some (.string ⟨t.toArray⟩) ∧ w'.cell? ⟨sb, 1, none⟩ = some (.int .u64 (A : Int)) ∧ w'.cell? ⟨sb, 2, none⟩ = some (.int .u64 (B : Int)) ∧ w'.cell? ⟨b, o + k' * 3, none⟩ = some (.string ⟨pv.toArray⟩))) (by kernel_rfl) (⟨Dots.keepC s0 (Below.drew (Below.refl _ _)), Dots.keepC s1 (Below.drew (Below.refl _ _)), Dots.keepC s2 (Below.drew (Below.refl _ _)), Dots.keepC hp0 (Below.drew (Below.refl _ _))⟩) (fun hHeld => ?_)
              refine tk 0 ?_
              try simp only [Act.put, List.setIfInBounds_toArray, List.set_cons_zero, List.set_cons_succ]
              refine tk 1 ?_
              try simp only [Act.put, List.setIfInBounds_toArray, List.set_cons_zero, List.set_cons_succ]
              refine tk 2 ?_
              try simp only [Act.put, List.setIfInBounds_toArray, List.set_cons_zero, List.set_cons_succ]
              refine tk 3 ?_
              try simp only [Act.put, List.setIfInBounds_toArray, List.set_cons_zero, List.set_cons_succ]
              refine tk 4 ?_
              try simp only [Act.put, List.setIfInBounds_toArray, List.set_cons_zero, List.set_cons_succ]
              refine tk 5 ?_
              try simp only [Act.put, List.setIfInBounds_toArray, List.set_cons_zero, List.set_cons_succ]
              refine tk 6 ?_
              try simp only [Act.put, List.setIfInBounds_toArray, List.set_cons_zero, List.set_cons_succ]
              refine tk 7 ?_
              try simp only [Act.put, List.setIfInBounds_toArray, List.set_cons_zero, List.set_cons_succ]
              refine tk 8 ?_
              try simp only [Act.put, List.setIfInBounds_toArray, List.set_cons_zero, List.set_cons_succ]
              refine tk 9 ?_
              try simp only [Act.put, List.setIfInBounds_toArray, List.set_cons_zero, List.set_cons_succ]
              refine tk 10 ?_
              try simp only [Act.put, List.setIfInBounds_toArray, List.set_cons_zero, List.set_cons_succ]
              refine tk 11 ?_
              try simp only [Act.put, List.setIfInBounds_toArray, List.set_cons_zero, List.set_cons_succ]
              refine tk 12 ?_
              try simp only [Act.put, List.setIfInBounds_toArray, List.set_cons_zero, List.set_cons_succ]
              refine tk 13 ?_
              try simp only [Act.put, List.setIfInBounds_toArray, List.set_cons_zero, List.set_cons_succ]
              refine tk 14 ?_
              try simp only [Act.put, List.setIfInBounds_toArray, List.set_cons_zero, List.set_cons_succ]
              refine tk 15 ?_
              try simp only [Act.put, List.setIfInBounds_toArray, List.set_cons_zero, List.set_cons_succ]
              refine tk 16 ?_
              try simp only [Act.put, List.setIfInBounds_toArray, List.set_cons_zero, List.set_cons_succ]
              refine tk 17 ?_
              try simp only [Act.put, List.setIfInBounds_toArray, List.set_cons_zero, List.set_cons_succ]
              refine tk 18 ?_
              try simp only [Act.put, List.setIfInBounds_toArray, List.set_cons_zero, List.set_cons_succ]
              refine tk 19 ?_
              try simp only [Act.put, List.setIfInBounds_toArray, List.set_cons_zero, List.set_cons_succ]
              refine tk 20 ?_
              try simp only [Act.put, List.setIfInBounds_toArray, List.set_cons_zero, List.set_cons_succ]
              refine tk 21 ?_
              try simp only [Act.put, List.setIfInBounds_toArray, List.set_cons_zero, List.set_cons_succ]
              refine tk 22 ?_
              try simp only [Act.put, List.setIfInBounds_toArray, List.set_cons_zero, List.set_cons_succ]
              refine wpAnyH_done (by kernel_rfl) ?_ _
              refine NoPanic.normal ?_
              clear hHeld
              go_wp2_with fail
              go_meet
              exact ⟨by rw [HZ.out], Below.drew hb⟩
            · have q1 := less_self t
              have HZ : Hid (bad = true) := Lib.hid (by rw [HY2.out, decide_eq_false (by rw [hw]; exact linT.irr t)]; rfl)
              have q3 : (pv == t) = true := by simp [hw]
              have q4 : (t == pv) = true := by simp [hw]
              have q5 : Op.bytesLess pv t = false := by rw [hw]; exact q1
              have q6 : Op.bytesLess t pv = false := by rw [hw]; exact q1
              clear hw
              go_wp2_with fail
              refine wp_region_noPanic ?_
              refine wp_region_held_drew (S := (fun w' => w'.cell? ⟨sb, 0, none⟩ = some (.string ⟨t.toArray⟩) ∧ w'.cell? ⟨sb, 1, none⟩ = some (.int .u64 (A : Int)) ∧ w'.cell? ⟨sb, 2, none⟩ = some (.int .u64 (B : Int)) ∧ w'.cell? ⟨b, o + k' * 3, none⟩ = some (.string ⟨pv.toArray⟩))) (by kernel_rfl) (⟨Dots.keepC s0 (Below.drew (Below.refl _ _)), Dots.keepC s1 (Below.drew (Below.refl _ _)), Dots.keepC s2 (Below.drew (Below.refl _ _)), Dots.keepC hp0 (Below.drew (Below.refl _ _))⟩) (fun hHeld => ?_)
              refine tk 0 ?_
              try simp only [Act.put, List.setIfInBounds_toArray, List.set_cons_zero, List.set_cons_succ]
              refine tk 1 ?_
              try simp only [Act.put, List.setIfInBounds_toArray, List.set_cons_zero, List.set_cons_succ]
              refine tk 2 ?_
              try simp only [Act.put, List.setIfInBounds_toArray, List.set_cons_zero, List.set_cons_succ]
              refine tk 3 ?_
              try simp only [Act.put, List.setIfInBounds_toArray, List.set_cons_zero, List.set_cons_succ]
              refine tk 4 ?_
              try simp only [Act.put, List.setIfInBounds_toArray, List.set_cons_zero, List.set_cons_succ]
              refine tk 5 ?_
              try simp only [Act.put, List.setIfInBounds_toArray, List.set_cons_zero, List.set_cons_succ]
              refine tk 6 ?_
              try simp only [Act.put, List.setIfInBounds_toArray, List.set_cons_zero, List.set_cons_succ]
              refine tk 7 ?_
              try simp only [Act.put, List.setIfInBounds_toArray, List.set_cons_zero, List.set_cons_succ]
              refine tk 8 ?_
              try simp only [Act.put, List.setIfInBounds_toArray, List.set_cons_zero, List.set_cons_succ]
              refine tk 9 ?_
              try simp only [Act.put, List.setIfInBounds_toArray, List.set_cons_zero, List.set_cons_succ]
              refine tk 10 ?_
              try simp only [Act.put, List.setIfInBounds_toArray, List.set_cons_zero, List.set_cons_succ]
              refine tk 11 ?_
              try simp only [Act.put, List.setIfInBounds_toArray, List.set_cons_zero, List.set_cons_succ]
              refine tk 12 ?_
              try simp only [Act.put, List.setIfInBounds_toArray, List.set_cons_zero, List.set_cons_succ]
              refine tk 13 ?_
              try simp only [Act.put, List.setIfInBounds_toArray, List.set_cons_zero, List.set_cons_succ]
              refine tk 14 ?_
              try simp only [Act.put, List.setIfInBounds_toArray, List.set_cons_zero, List.set_cons_succ]
              refine tk 15 ?_
              try simp only [Act.put, List.setIfInBounds_toArray, List.set_cons_zero, List.set_cons_succ]
              refine tk 16 ?_
              try simp only [Act.put, List.setIfInBounds_toArray, List.set_cons_zero, List.set_cons_succ]
              refine tk 17 ?_
              try simp only [Act.put, List.setIfInBounds_toArray, List.set_cons_zero, List.set_cons_succ]
              refine tk 18 ?_
              try simp only [Act.put, List.setIfInBounds_toArray, List.set_cons_zero, List.set_cons_succ]
              refine tk 19 ?_
              try simp only [Act.put, List.setIfInBounds_toArray, List.set_cons_zero, List.set_cons_succ]
              refine tk 20 ?_
              try simp only [Act.put, List.setIfInBounds_toArray, List.set_cons_zero, List.set_cons_succ]
              refine tk 21 ?_
              try simp only [Act.put, List.setIfInBounds_toArray, List.set_cons_zero, List.set_cons_succ]
              refine tk 22 ?_
              try simp only [Act.put, List.setIfInBounds_toArray, List.set_cons_zero, List.set_cons_succ]
              refine wpAnyH_done (by kernel_rfl) ?_ _
              refine NoPanic.normal ?_
              clear hHeld
              go_wp2_with fail
              go_meet
              exact ⟨by rw [HZ.out], Below.drew hb⟩
            · obtain ⟨q1, q2, q3, q4⟩ := ways_less hw
              have HZ : Hid (bad = true) := Lib.hid (by rw [HY2.out, decide_eq_false (fun h => linT.irr _ (linT.trans hw h))]; rfl)
              clear hw
              go_wp2_with fail
              refine wp_region_noPanic ?_
              refine wp_region_held_drew (S := (fun w' => w'.cell? ⟨sb, 0, none⟩ = some (.string ⟨t.toArray⟩) ∧ w'.cell? ⟨sb, 1, none⟩ = some (.int .u64 (A : Int)) ∧ w'.cell? ⟨sb, 2, none⟩ = some (.int .u64 (B : Int)) ∧ w'.cell? ⟨b, o + k' * 3, none⟩ = some (.string ⟨pv.toArray⟩))) (by kernel_rfl) (⟨Dots.keepC s0 (Below.drew (Below.refl _ _)), Dots.keepC s1 (Below.drew (Below.refl _ _)), Dots.keepC s2 (Below.drew (Below.refl _ _)), Dots.keepC hp0 (Below.drew (Below.refl _ _))⟩) (fun hHeld => ?_)
              refine tk 0 ?_
              try simp only [Act.put, List.setIfInBounds_toArray, List.set_cons_zero, List.set_cons_succ]
              refine tk 1 ?_
              try simp only [Act.put, List.setIfInBounds_toArray, List.set_cons_zero, List.set_cons_succ]
              refine tk 2 ?_
              try simp only [Act.put, List.setIfInBounds_toArray, List.set_cons_zero, List.set_cons_succ]
              refine tk 3 ?_
              try simp only [Act.put, List.setIfInBounds_toArray, List.set_cons_zero, List.set_cons_succ]
              refine tk 4 ?_
              try simp only [Act.put, List.setIfInBounds_toArray, List.set_cons_zero, List.set_cons_succ]
              refine tk 5 ?_
              try simp only [Act.put, List.setIfInBounds_toArray, List.set_cons_zero, List.set_cons_succ]
              refine tk 6 ?_
              try simp only [Act.put, List.setIfInBounds_toArray, List.set_cons_zero, List.set_cons_succ]
              refine tk 7 ?_
              try simp only [Act.put, List.setIfInBounds_toArray, List.set_cons_zero, List.set_cons_succ]
              refine tk 8 ?_
              try simp only [Act.put, List.setIfInBounds_toArray, List.set_cons_zero, List.set_cons_succ]
              refine tk 9 ?_
              try simp only [Act.put, List.setIfInBounds_toArray, List.set_cons_zero, List.set_cons_succ]
              refine tk 10 ?_
              try simp only [Act.put, List.setIfInBounds_toArray, List.set_cons_zero, List.set_cons_succ]
              refine tk 11 ?_
              try simp only [Act.put, List.setIfInBounds_toArray, List.set_cons_zero, List.set_cons_succ]
              refine tk 12 ?_
              try simp only [Act.put, List.setIfInBounds_toArray, List.set_cons_zero, List.set_cons_succ]
              refine tk 13 ?_
              try simp only [Act.put, List.setIfInBounds_toArray, List.set_cons_zero, List.set_cons_succ]
              refine tk 14 ?_
              try simp only [Act.put, List.setIfInBounds_toArray, List.set_cons_zero, List.set_cons_succ]
              refine tk 15 ?_
              try simp only [Act.put, List.setIfInBounds_toArray, List.set_cons_zero, List.set_cons_succ]
              refine tk 16 ?_
              try simp only [Act.put, List.setIfInBounds_toArray, List.set_cons_zero, List.set_cons_succ]
              refine tk 17 ?_
              try simp only [Act.put, List.setIfInBounds_toArray, List.set_cons_zero, List.set_cons_succ]
              refine tk 18 ?_
              try simp only [Act.put, List.setIfInBounds_toArray, List.set_cons_zero, List.set_cons_succ]
              refine tk 19 ?_
              try simp only [Act.put, List.setIfInBounds_toArray, List.set_cons_zero, List.set_cons_succ]
              refine tk 20 ?_
              try simp only [Act.put, List.setIfInBounds_toArray, List.set_cons_zero, List.set_cons_succ]
              refine tk 21 ?_
              try simp only [Act.put, List.setIfInBounds_toArray, List.set_cons_zero, List.set_cons_succ]
              refine tk 22 ?_
              try simp only [Act.put, List.setIfInBounds_toArray, List.set_cons_zero, List.set_cons_succ]
              refine wpAnyH_done (by kernel_rfl) ?_ _
              refine NoPanic.normal ?_
              clear hHeld
              go_wp2_with fail
              go_meet
              exact ⟨by rw [HZ.out], Below.drew hb⟩
      · have a1 : ((A : Int) == 0) = false := by rw [beq_eq_false_iff_ne]; omega
        have HY : Hid (bad = befT o' t) := Lib.hid (by rw [HBD.out, decide_eq_false hA, Bool.false_and, Bool.false_or])
        clear hA
        by_cases hi0 : i = 0
        · have z1 : decide ((0 : Int) < (i : Int)) = false := decide_eq_false (by omega); have z1n : decide (0 < i) = false := decide_eq_false (by omega)
          have HZ : Hid (bad = false) := Lib.hid (by rw [HY.out, HO'.out, hi0]; rfl)
          clear hi0 HPV
          go_wp2_with fail
          refine wp_region_noPanic ?_
          refine wp_region_held_drew (S := (fun w' => w'.cell? ⟨sb, 0, none⟩ = some (.string ⟨t.toArray⟩) ∧ w'.cell? ⟨sb, 1, none⟩ = some (.int .u64 (A : Int)) ∧ w'.cell? ⟨sb, 2, none⟩ = some (.int .u64 (B : Int)))) (by kernel_rfl) (⟨Dots.keepC s0 (Below.drew (Below.refl _ _)), Dots.keepC s1 (Below.drew (Below.refl _ _)), Dots.keepC s2 (Below.drew (Below.refl _ _))⟩) (fun hHeld => ?_)
          refine tk 0 ?_
          try simp only [Act.put, List.setIfInBounds_toArray, List.set_cons_zero, List.set_cons_succ]
          refine tk 1 ?_
          try simp only [Act.put, List.setIfInBounds_toArray, List.set_cons_zero, List.set_cons_succ]
          refine tk 2 ?_
          try simp only [Act.put, List.setIfInBounds_toArray, List.set_cons_zero, List.set_cons_succ]
          refine tk 3 ?_
          try simp only [Act.put, List.setIfInBounds_toArray, List.set_cons_zero, List.set_cons_succ]
          refine tku 4 ?_
          try simp only [Act.put, List.setIfInBounds_toArray, List.set_cons_zero, List.set_cons_succ]
          refine tku 5 ?_
          try simp only [Act.put, List.setIfInBounds_toArray, List.set_cons_zero, List.set_cons_succ]
          refine tku 6 ?_
          try simp only [Act.put, List.setIfInBounds_toArray, List.set_cons_zero, List.set_cons_succ]
          refine tk 7 ?_
          try simp only [Act.put, List.setIfInBounds_toArray, List.set_cons_zero, List.set_cons_succ]
          refine tk 8 ?_
          try simp only [Act.put, List.setIfInBounds_toArray, List.set_cons_zero, List.set_cons_succ]
          refine tk 9 ?_
          try simp only [Act.put, List.setIfInBounds_toArray, List.set_cons_zero, List.set_cons_succ]
          refine tk 10 ?_
          try simp only [Act.put, List.setIfInBounds_toArray, List.set_cons_zero, List.set_cons_succ]
          refine tk 11 ?_
          try simp only [Act.put, List.setIfInBounds_toArray, List.set_cons_zero, List.set_cons_succ]
          refine tku 12 ?_
          try simp only [Act.put, List.setIfInBounds_toArray, List.set_cons_zero, List.set_cons_succ]
          refine tku 13 ?_
          try simp only [Act.put, List.setIfInBounds_toArray, List.set_cons_zero, List.set_cons_succ]
          refine tku 14 ?_
          try simp only [Act.put, List.setIfInBounds_toArray, List.set_cons_zero, List.set_cons_succ]
          refine tku 15 ?_
          try simp only [Act.put, List.setIfInBounds_toArray, List.set_cons_zero, List.set_cons_succ]
          refine tku 16 ?_
          try simp only [Act.put, List.setIfInBounds_toArray, List.set_cons_zero, List.set_cons_succ]
          refine tku 17 ?_
          try simp only [Act.put, List.setIfInBounds_toArray, List.set_cons_zero, List.set_cons_succ]
          refine tku 18 ?_
          try simp only [Act.put, List.setIfInBounds_toArray, List.set_cons_zero, List.set_cons_succ]
          refine tku 19 ?_
          try simp only [Act.put, List.setIfInBounds_toArray, List.set_cons_zero, List.set_cons_succ]
          refine tku 20 ?_
          try simp only [Act.put, List.setIfInBounds_toArray, List.set_cons_zero, List.set_cons_succ]
          refine tk 21 ?_
          try simp only [Act.put, List.setIfInBounds_toArray, List.set_cons_zero, List.set_cons_succ]
          refine tk 22 ?_
          try simp only [Act.put, List.setIfInBounds_toArray, List.set_cons_zero, List.set_cons_succ]
          refine wpAnyH_done (by kernel_rfl) ?_ _
          refine NoPanic.normal ?_
          clear hHeld
          go_wp2_with fail
          go_meet
          exact ⟨by rw [HZ.out], Below.drew hb⟩
        · obtain ⟨k', hk'⟩ : ∃ k', i = k' + 1 := ⟨i - 1, by omega⟩
          obtain ⟨pv, hpv, hp0⟩ := HPV.out k' hk'
          have z1 : decide ((0 : Int) < (i : Int)) = true := decide_eq_true (by omega); have z1n : decide (0 < i) = true := decide_eq_true (by omega)
          have w1 : IntKind.i64.wrap ((i : Int) - 1) = (k' : Int) := by rw [IntKind.wrap_i64]; omega
          have j5 : (0 : Int) ≤ (k' : Int) := by omega
          have j6 : (k' : Int) < (n : Int) := by omega
          have z2 : o' = some pv := HO'.out.trans hpv
          have HY2 : Hid (bad = !(decide (TL pv t))) := Lib.hid (by rw [HY.out, z2]; rfl)
          have HK' := Lib.hid hk'
          clear z2 hi0 HPV hpv hk' HY
          rcases tl_ways pv t with hw | hw | hw
          · obtain ⟨q1, q2, q3, q4⟩ := ways_less hw
            have HZ : Hid (bad = false) := Lib.hid (by rw [HY2.out, decide_eq_true hw]; rfl)
            clear hw
            go_wp2_with fail
            refine wp_region_noPanic ?_
            refine wp_region_held_drew (S := (fun w' => w'.cell? ⟨sb, 0, none⟩ = some (.string ⟨t.toArray⟩) ∧ w'.cell? ⟨sb, 1, none⟩ = some (.int .u64 (A : Int)) ∧ w'.cell? ⟨sb, 2, none⟩ = some (.int .u64 (B : Int)) ∧ w'.cell? ⟨b, o + k' * 3, none⟩ = some (.string ⟨pv.toArray⟩))) (by kernel_rfl) (⟨Dots.keepC s0 (Below.drew (Below.refl _ _)), Dots.keepC s1 (Below.drew (Below.refl _ _)), Dots.keepC s2 (Below.drew (Below.refl _ _)), Dots.keepC hp0 (Below.drew (Below.refl _ _))⟩) (fun hHeld => ?_)
            refine tk 0 ?_
            try simp only [Act.put, List.setIfInBounds_toArray, List.set_cons_zero, List.set_cons_succ]
            refine tk 1 ?_
            try simp only [Act.put, List.setIfInBounds_toArray, List.set_cons_zero, List.set_cons_succ]
            refine tk 2 ?_
            try simp only [Act.put, List.setIfInBounds_toArray, List.set_cons_zero, List.set_cons_succ]
            refine tk 3 ?_
            try simp only [Act.put, List.setIfInBounds_toArray, List.set_cons_zero, List.set_cons_succ]
            refine tku 4 ?_
            try simp only [Act.put, List.setIfInBounds_toArray, List.set_cons_zero, List.set_cons_succ]
            refine tku 5 ?_
            try simp only [Act.put, List.setIfInBounds_toArray, List.set_cons_zero, List.set_cons_succ]
            refine tku 6 ?_
            try simp only [Act.put, List.setIfInBounds_toArray, List.set_cons_zero, List.set_cons_succ]
            refine tk 7 ?_
            try simp only [Act.put, List.setIfInBounds_toArray, List.set_cons_zero, List.set_cons_succ]
            refine tk 8 ?_
            try simp only [Act.put, List.setIfInBounds_toArray, List.set_cons_zero, List.set_cons_succ]
            refine tk 9 ?_
            try simp only [Act.put, List.setIfInBounds_toArray, List.set_cons_zero, List.set_cons_succ]
            refine tk 10 ?_
            try simp only [Act.put, List.setIfInBounds_toArray, List.set_cons_zero, List.set_cons_succ]
            refine tk 11 ?_
            try simp only [Act.put, List.setIfInBounds_toArray, List.set_cons_zero, List.set_cons_succ]
            refine tk 12 ?_
            try simp only [Act.put, List.setIfInBounds_toArray, List.set_cons_zero, List.set_cons_succ]
            refine tk 13 ?_
            try simp only [Act.put, List.setIfInBounds_toArray, List.set_cons_zero, List.set_cons_succ]
            refine tk 14 ?_
            try simp only [Act.put, List.setIfInBounds_toArray, List.set_cons_zero, List.set_cons_succ]
            refine tk 15 ?_
            try simp only [Act.put, List.setIfInBounds_toArray, List.set_cons_zero, List.set_cons_succ]
            refine tk 16 ?_
            try simp only [Act.put, List.setIfInBounds_toArray, List.set_cons_zero, List.set_cons_succ]
            refine tk 17 ?_
            try simp only [Act.put, List.setIfInBounds_toArray, List.set_cons_zero, List.set_cons_succ]
            refine tk 18 ?_
            try simp only [Act.put, List.setIfInBounds_toArray, List.set_cons_zero, List.set_cons_succ]
            refine tk 19 ?_
            try simp only [Act.put, List.setIfInBounds_toArray, List.set_cons_zero, List.set_cons_succ]
            refine tk 20 ?_
            try simp only [Act.put, List.setIfInBounds_toArray, List.set_cons_zero, List.set_cons_succ]
            refine tk 21 ?_
            try simp only [Act.put, List.setIfInBounds_toArray, List.set_cons_zero, List.set_cons_succ]
            refine tk 22 ?_
            try simp only [Act.put, List.setIfInBounds_toArray, List.set_cons_zero, List.set_cons_succ]
            refine wpAnyH_done (by kernel_rfl) ?_ _
            refine NoPanic.normal ?_
            clear hHeld
            go_wp2_with fail
            go_meet
            exact ⟨by rw [HZ.out], Below.drew hb⟩
          · have q1 := less_self t
            have HZ : Hid (bad = true) := Lib.hid (by rw [HY2.out, decide_eq_false (by rw [hw]; exact linT.irr t)]; rfl)
            have q3 : (pv == t) = true := by simp [hw]
            have q4 : (t == pv) = true := by simp [hw]
            have q5 : Op.bytesLess pv t = false := by rw [hw]; exact q1
            have q6 : Op.bytesLess t pv = false := by rw [hw]; exact q1
            clear hw
            go_wp2_with fail
            refine wp_region_noPanic ?_
            refine wp_region_held_drew (S := (fun w' => w'.cell? ⟨sb, 0, none⟩ = some (.string ⟨t.toArray⟩) ∧ w'.cell? ⟨sb, 1, none⟩ = some (.int .u64 (A : Int)) ∧ w'.cell? ⟨sb, 2, none⟩ = some (.int .u64 (B : Int)) ∧ w'.cell? ⟨b, o + k' * 3, none⟩ = some (.string ⟨pv.toArray⟩))) (by kernel_rfl) (⟨Dots.keepC s0 (Below.drew (Below.refl _ _)), Dots.keepC s1 (Below.drew (Below.refl _ _)), Dots.keepC s2 (Below.drew (Below.refl _ _)), Dots.keepC hp0 (Below.drew (Below.refl _ _))⟩) (fun hHeld => ?_)
            refine tk 0 ?_
            try simp only [Act.put, List.setIfInBounds_toArray, List.set_cons_zero, List.set_cons_succ]
            refine tk 1 ?_
            try simp only [Act.put, List.setIfInBounds_toArray, List.set_cons_zero, List.set_cons_succ]
            refine tk 2 ?_
            try simp only [Act.put, List.setIfInBounds_toArray, List.set_cons_zero, List.set_cons_succ]
            refine tk 3 ?_
            try simp only [Act.put, List.setIfInBounds_toArray, List.set_cons_zero, List.set_cons_succ]
            refine tku 4 ?_
            try simp only [Act.put, List.setIfInBounds_toArray, List.set_cons_zero, List.set_cons_succ]
            refine tku 5 ?_
            try simp only [Act.put, List.setIfInBounds_toArray, List.set_cons_zero, List.set_cons_succ]
            refine tku 6 ?_
            try simp only [Act.put, List.setIfInBounds_toArray, List.set_cons_zero, List.set_cons_succ]
            refine tk 7 ?_
            try simp only [Act.put, List.setIfInBounds_toArray, List.set_cons_zero, List.set_cons_succ]
            refine tk 8 ?_
            try simp only [Act.put, List.setIfInBounds_toArray, List.set_cons_zero, List.set_cons_succ]
            refine tk 9 ?_
            try simp only [Act.put, List.setIfInBounds_toArray, List.set_cons_zero, List.set_cons_succ]
            refine tk 10 ?_
            try simp only [Act.put, List.setIfInBounds_toArray, List.set_cons_zero, List.set_cons_succ]
            refine tk 11 ?_
            try simp only [Act.put, List.setIfInBounds_toArray, List.set_cons_zero, List.set_cons_succ]
            refine tk 12 ?_
            try simp only [Act.put, List.setIfInBounds_toArray, List.set_cons_zero, List.set_cons_succ]
            refine tk 13 ?_
            try simp only [Act.put, List.setIfInBounds_toArray, List.set_cons_zero, List.set_cons_succ]
            refine tk 14 ?_
            try simp only [Act.put, List.setIfInBounds_toArray, List.set_cons_zero, List.set_cons_succ]
            refine tk 15 ?_
            try simp only [Act.put, List.setIfInBounds_toArray, List.set_cons_zero, List.set_cons_succ]
            refine tk 16 ?_
            try simp only [Act.put, List.setIfInBounds_toArray, List.set_cons_zero, List.set_cons_succ]
            refine tk 17 ?_
            try simp only [Act.put, List.setIfInBounds_toArray, List.set_cons_zero, List.set_cons_succ]
            refine tk 18 ?_
            try simp only [Act.put, List.setIfInBounds_toArray, List.set_cons_zero, List.set_cons_succ]
            refine tk 19 ?_
            try simp only [Act.put, List.setIfInBounds_toArray, List.set_cons_zero, List.set_cons_succ]
            refine tk 20 ?_
            try simp only [Act.put, List.setIfInBounds_toArray, List.set_cons_zero, List.set_cons_succ]
            refine tk 21 ?_
            try simp only [Act.put, List.setIfInBounds_toArray, List.set_cons_zero, List.set_cons_succ]
            refine tk 22 ?_
            try simp only [Act.put, List.setIfInBounds_toArray, List.set_cons_zero, List.set_cons_succ]
            refine wpAnyH_done (by kernel_rfl) ?_ _
            refine NoPanic.normal ?_
            clear hHeld
            go_wp2_with fail
            go_meet
            exact ⟨by rw [HZ.out], Below.drew hb⟩
          · obtain ⟨q1, q2, q3, q4⟩ := ways_less hw
            have HZ : Hid (bad = true) := Lib.hid (by rw [HY2.out, decide_eq_false (fun h => linT.irr _ (linT.trans hw h))]; rfl)
            clear hw
            go_wp2_with fail
            refine wp_region_noPanic ?_
            refine wp_region_held_drew (S := (fun w' => w'.cell? ⟨sb, 0, none⟩ = some (.string ⟨t.toArray⟩) ∧ w'.cell? ⟨sb, 1, none⟩ = some (.int .u64 (A : Int)) ∧ w'.cell? ⟨sb, 2, none⟩ = some (.int .u64 (B : Int)) ∧ w'.cell? ⟨b, o + k' * 3, none⟩ = some (.string ⟨pv.toArray⟩))) (by kernel_rfl) (⟨Dots.keepC s0 (Below.drew (Below.refl _ _)), Dots.keepC s1 (Below.drew (Below.refl _ _)), Dots.keepC s2 (Below.drew (Below.refl _ _)), Dots.keepC hp0 (Below.drew (Below.refl _ _))⟩) (fun hHeld => ?_)
            refine tk 0 ?_
            try simp only [Act.put, List.setIfInBounds_toArray, List.set_cons_zero, List.set_cons_succ]
            refine tk 1 ?_
            try simp only [Act.put, List.setIfInBounds_toArray, List.set_cons_zero, List.set_cons_succ]
            refine tk 2 ?_
            try simp only [Act.put, List.setIfInBounds_toArray, List.set_cons_zero, List.set_cons_succ]
            refine tk 3 ?_
            try simp only [Act.put, List.setIfInBounds_toArray, List.set_cons_zero, List.set_cons_succ]
            refine tku 4 ?_
            try simp only [Act.put, List.setIfInBounds_toArray, List.set_cons_zero, List.set_cons_succ]
            refine tku 5 ?_
            try simp only [Act.put, List.setIfInBounds_toArray, List.set_cons_zero, List.set_cons_succ]
            refine tku 6 ?_
            try simp only [Act.put, List.setIfInBounds_toArray, List.set_cons_zero, List.set_cons_succ]
            refine tk 7 ?_
            try simp only [Act.put, List.setIfInBounds_toArray, List.set_cons_zero, List.set_cons_succ]
            refine tk 8 ?_
            try simp only [Act.put, List.setIfInBounds_toArray, List.set_cons_zero, List.set_cons_succ]
            refine tk 9 ?_
            try simp only [Act.put, List.setIfInBounds_toArray, List.set_cons_zero, List.set_cons_succ]
            refine tk 10 ?_
            try simp only [Act.put, List.setIfInBounds_toArray, List.set_cons_zero, List.set_cons_succ]
            refine tk 11 ?_
            try simp only [Act.put, List.setIfInBounds_toArray, List.set_cons_zero, List.set_cons_succ]
            refine tk 12 ?_
            try simp only [Act.put, List.setIfInBounds_toArray, List.set_cons_zero, List.set_cons_succ]
            refine tk 13 ?_
            try simp only [Act.put, List.setIfInBounds_toArray, List.set_cons_zero, List.set_cons_succ]
            refine tk 14 ?_
            try simp only [Act.put, List.setIfInBounds_toArray, List.set_cons_zero, List.set_cons_succ]
            refine tk 15 ?_
            try simp only [Act.put, List.setIfInBounds_toArray, List.set_cons_zero, List.set_cons_succ]
            refine tk 16 ?_
            try simp only [Act.put, List.setIfInBounds_toArray, List.set_cons_zero, List.set_cons_succ]
            refine tk 17 ?_
            try simp only [Act.put, List.setIfInBounds_toArray, List.set_cons_zero, List.set_cons_succ]
            refine tk 18 ?_
            try simp only [Act.put, List.setIfInBounds_toArray, List.set_cons_zero, List.set_cons_succ]
            refine tk 19 ?_
            try simp only [Act.put, List.setIfInBounds_toArray, List.set_cons_zero, List.set_cons_succ]
            refine tk 20 ?_
            try simp only [Act.put, List.setIfInBounds_toArray, List.set_cons_zero, List.set_cons_succ]
            refine tk 21 ?_
            try simp only [Act.put, List.setIfInBounds_toArray, List.set_cons_zero, List.set_cons_succ]
            refine tk 22 ?_
            try simp only [Act.put, List.setIfInBounds_toArray, List.set_cons_zero, List.set_cons_succ]
            refine wpAnyH_done (by kernel_rfl) ?_ _
            refine NoPanic.normal ?_
            clear hHeld
            go_wp2_with fail
            go_meet
            exact ⟨by rw [HZ.out], Below.drew hb⟩
    clear hb s0 s1 s2
    obtain ⟨rfl, hb⟩ := hcut
    cases bad
    · have HV2 : Hid (V = mayCt (pC L (i + 1)) (L.drop (i + 1))) := Lib.hid (by rw [HST.out]; rfl)
      clear HST HBD
      go_wp2
      go_roundw
      case rel => exact ⟨i + 1, by have := HI.out; omega, by go_num, HV2, hb⟩
      case measure => simp [intOf]; have := HI.out; omega
    · have HV2 : Hid (V = false) := Lib.hid (by rw [HST.out]; rfl)
      clear HST HBD
      go_wp2
      go_ret
      exact ⟨by rw [HV2.out]; rfl, hb⟩
end Coder
end Go.Proofs.YtnpjkmomllkhpaaGreat
