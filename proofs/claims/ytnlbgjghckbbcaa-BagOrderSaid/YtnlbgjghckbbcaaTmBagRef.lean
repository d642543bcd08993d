/- gossamerref13: In, putDot. -/
import Derived.Test.YtnlbgjghckbbcaaTmBagF
import Derived.Test.YtnlbgjghckbbcaaTmRefD
namespace Go.Proofs.Ytnlbgjghckbbcaa
namespace RefBag
open Go.RowKit Go.Proofs.Ytnlbgjghckbbcaa.Mark Go.Proofs.Ytnlbgjghckbbcaa.Dots Go.Proofs.Ytnlbgjghckbbcaa.Bag
set_option maxRecDepth 100000 in
set_option maxHeartbeats 1000000 in
theorem in_any (D : List M) (d : M) (a : Option Addr) (n c : Nat) (w : World) (hD : Row.Lies dE w a n D) (hn : n ≤ 1099511627776) :
    Calls Try.prog 29 #[.slice a n c, .agg #[.string ⟨d.p.toArray⟩, .int .u64 (d.n : Int)]] w fun e w' => e = .returned (.bool (decide (d ∈ D))) ∧ Below w.heap.size w w' := by
  have HD := Lib.hid hD
  have HN := Lib.hid hD.1
  obtain ⟨p, q⟩ := d
  have hb0 := balloc (Below.refl w.heap.size w) (.cells #[.string ⟨p.toArray⟩, .int .u64 (q : Int)] 31)
  have f0 : (w.alloc (.cells #[.string ⟨p.toArray⟩, .int .u64 (q : Int)] 31)).cell? ⟨w.heap.size, 0, none⟩ = some (.string ⟨p.toArray⟩) := by rw [World.cell?_alloc_new]; rfl
  have f1 : (w.alloc (.cells #[.string ⟨p.toArray⟩, .int .u64 (q : Int)] 31)).cell? ⟨w.heap.size, 1, none⟩ = some (.int .u64 (q : Int)) := by rw [World.cell?_alloc_new]; rfl
  clear hD
  go_enter Try.func29, Try.ntmps29
  go_upto_region 1 with (fail)
  obtain ⟨w1, hw1⟩ : ∃ v, v = w.alloc (.cells #[.string ⟨p.toArray⟩, .int .u64 (q : Int)] 31) := ⟨_, rfl⟩
  rw [← hw1] at hb0 f0 f1 ⊢
  obtain ⟨db, hdb⟩ : ∃ b, b = w.heap.size := ⟨_, rfl⟩
  rw [← hdb] at f0 f1 ⊢
  clear hw1 hdb
  have HM0 : Hid ((⟨p, q⟩ : M) ∉ D.take 0) := Lib.hid (by simp)
  have h1 := Below.refl w1.heap.size w1
  go_wp2_with fail
  go_loopw [5] (fun iv wr => ∃ i : Nat, i ≤ n ∧ iv = .int .i64 i ∧ Hid ((⟨p, q⟩ : M) ∉ D.take i) ∧ Below w1.heap.size w1 wr) (fun iv _ => n - (intOf iv).toNat)
  case atStart => exact ⟨0, by omega, rfl, HM0, h1⟩
  case round =>
    clear HM0 h1
    obtain ⟨i, hi, rfl, HM, hb⟩ := hrel
    by_cases hlt : i < n
    rotate_left
    · obtain rfl : i = n := by omega
      have d1 : decide ((i : Int) < (i : Int)) = false := decide_eq_false (by omega)
      have HE : Hid (decide ((⟨p, q⟩ : M) ∈ D) = false) := Lib.hid (by
        have := HM.out
        rw [List.take_of_length_le (by have := HN.out; omega)] at this
        exact decide_eq_false this)
      go_wp2
      go_ret
      exact ⟨by rw [HE.out]; rfl, hb0.trans (hb.mono hb0.size)⟩
    have d1 : decide ((i : Int) < (n : Int)) = true := decide_eq_true (by omega)
    have j1 : (0 : Int) ≤ (i : Int) := by omega
    have j2 : (i : Int) < (n : Int) := by omega
    have hil : i < D.length := by have := HN.out; omega
    obtain ⟨b, o, rfl, hc⟩ := dots_at (Row.Lies.below (Row.Lies.below HD.out hb0) (hb.mono (Nat.le_refl _))) (by omega)
    obtain ⟨c0, c1⟩ := hc i hil
    have hts : D.take (i + 1) = D.take i ++ [D[i]] := List.take_succ_eq_append_getElem hil
    have hmem := List.getElem_mem hil
    obtain ⟨x, hx⟩ : ∃ x, x = D[i] := ⟨_, rfl⟩
    rw [← hx] at c0 c1 hts hmem
    have HT := Lib.hid hts
    have HX := Lib.hid hmem
    have g0 := Dots.keepC f0 hb
    have g1 := Dots.keepC f1 hb
    have HI := Lib.hid hlt
    obtain ⟨xp, xq⟩ := x
    simp only at c0 c1
    have hE := RefDots.eql_dot ⟨xp, xq⟩ ⟨p, q⟩
    clear hc hil hts hmem hx hlt
    by_cases he : (⟨xp, xq⟩ : M) = ⟨p, q⟩
    · rw [decide_eq_true he] at hE
      dsimp only at hE
      have HE : Hid (decide ((⟨p, q⟩ : M) ∈ D) = true) := Lib.hid (decide_eq_true (by rw [← he]; exact HX.out))
      clear he
      go_wp2_with fail
      refine wp_region_noPanic ?_
      refine wp_region_held_drew (S := (fun w' => w'.cell? ⟨db, 0, none⟩ = some (.string ⟨p.toArray⟩) ∧ w'.cell? ⟨db, 1, none⟩ = some (.int .u64 (q : Int)) ∧ w'.cell? ⟨b, o + i * 2, none⟩ = some (.string ⟨xp.toArray⟩) ∧ w'.cell? ⟨b, o + i * 2 + 1, none⟩ = some (.int .u64 (xq : Int)))) (by kernel_rfl) (⟨Dots.keepC g0 (Below.drew (Below.refl _ _)), Dots.keepC g1 (Below.drew (Below.refl _ _)), Dots.keepC c0 (Below.drew (Below.refl _ _)), Dots.keepC c1 (Below.drew (Below.refl _ _))⟩) (fun hHeld => ?_)
      refine wpAnyH_take (i := 0) (v := ?_) (by simp only [List.getElem?_toArray, List.getElem?_cons_zero]; rfl) (by kernel_rfl) (by kernel_rfl) (by kernel_rfl) (fun _ _ _ h => h) (Or.inl ⟨by rfl, ?_⟩) (by assumption) ?_
      rotate_left
      · (intro w hSw; (try dsimp only at hSw); go_simp; try with_reducible rfl)
      try simp only [Act.put, List.setIfInBounds_toArray, List.set_cons_zero, List.set_cons_succ]
      refine wpAnyH_take (i := 1) (v := ?_) (by simp only [List.getElem?_toArray, List.getElem?_cons_succ, List.getElem?_cons_zero]; rfl) (by kernel_rfl) (by kernel_rfl) (by kernel_rfl) (fun _ _ _ h => h) (Or.inl ⟨by rfl, ?_⟩) (by assumption) ?_
      rotate_left
      · (intro w hSw; (try dsimp only at hSw); go_simp; try with_reducible rfl)
      try simp only [Act.put, List.setIfInBounds_toArray, List.set_cons_zero, List.set_cons_succ]
      refine wpAnyH_take (i := 2) (v := ?_) (by simp only [List.getElem?_toArray, List.getElem?_cons_succ, List.getElem?_cons_zero]; rfl) (by kernel_rfl) (by kernel_rfl) (by kernel_rfl) (fun _ _ _ h => h) (Or.inl ⟨by rfl, ?_⟩) (by assumption) ?_
      rotate_left
      · (intro w hSw; (try dsimp only at hSw); go_simp; try with_reducible rfl)
      try simp only [Act.put, List.setIfInBounds_toArray, List.set_cons_zero, List.set_cons_succ]
      refine wpAnyH_take (i := 3) (v := ?_) (by simp only [List.getElem?_toArray, List.getElem?_cons_succ, List.getElem?_cons_zero]; rfl) (by kernel_rfl) (by kernel_rfl) (by kernel_rfl) (fun _ _ _ h => h) (Or.inl ⟨by rfl, ?_⟩) (by assumption) ?_
      rotate_left
      · (intro w hSw; (try dsimp only at hSw); go_simp; try with_reducible rfl)
      try simp only [Act.put, List.setIfInBounds_toArray, List.set_cons_zero, List.set_cons_succ]
      refine wpAnyH_take (i := 4) (v := ?_) (by simp only [List.getElem?_toArray, List.getElem?_cons_succ, List.getElem?_cons_zero]; rfl) (by kernel_rfl) (by kernel_rfl) (by kernel_rfl) (fun _ _ _ h => h) (Or.inl ⟨by rfl, ?_⟩) (by assumption) ?_
      rotate_left
      · (intro w hSw; (try dsimp only at hSw); go_simp; try with_reducible rfl)
      try simp only [Act.put, List.setIfInBounds_toArray, List.set_cons_zero, List.set_cons_succ]
      refine wpAnyH_take (i := 5) (v := ?_) (by simp only [List.getElem?_toArray, List.getElem?_cons_succ, List.getElem?_cons_zero]; rfl) (by kernel_rfl) (by kernel_rfl) (by kernel_rfl) (fun _ _ _ h => h) (Or.inl ⟨by rfl, ?_⟩) (by assumption) ?_
      rotate_left
      · (intro w hSw; (try dsimp only at hSw); go_simp; try with_reducible rfl)
      try simp only [Act.put, List.setIfInBounds_toArray, List.set_cons_zero, List.set_cons_succ]
      refine wpAnyH_done (by kernel_rfl) ?_ _
      refine NoPanic.normal ?_
      clear hHeld
      go_wp2
      go_ret
      exact ⟨by rw [HE.out]; rfl, hb0.trans ((Below.drew hb).mono hb0.size)⟩
    · rw [decide_eq_false he] at hE
      dsimp only at hE
      have HM1 : Hid ((⟨p, q⟩ : M) ∉ D.take (i + 1)) := Lib.hid (by
        rw [HT.out, List.mem_append, List.mem_singleton]
        rintro (h | h)
        · exact HM.out h
        · exact he h.symm)
      clear he
      go_wp2_with fail
      refine wp_region_noPanic ?_
      refine wp_region_held_drew (S := (fun w' => w'.cell? ⟨db, 0, none⟩ = some (.string ⟨p.toArray⟩) ∧ w'.cell? ⟨db, 1, none⟩ = some (.int .u64 (q : Int)) ∧ w'.cell? ⟨b, o + i * 2, none⟩ = some (.string ⟨xp.toArray⟩) ∧ w'.cell? ⟨b, o + i * 2 + 1, none⟩ = some (.int .u64 (xq : Int)))) (by kernel_rfl) (⟨Dots.keepC g0 (Below.drew (Below.refl _ _)), Dots.keepC g1 (Below.drew (Below.refl _ _)), Dots.keepC c0 (Below.drew (Below.refl _ _)), Dots.keepC c1 (Below.drew (Below.refl _ _))⟩) (fun hHeld => ?_)
      refine wpAnyH_take (i := 0) (v := ?_) (by simp only [List.getElem?_toArray, List.getElem?_cons_zero]; rfl) (by kernel_rfl) (by kernel_rfl) (by kernel_rfl) (fun _ _ _ h => h) (Or.inl ⟨by rfl, ?_⟩) (by assumption) ?_
      rotate_left
      · (intro w hSw; (try dsimp only at hSw); go_simp; try with_reducible rfl)
      try simp only [Act.put, List.setIfInBounds_toArray, List.set_cons_zero, List.set_cons_succ]
      refine wpAnyH_take (i := 1) (v := ?_) (by simp only [List.getElem?_toArray, List.getElem?_cons_succ, List.getElem?_cons_zero]; rfl) (by kernel_rfl) (by kernel_rfl) (by kernel_rfl) (fun _ _ _ h => h) (Or.inl ⟨by rfl, ?_⟩) (by assumption) ?_
      rotate_left
      · (intro w hSw; (try dsimp only at hSw); go_simp; try with_reducible rfl)
      try simp only [Act.put, List.setIfInBounds_toArray, List.set_cons_zero, List.set_cons_succ]
      refine wpAnyH_take (i := 2) (v := ?_) (by simp only [List.getElem?_toArray, List.getElem?_cons_succ, List.getElem?_cons_zero]; rfl) (by kernel_rfl) (by kernel_rfl) (by kernel_rfl) (fun _ _ _ h => h) (Or.inl ⟨by rfl, ?_⟩) (by assumption) ?_
      rotate_left
      · (intro w hSw; (try dsimp only at hSw); go_simp; try with_reducible rfl)
      try simp only [Act.put, List.setIfInBounds_toArray, List.set_cons_zero, List.set_cons_succ]
      refine wpAnyH_take (i := 3) (v := ?_) (by simp only [List.getElem?_toArray, List.getElem?_cons_succ, List.getElem?_cons_zero]; rfl) (by kernel_rfl) (by kernel_rfl) (by kernel_rfl) (fun _ _ _ h => h) (Or.inl ⟨by rfl, ?_⟩) (by assumption) ?_
      rotate_left
      · (intro w hSw; (try dsimp only at hSw); go_simp; try with_reducible rfl)
      try simp only [Act.put, List.setIfInBounds_toArray, List.set_cons_zero, List.set_cons_succ]
      refine wpAnyH_take (i := 4) (v := ?_) (by simp only [List.getElem?_toArray, List.getElem?_cons_succ, List.getElem?_cons_zero]; rfl) (by kernel_rfl) (by kernel_rfl) (by kernel_rfl) (fun _ _ _ h => h) (Or.inl ⟨by rfl, ?_⟩) (by assumption) ?_
      rotate_left
      · (intro w hSw; (try dsimp only at hSw); go_simp; try with_reducible rfl)
      try simp only [Act.put, List.setIfInBounds_toArray, List.set_cons_zero, List.set_cons_succ]
      refine wpAnyH_take (i := 5) (v := ?_) (by simp only [List.getElem?_toArray, List.getElem?_cons_succ, List.getElem?_cons_zero]; rfl) (by kernel_rfl) (by kernel_rfl) (by kernel_rfl) (fun _ _ _ h => h) (Or.inl ⟨by rfl, ?_⟩) (by assumption) ?_
      rotate_left
      · (intro w hSw; (try dsimp only at hSw); go_simp; try with_reducible rfl)
      try simp only [Act.put, List.setIfInBounds_toArray, List.set_cons_zero, List.set_cons_succ]
      refine wpAnyH_done (by kernel_rfl) ?_ _
      refine NoPanic.normal ?_
      clear hHeld
      go_wp2
      go_roundw
      case rel => exact ⟨i + 1, by have := HI.out; omega, by go_num, HM1, Below.drew hb⟩
      case measure => have := HI.out; simp [intOf]; omega
theorem insD_cons (m x : M) (l : List M) : insD m (x :: l) = if cmpD m x < 0 then m :: x :: l else x :: insD m l := rfl
/-- What is left to lay. -/
def left (m : M) (z : Bool) (l : List M) : List M := if z then l else insD m l
theorem len_of {m : M} {D K X : List M} (h : insD m D = K ++ X) : K.length ≤ D.length + 1 := by
  have := congrArg List.length h
  rw [insD_len, List.length_append] at this
  omega
set_option maxRecDepth 100000 in
set_option maxHeartbeats 2000000 in
theorem put_any (D : List M) (d : M) (a : Option Addr) (n c : Nat) (w : World) (hD : Row.Lies dE w a n D) (hn : n ≤ 1099511627770) :
    Calls Try.prog 35 #[.slice a n c, .agg #[.string ⟨d.p.toArray⟩, .int .u64 (d.n : Int)]] w fun e w' => ∃ a' c', e = .returned (.slice a' (putD D d).length c') ∧ Row.Lies dE w' a' (putD D d).length (putD D d) ∧ ((a' = a ∧ putD D d = D) ∨ OwnD w' w.heap.size (.slice a' (putD D d).length c') (putD D d)) ∧ Below w.heap.size w w' := by
  have HD := Lib.hid hD
  have HN := Lib.hid hD.1
  have HNN := Lib.hid hn
  obtain ⟨p, q⟩ := d
  have hb0 := balloc (Below.refl w.heap.size w) (.cells #[.string ⟨p.toArray⟩, .int .u64 (q : Int)] 31)
  have f0 : (w.alloc (.cells #[.string ⟨p.toArray⟩, .int .u64 (q : Int)] 31)).cell? ⟨w.heap.size, 0, none⟩ = some (.string ⟨p.toArray⟩) := by rw [World.cell?_alloc_new]; rfl
  have f1 : (w.alloc (.cells #[.string ⟨p.toArray⟩, .int .u64 (q : Int)] 31)).cell? ⟨w.heap.size, 1, none⟩ = some (.int .u64 (q : Int)) := by rw [World.cell?_alloc_new]; rfl
  clear hD
  go_enter Try.func35, Try.ntmps35
  go_upto_region 1 with (fail)
  obtain ⟨w1, hw1⟩ : ∃ v, v = w.alloc (.cells #[.string ⟨p.toArray⟩, .int .u64 (q : Int)] 31) := ⟨_, rfl⟩
  rw [← hw1] at hb0 f0 f1 ⊢
  obtain ⟨db, hdb⟩ : ∃ b, b = w.heap.size := ⟨_, rfl⟩
  rw [← hdb] at f0 f1 ⊢
  have F0 := Lib.hid f0
  have F1 := Lib.hid f1
  have HB0 := Lib.hid hb0
  clear hw1 hdb f0 f1 hb0
  have HM0 : Hid ((⟨p, q⟩ : M) ∉ D.take 0) := Lib.hid (by simp)
  have HL0 : Hid (insD ⟨p, q⟩ D = [] ++ left ⟨p, q⟩ false (D.drop 0)) := Lib.hid rfl
  have HO0 : Hid (OwnD w1 w1.heap.size (.slice none 0 0) []) := Lib.hid (Row.Own.nil _ _)
  have HK0 : Hid (([] : List M).length ≤ n + 1) := Lib.hid (Nat.zero_le _)
  have h1 := Below.refl w1.heap.size w1
  go_wp2_with fail
  go_loopw [5, 6, 7] (fun ov dv iv wr => ∃ (i : Nat) (z : Bool) (K : List M), i ≤ n ∧ iv = .int .i64 i ∧ dv = .bool z ∧ Hid (OwnD wr w1.heap.size ov K) ∧ Hid ((⟨p, q⟩ : M) ∉ D.take i) ∧ Hid (insD ⟨p, q⟩ D = K ++ left ⟨p, q⟩ z (D.drop i)) ∧ Hid (K.length ≤ n + 1) ∧ Below w1.heap.size w1 wr) (fun _ _ iv _ => n - (intOf iv).toNat)
  case atStart => exact ⟨0, false, [], by omega, rfl, rfl, HO0, HM0, HL0, HK0, h1⟩
  case round =>
    clear HO0 HM0 HL0 HK0 h1
    obtain ⟨i, z, K, hi, rfl, rfl, OU, HM, HL, HK, hb⟩ := hrel
    by_cases hlt : i < n
    rotate_left
    · obtain rfl : i = n := by omega
      have d1 : decide ((i : Int) < (i : Int)) = false := decide_eq_false (by omega)
      have hnm : (⟨p, q⟩ : M) ∉ D := by
        have := HM.out
        rwa [List.take_of_length_le (by have := HN.out; omega)] at this
      have hpd : putD D ⟨p, q⟩ = K ++ left ⟨p, q⟩ z [] := by
        have := HL.out
        rw [List.drop_eq_nil_of_le (by have := HN.out; omega)] at this
        rw [← this]; unfold putD; rw [if_neg hnm]
      have HP := Lib.hid hpd
      clear hnm hpd HM HL
      cases z with
      | true =>
        have HP1 : Hid (putD D ⟨p, q⟩ = K) := Lib.hid (by rw [HP.out]; show K ++ [] = K; simp)
        obtain ⟨ka, kc, rfl, -, -, hl, -⟩ := Row.Own.lies OU.out
        have HKL := Lib.hid hl
        have HOW := Lib.hid (Row.Own.base OU.out HB0.out.size)
        clear hl HP OU
        go_wp2
        go_ret
        exact ⟨ka, kc, by rw [HP1.out]; rfl, by rw [HP1.out]; exact HKL.out, .inr (by rw [HP1.out]; exact HOW.out), HB0.out.trans (hb.mono HB0.out.size)⟩
      | false =>
        have HP1 : Hid (putD D ⟨p, q⟩ = K ++ [⟨p, q⟩]) := Lib.hid (by rw [HP.out]; rfl)
        have f0 := Dots.keepC F0.out hb
        have f1 := Dots.keepC F1.out hb
        clear HP
        go_wp2_with (at_builtin; refine Row.wpList_app typD rfl _ _ rfl w1.heap.size _ K rfl (OU.out.alloc _) _ 1 1 [⟨p, q⟩] rfl (Row.lies_new (E := dE) _ ⟨p, q⟩ _) (by have := HK.out; have := HNN.out; omega) (by have := hb.size; rw [World.size_alloc]; omega) ?_; intro v9 w9 o9 _ k9)
        obtain ⟨ka, kc, rfl, -, -, hl, -⟩ := Row.Own.lies o9
        have HKL := Lib.hid hl
        have hb9 := (balloc hb _).trans k9
        have HOW := Lib.hid (Row.Own.base o9 HB0.out.size)
        clear hl OU o9 k9
        go_wp2
        go_ret
        exact ⟨ka, kc, by rw [HP1.out]; rfl, by rw [HP1.out]; exact HKL.out, .inr (by rw [HP1.out]; exact HOW.out), HB0.out.trans (hb9.mono HB0.out.size)⟩
    have d1 : decide ((i : Int) < (n : Int)) = true := decide_eq_true (by omega)
    have j1 : (0 : Int) ≤ (i : Int) := by omega
    have j2 : (i : Int) < (n : Int) := by omega
    have hil : i < D.length := by have := HN.out; omega
    obtain ⟨b, o, rfl, hc⟩ := dots_at HD.out (by omega)
    obtain ⟨c0, c1⟩ := hc i hil
    have hts : D.take (i + 1) = D.take i ++ [D[i]] := List.take_succ_eq_append_getElem hil
    have hmem := List.getElem_mem hil
    have hdr : D.drop i = D[i] :: D.drop (i + 1) := List.drop_eq_getElem_cons hil
    have HLX := HL.out
    rw [hdr] at HLX
    obtain ⟨x, hx⟩ : ∃ x, x = D[i] := ⟨_, rfl⟩
    rw [← hx] at c0 c1 hts hmem HLX
    have HT := Lib.hid hts
    have HX := Lib.hid hmem
    have HL2 := Lib.hid HLX
    have f0 := Dots.keepC F0.out hb
    have f1 := Dots.keepC F1.out hb
    have HI := Lib.hid hlt
    obtain ⟨xp, xq⟩ := x
    simp only at c0 c1
    have C0 := Lib.hid c0
    have C1 := Lib.hid c1
    have hbw := HB0.out.trans (hb.mono HB0.out.size)
    replace c0 := Dots.keepC c0 hbw
    replace c1 := Dots.keepC c1 hbw
    have HNM : ∀ (h : (⟨p, q⟩ : M) ≠ ⟨xp, xq⟩), Hid ((⟨p, q⟩ : M) ∉ D.take (i + 1)) := fun h => Lib.hid (by
      rw [HT.out, List.mem_append, List.mem_singleton]
      rintro (h' | h')
      · exact HM.out h'
      · exact h h')
    have CM := Lib.hid (fun W => RefDots.compare_any ⟨p, q⟩ ⟨xp, xq⟩ W)
    clear hc hil hts hmem hx hlt hdr HLX HL hbw
    rcases Bag.cmpD_ways (⟨p, q⟩ : M) ⟨xp, xq⟩ with h | ⟨h, he⟩ | ⟨h, hne, -⟩
    · rw [h] at CM
      have HNM1 := HNM (fun e => linD.irr (⟨xp, xq⟩ : M) (by rw [e] at h; exact h))
      have HLT : Hid (cmpD (⟨p, q⟩ : M) ⟨xp, xq⟩ < 0) := Lib.hid (by rw [h]; decide)
      clear h HNM HM
      cases z with
      | false =>
        go_wp2_with fail
        refine wp_region_noPanic ?_
        refine wp_region_held_drew (S := (fun w' => Below wr.heap.size wr w' ∧ w'.cell? ⟨db, 0, none⟩ = some (.string ⟨p.toArray⟩) ∧ w'.cell? ⟨db, 1, none⟩ = some (.int .u64 (q : Int)) ∧ w'.cell? ⟨b, o + i * 2, none⟩ = some (.string ⟨xp.toArray⟩) ∧ w'.cell? ⟨b, o + i * 2 + 1, none⟩ = some (.int .u64 (xq : Int)))) (by kernel_rfl) (⟨(Below.drew (Below.refl _ _)), Dots.keepC f0 (Below.drew (Below.refl _ _)), Dots.keepC f1 (Below.drew (Below.refl _ _)), Dots.keepC c0 (Below.drew (Below.refl _ _)), Dots.keepC c1 (Below.drew (Below.refl _ _))⟩) (fun hHeld => ?_)
        refine wpAnyH_take (i := 0) (v := ?_) (by simp only [List.getElem?_toArray, List.getElem?_cons_zero]; rfl) (by kernel_rfl) (by kernel_rfl) (by kernel_rfl) (fun _ _ _ h => h) (Or.inl ⟨by rfl, ?_⟩) (by assumption) ?_
        rotate_left
        · (intro w hSw; (try dsimp only at hSw); go_simp; try with_reducible rfl)
        try simp only [Act.put, List.setIfInBounds_toArray, List.set_cons_zero, List.set_cons_succ]
        refine wpAnyH_take (i := 1) (v := ?_) (by simp only [List.getElem?_toArray, List.getElem?_cons_succ, List.getElem?_cons_zero]; rfl) (by kernel_rfl) (by kernel_rfl) (by kernel_rfl) (fun _ _ _ h => h) (Or.inl ⟨by rfl, ?_⟩) (by assumption) ?_
        rotate_left
        · (intro w hSw; (try dsimp only at hSw); go_simp; try with_reducible rfl)
        try simp only [Act.put, List.setIfInBounds_toArray, List.set_cons_zero, List.set_cons_succ]
        refine wpAnyH_take (i := 2) (v := ?_) (by simp only [List.getElem?_toArray, List.getElem?_cons_succ, List.getElem?_cons_zero]; rfl) (by kernel_rfl) (by kernel_rfl) (by kernel_rfl) (fun _ _ _ h => h) (Or.inl ⟨by rfl, ?_⟩) (by assumption) ?_
        rotate_left
        · (intro w hSw; (try dsimp only at hSw); go_simp; try with_reducible rfl)
        try simp only [Act.put, List.setIfInBounds_toArray, List.set_cons_zero, List.set_cons_succ]
        refine wpAnyH_take (i := 3) (v := ?_) (by simp only [List.getElem?_toArray, List.getElem?_cons_succ, List.getElem?_cons_zero]; rfl) (by kernel_rfl) (by kernel_rfl) (by kernel_rfl) (fun _ _ _ h => h) (Or.inl ⟨by rfl, ?_⟩) (by assumption) ?_
        rotate_left
        · (intro w hSw; (try dsimp only at hSw); go_simp; try with_reducible rfl)
        try simp only [Act.put, List.setIfInBounds_toArray, List.set_cons_zero, List.set_cons_succ]
        refine wpAnyH_take (i := 4) (v := ?_) (by simp only [List.getElem?_toArray, List.getElem?_cons_succ, List.getElem?_cons_zero]; rfl) (by kernel_rfl) (by kernel_rfl) (by kernel_rfl) (fun _ _ _ h => h) (Or.inl ⟨by rfl, ?_⟩) (by assumption) ?_
        rotate_left
        · (intro w hSw; (try dsimp only at hSw); go_simp; try with_reducible rfl)
        try simp only [Act.put, List.setIfInBounds_toArray, List.set_cons_zero, List.set_cons_succ]
        refine wpAnyH_ready (rs := [5]) (by kernel_rfl) (by simp) ?_
        refine AllReadyH.cons (by simp only [List.getElem?_toArray, List.getElem?_cons_succ, List.getElem?_cons_zero]; rfl) (fun K hK => ?_) AllReadyH.nil
        go_simp
        go_at_call 50
        refine (CM.out _).mono ?_
        rintro e w9 ⟨rfl, k9⟩
        go_wp2_with fail
        refine hK.out _ _ (⟨bstep hHeld.1 k9, Dots.keepC hHeld.2.1 k9, Dots.keepC hHeld.2.2.1 k9, Dots.keepC hHeld.2.2.2.1 k9, Dots.keepC hHeld.2.2.2.2 k9⟩) (fun hHeld => ?_)
        clear hK K
        try simp only [Act.put, List.setIfInBounds_toArray, List.set_cons_zero, List.set_cons_succ]
        refine wpAnyH_take (i := 6) (v := ?_) (by simp only [List.getElem?_toArray, List.getElem?_cons_succ, List.getElem?_cons_zero]; rfl) (by kernel_rfl) (by kernel_rfl) (by kernel_rfl) (fun _ _ _ h => h) (Or.inl ⟨by rfl, ?_⟩) (by assumption) ?_
        rotate_left
        · (intro w hSw; (try dsimp only at hSw); go_simp; try with_reducible rfl)
        try simp only [Act.put, List.setIfInBounds_toArray, List.set_cons_zero, List.set_cons_succ]
        refine wpAnyH_done (by kernel_rfl) ?_ _
        refine NoPanic.normal ?_
        obtain ⟨kH, g0, g1, e0, e1⟩ := hHeld
        have hb3 := bstep hb kH
        have OU3 := Lib.hid (Row.Own.below OU.out kH)
        clear k9 OU kH c0 c1 f0 f1 hb
        have HL3 : Hid (insD ⟨p, q⟩ D = (K ++ [⟨p, q⟩] ++ [⟨xp, xq⟩]) ++ left ⟨p, q⟩ true (D.drop (i + 1))) := Lib.hid (by
          rw [HL2.out]
          show K ++ insD ⟨p, q⟩ (⟨xp, xq⟩ :: D.drop (i + 1)) = _
          rw [insD_cons, if_pos HLT.out]
          show _ = K ++ [⟨p, q⟩] ++ [⟨xp, xq⟩] ++ D.drop (i + 1)
          simp)
        go_upto_region 12 with (at_builtin; refine Row.wpList_app typD rfl _ _ rfl w1.heap.size _ (K) rfl (OU3.out.alloc _) _ 1 1 [⟨p, q⟩] rfl (Row.lies_new (E := dE) _ ⟨p, q⟩ _) (by have := HK.out; have := HI.out; have := HNN.out; (try simp only [List.length_append, List.length_singleton]); omega) (by have := hb3.size; rw [World.size_alloc]; omega) ?_; intro v9 w9 o9 _ k9)
        have hb4 := (balloc hb3 _).trans k9
        have OU4 := Lib.hid o9
        have m0 := Dots.keepC C0.out (HB0.out.trans (hb4.mono HB0.out.size))
        have m1 := Dots.keepC C1.out (HB0.out.trans (hb4.mono HB0.out.size))
        clear o9 k9 OU3 hb3 g0 g1 e0 e1
        go_wp2_with (at_builtin; refine Row.wpList_app typD rfl _ _ rfl w1.heap.size _ (K ++ [⟨p, q⟩]) rfl (OU4.out.alloc _) _ 1 1 [⟨xp, xq⟩] rfl (Row.lies_new (E := dE) _ ⟨xp, xq⟩ _) (by have := HK.out; have := HI.out; have := HNN.out; (try simp only [List.length_append, List.length_singleton]); omega) (by have := hb4.size; rw [World.size_alloc]; omega) ?_; intro v9 w9 o9 _ k9)
        have hb5 := (balloc hb4 _).trans k9
        have OU5 := Lib.hid o9
        clear o9 k9
        go_wp2
        go_roundw
        case rel => exact ⟨i + 1, true, K ++ [⟨p, q⟩] ++ [⟨xp, xq⟩], by have := HI.out; omega, by go_num, rfl, OU5, HNM1, HL3, Lib.hid (by have := len_of HL3.out; have := HN.out; omega), hb5⟩
        case measure => have := HI.out; simp [intOf]; omega
      | true =>
        go_wp2_with fail
        refine wp_region_noPanic ?_
        refine wp_region_held_drew (S := (fun w' => Below wr.heap.size wr w' ∧ w'.cell? ⟨db, 0, none⟩ = some (.string ⟨p.toArray⟩) ∧ w'.cell? ⟨db, 1, none⟩ = some (.int .u64 (q : Int)) ∧ w'.cell? ⟨b, o + i * 2, none⟩ = some (.string ⟨xp.toArray⟩) ∧ w'.cell? ⟨b, o + i * 2 + 1, none⟩ = some (.int .u64 (xq : Int)))) (by kernel_rfl) (⟨(Below.drew (Below.refl _ _)), Dots.keepC f0 (Below.drew (Below.refl _ _)), Dots.keepC f1 (Below.drew (Below.refl _ _)), Dots.keepC c0 (Below.drew (Below.refl _ _)), Dots.keepC c1 (Below.drew (Below.refl _ _))⟩) (fun hHeld => ?_)
        refine wpAnyH_take (i := 0) (v := ?_) (by simp only [List.getElem?_toArray, List.getElem?_cons_zero]; rfl) (by kernel_rfl) (by kernel_rfl) (by kernel_rfl) (fun _ _ _ h => h) (Or.inl ⟨by rfl, ?_⟩) (by assumption) ?_
        rotate_left
        · (intro w hSw; (try dsimp only at hSw); go_simp; try with_reducible rfl)
        try simp only [Act.put, List.setIfInBounds_toArray, List.set_cons_zero, List.set_cons_succ]
        refine wpAnyH_take (i := 1) (v := ?_) (by simp only [List.getElem?_toArray, List.getElem?_cons_succ, List.getElem?_cons_zero]; rfl) (by kernel_rfl) (by kernel_rfl) (by kernel_rfl) (fun _ _ _ h => h) (Or.inl ⟨by rfl, ?_⟩) (by assumption) ?_
        rotate_left
        · (intro w hSw; (try dsimp only at hSw); go_simp; try with_reducible rfl)
        try simp only [Act.put, List.setIfInBounds_toArray, List.set_cons_zero, List.set_cons_succ]
        refine wpAnyH_take (i := 2) (v := ?_) (by simp only [List.getElem?_toArray, List.getElem?_cons_succ, List.getElem?_cons_zero]; rfl) (by kernel_rfl) (by kernel_rfl) (by kernel_rfl) (fun _ _ _ h => h) (Or.inl ⟨by rfl, ?_⟩) (by assumption) ?_
        rotate_left
        · (intro w hSw; (try dsimp only at hSw); go_simp; try with_reducible rfl)
        try simp only [Act.put, List.setIfInBounds_toArray, List.set_cons_zero, List.set_cons_succ]
        refine wpAnyH_take (i := 3) (v := ?_) (by simp only [List.getElem?_toArray, List.getElem?_cons_succ, List.getElem?_cons_zero]; rfl) (by kernel_rfl) (by kernel_rfl) (by kernel_rfl) (fun _ _ _ h => h) (Or.inl ⟨by rfl, ?_⟩) (by assumption) ?_
        rotate_left
        · (intro w hSw; (try dsimp only at hSw); go_simp; try with_reducible rfl)
        try simp only [Act.put, List.setIfInBounds_toArray, List.set_cons_zero, List.set_cons_succ]
        refine wpAnyH_take (i := 4) (v := ?_) (by simp only [List.getElem?_toArray, List.getElem?_cons_succ, List.getElem?_cons_zero]; rfl) (by kernel_rfl) (by kernel_rfl) (by kernel_rfl) (fun _ _ _ h => h) (Or.inl ⟨by rfl, ?_⟩) (by assumption) ?_
        rotate_left
        · (intro w hSw; (try dsimp only at hSw); go_simp; try with_reducible rfl)
        try simp only [Act.put, List.setIfInBounds_toArray, List.set_cons_zero, List.set_cons_succ]
        refine wpAnyH_ready (rs := [5]) (by kernel_rfl) (by simp) ?_
        refine AllReadyH.cons (by simp only [List.getElem?_toArray, List.getElem?_cons_succ, List.getElem?_cons_zero]; rfl) (fun K hK => ?_) AllReadyH.nil
        go_simp
        go_at_call 50
        refine (CM.out _).mono ?_
        rintro e w9 ⟨rfl, k9⟩
        go_wp2_with fail
        refine hK.out _ _ (⟨bstep hHeld.1 k9, Dots.keepC hHeld.2.1 k9, Dots.keepC hHeld.2.2.1 k9, Dots.keepC hHeld.2.2.2.1 k9, Dots.keepC hHeld.2.2.2.2 k9⟩) (fun hHeld => ?_)
        clear hK K
        try simp only [Act.put, List.setIfInBounds_toArray, List.set_cons_zero, List.set_cons_succ]
        refine wpAnyH_take (i := 6) (v := ?_) (by simp only [List.getElem?_toArray, List.getElem?_cons_succ, List.getElem?_cons_zero]; rfl) (by kernel_rfl) (by kernel_rfl) (by kernel_rfl) (fun _ _ _ h => h) (Or.inl ⟨by rfl, ?_⟩) (by assumption) ?_
        rotate_left
        · (intro w hSw; (try dsimp only at hSw); go_simp; try with_reducible rfl)
        try simp only [Act.put, List.setIfInBounds_toArray, List.set_cons_zero, List.set_cons_succ]
        refine wpAnyH_done (by kernel_rfl) ?_ _
        refine NoPanic.normal ?_
        obtain ⟨kH, g0, g1, e0, e1⟩ := hHeld
        have hb3 := bstep hb kH
        have OU3 := Lib.hid (Row.Own.below OU.out kH)
        clear k9 OU kH c0 c1 f0 f1 hb
        have HL3 : Hid (insD ⟨p, q⟩ D = (K ++ [⟨xp, xq⟩]) ++ left ⟨p, q⟩ true (D.drop (i + 1))) := Lib.hid (by
          rw [HL2.out]
          show K ++ (⟨xp, xq⟩ :: D.drop (i + 1)) = _
          show _ = K ++ [⟨xp, xq⟩] ++ D.drop (i + 1)
          simp)
        go_wp2_with (at_builtin; refine Row.wpList_app typD rfl _ _ rfl w1.heap.size _ (K) rfl (OU3.out.alloc _) _ 1 1 [⟨xp, xq⟩] rfl (Row.lies_new (E := dE) _ ⟨xp, xq⟩ _) (by have := HK.out; have := HI.out; have := HNN.out; (try simp only [List.length_append, List.length_singleton]); omega) (by have := hb3.size; rw [World.size_alloc]; omega) ?_; intro v9 w9 o9 _ k9)
        have hb5 := (balloc hb3 _).trans k9
        have OU5 := Lib.hid o9
        clear o9 k9
        go_wp2
        go_roundw
        case rel => exact ⟨i + 1, true, K ++ [⟨xp, xq⟩], by have := HI.out; omega, by go_num, rfl, OU5, HNM1, HL3, Lib.hid (by have := len_of HL3.out; have := HN.out; omega), hb5⟩
        case measure => have := HI.out; simp [intOf]; omega
    · rw [h] at CM
      have HP : Hid (putD D ⟨p, q⟩ = D) := Lib.hid (by unfold putD; rw [if_pos (by rw [he]; exact HX.out)])
      clear h he HNM HM
      go_wp2_with fail
      refine wp_region_noPanic ?_
      refine wp_region_held_drew (S := (fun w' => Below wr.heap.size wr w' ∧ w'.cell? ⟨db, 0, none⟩ = some (.string ⟨p.toArray⟩) ∧ w'.cell? ⟨db, 1, none⟩ = some (.int .u64 (q : Int)) ∧ w'.cell? ⟨b, o + i * 2, none⟩ = some (.string ⟨xp.toArray⟩) ∧ w'.cell? ⟨b, o + i * 2 + 1, none⟩ = some (.int .u64 (xq : Int)))) (by kernel_rfl) (⟨(Below.drew (Below.refl _ _)), Dots.keepC f0 (Below.drew (Below.refl _ _)), Dots.keepC f1 (Below.drew (Below.refl _ _)), Dots.keepC c0 (Below.drew (Below.refl _ _)), Dots.keepC c1 (Below.drew (Below.refl _ _))⟩) (fun hHeld => ?_)
      refine wpAnyH_take (i := 0) (v := ?_) (by simp only [List.getElem?_toArray, List.getElem?_cons_zero]; rfl) (by kernel_rfl) (by kernel_rfl) (by kernel_rfl) (fun _ _ _ h => h) (Or.inl ⟨by rfl, ?_⟩) (by assumption) ?_
      rotate_left
      · (intro w hSw; (try dsimp only at hSw); go_simp; try with_reducible rfl)
      try simp only [Act.put, List.setIfInBounds_toArray, List.set_cons_zero, List.set_cons_succ]
      refine wpAnyH_take (i := 1) (v := ?_) (by simp only [List.getElem?_toArray, List.getElem?_cons_succ, List.getElem?_cons_zero]; rfl) (by kernel_rfl) (by kernel_rfl) (by kernel_rfl) (fun _ _ _ h => h) (Or.inl ⟨by rfl, ?_⟩) (by assumption) ?_
      rotate_left
      · (intro w hSw; (try dsimp only at hSw); go_simp; try with_reducible rfl)
      try simp only [Act.put, List.setIfInBounds_toArray, List.set_cons_zero, List.set_cons_succ]
      refine wpAnyH_take (i := 2) (v := ?_) (by simp only [List.getElem?_toArray, List.getElem?_cons_succ, List.getElem?_cons_zero]; rfl) (by kernel_rfl) (by kernel_rfl) (by kernel_rfl) (fun _ _ _ h => h) (Or.inl ⟨by rfl, ?_⟩) (by assumption) ?_
      rotate_left
      · (intro w hSw; (try dsimp only at hSw); go_simp; try with_reducible rfl)
      try simp only [Act.put, List.setIfInBounds_toArray, List.set_cons_zero, List.set_cons_succ]
      refine wpAnyH_take (i := 3) (v := ?_) (by simp only [List.getElem?_toArray, List.getElem?_cons_succ, List.getElem?_cons_zero]; rfl) (by kernel_rfl) (by kernel_rfl) (by kernel_rfl) (fun _ _ _ h => h) (Or.inl ⟨by rfl, ?_⟩) (by assumption) ?_
      rotate_left
      · (intro w hSw; (try dsimp only at hSw); go_simp; try with_reducible rfl)
      try simp only [Act.put, List.setIfInBounds_toArray, List.set_cons_zero, List.set_cons_succ]
      refine wpAnyH_take (i := 4) (v := ?_) (by simp only [List.getElem?_toArray, List.getElem?_cons_succ, List.getElem?_cons_zero]; rfl) (by kernel_rfl) (by kernel_rfl) (by kernel_rfl) (fun _ _ _ h => h) (Or.inl ⟨by rfl, ?_⟩) (by assumption) ?_
      rotate_left
      · (intro w hSw; (try dsimp only at hSw); go_simp; try with_reducible rfl)
      try simp only [Act.put, List.setIfInBounds_toArray, List.set_cons_zero, List.set_cons_succ]
      refine wpAnyH_ready (rs := [5]) (by kernel_rfl) (by simp) ?_
      refine AllReadyH.cons (by simp only [List.getElem?_toArray, List.getElem?_cons_succ, List.getElem?_cons_zero]; rfl) (fun K hK => ?_) AllReadyH.nil
      go_simp
      go_at_call 50
      refine (CM.out _).mono ?_
      rintro e w9 ⟨rfl, k9⟩
      go_wp2_with fail
      refine hK.out _ _ (⟨bstep hHeld.1 k9, Dots.keepC hHeld.2.1 k9, Dots.keepC hHeld.2.2.1 k9, Dots.keepC hHeld.2.2.2.1 k9, Dots.keepC hHeld.2.2.2.2 k9⟩) (fun hHeld => ?_)
      clear hK K
      try simp only [Act.put, List.setIfInBounds_toArray, List.set_cons_zero, List.set_cons_succ]
      refine wpAnyH_take (i := 6) (v := ?_) (by simp only [List.getElem?_toArray, List.getElem?_cons_succ, List.getElem?_cons_zero]; rfl) (by kernel_rfl) (by kernel_rfl) (by kernel_rfl) (fun _ _ _ h => h) (Or.inl ⟨by rfl, ?_⟩) (by assumption) ?_
      rotate_left
      · (intro w hSw; (try dsimp only at hSw); go_simp; try with_reducible rfl)
      try simp only [Act.put, List.setIfInBounds_toArray, List.set_cons_zero, List.set_cons_succ]
      refine wpAnyH_done (by kernel_rfl) ?_ _
      refine NoPanic.normal ?_
      obtain ⟨kH, g0, g1, e0, e1⟩ := hHeld
      have hb3 := bstep hb kH
      have OU3 := Lib.hid (Row.Own.below OU.out kH)
      clear k9 OU kH c0 c1 f0 f1 hb
      have HDE := Lib.hid (Row.Lies.below HD.out (HB0.out.trans (hb3.mono HB0.out.size)))
      go_wp2
      go_ret
      exact ⟨_, c, by rw [HP.out, ← HN.out]; rfl, by rw [HP.out, ← HN.out]; exact HDE.out, .inl ⟨rfl, HP.out⟩, HB0.out.trans (hb3.mono HB0.out.size)⟩
    · rw [h] at CM
      have HNM1 := HNM hne
      have HGE : Hid (0 ≤ cmpD (⟨p, q⟩ : M) ⟨xp, xq⟩) := Lib.hid (by rw [h]; decide)
      clear h hne HNM HM
      cases z with
      | false =>
        go_wp2_with fail
        refine wp_region_noPanic ?_
        refine wp_region_held_drew (S := (fun w' => Below wr.heap.size wr w' ∧ w'.cell? ⟨db, 0, none⟩ = some (.string ⟨p.toArray⟩) ∧ w'.cell? ⟨db, 1, none⟩ = some (.int .u64 (q : Int)) ∧ w'.cell? ⟨b, o + i * 2, none⟩ = some (.string ⟨xp.toArray⟩) ∧ w'.cell? ⟨b, o + i * 2 + 1, none⟩ = some (.int .u64 (xq : Int)))) (by kernel_rfl) (⟨(Below.drew (Below.refl _ _)), Dots.keepC f0 (Below.drew (Below.refl _ _)), Dots.keepC f1 (Below.drew (Below.refl _ _)), Dots.keepC c0 (Below.drew (Below.refl _ _)), Dots.keepC c1 (Below.drew (Below.refl _ _))⟩) (fun hHeld => ?_)
        refine wpAnyH_take (i := 0) (v := ?_) (by simp only [List.getElem?_toArray, List.getElem?_cons_zero]; rfl) (by kernel_rfl) (by kernel_rfl) (by kernel_rfl) (fun _ _ _ h => h) (Or.inl ⟨by rfl, ?_⟩) (by assumption) ?_
        rotate_left
        · (intro w hSw; (try dsimp only at hSw); go_simp; try with_reducible rfl)
        try simp only [Act.put, List.setIfInBounds_toArray, List.set_cons_zero, List.set_cons_succ]
        refine wpAnyH_take (i := 1) (v := ?_) (by simp only [List.getElem?_toArray, List.getElem?_cons_succ, List.getElem?_cons_zero]; rfl) (by kernel_rfl) (by kernel_rfl) (by kernel_rfl) (fun _ _ _ h => h) (Or.inl ⟨by rfl, ?_⟩) (by assumption) ?_
        rotate_left
        · (intro w hSw; (try dsimp only at hSw); go_simp; try with_reducible rfl)
        try simp only [Act.put, List.setIfInBounds_toArray, List.set_cons_zero, List.set_cons_succ]
        refine wpAnyH_take (i := 2) (v := ?_) (by simp only [List.getElem?_toArray, List.getElem?_cons_succ, List.getElem?_cons_zero]; rfl) (by kernel_rfl) (by kernel_rfl) (by kernel_rfl) (fun _ _ _ h => h) (Or.inl ⟨by rfl, ?_⟩) (by assumption) ?_
        rotate_left
        · (intro w hSw; (try dsimp only at hSw); go_simp; try with_reducible rfl)
        try simp only [Act.put, List.setIfInBounds_toArray, List.set_cons_zero, List.set_cons_succ]
        refine wpAnyH_take (i := 3) (v := ?_) (by simp only [List.getElem?_toArray, List.getElem?_cons_succ, List.getElem?_cons_zero]; rfl) (by kernel_rfl) (by kernel_rfl) (by kernel_rfl) (fun _ _ _ h => h) (Or.inl ⟨by rfl, ?_⟩) (by assumption) ?_
        rotate_left
        · (intro w hSw; (try dsimp only at hSw); go_simp; try with_reducible rfl)
        try simp only [Act.put, List.setIfInBounds_toArray, List.set_cons_zero, List.set_cons_succ]
        refine wpAnyH_take (i := 4) (v := ?_) (by simp only [List.getElem?_toArray, List.getElem?_cons_succ, List.getElem?_cons_zero]; rfl) (by kernel_rfl) (by kernel_rfl) (by kernel_rfl) (fun _ _ _ h => h) (Or.inl ⟨by rfl, ?_⟩) (by assumption) ?_
        rotate_left
        · (intro w hSw; (try dsimp only at hSw); go_simp; try with_reducible rfl)
        try simp only [Act.put, List.setIfInBounds_toArray, List.set_cons_zero, List.set_cons_succ]
        refine wpAnyH_ready (rs := [5]) (by kernel_rfl) (by simp) ?_
        refine AllReadyH.cons (by simp only [List.getElem?_toArray, List.getElem?_cons_succ, List.getElem?_cons_zero]; rfl) (fun K hK => ?_) AllReadyH.nil
        go_simp
        go_at_call 50
        refine (CM.out _).mono ?_
        rintro e w9 ⟨rfl, k9⟩
        go_wp2_with fail
        refine hK.out _ _ (⟨bstep hHeld.1 k9, Dots.keepC hHeld.2.1 k9, Dots.keepC hHeld.2.2.1 k9, Dots.keepC hHeld.2.2.2.1 k9, Dots.keepC hHeld.2.2.2.2 k9⟩) (fun hHeld => ?_)
        clear hK K
        try simp only [Act.put, List.setIfInBounds_toArray, List.set_cons_zero, List.set_cons_succ]
        refine wpAnyH_take (i := 6) (v := ?_) (by simp only [List.getElem?_toArray, List.getElem?_cons_succ, List.getElem?_cons_zero]; rfl) (by kernel_rfl) (by kernel_rfl) (by kernel_rfl) (fun _ _ _ h => h) (Or.inl ⟨by rfl, ?_⟩) (by assumption) ?_
        rotate_left
        · (intro w hSw; (try dsimp only at hSw); go_simp; try with_reducible rfl)
        try simp only [Act.put, List.setIfInBounds_toArray, List.set_cons_zero, List.set_cons_succ]
        refine wpAnyH_done (by kernel_rfl) ?_ _
        refine NoPanic.normal ?_
        obtain ⟨kH, g0, g1, e0, e1⟩ := hHeld
        have hb3 := bstep hb kH
        have OU3 := Lib.hid (Row.Own.below OU.out kH)
        clear k9 OU kH c0 c1 f0 f1 hb
        have HL3 : Hid (insD ⟨p, q⟩ D = (K ++ [⟨xp, xq⟩]) ++ left ⟨p, q⟩ false (D.drop (i + 1))) := Lib.hid (by
          rw [HL2.out]
          show K ++ insD ⟨p, q⟩ (⟨xp, xq⟩ :: D.drop (i + 1)) = _
          rw [insD_cons, if_neg (by have := HGE.out; omega)]
          show _ = K ++ [⟨xp, xq⟩] ++ insD ⟨p, q⟩ (D.drop (i + 1))
          simp)
        go_wp2_with (at_builtin; refine Row.wpList_app typD rfl _ _ rfl w1.heap.size _ (K) rfl (OU3.out.alloc _) _ 1 1 [⟨xp, xq⟩] rfl (Row.lies_new (E := dE) _ ⟨xp, xq⟩ _) (by have := HK.out; have := HI.out; have := HNN.out; (try simp only [List.length_append, List.length_singleton]); omega) (by have := hb3.size; rw [World.size_alloc]; omega) ?_; intro v9 w9 o9 _ k9)
        have hb5 := (balloc hb3 _).trans k9
        have OU5 := Lib.hid o9
        clear o9 k9
        go_wp2
        go_roundw
        case rel => exact ⟨i + 1, false, K ++ [⟨xp, xq⟩], by have := HI.out; omega, by go_num, rfl, OU5, HNM1, HL3, Lib.hid (by have := len_of HL3.out; have := HN.out; omega), hb5⟩
        case measure => have := HI.out; simp [intOf]; omega
      | true =>
        go_wp2_with fail
        refine wp_region_noPanic ?_
        refine wp_region_held_drew (S := (fun w' => Below wr.heap.size wr w' ∧ w'.cell? ⟨db, 0, none⟩ = some (.string ⟨p.toArray⟩) ∧ w'.cell? ⟨db, 1, none⟩ = some (.int .u64 (q : Int)) ∧ w'.cell? ⟨b, o + i * 2, none⟩ = some (.string ⟨xp.toArray⟩) ∧ w'.cell? ⟨b, o + i * 2 + 1, none⟩ = some (.int .u64 (xq : Int)))) (by kernel_rfl) (⟨(Below.drew (Below.refl _ _)), Dots.keepC f0 (Below.drew (Below.refl _ _)), Dots.keepC f1 (Below.drew (Below.refl _ _)), Dots.keepC c0 (Below.drew (Below.refl _ _)), Dots.keepC c1 (Below.drew (Below.refl _ _))⟩) (fun hHeld => ?_)
        refine wpAnyH_take (i := 0) (v := ?_) (by simp only [List.getElem?_toArray, List.getElem?_cons_zero]; rfl) (by kernel_rfl) (by kernel_rfl) (by kernel_rfl) (fun _ _ _ h => h) (Or.inl ⟨by rfl, ?_⟩) (by assumption) ?_
        rotate_left
        · (intro w hSw; (try dsimp only at hSw); go_simp; try with_reducible rfl)
        try simp only [Act.put, List.setIfInBounds_toArray, List.set_cons_zero, List.set_cons_succ]
        refine wpAnyH_take (i := 1) (v := ?_) (by simp only [List.getElem?_toArray, List.getElem?_cons_succ, List.getElem?_cons_zero]; rfl) (by kernel_rfl) (by kernel_rfl) (by kernel_rfl) (fun _ _ _ h => h) (Or.inl ⟨by rfl, ?_⟩) (by assumption) ?_
        rotate_left
        · (intro w hSw; (try dsimp only at hSw); go_simp; try with_reducible rfl)
        try simp only [Act.put, List.setIfInBounds_toArray, List.set_cons_zero, List.set_cons_succ]
        refine wpAnyH_take (i := 2) (v := ?_) (by simp only [List.getElem?_toArray, List.getElem?_cons_succ, List.getElem?_cons_zero]; rfl) (by kernel_rfl) (by kernel_rfl) (by kernel_rfl) (fun _ _ _ h => h) (Or.inl ⟨by rfl, ?_⟩) (by assumption) ?_
        rotate_left
        · (intro w hSw; (try dsimp only at hSw); go_simp; try with_reducible rfl)
        try simp only [Act.put, List.setIfInBounds_toArray, List.set_cons_zero, List.set_cons_succ]
        refine wpAnyH_take (i := 3) (v := ?_) (by simp only [List.getElem?_toArray, List.getElem?_cons_succ, List.getElem?_cons_zero]; rfl) (by kernel_rfl) (by kernel_rfl) (by kernel_rfl) (fun _ _ _ h => h) (Or.inl ⟨by rfl, ?_⟩) (by assumption) ?_
        rotate_left
        · (intro w hSw; (try dsimp only at hSw); go_simp; try with_reducible rfl)
        try simp only [Act.put, List.setIfInBounds_toArray, List.set_cons_zero, List.set_cons_succ]
        refine wpAnyH_take (i := 4) (v := ?_) (by simp only [List.getElem?_toArray, List.getElem?_cons_succ, List.getElem?_cons_zero]; rfl) (by kernel_rfl) (by kernel_rfl) (by kernel_rfl) (fun _ _ _ h => h) (Or.inl ⟨by rfl, ?_⟩) (by assumption) ?_
        rotate_left
        · (intro w hSw; (try dsimp only at hSw); go_simp; try with_reducible rfl)
        try simp only [Act.put, List.setIfInBounds_toArray, List.set_cons_zero, List.set_cons_succ]
        refine wpAnyH_ready (rs := [5]) (by kernel_rfl) (by simp) ?_
        refine AllReadyH.cons (by simp only [List.getElem?_toArray, List.getElem?_cons_succ, List.getElem?_cons_zero]; rfl) (fun K hK => ?_) AllReadyH.nil
        go_simp
        go_at_call 50
        refine (CM.out _).mono ?_
        rintro e w9 ⟨rfl, k9⟩
        go_wp2_with fail
        refine hK.out _ _ (⟨bstep hHeld.1 k9, Dots.keepC hHeld.2.1 k9, Dots.keepC hHeld.2.2.1 k9, Dots.keepC hHeld.2.2.2.1 k9, Dots.keepC hHeld.2.2.2.2 k9⟩) (fun hHeld => ?_)
        clear hK K
        try simp only [Act.put, List.setIfInBounds_toArray, List.set_cons_zero, List.set_cons_succ]
        refine wpAnyH_take (i := 6) (v := ?_) (by simp only [List.getElem?_toArray, List.getElem?_cons_succ, List.getElem?_cons_zero]; rfl) (by kernel_rfl) (by kernel_rfl) (by kernel_rfl) (fun _ _ _ h => h) (Or.inl ⟨by rfl, ?_⟩) (by assumption) ?_
        rotate_left
        · (intro w hSw; (try dsimp only at hSw); go_simp; try with_reducible rfl)
        try simp only [Act.put, List.setIfInBounds_toArray, List.set_cons_zero, List.set_cons_succ]
        refine wpAnyH_done (by kernel_rfl) ?_ _
        refine NoPanic.normal ?_
        obtain ⟨kH, g0, g1, e0, e1⟩ := hHeld
        have hb3 := bstep hb kH
        have OU3 := Lib.hid (Row.Own.below OU.out kH)
        clear k9 OU kH c0 c1 f0 f1 hb
        have HL3 : Hid (insD ⟨p, q⟩ D = (K ++ [⟨xp, xq⟩]) ++ left ⟨p, q⟩ true (D.drop (i + 1))) := Lib.hid (by
          rw [HL2.out]
          show K ++ (⟨xp, xq⟩ :: D.drop (i + 1)) = _
          show _ = K ++ [⟨xp, xq⟩] ++ D.drop (i + 1)
          simp)
        go_wp2_with (at_builtin; refine Row.wpList_app typD rfl _ _ rfl w1.heap.size _ (K) rfl (OU3.out.alloc _) _ 1 1 [⟨xp, xq⟩] rfl (Row.lies_new (E := dE) _ ⟨xp, xq⟩ _) (by have := HK.out; have := HI.out; have := HNN.out; (try simp only [List.length_append, List.length_singleton]); omega) (by have := hb3.size; rw [World.size_alloc]; omega) ?_; intro v9 w9 o9 _ k9)
        have hb5 := (balloc hb3 _).trans k9
        have OU5 := Lib.hid o9
        clear o9 k9
        go_wp2
        go_roundw
        case rel => exact ⟨i + 1, true, K ++ [⟨xp, xq⟩], by have := HI.out; omega, by go_num, rfl, OU5, HNM1, HL3, Lib.hid (by have := len_of HL3.out; have := HN.out; omega), hb5⟩
        case measure => have := HI.out; simp [intOf]; omega
end RefBag
end Go.Proofs.Ytnlbgjghckbbcaa
