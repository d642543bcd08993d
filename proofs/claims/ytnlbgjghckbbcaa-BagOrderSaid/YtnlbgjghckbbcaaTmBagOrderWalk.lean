/- BagOrder: the walk. -/
import Derived.Test.YtnlbgjghckbbcaaTmBagOrderPlain
namespace Go.Proofs.Ytnlbgjghckbbcaa
namespace BagOrder
open Go.RowKit Go.Proofs.Ytnlbgjghckbbcaa.Mark Go.Proofs.Ytnlbgjghckbbcaa.Dots Go.Proofs.Ytnlbgjghckbbcaa.Bag Go.Proofs.Ytnlbgjghckbbcaa.BagEv Go.Proofs.Ytnlbgjghckbbcaa.BagLaw
theorem set_new {B : Nat} {w W : World} (h : Below B w W) {b j : Nat} {v : Value} (hb : B ≤ b) (hB : B ≤ w.heap.size) : Below B w (W.setCell ⟨b, j, none⟩ v) := Below.grown h (grown_set _ _ _ _) (Nat.le_trans hB h.size) (fun q e => by cases e; exact hb)
set_option maxRecDepth 100000 in
set_option maxHeartbeats 8000000 in
theorem walk (a0 : Option Addr) (len0 cap0 : Nat) (w : World) (w0 : Recs w [.int .u8, .int .u8, .int .u8, .int .u8] a0 len0) (r0 : len0 ≤ 140737488351232) :
    Calls Try.prog 6 #[.slice a0 len0 cap0] w fun e w' => e = .returned (.bool true) ∧ Below w.heap.size w w' := by
  have hb := Below.refl w.heap.size w
  have hmk : ∀ W, (Instr.makeSlice 48 (.int .i64 3) (.int .i64 3)).run Try.prog W = .ok (.slice (some ⟨W.heap.size, 0, none⟩) 3 3) (W.alloc (.cells (repZ 3) 56)) := fun W => make_reps 3 (by omega) W
  have HD := Lib.hid w0
  clear w0
  go_enter Try.func6, Try.ntmps6
  by_cases hl : 60 < len0
  · have d0 : decide ((60 : Int) < (len0 : Int)) = true := decide_eq_true (by omega)
    clear hl hmk
    go_wp2_with fail
    refine (alive_any _).mono ?_
    rintro e v1 ⟨rfl, k1⟩
    replace hb := bstep hb k1
    clear k1
    go_wp2
    go_ret
    exact ⟨rfl, hb⟩
  have d0 : decide ((60 : Int) < (len0 : Int)) = false := decide_eq_false (by omega)
  have HLN : Hid (len0 ≤ 60) := Lib.hid (by omega)
  clear hl
  go_upto_region 4 with (fail)
  have hb1 := balloc hb (.cells (repZ 3) 56)
  have P0 := Lib.hid (play_start 3 (by omega) w)
  obtain ⟨wa, hwa⟩ : ∃ v, v = w.alloc (.cells (repZ 3) 56) := ⟨_, rfl⟩
  rw [← hwa] at hb1 P0 ⊢
  obtain ⟨rb, hrb⟩ : ∃ b, b = w.heap.size := ⟨_, rfl⟩
  rw [show Play none wa w.heap.size w.heap.size = Play none wa w.heap.size rb by rw [← hrb]] at P0
  try rw [← hrb]
  have HR0 := Lib.hid (Rel.start 3 (by omega))
  clear hwa hmk hb hrb
  go_wp2_with fail
  go_loopw [4, 5] (fun av iv wr => ∃ (i : Nat) (aa : Option Addr) (ac : Nat) (Ls : List Rp) (Es : List Er) (es : List Ev) (K : Nat → List Bool) (v : Nat → Nat → Nat), i ≤ len0 ∧ iv = .int .i64 i ∧ av = .slice aa Es.length ac ∧ Hid (Play none wr w.heap.size rb (.slice aa Es.length ac) Ls Es) ∧ Hid (Rel 3 Ls Es es K v) ∧ Hid (es.length ≤ i) ∧ Below w.heap.size w wr) (fun _ iv _ => len0 - (intOf iv).toNat)
  case atStart => exact ⟨0, none, 0, _, [], [], _, _, by omega, rfl, rfl, P0, HR0, Lib.hid (Nat.le_refl _), hb1⟩
  case round =>
    clear P0 HR0 hb1
    obtain ⟨i, aa, ac, Ls, Es, es, K, v, hi, rfl, rfl, PL, HR, HE, hb⟩ := hrel
    have hl60 := HLN.out
    by_cases hlt : i < len0
    · have d1 : decide ((i : Int) < (len0 : Int)) = true := decide_eq_true (by omega)
      have i1 : (0 : Int) ≤ (i : Int) := by omega
      have i2 : (i : Int) < (len0 : Int) := by omega
      obtain ⟨b, off, rfl, hbl, hdc⟩ := deed_at HD.out (by omega)
      obtain ⟨d, n, tx, ot, bd, bn, bt, bo, c0, c1, c2, c3⟩ := hdc i hlt
      replace c0 := Dots.keepC c0 hb
      replace c1 := Dots.keepC c1 hb
      replace c2 := Dots.keepC c2 hb
      replace c3 := Dots.keepC c3 hb
      have DO := Lib.hid (does_any 3 w.heap.size rb Ls Es es K v aa ac d n tx ot wr bd bn bt bo PL.out HR.out (by omega) (by have := HE.out; omega) hb.size)
      have HI := Lib.hid hlt
      have HEI := HE
      clear hdc hbl bd bn bt bo PL HR HE hlt
      go_wp2_with fail
      refine DO.out.mono ?_
      rintro e vd ⟨aa2, ac2, Ls2, Es2, es2, K2, v2, rfl, hP, hR, hes, kd⟩
      have PL := Lib.hid hP
      have HR := Lib.hid hR
      have HE2 : Hid (es2.length ≤ i + 1) := Lib.hid (by have := HEI.out; omega)
      have hbd := hb.trans kd
      have hjw := HI.out
      clear hP hR hes kd DO c0 c1 c2 c3 HEI hb
      go_wp2
      go_roundw
      case rel => exact ⟨i + 1, aa2, ac2, Ls2, Es2, es2, K2, v2, by omega, by go_num, rfl, PL, HR, HE2, hbd⟩
      case measure => simp [intOf]; omega
    have hin : len0 = i := by omega
    subst hin
    have d1 : decide ((len0 : Int) < (len0 : Int)) = false := decide_eq_false (by omega)
    have he60 : Hid (es.length ≤ 60) := Lib.hid (by have := HE.out; omega)
    have h30 : 0 < Ls.length := by rw [HR.out.len]; omega
    have h31 : 1 < Ls.length := by rw [HR.out.len]; omega
    have h32 : 2 < Ls.length := by rw [HR.out.len]; omega
    obtain ⟨a0, a1, a2⟩ := PL.out.cells h30
    obtain ⟨b0, b1, b2⟩ := PL.out.cells h31
    obtain ⟨c0, c1, c2⟩ := PL.out.cells h32
    obtain ⟨X, hX⟩ : ∃ X, X = Ls[0] := ⟨_, rfl⟩
    obtain ⟨Y, hY⟩ : ∃ X, X = Ls[1] := ⟨_, rfl⟩
    obtain ⟨Z, hZ⟩ : ∃ X, X = Ls[2] := ⟨_, rfl⟩
    rw [← hX] at a0 a1 a2
    rw [← hY] at b0 b1 b2
    rw [← hZ] at c0 c1 c2
    have HX := Lib.hid hX
    have HY := Lib.hid hY
    have HZ := Lib.hid hZ
    unfold Rp.lv at a0 b0 c0
    unfold Rp.vv at a1 b1 c1
    unfold Rp.kv at a2 b2 c2
    simp only [Nat.zero_mul, Nat.one_mul, Nat.zero_add, Nat.reduceMul, Nat.reduceAdd] at a0 a1 a2 b0 b1 b2 c0 c1 c2
    have hr0 := Below.refl wr.heap.size wr
    clear hX hY hZ
    go_upto_region 12 with (fail)
    go_cut [8, 9, 10] (fun v8 v9 v10 wx => ∃ na nb nc, v8 = .pointer (some ⟨na, 0, none⟩) ∧ v9 = .pointer (some ⟨nb, 0, none⟩) ∧ v10 = .pointer (some ⟨nc, 0, none⟩) ∧ wx.cell? ⟨na, 0, none⟩ = some (.slice X.la X.R.length X.lc) ∧ wx.cell? ⟨na, 1, none⟩ = some (.slice X.va X.V.length X.vc) ∧ wx.cell? ⟨nb, 0, none⟩ = some (.slice Y.la Y.R.length Y.lc) ∧ wx.cell? ⟨nb, 1, none⟩ = some (.slice Y.va Y.V.length Y.vc) ∧ wx.cell? ⟨nc, 0, none⟩ = some (.slice Z.la Z.R.length Z.lc) ∧ wx.cell? ⟨nc, 1, none⟩ = some (.slice Z.va Z.V.length Z.vc) ∧ Below wr.heap.size wr wx)
    case first =>
      go_wp2_with fail
      refine wp_region_noPanic ?_
      refine wp_region_held_drew (S := (fun w' => Below wr.heap.size wr w' ∧ w'.cell? ⟨rb, 0, none⟩ = some (.slice X.la X.R.length X.lc) ∧ w'.cell? ⟨rb, 1, none⟩ = some (.slice X.va X.V.length X.vc) ∧ w'.cell? ⟨rb, 2, none⟩ = some (.slice X.ka X.K.length X.kc) ∧ w'.cell? ⟨rb, 3, none⟩ = some (.slice Y.la Y.R.length Y.lc) ∧ w'.cell? ⟨rb, 4, none⟩ = some (.slice Y.va Y.V.length Y.vc) ∧ w'.cell? ⟨rb, 5, none⟩ = some (.slice Y.ka Y.K.length Y.kc) ∧ w'.cell? ⟨rb, 6, none⟩ = some (.slice Z.la Z.R.length Z.lc) ∧ w'.cell? ⟨rb, 7, none⟩ = some (.slice Z.va Z.V.length Z.vc) ∧ w'.cell? ⟨rb, 8, none⟩ = some (.slice Z.ka Z.K.length Z.kc))) (by kernel_rfl) (⟨Below.drew hr0, Dots.keepC a0 (Below.drew hr0), Dots.keepC a1 (Below.drew hr0), Dots.keepC a2 (Below.drew hr0), Dots.keepC b0 (Below.drew hr0), Dots.keepC b1 (Below.drew hr0), Dots.keepC b2 (Below.drew hr0), Dots.keepC c0 (Below.drew hr0), Dots.keepC c1 (Below.drew hr0), Dots.keepC c2 (Below.drew hr0)⟩) (fun hHeld => ?_)
      refine wpAnyH_take (i := 0) (v := ?_) (by simp only [List.getElem?_toArray, List.getElem?_cons_zero]; rfl) (by kernel_rfl) (by kernel_rfl) (by kernel_rfl) (fun _ _ _ h => h) (Or.inl ⟨by rfl, ?_⟩) (by assumption) ?_
      rotate_left
      · (intro w hSw; (try dsimp only at hSw); go_simp; try with_reducible rfl)
      try simp only [Act.put, List.setIfInBounds_toArray, List.set_cons_zero, List.set_cons_succ]
      refine wpAnyH_take (i := 1) (v := ?_) (by simp only [List.getElem?_toArray, List.getElem?_cons_succ, List.getElem?_cons_zero]; rfl) (by kernel_rfl) (by kernel_rfl) (by kernel_rfl) (fun _ _ _ h => h) (Or.inl ⟨by rfl, ?_⟩) (by assumption) ?_
      rotate_left
      · (intro w hSw; (try dsimp only at hSw); go_simp; try with_reducible rfl)
      try simp only [Act.put, List.setIfInBounds_toArray, List.set_cons_zero, List.set_cons_succ]
      refine wpAnyH_take (i := 2) (v := ?_) (by simp only [List.getElem?_toArray, List.getElem?_cons_succ, List.getElem?_cons_zero]; rfl) (by kernel_rfl) (by kernel_rfl) (by kernel_rfl) (fun _ _ _ h => h) (Or.inl ⟨by rfl, ?_⟩) (by assumption) ?_
      rotate_left
      · (intro w hSw; (try dsimp only at hSw); go_simp; try with_reducible rfl)
      try simp only [Act.put, List.setIfInBounds_toArray, List.set_cons_zero, List.set_cons_succ]
      refine wpAnyH_take (i := 3) (v := ?_) (by simp only [List.getElem?_toArray, List.getElem?_cons_succ, List.getElem?_cons_zero]; rfl) (by kernel_rfl) (by kernel_rfl) (by kernel_rfl) (fun _ _ _ h => h) (Or.inl ⟨by rfl, ?_⟩) (by assumption) ?_
      rotate_left
      · (intro w hSw; (try dsimp only at hSw); go_simp; try with_reducible rfl)
      try simp only [Act.put, List.setIfInBounds_toArray, List.set_cons_zero, List.set_cons_succ]
      refine wpAnyH_take (i := 4) (v := ?_) (by simp only [List.getElem?_toArray, List.getElem?_cons_succ, List.getElem?_cons_zero]; rfl) (by kernel_rfl) (by kernel_rfl) (by kernel_rfl) (fun _ _ _ h => h) (Or.inl ⟨by rfl, ?_⟩) (by assumption) ?_
      rotate_left
      · (intro w hSw; (try dsimp only at hSw); go_simp; try with_reducible rfl)
      try simp only [Act.put, List.setIfInBounds_toArray, List.set_cons_zero, List.set_cons_succ]
      refine wpAnyH_take (i := 5) (v := ?_) (by simp only [List.getElem?_toArray, List.getElem?_cons_succ, List.getElem?_cons_zero]; rfl) (by kernel_rfl) (by kernel_rfl) (by kernel_rfl) (fun _ _ _ h => h) (Or.inl ⟨by rfl, ?_⟩) (by assumption) ?_
      rotate_left
      · (intro w hSw; (try dsimp only at hSw); go_simp; try with_reducible rfl)
      try simp only [Act.put, List.setIfInBounds_toArray, List.set_cons_zero, List.set_cons_succ]
      refine wpAnyH_take (i := 6) (v := ?_) (by simp only [List.getElem?_toArray, List.getElem?_cons_succ, List.getElem?_cons_zero]; rfl) (by kernel_rfl) (by kernel_rfl) (by kernel_rfl) (fun _ _ _ h => h) (Or.inl ⟨by rfl, ?_⟩) (by assumption) ?_
      rotate_left
      · (intro w hSw; (try dsimp only at hSw); go_simp; try with_reducible rfl)
      try simp only [Act.put, List.setIfInBounds_toArray, List.set_cons_zero, List.set_cons_succ]
      refine wpAnyH_take (i := 7) (v := ?_) (by simp only [List.getElem?_toArray, List.getElem?_cons_succ, List.getElem?_cons_zero]; rfl) (by kernel_rfl) (by kernel_rfl) (by kernel_rfl) (fun _ _ _ h => h) (Or.inl ⟨by rfl, ?_⟩) (by assumption) ?_
      rotate_left
      · (intro w hSw; (try dsimp only at hSw); go_simp; try with_reducible rfl)
      try simp only [Act.put, List.setIfInBounds_toArray, List.set_cons_zero, List.set_cons_succ]
      refine wpAnyH_take (i := 8) (v := ?_) (by simp only [List.getElem?_toArray, List.getElem?_cons_succ, List.getElem?_cons_zero]; rfl) (by kernel_rfl) (by kernel_rfl) (by kernel_rfl) (fun _ _ _ h => h) (Or.inl ⟨by rfl, ?_⟩) (by assumption) ?_
      rotate_left
      · (intro w hSw; (try dsimp only at hSw); go_simp; try with_reducible rfl)
      try simp only [Act.put, List.setIfInBounds_toArray, List.set_cons_zero, List.set_cons_succ]
      refine wpAnyH_ready (rs := [9, 10, 11]) (by kernel_rfl) (by simp) ?_
      refine AllReadyH.cons (by simp only [List.getElem?_toArray, List.getElem?_cons_succ, List.getElem?_cons_zero]; rfl) (fun K hK => ?_) (AllReadyH.cons (by simp only [List.getElem?_toArray, List.getElem?_cons_succ, List.getElem?_cons_zero]; rfl) (fun K hK => ?_) (AllReadyH.cons (by simp only [List.getElem?_toArray, List.getElem?_cons_succ, List.getElem?_cons_zero]; rfl) (fun K hK => ?_) (AllReadyH.nil)))
      · skip
        go_simp
        refine hK.out _ _ ((fun {W : World} (BX : Below wr.heap.size wr W) => (⟨BX, Dots.keepC a0 BX, Dots.keepC a1 BX, Dots.keepC a2 BX, Dots.keepC b0 BX, Dots.keepC b1 BX, Dots.keepC b2 BX, Dots.keepC c0 BX, Dots.keepC c1 BX, Dots.keepC c2 BX⟩ : (fun w' => Below wr.heap.size wr w' ∧ w'.cell? ⟨rb, 0, none⟩ = some (.slice X.la X.R.length X.lc) ∧ w'.cell? ⟨rb, 1, none⟩ = some (.slice X.va X.V.length X.vc) ∧ w'.cell? ⟨rb, 2, none⟩ = some (.slice X.ka X.K.length X.kc) ∧ w'.cell? ⟨rb, 3, none⟩ = some (.slice Y.la Y.R.length Y.lc) ∧ w'.cell? ⟨rb, 4, none⟩ = some (.slice Y.va Y.V.length Y.vc) ∧ w'.cell? ⟨rb, 5, none⟩ = some (.slice Y.ka Y.K.length Y.kc) ∧ w'.cell? ⟨rb, 6, none⟩ = some (.slice Z.la Z.R.length Z.lc) ∧ w'.cell? ⟨rb, 7, none⟩ = some (.slice Z.va Z.V.length Z.vc) ∧ w'.cell? ⟨rb, 8, none⟩ = some (.slice Z.ka Z.K.length Z.kc)) W)) (by repeat (first | exact Below.refl _ _ | apply Below.drew | apply balloc | refine set_new ?_ (by simp only [World.size_alloc]; omega) (Nat.le_refl _)))) (fun hHeld => ?_)
        clear hK K
        try simp only [Act.put, List.setIfInBounds_toArray, List.set_cons_zero, List.set_cons_succ]
        refine wpAnyH_ready (rs := [10, 11]) (by kernel_rfl) (by simp) ?_
        refine AllReadyH.cons (by simp only [List.getElem?_toArray, List.getElem?_cons_succ, List.getElem?_cons_zero]; rfl) (fun K hK => ?_) (AllReadyH.cons (by simp only [List.getElem?_toArray, List.getElem?_cons_succ, List.getElem?_cons_zero]; rfl) (fun K hK => ?_) (AllReadyH.nil))
        · skip
          go_simp
          refine hK.out _ _ ((fun {W : World} (BX : Below wr.heap.size wr W) => (⟨BX, Dots.keepC a0 BX, Dots.keepC a1 BX, Dots.keepC a2 BX, Dots.keepC b0 BX, Dots.keepC b1 BX, Dots.keepC b2 BX, Dots.keepC c0 BX, Dots.keepC c1 BX, Dots.keepC c2 BX⟩ : (fun w' => Below wr.heap.size wr w' ∧ w'.cell? ⟨rb, 0, none⟩ = some (.slice X.la X.R.length X.lc) ∧ w'.cell? ⟨rb, 1, none⟩ = some (.slice X.va X.V.length X.vc) ∧ w'.cell? ⟨rb, 2, none⟩ = some (.slice X.ka X.K.length X.kc) ∧ w'.cell? ⟨rb, 3, none⟩ = some (.slice Y.la Y.R.length Y.lc) ∧ w'.cell? ⟨rb, 4, none⟩ = some (.slice Y.va Y.V.length Y.vc) ∧ w'.cell? ⟨rb, 5, none⟩ = some (.slice Y.ka Y.K.length Y.kc) ∧ w'.cell? ⟨rb, 6, none⟩ = some (.slice Z.la Z.R.length Z.lc) ∧ w'.cell? ⟨rb, 7, none⟩ = some (.slice Z.va Z.V.length Z.vc) ∧ w'.cell? ⟨rb, 8, none⟩ = some (.slice Z.ka Z.K.length Z.kc)) W)) (by repeat (first | exact Below.refl _ _ | apply Below.drew | apply balloc | refine set_new ?_ (by simp only [World.size_alloc]; omega) (Nat.le_refl _)))) (fun hHeld => ?_)
          clear hK K
          try simp only [Act.put, List.setIfInBounds_toArray, List.set_cons_zero, List.set_cons_succ]
          refine wpAnyH_ready (rs := [11]) (by kernel_rfl) (by simp) ?_
          refine AllReadyH.cons (by simp only [List.getElem?_toArray, List.getElem?_cons_succ, List.getElem?_cons_zero]; rfl) (fun K hK => ?_) AllReadyH.nil
          go_simp
          refine hK.out _ _ ((fun {W : World} (BX : Below wr.heap.size wr W) => (⟨BX, Dots.keepC a0 BX, Dots.keepC a1 BX, Dots.keepC a2 BX, Dots.keepC b0 BX, Dots.keepC b1 BX, Dots.keepC b2 BX, Dots.keepC c0 BX, Dots.keepC c1 BX, Dots.keepC c2 BX⟩ : (fun w' => Below wr.heap.size wr w' ∧ w'.cell? ⟨rb, 0, none⟩ = some (.slice X.la X.R.length X.lc) ∧ w'.cell? ⟨rb, 1, none⟩ = some (.slice X.va X.V.length X.vc) ∧ w'.cell? ⟨rb, 2, none⟩ = some (.slice X.ka X.K.length X.kc) ∧ w'.cell? ⟨rb, 3, none⟩ = some (.slice Y.la Y.R.length Y.lc) ∧ w'.cell? ⟨rb, 4, none⟩ = some (.slice Y.va Y.V.length Y.vc) ∧ w'.cell? ⟨rb, 5, none⟩ = some (.slice Y.ka Y.K.length Y.kc) ∧ w'.cell? ⟨rb, 6, none⟩ = some (.slice Z.la Z.R.length Z.lc) ∧ w'.cell? ⟨rb, 7, none⟩ = some (.slice Z.va Z.V.length Z.vc) ∧ w'.cell? ⟨rb, 8, none⟩ = some (.slice Z.ka Z.K.length Z.kc)) W)) (by repeat (first | exact Below.refl _ _ | apply Below.drew | apply balloc | refine set_new ?_ (by simp only [World.size_alloc]; omega) (Nat.le_refl _)))) (fun hHeld => ?_)
          clear hK K
          try simp only [Act.put, List.setIfInBounds_toArray, List.set_cons_zero, List.set_cons_succ]
          refine wpAnyH_ready (rs := [12]) (by kernel_rfl) (by simp) ?_
          refine AllReadyH.cons (by simp only [List.getElem?_toArray, List.getElem?_cons_succ, List.getElem?_cons_zero]; rfl) (fun K hK => ?_) AllReadyH.nil
          go_simp
          refine hK.out _ _ ((fun {W : World} (BX : Below wr.heap.size wr W) => (⟨BX, Dots.keepC a0 BX, Dots.keepC a1 BX, Dots.keepC a2 BX, Dots.keepC b0 BX, Dots.keepC b1 BX, Dots.keepC b2 BX, Dots.keepC c0 BX, Dots.keepC c1 BX, Dots.keepC c2 BX⟩ : (fun w' => Below wr.heap.size wr w' ∧ w'.cell? ⟨rb, 0, none⟩ = some (.slice X.la X.R.length X.lc) ∧ w'.cell? ⟨rb, 1, none⟩ = some (.slice X.va X.V.length X.vc) ∧ w'.cell? ⟨rb, 2, none⟩ = some (.slice X.ka X.K.length X.kc) ∧ w'.cell? ⟨rb, 3, none⟩ = some (.slice Y.la Y.R.length Y.lc) ∧ w'.cell? ⟨rb, 4, none⟩ = some (.slice Y.va Y.V.length Y.vc) ∧ w'.cell? ⟨rb, 5, none⟩ = some (.slice Y.ka Y.K.length Y.kc) ∧ w'.cell? ⟨rb, 6, none⟩ = some (.slice Z.la Z.R.length Z.lc) ∧ w'.cell? ⟨rb, 7, none⟩ = some (.slice Z.va Z.V.length Z.vc) ∧ w'.cell? ⟨rb, 8, none⟩ = some (.slice Z.ka Z.K.length Z.kc)) W)) (by repeat (first | exact Below.refl _ _ | apply Below.drew | apply balloc | refine set_new ?_ (by simp only [World.size_alloc]; omega) (Nat.le_refl _)))) (fun hHeld => ?_)
          clear hK K
          refine wpAnyH_ready (rs := [13]) (by kernel_rfl) (by simp) ?_
          refine AllReadyH.cons (by simp only [List.getElem?_toArray, List.getElem?_cons_succ, List.getElem?_cons_zero]; rfl) (fun K hK => ?_) AllReadyH.nil
          go_simp
          refine hK.out _ _ ((fun {W : World} (BX : Below wr.heap.size wr W) => (⟨BX, Dots.keepC a0 BX, Dots.keepC a1 BX, Dots.keepC a2 BX, Dots.keepC b0 BX, Dots.keepC b1 BX, Dots.keepC b2 BX, Dots.keepC c0 BX, Dots.keepC c1 BX, Dots.keepC c2 BX⟩ : (fun w' => Below wr.heap.size wr w' ∧ w'.cell? ⟨rb, 0, none⟩ = some (.slice X.la X.R.length X.lc) ∧ w'.cell? ⟨rb, 1, none⟩ = some (.slice X.va X.V.length X.vc) ∧ w'.cell? ⟨rb, 2, none⟩ = some (.slice X.ka X.K.length X.kc) ∧ w'.cell? ⟨rb, 3, none⟩ = some (.slice Y.la Y.R.length Y.lc) ∧ w'.cell? ⟨rb, 4, none⟩ = some (.slice Y.va Y.V.length Y.vc) ∧ w'.cell? ⟨rb, 5, none⟩ = some (.slice Y.ka Y.K.length Y.kc) ∧ w'.cell? ⟨rb, 6, none⟩ = some (.slice Z.la Z.R.length Z.lc) ∧ w'.cell? ⟨rb, 7, none⟩ = some (.slice Z.va Z.V.length Z.vc) ∧ w'.cell? ⟨rb, 8, none⟩ = some (.slice Z.ka Z.K.length Z.kc)) W)) (by repeat (first | exact Below.refl _ _ | apply Below.drew | apply balloc | refine set_new ?_ (by simp only [World.size_alloc]; omega) (Nat.le_refl _)))) (fun hHeld => ?_)
          clear hK K
          refine wpAnyH_ready (rs := [14]) (by kernel_rfl) (by simp) ?_
          refine AllReadyH.cons (by simp only [List.getElem?_toArray, List.getElem?_cons_succ, List.getElem?_cons_zero]; rfl) (fun K hK => ?_) AllReadyH.nil
          go_simp
          refine hK.out _ _ ((fun {W : World} (BX : Below wr.heap.size wr W) => (⟨BX, Dots.keepC a0 BX, Dots.keepC a1 BX, Dots.keepC a2 BX, Dots.keepC b0 BX, Dots.keepC b1 BX, Dots.keepC b2 BX, Dots.keepC c0 BX, Dots.keepC c1 BX, Dots.keepC c2 BX⟩ : (fun w' => Below wr.heap.size wr w' ∧ w'.cell? ⟨rb, 0, none⟩ = some (.slice X.la X.R.length X.lc) ∧ w'.cell? ⟨rb, 1, none⟩ = some (.slice X.va X.V.length X.vc) ∧ w'.cell? ⟨rb, 2, none⟩ = some (.slice X.ka X.K.length X.kc) ∧ w'.cell? ⟨rb, 3, none⟩ = some (.slice Y.la Y.R.length Y.lc) ∧ w'.cell? ⟨rb, 4, none⟩ = some (.slice Y.va Y.V.length Y.vc) ∧ w'.cell? ⟨rb, 5, none⟩ = some (.slice Y.ka Y.K.length Y.kc) ∧ w'.cell? ⟨rb, 6, none⟩ = some (.slice Z.la Z.R.length Z.lc) ∧ w'.cell? ⟨rb, 7, none⟩ = some (.slice Z.va Z.V.length Z.vc) ∧ w'.cell? ⟨rb, 8, none⟩ = some (.slice Z.ka Z.K.length Z.kc)) W)) (by repeat (first | exact Below.refl _ _ | apply Below.drew | apply balloc | refine set_new ?_ (by simp only [World.size_alloc]; omega) (Nat.le_refl _)))) (fun hHeld => ?_)
          clear hK K
          refine wpAnyH_done (by kernel_rfl) ?_ _
          refine NoPanic.normal ?_
          clear hHeld
          go_wp2_with fail
          go_meet
          have K3 := three_at wr 56 #[.slice X.la X.R.length X.lc, .slice X.va X.V.length X.vc, .slice X.ka X.K.length X.kc] #[.slice Y.la Y.R.length Y.lc, .slice Y.va Y.V.length Y.vc, .slice Y.ka Y.K.length Y.kc] #[.slice Z.la Z.R.length Z.lc, .slice Z.va Z.V.length Z.vc, .slice Z.ka Z.K.length Z.kc]
          exact ⟨wr.heap.size, wr.heap.size + 1, wr.heap.size + 2, rfl, rfl, rfl, K3.1 0 _ rfl, K3.1 1 _ rfl, K3.2.1 0 _ rfl, K3.2.1 1 _ rfl, K3.2.2 0 _ rfl, K3.2.2 1 _ rfl, Below.drew (balloc (balloc (balloc (Below.refl _ _) _) _) _)⟩
        · skip
          go_simp
          refine hK.out _ _ ((fun {W : World} (BX : Below wr.heap.size wr W) => (⟨BX, Dots.keepC a0 BX, Dots.keepC a1 BX, Dots.keepC a2 BX, Dots.keepC b0 BX, Dots.keepC b1 BX, Dots.keepC b2 BX, Dots.keepC c0 BX, Dots.keepC c1 BX, Dots.keepC c2 BX⟩ : (fun w' => Below wr.heap.size wr w' ∧ w'.cell? ⟨rb, 0, none⟩ = some (.slice X.la X.R.length X.lc) ∧ w'.cell? ⟨rb, 1, none⟩ = some (.slice X.va X.V.length X.vc) ∧ w'.cell? ⟨rb, 2, none⟩ = some (.slice X.ka X.K.length X.kc) ∧ w'.cell? ⟨rb, 3, none⟩ = some (.slice Y.la Y.R.length Y.lc) ∧ w'.cell? ⟨rb, 4, none⟩ = some (.slice Y.va Y.V.length Y.vc) ∧ w'.cell? ⟨rb, 5, none⟩ = some (.slice Y.ka Y.K.length Y.kc) ∧ w'.cell? ⟨rb, 6, none⟩ = some (.slice Z.la Z.R.length Z.lc) ∧ w'.cell? ⟨rb, 7, none⟩ = some (.slice Z.va Z.V.length Z.vc) ∧ w'.cell? ⟨rb, 8, none⟩ = some (.slice Z.ka Z.K.length Z.kc)) W)) (by repeat (first | exact Below.refl _ _ | apply Below.drew | apply balloc | refine set_new ?_ (by simp only [World.size_alloc]; omega) (Nat.le_refl _)))) (fun hHeld => ?_)
          clear hK K
          try simp only [Act.put, List.setIfInBounds_toArray, List.set_cons_zero, List.set_cons_succ]
          refine wpAnyH_ready (rs := [10]) (by kernel_rfl) (by simp) ?_
          refine AllReadyH.cons (by simp only [List.getElem?_toArray, List.getElem?_cons_succ, List.getElem?_cons_zero]; rfl) (fun K hK => ?_) AllReadyH.nil
          go_simp
          refine hK.out _ _ ((fun {W : World} (BX : Below wr.heap.size wr W) => (⟨BX, Dots.keepC a0 BX, Dots.keepC a1 BX, Dots.keepC a2 BX, Dots.keepC b0 BX, Dots.keepC b1 BX, Dots.keepC b2 BX, Dots.keepC c0 BX, Dots.keepC c1 BX, Dots.keepC c2 BX⟩ : (fun w' => Below wr.heap.size wr w' ∧ w'.cell? ⟨rb, 0, none⟩ = some (.slice X.la X.R.length X.lc) ∧ w'.cell? ⟨rb, 1, none⟩ = some (.slice X.va X.V.length X.vc) ∧ w'.cell? ⟨rb, 2, none⟩ = some (.slice X.ka X.K.length X.kc) ∧ w'.cell? ⟨rb, 3, none⟩ = some (.slice Y.la Y.R.length Y.lc) ∧ w'.cell? ⟨rb, 4, none⟩ = some (.slice Y.va Y.V.length Y.vc) ∧ w'.cell? ⟨rb, 5, none⟩ = some (.slice Y.ka Y.K.length Y.kc) ∧ w'.cell? ⟨rb, 6, none⟩ = some (.slice Z.la Z.R.length Z.lc) ∧ w'.cell? ⟨rb, 7, none⟩ = some (.slice Z.va Z.V.length Z.vc) ∧ w'.cell? ⟨rb, 8, none⟩ = some (.slice Z.ka Z.K.length Z.kc)) W)) (by repeat (first | exact Below.refl _ _ | apply Below.drew | apply balloc | refine set_new ?_ (by simp only [World.size_alloc]; omega) (Nat.le_refl _)))) (fun hHeld => ?_)
          clear hK K
          try simp only [Act.put, List.setIfInBounds_toArray, List.set_cons_zero, List.set_cons_succ]
          refine wpAnyH_ready (rs := [12]) (by kernel_rfl) (by simp) ?_
          refine AllReadyH.cons (by simp only [List.getElem?_toArray, List.getElem?_cons_succ, List.getElem?_cons_zero]; rfl) (fun K hK => ?_) AllReadyH.nil
          go_simp
          refine hK.out _ _ ((fun {W : World} (BX : Below wr.heap.size wr W) => (⟨BX, Dots.keepC a0 BX, Dots.keepC a1 BX, Dots.keepC a2 BX, Dots.keepC b0 BX, Dots.keepC b1 BX, Dots.keepC b2 BX, Dots.keepC c0 BX, Dots.keepC c1 BX, Dots.keepC c2 BX⟩ : (fun w' => Below wr.heap.size wr w' ∧ w'.cell? ⟨rb, 0, none⟩ = some (.slice X.la X.R.length X.lc) ∧ w'.cell? ⟨rb, 1, none⟩ = some (.slice X.va X.V.length X.vc) ∧ w'.cell? ⟨rb, 2, none⟩ = some (.slice X.ka X.K.length X.kc) ∧ w'.cell? ⟨rb, 3, none⟩ = some (.slice Y.la Y.R.length Y.lc) ∧ w'.cell? ⟨rb, 4, none⟩ = some (.slice Y.va Y.V.length Y.vc) ∧ w'.cell? ⟨rb, 5, none⟩ = some (.slice Y.ka Y.K.length Y.kc) ∧ w'.cell? ⟨rb, 6, none⟩ = some (.slice Z.la Z.R.length Z.lc) ∧ w'.cell? ⟨rb, 7, none⟩ = some (.slice Z.va Z.V.length Z.vc) ∧ w'.cell? ⟨rb, 8, none⟩ = some (.slice Z.ka Z.K.length Z.kc)) W)) (by repeat (first | exact Below.refl _ _ | apply Below.drew | apply balloc | refine set_new ?_ (by simp only [World.size_alloc]; omega) (Nat.le_refl _)))) (fun hHeld => ?_)
          clear hK K
          refine wpAnyH_ready (rs := [13]) (by kernel_rfl) (by simp) ?_
          refine AllReadyH.cons (by simp only [List.getElem?_toArray, List.getElem?_cons_succ, List.getElem?_cons_zero]; rfl) (fun K hK => ?_) AllReadyH.nil
          go_simp
          refine hK.out _ _ ((fun {W : World} (BX : Below wr.heap.size wr W) => (⟨BX, Dots.keepC a0 BX, Dots.keepC a1 BX, Dots.keepC a2 BX, Dots.keepC b0 BX, Dots.keepC b1 BX, Dots.keepC b2 BX, Dots.keepC c0 BX, Dots.keepC c1 BX, Dots.keepC c2 BX⟩ : (fun w' => Below wr.heap.size wr w' ∧ w'.cell? ⟨rb, 0, none⟩ = some (.slice X.la X.R.length X.lc) ∧ w'.cell? ⟨rb, 1, none⟩ = some (.slice X.va X.V.length X.vc) ∧ w'.cell? ⟨rb, 2, none⟩ = some (.slice X.ka X.K.length X.kc) ∧ w'.cell? ⟨rb, 3, none⟩ = some (.slice Y.la Y.R.length Y.lc) ∧ w'.cell? ⟨rb, 4, none⟩ = some (.slice Y.va Y.V.length Y.vc) ∧ w'.cell? ⟨rb, 5, none⟩ = some (.slice Y.ka Y.K.length Y.kc) ∧ w'.cell? ⟨rb, 6, none⟩ = some (.slice Z.la Z.R.length Z.lc) ∧ w'.cell? ⟨rb, 7, none⟩ = some (.slice Z.va Z.V.length Z.vc) ∧ w'.cell? ⟨rb, 8, none⟩ = some (.slice Z.ka Z.K.length Z.kc)) W)) (by repeat (first | exact Below.refl _ _ | apply Below.drew | apply balloc | refine set_new ?_ (by simp only [World.size_alloc]; omega) (Nat.le_refl _)))) (fun hHeld => ?_)
          clear hK K
          refine wpAnyH_ready (rs := [14]) (by kernel_rfl) (by simp) ?_
          refine AllReadyH.cons (by simp only [List.getElem?_toArray, List.getElem?_cons_succ, List.getElem?_cons_zero]; rfl) (fun K hK => ?_) AllReadyH.nil
          go_simp
          refine hK.out _ _ ((fun {W : World} (BX : Below wr.heap.size wr W) => (⟨BX, Dots.keepC a0 BX, Dots.keepC a1 BX, Dots.keepC a2 BX, Dots.keepC b0 BX, Dots.keepC b1 BX, Dots.keepC b2 BX, Dots.keepC c0 BX, Dots.keepC c1 BX, Dots.keepC c2 BX⟩ : (fun w' => Below wr.heap.size wr w' ∧ w'.cell? ⟨rb, 0, none⟩ = some (.slice X.la X.R.length X.lc) ∧ w'.cell? ⟨rb, 1, none⟩ = some (.slice X.va X.V.length X.vc) ∧ w'.cell? ⟨rb, 2, none⟩ = some (.slice X.ka X.K.length X.kc) ∧ w'.cell? ⟨rb, 3, none⟩ = some (.slice Y.la Y.R.length Y.lc) ∧ w'.cell? ⟨rb, 4, none⟩ = some (.slice Y.va Y.V.length Y.vc) ∧ w'.cell? ⟨rb, 5, none⟩ = some (.slice Y.ka Y.K.length Y.kc) ∧ w'.cell? ⟨rb, 6, none⟩ = some (.slice Z.la Z.R.length Z.lc) ∧ w'.cell? ⟨rb, 7, none⟩ = some (.slice Z.va Z.V.length Z.vc) ∧ w'.cell? ⟨rb, 8, none⟩ = some (.slice Z.ka Z.K.length Z.kc)) W)) (by repeat (first | exact Below.refl _ _ | apply Below.drew | apply balloc | refine set_new ?_ (by simp only [World.size_alloc]; omega) (Nat.le_refl _)))) (fun hHeld => ?_)
          clear hK K
          refine wpAnyH_done (by kernel_rfl) ?_ _
          refine NoPanic.normal ?_
          clear hHeld
          go_wp2_with fail
          go_meet
          have K3 := three_at wr 56 #[.slice X.la X.R.length X.lc, .slice X.va X.V.length X.vc, .slice X.ka X.K.length X.kc] #[.slice Z.la Z.R.length Z.lc, .slice Z.va Z.V.length Z.vc, .slice Z.ka Z.K.length Z.kc] #[.slice Y.la Y.R.length Y.lc, .slice Y.va Y.V.length Y.vc, .slice Y.ka Y.K.length Y.kc]
          exact ⟨wr.heap.size, wr.heap.size + 2, wr.heap.size + 1, rfl, rfl, rfl, K3.1 0 _ rfl, K3.1 1 _ rfl, K3.2.2 0 _ rfl, K3.2.2 1 _ rfl, K3.2.1 0 _ rfl, K3.2.1 1 _ rfl, Below.drew (balloc (balloc (balloc (Below.refl _ _) _) _) _)⟩
      · skip
        go_simp
        refine hK.out _ _ ((fun {W : World} (BX : Below wr.heap.size wr W) => (⟨BX, Dots.keepC a0 BX, Dots.keepC a1 BX, Dots.keepC a2 BX, Dots.keepC b0 BX, Dots.keepC b1 BX, Dots.keepC b2 BX, Dots.keepC c0 BX, Dots.keepC c1 BX, Dots.keepC c2 BX⟩ : (fun w' => Below wr.heap.size wr w' ∧ w'.cell? ⟨rb, 0, none⟩ = some (.slice X.la X.R.length X.lc) ∧ w'.cell? ⟨rb, 1, none⟩ = some (.slice X.va X.V.length X.vc) ∧ w'.cell? ⟨rb, 2, none⟩ = some (.slice X.ka X.K.length X.kc) ∧ w'.cell? ⟨rb, 3, none⟩ = some (.slice Y.la Y.R.length Y.lc) ∧ w'.cell? ⟨rb, 4, none⟩ = some (.slice Y.va Y.V.length Y.vc) ∧ w'.cell? ⟨rb, 5, none⟩ = some (.slice Y.ka Y.K.length Y.kc) ∧ w'.cell? ⟨rb, 6, none⟩ = some (.slice Z.la Z.R.length Z.lc) ∧ w'.cell? ⟨rb, 7, none⟩ = some (.slice Z.va Z.V.length Z.vc) ∧ w'.cell? ⟨rb, 8, none⟩ = some (.slice Z.ka Z.K.length Z.kc)) W)) (by repeat (first | exact Below.refl _ _ | apply Below.drew | apply balloc | refine set_new ?_ (by simp only [World.size_alloc]; omega) (Nat.le_refl _)))) (fun hHeld => ?_)
        clear hK K
        try simp only [Act.put, List.setIfInBounds_toArray, List.set_cons_zero, List.set_cons_succ]
        refine wpAnyH_ready (rs := [9, 11]) (by kernel_rfl) (by simp) ?_
        refine AllReadyH.cons (by simp only [List.getElem?_toArray, List.getElem?_cons_succ, List.getElem?_cons_zero]; rfl) (fun K hK => ?_) (AllReadyH.cons (by simp only [List.getElem?_toArray, List.getElem?_cons_succ, List.getElem?_cons_zero]; rfl) (fun K hK => ?_) (AllReadyH.nil))
        · skip
          go_simp
          refine hK.out _ _ ((fun {W : World} (BX : Below wr.heap.size wr W) => (⟨BX, Dots.keepC a0 BX, Dots.keepC a1 BX, Dots.keepC a2 BX, Dots.keepC b0 BX, Dots.keepC b1 BX, Dots.keepC b2 BX, Dots.keepC c0 BX, Dots.keepC c1 BX, Dots.keepC c2 BX⟩ : (fun w' => Below wr.heap.size wr w' ∧ w'.cell? ⟨rb, 0, none⟩ = some (.slice X.la X.R.length X.lc) ∧ w'.cell? ⟨rb, 1, none⟩ = some (.slice X.va X.V.length X.vc) ∧ w'.cell? ⟨rb, 2, none⟩ = some (.slice X.ka X.K.length X.kc) ∧ w'.cell? ⟨rb, 3, none⟩ = some (.slice Y.la Y.R.length Y.lc) ∧ w'.cell? ⟨rb, 4, none⟩ = some (.slice Y.va Y.V.length Y.vc) ∧ w'.cell? ⟨rb, 5, none⟩ = some (.slice Y.ka Y.K.length Y.kc) ∧ w'.cell? ⟨rb, 6, none⟩ = some (.slice Z.la Z.R.length Z.lc) ∧ w'.cell? ⟨rb, 7, none⟩ = some (.slice Z.va Z.V.length Z.vc) ∧ w'.cell? ⟨rb, 8, none⟩ = some (.slice Z.ka Z.K.length Z.kc)) W)) (by repeat (first | exact Below.refl _ _ | apply Below.drew | apply balloc | refine set_new ?_ (by simp only [World.size_alloc]; omega) (Nat.le_refl _)))) (fun hHeld => ?_)
          clear hK K
          try simp only [Act.put, List.setIfInBounds_toArray, List.set_cons_zero, List.set_cons_succ]
          refine wpAnyH_ready (rs := [11]) (by kernel_rfl) (by simp) ?_
          refine AllReadyH.cons (by simp only [List.getElem?_toArray, List.getElem?_cons_succ, List.getElem?_cons_zero]; rfl) (fun K hK => ?_) AllReadyH.nil
          go_simp
          refine hK.out _ _ ((fun {W : World} (BX : Below wr.heap.size wr W) => (⟨BX, Dots.keepC a0 BX, Dots.keepC a1 BX, Dots.keepC a2 BX, Dots.keepC b0 BX, Dots.keepC b1 BX, Dots.keepC b2 BX, Dots.keepC c0 BX, Dots.keepC c1 BX, Dots.keepC c2 BX⟩ : (fun w' => Below wr.heap.size wr w' ∧ w'.cell? ⟨rb, 0, none⟩ = some (.slice X.la X.R.length X.lc) ∧ w'.cell? ⟨rb, 1, none⟩ = some (.slice X.va X.V.length X.vc) ∧ w'.cell? ⟨rb, 2, none⟩ = some (.slice X.ka X.K.length X.kc) ∧ w'.cell? ⟨rb, 3, none⟩ = some (.slice Y.la Y.R.length Y.lc) ∧ w'.cell? ⟨rb, 4, none⟩ = some (.slice Y.va Y.V.length Y.vc) ∧ w'.cell? ⟨rb, 5, none⟩ = some (.slice Y.ka Y.K.length Y.kc) ∧ w'.cell? ⟨rb, 6, none⟩ = some (.slice Z.la Z.R.length Z.lc) ∧ w'.cell? ⟨rb, 7, none⟩ = some (.slice Z.va Z.V.length Z.vc) ∧ w'.cell? ⟨rb, 8, none⟩ = some (.slice Z.ka Z.K.length Z.kc)) W)) (by repeat (first | exact Below.refl _ _ | apply Below.drew | apply balloc | refine set_new ?_ (by simp only [World.size_alloc]; omega) (Nat.le_refl _)))) (fun hHeld => ?_)
          clear hK K
          try simp only [Act.put, List.setIfInBounds_toArray, List.set_cons_zero, List.set_cons_succ]
          refine wpAnyH_ready (rs := [12]) (by kernel_rfl) (by simp) ?_
          refine AllReadyH.cons (by simp only [List.getElem?_toArray, List.getElem?_cons_succ, List.getElem?_cons_zero]; rfl) (fun K hK => ?_) AllReadyH.nil
          go_simp
          refine hK.out _ _ ((fun {W : World} (BX : Below wr.heap.size wr W) => (⟨BX, Dots.keepC a0 BX, Dots.keepC a1 BX, Dots.keepC a2 BX, Dots.keepC b0 BX, Dots.keepC b1 BX, Dots.keepC b2 BX, Dots.keepC c0 BX, Dots.keepC c1 BX, Dots.keepC c2 BX⟩ : (fun w' => Below wr.heap.size wr w' ∧ w'.cell? ⟨rb, 0, none⟩ = some (.slice X.la X.R.length X.lc) ∧ w'.cell? ⟨rb, 1, none⟩ = some (.slice X.va X.V.length X.vc) ∧ w'.cell? ⟨rb, 2, none⟩ = some (.slice X.ka X.K.length X.kc) ∧ w'.cell? ⟨rb, 3, none⟩ = some (.slice Y.la Y.R.length Y.lc) ∧ w'.cell? ⟨rb, 4, none⟩ = some (.slice Y.va Y.V.length Y.vc) ∧ w'.cell? ⟨rb, 5, none⟩ = some (.slice Y.ka Y.K.length Y.kc) ∧ w'.cell? ⟨rb, 6, none⟩ = some (.slice Z.la Z.R.length Z.lc) ∧ w'.cell? ⟨rb, 7, none⟩ = some (.slice Z.va Z.V.length Z.vc) ∧ w'.cell? ⟨rb, 8, none⟩ = some (.slice Z.ka Z.K.length Z.kc)) W)) (by repeat (first | exact Below.refl _ _ | apply Below.drew | apply balloc | refine set_new ?_ (by simp only [World.size_alloc]; omega) (Nat.le_refl _)))) (fun hHeld => ?_)
          clear hK K
          refine wpAnyH_ready (rs := [13]) (by kernel_rfl) (by simp) ?_
          refine AllReadyH.cons (by simp only [List.getElem?_toArray, List.getElem?_cons_succ, List.getElem?_cons_zero]; rfl) (fun K hK => ?_) AllReadyH.nil
          go_simp
          refine hK.out _ _ ((fun {W : World} (BX : Below wr.heap.size wr W) => (⟨BX, Dots.keepC a0 BX, Dots.keepC a1 BX, Dots.keepC a2 BX, Dots.keepC b0 BX, Dots.keepC b1 BX, Dots.keepC b2 BX, Dots.keepC c0 BX, Dots.keepC c1 BX, Dots.keepC c2 BX⟩ : (fun w' => Below wr.heap.size wr w' ∧ w'.cell? ⟨rb, 0, none⟩ = some (.slice X.la X.R.length X.lc) ∧ w'.cell? ⟨rb, 1, none⟩ = some (.slice X.va X.V.length X.vc) ∧ w'.cell? ⟨rb, 2, none⟩ = some (.slice X.ka X.K.length X.kc) ∧ w'.cell? ⟨rb, 3, none⟩ = some (.slice Y.la Y.R.length Y.lc) ∧ w'.cell? ⟨rb, 4, none⟩ = some (.slice Y.va Y.V.length Y.vc) ∧ w'.cell? ⟨rb, 5, none⟩ = some (.slice Y.ka Y.K.length Y.kc) ∧ w'.cell? ⟨rb, 6, none⟩ = some (.slice Z.la Z.R.length Z.lc) ∧ w'.cell? ⟨rb, 7, none⟩ = some (.slice Z.va Z.V.length Z.vc) ∧ w'.cell? ⟨rb, 8, none⟩ = some (.slice Z.ka Z.K.length Z.kc)) W)) (by repeat (first | exact Below.refl _ _ | apply Below.drew | apply balloc | refine set_new ?_ (by simp only [World.size_alloc]; omega) (Nat.le_refl _)))) (fun hHeld => ?_)
          clear hK K
          refine wpAnyH_ready (rs := [14]) (by kernel_rfl) (by simp) ?_
          refine AllReadyH.cons (by simp only [List.getElem?_toArray, List.getElem?_cons_succ, List.getElem?_cons_zero]; rfl) (fun K hK => ?_) AllReadyH.nil
          go_simp
          refine hK.out _ _ ((fun {W : World} (BX : Below wr.heap.size wr W) => (⟨BX, Dots.keepC a0 BX, Dots.keepC a1 BX, Dots.keepC a2 BX, Dots.keepC b0 BX, Dots.keepC b1 BX, Dots.keepC b2 BX, Dots.keepC c0 BX, Dots.keepC c1 BX, Dots.keepC c2 BX⟩ : (fun w' => Below wr.heap.size wr w' ∧ w'.cell? ⟨rb, 0, none⟩ = some (.slice X.la X.R.length X.lc) ∧ w'.cell? ⟨rb, 1, none⟩ = some (.slice X.va X.V.length X.vc) ∧ w'.cell? ⟨rb, 2, none⟩ = some (.slice X.ka X.K.length X.kc) ∧ w'.cell? ⟨rb, 3, none⟩ = some (.slice Y.la Y.R.length Y.lc) ∧ w'.cell? ⟨rb, 4, none⟩ = some (.slice Y.va Y.V.length Y.vc) ∧ w'.cell? ⟨rb, 5, none⟩ = some (.slice Y.ka Y.K.length Y.kc) ∧ w'.cell? ⟨rb, 6, none⟩ = some (.slice Z.la Z.R.length Z.lc) ∧ w'.cell? ⟨rb, 7, none⟩ = some (.slice Z.va Z.V.length Z.vc) ∧ w'.cell? ⟨rb, 8, none⟩ = some (.slice Z.ka Z.K.length Z.kc)) W)) (by repeat (first | exact Below.refl _ _ | apply Below.drew | apply balloc | refine set_new ?_ (by simp only [World.size_alloc]; omega) (Nat.le_refl _)))) (fun hHeld => ?_)
          clear hK K
          refine wpAnyH_done (by kernel_rfl) ?_ _
          refine NoPanic.normal ?_
          clear hHeld
          go_wp2_with fail
          go_meet
          have K3 := three_at wr 56 #[.slice Y.la Y.R.length Y.lc, .slice Y.va Y.V.length Y.vc, .slice Y.ka Y.K.length Y.kc] #[.slice X.la X.R.length X.lc, .slice X.va X.V.length X.vc, .slice X.ka X.K.length X.kc] #[.slice Z.la Z.R.length Z.lc, .slice Z.va Z.V.length Z.vc, .slice Z.ka Z.K.length Z.kc]
          exact ⟨wr.heap.size + 1, wr.heap.size, wr.heap.size + 2, rfl, rfl, rfl, K3.2.1 0 _ rfl, K3.2.1 1 _ rfl, K3.1 0 _ rfl, K3.1 1 _ rfl, K3.2.2 0 _ rfl, K3.2.2 1 _ rfl, Below.drew (balloc (balloc (balloc (Below.refl _ _) _) _) _)⟩
        · skip
          go_simp
          refine hK.out _ _ ((fun {W : World} (BX : Below wr.heap.size wr W) => (⟨BX, Dots.keepC a0 BX, Dots.keepC a1 BX, Dots.keepC a2 BX, Dots.keepC b0 BX, Dots.keepC b1 BX, Dots.keepC b2 BX, Dots.keepC c0 BX, Dots.keepC c1 BX, Dots.keepC c2 BX⟩ : (fun w' => Below wr.heap.size wr w' ∧ w'.cell? ⟨rb, 0, none⟩ = some (.slice X.la X.R.length X.lc) ∧ w'.cell? ⟨rb, 1, none⟩ = some (.slice X.va X.V.length X.vc) ∧ w'.cell? ⟨rb, 2, none⟩ = some (.slice X.ka X.K.length X.kc) ∧ w'.cell? ⟨rb, 3, none⟩ = some (.slice Y.la Y.R.length Y.lc) ∧ w'.cell? ⟨rb, 4, none⟩ = some (.slice Y.va Y.V.length Y.vc) ∧ w'.cell? ⟨rb, 5, none⟩ = some (.slice Y.ka Y.K.length Y.kc) ∧ w'.cell? ⟨rb, 6, none⟩ = some (.slice Z.la Z.R.length Z.lc) ∧ w'.cell? ⟨rb, 7, none⟩ = some (.slice Z.va Z.V.length Z.vc) ∧ w'.cell? ⟨rb, 8, none⟩ = some (.slice Z.ka Z.K.length Z.kc)) W)) (by repeat (first | exact Below.refl _ _ | apply Below.drew | apply balloc | refine set_new ?_ (by simp only [World.size_alloc]; omega) (Nat.le_refl _)))) (fun hHeld => ?_)
          clear hK K
          try simp only [Act.put, List.setIfInBounds_toArray, List.set_cons_zero, List.set_cons_succ]
          refine wpAnyH_ready (rs := [9]) (by kernel_rfl) (by simp) ?_
          refine AllReadyH.cons (by simp only [List.getElem?_toArray, List.getElem?_cons_succ, List.getElem?_cons_zero]; rfl) (fun K hK => ?_) AllReadyH.nil
          go_simp
          refine hK.out _ _ ((fun {W : World} (BX : Below wr.heap.size wr W) => (⟨BX, Dots.keepC a0 BX, Dots.keepC a1 BX, Dots.keepC a2 BX, Dots.keepC b0 BX, Dots.keepC b1 BX, Dots.keepC b2 BX, Dots.keepC c0 BX, Dots.keepC c1 BX, Dots.keepC c2 BX⟩ : (fun w' => Below wr.heap.size wr w' ∧ w'.cell? ⟨rb, 0, none⟩ = some (.slice X.la X.R.length X.lc) ∧ w'.cell? ⟨rb, 1, none⟩ = some (.slice X.va X.V.length X.vc) ∧ w'.cell? ⟨rb, 2, none⟩ = some (.slice X.ka X.K.length X.kc) ∧ w'.cell? ⟨rb, 3, none⟩ = some (.slice Y.la Y.R.length Y.lc) ∧ w'.cell? ⟨rb, 4, none⟩ = some (.slice Y.va Y.V.length Y.vc) ∧ w'.cell? ⟨rb, 5, none⟩ = some (.slice Y.ka Y.K.length Y.kc) ∧ w'.cell? ⟨rb, 6, none⟩ = some (.slice Z.la Z.R.length Z.lc) ∧ w'.cell? ⟨rb, 7, none⟩ = some (.slice Z.va Z.V.length Z.vc) ∧ w'.cell? ⟨rb, 8, none⟩ = some (.slice Z.ka Z.K.length Z.kc)) W)) (by repeat (first | exact Below.refl _ _ | apply Below.drew | apply balloc | refine set_new ?_ (by simp only [World.size_alloc]; omega) (Nat.le_refl _)))) (fun hHeld => ?_)
          clear hK K
          try simp only [Act.put, List.setIfInBounds_toArray, List.set_cons_zero, List.set_cons_succ]
          refine wpAnyH_ready (rs := [12]) (by kernel_rfl) (by simp) ?_
          refine AllReadyH.cons (by simp only [List.getElem?_toArray, List.getElem?_cons_succ, List.getElem?_cons_zero]; rfl) (fun K hK => ?_) AllReadyH.nil
          go_simp
          refine hK.out _ _ ((fun {W : World} (BX : Below wr.heap.size wr W) => (⟨BX, Dots.keepC a0 BX, Dots.keepC a1 BX, Dots.keepC a2 BX, Dots.keepC b0 BX, Dots.keepC b1 BX, Dots.keepC b2 BX, Dots.keepC c0 BX, Dots.keepC c1 BX, Dots.keepC c2 BX⟩ : (fun w' => Below wr.heap.size wr w' ∧ w'.cell? ⟨rb, 0, none⟩ = some (.slice X.la X.R.length X.lc) ∧ w'.cell? ⟨rb, 1, none⟩ = some (.slice X.va X.V.length X.vc) ∧ w'.cell? ⟨rb, 2, none⟩ = some (.slice X.ka X.K.length X.kc) ∧ w'.cell? ⟨rb, 3, none⟩ = some (.slice Y.la Y.R.length Y.lc) ∧ w'.cell? ⟨rb, 4, none⟩ = some (.slice Y.va Y.V.length Y.vc) ∧ w'.cell? ⟨rb, 5, none⟩ = some (.slice Y.ka Y.K.length Y.kc) ∧ w'.cell? ⟨rb, 6, none⟩ = some (.slice Z.la Z.R.length Z.lc) ∧ w'.cell? ⟨rb, 7, none⟩ = some (.slice Z.va Z.V.length Z.vc) ∧ w'.cell? ⟨rb, 8, none⟩ = some (.slice Z.ka Z.K.length Z.kc)) W)) (by repeat (first | exact Below.refl _ _ | apply Below.drew | apply balloc | refine set_new ?_ (by simp only [World.size_alloc]; omega) (Nat.le_refl _)))) (fun hHeld => ?_)
          clear hK K
          refine wpAnyH_ready (rs := [13]) (by kernel_rfl) (by simp) ?_
          refine AllReadyH.cons (by simp only [List.getElem?_toArray, List.getElem?_cons_succ, List.getElem?_cons_zero]; rfl) (fun K hK => ?_) AllReadyH.nil
          go_simp
          refine hK.out _ _ ((fun {W : World} (BX : Below wr.heap.size wr W) => (⟨BX, Dots.keepC a0 BX, Dots.keepC a1 BX, Dots.keepC a2 BX, Dots.keepC b0 BX, Dots.keepC b1 BX, Dots.keepC b2 BX, Dots.keepC c0 BX, Dots.keepC c1 BX, Dots.keepC c2 BX⟩ : (fun w' => Below wr.heap.size wr w' ∧ w'.cell? ⟨rb, 0, none⟩ = some (.slice X.la X.R.length X.lc) ∧ w'.cell? ⟨rb, 1, none⟩ = some (.slice X.va X.V.length X.vc) ∧ w'.cell? ⟨rb, 2, none⟩ = some (.slice X.ka X.K.length X.kc) ∧ w'.cell? ⟨rb, 3, none⟩ = some (.slice Y.la Y.R.length Y.lc) ∧ w'.cell? ⟨rb, 4, none⟩ = some (.slice Y.va Y.V.length Y.vc) ∧ w'.cell? ⟨rb, 5, none⟩ = some (.slice Y.ka Y.K.length Y.kc) ∧ w'.cell? ⟨rb, 6, none⟩ = some (.slice Z.la Z.R.length Z.lc) ∧ w'.cell? ⟨rb, 7, none⟩ = some (.slice Z.va Z.V.length Z.vc) ∧ w'.cell? ⟨rb, 8, none⟩ = some (.slice Z.ka Z.K.length Z.kc)) W)) (by repeat (first | exact Below.refl _ _ | apply Below.drew | apply balloc | refine set_new ?_ (by simp only [World.size_alloc]; omega) (Nat.le_refl _)))) (fun hHeld => ?_)
          clear hK K
          refine wpAnyH_ready (rs := [14]) (by kernel_rfl) (by simp) ?_
          refine AllReadyH.cons (by simp only [List.getElem?_toArray, List.getElem?_cons_succ, List.getElem?_cons_zero]; rfl) (fun K hK => ?_) AllReadyH.nil
          go_simp
          refine hK.out _ _ ((fun {W : World} (BX : Below wr.heap.size wr W) => (⟨BX, Dots.keepC a0 BX, Dots.keepC a1 BX, Dots.keepC a2 BX, Dots.keepC b0 BX, Dots.keepC b1 BX, Dots.keepC b2 BX, Dots.keepC c0 BX, Dots.keepC c1 BX, Dots.keepC c2 BX⟩ : (fun w' => Below wr.heap.size wr w' ∧ w'.cell? ⟨rb, 0, none⟩ = some (.slice X.la X.R.length X.lc) ∧ w'.cell? ⟨rb, 1, none⟩ = some (.slice X.va X.V.length X.vc) ∧ w'.cell? ⟨rb, 2, none⟩ = some (.slice X.ka X.K.length X.kc) ∧ w'.cell? ⟨rb, 3, none⟩ = some (.slice Y.la Y.R.length Y.lc) ∧ w'.cell? ⟨rb, 4, none⟩ = some (.slice Y.va Y.V.length Y.vc) ∧ w'.cell? ⟨rb, 5, none⟩ = some (.slice Y.ka Y.K.length Y.kc) ∧ w'.cell? ⟨rb, 6, none⟩ = some (.slice Z.la Z.R.length Z.lc) ∧ w'.cell? ⟨rb, 7, none⟩ = some (.slice Z.va Z.V.length Z.vc) ∧ w'.cell? ⟨rb, 8, none⟩ = some (.slice Z.ka Z.K.length Z.kc)) W)) (by repeat (first | exact Below.refl _ _ | apply Below.drew | apply balloc | refine set_new ?_ (by simp only [World.size_alloc]; omega) (Nat.le_refl _)))) (fun hHeld => ?_)
          clear hK K
          refine wpAnyH_done (by kernel_rfl) ?_ _
          refine NoPanic.normal ?_
          clear hHeld
          go_wp2_with fail
          go_meet
          have K3 := three_at wr 56 #[.slice Y.la Y.R.length Y.lc, .slice Y.va Y.V.length Y.vc, .slice Y.ka Y.K.length Y.kc] #[.slice Z.la Z.R.length Z.lc, .slice Z.va Z.V.length Z.vc, .slice Z.ka Z.K.length Z.kc] #[.slice X.la X.R.length X.lc, .slice X.va X.V.length X.vc, .slice X.ka X.K.length X.kc]
          exact ⟨wr.heap.size + 2, wr.heap.size, wr.heap.size + 1, rfl, rfl, rfl, K3.2.2 0 _ rfl, K3.2.2 1 _ rfl, K3.1 0 _ rfl, K3.1 1 _ rfl, K3.2.1 0 _ rfl, K3.2.1 1 _ rfl, Below.drew (balloc (balloc (balloc (Below.refl _ _) _) _) _)⟩
      · skip
        go_simp
        refine hK.out _ _ ((fun {W : World} (BX : Below wr.heap.size wr W) => (⟨BX, Dots.keepC a0 BX, Dots.keepC a1 BX, Dots.keepC a2 BX, Dots.keepC b0 BX, Dots.keepC b1 BX, Dots.keepC b2 BX, Dots.keepC c0 BX, Dots.keepC c1 BX, Dots.keepC c2 BX⟩ : (fun w' => Below wr.heap.size wr w' ∧ w'.cell? ⟨rb, 0, none⟩ = some (.slice X.la X.R.length X.lc) ∧ w'.cell? ⟨rb, 1, none⟩ = some (.slice X.va X.V.length X.vc) ∧ w'.cell? ⟨rb, 2, none⟩ = some (.slice X.ka X.K.length X.kc) ∧ w'.cell? ⟨rb, 3, none⟩ = some (.slice Y.la Y.R.length Y.lc) ∧ w'.cell? ⟨rb, 4, none⟩ = some (.slice Y.va Y.V.length Y.vc) ∧ w'.cell? ⟨rb, 5, none⟩ = some (.slice Y.ka Y.K.length Y.kc) ∧ w'.cell? ⟨rb, 6, none⟩ = some (.slice Z.la Z.R.length Z.lc) ∧ w'.cell? ⟨rb, 7, none⟩ = some (.slice Z.va Z.V.length Z.vc) ∧ w'.cell? ⟨rb, 8, none⟩ = some (.slice Z.ka Z.K.length Z.kc)) W)) (by repeat (first | exact Below.refl _ _ | apply Below.drew | apply balloc | refine set_new ?_ (by simp only [World.size_alloc]; omega) (Nat.le_refl _)))) (fun hHeld => ?_)
        clear hK K
        try simp only [Act.put, List.setIfInBounds_toArray, List.set_cons_zero, List.set_cons_succ]
        refine wpAnyH_ready (rs := [9, 10]) (by kernel_rfl) (by simp) ?_
        refine AllReadyH.cons (by simp only [List.getElem?_toArray, List.getElem?_cons_succ, List.getElem?_cons_zero]; rfl) (fun K hK => ?_) (AllReadyH.cons (by simp only [List.getElem?_toArray, List.getElem?_cons_succ, List.getElem?_cons_zero]; rfl) (fun K hK => ?_) (AllReadyH.nil))
        · skip
          go_simp
          refine hK.out _ _ ((fun {W : World} (BX : Below wr.heap.size wr W) => (⟨BX, Dots.keepC a0 BX, Dots.keepC a1 BX, Dots.keepC a2 BX, Dots.keepC b0 BX, Dots.keepC b1 BX, Dots.keepC b2 BX, Dots.keepC c0 BX, Dots.keepC c1 BX, Dots.keepC c2 BX⟩ : (fun w' => Below wr.heap.size wr w' ∧ w'.cell? ⟨rb, 0, none⟩ = some (.slice X.la X.R.length X.lc) ∧ w'.cell? ⟨rb, 1, none⟩ = some (.slice X.va X.V.length X.vc) ∧ w'.cell? ⟨rb, 2, none⟩ = some (.slice X.ka X.K.length X.kc) ∧ w'.cell? ⟨rb, 3, none⟩ = some (.slice Y.la Y.R.length Y.lc) ∧ w'.cell? ⟨rb, 4, none⟩ = some (.slice Y.va Y.V.length Y.vc) ∧ w'.cell? ⟨rb, 5, none⟩ = some (.slice Y.ka Y.K.length Y.kc) ∧ w'.cell? ⟨rb, 6, none⟩ = some (.slice Z.la Z.R.length Z.lc) ∧ w'.cell? ⟨rb, 7, none⟩ = some (.slice Z.va Z.V.length Z.vc) ∧ w'.cell? ⟨rb, 8, none⟩ = some (.slice Z.ka Z.K.length Z.kc)) W)) (by repeat (first | exact Below.refl _ _ | apply Below.drew | apply balloc | refine set_new ?_ (by simp only [World.size_alloc]; omega) (Nat.le_refl _)))) (fun hHeld => ?_)
          clear hK K
          try simp only [Act.put, List.setIfInBounds_toArray, List.set_cons_zero, List.set_cons_succ]
          refine wpAnyH_ready (rs := [10]) (by kernel_rfl) (by simp) ?_
          refine AllReadyH.cons (by simp only [List.getElem?_toArray, List.getElem?_cons_succ, List.getElem?_cons_zero]; rfl) (fun K hK => ?_) AllReadyH.nil
          go_simp
          refine hK.out _ _ ((fun {W : World} (BX : Below wr.heap.size wr W) => (⟨BX, Dots.keepC a0 BX, Dots.keepC a1 BX, Dots.keepC a2 BX, Dots.keepC b0 BX, Dots.keepC b1 BX, Dots.keepC b2 BX, Dots.keepC c0 BX, Dots.keepC c1 BX, Dots.keepC c2 BX⟩ : (fun w' => Below wr.heap.size wr w' ∧ w'.cell? ⟨rb, 0, none⟩ = some (.slice X.la X.R.length X.lc) ∧ w'.cell? ⟨rb, 1, none⟩ = some (.slice X.va X.V.length X.vc) ∧ w'.cell? ⟨rb, 2, none⟩ = some (.slice X.ka X.K.length X.kc) ∧ w'.cell? ⟨rb, 3, none⟩ = some (.slice Y.la Y.R.length Y.lc) ∧ w'.cell? ⟨rb, 4, none⟩ = some (.slice Y.va Y.V.length Y.vc) ∧ w'.cell? ⟨rb, 5, none⟩ = some (.slice Y.ka Y.K.length Y.kc) ∧ w'.cell? ⟨rb, 6, none⟩ = some (.slice Z.la Z.R.length Z.lc) ∧ w'.cell? ⟨rb, 7, none⟩ = some (.slice Z.va Z.V.length Z.vc) ∧ w'.cell? ⟨rb, 8, none⟩ = some (.slice Z.ka Z.K.length Z.kc)) W)) (by repeat (first | exact Below.refl _ _ | apply Below.drew | apply balloc | refine set_new ?_ (by simp only [World.size_alloc]; omega) (Nat.le_refl _)))) (fun hHeld => ?_)
          clear hK K
          try simp only [Act.put, List.setIfInBounds_toArray, List.set_cons_zero, List.set_cons_succ]
          refine wpAnyH_ready (rs := [12]) (by kernel_rfl) (by simp) ?_
          refine AllReadyH.cons (by simp only [List.getElem?_toArray, List.getElem?_cons_succ, List.getElem?_cons_zero]; rfl) (fun K hK => ?_) AllReadyH.nil
          go_simp
          refine hK.out _ _ ((fun {W : World} (BX : Below wr.heap.size wr W) => (⟨BX, Dots.keepC a0 BX, Dots.keepC a1 BX, Dots.keepC a2 BX, Dots.keepC b0 BX, Dots.keepC b1 BX, Dots.keepC b2 BX, Dots.keepC c0 BX, Dots.keepC c1 BX, Dots.keepC c2 BX⟩ : (fun w' => Below wr.heap.size wr w' ∧ w'.cell? ⟨rb, 0, none⟩ = some (.slice X.la X.R.length X.lc) ∧ w'.cell? ⟨rb, 1, none⟩ = some (.slice X.va X.V.length X.vc) ∧ w'.cell? ⟨rb, 2, none⟩ = some (.slice X.ka X.K.length X.kc) ∧ w'.cell? ⟨rb, 3, none⟩ = some (.slice Y.la Y.R.length Y.lc) ∧ w'.cell? ⟨rb, 4, none⟩ = some (.slice Y.va Y.V.length Y.vc) ∧ w'.cell? ⟨rb, 5, none⟩ = some (.slice Y.ka Y.K.length Y.kc) ∧ w'.cell? ⟨rb, 6, none⟩ = some (.slice Z.la Z.R.length Z.lc) ∧ w'.cell? ⟨rb, 7, none⟩ = some (.slice Z.va Z.V.length Z.vc) ∧ w'.cell? ⟨rb, 8, none⟩ = some (.slice Z.ka Z.K.length Z.kc)) W)) (by repeat (first | exact Below.refl _ _ | apply Below.drew | apply balloc | refine set_new ?_ (by simp only [World.size_alloc]; omega) (Nat.le_refl _)))) (fun hHeld => ?_)
          clear hK K
          refine wpAnyH_ready (rs := [13]) (by kernel_rfl) (by simp) ?_
          refine AllReadyH.cons (by simp only [List.getElem?_toArray, List.getElem?_cons_succ, List.getElem?_cons_zero]; rfl) (fun K hK => ?_) AllReadyH.nil
          go_simp
          refine hK.out _ _ ((fun {W : World} (BX : Below wr.heap.size wr W) => (⟨BX, Dots.keepC a0 BX, Dots.keepC a1 BX, Dots.keepC a2 BX, Dots.keepC b0 BX, Dots.keepC b1 BX, Dots.keepC b2 BX, Dots.keepC c0 BX, Dots.keepC c1 BX, Dots.keepC c2 BX⟩ : (fun w' => Below wr.heap.size wr w' ∧ w'.cell? ⟨rb, 0, none⟩ = some (.slice X.la X.R.length X.lc) ∧ w'.cell? ⟨rb, 1, none⟩ = some (.slice X.va X.V.length X.vc) ∧ w'.cell? ⟨rb, 2, none⟩ = some (.slice X.ka X.K.length X.kc) ∧ w'.cell? ⟨rb, 3, none⟩ = some (.slice Y.la Y.R.length Y.lc) ∧ w'.cell? ⟨rb, 4, none⟩ = some (.slice Y.va Y.V.length Y.vc) ∧ w'.cell? ⟨rb, 5, none⟩ = some (.slice Y.ka Y.K.length Y.kc) ∧ w'.cell? ⟨rb, 6, none⟩ = some (.slice Z.la Z.R.length Z.lc) ∧ w'.cell? ⟨rb, 7, none⟩ = some (.slice Z.va Z.V.length Z.vc) ∧ w'.cell? ⟨rb, 8, none⟩ = some (.slice Z.ka Z.K.length Z.kc)) W)) (by repeat (first | exact Below.refl _ _ | apply Below.drew | apply balloc | refine set_new ?_ (by simp only [World.size_alloc]; omega) (Nat.le_refl _)))) (fun hHeld => ?_)
          clear hK K
          refine wpAnyH_ready (rs := [14]) (by kernel_rfl) (by simp) ?_
          refine AllReadyH.cons (by simp only [List.getElem?_toArray, List.getElem?_cons_succ, List.getElem?_cons_zero]; rfl) (fun K hK => ?_) AllReadyH.nil
          go_simp
          refine hK.out _ _ ((fun {W : World} (BX : Below wr.heap.size wr W) => (⟨BX, Dots.keepC a0 BX, Dots.keepC a1 BX, Dots.keepC a2 BX, Dots.keepC b0 BX, Dots.keepC b1 BX, Dots.keepC b2 BX, Dots.keepC c0 BX, Dots.keepC c1 BX, Dots.keepC c2 BX⟩ : (fun w' => Below wr.heap.size wr w' ∧ w'.cell? ⟨rb, 0, none⟩ = some (.slice X.la X.R.length X.lc) ∧ w'.cell? ⟨rb, 1, none⟩ = some (.slice X.va X.V.length X.vc) ∧ w'.cell? ⟨rb, 2, none⟩ = some (.slice X.ka X.K.length X.kc) ∧ w'.cell? ⟨rb, 3, none⟩ = some (.slice Y.la Y.R.length Y.lc) ∧ w'.cell? ⟨rb, 4, none⟩ = some (.slice Y.va Y.V.length Y.vc) ∧ w'.cell? ⟨rb, 5, none⟩ = some (.slice Y.ka Y.K.length Y.kc) ∧ w'.cell? ⟨rb, 6, none⟩ = some (.slice Z.la Z.R.length Z.lc) ∧ w'.cell? ⟨rb, 7, none⟩ = some (.slice Z.va Z.V.length Z.vc) ∧ w'.cell? ⟨rb, 8, none⟩ = some (.slice Z.ka Z.K.length Z.kc)) W)) (by repeat (first | exact Below.refl _ _ | apply Below.drew | apply balloc | refine set_new ?_ (by simp only [World.size_alloc]; omega) (Nat.le_refl _)))) (fun hHeld => ?_)
          clear hK K
          refine wpAnyH_done (by kernel_rfl) ?_ _
          refine NoPanic.normal ?_
          clear hHeld
          go_wp2_with fail
          go_meet
          have K3 := three_at wr 56 #[.slice Z.la Z.R.length Z.lc, .slice Z.va Z.V.length Z.vc, .slice Z.ka Z.K.length Z.kc] #[.slice X.la X.R.length X.lc, .slice X.va X.V.length X.vc, .slice X.ka X.K.length X.kc] #[.slice Y.la Y.R.length Y.lc, .slice Y.va Y.V.length Y.vc, .slice Y.ka Y.K.length Y.kc]
          exact ⟨wr.heap.size + 1, wr.heap.size + 2, wr.heap.size, rfl, rfl, rfl, K3.2.1 0 _ rfl, K3.2.1 1 _ rfl, K3.2.2 0 _ rfl, K3.2.2 1 _ rfl, K3.1 0 _ rfl, K3.1 1 _ rfl, Below.drew (balloc (balloc (balloc (Below.refl _ _) _) _) _)⟩
        · skip
          go_simp
          refine hK.out _ _ ((fun {W : World} (BX : Below wr.heap.size wr W) => (⟨BX, Dots.keepC a0 BX, Dots.keepC a1 BX, Dots.keepC a2 BX, Dots.keepC b0 BX, Dots.keepC b1 BX, Dots.keepC b2 BX, Dots.keepC c0 BX, Dots.keepC c1 BX, Dots.keepC c2 BX⟩ : (fun w' => Below wr.heap.size wr w' ∧ w'.cell? ⟨rb, 0, none⟩ = some (.slice X.la X.R.length X.lc) ∧ w'.cell? ⟨rb, 1, none⟩ = some (.slice X.va X.V.length X.vc) ∧ w'.cell? ⟨rb, 2, none⟩ = some (.slice X.ka X.K.length X.kc) ∧ w'.cell? ⟨rb, 3, none⟩ = some (.slice Y.la Y.R.length Y.lc) ∧ w'.cell? ⟨rb, 4, none⟩ = some (.slice Y.va Y.V.length Y.vc) ∧ w'.cell? ⟨rb, 5, none⟩ = some (.slice Y.ka Y.K.length Y.kc) ∧ w'.cell? ⟨rb, 6, none⟩ = some (.slice Z.la Z.R.length Z.lc) ∧ w'.cell? ⟨rb, 7, none⟩ = some (.slice Z.va Z.V.length Z.vc) ∧ w'.cell? ⟨rb, 8, none⟩ = some (.slice Z.ka Z.K.length Z.kc)) W)) (by repeat (first | exact Below.refl _ _ | apply Below.drew | apply balloc | refine set_new ?_ (by simp only [World.size_alloc]; omega) (Nat.le_refl _)))) (fun hHeld => ?_)
          clear hK K
          try simp only [Act.put, List.setIfInBounds_toArray, List.set_cons_zero, List.set_cons_succ]
          refine wpAnyH_ready (rs := [9]) (by kernel_rfl) (by simp) ?_
          refine AllReadyH.cons (by simp only [List.getElem?_toArray, List.getElem?_cons_succ, List.getElem?_cons_zero]; rfl) (fun K hK => ?_) AllReadyH.nil
          go_simp
          refine hK.out _ _ ((fun {W : World} (BX : Below wr.heap.size wr W) => (⟨BX, Dots.keepC a0 BX, Dots.keepC a1 BX, Dots.keepC a2 BX, Dots.keepC b0 BX, Dots.keepC b1 BX, Dots.keepC b2 BX, Dots.keepC c0 BX, Dots.keepC c1 BX, Dots.keepC c2 BX⟩ : (fun w' => Below wr.heap.size wr w' ∧ w'.cell? ⟨rb, 0, none⟩ = some (.slice X.la X.R.length X.lc) ∧ w'.cell? ⟨rb, 1, none⟩ = some (.slice X.va X.V.length X.vc) ∧ w'.cell? ⟨rb, 2, none⟩ = some (.slice X.ka X.K.length X.kc) ∧ w'.cell? ⟨rb, 3, none⟩ = some (.slice Y.la Y.R.length Y.lc) ∧ w'.cell? ⟨rb, 4, none⟩ = some (.slice Y.va Y.V.length Y.vc) ∧ w'.cell? ⟨rb, 5, none⟩ = some (.slice Y.ka Y.K.length Y.kc) ∧ w'.cell? ⟨rb, 6, none⟩ = some (.slice Z.la Z.R.length Z.lc) ∧ w'.cell? ⟨rb, 7, none⟩ = some (.slice Z.va Z.V.length Z.vc) ∧ w'.cell? ⟨rb, 8, none⟩ = some (.slice Z.ka Z.K.length Z.kc)) W)) (by repeat (first | exact Below.refl _ _ | apply Below.drew | apply balloc | refine set_new ?_ (by simp only [World.size_alloc]; omega) (Nat.le_refl _)))) (fun hHeld => ?_)
          clear hK K
          try simp only [Act.put, List.setIfInBounds_toArray, List.set_cons_zero, List.set_cons_succ]
          refine wpAnyH_ready (rs := [12]) (by kernel_rfl) (by simp) ?_
          refine AllReadyH.cons (by simp only [List.getElem?_toArray, List.getElem?_cons_succ, List.getElem?_cons_zero]; rfl) (fun K hK => ?_) AllReadyH.nil
          go_simp
          refine hK.out _ _ ((fun {W : World} (BX : Below wr.heap.size wr W) => (⟨BX, Dots.keepC a0 BX, Dots.keepC a1 BX, Dots.keepC a2 BX, Dots.keepC b0 BX, Dots.keepC b1 BX, Dots.keepC b2 BX, Dots.keepC c0 BX, Dots.keepC c1 BX, Dots.keepC c2 BX⟩ : (fun w' => Below wr.heap.size wr w' ∧ w'.cell? ⟨rb, 0, none⟩ = some (.slice X.la X.R.length X.lc) ∧ w'.cell? ⟨rb, 1, none⟩ = some (.slice X.va X.V.length X.vc) ∧ w'.cell? ⟨rb, 2, none⟩ = some (.slice X.ka X.K.length X.kc) ∧ w'.cell? ⟨rb, 3, none⟩ = some (.slice Y.la Y.R.length Y.lc) ∧ w'.cell? ⟨rb, 4, none⟩ = some (.slice Y.va Y.V.length Y.vc) ∧ w'.cell? ⟨rb, 5, none⟩ = some (.slice Y.ka Y.K.length Y.kc) ∧ w'.cell? ⟨rb, 6, none⟩ = some (.slice Z.la Z.R.length Z.lc) ∧ w'.cell? ⟨rb, 7, none⟩ = some (.slice Z.va Z.V.length Z.vc) ∧ w'.cell? ⟨rb, 8, none⟩ = some (.slice Z.ka Z.K.length Z.kc)) W)) (by repeat (first | exact Below.refl _ _ | apply Below.drew | apply balloc | refine set_new ?_ (by simp only [World.size_alloc]; omega) (Nat.le_refl _)))) (fun hHeld => ?_)
          clear hK K
          refine wpAnyH_ready (rs := [13]) (by kernel_rfl) (by simp) ?_
          refine AllReadyH.cons (by simp only [List.getElem?_toArray, List.getElem?_cons_succ, List.getElem?_cons_zero]; rfl) (fun K hK => ?_) AllReadyH.nil
          go_simp
          refine hK.out _ _ ((fun {W : World} (BX : Below wr.heap.size wr W) => (⟨BX, Dots.keepC a0 BX, Dots.keepC a1 BX, Dots.keepC a2 BX, Dots.keepC b0 BX, Dots.keepC b1 BX, Dots.keepC b2 BX, Dots.keepC c0 BX, Dots.keepC c1 BX, Dots.keepC c2 BX⟩ : (fun w' => Below wr.heap.size wr w' ∧ w'.cell? ⟨rb, 0, none⟩ = some (.slice X.la X.R.length X.lc) ∧ w'.cell? ⟨rb, 1, none⟩ = some (.slice X.va X.V.length X.vc) ∧ w'.cell? ⟨rb, 2, none⟩ = some (.slice X.ka X.K.length X.kc) ∧ w'.cell? ⟨rb, 3, none⟩ = some (.slice Y.la Y.R.length Y.lc) ∧ w'.cell? ⟨rb, 4, none⟩ = some (.slice Y.va Y.V.length Y.vc) ∧ w'.cell? ⟨rb, 5, none⟩ = some (.slice Y.ka Y.K.length Y.kc) ∧ w'.cell? ⟨rb, 6, none⟩ = some (.slice Z.la Z.R.length Z.lc) ∧ w'.cell? ⟨rb, 7, none⟩ = some (.slice Z.va Z.V.length Z.vc) ∧ w'.cell? ⟨rb, 8, none⟩ = some (.slice Z.ka Z.K.length Z.kc)) W)) (by repeat (first | exact Below.refl _ _ | apply Below.drew | apply balloc | refine set_new ?_ (by simp only [World.size_alloc]; omega) (Nat.le_refl _)))) (fun hHeld => ?_)
          clear hK K
          refine wpAnyH_ready (rs := [14]) (by kernel_rfl) (by simp) ?_
          refine AllReadyH.cons (by simp only [List.getElem?_toArray, List.getElem?_cons_succ, List.getElem?_cons_zero]; rfl) (fun K hK => ?_) AllReadyH.nil
          go_simp
          refine hK.out _ _ ((fun {W : World} (BX : Below wr.heap.size wr W) => (⟨BX, Dots.keepC a0 BX, Dots.keepC a1 BX, Dots.keepC a2 BX, Dots.keepC b0 BX, Dots.keepC b1 BX, Dots.keepC b2 BX, Dots.keepC c0 BX, Dots.keepC c1 BX, Dots.keepC c2 BX⟩ : (fun w' => Below wr.heap.size wr w' ∧ w'.cell? ⟨rb, 0, none⟩ = some (.slice X.la X.R.length X.lc) ∧ w'.cell? ⟨rb, 1, none⟩ = some (.slice X.va X.V.length X.vc) ∧ w'.cell? ⟨rb, 2, none⟩ = some (.slice X.ka X.K.length X.kc) ∧ w'.cell? ⟨rb, 3, none⟩ = some (.slice Y.la Y.R.length Y.lc) ∧ w'.cell? ⟨rb, 4, none⟩ = some (.slice Y.va Y.V.length Y.vc) ∧ w'.cell? ⟨rb, 5, none⟩ = some (.slice Y.ka Y.K.length Y.kc) ∧ w'.cell? ⟨rb, 6, none⟩ = some (.slice Z.la Z.R.length Z.lc) ∧ w'.cell? ⟨rb, 7, none⟩ = some (.slice Z.va Z.V.length Z.vc) ∧ w'.cell? ⟨rb, 8, none⟩ = some (.slice Z.ka Z.K.length Z.kc)) W)) (by repeat (first | exact Below.refl _ _ | apply Below.drew | apply balloc | refine set_new ?_ (by simp only [World.size_alloc]; omega) (Nat.le_refl _)))) (fun hHeld => ?_)
          clear hK K
          refine wpAnyH_done (by kernel_rfl) ?_ _
          refine NoPanic.normal ?_
          clear hHeld
          go_wp2_with fail
          go_meet
          have K3 := three_at wr 56 #[.slice Z.la Z.R.length Z.lc, .slice Z.va Z.V.length Z.vc, .slice Z.ka Z.K.length Z.kc] #[.slice Y.la Y.R.length Y.lc, .slice Y.va Y.V.length Y.vc, .slice Y.ka Y.K.length Y.kc] #[.slice X.la X.R.length X.lc, .slice X.va X.V.length X.vc, .slice X.ka X.K.length X.kc]
          exact ⟨wr.heap.size + 2, wr.heap.size + 1, wr.heap.size, rfl, rfl, rfl, K3.2.2 0 _ rfl, K3.2.2 1 _ rfl, K3.2.1 0 _ rfl, K3.2.1 1 _ rfl, K3.1 0 _ rfl, K3.1 1 _ rfl, Below.drew (balloc (balloc (balloc (Below.refl _ _) _) _) _)⟩
    clear a0 a1 a2 b0 b1 b2 c0 c1 c2 hr0
    obtain ⟨na, nb, nc, rfl, rfl, rfl, a0, a1, b0, b1, c0, c1, hbx⟩ := hcut
    replace PL := Lib.hid (PL.out.below hbx)
    have HBB := Lib.hid (hb.trans (hbx.mono hb.size))
    clear hb hbx
    have hb := Below.refl wc.heap.size wc
    have BX := Lib.hid (HR.out.bv h30 he60.out)
    have BY := Lib.hid (HR.out.bv h31 he60.out)
    have BZ := Lib.hid (HR.out.bv h32 he60.out)
    rw [← HX.out] at BX
    rw [← HY.out] at BY
    rw [← HZ.out] at BZ
    have FX := Lib.hid (BX.out.sizes HR.out he60.out)
    have FY := Lib.hid (BY.out.sizes HR.out he60.out)
    have FZ := Lib.hid (BZ.out.sizes HR.out he60.out)
    have HHX : Hid (Had wc w.heap.size X.la X.R.length X.lc X.R) := Lib.hid (by rw [HX.out]; exact PL.out.bag _ (List.getElem_mem h30))
    have HHY : Hid (Had wc w.heap.size Y.la Y.R.length Y.lc Y.R) := Lib.hid (by rw [HY.out]; exact PL.out.bag _ (List.getElem_mem h31))
    have HHZ : Hid (Had wc w.heap.size Z.la Z.R.length Z.lc Z.R) := Lib.hid (by rw [HZ.out]; exact PL.out.bag _ (List.getElem_mem h32))
    have OVX : Hid (Mark.Own wc w.heap.size (.slice X.va X.V.length X.vc) X.V) := Lib.hid (by rw [HX.out]; exact PL.out.vec _ (List.getElem_mem h30))
    have OVY : Hid (Mark.Own wc w.heap.size (.slice Y.va Y.V.length Y.vc) Y.V) := Lib.hid (by rw [HY.out]; exact PL.out.vec _ (List.getElem_mem h31))
    have OVZ : Hid (Mark.Own wc w.heap.size (.slice Z.va Z.V.length Z.vc) Z.V) := Lib.hid (by rw [HZ.out]; exact PL.out.vec _ (List.getElem_mem h32))
    have L0 : Hid ((K 0).length = (K 1).length ∧ (K 1).length = (K 2).length) := Lib.hid ⟨BX.out.good.len.trans BY.out.good.len.symm, BY.out.good.len.trans BZ.out.good.len.symm⟩
    have hBW : Hid (w.heap.size ≤ wc.heap.size) := Lib.hid HBB.out.size
    clear PL
    have hbp := hb
    go_wp2_with fail
    refine (bjoin (HHX.out) (HHY.out) (OVX.out) (OVY.out) FX.out FY.out).mono ?_
    rintro e v2 ⟨aAB, cAB, AB, rfl, hAB, -, hdAB, k2⟩
    replace a0 := (Dots.keepC a0 k2)
    replace a1 := (Dots.keepC a1 k2)
    replace b0 := (Dots.keepC b0 k2)
    replace b1 := (Dots.keepC b1 k2)
    replace c0 := (Dots.keepC c0 k2)
    replace c1 := (Dots.keepC c1 k2)
    replace HHX := Lib.hid (Bag.Had.below HHX.out k2)
    replace OVX := Lib.hid (World.ownsRow.kept OVX.out (grown_of k2) (Classical.em _))
    replace HHY := Lib.hid (Bag.Had.below HHY.out k2)
    replace OVY := Lib.hid (World.ownsRow.kept OVY.out (grown_of k2) (Classical.em _))
    replace HHZ := Lib.hid (Bag.Had.below HHZ.out k2)
    replace OVZ := Lib.hid (World.ownsRow.kept OVZ.out (grown_of k2) (Classical.em _))
    replace hb := bstep hb k2
    clear k2
    have HAB := Lib.hid hAB
    have HHAB := Lib.hid (Bag.Had.base hdAB (Nat.le_trans hBW.out hbp.size))
    clear hAB hdAB hbp
    have hbp := hb
    go_wp2_with fail
    refine (djoin OVX.out OVY.out FX.out.2.2.2.2 FY.out.2.2.2.2).mono ?_
    rintro e v3 ⟨aVAB, cVAB, VAB, rfl, hVAB, hdVAB, k3⟩
    replace a0 := (Dots.keepC a0 k3)
    replace a1 := (Dots.keepC a1 k3)
    replace b0 := (Dots.keepC b0 k3)
    replace b1 := (Dots.keepC b1 k3)
    replace c0 := (Dots.keepC c0 k3)
    replace c1 := (Dots.keepC c1 k3)
    replace HHX := Lib.hid (Bag.Had.below HHX.out k3)
    replace OVX := Lib.hid (World.ownsRow.kept OVX.out (grown_of k3) (Classical.em _))
    replace HHY := Lib.hid (Bag.Had.below HHY.out k3)
    replace OVY := Lib.hid (World.ownsRow.kept OVY.out (grown_of k3) (Classical.em _))
    replace HHZ := Lib.hid (Bag.Had.below HHZ.out k3)
    replace OVZ := Lib.hid (World.ownsRow.kept OVZ.out (grown_of k3) (Classical.em _))
    replace HHAB := Lib.hid (Bag.Had.below HHAB.out k3)
    replace hb := bstep hb k3
    clear k3
    have HVAB := Lib.hid hVAB
    have OVVAB := Lib.hid (Mark.Own.base hdVAB (Nat.le_trans hBW.out hbp.size))
    clear hVAB hdVAB hbp
    have hbp := hb
    go_wp2_with fail
    refine (bjoin (HHY.out) (HHX.out) (OVY.out) (OVX.out) FY.out FX.out).mono ?_
    rintro e v4 ⟨aBA, cBA, BA, rfl, hBA, -, hdBA, k4⟩
    replace a0 := (Dots.keepC a0 k4)
    replace a1 := (Dots.keepC a1 k4)
    replace b0 := (Dots.keepC b0 k4)
    replace b1 := (Dots.keepC b1 k4)
    replace c0 := (Dots.keepC c0 k4)
    replace c1 := (Dots.keepC c1 k4)
    replace HHX := Lib.hid (Bag.Had.below HHX.out k4)
    replace OVX := Lib.hid (World.ownsRow.kept OVX.out (grown_of k4) (Classical.em _))
    replace HHY := Lib.hid (Bag.Had.below HHY.out k4)
    replace OVY := Lib.hid (World.ownsRow.kept OVY.out (grown_of k4) (Classical.em _))
    replace HHZ := Lib.hid (Bag.Had.below HHZ.out k4)
    replace OVZ := Lib.hid (World.ownsRow.kept OVZ.out (grown_of k4) (Classical.em _))
    replace HHAB := Lib.hid (Bag.Had.below HHAB.out k4)
    replace OVVAB := Lib.hid (World.ownsRow.kept OVVAB.out (grown_of k4) (Classical.em _))
    replace hb := bstep hb k4
    clear k4
    have HBA := Lib.hid hBA
    have HHBA := Lib.hid (Bag.Had.base hdBA (Nat.le_trans hBW.out hbp.size))
    clear hBA hdBA hbp
    have hbp := hb
    go_wp2_with fail
    refine (bjoin (HHY.out) (HHZ.out) (OVY.out) (OVZ.out) FY.out FZ.out).mono ?_
    rintro e v5 ⟨aBC, cBC, BC, rfl, hBC, -, hdBC, k5⟩
    replace a0 := (Dots.keepC a0 k5)
    replace a1 := (Dots.keepC a1 k5)
    replace b0 := (Dots.keepC b0 k5)
    replace b1 := (Dots.keepC b1 k5)
    replace c0 := (Dots.keepC c0 k5)
    replace c1 := (Dots.keepC c1 k5)
    replace HHX := Lib.hid (Bag.Had.below HHX.out k5)
    replace OVX := Lib.hid (World.ownsRow.kept OVX.out (grown_of k5) (Classical.em _))
    replace HHY := Lib.hid (Bag.Had.below HHY.out k5)
    replace OVY := Lib.hid (World.ownsRow.kept OVY.out (grown_of k5) (Classical.em _))
    replace HHZ := Lib.hid (Bag.Had.below HHZ.out k5)
    replace OVZ := Lib.hid (World.ownsRow.kept OVZ.out (grown_of k5) (Classical.em _))
    replace HHAB := Lib.hid (Bag.Had.below HHAB.out k5)
    replace OVVAB := Lib.hid (World.ownsRow.kept OVVAB.out (grown_of k5) (Classical.em _))
    replace HHBA := Lib.hid (Bag.Had.below HHBA.out k5)
    replace hb := bstep hb k5
    clear k5
    have HBC := Lib.hid hBC
    have HHBC := Lib.hid (Bag.Had.base hdBC (Nat.le_trans hBW.out hbp.size))
    clear hBC hdBC hbp
    have hbp := hb
    go_wp2_with fail
    refine (djoin OVY.out OVZ.out FY.out.2.2.2.2 FZ.out.2.2.2.2).mono ?_
    rintro e v6 ⟨aVBC, cVBC, VBC, rfl, hVBC, hdVBC, k6⟩
    replace a0 := (Dots.keepC a0 k6)
    replace a1 := (Dots.keepC a1 k6)
    replace b0 := (Dots.keepC b0 k6)
    replace b1 := (Dots.keepC b1 k6)
    replace c0 := (Dots.keepC c0 k6)
    replace c1 := (Dots.keepC c1 k6)
    replace HHX := Lib.hid (Bag.Had.below HHX.out k6)
    replace OVX := Lib.hid (World.ownsRow.kept OVX.out (grown_of k6) (Classical.em _))
    replace HHY := Lib.hid (Bag.Had.below HHY.out k6)
    replace OVY := Lib.hid (World.ownsRow.kept OVY.out (grown_of k6) (Classical.em _))
    replace HHZ := Lib.hid (Bag.Had.below HHZ.out k6)
    replace OVZ := Lib.hid (World.ownsRow.kept OVZ.out (grown_of k6) (Classical.em _))
    replace HHAB := Lib.hid (Bag.Had.below HHAB.out k6)
    replace OVVAB := Lib.hid (World.ownsRow.kept OVVAB.out (grown_of k6) (Classical.em _))
    replace HHBA := Lib.hid (Bag.Had.below HHBA.out k6)
    replace HHBC := Lib.hid (Bag.Had.below HHBC.out k6)
    replace hb := bstep hb k6
    clear k6
    have HVBC := Lib.hid hVBC
    have OVVBC := Lib.hid (Mark.Own.base hdVBC (Nat.le_trans hBW.out hbp.size))
    clear hVBC hdVBC hbp
    have BAB := Lib.hid (BX.out.join HR.out BY.out HAB.out HVAB.out)
    have BBC := Lib.hid (BY.out.join HR.out BZ.out HBC.out HVBC.out)
    have FAB := Lib.hid (BAB.out.sizes HR.out he60.out)
    have FBC := Lib.hid (BBC.out.sizes HR.out he60.out)
    have E1 : Hid (AB = BA) := Lib.hid (by
      have h1 := BV.bagJ HR.out BY.out BX.out HBA.out
      rw [BagLaw.or_comm] at h1
      exact BAB.out.bag.uniq h1)
    clear b0 b1 HHY OVY HBA
    go_wp2_with fail
    refine wp_region_noPanic ?_
    refine wp_region_held_drew (S := (fun w' => Below wc.heap.size wc w' ∧ w'.cell? ⟨na, 0, none⟩ = some (.slice X.la X.R.length X.lc) ∧ w'.cell? ⟨na, 1, none⟩ = some (.slice X.va X.V.length X.vc) ∧ w'.cell? ⟨nc, 0, none⟩ = some (.slice Z.la Z.R.length Z.lc) ∧ w'.cell? ⟨nc, 1, none⟩ = some (.slice Z.va Z.V.length Z.vc) ∧ Had w' w.heap.size X.la X.R.length X.lc X.R ∧ Mark.Own w' w.heap.size (.slice X.va X.V.length X.vc) X.V ∧ Had w' w.heap.size Z.la Z.R.length Z.lc Z.R ∧ Mark.Own w' w.heap.size (.slice Z.va Z.V.length Z.vc) Z.V ∧ Had w' w.heap.size aAB AB.length cAB AB ∧ Mark.Own w' w.heap.size (.slice aVAB VAB.length cVAB) VAB ∧ Had w' w.heap.size aBA BA.length cBA BA ∧ Had w' w.heap.size aBC BC.length cBC BC ∧ Mark.Own w' w.heap.size (.slice aVBC VBC.length cVBC) VBC)) (by kernel_rfl) (⟨Below.drew hb, Dots.keepC a0 (Below.drew (Below.refl _ _)), Dots.keepC a1 (Below.drew (Below.refl _ _)), Dots.keepC c0 (Below.drew (Below.refl _ _)), Dots.keepC c1 (Below.drew (Below.refl _ _)), Bag.Had.below HHX.out (Below.drew (Below.refl _ _)), World.ownsRow.kept OVX.out (grown_of (Below.drew (Below.refl _ _))) (Classical.em _), Bag.Had.below HHZ.out (Below.drew (Below.refl _ _)), World.ownsRow.kept OVZ.out (grown_of (Below.drew (Below.refl _ _))) (Classical.em _), Bag.Had.below HHAB.out (Below.drew (Below.refl _ _)), World.ownsRow.kept OVVAB.out (grown_of (Below.drew (Below.refl _ _))) (Classical.em _), Bag.Had.below HHBA.out (Below.drew (Below.refl _ _)), Bag.Had.below HHBC.out (Below.drew (Below.refl _ _)), World.ownsRow.kept OVVBC.out (grown_of (Below.drew (Below.refl _ _))) (Classical.em _)⟩) (fun hHeld => ?_)
    refine wpAnyH_take (i := 0) (v := ?_) (by simp only [List.getElem?_toArray, List.getElem?_cons_zero]; rfl) (by kernel_rfl) (by kernel_rfl) (by kernel_rfl) (fun _ _ _ h => h) (Or.inl ⟨by rfl, ?_⟩) (by assumption) ?_
    rotate_left
    · (intro w hSw; (try dsimp only at hSw); go_simp; try with_reducible rfl)
    try simp only [Act.put, List.setIfInBounds_toArray, List.set_cons_zero, List.set_cons_succ]
    refine wpAnyH_take (i := 1) (v := ?_) (by simp only [List.getElem?_toArray, List.getElem?_cons_succ, List.getElem?_cons_zero]; rfl) (by kernel_rfl) (by kernel_rfl) (by kernel_rfl) (fun _ _ _ h => h) (Or.inl ⟨by rfl, ?_⟩) (by assumption) ?_
    rotate_left
    · (intro w hSw; (try dsimp only at hSw); go_simp; try with_reducible rfl)
    try simp only [Act.put, List.setIfInBounds_toArray, List.set_cons_zero, List.set_cons_succ]
    refine wpAnyH_ready (rs := [2]) (by kernel_rfl) (by simp) ?_
    refine AllReadyH.cons (by simp only [List.getElem?_toArray, List.getElem?_cons_succ, List.getElem?_cons_zero]; rfl) (fun K hK => ?_) AllReadyH.nil
    go_simp
    go_at_call 9
    refine (same_is hHeld.2.2.2.2.2.2.2.2.2.1.lies hHeld.2.2.2.2.2.2.2.2.2.2.2.1.lies E1.out ⟨FAB.out.2.1, FAB.out.2.2.1⟩).mono ?_
    rintro e v7 ⟨rfl, k7⟩
    go_wp2_with fail
    refine hK.out _ _ (⟨bstep hHeld.1 k7, Dots.keepC hHeld.2.1 k7, Dots.keepC hHeld.2.2.1 k7, Dots.keepC hHeld.2.2.2.1 k7, Dots.keepC hHeld.2.2.2.2.1 k7, Bag.Had.below hHeld.2.2.2.2.2.1 k7, World.ownsRow.kept hHeld.2.2.2.2.2.2.1 (grown_of k7) (Classical.em _), Bag.Had.below hHeld.2.2.2.2.2.2.2.1 k7, World.ownsRow.kept hHeld.2.2.2.2.2.2.2.2.1 (grown_of k7) (Classical.em _), Bag.Had.below hHeld.2.2.2.2.2.2.2.2.2.1 k7, World.ownsRow.kept hHeld.2.2.2.2.2.2.2.2.2.2.1 (grown_of k7) (Classical.em _), Bag.Had.below hHeld.2.2.2.2.2.2.2.2.2.2.2.1 k7, Bag.Had.below hHeld.2.2.2.2.2.2.2.2.2.2.2.2.1 k7, World.ownsRow.kept hHeld.2.2.2.2.2.2.2.2.2.2.2.2.2 (grown_of k7) (Classical.em _)⟩) (fun hHeld => ?_)
    clear hK K k7
    try simp only [Act.put, List.setIfInBounds_toArray, List.set_cons_zero, List.set_cons_succ]
    refine wpAnyH_take (i := 3) (v := ?_) (by simp only [List.getElem?_toArray, List.getElem?_cons_succ, List.getElem?_cons_zero]; rfl) (by kernel_rfl) (by kernel_rfl) (by kernel_rfl) (fun _ _ _ h => h) (Or.inl ⟨by rfl, ?_⟩) (by assumption) ?_
    rotate_left
    · (intro w hSw; (try dsimp only at hSw); go_simp; try with_reducible rfl)
    try simp only [Act.put, List.setIfInBounds_toArray, List.set_cons_zero, List.set_cons_succ]
    refine wpAnyH_take (i := 4) (v := ?_) (by simp only [List.getElem?_toArray, List.getElem?_cons_succ, List.getElem?_cons_zero]; rfl) (by kernel_rfl) (by kernel_rfl) (by kernel_rfl) (fun _ _ _ h => h) (Or.inl ⟨by rfl, ?_⟩) (by assumption) ?_
    rotate_left
    · (intro w hSw; (try dsimp only at hSw); go_simp; try with_reducible rfl)
    try simp only [Act.put, List.setIfInBounds_toArray, List.set_cons_zero, List.set_cons_succ]
    refine wpAnyH_take (i := 5) (v := ?_) (by simp only [List.getElem?_toArray, List.getElem?_cons_succ, List.getElem?_cons_zero]; rfl) (by kernel_rfl) (by kernel_rfl) (by kernel_rfl) (fun _ _ _ h => h) (Or.inl ⟨by rfl, ?_⟩) (by assumption) ?_
    rotate_left
    · (intro w hSw; (try dsimp only at hSw); go_simp; try with_reducible rfl)
    try simp only [Act.put, List.setIfInBounds_toArray, List.set_cons_zero, List.set_cons_succ]
    refine wpAnyH_take (i := 6) (v := ?_) (by simp only [List.getElem?_toArray, List.getElem?_cons_succ, List.getElem?_cons_zero]; rfl) (by kernel_rfl) (by kernel_rfl) (by kernel_rfl) (fun _ _ _ h => h) (Or.inl ⟨by rfl, ?_⟩) (by assumption) ?_
    rotate_left
    · (intro w hSw; (try dsimp only at hSw); go_simp; try with_reducible rfl)
    try simp only [Act.put, List.setIfInBounds_toArray, List.set_cons_zero, List.set_cons_succ]
    refine wpAnyH_take (i := 7) (v := ?_) (by simp only [List.getElem?_toArray, List.getElem?_cons_succ, List.getElem?_cons_zero]; rfl) (by kernel_rfl) (by kernel_rfl) (by kernel_rfl) (fun _ _ _ h => h) (Or.inl ⟨by rfl, ?_⟩) (by assumption) ?_
    rotate_left
    · (intro w hSw; (try dsimp only at hSw); go_simp; try with_reducible rfl)
    try simp only [Act.put, List.setIfInBounds_toArray, List.set_cons_zero, List.set_cons_succ]
    refine wpAnyH_take (i := 8) (v := ?_) (by simp only [List.getElem?_toArray, List.getElem?_cons_succ, List.getElem?_cons_zero]; rfl) (by kernel_rfl) (by kernel_rfl) (by kernel_rfl) (fun _ _ _ h => h) (Or.inl ⟨by rfl, ?_⟩) (by assumption) ?_
    rotate_left
    · (intro w hSw; (try dsimp only at hSw); go_simp; try with_reducible rfl)
    try simp only [Act.put, List.setIfInBounds_toArray, List.set_cons_zero, List.set_cons_succ]
    refine wpAnyH_take (i := 9) (v := ?_) (by simp only [List.getElem?_toArray, List.getElem?_cons_succ, List.getElem?_cons_zero]; rfl) (by kernel_rfl) (by kernel_rfl) (by kernel_rfl) (fun _ _ _ h => h) (Or.inl ⟨by rfl, ?_⟩) (by assumption) ?_
    rotate_left
    · (intro w hSw; (try dsimp only at hSw); go_simp; try with_reducible rfl)
    try simp only [Act.put, List.setIfInBounds_toArray, List.set_cons_zero, List.set_cons_succ]
    refine wpAnyH_take (i := 11) (v := ?_) (by simp only [List.getElem?_toArray, List.getElem?_cons_succ, List.getElem?_cons_zero]; rfl) (by kernel_rfl) (by kernel_rfl) (by kernel_rfl) (fun _ _ _ h => h) (Or.inl ⟨by rfl, ?_⟩) (by assumption) ?_
    rotate_left
    · (intro w hSw; (try dsimp only at hSw); go_simp; try with_reducible rfl)
    try simp only [Act.put, List.setIfInBounds_toArray, List.set_cons_zero, List.set_cons_succ]
    refine wpAnyH_take (i := 12) (v := ?_) (by simp only [List.getElem?_toArray, List.getElem?_cons_succ, List.getElem?_cons_zero]; rfl) (by kernel_rfl) (by kernel_rfl) (by kernel_rfl) (fun _ _ _ h => h) (Or.inl ⟨by rfl, ?_⟩) (by assumption) ?_
    rotate_left
    · (intro w hSw; (try dsimp only at hSw); go_simp; try with_reducible rfl)
    try simp only [Act.put, List.setIfInBounds_toArray, List.set_cons_zero, List.set_cons_succ]
    refine wpAnyH_take (i := 13) (v := ?_) (by simp only [List.getElem?_toArray, List.getElem?_cons_succ, List.getElem?_cons_zero]; rfl) (by kernel_rfl) (by kernel_rfl) (by kernel_rfl) (fun _ _ _ h => h) (Or.inl ⟨by rfl, ?_⟩) (by assumption) ?_
    rotate_left
    · (intro w hSw; (try dsimp only at hSw); go_simp; try with_reducible rfl)
    try simp only [Act.put, List.setIfInBounds_toArray, List.set_cons_zero, List.set_cons_succ]
    refine wpAnyH_take (i := 14) (v := ?_) (by simp only [List.getElem?_toArray, List.getElem?_cons_succ, List.getElem?_cons_zero]; rfl) (by kernel_rfl) (by kernel_rfl) (by kernel_rfl) (fun _ _ _ h => h) (Or.inl ⟨by rfl, ?_⟩) (by assumption) ?_
    rotate_left
    · (intro w hSw; (try dsimp only at hSw); go_simp; try with_reducible rfl)
    try simp only [Act.put, List.setIfInBounds_toArray, List.set_cons_zero, List.set_cons_succ]
    refine wpAnyH_take (i := 15) (v := ?_) (by simp only [List.getElem?_toArray, List.getElem?_cons_succ, List.getElem?_cons_zero]; rfl) (by kernel_rfl) (by kernel_rfl) (by kernel_rfl) (fun _ _ _ h => h) (Or.inl ⟨by rfl, ?_⟩) (by assumption) ?_
    rotate_left
    · (intro w hSw; (try dsimp only at hSw); go_simp; try with_reducible rfl)
    try simp only [Act.put, List.setIfInBounds_toArray, List.set_cons_zero, List.set_cons_succ]
    refine wpAnyH_take (i := 16) (v := ?_) (by simp only [List.getElem?_toArray, List.getElem?_cons_succ, List.getElem?_cons_zero]; rfl) (by kernel_rfl) (by kernel_rfl) (by kernel_rfl) (fun _ _ _ h => h) (Or.inl ⟨by rfl, ?_⟩) (by assumption) ?_
    rotate_left
    · (intro w hSw; (try dsimp only at hSw); go_simp; try with_reducible rfl)
    try simp only [Act.put, List.setIfInBounds_toArray, List.set_cons_zero, List.set_cons_succ]
    refine wpAnyH_ready (rs := [10]) (by kernel_rfl) (by simp) ?_
    refine AllReadyH.cons (by simp only [List.getElem?_toArray, List.getElem?_cons_succ, List.getElem?_cons_zero]; rfl) (fun K hK => ?_) AllReadyH.nil
    go_simp
    go_at_call 10
    refine (bjoin (hHeld.2.2.2.2.2.2.2.2.2.1) (hHeld.2.2.2.2.2.2.2.1) (hHeld.2.2.2.2.2.2.2.2.2.2.1) (hHeld.2.2.2.2.2.2.2.2.1) FAB.out FZ.out).mono ?_
    rintro e v8 ⟨a8, c8, R1, rfl, hR1, -, hdR1, k8⟩
    have B1 := Lib.hid (BV.bagJ HR.out BAB.out BZ.out hR1)
    have FR1 := Lib.hid (live_few HR.out he60.out B1.out).2
    clear hR1
    go_wp2_with fail
    refine hK.out _ _ (⟨bstep hHeld.1 k8, Dots.keepC hHeld.2.1 k8, Dots.keepC hHeld.2.2.1 k8, Dots.keepC hHeld.2.2.2.1 k8, Dots.keepC hHeld.2.2.2.2.1 k8, Bag.Had.below hHeld.2.2.2.2.2.1 k8, World.ownsRow.kept hHeld.2.2.2.2.2.2.1 (grown_of k8) (Classical.em _), Bag.Had.below hHeld.2.2.2.2.2.2.2.1 k8, World.ownsRow.kept hHeld.2.2.2.2.2.2.2.2.1 (grown_of k8) (Classical.em _), Bag.Had.below hHeld.2.2.2.2.2.2.2.2.2.1 k8, World.ownsRow.kept hHeld.2.2.2.2.2.2.2.2.2.2.1 (grown_of k8) (Classical.em _), Bag.Had.below hHeld.2.2.2.2.2.2.2.2.2.2.2.1 k8, Bag.Had.below hHeld.2.2.2.2.2.2.2.2.2.2.2.2.1 k8, World.ownsRow.kept hHeld.2.2.2.2.2.2.2.2.2.2.2.2.2 (grown_of k8) (Classical.em _)⟩) (fun hHeld => ?_)
    clear hK K k8
    try simp only [Act.put, List.setIfInBounds_toArray, List.set_cons_zero, List.set_cons_succ]
    refine wpAnyH_ready (rs := [17]) (by kernel_rfl) (by simp) ?_
    refine AllReadyH.cons (by simp only [List.getElem?_toArray, List.getElem?_cons_succ, List.getElem?_cons_zero]; rfl) (fun K hK => ?_) AllReadyH.nil
    go_simp
    go_at_call 10
    refine (bjoin (hHeld.2.2.2.2.2.1) (hHeld.2.2.2.2.2.2.2.2.2.2.2.2.1) (hHeld.2.2.2.2.2.2.1) (hHeld.2.2.2.2.2.2.2.2.2.2.2.2.2) FX.out FBC.out).mono ?_
    rintro e v9 ⟨a9, c9, R2, rfl, hR2, -, hdR2, k9⟩
    have B2 := BV.bagJ HR.out BX.out BBC.out hR2
    rw [← BagLaw.or_assoc L0.out.1 L0.out.2] at B2
    have E2 := Lib.hid (B1.out.uniq B2)
    have kR2 := k9
    clear hR2 B2
    go_wp2_with fail
    refine hK.out _ _ (⟨bstep hHeld.1 k9, Dots.keepC hHeld.2.1 k9, Dots.keepC hHeld.2.2.1 k9, Dots.keepC hHeld.2.2.2.1 k9, Dots.keepC hHeld.2.2.2.2.1 k9, Bag.Had.below hHeld.2.2.2.2.2.1 k9, World.ownsRow.kept hHeld.2.2.2.2.2.2.1 (grown_of k9) (Classical.em _), Bag.Had.below hHeld.2.2.2.2.2.2.2.1 k9, World.ownsRow.kept hHeld.2.2.2.2.2.2.2.2.1 (grown_of k9) (Classical.em _), Bag.Had.below hHeld.2.2.2.2.2.2.2.2.2.1 k9, World.ownsRow.kept hHeld.2.2.2.2.2.2.2.2.2.2.1 (grown_of k9) (Classical.em _), Bag.Had.below hHeld.2.2.2.2.2.2.2.2.2.2.2.1 k9, Bag.Had.below hHeld.2.2.2.2.2.2.2.2.2.2.2.2.1 k9, World.ownsRow.kept hHeld.2.2.2.2.2.2.2.2.2.2.2.2.2 (grown_of k9) (Classical.em _)⟩) (fun hHeld => ?_)
    clear hK K k9
    try simp only [Act.put, List.setIfInBounds_toArray, List.set_cons_zero, List.set_cons_succ]
    refine wpAnyH_ready (rs := [18]) (by kernel_rfl) (by simp) ?_
    refine AllReadyH.cons (by simp only [List.getElem?_toArray, List.getElem?_cons_succ, List.getElem?_cons_zero]; rfl) (fun K hK => ?_) AllReadyH.nil
    go_simp
    go_at_call 9
    refine (same_is (hdR1.lies.below kR2) hdR2.lies E2.out FR1.out).mono ?_
    rintro e v10 ⟨rfl, k10⟩
    go_wp2_with fail
    refine hK.out _ _ (⟨bstep hHeld.1 k10, Dots.keepC hHeld.2.1 k10, Dots.keepC hHeld.2.2.1 k10, Dots.keepC hHeld.2.2.2.1 k10, Dots.keepC hHeld.2.2.2.2.1 k10, Bag.Had.below hHeld.2.2.2.2.2.1 k10, World.ownsRow.kept hHeld.2.2.2.2.2.2.1 (grown_of k10) (Classical.em _), Bag.Had.below hHeld.2.2.2.2.2.2.2.1 k10, World.ownsRow.kept hHeld.2.2.2.2.2.2.2.2.1 (grown_of k10) (Classical.em _), Bag.Had.below hHeld.2.2.2.2.2.2.2.2.2.1 k10, World.ownsRow.kept hHeld.2.2.2.2.2.2.2.2.2.2.1 (grown_of k10) (Classical.em _), Bag.Had.below hHeld.2.2.2.2.2.2.2.2.2.2.2.1 k10, Bag.Had.below hHeld.2.2.2.2.2.2.2.2.2.2.2.2.1 k10, World.ownsRow.kept hHeld.2.2.2.2.2.2.2.2.2.2.2.2.2 (grown_of k10) (Classical.em _)⟩) (fun hHeld => ?_)
    clear hK K k10
    try simp only [Act.put, List.setIfInBounds_toArray, List.set_cons_zero, List.set_cons_succ]
    refine wpAnyH_take (i := 19) (v := ?_) (by simp only [List.getElem?_toArray, List.getElem?_cons_succ, List.getElem?_cons_zero]; rfl) (by kernel_rfl) (by kernel_rfl) (by kernel_rfl) (fun _ _ _ h => h) (Or.inl ⟨by rfl, ?_⟩) (by assumption) ?_
    rotate_left
    · (intro w hSw; (try dsimp only at hSw); go_simp; try with_reducible rfl)
    try simp only [Act.put, List.setIfInBounds_toArray, List.set_cons_zero, List.set_cons_succ]
    refine wpAnyH_take (i := 20) (v := ?_) (by simp only [List.getElem?_toArray, List.getElem?_cons_succ, List.getElem?_cons_zero]; rfl) (by kernel_rfl) (by kernel_rfl) (by kernel_rfl) (fun _ _ _ h => h) (Or.inl ⟨by rfl, ?_⟩) (by assumption) ?_
    rotate_left
    · (intro w hSw; (try dsimp only at hSw); go_simp; try with_reducible rfl)
    try simp only [Act.put, List.setIfInBounds_toArray, List.set_cons_zero, List.set_cons_succ]
    refine wpAnyH_take (i := 21) (v := ?_) (by simp only [List.getElem?_toArray, List.getElem?_cons_succ, List.getElem?_cons_zero]; rfl) (by kernel_rfl) (by kernel_rfl) (by kernel_rfl) (fun _ _ _ h => h) (Or.inl ⟨by rfl, ?_⟩) (by assumption) ?_
    rotate_left
    · (intro w hSw; (try dsimp only at hSw); go_simp; try with_reducible rfl)
    try simp only [Act.put, List.setIfInBounds_toArray, List.set_cons_zero, List.set_cons_succ]
    refine wpAnyH_take (i := 22) (v := ?_) (by simp only [List.getElem?_toArray, List.getElem?_cons_succ, List.getElem?_cons_zero]; rfl) (by kernel_rfl) (by kernel_rfl) (by kernel_rfl) (fun _ _ _ h => h) (Or.inl ⟨by rfl, ?_⟩) (by assumption) ?_
    rotate_left
    · (intro w hSw; (try dsimp only at hSw); go_simp; try with_reducible rfl)
    try simp only [Act.put, List.setIfInBounds_toArray, List.set_cons_zero, List.set_cons_succ]
    refine wpAnyH_take (i := 23) (v := ?_) (by simp only [List.getElem?_toArray, List.getElem?_cons_succ, List.getElem?_cons_zero]; rfl) (by kernel_rfl) (by kernel_rfl) (by kernel_rfl) (fun _ _ _ h => h) (Or.inl ⟨by rfl, ?_⟩) (by assumption) ?_
    rotate_left
    · (intro w hSw; (try dsimp only at hSw); go_simp; try with_reducible rfl)
    try simp only [Act.put, List.setIfInBounds_toArray, List.set_cons_zero, List.set_cons_succ]
    refine wpAnyH_take (i := 24) (v := ?_) (by simp only [List.getElem?_toArray, List.getElem?_cons_succ, List.getElem?_cons_zero]; rfl) (by kernel_rfl) (by kernel_rfl) (by kernel_rfl) (fun _ _ _ h => h) (Or.inl ⟨by rfl, ?_⟩) (by assumption) ?_
    rotate_left
    · (intro w hSw; (try dsimp only at hSw); go_simp; try with_reducible rfl)
    try simp only [Act.put, List.setIfInBounds_toArray, List.set_cons_zero, List.set_cons_succ]
    refine wpAnyH_take (i := 25) (v := ?_) (by simp only [List.getElem?_toArray, List.getElem?_cons_succ, List.getElem?_cons_zero]; rfl) (by kernel_rfl) (by kernel_rfl) (by kernel_rfl) (fun _ _ _ h => h) (Or.inl ⟨by rfl, ?_⟩) (by assumption) ?_
    rotate_left
    · (intro w hSw; (try dsimp only at hSw); go_simp; try with_reducible rfl)
    try simp only [Act.put, List.setIfInBounds_toArray, List.set_cons_zero, List.set_cons_succ]
    refine wpAnyH_take (i := 26) (v := ?_) (by simp only [List.getElem?_toArray, List.getElem?_cons_succ, List.getElem?_cons_zero]; rfl) (by kernel_rfl) (by kernel_rfl) (by kernel_rfl) (fun _ _ _ h => h) (Or.inl ⟨by rfl, ?_⟩) (by assumption) ?_
    rotate_left
    · (intro w hSw; (try dsimp only at hSw); go_simp; try with_reducible rfl)
    try simp only [Act.put, List.setIfInBounds_toArray, List.set_cons_zero, List.set_cons_succ]
    refine wpAnyH_take (i := 28) (v := ?_) (by simp only [List.getElem?_toArray, List.getElem?_cons_succ, List.getElem?_cons_zero]; rfl) (by kernel_rfl) (by kernel_rfl) (by kernel_rfl) (fun _ _ _ h => h) (Or.inl ⟨by rfl, ?_⟩) (by assumption) ?_
    rotate_left
    · (intro w hSw; (try dsimp only at hSw); go_simp; try with_reducible rfl)
    try simp only [Act.put, List.setIfInBounds_toArray, List.set_cons_zero, List.set_cons_succ]
    refine wpAnyH_ready (rs := [27]) (by kernel_rfl) (by simp) ?_
    refine AllReadyH.cons (by simp only [List.getElem?_toArray, List.getElem?_cons_succ, List.getElem?_cons_zero]; rfl) (fun K hK => ?_) AllReadyH.nil
    go_simp
    go_at_call 10
    refine (bjoin (hHeld.2.2.2.2.2.2.2.2.2.1) (hHeld.2.2.2.2.2.1) (hHeld.2.2.2.2.2.2.2.2.2.2.1) (hHeld.2.2.2.2.2.2.1) FAB.out FX.out).mono ?_
    rintro e v11 ⟨a11, c11, R3, rfl, hR3, -, hdR3, k11⟩
    have B3 := BV.bagJ HR.out BAB.out BX.out hR3
    rw [BagLaw.or_again L0.out.1] at B3
    have E3 : Hid (R3 = AB) := Lib.hid (B3.uniq BAB.out.bag)
    have FR3 := Lib.hid (live_few HR.out he60.out B3).2
    clear hR3 B3
    go_wp2_with fail
    refine hK.out _ _ (⟨bstep hHeld.1 k11, Dots.keepC hHeld.2.1 k11, Dots.keepC hHeld.2.2.1 k11, Dots.keepC hHeld.2.2.2.1 k11, Dots.keepC hHeld.2.2.2.2.1 k11, Bag.Had.below hHeld.2.2.2.2.2.1 k11, World.ownsRow.kept hHeld.2.2.2.2.2.2.1 (grown_of k11) (Classical.em _), Bag.Had.below hHeld.2.2.2.2.2.2.2.1 k11, World.ownsRow.kept hHeld.2.2.2.2.2.2.2.2.1 (grown_of k11) (Classical.em _), Bag.Had.below hHeld.2.2.2.2.2.2.2.2.2.1 k11, World.ownsRow.kept hHeld.2.2.2.2.2.2.2.2.2.2.1 (grown_of k11) (Classical.em _), Bag.Had.below hHeld.2.2.2.2.2.2.2.2.2.2.2.1 k11, Bag.Had.below hHeld.2.2.2.2.2.2.2.2.2.2.2.2.1 k11, World.ownsRow.kept hHeld.2.2.2.2.2.2.2.2.2.2.2.2.2 (grown_of k11) (Classical.em _)⟩) (fun hHeld => ?_)
    clear hK K k11
    try simp only [Act.put, List.setIfInBounds_toArray, List.set_cons_zero, List.set_cons_succ]
    refine wpAnyH_ready (rs := [29]) (by kernel_rfl) (by simp) ?_
    refine AllReadyH.cons (by simp only [List.getElem?_toArray, List.getElem?_cons_succ, List.getElem?_cons_zero]; rfl) (fun K hK => ?_) AllReadyH.nil
    go_simp
    go_at_call 9
    refine (same_is hdR3.lies hHeld.2.2.2.2.2.2.2.2.2.1.lies E3.out FR3.out).mono ?_
    rintro e v12 ⟨rfl, k12⟩
    go_wp2_with fail
    refine hK.out _ _ (⟨bstep hHeld.1 k12, Dots.keepC hHeld.2.1 k12, Dots.keepC hHeld.2.2.1 k12, Dots.keepC hHeld.2.2.2.1 k12, Dots.keepC hHeld.2.2.2.2.1 k12, Bag.Had.below hHeld.2.2.2.2.2.1 k12, World.ownsRow.kept hHeld.2.2.2.2.2.2.1 (grown_of k12) (Classical.em _), Bag.Had.below hHeld.2.2.2.2.2.2.2.1 k12, World.ownsRow.kept hHeld.2.2.2.2.2.2.2.2.1 (grown_of k12) (Classical.em _), Bag.Had.below hHeld.2.2.2.2.2.2.2.2.2.1 k12, World.ownsRow.kept hHeld.2.2.2.2.2.2.2.2.2.2.1 (grown_of k12) (Classical.em _), Bag.Had.below hHeld.2.2.2.2.2.2.2.2.2.2.2.1 k12, Bag.Had.below hHeld.2.2.2.2.2.2.2.2.2.2.2.2.1 k12, World.ownsRow.kept hHeld.2.2.2.2.2.2.2.2.2.2.2.2.2 (grown_of k12) (Classical.em _)⟩) (fun hHeld => ?_)
    clear hK K k12
    try simp only [Act.put, List.setIfInBounds_toArray, List.set_cons_zero, List.set_cons_succ]
    refine wpAnyH_take (i := 30) (v := ?_) (by simp only [List.getElem?_toArray, List.getElem?_cons_succ, List.getElem?_cons_zero]; rfl) (by kernel_rfl) (by kernel_rfl) (by kernel_rfl) (fun _ _ _ h => h) (Or.inl ⟨by rfl, ?_⟩) (by assumption) ?_
    rotate_left
    · (intro w hSw; (try dsimp only at hSw); go_simp; try with_reducible rfl)
    try simp only [Act.put, List.setIfInBounds_toArray, List.set_cons_zero, List.set_cons_succ]
    refine wpAnyH_take (i := 31) (v := ?_) (by simp only [List.getElem?_toArray, List.getElem?_cons_succ, List.getElem?_cons_zero]; rfl) (by kernel_rfl) (by kernel_rfl) (by kernel_rfl) (fun _ _ _ h => h) (Or.inl ⟨by rfl, ?_⟩) (by assumption) ?_
    rotate_left
    · (intro w hSw; (try dsimp only at hSw); go_simp; try with_reducible rfl)
    try simp only [Act.put, List.setIfInBounds_toArray, List.set_cons_zero, List.set_cons_succ]
    refine wpAnyH_take (i := 32) (v := ?_) (by simp only [List.getElem?_toArray, List.getElem?_cons_succ, List.getElem?_cons_zero]; rfl) (by kernel_rfl) (by kernel_rfl) (by kernel_rfl) (fun _ _ _ h => h) (Or.inl ⟨by rfl, ?_⟩) (by assumption) ?_
    rotate_left
    · (intro w hSw; (try dsimp only at hSw); go_simp; try with_reducible rfl)
    try simp only [Act.put, List.setIfInBounds_toArray, List.set_cons_zero, List.set_cons_succ]
    refine wpAnyH_take (i := 33) (v := ?_) (by simp only [List.getElem?_toArray, List.getElem?_cons_succ, List.getElem?_cons_zero]; rfl) (by kernel_rfl) (by kernel_rfl) (by kernel_rfl) (fun _ _ _ h => h) (Or.inl ⟨by rfl, ?_⟩) (by assumption) ?_
    rotate_left
    · (intro w hSw; (try dsimp only at hSw); go_simp; try with_reducible rfl)
    try simp only [Act.put, List.setIfInBounds_toArray, List.set_cons_zero, List.set_cons_succ]
    refine wpAnyH_take (i := 34) (v := ?_) (by simp only [List.getElem?_toArray, List.getElem?_cons_succ, List.getElem?_cons_zero]; rfl) (by kernel_rfl) (by kernel_rfl) (by kernel_rfl) (fun _ _ _ h => h) (Or.inl ⟨by rfl, ?_⟩) (by assumption) ?_
    rotate_left
    · (intro w hSw; (try dsimp only at hSw); go_simp; try with_reducible rfl)
    try simp only [Act.put, List.setIfInBounds_toArray, List.set_cons_zero, List.set_cons_succ]
    refine wpAnyH_take (i := 35) (v := ?_) (by simp only [List.getElem?_toArray, List.getElem?_cons_succ, List.getElem?_cons_zero]; rfl) (by kernel_rfl) (by kernel_rfl) (by kernel_rfl) (fun _ _ _ h => h) (Or.inl ⟨by rfl, ?_⟩) (by assumption) ?_
    rotate_left
    · (intro w hSw; (try dsimp only at hSw); go_simp; try with_reducible rfl)
    try simp only [Act.put, List.setIfInBounds_toArray, List.set_cons_zero, List.set_cons_succ]
    refine wpAnyH_take (i := 37) (v := ?_) (by simp only [List.getElem?_toArray, List.getElem?_cons_succ, List.getElem?_cons_zero]; rfl) (by kernel_rfl) (by kernel_rfl) (by kernel_rfl) (fun _ _ _ h => h) (Or.inl ⟨by rfl, ?_⟩) (by assumption) ?_
    rotate_left
    · (intro w hSw; (try dsimp only at hSw); go_simp; try with_reducible rfl)
    try simp only [Act.put, List.setIfInBounds_toArray, List.set_cons_zero, List.set_cons_succ]
    refine wpAnyH_ready (rs := [36]) (by kernel_rfl) (by simp) ?_
    refine AllReadyH.cons (by simp only [List.getElem?_toArray, List.getElem?_cons_succ, List.getElem?_cons_zero]; rfl) (fun K hK => ?_) AllReadyH.nil
    go_simp
    go_at_call 10
    refine (bjoin (hHeld.2.2.2.2.2.2.2.2.2.1) (hHeld.2.2.2.2.2.2.2.2.2.1) (hHeld.2.2.2.2.2.2.2.2.2.2.1) (hHeld.2.2.2.2.2.2.2.2.2.2.1) FAB.out FAB.out).mono ?_
    rintro e v13 ⟨a13, c13, R4, rfl, hR4, -, hdR4, k13⟩
    have B4 := BV.bagJ HR.out BAB.out BAB.out hR4
    rw [BagLaw.or_self] at B4
    have E4 : Hid (R4 = AB) := Lib.hid (B4.uniq BAB.out.bag)
    have FR4 := Lib.hid (live_few HR.out he60.out B4).2
    clear hR4 B4
    go_wp2_with fail
    refine hK.out _ _ (⟨bstep hHeld.1 k13, Dots.keepC hHeld.2.1 k13, Dots.keepC hHeld.2.2.1 k13, Dots.keepC hHeld.2.2.2.1 k13, Dots.keepC hHeld.2.2.2.2.1 k13, Bag.Had.below hHeld.2.2.2.2.2.1 k13, World.ownsRow.kept hHeld.2.2.2.2.2.2.1 (grown_of k13) (Classical.em _), Bag.Had.below hHeld.2.2.2.2.2.2.2.1 k13, World.ownsRow.kept hHeld.2.2.2.2.2.2.2.2.1 (grown_of k13) (Classical.em _), Bag.Had.below hHeld.2.2.2.2.2.2.2.2.2.1 k13, World.ownsRow.kept hHeld.2.2.2.2.2.2.2.2.2.2.1 (grown_of k13) (Classical.em _), Bag.Had.below hHeld.2.2.2.2.2.2.2.2.2.2.2.1 k13, Bag.Had.below hHeld.2.2.2.2.2.2.2.2.2.2.2.2.1 k13, World.ownsRow.kept hHeld.2.2.2.2.2.2.2.2.2.2.2.2.2 (grown_of k13) (Classical.em _)⟩) (fun hHeld => ?_)
    clear hK K k13
    try simp only [Act.put, List.setIfInBounds_toArray, List.set_cons_zero, List.set_cons_succ]
    refine wpAnyH_ready (rs := [38]) (by kernel_rfl) (by simp) ?_
    refine AllReadyH.cons (by simp only [List.getElem?_toArray, List.getElem?_cons_succ, List.getElem?_cons_zero]; rfl) (fun K hK => ?_) AllReadyH.nil
    go_simp
    go_at_call 9
    refine (same_is hdR4.lies hHeld.2.2.2.2.2.2.2.2.2.1.lies E4.out FR4.out).mono ?_
    rintro e v14 ⟨rfl, k14⟩
    go_wp2_with fail
    refine hK.out _ _ (⟨bstep hHeld.1 k14, Dots.keepC hHeld.2.1 k14, Dots.keepC hHeld.2.2.1 k14, Dots.keepC hHeld.2.2.2.1 k14, Dots.keepC hHeld.2.2.2.2.1 k14, Bag.Had.below hHeld.2.2.2.2.2.1 k14, World.ownsRow.kept hHeld.2.2.2.2.2.2.1 (grown_of k14) (Classical.em _), Bag.Had.below hHeld.2.2.2.2.2.2.2.1 k14, World.ownsRow.kept hHeld.2.2.2.2.2.2.2.2.1 (grown_of k14) (Classical.em _), Bag.Had.below hHeld.2.2.2.2.2.2.2.2.2.1 k14, World.ownsRow.kept hHeld.2.2.2.2.2.2.2.2.2.2.1 (grown_of k14) (Classical.em _), Bag.Had.below hHeld.2.2.2.2.2.2.2.2.2.2.2.1 k14, Bag.Had.below hHeld.2.2.2.2.2.2.2.2.2.2.2.2.1 k14, World.ownsRow.kept hHeld.2.2.2.2.2.2.2.2.2.2.2.2.2 (grown_of k14) (Classical.em _)⟩) (fun hHeld => ?_)
    clear hK K k14
    try simp only [Act.put, List.setIfInBounds_toArray, List.set_cons_zero, List.set_cons_succ]
    refine wpAnyH_take (i := 39) (v := ?_) (by simp only [List.getElem?_toArray, List.getElem?_cons_succ, List.getElem?_cons_zero]; rfl) (by kernel_rfl) (by kernel_rfl) (by kernel_rfl) (fun _ _ _ h => h) (Or.inl ⟨by rfl, ?_⟩) (by assumption) ?_
    rotate_left
    · (intro w hSw; (try dsimp only at hSw); go_simp; try with_reducible rfl)
    try simp only [Act.put, List.setIfInBounds_toArray, List.set_cons_zero, List.set_cons_succ]
    refine wpAnyH_take (i := 40) (v := ?_) (by simp only [List.getElem?_toArray, List.getElem?_cons_succ, List.getElem?_cons_zero]; rfl) (by kernel_rfl) (by kernel_rfl) (by kernel_rfl) (fun _ _ _ h => h) (Or.inl ⟨by rfl, ?_⟩) (by assumption) ?_
    rotate_left
    · (intro w hSw; (try dsimp only at hSw); go_simp; try with_reducible rfl)
    try simp only [Act.put, List.setIfInBounds_toArray, List.set_cons_zero, List.set_cons_succ]
    refine wpAnyH_ready (rs := [41]) (by kernel_rfl) (by simp) ?_
    refine AllReadyH.cons (by simp only [List.getElem?_toArray, List.getElem?_cons_succ, List.getElem?_cons_zero]; rfl) (fun K hK => ?_) AllReadyH.nil
    go_simp
    go_at_call 8
    refine (alive_any _).mono ?_
    rintro e v15 ⟨rfl, k15⟩
    go_wp2_with fail
    refine hK.out _ _ (⟨bstep hHeld.1 k15, Dots.keepC hHeld.2.1 k15, Dots.keepC hHeld.2.2.1 k15, Dots.keepC hHeld.2.2.2.1 k15, Dots.keepC hHeld.2.2.2.2.1 k15, Bag.Had.below hHeld.2.2.2.2.2.1 k15, World.ownsRow.kept hHeld.2.2.2.2.2.2.1 (grown_of k15) (Classical.em _), Bag.Had.below hHeld.2.2.2.2.2.2.2.1 k15, World.ownsRow.kept hHeld.2.2.2.2.2.2.2.2.1 (grown_of k15) (Classical.em _), Bag.Had.below hHeld.2.2.2.2.2.2.2.2.2.1 k15, World.ownsRow.kept hHeld.2.2.2.2.2.2.2.2.2.2.1 (grown_of k15) (Classical.em _), Bag.Had.below hHeld.2.2.2.2.2.2.2.2.2.2.2.1 k15, Bag.Had.below hHeld.2.2.2.2.2.2.2.2.2.2.2.2.1 k15, World.ownsRow.kept hHeld.2.2.2.2.2.2.2.2.2.2.2.2.2 (grown_of k15) (Classical.em _)⟩) (fun hHeld => ?_)
    clear hK K k15
    try simp only [Act.put, List.setIfInBounds_toArray, List.set_cons_zero, List.set_cons_succ]
    refine wpAnyH_take (i := 42) (v := ?_) (by simp only [List.getElem?_toArray, List.getElem?_cons_succ, List.getElem?_cons_zero]; rfl) (by kernel_rfl) (by kernel_rfl) (by kernel_rfl) (fun _ _ _ h => h) (Or.inl ⟨by rfl, ?_⟩) (by assumption) ?_
    rotate_left
    · (intro w hSw; (try dsimp only at hSw); go_simp; try with_reducible rfl)
    try simp only [Act.put, List.setIfInBounds_toArray, List.set_cons_zero, List.set_cons_succ]
    refine wpAnyH_take (i := 43) (v := ?_) (by simp only [List.getElem?_toArray, List.getElem?_cons_succ, List.getElem?_cons_zero]; rfl) (by kernel_rfl) (by kernel_rfl) (by kernel_rfl) (fun _ _ _ h => h) (Or.inl ⟨by rfl, ?_⟩) (by assumption) ?_
    rotate_left
    · (intro w hSw; (try dsimp only at hSw); go_simp; try with_reducible rfl)
    try simp only [Act.put, List.setIfInBounds_toArray, List.set_cons_zero, List.set_cons_succ]
    refine wpAnyH_done (by kernel_rfl) ?_ _
    refine NoPanic.normal ?_
    clear hb a0 a1 c0 c1 HHX OVX HHZ OVZ HHAB OVVAB HHBA HHBC OVVBC
    obtain ⟨hb, a0, a1, c0, c1, HHX, OVX, HHZ, OVZ, HHAB, OVVAB, HHBA, HHBC, OVVBC⟩ := hHeld
    replace HHX := Lib.hid HHX
    replace OVX := Lib.hid OVX
    replace HHZ := Lib.hid HHZ
    replace OVZ := Lib.hid OVZ
    replace HHAB := Lib.hid HHAB
    replace OVVAB := Lib.hid OVVAB
    replace HHBA := Lib.hid HHBA
    replace HHBC := Lib.hid HHBC
    replace OVVBC := Lib.hid OVVBC
    have hbw := HBB.out.trans (hb.mono HBB.out.size)
    go_wp2
    go_ret
    exact ⟨rfl, hbw⟩
end BagOrder
end Go.Proofs.Ytnlbgjghckbbcaa
