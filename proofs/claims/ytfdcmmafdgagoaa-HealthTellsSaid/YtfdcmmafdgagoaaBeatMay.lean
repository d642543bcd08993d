/- health.May, the reference's May. -/
import Derived.Test.YtfdcmmafdgagoaaBeatMayPlain
import Derived.Test.YtfdcmmafdgagoaaPathFns
import Derived.Deep.RegionHeld3
namespace Go.Proofs.Ytfdcmmafdgagoaa
namespace Beat
open Go.RowKit Go.Proofs.Ytfdcmmafdgagoaa.Order

/-- No name is too long. -/
def Small (L : List B) : Prop := ∀ x ∈ L, x.p.length ≤ 1099511627776
theorem leq_iff (a b : List UInt8) : (Op.bytesLess a b || a == b) = decide (Lib.compareBytes a b ≤ 0) := by
  by_cases he : a = b
  · subst he; rw [Order.cmp_self]; simp
  · have : (a == b) = false := by rw [beq_eq_false_iff_ne]; exact he
    rw [this, Bool.or_false]
    cases h : Op.bytesLess a b with
    | true => have := Order.cmp_less _ _ h; rw [this]; rfl
    | false => have := Order.cmp_more _ _ he h; rw [this]; rfl
theorem bad_none (x : B) : badB none x = (decide (281474976710656 < x.n) || !pathB x.p) := rfl
theorem bad_some (l : List UInt8) (x : B) : badB (some l) x = (decide (Lib.compareBytes x.p l ≤ 0) || (decide (281474976710656 < x.n) || !pathB x.p)) := rfl
theorem before_succ (L : List B) (k : Nat) (h : k < L.length) : before L (k + 1) = some L[k].p := by
  rw [before, List.getElem?_eq_getElem h]; rfl

set_option maxRecDepth 100000 in
set_option maxHeartbeats 8000000 in
theorem may_any (L : List B) (a : Option Addr) (c : Nat) (w : World) (hL : Lies w a L.length L) (hW : Small L) :
    Calls Try.prog 8 #[.slice a L.length c] w fun e w' => e = .returned (.bool (mayB L)) ∧ Below w.heap.size w w' := by
  have hb := Below.refl w.heap.size w
  by_cases hbig : 24 < L.length
  · have HV := Lib.hid (show mayB L = false by unfold mayB; rw [decide_eq_false (by omega)]; rfl)
    have d : decide ((24 : Int) < (L.length : Int)) = true := decide_eq_true (by omega)
    have d2 : decide ((L.length : Int) > (24 : Int)) = true := decide_eq_true (by omega)
    clear hL
    go_enter Try.func8, Try.ntmps8
    go_wp2
    go_ret
    exact ⟨by rw [HV.out]; rfl, hb⟩
  have HV := Lib.hid (show mayB L = mayGo (before L 0) (L.drop 0) by unfold mayB; rw [decide_eq_true (by omega)]; rfl)
  have d : decide ((24 : Int) < (L.length : Int)) = false := decide_eq_false (by omega)
  have d2 : decide ((L.length : Int) > (24 : Int)) = false := decide_eq_false (by omega)
  have C := Lib.hid (fun (x : B) (hx : x ∈ L) w => Path.may_any x.p w (hW x hx))
  have lL := Lib.hid hL
  have HN : Hid (L.length ≤ 24) := Lib.hid (by omega)
  clear hL hW hbig
  go_enter Try.func8, Try.ntmps8
  go_wp2_with fail
  go_loopw [10] (fun iv wr => ∃ k : Nat, k ≤ L.length ∧ iv = .int .i64 k ∧ mayB L = mayGo (before L k) (L.drop k) ∧ Below w.heap.size w wr ∧ Lies wr a L.length L) (fun iv _ => L.length - (intOf iv).toNat)
  case atStart => exact ⟨0, by omega, rfl, HV.out, hb, lL.out⟩
  case round =>
    clear hb lL d d2
    obtain ⟨k, hk, rfl, hs, hb, lL⟩ := hrel
    have hn := HN.out
    by_cases hlt : k < L.length
    · obtain ⟨b, o, rfl, hcell⟩ := lies_at lL (by omega)
      obtain ⟨c1, c2, c3⟩ := hcell k (by omega)
      rw [mayGo_step L k hlt] at hs
      have hmem := List.getElem_mem hlt
      have hnx := before_succ L k hlt
      have hpv : ∀ j (hj : j < L.length), j + 1 = k → before L k = some L[j].p := fun j hj e => by rw [← e]; exact before_succ L j hj
      obtain ⟨m, hm⟩ : ∃ m, m = L[k] := ⟨_, rfl⟩
      rw [← hm] at c1 c2 c3 hs hmem hnx
      have C := Lib.hid (C.out m hmem)
      have q1 := World.block_lt_of_cell? _ _ c1
      have j0 : decide ((k : Int) < (L.length : Int)) = true := decide_eq_true (by omega)
      have b1 : (0 : Int) ≤ (k : Int) := by omega
      have b2 : (k : Int) < (L.length : Int) := by omega
      have x1 : ∀ T, (wr.alloc (.cells #[.string ⟨m.p.toArray⟩, .int .u64 (m.n : Int), .bool m.bad] T)).cell? ⟨wr.heap.size, 0, none⟩ = some (.string ⟨m.p.toArray⟩) := fun T => by rw [World.cell?_alloc_new]; rfl
      have x2 : ∀ T, (wr.alloc (.cells #[.string ⟨m.p.toArray⟩, .int .u64 (m.n : Int), .bool m.bad] T)).cell? ⟨wr.heap.size, 1, none⟩ = some (.int .u64 (m.n : Int)) := fun T => by rw [World.cell?_alloc_new]; rfl
      have y1 := c1
      have ka := balloc (Below.refl wr.heap.size wr) (.cells #[.string ⟨m.p.toArray⟩, .int .u64 (m.n : Int), .bool m.bad] 28)
      replace lL := Lib.hid lL
      rcases Nat.eq_zero_or_pos k with hk0 | hk0
      · have e4 : decide ((k : Int) > 0) = false := decide_eq_false (by omega)
        have e5 : decide ((0 : Int) < (k : Int)) = false := decide_eq_false (by omega)
        have e6 : decide (0 < k) = false := decide_eq_false (by omega)
        have hbad : badB (before L k) m = (decide (281474976710656 < m.n) || !pathB m.p) := by rw [hk0]; rfl
        clear hm hcell hk0 y1 hpv hmem
        go_wp2_with fail
        replace x1 := x1 28
        replace x2 := x2 28
        replace lL := Lib.hid (lL.out.below ka)
        replace hb := bstep hb ka
        clear ka
        generalize (wr.alloc _) = wb at x1 x2 lL hb ⊢
        generalize wr.heap.size = B at x1 x2 ⊢
        refine wp_region_noPanic ?_
        refine wp_region_held_drew (S := (fun w' => Below w.heap.size w w' ∧ w'.cell? ⟨B, 0, none⟩ = some (.string ⟨m.p.toArray⟩) ∧ w'.cell? ⟨B, 1, none⟩ = some (.int .u64 (m.n : Int)) ∧ Lies w' (some ⟨b, o, none⟩) L.length L)) (by kernel_rfl) (⟨Below.drew hb, keepC x1 (Below.drew (Below.refl _ _)), keepC x2 (Below.drew (Below.refl _ _)), (lL.out).below (Below.drew (Below.refl _ _))⟩) (fun hHeld => ?_)
        refine wpAnyH_take (i := 0) (v := ?_) (by simp only [List.getElem?_toArray, List.getElem?_cons_zero]; rfl) (by kernel_rfl) (by kernel_rfl) (by kernel_rfl) (fun _ _ _ h => h) (Or.inl ⟨by rfl, ?_⟩) (by assumption) ?_
        rotate_left
        · (intro w hSw; (try dsimp only at hSw); go_simp; try with_reducible rfl)
        try simp only [Act.put, List.setIfInBounds_toArray, List.set_cons_zero, List.set_cons_succ]
        refine wpAnyH_take (i := 1) (v := ?_) (by simp only [List.getElem?_toArray, List.getElem?_cons_succ, List.getElem?_cons_zero]; rfl) (by kernel_rfl) (by kernel_rfl) (by kernel_rfl) (fun _ _ _ h => h) (Or.inl ⟨by rfl, ?_⟩) (by assumption) ?_
        rotate_left
        · (intro w hSw; (try dsimp only at hSw); go_simp; try with_reducible rfl)
        try simp only [Act.put, List.setIfInBounds_toArray, List.set_cons_zero, List.set_cons_succ]
        refine wpAnyH_take (i := 2) (v := ?_) (by simp only [List.getElem?_toArray, List.getElem?_cons_succ, List.getElem?_cons_zero]; rfl) (by kernel_rfl) (by kernel_rfl) (by kernel_rfl) (fun _ _ _ h => h) (Or.inl ⟨by rfl, ?_⟩) (by assumption) ?_
        rotate_left
        · (intro w hSw; (try dsimp only at hSw); go_simp; try with_reducible rfl)
        try simp only [Act.put, List.setIfInBounds_toArray, List.set_cons_zero, List.set_cons_succ]
        refine wpAnyH_take (i := 3) (v := undef) (by simp only [List.getElem?_toArray, List.getElem?_cons_succ, List.getElem?_cons_zero]; rfl) (by kernel_rfl) (by kernel_rfl) (by kernel_rfl) (fun _ _ _ h => h) (Or.inr ⟨by rfl, rfl⟩) (by assumption) ?_
        try simp only [Act.put, List.setIfInBounds_toArray, List.set_cons_zero, List.set_cons_succ]
        refine wpAnyH_take (i := 4) (v := undef) (by simp only [List.getElem?_toArray, List.getElem?_cons_succ, List.getElem?_cons_zero]; rfl) (by kernel_rfl) (by kernel_rfl) (by kernel_rfl) (fun _ _ _ h => h) (Or.inr ⟨by rfl, rfl⟩) (by assumption) ?_
        try simp only [Act.put, List.setIfInBounds_toArray, List.set_cons_zero, List.set_cons_succ]
        refine wpAnyH_take (i := 5) (v := undef) (by simp only [List.getElem?_toArray, List.getElem?_cons_succ, List.getElem?_cons_zero]; rfl) (by kernel_rfl) (by kernel_rfl) (by kernel_rfl) (fun _ _ _ h => h) (Or.inr ⟨by rfl, rfl⟩) (by assumption) ?_
        try simp only [Act.put, List.setIfInBounds_toArray, List.set_cons_zero, List.set_cons_succ]
        refine wpAnyH_take (i := 6) (v := undef) (by simp only [List.getElem?_toArray, List.getElem?_cons_succ, List.getElem?_cons_zero]; rfl) (by kernel_rfl) (by kernel_rfl) (by kernel_rfl) (fun _ _ _ h => h) (Or.inr ⟨by rfl, rfl⟩) (by assumption) ?_
        try simp only [Act.put, List.setIfInBounds_toArray, List.set_cons_zero, List.set_cons_succ]
        refine wpAnyH_take (i := 7) (v := undef) (by simp only [List.getElem?_toArray, List.getElem?_cons_succ, List.getElem?_cons_zero]; rfl) (by kernel_rfl) (by kernel_rfl) (by kernel_rfl) (fun _ _ _ h => h) (Or.inr ⟨by rfl, rfl⟩) (by assumption) ?_
        try simp only [Act.put, List.setIfInBounds_toArray, List.set_cons_zero, List.set_cons_succ]
        refine wpAnyH_take (i := 8) (v := undef) (by simp only [List.getElem?_toArray, List.getElem?_cons_succ, List.getElem?_cons_zero]; rfl) (by kernel_rfl) (by kernel_rfl) (by kernel_rfl) (fun _ _ _ h => h) (Or.inr ⟨by rfl, rfl⟩) (by assumption) ?_
        try simp only [Act.put, List.setIfInBounds_toArray, List.set_cons_zero, List.set_cons_succ]
        refine wpAnyH_take (i := 9) (v := undef) (by simp only [List.getElem?_toArray, List.getElem?_cons_succ, List.getElem?_cons_zero]; rfl) (by kernel_rfl) (by kernel_rfl) (by kernel_rfl) (fun _ _ _ h => h) (Or.inr ⟨by rfl, rfl⟩) (by assumption) ?_
        try simp only [Act.put, List.setIfInBounds_toArray, List.set_cons_zero, List.set_cons_succ]
        refine wpAnyH_take (i := 10) (v := undef) (by simp only [List.getElem?_toArray, List.getElem?_cons_succ, List.getElem?_cons_zero]; rfl) (by kernel_rfl) (by kernel_rfl) (by kernel_rfl) (fun _ _ _ h => h) (Or.inr ⟨by rfl, rfl⟩) (by assumption) ?_
        try simp only [Act.put, List.setIfInBounds_toArray, List.set_cons_zero, List.set_cons_succ]
        refine wpAnyH_take (i := 11) (v := undef) (by simp only [List.getElem?_toArray, List.getElem?_cons_succ, List.getElem?_cons_zero]; rfl) (by kernel_rfl) (by kernel_rfl) (by kernel_rfl) (fun _ _ _ h => h) (Or.inr ⟨by rfl, rfl⟩) (by assumption) ?_
        try simp only [Act.put, List.setIfInBounds_toArray, List.set_cons_zero, List.set_cons_succ]
        refine wpAnyH_take (i := 12) (v := ?_) (by simp only [List.getElem?_toArray, List.getElem?_cons_succ, List.getElem?_cons_zero]; rfl) (by kernel_rfl) (by kernel_rfl) (by kernel_rfl) (fun _ _ _ h => h) (Or.inl ⟨by rfl, ?_⟩) (by assumption) ?_
        rotate_left
        · (intro w hSw; (try dsimp only at hSw); go_simp; try with_reducible rfl)
        try simp only [Act.put, List.setIfInBounds_toArray, List.set_cons_zero, List.set_cons_succ]
        refine wpAnyH_done (by kernel_rfl) ?_ _
        refine NoPanic.normal ?_
        clear hb x1 x2 lL
        obtain ⟨hb, x1, x2, lL⟩ := hHeld
        replace lL := Lib.hid lL
        by_cases g2 : 281474976710656 < m.n
        · have e1 : decide ((m.n : Int) > (281474976710656 : Int)) = true := decide_eq_true (by omega)
          have e2 : decide ((281474976710656 : Int) < (m.n : Int)) = true := decide_eq_true (by omega)
          have HS : Hid (mayB L = false) := Lib.hid (by rw [hs, hbad, decide_eq_true g2]; simp)
          clear hs hbad hnx g2
          go_wp2
          go_ret
          exact ⟨by rw [HS.out]; rfl, hb⟩
        have e1 : decide ((m.n : Int) > (281474976710656 : Int)) = false := decide_eq_false (by omega)
        have e2 : decide ((281474976710656 : Int) < (m.n : Int)) = false := decide_eq_false (by omega)
        cases g3 : pathB m.p
        · have HS : Hid (mayB L = false) := Lib.hid (by rw [hs, hbad, g3]; simp)
          have HP : Hid (decide (0 < (Path.parse m.p).length) = false) := Lib.hid g3
          clear hs hbad hnx g2 g3
          go_wp2_with fail
          refine (C.out _).mono ?_
          rintro e v1 ⟨rfl, k1⟩
          replace x1 := (keepC x1 k1)
          replace x2 := (keepC x2 k1)
          replace lL := Lib.hid ((lL.out).below k1)
          replace hb := bstep hb k1
          clear k1
          have hp := HP.out
          rw [hp]
          go_wp2
          go_ret
          exact ⟨by rw [HS.out]; rfl, hb⟩
        · have HS : Hid (mayB L = mayGo (before L (k + 1)) (L.drop (k + 1))) := Lib.hid (by rw [hs, hbad, g3, decide_eq_false g2]; simp)
          have HP : Hid (decide (0 < (Path.parse m.p).length) = true) := Lib.hid g3
          have HQ := Lib.hid hlt
          clear hs hbad hnx g2 g3 hlt
          go_wp2_with fail
          refine (C.out _).mono ?_
          rintro e v2 ⟨rfl, k2⟩
          replace x1 := (keepC x1 k2)
          replace x2 := (keepC x2 k2)
          replace lL := Lib.hid ((lL.out).below k2)
          replace hb := bstep hb k2
          clear k2
          have hp := HP.out
          rw [hp]
          go_wp2
          go_roundw
          case rel => exact ⟨k + 1, by have := HQ.out; omega, by go_num, HS.out, hb, lL.out⟩
          case measure => have := HQ.out; simp [intOf]; omega
      · obtain ⟨j, hj⟩ : ∃ j, k = j + 1 := ⟨k - 1, by omega⟩
        clear y1
        have y1 := (hcell j (by omega)).1
        have hbf := hpv j (by omega) hj.symm
        obtain ⟨q, hq⟩ : ∃ q, q = (L[j]'(by omega)).p := ⟨_, rfl⟩
        rw [← hq] at y1 hbf
        have hbad := bad_some q m
        rw [hbf] at hs
        have e4 : decide ((k : Int) > 0) = true := decide_eq_true (by omega)
        have e5 : decide ((0 : Int) < (k : Int)) = true := decide_eq_true (by omega)
        have e6 : decide (0 < k) = true := decide_eq_true (by omega)
        have j1 : (k : Int) - 1 = (j : Int) := by omega
        have jw : IntKind.i64.wrap (j : Int) = (j : Int) := by rw [IntKind.wrap_i64]; omega
        have b3 : (0 : Int) ≤ (j : Int) := by omega
        have b4 : (j : Int) < (L.length : Int) := by omega
        have l3 := leq_iff m.p q
        have HJ := Lib.hid hj
        clear hm hcell hk0 hpv hmem hq hbf hj
        by_cases g4 : Lib.compareBytes m.p q ≤ 0
        · rw [decide_eq_true g4] at l3
          have HS : Hid (mayB L = false) := Lib.hid (by rw [hs, hbad, decide_eq_true g4]; simp)
          clear hs hbad hnx g4
          go_wp2_with fail
          replace x1 := x1 28
          replace x2 := x2 28
          replace lL := Lib.hid (lL.out.below ka)
          replace hb := bstep hb ka
          replace y1 := keepC y1 ka
          clear ka
          generalize (wr.alloc _) = wb at x1 x2 lL hb y1 ⊢
          generalize wr.heap.size = B at x1 x2 ⊢
          refine wp_region_noPanic ?_
          refine wp_region_held_drew (S := (fun w' => Below w.heap.size w w' ∧ w'.cell? ⟨B, 0, none⟩ = some (.string ⟨m.p.toArray⟩) ∧ w'.cell? ⟨B, 1, none⟩ = some (.int .u64 (m.n : Int)) ∧ w'.cell? ⟨b, o + j * 3, none⟩ = some (.string ⟨q.toArray⟩) ∧ Lies w' (some ⟨b, o, none⟩) L.length L)) (by kernel_rfl) (⟨Below.drew hb, keepC x1 (Below.drew (Below.refl _ _)), keepC x2 (Below.drew (Below.refl _ _)), Beat.keepC y1 (Below.drew (Below.refl _ _)), (lL.out).below (Below.drew (Below.refl _ _))⟩) (fun hHeld => ?_)
          refine wpAnyH_take (i := 0) (v := ?_) (by simp only [List.getElem?_toArray, List.getElem?_cons_zero]; rfl) (by kernel_rfl) (by kernel_rfl) (by kernel_rfl) (fun _ _ _ h => h) (Or.inl ⟨by rfl, ?_⟩) (by assumption) ?_
          rotate_left
          · (intro w hSw; (try dsimp only at hSw); go_simp; try with_reducible rfl)
          try simp only [Act.put, List.setIfInBounds_toArray, List.set_cons_zero, List.set_cons_succ]
          refine wpAnyH_take (i := 1) (v := ?_) (by simp only [List.getElem?_toArray, List.getElem?_cons_succ, List.getElem?_cons_zero]; rfl) (by kernel_rfl) (by kernel_rfl) (by kernel_rfl) (fun _ _ _ h => h) (Or.inl ⟨by rfl, ?_⟩) (by assumption) ?_
          rotate_left
          · (intro w hSw; (try dsimp only at hSw); go_simp; try with_reducible rfl)
          try simp only [Act.put, List.setIfInBounds_toArray, List.set_cons_zero, List.set_cons_succ]
          refine wpAnyH_take (i := 2) (v := ?_) (by simp only [List.getElem?_toArray, List.getElem?_cons_succ, List.getElem?_cons_zero]; rfl) (by kernel_rfl) (by kernel_rfl) (by kernel_rfl) (fun _ _ _ h => h) (Or.inl ⟨by rfl, ?_⟩) (by assumption) ?_
          rotate_left
          · (intro w hSw; (try dsimp only at hSw); go_simp; try with_reducible rfl)
          try simp only [Act.put, List.setIfInBounds_toArray, List.set_cons_zero, List.set_cons_succ]
          refine wpAnyH_take (i := 3) (v := ?_) (by simp only [List.getElem?_toArray, List.getElem?_cons_succ, List.getElem?_cons_zero]; rfl) (by kernel_rfl) (by kernel_rfl) (by kernel_rfl) (fun _ _ _ h => h) (Or.inl ⟨by rfl, ?_⟩) (by assumption) ?_
          rotate_left
          · (intro w hSw; (try dsimp only at hSw); go_simp; try with_reducible rfl)
          try simp only [Act.put, List.setIfInBounds_toArray, List.set_cons_zero, List.set_cons_succ]
          refine wpAnyH_take (i := 4) (v := ?_) (by simp only [List.getElem?_toArray, List.getElem?_cons_succ, List.getElem?_cons_zero]; rfl) (by kernel_rfl) (by kernel_rfl) (by kernel_rfl) (fun _ _ _ h => h) (Or.inl ⟨by rfl, ?_⟩) (by assumption) ?_
          rotate_left
          · (intro w hSw; (try dsimp only at hSw); go_simp; try with_reducible rfl)
          try simp only [Act.put, List.setIfInBounds_toArray, List.set_cons_zero, List.set_cons_succ]
          refine wpAnyH_take (i := 5) (v := ?_) (by simp only [List.getElem?_toArray, List.getElem?_cons_succ, List.getElem?_cons_zero]; rfl) (by kernel_rfl) (by kernel_rfl) (by kernel_rfl) (fun _ _ _ h => h) (Or.inl ⟨by rfl, ?_⟩) (by assumption) ?_
          rotate_left
          · (intro w hSw; (try dsimp only at hSw); go_simp; try with_reducible rfl)
          try simp only [Act.put, List.setIfInBounds_toArray, List.set_cons_zero, List.set_cons_succ]
          refine wpAnyH_take (i := 6) (v := ?_) (by simp only [List.getElem?_toArray, List.getElem?_cons_succ, List.getElem?_cons_zero]; rfl) (by kernel_rfl) (by kernel_rfl) (by kernel_rfl) (fun _ _ _ h => h) (Or.inl ⟨by rfl, ?_⟩) (by assumption) ?_
          rotate_left
          · (intro w hSw; (try dsimp only at hSw); go_simp; try with_reducible rfl)
          try simp only [Act.put, List.setIfInBounds_toArray, List.set_cons_zero, List.set_cons_succ]
          refine wpAnyH_take (i := 7) (v := ?_) (by simp only [List.getElem?_toArray, List.getElem?_cons_succ, List.getElem?_cons_zero]; rfl) (by kernel_rfl) (by kernel_rfl) (by kernel_rfl) (fun _ _ _ h => h) (Or.inl ⟨by rfl, ?_⟩) (by assumption) ?_
          rotate_left
          · (intro w hSw; (try dsimp only at hSw); go_simp; try with_reducible rfl)
          try simp only [Act.put, List.setIfInBounds_toArray, List.set_cons_zero, List.set_cons_succ]
          refine wpAnyH_take (i := 8) (v := ?_) (by simp only [List.getElem?_toArray, List.getElem?_cons_succ, List.getElem?_cons_zero]; rfl) (by kernel_rfl) (by kernel_rfl) (by kernel_rfl) (fun _ _ _ h => h) (Or.inl ⟨by rfl, ?_⟩) (by assumption) ?_
          rotate_left
          · (intro w hSw; (try dsimp only at hSw); go_simp; try with_reducible rfl)
          try simp only [Act.put, List.setIfInBounds_toArray, List.set_cons_zero, List.set_cons_succ]
          refine wpAnyH_take (i := 9) (v := ?_) (by simp only [List.getElem?_toArray, List.getElem?_cons_succ, List.getElem?_cons_zero]; rfl) (by kernel_rfl) (by kernel_rfl) (by kernel_rfl) (fun _ _ _ h => h) (Or.inl ⟨by rfl, ?_⟩) (by assumption) ?_
          rotate_left
          · (intro w hSw; (try dsimp only at hSw); go_simp; try with_reducible rfl)
          try simp only [Act.put, List.setIfInBounds_toArray, List.set_cons_zero, List.set_cons_succ]
          refine wpAnyH_take (i := 10) (v := ?_) (by simp only [List.getElem?_toArray, List.getElem?_cons_succ, List.getElem?_cons_zero]; rfl) (by kernel_rfl) (by kernel_rfl) (by kernel_rfl) (fun _ _ _ h => h) (Or.inl ⟨by rfl, ?_⟩) (by assumption) ?_
          rotate_left
          · (intro w hSw; (try dsimp only at hSw); go_simp; try with_reducible rfl)
          try simp only [Act.put, List.setIfInBounds_toArray, List.set_cons_zero, List.set_cons_succ]
          refine wpAnyH_take (i := 11) (v := ?_) (by simp only [List.getElem?_toArray, List.getElem?_cons_succ, List.getElem?_cons_zero]; rfl) (by kernel_rfl) (by kernel_rfl) (by kernel_rfl) (fun _ _ _ h => h) (Or.inl ⟨by rfl, ?_⟩) (by assumption) ?_
          rotate_left
          · (intro w hSw; (try dsimp only at hSw); go_simp; try with_reducible rfl)
          try simp only [Act.put, List.setIfInBounds_toArray, List.set_cons_zero, List.set_cons_succ]
          refine wpAnyH_take (i := 12) (v := ?_) (by simp only [List.getElem?_toArray, List.getElem?_cons_succ, List.getElem?_cons_zero]; rfl) (by kernel_rfl) (by kernel_rfl) (by kernel_rfl) (fun _ _ _ h => h) (Or.inl ⟨by rfl, ?_⟩) (by assumption) ?_
          rotate_left
          · (intro w hSw; (try dsimp only at hSw); go_simp; try with_reducible rfl)
          try simp only [Act.put, List.setIfInBounds_toArray, List.set_cons_zero, List.set_cons_succ]
          refine wpAnyH_done (by kernel_rfl) ?_ _
          refine NoPanic.normal ?_
          clear hb x1 x2 y1 lL
          obtain ⟨hb, x1, x2, y1, lL⟩ := hHeld
          replace lL := Lib.hid lL
          go_wp2
          go_ret
          exact ⟨by rw [HS.out]; rfl, hb⟩
        · rw [decide_eq_false g4] at l3
          rw [decide_eq_false g4, Bool.false_or] at hbad
          clear g4
          go_wp2_with fail
          replace x1 := x1 28
          replace x2 := x2 28
          replace lL := Lib.hid (lL.out.below ka)
          replace hb := bstep hb ka
          replace y1 := keepC y1 ka
          clear ka
          generalize (wr.alloc _) = wb at x1 x2 lL hb y1 ⊢
          generalize wr.heap.size = B at x1 x2 ⊢
          refine wp_region_noPanic ?_
          refine wp_region_held_drew (S := (fun w' => Below w.heap.size w w' ∧ w'.cell? ⟨B, 0, none⟩ = some (.string ⟨m.p.toArray⟩) ∧ w'.cell? ⟨B, 1, none⟩ = some (.int .u64 (m.n : Int)) ∧ w'.cell? ⟨b, o + j * 3, none⟩ = some (.string ⟨q.toArray⟩) ∧ Lies w' (some ⟨b, o, none⟩) L.length L)) (by kernel_rfl) (⟨Below.drew hb, keepC x1 (Below.drew (Below.refl _ _)), keepC x2 (Below.drew (Below.refl _ _)), Beat.keepC y1 (Below.drew (Below.refl _ _)), (lL.out).below (Below.drew (Below.refl _ _))⟩) (fun hHeld => ?_)
          refine wpAnyH_take (i := 0) (v := ?_) (by simp only [List.getElem?_toArray, List.getElem?_cons_zero]; rfl) (by kernel_rfl) (by kernel_rfl) (by kernel_rfl) (fun _ _ _ h => h) (Or.inl ⟨by rfl, ?_⟩) (by assumption) ?_
          rotate_left
          · (intro w hSw; (try dsimp only at hSw); go_simp; try with_reducible rfl)
          try simp only [Act.put, List.setIfInBounds_toArray, List.set_cons_zero, List.set_cons_succ]
          refine wpAnyH_take (i := 1) (v := ?_) (by simp only [List.getElem?_toArray, List.getElem?_cons_succ, List.getElem?_cons_zero]; rfl) (by kernel_rfl) (by kernel_rfl) (by kernel_rfl) (fun _ _ _ h => h) (Or.inl ⟨by rfl, ?_⟩) (by assumption) ?_
          rotate_left
          · (intro w hSw; (try dsimp only at hSw); go_simp; try with_reducible rfl)
          try simp only [Act.put, List.setIfInBounds_toArray, List.set_cons_zero, List.set_cons_succ]
          refine wpAnyH_take (i := 2) (v := ?_) (by simp only [List.getElem?_toArray, List.getElem?_cons_succ, List.getElem?_cons_zero]; rfl) (by kernel_rfl) (by kernel_rfl) (by kernel_rfl) (fun _ _ _ h => h) (Or.inl ⟨by rfl, ?_⟩) (by assumption) ?_
          rotate_left
          · (intro w hSw; (try dsimp only at hSw); go_simp; try with_reducible rfl)
          try simp only [Act.put, List.setIfInBounds_toArray, List.set_cons_zero, List.set_cons_succ]
          refine wpAnyH_take (i := 3) (v := ?_) (by simp only [List.getElem?_toArray, List.getElem?_cons_succ, List.getElem?_cons_zero]; rfl) (by kernel_rfl) (by kernel_rfl) (by kernel_rfl) (fun _ _ _ h => h) (Or.inl ⟨by rfl, ?_⟩) (by assumption) ?_
          rotate_left
          · (intro w hSw; (try dsimp only at hSw); go_simp; try with_reducible rfl)
          try simp only [Act.put, List.setIfInBounds_toArray, List.set_cons_zero, List.set_cons_succ]
          refine wpAnyH_take (i := 4) (v := ?_) (by simp only [List.getElem?_toArray, List.getElem?_cons_succ, List.getElem?_cons_zero]; rfl) (by kernel_rfl) (by kernel_rfl) (by kernel_rfl) (fun _ _ _ h => h) (Or.inl ⟨by rfl, ?_⟩) (by assumption) ?_
          rotate_left
          · (intro w hSw; (try dsimp only at hSw); go_simp; try with_reducible rfl)
          try simp only [Act.put, List.setIfInBounds_toArray, List.set_cons_zero, List.set_cons_succ]
          refine wpAnyH_take (i := 5) (v := ?_) (by simp only [List.getElem?_toArray, List.getElem?_cons_succ, List.getElem?_cons_zero]; rfl) (by kernel_rfl) (by kernel_rfl) (by kernel_rfl) (fun _ _ _ h => h) (Or.inl ⟨by rfl, ?_⟩) (by assumption) ?_
          rotate_left
          · (intro w hSw; (try dsimp only at hSw); go_simp; try with_reducible rfl)
          try simp only [Act.put, List.setIfInBounds_toArray, List.set_cons_zero, List.set_cons_succ]
          refine wpAnyH_take (i := 6) (v := ?_) (by simp only [List.getElem?_toArray, List.getElem?_cons_succ, List.getElem?_cons_zero]; rfl) (by kernel_rfl) (by kernel_rfl) (by kernel_rfl) (fun _ _ _ h => h) (Or.inl ⟨by rfl, ?_⟩) (by assumption) ?_
          rotate_left
          · (intro w hSw; (try dsimp only at hSw); go_simp; try with_reducible rfl)
          try simp only [Act.put, List.setIfInBounds_toArray, List.set_cons_zero, List.set_cons_succ]
          refine wpAnyH_take (i := 7) (v := ?_) (by simp only [List.getElem?_toArray, List.getElem?_cons_succ, List.getElem?_cons_zero]; rfl) (by kernel_rfl) (by kernel_rfl) (by kernel_rfl) (fun _ _ _ h => h) (Or.inl ⟨by rfl, ?_⟩) (by assumption) ?_
          rotate_left
          · (intro w hSw; (try dsimp only at hSw); go_simp; try with_reducible rfl)
          try simp only [Act.put, List.setIfInBounds_toArray, List.set_cons_zero, List.set_cons_succ]
          refine wpAnyH_take (i := 8) (v := ?_) (by simp only [List.getElem?_toArray, List.getElem?_cons_succ, List.getElem?_cons_zero]; rfl) (by kernel_rfl) (by kernel_rfl) (by kernel_rfl) (fun _ _ _ h => h) (Or.inl ⟨by rfl, ?_⟩) (by assumption) ?_
          rotate_left
          · (intro w hSw; (try dsimp only at hSw); go_simp; try with_reducible rfl)
          try simp only [Act.put, List.setIfInBounds_toArray, List.set_cons_zero, List.set_cons_succ]
          refine wpAnyH_take (i := 9) (v := ?_) (by simp only [List.getElem?_toArray, List.getElem?_cons_succ, List.getElem?_cons_zero]; rfl) (by kernel_rfl) (by kernel_rfl) (by kernel_rfl) (fun _ _ _ h => h) (Or.inl ⟨by rfl, ?_⟩) (by assumption) ?_
          rotate_left
          · (intro w hSw; (try dsimp only at hSw); go_simp; try with_reducible rfl)
          try simp only [Act.put, List.setIfInBounds_toArray, List.set_cons_zero, List.set_cons_succ]
          refine wpAnyH_take (i := 10) (v := ?_) (by simp only [List.getElem?_toArray, List.getElem?_cons_succ, List.getElem?_cons_zero]; rfl) (by kernel_rfl) (by kernel_rfl) (by kernel_rfl) (fun _ _ _ h => h) (Or.inl ⟨by rfl, ?_⟩) (by assumption) ?_
          rotate_left
          · (intro w hSw; (try dsimp only at hSw); go_simp; try with_reducible rfl)
          try simp only [Act.put, List.setIfInBounds_toArray, List.set_cons_zero, List.set_cons_succ]
          refine wpAnyH_take (i := 11) (v := ?_) (by simp only [List.getElem?_toArray, List.getElem?_cons_succ, List.getElem?_cons_zero]; rfl) (by kernel_rfl) (by kernel_rfl) (by kernel_rfl) (fun _ _ _ h => h) (Or.inl ⟨by rfl, ?_⟩) (by assumption) ?_
          rotate_left
          · (intro w hSw; (try dsimp only at hSw); go_simp; try with_reducible rfl)
          try simp only [Act.put, List.setIfInBounds_toArray, List.set_cons_zero, List.set_cons_succ]
          refine wpAnyH_take (i := 12) (v := ?_) (by simp only [List.getElem?_toArray, List.getElem?_cons_succ, List.getElem?_cons_zero]; rfl) (by kernel_rfl) (by kernel_rfl) (by kernel_rfl) (fun _ _ _ h => h) (Or.inl ⟨by rfl, ?_⟩) (by assumption) ?_
          rotate_left
          · (intro w hSw; (try dsimp only at hSw); go_simp; try with_reducible rfl)
          try simp only [Act.put, List.setIfInBounds_toArray, List.set_cons_zero, List.set_cons_succ]
          refine wpAnyH_done (by kernel_rfl) ?_ _
          refine NoPanic.normal ?_
          clear hb x1 x2 y1 lL
          obtain ⟨hb, x1, x2, y1, lL⟩ := hHeld
          replace lL := Lib.hid lL
          by_cases g2 : 281474976710656 < m.n
          · have e1 : decide ((m.n : Int) > (281474976710656 : Int)) = true := decide_eq_true (by omega)
            have e2 : decide ((281474976710656 : Int) < (m.n : Int)) = true := decide_eq_true (by omega)
            have HS : Hid (mayB L = false) := Lib.hid (by rw [hs, hbad, decide_eq_true g2]; simp)
            clear hs hbad hnx g2
            go_wp2
            go_ret
            exact ⟨by rw [HS.out]; rfl, hb⟩
          have e1 : decide ((m.n : Int) > (281474976710656 : Int)) = false := decide_eq_false (by omega)
          have e2 : decide ((281474976710656 : Int) < (m.n : Int)) = false := decide_eq_false (by omega)
          cases g3 : pathB m.p
          · have HS : Hid (mayB L = false) := Lib.hid (by rw [hs, hbad, g3]; simp)
            have HP : Hid (decide (0 < (Path.parse m.p).length) = false) := Lib.hid g3
            clear hs hbad hnx g2 g3
            go_wp2_with fail
            refine (C.out _).mono ?_
            rintro e v3 ⟨rfl, k3⟩
            replace x1 := (keepC x1 k3)
            replace x2 := (keepC x2 k3)
            replace y1 := (Beat.keepC y1 k3)
            replace lL := Lib.hid ((lL.out).below k3)
            replace hb := bstep hb k3
            clear k3
            have hp := HP.out
            rw [hp]
            go_wp2
            go_ret
            exact ⟨by rw [HS.out]; rfl, hb⟩
          · have HS : Hid (mayB L = mayGo (before L (k + 1)) (L.drop (k + 1))) := Lib.hid (by rw [hs, hbad, g3, decide_eq_false g2]; simp)
            have HP : Hid (decide (0 < (Path.parse m.p).length) = true) := Lib.hid g3
            have HQ := Lib.hid hlt
            clear hs hbad hnx g2 g3 hlt
            go_wp2_with fail
            refine (C.out _).mono ?_
            rintro e v4 ⟨rfl, k4⟩
            replace x1 := (keepC x1 k4)
            replace x2 := (keepC x2 k4)
            replace y1 := (Beat.keepC y1 k4)
            replace lL := Lib.hid ((lL.out).below k4)
            replace hb := bstep hb k4
            clear k4
            have hp := HP.out
            rw [hp]
            go_wp2
            go_roundw
            case rel => exact ⟨k + 1, by have := HQ.out; omega, by go_num, HS.out, hb, lL.out⟩
            case measure => have := HQ.out; simp [intOf]; omega
    · obtain rfl : k = L.length := by omega
      have hv : mayB L = true := by rw [hs, List.drop_eq_nil_of_le (by omega)]; rfl
      have HV := Lib.hid hv
      have hd : decide ((L.length : Int) < (L.length : Int)) = false := decide_eq_false (by omega)
      clear hs hlt hv
      go_wp2
      go_ret
      exact ⟨by rw [HV.out]; rfl, hb⟩
end Beat
end Go.Proofs.Ytfdcmmafdgagoaa
