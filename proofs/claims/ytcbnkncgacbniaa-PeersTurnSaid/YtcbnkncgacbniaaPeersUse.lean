/- peers: the law's copied, marks, same; no peers (nil). -/
import Derived.Test.YtcbnkncgacbniaaPeersLearn
import Derived.Test.YtcbnkncgacbniaaPeersStep
import Derived.Test.YtcbnkncgacbniaaRefDotJoin
namespace Go.Proofs.Ytcbnkncgacbniaa
namespace PeersLaw
open Go.RowKit Go.Proofs.Ytcbnkncgacbniaa.Mark Go.Proofs.Ytcbnkncgacbniaa.Dots Go.Proofs.Ytcbnkncgacbniaa.RefDots
open Go.Proofs.Ytcbnkncgacbniaa.Peers (GotM)
set_option maxRecDepth 100000 in
set_option maxHeartbeats 1000000 in
theorem marks_any (L K : List M) (a1 a2 : Option Addr) (n1 n2 c1 c2 : Nat) (w : World) (hL : Mark.Lies w a1 n1 L) (hK : Mark.Lies w a2 n2 K) (hn1 : n1 ≤ 1099511627776) (hn2 : n2 ≤ 1099511627776) :
    Calls Try.prog 15 #[.slice a1 n1 c1, .slice a2 n2 c2] w fun e w' => e = .returned (.bool (decide (L = K))) ∧ Below w.heap.size w w' := by
  have h0 := Below.refl w.heap.size w
  by_cases hne : n1 = n2
  · subst hne
    have HL := Lib.hid hL
    have HK := Lib.hid hK
    have hneq : ((n1 : Int) != (n1 : Int)) = false := by simp
    clear hL hK
    go_enter Try.func15, Try.ntmps15
    go_wp2_with fail
    go_loopw [5] (fun iv wr => ∃ k : Nat, k ≤ n1 ∧ iv = .int .i64 k ∧ L.take k = K.take k ∧ Below w.heap.size w wr) (fun iv _ => n1 - (intOf iv).toNat)
    case atStart => exact ⟨0, by omega, rfl, rfl, h0⟩
    case round =>
      obtain ⟨k, hk, rfl, hs, hb⟩ := hrel
      have hln := HL.out.1
      have hkn := HK.out.1
      by_cases hlt : k < n1
      · obtain ⟨b1, o1, rfl, hcell1⟩ := (HL.out.below hb).2 (by omega)
        obtain ⟨b2, o2, rfl, hcell2⟩ := (HK.out.below hb).2 (by omega)
        obtain ⟨d1, d2⟩ := hcell1 k (by omega)
        obtain ⟨d3, d4⟩ := hcell2 k (by omega)
        have hs1 : L.take (k + 1) = L.take k ++ [L[k]'(by omega)] := List.take_succ_eq_append_getElem (by omega)
        have hs2 : K.take (k + 1) = K.take k ++ [K[k]'(by omega)] := List.take_succ_eq_append_getElem (by omega)
        obtain ⟨m, hm⟩ : ∃ m, m = L[k]'(by omega) := ⟨_, rfl⟩
        obtain ⟨x, hx⟩ : ∃ x, x = K[k]'(by omega) := ⟨_, rfl⟩
        rw [← hm] at d1 d2 hs1
        rw [← hx] at d3 d4 hs2
        have hE := neq_mark m x
        by_cases he : m = x
        · rw [decide_eq_true he] at hE
          have HS : Hid (L.take (k + 1) = K.take (k + 1)) := Lib.hid (by rw [hs1, hs2, hs, he])
          clear hs hs1 hs2 hm hx hcell1 hcell2 hln hkn he
          go_wp2_with fail
          refine wp_region_noPanic ?_
          refine wp_region_held_drew (S := (fun w' => (w'.cell? ⟨b1, o1 + k * 2, none⟩ = some (.string ⟨m.p.toArray⟩) ∧ w'.cell? ⟨b1, o1 + k * 2 + 1, none⟩ = some (.int .u64 (m.n : Int))) ∧ w'.cell? ⟨b2, o2 + k * 2, none⟩ = some (.string ⟨x.p.toArray⟩) ∧ w'.cell? ⟨b2, o2 + k * 2 + 1, none⟩ = some (.int .u64 (x.n : Int)))) (by kernel_rfl) (⟨⟨d1, d2⟩, d3, d4⟩) (fun hHeld => ?_)
          refine wpAnyH_take (i := 0) (v := ?_) (by simp only [List.getElem?_toArray, List.getElem?_cons_zero]; rfl) (by kernel_rfl) (by kernel_rfl) (by kernel_rfl) (fun _ _ _ h => h) (Or.inl ⟨by rfl, ?_⟩) (by assumption) ?_
          rotate_left
          · (intro w hSw; (try dsimp only at hSw); go_simp; try with_reducible rfl)
          try simp only [Act.put, List.setIfInBounds_toArray, List.set_cons_zero, List.set_cons_succ]
          refine wpAnyH_take (i := 1) (v := ?_) (by simp only [List.getElem?_toArray, List.getElem?_cons_succ, List.getElem?_cons_zero]; rfl) (by kernel_rfl) (by kernel_rfl) (by kernel_rfl) (fun _ _ _ h => h) (Or.inl ⟨by rfl, ?_⟩) (by assumption) ?_
          rotate_left
          · (intro w hSw; (try dsimp only at hSw); go_simp; try with_reducible rfl)
          try simp only [Act.put, List.setIfInBounds_toArray, List.set_cons_zero, List.set_cons_succ]
          refine wpAnyH_take (i := 2) (v := ?_) (by simp only [List.getElem?_toArray, List.getElem?_cons_succ, List.getElem?_cons_zero]; rfl) (by kernel_rfl) (by kernel_rfl) (by kernel_rfl) (fun _ _ _ h => h) (Or.inl ⟨by rfl, ?_⟩) (by assumption) ?_
          rotate_left
          · (intro w hSw; (try dsimp only at hSw); go_simp; try with_reducible rfl)
          try simp only [Act.put, List.setIfInBounds_toArray, List.set_cons_zero, List.set_cons_succ]
          refine wpAnyH_take (i := 3) (v := ?_) (by simp only [List.getElem?_toArray, List.getElem?_cons_succ, List.getElem?_cons_zero]; rfl) (by kernel_rfl) (by kernel_rfl) (by kernel_rfl) (fun _ _ _ h => h) (Or.inl ⟨by rfl, ?_⟩) (by assumption) ?_
          rotate_left
          · (intro w hSw; (try dsimp only at hSw); go_simp; try with_reducible rfl)
          try simp only [Act.put, List.setIfInBounds_toArray, List.set_cons_zero, List.set_cons_succ]
          refine wpAnyH_take (i := 4) (v := ?_) (by simp only [List.getElem?_toArray, List.getElem?_cons_succ, List.getElem?_cons_zero]; rfl) (by kernel_rfl) (by kernel_rfl) (by kernel_rfl) (fun _ _ _ h => h) (Or.inl ⟨by rfl, ?_⟩) (by assumption) ?_
          rotate_left
          · (intro w hSw; (try dsimp only at hSw); go_simp; try with_reducible rfl)
          try simp only [Act.put, List.setIfInBounds_toArray, List.set_cons_zero, List.set_cons_succ]
          refine wpAnyH_take (i := 5) (v := ?_) (by simp only [List.getElem?_toArray, List.getElem?_cons_succ, List.getElem?_cons_zero]; rfl) (by kernel_rfl) (by kernel_rfl) (by kernel_rfl) (fun _ _ _ h => h) (Or.inl ⟨by rfl, ?_⟩) (by assumption) ?_
          rotate_left
          · (intro w hSw; (try dsimp only at hSw); go_simp; try with_reducible rfl)
          try simp only [Act.put, List.setIfInBounds_toArray, List.set_cons_zero, List.set_cons_succ]
          refine wpAnyH_take (i := 6) (v := ?_) (by simp only [List.getElem?_toArray, List.getElem?_cons_succ, List.getElem?_cons_zero]; rfl) (by kernel_rfl) (by kernel_rfl) (by kernel_rfl) (fun _ _ _ h => h) (Or.inl ⟨by rfl, ?_⟩) (by assumption) ?_
          rotate_left
          · (intro w hSw; (try dsimp only at hSw); go_simp; try with_reducible rfl)
          try simp only [Act.put, List.setIfInBounds_toArray, List.set_cons_zero, List.set_cons_succ]
          refine wpAnyH_take (i := 7) (v := ?_) (by simp only [List.getElem?_toArray, List.getElem?_cons_succ, List.getElem?_cons_zero]; rfl) (by kernel_rfl) (by kernel_rfl) (by kernel_rfl) (fun _ _ _ h => h) (Or.inl ⟨by rfl, ?_⟩) (by assumption) ?_
          rotate_left
          · (intro w hSw; (try dsimp only at hSw); go_simp; try with_reducible rfl)
          try simp only [Act.put, List.setIfInBounds_toArray, List.set_cons_zero, List.set_cons_succ]
          refine wpAnyH_take (i := 8) (v := ?_) (by simp only [List.getElem?_toArray, List.getElem?_cons_succ, List.getElem?_cons_zero]; rfl) (by kernel_rfl) (by kernel_rfl) (by kernel_rfl) (fun _ _ _ h => h) (Or.inl ⟨by rfl, ?_⟩) (by assumption) ?_
          rotate_left
          · (intro w hSw; (try dsimp only at hSw); go_simp; try with_reducible rfl)
          try simp only [Act.put, List.setIfInBounds_toArray, List.set_cons_zero, List.set_cons_succ]
          refine wpAnyH_done (by kernel_rfl) ?_ _
          refine NoPanic.normal ?_
          go_wp2
          go_roundw
          case rel => exact ⟨k + 1, by omega, by go_num, HS.out, Below.drew hb⟩
          case measure => simp [intOf]; omega
        · rw [decide_eq_false he] at hE
          have HV : Hid (decide (L = K) = false) := Lib.hid (decide_eq_false fun e => he (by rw [hm, hx]; simp only [e]))
          clear hs hs1 hs2 hm hx hcell1 hcell2 hln hkn he
          go_wp2_with fail
          refine wp_region_noPanic ?_
          refine wp_region_held_drew (S := (fun w' => (w'.cell? ⟨b1, o1 + k * 2, none⟩ = some (.string ⟨m.p.toArray⟩) ∧ w'.cell? ⟨b1, o1 + k * 2 + 1, none⟩ = some (.int .u64 (m.n : Int))) ∧ w'.cell? ⟨b2, o2 + k * 2, none⟩ = some (.string ⟨x.p.toArray⟩) ∧ w'.cell? ⟨b2, o2 + k * 2 + 1, none⟩ = some (.int .u64 (x.n : Int)))) (by kernel_rfl) (⟨⟨d1, d2⟩, d3, d4⟩) (fun hHeld => ?_)
          refine wpAnyH_take (i := 0) (v := ?_) (by simp only [List.getElem?_toArray, List.getElem?_cons_zero]; rfl) (by kernel_rfl) (by kernel_rfl) (by kernel_rfl) (fun _ _ _ h => h) (Or.inl ⟨by rfl, ?_⟩) (by assumption) ?_
          rotate_left
          · (intro w hSw; (try dsimp only at hSw); go_simp; try with_reducible rfl)
          try simp only [Act.put, List.setIfInBounds_toArray, List.set_cons_zero, List.set_cons_succ]
          refine wpAnyH_take (i := 1) (v := ?_) (by simp only [List.getElem?_toArray, List.getElem?_cons_succ, List.getElem?_cons_zero]; rfl) (by kernel_rfl) (by kernel_rfl) (by kernel_rfl) (fun _ _ _ h => h) (Or.inl ⟨by rfl, ?_⟩) (by assumption) ?_
          rotate_left
          · (intro w hSw; (try dsimp only at hSw); go_simp; try with_reducible rfl)
          try simp only [Act.put, List.setIfInBounds_toArray, List.set_cons_zero, List.set_cons_succ]
          refine wpAnyH_take (i := 2) (v := ?_) (by simp only [List.getElem?_toArray, List.getElem?_cons_succ, List.getElem?_cons_zero]; rfl) (by kernel_rfl) (by kernel_rfl) (by kernel_rfl) (fun _ _ _ h => h) (Or.inl ⟨by rfl, ?_⟩) (by assumption) ?_
          rotate_left
          · (intro w hSw; (try dsimp only at hSw); go_simp; try with_reducible rfl)
          try simp only [Act.put, List.setIfInBounds_toArray, List.set_cons_zero, List.set_cons_succ]
          refine wpAnyH_take (i := 3) (v := ?_) (by simp only [List.getElem?_toArray, List.getElem?_cons_succ, List.getElem?_cons_zero]; rfl) (by kernel_rfl) (by kernel_rfl) (by kernel_rfl) (fun _ _ _ h => h) (Or.inl ⟨by rfl, ?_⟩) (by assumption) ?_
          rotate_left
          · (intro w hSw; (try dsimp only at hSw); go_simp; try with_reducible rfl)
          try simp only [Act.put, List.setIfInBounds_toArray, List.set_cons_zero, List.set_cons_succ]
          refine wpAnyH_take (i := 4) (v := ?_) (by simp only [List.getElem?_toArray, List.getElem?_cons_succ, List.getElem?_cons_zero]; rfl) (by kernel_rfl) (by kernel_rfl) (by kernel_rfl) (fun _ _ _ h => h) (Or.inl ⟨by rfl, ?_⟩) (by assumption) ?_
          rotate_left
          · (intro w hSw; (try dsimp only at hSw); go_simp; try with_reducible rfl)
          try simp only [Act.put, List.setIfInBounds_toArray, List.set_cons_zero, List.set_cons_succ]
          refine wpAnyH_take (i := 5) (v := ?_) (by simp only [List.getElem?_toArray, List.getElem?_cons_succ, List.getElem?_cons_zero]; rfl) (by kernel_rfl) (by kernel_rfl) (by kernel_rfl) (fun _ _ _ h => h) (Or.inl ⟨by rfl, ?_⟩) (by assumption) ?_
          rotate_left
          · (intro w hSw; (try dsimp only at hSw); go_simp; try with_reducible rfl)
          try simp only [Act.put, List.setIfInBounds_toArray, List.set_cons_zero, List.set_cons_succ]
          refine wpAnyH_take (i := 6) (v := ?_) (by simp only [List.getElem?_toArray, List.getElem?_cons_succ, List.getElem?_cons_zero]; rfl) (by kernel_rfl) (by kernel_rfl) (by kernel_rfl) (fun _ _ _ h => h) (Or.inl ⟨by rfl, ?_⟩) (by assumption) ?_
          rotate_left
          · (intro w hSw; (try dsimp only at hSw); go_simp; try with_reducible rfl)
          try simp only [Act.put, List.setIfInBounds_toArray, List.set_cons_zero, List.set_cons_succ]
          refine wpAnyH_take (i := 7) (v := ?_) (by simp only [List.getElem?_toArray, List.getElem?_cons_succ, List.getElem?_cons_zero]; rfl) (by kernel_rfl) (by kernel_rfl) (by kernel_rfl) (fun _ _ _ h => h) (Or.inl ⟨by rfl, ?_⟩) (by assumption) ?_
          rotate_left
          · (intro w hSw; (try dsimp only at hSw); go_simp; try with_reducible rfl)
          try simp only [Act.put, List.setIfInBounds_toArray, List.set_cons_zero, List.set_cons_succ]
          refine wpAnyH_take (i := 8) (v := ?_) (by simp only [List.getElem?_toArray, List.getElem?_cons_succ, List.getElem?_cons_zero]; rfl) (by kernel_rfl) (by kernel_rfl) (by kernel_rfl) (fun _ _ _ h => h) (Or.inl ⟨by rfl, ?_⟩) (by assumption) ?_
          rotate_left
          · (intro w hSw; (try dsimp only at hSw); go_simp; try with_reducible rfl)
          try simp only [Act.put, List.setIfInBounds_toArray, List.set_cons_zero, List.set_cons_succ]
          refine wpAnyH_done (by kernel_rfl) ?_ _
          refine NoPanic.normal ?_
          go_wp2
          go_ret
          exact ⟨by rw [HV.out]; rfl, Below.drew hb⟩
      · obtain rfl : k = n1 := by omega
        have hv : L = K := by
          rw [← List.take_of_length_le (l := L) (i := k) (by omega), hs, List.take_of_length_le (by omega)]
        have HV : Hid (decide (L = K) = true) := Lib.hid (decide_eq_true hv)
        have hd : decide ((k : Int) < (k : Int)) = false := decide_eq_false (by omega)
        clear hln hkn hv hs
        go_wp2
        go_ret
        exact ⟨by rw [HV.out]; rfl, hb⟩
  · have HV : Hid (decide (L = K) = false) := Lib.hid (decide_eq_false fun e => hne (by rw [hL.1, hK.1, e]))
    have hneq : ((n1 : Int) != (n2 : Int)) = true := by rw [bne_iff_ne]; omega
    clear hL hK
    go_enter Try.func15, Try.ntmps15
    go_wp2
    go_ret
    exact ⟨by rw [HV.out]; rfl, h0⟩



set_option maxRecDepth 100000 in
theorem copied_any (L : List M) (a : Option Addr) (n c : Nat) (w : World) (hL : Mark.Lies w a n L) (hn : n ≤ 1099511627776) :
    Calls Try.prog 13 #[.slice a n c] w (GotM L w) := by
  have HL := Lib.hid hL
  clear hL
  go_enter Try.func13, Try.ntmps13
  go_wp2_with (at_builtin; refine RefDots.wpList_app rfl _ _ rfl w.heap.size _ [] rfl (Mark.Own.nil _ _) a n c L rfl HL.out (by simp only [List.length_nil]; omega) (Nat.le_refl _) ?_; intro v1 w1 o1 k1)
  go_ret
  rw [List.nil_append] at o1
  obtain ⟨a', c', rfl, -, -, h3, h4⟩ := o1.lies
  exact ⟨a', c', rfl, h3, h4, k1⟩
set_option maxRecDepth 100000 in
set_option maxHeartbeats 8000000 in
theorem same_any (R R2 : List (List UInt8)) (a a2 : Option Addr) (c c2 : Nat) (w : World) (hL : Words.Lies w a R.length R) (hK : Words.Lies w a2 R2.length R2) (hn : R.length ≤ 1099511627776) :
    Calls Try.prog 18 #[.slice a R.length c, .slice a2 R2.length c2] w fun e w' => e = .returned (.bool (decide (R = R2))) ∧ Below w.heap.size w w' := by
  have hb := Below.refl w.heap.size w
  by_cases hne : R.length = R2.length
  rotate_left
  · have HV : Hid (decide (R = R2) = false) := Lib.hid (decide_eq_false fun e => hne (by rw [e]))
    have hneq : ((R.length : Int) != (R2.length : Int)) = true := by rw [bne_iff_ne]; omega
    go_enter Try.func18, Try.ntmps18
    go_wp2
    go_ret
    exact ⟨by rw [HV.out]; rfl, hb⟩
  have hneq : ((R.length : Int) != (R2.length : Int)) = false := by rw [bne_eq_false_iff_eq]; omega
  have HN := Lib.hid hne
  have lL := Lib.hid hL
  have lK := Lib.hid hK
  clear hne hL hK
  go_enter Try.func18, Try.ntmps18
  go_wp2_with fail
  go_loopw [5] (fun iv wr => ∃ q : Nat, q ≤ R.length ∧ iv = .int .i64 q ∧ R.take q = R2.take q ∧ Below w.heap.size w wr ∧ Words.Lies wr a R.length R ∧ Words.Lies wr a2 R2.length R2) (fun iv _ => R.length - (intOf iv).toNat)
  case atStart => exact ⟨0, by omega, rfl, rfl, hb, lL.out, lK.out⟩
  case round =>
    clear hb lL lK
    obtain ⟨q, hq, rfl, hs, hb, lL, lK⟩ := hrel
    have hne := HN.out
    by_cases hlt : q < R.length
    · obtain ⟨b1, o1, rfl, hcell1⟩ := Words.words_at lL (by omega)
      obtain ⟨b2, o2, rfl, hcell2⟩ := Words.words_at lK (by omega)
      have d1 := hcell1 q (by omega)
      have d4 := hcell2 q (by omega)
      have hs1 : R.take (q + 1) = R.take q ++ [R[q]'(by omega)] := List.take_succ_eq_append_getElem (by omega)
      have hs2 : R2.take (q + 1) = R2.take q ++ [R2[q]'(by omega)] := List.take_succ_eq_append_getElem (by omega)
      obtain ⟨m, hm⟩ : ∃ m, m = R[q]'(by omega) := ⟨_, rfl⟩
      obtain ⟨x, hx⟩ : ∃ x, x = R2[q]'(by omega) := ⟨_, rfl⟩
      rw [← hm] at d1 hs1
      rw [← hx] at d4 hs2
      have j0 : decide ((q : Int) < (R.length : Int)) = true := decide_eq_true (by omega)
      have j1 : (0 : Int) ≤ (q : Int) := by omega
      have j2 : (q : Int) < (R.length : Int) := by omega
      have j3 : (q : Int) < (R2.length : Int) := by omega
      replace lL := Lib.hid lL
      replace lK := Lib.hid lK
      by_cases he : m = x
      · have e1 : (m == x) = true := by simp [he]
        have e2 : (m != x) = false := by simp [he]
        have HS : Hid (R.take (q + 1) = R2.take (q + 1)) := Lib.hid (by rw [hs1, hs2, hs, he])
        have HQ := Lib.hid hlt
        clear hs hs1 hs2 hm hx hcell1 hcell2 he hlt
        go_wp2_with fail
        refine wp_region_noPanic ?_
        refine wp_region_held_drew (S := (fun w' => Below w.heap.size w w' ∧ w'.cell? ⟨b1, o1 + q, none⟩ = some (.string ⟨m.toArray⟩) ∧ w'.cell? ⟨b2, o2 + q, none⟩ = some (.string ⟨x.toArray⟩) ∧ Words.Lies w' (some ⟨b1, o1, none⟩) R.length R ∧ Words.Lies w' (some ⟨b2, o2, none⟩) R2.length R2)) (by kernel_rfl) (⟨Below.drew hb, Dots.keepC d1 (Below.drew (Below.refl _ _)), Dots.keepC d4 (Below.drew (Below.refl _ _)), (lL.out).below (Below.drew (Below.refl _ _)), (lK.out).below (Below.drew (Below.refl _ _))⟩) (fun hHeld => ?_)
        refine wpAnyH_take (i := 0) (v := ?_) (by simp only [List.getElem?_toArray, List.getElem?_cons_zero]; rfl) (by kernel_rfl) (by kernel_rfl) (by kernel_rfl) (fun _ _ _ h => h) (Or.inl ⟨by rfl, ?_⟩) (by assumption) ?_
        rotate_left
        · (intro w hSw; (try dsimp only at hSw); go_simp; try with_reducible rfl)
        try simp only [Act.put, List.setIfInBounds_toArray, List.set_cons_zero, List.set_cons_succ]
        refine wpAnyH_take (i := 1) (v := ?_) (by simp only [List.getElem?_toArray, List.getElem?_cons_succ, List.getElem?_cons_zero]; rfl) (by kernel_rfl) (by kernel_rfl) (by kernel_rfl) (fun _ _ _ h => h) (Or.inl ⟨by rfl, ?_⟩) (by assumption) ?_
        rotate_left
        · (intro w hSw; (try dsimp only at hSw); go_simp; try with_reducible rfl)
        try simp only [Act.put, List.setIfInBounds_toArray, List.set_cons_zero, List.set_cons_succ]
        refine wpAnyH_take (i := 2) (v := ?_) (by simp only [List.getElem?_toArray, List.getElem?_cons_succ, List.getElem?_cons_zero]; rfl) (by kernel_rfl) (by kernel_rfl) (by kernel_rfl) (fun _ _ _ h => h) (Or.inl ⟨by rfl, ?_⟩) (by assumption) ?_
        rotate_left
        · (intro w hSw; (try dsimp only at hSw); go_simp; try with_reducible rfl)
        try simp only [Act.put, List.setIfInBounds_toArray, List.set_cons_zero, List.set_cons_succ]
        refine wpAnyH_take (i := 3) (v := ?_) (by simp only [List.getElem?_toArray, List.getElem?_cons_succ, List.getElem?_cons_zero]; rfl) (by kernel_rfl) (by kernel_rfl) (by kernel_rfl) (fun _ _ _ h => h) (Or.inl ⟨by rfl, ?_⟩) (by assumption) ?_
        rotate_left
        · (intro w hSw; (try dsimp only at hSw); go_simp; try with_reducible rfl)
        try simp only [Act.put, List.setIfInBounds_toArray, List.set_cons_zero, List.set_cons_succ]
        refine wpAnyH_take (i := 4) (v := ?_) (by simp only [List.getElem?_toArray, List.getElem?_cons_succ, List.getElem?_cons_zero]; rfl) (by kernel_rfl) (by kernel_rfl) (by kernel_rfl) (fun _ _ _ h => h) (Or.inl ⟨by rfl, ?_⟩) (by assumption) ?_
        rotate_left
        · (intro w hSw; (try dsimp only at hSw); go_simp; try with_reducible rfl)
        try simp only [Act.put, List.setIfInBounds_toArray, List.set_cons_zero, List.set_cons_succ]
        refine wpAnyH_take (i := 5) (v := ?_) (by simp only [List.getElem?_toArray, List.getElem?_cons_succ, List.getElem?_cons_zero]; rfl) (by kernel_rfl) (by kernel_rfl) (by kernel_rfl) (fun _ _ _ h => h) (Or.inl ⟨by rfl, ?_⟩) (by assumption) ?_
        rotate_left
        · (intro w hSw; (try dsimp only at hSw); go_simp; try with_reducible rfl)
        try simp only [Act.put, List.setIfInBounds_toArray, List.set_cons_zero, List.set_cons_succ]
        refine wpAnyH_take (i := 6) (v := ?_) (by simp only [List.getElem?_toArray, List.getElem?_cons_succ, List.getElem?_cons_zero]; rfl) (by kernel_rfl) (by kernel_rfl) (by kernel_rfl) (fun _ _ _ h => h) (Or.inl ⟨by rfl, ?_⟩) (by assumption) ?_
        rotate_left
        · (intro w hSw; (try dsimp only at hSw); go_simp; try with_reducible rfl)
        try simp only [Act.put, List.setIfInBounds_toArray, List.set_cons_zero, List.set_cons_succ]
        refine wpAnyH_take (i := 7) (v := ?_) (by simp only [List.getElem?_toArray, List.getElem?_cons_succ, List.getElem?_cons_zero]; rfl) (by kernel_rfl) (by kernel_rfl) (by kernel_rfl) (fun _ _ _ h => h) (Or.inl ⟨by rfl, ?_⟩) (by assumption) ?_
        rotate_left
        · (intro w hSw; (try dsimp only at hSw); go_simp; try with_reducible rfl)
        try simp only [Act.put, List.setIfInBounds_toArray, List.set_cons_zero, List.set_cons_succ]
        refine wpAnyH_take (i := 8) (v := ?_) (by simp only [List.getElem?_toArray, List.getElem?_cons_succ, List.getElem?_cons_zero]; rfl) (by kernel_rfl) (by kernel_rfl) (by kernel_rfl) (fun _ _ _ h => h) (Or.inl ⟨by rfl, ?_⟩) (by assumption) ?_
        rotate_left
        · (intro w hSw; (try dsimp only at hSw); go_simp; try with_reducible rfl)
        try simp only [Act.put, List.setIfInBounds_toArray, List.set_cons_zero, List.set_cons_succ]
        refine wpAnyH_done (by kernel_rfl) ?_ _
        refine NoPanic.normal ?_
        clear hb d1 d4 lL lK
        obtain ⟨hb, d1, d4, lL, lK⟩ := hHeld
        replace lL := Lib.hid lL
        replace lK := Lib.hid lK
        go_wp2
        go_roundw
        case rel => exact ⟨q + 1, by have := HQ.out; omega, by go_num, HS.out, hb, lL.out, lK.out⟩
        case measure => have := HQ.out; simp [intOf]; omega
      · have e1 : (m == x) = false := by simp [he]
        have e2 : (m != x) = true := by simp [he]
        have HV : Hid (decide (R = R2) = false) := Lib.hid (decide_eq_false fun e => he (by rw [hm, hx]; simp only [e]))
        clear hs hs1 hs2 hm hx hcell1 hcell2 he hlt
        go_wp2_with fail
        refine wp_region_noPanic ?_
        refine wp_region_held_drew (S := (fun w' => Below w.heap.size w w' ∧ w'.cell? ⟨b1, o1 + q, none⟩ = some (.string ⟨m.toArray⟩) ∧ w'.cell? ⟨b2, o2 + q, none⟩ = some (.string ⟨x.toArray⟩) ∧ Words.Lies w' (some ⟨b1, o1, none⟩) R.length R ∧ Words.Lies w' (some ⟨b2, o2, none⟩) R2.length R2)) (by kernel_rfl) (⟨Below.drew hb, Dots.keepC d1 (Below.drew (Below.refl _ _)), Dots.keepC d4 (Below.drew (Below.refl _ _)), (lL.out).below (Below.drew (Below.refl _ _)), (lK.out).below (Below.drew (Below.refl _ _))⟩) (fun hHeld => ?_)
        refine wpAnyH_take (i := 0) (v := ?_) (by simp only [List.getElem?_toArray, List.getElem?_cons_zero]; rfl) (by kernel_rfl) (by kernel_rfl) (by kernel_rfl) (fun _ _ _ h => h) (Or.inl ⟨by rfl, ?_⟩) (by assumption) ?_
        rotate_left
        · (intro w hSw; (try dsimp only at hSw); go_simp; try with_reducible rfl)
        try simp only [Act.put, List.setIfInBounds_toArray, List.set_cons_zero, List.set_cons_succ]
        refine wpAnyH_take (i := 1) (v := ?_) (by simp only [List.getElem?_toArray, List.getElem?_cons_succ, List.getElem?_cons_zero]; rfl) (by kernel_rfl) (by kernel_rfl) (by kernel_rfl) (fun _ _ _ h => h) (Or.inl ⟨by rfl, ?_⟩) (by assumption) ?_
        rotate_left
        · (intro w hSw; (try dsimp only at hSw); go_simp; try with_reducible rfl)
        try simp only [Act.put, List.setIfInBounds_toArray, List.set_cons_zero, List.set_cons_succ]
        refine wpAnyH_take (i := 2) (v := ?_) (by simp only [List.getElem?_toArray, List.getElem?_cons_succ, List.getElem?_cons_zero]; rfl) (by kernel_rfl) (by kernel_rfl) (by kernel_rfl) (fun _ _ _ h => h) (Or.inl ⟨by rfl, ?_⟩) (by assumption) ?_
        rotate_left
        · (intro w hSw; (try dsimp only at hSw); go_simp; try with_reducible rfl)
        try simp only [Act.put, List.setIfInBounds_toArray, List.set_cons_zero, List.set_cons_succ]
        refine wpAnyH_take (i := 3) (v := ?_) (by simp only [List.getElem?_toArray, List.getElem?_cons_succ, List.getElem?_cons_zero]; rfl) (by kernel_rfl) (by kernel_rfl) (by kernel_rfl) (fun _ _ _ h => h) (Or.inl ⟨by rfl, ?_⟩) (by assumption) ?_
        rotate_left
        · (intro w hSw; (try dsimp only at hSw); go_simp; try with_reducible rfl)
        try simp only [Act.put, List.setIfInBounds_toArray, List.set_cons_zero, List.set_cons_succ]
        refine wpAnyH_take (i := 4) (v := ?_) (by simp only [List.getElem?_toArray, List.getElem?_cons_succ, List.getElem?_cons_zero]; rfl) (by kernel_rfl) (by kernel_rfl) (by kernel_rfl) (fun _ _ _ h => h) (Or.inl ⟨by rfl, ?_⟩) (by assumption) ?_
        rotate_left
        · (intro w hSw; (try dsimp only at hSw); go_simp; try with_reducible rfl)
        try simp only [Act.put, List.setIfInBounds_toArray, List.set_cons_zero, List.set_cons_succ]
        refine wpAnyH_take (i := 5) (v := ?_) (by simp only [List.getElem?_toArray, List.getElem?_cons_succ, List.getElem?_cons_zero]; rfl) (by kernel_rfl) (by kernel_rfl) (by kernel_rfl) (fun _ _ _ h => h) (Or.inl ⟨by rfl, ?_⟩) (by assumption) ?_
        rotate_left
        · (intro w hSw; (try dsimp only at hSw); go_simp; try with_reducible rfl)
        try simp only [Act.put, List.setIfInBounds_toArray, List.set_cons_zero, List.set_cons_succ]
        refine wpAnyH_take (i := 6) (v := ?_) (by simp only [List.getElem?_toArray, List.getElem?_cons_succ, List.getElem?_cons_zero]; rfl) (by kernel_rfl) (by kernel_rfl) (by kernel_rfl) (fun _ _ _ h => h) (Or.inl ⟨by rfl, ?_⟩) (by assumption) ?_
        rotate_left
        · (intro w hSw; (try dsimp only at hSw); go_simp; try with_reducible rfl)
        try simp only [Act.put, List.setIfInBounds_toArray, List.set_cons_zero, List.set_cons_succ]
        refine wpAnyH_take (i := 7) (v := ?_) (by simp only [List.getElem?_toArray, List.getElem?_cons_succ, List.getElem?_cons_zero]; rfl) (by kernel_rfl) (by kernel_rfl) (by kernel_rfl) (fun _ _ _ h => h) (Or.inl ⟨by rfl, ?_⟩) (by assumption) ?_
        rotate_left
        · (intro w hSw; (try dsimp only at hSw); go_simp; try with_reducible rfl)
        try simp only [Act.put, List.setIfInBounds_toArray, List.set_cons_zero, List.set_cons_succ]
        refine wpAnyH_take (i := 8) (v := ?_) (by simp only [List.getElem?_toArray, List.getElem?_cons_succ, List.getElem?_cons_zero]; rfl) (by kernel_rfl) (by kernel_rfl) (by kernel_rfl) (fun _ _ _ h => h) (Or.inl ⟨by rfl, ?_⟩) (by assumption) ?_
        rotate_left
        · (intro w hSw; (try dsimp only at hSw); go_simp; try with_reducible rfl)
        try simp only [Act.put, List.setIfInBounds_toArray, List.set_cons_zero, List.set_cons_succ]
        refine wpAnyH_done (by kernel_rfl) ?_ _
        refine NoPanic.normal ?_
        clear hb d1 d4 lL lK
        obtain ⟨hb, d1, d4, lL, lK⟩ := hHeld
        replace lL := Lib.hid lL
        replace lK := Lib.hid lK
        go_wp2
        go_ret
        exact ⟨by rw [HV.out]; rfl, hb⟩
    · obtain rfl : q = R.length := by omega
      have hv : R = R2 := by
        rw [← List.take_of_length_le (l := R) (i := R.length) (by omega), hs, List.take_of_length_le (by omega)]
      have hd : decide ((R.length : Int) < (R.length : Int)) = false := decide_eq_false (by omega)
      have HV : Hid (decide (R = R2) = true) := Lib.hid (decide_eq_true hv)
      clear hs hne hlt hv lL lK
      go_wp2
      go_ret
      exact ⟨by rw [HV.out]; rfl, hb⟩
set_option maxRecDepth 100000 in
theorem learn_nil (v x : Value) (w : World) : Calls Try.prog 12 #[.pointer none, v, x] w fun e w' => e = .returned (.bool false) ∧ w = w' := by
  go_enter Try.func12, Try.ntmps12
  go_wp2_with fail
  refine (Peers.there_nil _).mono ?_
  rintro e w1 ⟨rfl, rfl⟩
  go_wp2
  go_ret
  exact ⟨rfl, rfl⟩
set_option maxRecDepth 100000 in
theorem lacks_nil (x : Value) (w : World) : Calls Try.prog 20 #[.pointer none, x] w fun e w' => e = .returned (.slice none 0 0) ∧ w = w' := by
  go_enter Try.func20, Try.ntmps20
  go_wp2_with fail
  refine (Peers.there_nil _).mono ?_
  rintro e w1 ⟨rfl, rfl⟩
  go_wp2
  go_ret
  exact ⟨rfl, rfl⟩
set_option maxRecDepth 100000 in
theorem forget_nil (x : Value) (w : World) : Calls Try.prog 24 #[.pointer none, x] w fun e w' => e = .returned (.tuple #[]) ∧ w = w' := by
  go_enter Try.func24, Try.ntmps24
  go_wp2_with fail
  refine (Peers.there_nil _).mono ?_
  rintro e w1 ⟨rfl, rfl⟩
  go_wp2
  exact bodyPost_ret (results_none (by kernel_rfl) _ _ _) rfl ⟨rfl, rfl⟩
set_option maxRecDepth 100000 in
theorem turn_nil (w : World) : Calls Try.prog 21 #[.pointer none, .agg #[.string ⟨#[]⟩, .int .u64 0, .string ⟨#[]⟩, .int .u64 0]] w fun e w' => e = .returned (.tuple #[]) ∧ Below w.heap.size w w' := by
  go_enter Try.func21, Try.ntmps21
  go_wp2_with fail
  refine (Peers.there_nil _).mono ?_
  rintro e w1 ⟨rfl, rfl⟩
  go_wp2
  exact bodyPost_ret (results_none (by kernel_rfl) _ _ _) rfl ⟨rfl, balloc (Below.refl _ _) _⟩
end PeersLaw
end Go.Proofs.Ytcbnkncgacbniaa
