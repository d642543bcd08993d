/- The walk of PathTree: it answers true. -/
import Derived.Test.YtagpbhghmhamdaaDoorPathTreePlain
import Derived.Deep.RegionHeld3
import Derived.Deep.DeepCutAuto
namespace Go.Proofs.YtagpbhghmhamdaaDoor.PathTree
open Go.RowKit Go.Proofs.YtagpbhghmhamdaaDoor.Path

/-- Where the walk up stands behind k rounds. -/
def atK (P : List Nat) (k : Nat) : List UInt8 := write (P.take (P.length - k))
def isK (T : List (List UInt8)) (q : List UInt8) (k : Nat) : Bool := (T.take k).any (· == q)
theorem isK_step (T : List (List UInt8)) (q : List UInt8) (k : Nat) (h : k < T.length) : isK T q (k + 1) = (isK T q k || (T[k] == q)) := by
  unfold isK
  rw [List.take_succ_eq_append_getElem h, List.any_append]; simp

set_option maxRecDepth 100000 in
set_option maxHeartbeats 4000000 in
theorem walk (a0 : ByteArray) (a1 : ByteArray) (w : World) (_w0 : a0.size ≤ maxLen) (_w1 : a1.size ≤ maxLen) (ht : Tab w) :
    Calls Tryd.prog 4 #[.string a0, .string a1] w fun e w' => e = .returned (.bool true) ∧ Below w.heap.size w w' := by
  obtain ⟨p, rfl⟩ : ∃ p : List UInt8, a0 = ⟨p.toArray⟩ := ⟨a0.data.toList, (Str.mk_toList a0).symm⟩
  obtain ⟨q, rfl⟩ : ∃ p : List UInt8, a1 = ⟨p.toArray⟩ := ⟨a1.data.toList, (Str.mk_toList a1).symm⟩
  have hsp := Str.size_mk p
  have hsq := Str.size_mk q
  have T := Lib.hid ht
  clear ht
  have h0 := Below.refl w.heap.size w
  by_cases c0 : 1024 < p.length
  · have d : decide ((1024 : Int) < (p.length : Int)) = true := decide_eq_true (by omega)
    go_enter Tryd.func4, Tryd.ntmps4
    go_wp2_with fail
    refine (alive_any _ (T.out.below h0)).mono ?_
    rintro e v1 ⟨rfl, k1⟩
    have h1 := bstep h0 k1
    clear k1
    go_wp2
    go_ret
    exact ⟨rfl, h1⟩
  have d0 : decide ((1024 : Int) < (p.length : Int)) = false := decide_eq_false (by omega)
  by_cases c1 : 1024 < q.length
  · have d : decide ((1024 : Int) < (q.length : Int)) = true := decide_eq_true (by omega)
    go_enter Tryd.func4, Tryd.ntmps4
    go_wp2_with fail
    refine (alive_any _ (T.out.below h0)).mono ?_
    rintro e v2 ⟨rfl, k2⟩
    have h2 := bstep h0 k2
    clear k2
    go_wp2
    go_ret
    exact ⟨rfl, h2⟩
  have d1 : decide ((1024 : Int) < (q.length : Int)) = false := decide_eq_false (by omega)
  have MP := Lib.hid (fun w => may_any p w (by omega))
  by_cases hpe : parse p = []
  · rw [hpe, show decide (0 < ([] : List Nat).length) = false from rfl] at MP
    go_enter Tryd.func4, Tryd.ntmps4
    go_wp2_with fail
    refine (MP.out _).mono ?_
    rintro e v3 ⟨rfl, k3⟩
    have h3 := bstep h0 k3
    clear k3
    go_wp2_with fail
    refine (alive_any _ (T.out.below h3)).mono ?_
    rintro e v4 ⟨rfl, k4⟩
    have h4 := bstep h3 k4
    clear k4
    go_wp2
    go_ret
    exact ⟨rfl, h4⟩
  rw [decide_eq_true (List.length_pos_iff.2 hpe)] at MP
  have CH := Lib.hid (fun w => chain_any p w (by omega))
  have UQ := Lib.hid (fun w => under_any p q w (by omega) (by omega))
  have DP := Lib.hid (fun w => deep_any p w (by omega))
  have hv := parse_valid p hpe
  have h8 := hv.2.1
  obtain ⟨eN, eG⟩ := ups_all 8 (parse p) (by omega)
  have huq := under_any_of p q
  rw [huq] at UQ
  have hwp := write_parse p hpe
  have U1 := Lib.hid (fun tl w (hl : tl.length ≤ 1099511627776) => under_any p tl w (by omega) hl)
  have U2 := Lib.hid (fun tl w (hl : tl.length ≤ 1099511627776) => under_any tl p w hl (by omega))
  obtain ⟨PL, hPL⟩ : ∃ l, l = parse p := ⟨_, rfl⟩
  rw [← hPL] at CH DP UQ U1 U2 hv h8 eN eG hwp hpe
  obtain ⟨n, hn⟩ : ∃ n, n = PL.length := ⟨_, rfl⟩
  rw [← hn] at DP h8 eN eG
  have hn1 : 1 ≤ n := by rw [hn]; exact List.length_pos_iff.2 hpe
  obtain ⟨N, hN⟩ : ∃ N, N = (ups 8 PL).length := ⟨_, rfl⟩
  rw [← hN] at eN
  obtain ⟨TT, hTT⟩ : ∃ T, T = (ups 8 PL).map write := ⟨_, rfl⟩
  rw [← hTT] at UQ
  have hTN : TT.length = N := by rw [hTT, List.length_map, ← hN]
  have hTK : ∀ j (h : j < TT.length), TT[j] = write (PL.take (n - 1 - j)) := by
    intro j h
    have h2 := eG j (by omega)
    have h3 : TT[j]? = some (write (PL.take (n - 1 - j))) := by rw [hTT, List.getElem?_map, h2]; rfl
    rw [List.getElem?_eq_getElem h] at h3
    exact Option.some.inj h3
  have HV := Lib.hid hv
  have HN := Lib.hid hn
  have HTN := Lib.hid hTN
  have HTK := Lib.hid hTK
  have HWP := Lib.hid hwp
  have hNn : N ≤ 7 ∧ N + 1 ≤ n ∧ n ≤ N + 1 := by omega
  obtain ⟨hN7, hNa, hNb⟩ := hNn
  have HTT := Lib.hid hTT
  have HNN := Lib.hid hN
  clear hpe hv hn eN eG hN hTN hTK hTT hwp hPL huq
  go_enter Tryd.func4, Tryd.ntmps4
  go_wp2_with fail
  refine (MP.out _).mono ?_
  rintro e v5 ⟨rfl, k5⟩
  have h5 := bstep h0 k5
  clear k5
  go_wp2_with fail
  refine (CH.out _).mono ?_
  intro e v hch
  obtain ⟨a, cp, rfl, hrow, kc⟩ := chain_open hch
  clear hch
  have hc := bstep h5 kc
  clear kc
  rw [← HTT.out] at hrow
  rw [← HNN.out] at hrow ⊢
  have HR := Lib.hid hrow
  clear hrow
  go_wp2_with fail
  go_loopw [6, 7, 8] (fun atv sv iv wr => ∃ k : Nat, k ≤ N ∧ iv = .int .i64 k ∧ atv = .string ⟨(atK PL k).toArray⟩ ∧ sv = .bool (isK TT q k) ∧ Hid (0 < N → ∃ g, a = some ⟨g, 0, none⟩ ∧ Row wr g TT) ∧ Below w.heap.size w wr) (fun _ _ iv _ => N - (intOf iv).toNat)
  case atStart => exact ⟨0, by omega, rfl, by rw [atK, Nat.sub_zero, List.take_length, HWP.out], rfl, HR, hc⟩
  case round =>
    obtain ⟨k, hk, rfl, rfl, rfl, HI, hb⟩ := hrel
    clear HR hc
    by_cases hlt : k < N
    · obtain ⟨g, rfl, hrow⟩ := HI.out (by omega)
      have hd1 : decide ((k : Int) < (N : Int)) = true := decide_eq_true (by omega)
      have hn := HN.out
      have htn := HTN.out
      have htk := HTK.out k (by omega)
      have hcell := hrow k (by omega)
      have hr := round_of HV.out (m := n - 1 - k) (by omega) (by omega)
      rw [show n - 1 - k + 1 = n - k by omega] at hr
      have hstep := isK_step TT q k (by omega)
      have hat : atK PL k = write (PL.take (n - k)) := by rw [atK, ← hn]
      have hat2 : atK PL (k + 1) = TT[k]'(by omega) := by rw [atK, ← hn, htk, show n - (k + 1) = n - 1 - k by omega]
      rw [htk] at hcell hstep hat2
      rw [hat]
      have hLl : (PL.take (n - 1 - k)).length = n - 1 - k := by rw [List.length_take]; omega
      obtain ⟨rpa, rpl, _, rla, rll, rkid, rpar, rup, rdn⟩ := hr
      obtain ⟨ta, hta⟩ : ∃ t, t = write (PL.take (n - k)) := ⟨_, rfl⟩
      obtain ⟨tl, htl⟩ : ∃ t, t = write (PL.take (n - 1 - k)) := ⟨_, rfl⟩
      rw [← hta] at rpa rla rkid rpar ⊢
      rw [← htl] at rpl rll rkid rpar hcell hstep hat2
      have NU := Lib.hid (fun w => numberOf_any ta w rla)
      rw [rpa] at NU
      have PA := Lib.hid (fun w => parent_any ta w rla)
      rw [rpar] at PA
      have CL := Lib.hid (fun w t => child_any tl ((last (PL.take (n - k)) : Nat) : Int) w rll t)
      rw [rkid] at CL
      simp only at CL
      have UA := Lib.hid (fun w => U1.out tl w rll)
      rw [rpl, rup] at UA
      have UB := Lib.hid (fun w => U2.out tl w rll)
      rw [rpl, rdn] at UB
      have DL := Lib.hid (fun w => deep_any tl w rll)
      rw [rpl, hLl] at DL
      have hb0 : ((n : Int) - 1 - (k : Int)) = ((n - 1 - k : Nat) : Int) := by omega
      have HB0 := Lib.hid hb0
      obtain ⟨x, hx⟩ : ∃ x, x = last (PL.take (n - k)) := ⟨_, rfl⟩
      rw [← hx] at NU CL
      obtain ⟨m, hm⟩ : ∃ m, m = n - 1 - k := ⟨_, rfl⟩
      rw [← hm] at DL hb0
      have y0 : (((m : Nat) : Int) != ((n : Int) - 1 - (k : Int))) = false := by rw [bne_eq_false_iff_eq]; omega
      have y0b : (((m : Nat) : Int) == ((n : Int) - 1 - (k : Int))) = true := by rw [beq_iff_eq]; omega
      have hm8 : m ≤ 8 := by omega
      have HS := Lib.hid hstep
      have HA2 := Lib.hid hat2
      have HROW := Lib.hid hrow
      have hq := World.block_lt_of_cell? _ _ hcell
      obtain ⟨s, hs⟩ : ∃ s, s = isK TT q k := ⟨_, rfl⟩
      rw [← hs] at HS ⊢
      clear hb0 hn htn htk hrow hstep hat hat2 hLl rpa rpl rkid rpar rup rdn hta htl hx hm hs HI
      have e1 : IntKind.i64.wrap ((n : Int) - 1) = (n : Int) - 1 := IntWalk.i64_in _ (by omega)
      have e2 : IntKind.i64.wrap ((n : Int) - 1 - (k : Int)) = (n : Int) - 1 - (k : Int) := IntWalk.i64_in _ (by omega)
      go_wp2_with fail
      refine wp_region_noPanic ?_
      refine wp_region_held_drew (S := (fun w' => w'.cell? ⟨g, k, none⟩ = some (.string ⟨tl.toArray⟩))) (by kernel_rfl) (hcell) (fun hHeld => ?_)
      refine wpAnyH_take (i := 0) (v := ?_) (by simp only [List.getElem?_toArray, List.getElem?_cons_zero]; rfl) (by kernel_rfl) (by kernel_rfl) (by kernel_rfl) (fun _ _ _ h => h) (Or.inl ⟨by rfl, ?_⟩) (by assumption) ?_
      rotate_left
      · (intro w hSw; (try dsimp only at hSw); go_simp; try with_reducible rfl)
      try simp only [Act.put, List.setIfInBounds_toArray, List.set_cons_zero, List.set_cons_succ]
      refine wpAnyH_take (i := 1) (v := ?_) (by simp only [List.getElem?_toArray, List.getElem?_cons_succ, List.getElem?_cons_zero]; rfl) (by kernel_rfl) (by kernel_rfl) (by kernel_rfl) (fun _ _ _ h => h) (Or.inl ⟨by rfl, ?_⟩) (by assumption) ?_
      rotate_left
      · (intro w hSw; (try dsimp only at hSw); go_simp; try with_reducible rfl)
      try simp only [Act.put, List.setIfInBounds_toArray, List.set_cons_zero, List.set_cons_succ]
      refine wpAnyH_take (i := 2) (v := ?_) (by simp only [List.getElem?_toArray, List.getElem?_cons_succ, List.getElem?_cons_zero]; rfl) (by kernel_rfl) (by kernel_rfl) (by kernel_rfl) (fun _ _ _ h => h) (Or.inl ⟨by rfl, ?_⟩) (by assumption) ?_
      rotate_left
      · (intro w hSw; (try dsimp only at hSw); go_simp; try with_reducible rfl)
      try simp only [Act.put, List.setIfInBounds_toArray, List.set_cons_zero, List.set_cons_succ]
      refine wpAnyH_take (i := 3) (v := ?_) (by simp only [List.getElem?_toArray, List.getElem?_cons_succ, List.getElem?_cons_zero]; rfl) (by kernel_rfl) (by kernel_rfl) (by kernel_rfl) (fun _ _ _ h => h) (Or.inl ⟨by rfl, ?_⟩) (by assumption) ?_
      rotate_left
      · (intro w hSw; (try dsimp only at hSw); go_simp; try with_reducible rfl)
      try simp only [Act.put, List.setIfInBounds_toArray, List.set_cons_zero, List.set_cons_succ]
      refine wpAnyH_take (i := 4) (v := ?_) (by simp only [List.getElem?_toArray, List.getElem?_cons_succ, List.getElem?_cons_zero]; rfl) (by kernel_rfl) (by kernel_rfl) (by kernel_rfl) (fun _ _ _ h => h) (Or.inl ⟨by rfl, ?_⟩) (by assumption) ?_
      rotate_left
      · (intro w hSw; (try dsimp only at hSw); go_simp; try with_reducible rfl)
      try simp only [Act.put, List.setIfInBounds_toArray, List.set_cons_zero, List.set_cons_succ]
      refine wpAnyH_ready (rs := [5]) (by kernel_rfl) (by simp) ?_
      refine AllReadyH.cons (by simp only [List.getElem?_toArray, List.getElem?_cons_succ, List.getElem?_cons_zero]; rfl) (fun K hK => ?_) AllReadyH.nil
      go_simp
      go_at_call 16
      refine (NU.out _).mono ?_
      rintro e v6 ⟨rfl, k6⟩
      have h6 := bstep (by first | exact hb | exact Below.drew hb) k6
      have HROW := Lib.hid (Row.below (by first | exact HROW.out | exact Row.below HROW.out (Below.drew (Below.refl _ _))) k6)
      go_wp2_with fail
      refine hK.out _ _ (keepC hHeld k6) (fun hHeld => ?_)
      clear hK K
      try simp only [Act.put, List.setIfInBounds_toArray, List.set_cons_zero, List.set_cons_succ]
      refine wpAnyH_ready (rs := [6]) (by kernel_rfl) (by simp) ?_
      refine AllReadyH.cons (by simp only [List.getElem?_toArray, List.getElem?_cons_succ, List.getElem?_cons_zero]; rfl) (fun K hK => ?_) AllReadyH.nil
      go_simp
      go_at_call 8
      refine (CL.out _ (T.out.below h6)).mono ?_
      rintro e v7 ⟨rfl, k7⟩
      have h7 := bstep (by first | exact h6 | exact Below.drew h6) k7
      have HROW := Lib.hid (Row.below (by first | exact HROW.out | exact Row.below HROW.out (Below.drew (Below.refl _ _))) k7)
      go_wp2_with fail
      refine hK.out _ _ (keepC hHeld k7) (fun hHeld => ?_)
      clear hK K
      try simp only [Act.put, List.setIfInBounds_toArray, List.set_cons_zero, List.set_cons_succ]
      refine wpAnyH_take (i := 7) (v := ?_) (by simp only [List.getElem?_toArray, List.getElem?_cons_succ, List.getElem?_cons_zero]; rfl) (by kernel_rfl) (by kernel_rfl) (by kernel_rfl) (fun _ _ _ h => h) (Or.inl ⟨by rfl, ?_⟩) (by assumption) ?_
      rotate_left
      · (intro w hSw; (try dsimp only at hSw); go_simp; try with_reducible rfl)
      try simp only [Act.put, List.setIfInBounds_toArray, List.set_cons_zero, List.set_cons_succ]
      refine wpAnyH_take (i := 8) (v := ?_) (by simp only [List.getElem?_toArray, List.getElem?_cons_succ, List.getElem?_cons_zero]; rfl) (by kernel_rfl) (by kernel_rfl) (by kernel_rfl) (fun _ _ _ h => h) (Or.inl ⟨by rfl, ?_⟩) (by assumption) ?_
      rotate_left
      · (intro w hSw; (try dsimp only at hSw); go_simp; try with_reducible rfl)
      try simp only [Act.put, List.setIfInBounds_toArray, List.set_cons_zero, List.set_cons_succ]
      refine wpAnyH_take (i := 9) (v := ?_) (by simp only [List.getElem?_toArray, List.getElem?_cons_succ, List.getElem?_cons_zero]; rfl) (by kernel_rfl) (by kernel_rfl) (by kernel_rfl) (fun _ _ _ h => h) (Or.inl ⟨by rfl, ?_⟩) (by assumption) ?_
      rotate_left
      · (intro w hSw; (try dsimp only at hSw); go_simp; try with_reducible rfl)
      try simp only [Act.put, List.setIfInBounds_toArray, List.set_cons_zero, List.set_cons_succ]
      refine wpAnyH_take (i := 10) (v := ?_) (by simp only [List.getElem?_toArray, List.getElem?_cons_succ, List.getElem?_cons_zero]; rfl) (by kernel_rfl) (by kernel_rfl) (by kernel_rfl) (fun _ _ _ h => h) (Or.inl ⟨by rfl, ?_⟩) (by assumption) ?_
      rotate_left
      · (intro w hSw; (try dsimp only at hSw); go_simp; try with_reducible rfl)
      try simp only [Act.put, List.setIfInBounds_toArray, List.set_cons_zero, List.set_cons_succ]
      refine wpAnyH_take (i := 11) (v := ?_) (by simp only [List.getElem?_toArray, List.getElem?_cons_succ, List.getElem?_cons_zero]; rfl) (by kernel_rfl) (by kernel_rfl) (by kernel_rfl) (fun _ _ _ h => h) (Or.inl ⟨by rfl, ?_⟩) (by assumption) ?_
      rotate_left
      · (intro w hSw; (try dsimp only at hSw); go_simp; try with_reducible rfl)
      try simp only [Act.put, List.setIfInBounds_toArray, List.set_cons_zero, List.set_cons_succ]
      refine wpAnyH_done (by kernel_rfl) ?_ _
      refine NoPanic.normal ?_
      go_wp2_with fail
      refine wp_region_noPanic ?_
      refine wp_region_held_drew (S := (fun w' => w'.cell? ⟨g, k, none⟩ = some (.string ⟨tl.toArray⟩))) (by kernel_rfl) (hHeld) (fun hHeld => ?_)
      refine wpAnyH_take (i := 0) (v := ?_) (by simp only [List.getElem?_toArray, List.getElem?_cons_zero]; rfl) (by kernel_rfl) (by kernel_rfl) (by kernel_rfl) (fun _ _ _ h => h) (Or.inl ⟨by rfl, ?_⟩) (by assumption) ?_
      rotate_left
      · (intro w hSw; (try dsimp only at hSw); go_simp; try with_reducible rfl)
      try simp only [Act.put, List.setIfInBounds_toArray, List.set_cons_zero, List.set_cons_succ]
      refine wpAnyH_take (i := 2) (v := ?_) (by simp only [List.getElem?_toArray, List.getElem?_cons_succ, List.getElem?_cons_zero]; rfl) (by kernel_rfl) (by kernel_rfl) (by kernel_rfl) (fun _ _ _ h => h) (Or.inl ⟨by rfl, ?_⟩) (by assumption) ?_
      rotate_left
      · (intro w hSw; (try dsimp only at hSw); go_simp; try with_reducible rfl)
      try simp only [Act.put, List.setIfInBounds_toArray, List.set_cons_zero, List.set_cons_succ]
      refine wpAnyH_take (i := 3) (v := ?_) (by simp only [List.getElem?_toArray, List.getElem?_cons_succ, List.getElem?_cons_zero]; rfl) (by kernel_rfl) (by kernel_rfl) (by kernel_rfl) (fun _ _ _ h => h) (Or.inl ⟨by rfl, ?_⟩) (by assumption) ?_
      rotate_left
      · (intro w hSw; (try dsimp only at hSw); go_simp; try with_reducible rfl)
      try simp only [Act.put, List.setIfInBounds_toArray, List.set_cons_zero, List.set_cons_succ]
      refine wpAnyH_take (i := 4) (v := ?_) (by simp only [List.getElem?_toArray, List.getElem?_cons_succ, List.getElem?_cons_zero]; rfl) (by kernel_rfl) (by kernel_rfl) (by kernel_rfl) (fun _ _ _ h => h) (Or.inl ⟨by rfl, ?_⟩) (by assumption) ?_
      rotate_left
      · (intro w hSw; (try dsimp only at hSw); go_simp; try with_reducible rfl)
      try simp only [Act.put, List.setIfInBounds_toArray, List.set_cons_zero, List.set_cons_succ]
      refine wpAnyH_take (i := 5) (v := ?_) (by simp only [List.getElem?_toArray, List.getElem?_cons_succ, List.getElem?_cons_zero]; rfl) (by kernel_rfl) (by kernel_rfl) (by kernel_rfl) (fun _ _ _ h => h) (Or.inl ⟨by rfl, ?_⟩) (by assumption) ?_
      rotate_left
      · (intro w hSw; (try dsimp only at hSw); go_simp; try with_reducible rfl)
      try simp only [Act.put, List.setIfInBounds_toArray, List.set_cons_zero, List.set_cons_succ]
      refine wpAnyH_ready (rs := [1]) (by kernel_rfl) (by simp) ?_
      refine AllReadyH.cons (by simp only [List.getElem?_toArray, List.getElem?_cons_succ, List.getElem?_cons_zero]; rfl) (fun K hK => ?_) AllReadyH.nil
      go_simp
      go_at_call 14
      refine (PA.out _).mono ?_
      rintro e v8 ⟨rfl, k8⟩
      have h8 := bstep (by first | exact h7 | exact Below.drew h7) k8
      have HROW := Lib.hid (Row.below (by first | exact HROW.out | exact Row.below HROW.out (Below.drew (Below.refl _ _))) k8)
      go_wp2_with fail
      refine hK.out _ _ (keepC hHeld k8) (fun hHeld => ?_)
      clear hK K
      try simp only [Act.put, List.setIfInBounds_toArray, List.set_cons_zero, List.set_cons_succ]
      refine wpAnyH_take (i := 6) (v := ?_) (by simp only [List.getElem?_toArray, List.getElem?_cons_succ, List.getElem?_cons_zero]; rfl) (by kernel_rfl) (by kernel_rfl) (by kernel_rfl) (fun _ _ _ h => h) (Or.inl ⟨by rfl, ?_⟩) (by assumption) ?_
      rotate_left
      · (intro w hSw; (try dsimp only at hSw); go_simp; try with_reducible rfl)
      try simp only [Act.put, List.setIfInBounds_toArray, List.set_cons_zero, List.set_cons_succ]
      refine wpAnyH_take (i := 7) (v := ?_) (by simp only [List.getElem?_toArray, List.getElem?_cons_succ, List.getElem?_cons_zero]; rfl) (by kernel_rfl) (by kernel_rfl) (by kernel_rfl) (fun _ _ _ h => h) (Or.inl ⟨by rfl, ?_⟩) (by assumption) ?_
      rotate_left
      · (intro w hSw; (try dsimp only at hSw); go_simp; try with_reducible rfl)
      try simp only [Act.put, List.setIfInBounds_toArray, List.set_cons_zero, List.set_cons_succ]
      refine wpAnyH_take (i := 8) (v := ?_) (by simp only [List.getElem?_toArray, List.getElem?_cons_succ, List.getElem?_cons_zero]; rfl) (by kernel_rfl) (by kernel_rfl) (by kernel_rfl) (fun _ _ _ h => h) (Or.inl ⟨by rfl, ?_⟩) (by assumption) ?_
      rotate_left
      · (intro w hSw; (try dsimp only at hSw); go_simp; try with_reducible rfl)
      try simp only [Act.put, List.setIfInBounds_toArray, List.set_cons_zero, List.set_cons_succ]
      refine wpAnyH_take (i := 9) (v := ?_) (by simp only [List.getElem?_toArray, List.getElem?_cons_succ, List.getElem?_cons_zero]; rfl) (by kernel_rfl) (by kernel_rfl) (by kernel_rfl) (fun _ _ _ h => h) (Or.inl ⟨by rfl, ?_⟩) (by assumption) ?_
      rotate_left
      · (intro w hSw; (try dsimp only at hSw); go_simp; try with_reducible rfl)
      try simp only [Act.put, List.setIfInBounds_toArray, List.set_cons_zero, List.set_cons_succ]
      refine wpAnyH_take (i := 10) (v := ?_) (by simp only [List.getElem?_toArray, List.getElem?_cons_succ, List.getElem?_cons_zero]; rfl) (by kernel_rfl) (by kernel_rfl) (by kernel_rfl) (fun _ _ _ h => h) (Or.inl ⟨by rfl, ?_⟩) (by assumption) ?_
      rotate_left
      · (intro w hSw; (try dsimp only at hSw); go_simp; try with_reducible rfl)
      try simp only [Act.put, List.setIfInBounds_toArray, List.set_cons_zero, List.set_cons_succ]
      refine wpAnyH_take (i := 11) (v := ?_) (by simp only [List.getElem?_toArray, List.getElem?_cons_succ, List.getElem?_cons_zero]; rfl) (by kernel_rfl) (by kernel_rfl) (by kernel_rfl) (fun _ _ _ h => h) (Or.inl ⟨by rfl, ?_⟩) (by assumption) ?_
      rotate_left
      · (intro w hSw; (try dsimp only at hSw); go_simp; try with_reducible rfl)
      try simp only [Act.put, List.setIfInBounds_toArray, List.set_cons_zero, List.set_cons_succ]
      refine wpAnyH_take (i := 12) (v := ?_) (by simp only [List.getElem?_toArray, List.getElem?_cons_succ, List.getElem?_cons_zero]; rfl) (by kernel_rfl) (by kernel_rfl) (by kernel_rfl) (fun _ _ _ h => h) (Or.inl ⟨by rfl, ?_⟩) (by assumption) ?_
      rotate_left
      · (intro w hSw; (try dsimp only at hSw); go_simp; try with_reducible rfl)
      try simp only [Act.put, List.setIfInBounds_toArray, List.set_cons_zero, List.set_cons_succ]
      refine wpAnyH_take (i := 13) (v := ?_) (by simp only [List.getElem?_toArray, List.getElem?_cons_succ, List.getElem?_cons_zero]; rfl) (by kernel_rfl) (by kernel_rfl) (by kernel_rfl) (fun _ _ _ h => h) (Or.inl ⟨by rfl, ?_⟩) (by assumption) ?_
      rotate_left
      · (intro w hSw; (try dsimp only at hSw); go_simp; try with_reducible rfl)
      try simp only [Act.put, List.setIfInBounds_toArray, List.set_cons_zero, List.set_cons_succ]
      refine wpAnyH_take (i := 14) (v := ?_) (by simp only [List.getElem?_toArray, List.getElem?_cons_succ, List.getElem?_cons_zero]; rfl) (by kernel_rfl) (by kernel_rfl) (by kernel_rfl) (fun _ _ _ h => h) (Or.inl ⟨by rfl, ?_⟩) (by assumption) ?_
      rotate_left
      · (intro w hSw; (try dsimp only at hSw); go_simp; try with_reducible rfl)
      try simp only [Act.put, List.setIfInBounds_toArray, List.set_cons_zero, List.set_cons_succ]
      refine wpAnyH_take (i := 15) (v := ?_) (by simp only [List.getElem?_toArray, List.getElem?_cons_succ, List.getElem?_cons_zero]; rfl) (by kernel_rfl) (by kernel_rfl) (by kernel_rfl) (fun _ _ _ h => h) (Or.inl ⟨by rfl, ?_⟩) (by assumption) ?_
      rotate_left
      · (intro w hSw; (try dsimp only at hSw); go_simp; try with_reducible rfl)
      try simp only [Act.put, List.setIfInBounds_toArray, List.set_cons_zero, List.set_cons_succ]
      refine wpAnyH_take (i := 16) (v := ?_) (by simp only [List.getElem?_toArray, List.getElem?_cons_succ, List.getElem?_cons_zero]; rfl) (by kernel_rfl) (by kernel_rfl) (by kernel_rfl) (fun _ _ _ h => h) (Or.inl ⟨by rfl, ?_⟩) (by assumption) ?_
      rotate_left
      · (intro w hSw; (try dsimp only at hSw); go_simp; try with_reducible rfl)
      try simp only [Act.put, List.setIfInBounds_toArray, List.set_cons_zero, List.set_cons_succ]
      refine wpAnyH_take (i := 17) (v := ?_) (by simp only [List.getElem?_toArray, List.getElem?_cons_succ, List.getElem?_cons_zero]; rfl) (by kernel_rfl) (by kernel_rfl) (by kernel_rfl) (fun _ _ _ h => h) (Or.inl ⟨by rfl, ?_⟩) (by assumption) ?_
      rotate_left
      · (intro w hSw; (try dsimp only at hSw); go_simp; try with_reducible rfl)
      try simp only [Act.put, List.setIfInBounds_toArray, List.set_cons_zero, List.set_cons_succ]
      refine wpAnyH_take (i := 18) (v := ?_) (by simp only [List.getElem?_toArray, List.getElem?_cons_succ, List.getElem?_cons_zero]; rfl) (by kernel_rfl) (by kernel_rfl) (by kernel_rfl) (fun _ _ _ h => h) (Or.inl ⟨by rfl, ?_⟩) (by assumption) ?_
      rotate_left
      · (intro w hSw; (try dsimp only at hSw); go_simp; try with_reducible rfl)
      try simp only [Act.put, List.setIfInBounds_toArray, List.set_cons_zero, List.set_cons_succ]
      refine wpAnyH_take (i := 19) (v := ?_) (by simp only [List.getElem?_toArray, List.getElem?_cons_succ, List.getElem?_cons_zero]; rfl) (by kernel_rfl) (by kernel_rfl) (by kernel_rfl) (fun _ _ _ h => h) (Or.inl ⟨by rfl, ?_⟩) (by assumption) ?_
      rotate_left
      · (intro w hSw; (try dsimp only at hSw); go_simp; try with_reducible rfl)
      try simp only [Act.put, List.setIfInBounds_toArray, List.set_cons_zero, List.set_cons_succ]
      refine wpAnyH_take (i := 20) (v := ?_) (by simp only [List.getElem?_toArray, List.getElem?_cons_succ, List.getElem?_cons_zero]; rfl) (by kernel_rfl) (by kernel_rfl) (by kernel_rfl) (fun _ _ _ h => h) (Or.inl ⟨by rfl, ?_⟩) (by assumption) ?_
      rotate_left
      · (intro w hSw; (try dsimp only at hSw); go_simp; try with_reducible rfl)
      try simp only [Act.put, List.setIfInBounds_toArray, List.set_cons_zero, List.set_cons_succ]
      refine wpAnyH_take (i := 21) (v := ?_) (by simp only [List.getElem?_toArray, List.getElem?_cons_succ, List.getElem?_cons_zero]; rfl) (by kernel_rfl) (by kernel_rfl) (by kernel_rfl) (fun _ _ _ h => h) (Or.inl ⟨by rfl, ?_⟩) (by assumption) ?_
      rotate_left
      · (intro w hSw; (try dsimp only at hSw); go_simp; try with_reducible rfl)
      try simp only [Act.put, List.setIfInBounds_toArray, List.set_cons_zero, List.set_cons_succ]
      refine wpAnyH_ready (rs := [22]) (by kernel_rfl) (by simp) ?_
      refine AllReadyH.cons (by simp only [List.getElem?_toArray, List.getElem?_cons_succ, List.getElem?_cons_zero]; rfl) (fun K hK => ?_) AllReadyH.nil
      go_simp
      go_at_call 18
      refine (UA.out _).mono ?_
      rintro e v9 ⟨rfl, k9⟩
      have h9 := bstep (by first | exact h8 | exact Below.drew h8) k9
      have HROW := Lib.hid (Row.below (by first | exact HROW.out | exact Row.below HROW.out (Below.drew (Below.refl _ _))) k9)
      go_wp2_with fail
      refine hK.out _ _ (keepC hHeld k9) (fun hHeld => ?_)
      clear hK K
      try simp only [Act.put, List.setIfInBounds_toArray, List.set_cons_zero, List.set_cons_succ]
      refine wpAnyH_take (i := 23) (v := ?_) (by simp only [List.getElem?_toArray, List.getElem?_cons_succ, List.getElem?_cons_zero]; rfl) (by kernel_rfl) (by kernel_rfl) (by kernel_rfl) (fun _ _ _ h => h) (Or.inl ⟨by rfl, ?_⟩) (by assumption) ?_
      rotate_left
      · (intro w hSw; (try dsimp only at hSw); go_simp; try with_reducible rfl)
      try simp only [Act.put, List.setIfInBounds_toArray, List.set_cons_zero, List.set_cons_succ]
      refine wpAnyH_take (i := 24) (v := ?_) (by simp only [List.getElem?_toArray, List.getElem?_cons_succ, List.getElem?_cons_zero]; rfl) (by kernel_rfl) (by kernel_rfl) (by kernel_rfl) (fun _ _ _ h => h) (Or.inl ⟨by rfl, ?_⟩) (by assumption) ?_
      rotate_left
      · (intro w hSw; (try dsimp only at hSw); go_simp; try with_reducible rfl)
      try simp only [Act.put, List.setIfInBounds_toArray, List.set_cons_zero, List.set_cons_succ]
      refine wpAnyH_take (i := 25) (v := ?_) (by simp only [List.getElem?_toArray, List.getElem?_cons_succ, List.getElem?_cons_zero]; rfl) (by kernel_rfl) (by kernel_rfl) (by kernel_rfl) (fun _ _ _ h => h) (Or.inl ⟨by rfl, ?_⟩) (by assumption) ?_
      rotate_left
      · (intro w hSw; (try dsimp only at hSw); go_simp; try with_reducible rfl)
      try simp only [Act.put, List.setIfInBounds_toArray, List.set_cons_zero, List.set_cons_succ]
      refine wpAnyH_take (i := 26) (v := ?_) (by simp only [List.getElem?_toArray, List.getElem?_cons_succ, List.getElem?_cons_zero]; rfl) (by kernel_rfl) (by kernel_rfl) (by kernel_rfl) (fun _ _ _ h => h) (Or.inl ⟨by rfl, ?_⟩) (by assumption) ?_
      rotate_left
      · (intro w hSw; (try dsimp only at hSw); go_simp; try with_reducible rfl)
      try simp only [Act.put, List.setIfInBounds_toArray, List.set_cons_zero, List.set_cons_succ]
      refine wpAnyH_take (i := 27) (v := ?_) (by simp only [List.getElem?_toArray, List.getElem?_cons_succ, List.getElem?_cons_zero]; rfl) (by kernel_rfl) (by kernel_rfl) (by kernel_rfl) (fun _ _ _ h => h) (Or.inl ⟨by rfl, ?_⟩) (by assumption) ?_
      rotate_left
      · (intro w hSw; (try dsimp only at hSw); go_simp; try with_reducible rfl)
      try simp only [Act.put, List.setIfInBounds_toArray, List.set_cons_zero, List.set_cons_succ]
      refine wpAnyH_take (i := 28) (v := ?_) (by simp only [List.getElem?_toArray, List.getElem?_cons_succ, List.getElem?_cons_zero]; rfl) (by kernel_rfl) (by kernel_rfl) (by kernel_rfl) (fun _ _ _ h => h) (Or.inl ⟨by rfl, ?_⟩) (by assumption) ?_
      rotate_left
      · (intro w hSw; (try dsimp only at hSw); go_simp; try with_reducible rfl)
      try simp only [Act.put, List.setIfInBounds_toArray, List.set_cons_zero, List.set_cons_succ]
      refine wpAnyH_take (i := 29) (v := ?_) (by simp only [List.getElem?_toArray, List.getElem?_cons_succ, List.getElem?_cons_zero]; rfl) (by kernel_rfl) (by kernel_rfl) (by kernel_rfl) (fun _ _ _ h => h) (Or.inl ⟨by rfl, ?_⟩) (by assumption) ?_
      rotate_left
      · (intro w hSw; (try dsimp only at hSw); go_simp; try with_reducible rfl)
      try simp only [Act.put, List.setIfInBounds_toArray, List.set_cons_zero, List.set_cons_succ]
      refine wpAnyH_take (i := 30) (v := ?_) (by simp only [List.getElem?_toArray, List.getElem?_cons_succ, List.getElem?_cons_zero]; rfl) (by kernel_rfl) (by kernel_rfl) (by kernel_rfl) (fun _ _ _ h => h) (Or.inl ⟨by rfl, ?_⟩) (by assumption) ?_
      rotate_left
      · (intro w hSw; (try dsimp only at hSw); go_simp; try with_reducible rfl)
      try simp only [Act.put, List.setIfInBounds_toArray, List.set_cons_zero, List.set_cons_succ]
      refine wpAnyH_ready (rs := [31]) (by kernel_rfl) (by simp) ?_
      refine AllReadyH.cons (by simp only [List.getElem?_toArray, List.getElem?_cons_succ, List.getElem?_cons_zero]; rfl) (fun K hK => ?_) AllReadyH.nil
      go_simp
      go_at_call 18
      refine (UB.out _).mono ?_
      rintro e v10 ⟨rfl, k10⟩
      have h10 := bstep (by first | exact h9 | exact Below.drew h9) k10
      have HROW := Lib.hid (Row.below (by first | exact HROW.out | exact Row.below HROW.out (Below.drew (Below.refl _ _))) k10)
      go_wp2_with fail
      refine hK.out _ _ (keepC hHeld k10) (fun hHeld => ?_)
      clear hK K
      try simp only [Act.put, List.setIfInBounds_toArray, List.set_cons_zero, List.set_cons_succ]
      refine wpAnyH_take (i := 32) (v := ?_) (by simp only [List.getElem?_toArray, List.getElem?_cons_succ, List.getElem?_cons_zero]; rfl) (by kernel_rfl) (by kernel_rfl) (by kernel_rfl) (fun _ _ _ h => h) (Or.inl ⟨by rfl, ?_⟩) (by assumption) ?_
      rotate_left
      · (intro w hSw; (try dsimp only at hSw); go_simp; try with_reducible rfl)
      try simp only [Act.put, List.setIfInBounds_toArray, List.set_cons_zero, List.set_cons_succ]
      refine wpAnyH_take (i := 33) (v := ?_) (by simp only [List.getElem?_toArray, List.getElem?_cons_succ, List.getElem?_cons_zero]; rfl) (by kernel_rfl) (by kernel_rfl) (by kernel_rfl) (fun _ _ _ h => h) (Or.inl ⟨by rfl, ?_⟩) (by assumption) ?_
      rotate_left
      · (intro w hSw; (try dsimp only at hSw); go_simp; try with_reducible rfl)
      try simp only [Act.put, List.setIfInBounds_toArray, List.set_cons_zero, List.set_cons_succ]
      refine wpAnyH_take (i := 34) (v := ?_) (by simp only [List.getElem?_toArray, List.getElem?_cons_succ, List.getElem?_cons_zero]; rfl) (by kernel_rfl) (by kernel_rfl) (by kernel_rfl) (fun _ _ _ h => h) (Or.inl ⟨by rfl, ?_⟩) (by assumption) ?_
      rotate_left
      · (intro w hSw; (try dsimp only at hSw); go_simp; try with_reducible rfl)
      try simp only [Act.put, List.setIfInBounds_toArray, List.set_cons_zero, List.set_cons_succ]
      refine wpAnyH_take (i := 35) (v := ?_) (by simp only [List.getElem?_toArray, List.getElem?_cons_succ, List.getElem?_cons_zero]; rfl) (by kernel_rfl) (by kernel_rfl) (by kernel_rfl) (fun _ _ _ h => h) (Or.inl ⟨by rfl, ?_⟩) (by assumption) ?_
      rotate_left
      · (intro w hSw; (try dsimp only at hSw); go_simp; try with_reducible rfl)
      try simp only [Act.put, List.setIfInBounds_toArray, List.set_cons_zero, List.set_cons_succ]
      refine wpAnyH_take (i := 36) (v := ?_) (by simp only [List.getElem?_toArray, List.getElem?_cons_succ, List.getElem?_cons_zero]; rfl) (by kernel_rfl) (by kernel_rfl) (by kernel_rfl) (fun _ _ _ h => h) (Or.inl ⟨by rfl, ?_⟩) (by assumption) ?_
      rotate_left
      · (intro w hSw; (try dsimp only at hSw); go_simp; try with_reducible rfl)
      try simp only [Act.put, List.setIfInBounds_toArray, List.set_cons_zero, List.set_cons_succ]
      refine wpAnyH_take (i := 37) (v := ?_) (by simp only [List.getElem?_toArray, List.getElem?_cons_succ, List.getElem?_cons_zero]; rfl) (by kernel_rfl) (by kernel_rfl) (by kernel_rfl) (fun _ _ _ h => h) (Or.inl ⟨by rfl, ?_⟩) (by assumption) ?_
      rotate_left
      · (intro w hSw; (try dsimp only at hSw); go_simp; try with_reducible rfl)
      try simp only [Act.put, List.setIfInBounds_toArray, List.set_cons_zero, List.set_cons_succ]
      refine wpAnyH_take (i := 39) (v := ?_) (by simp only [List.getElem?_toArray, List.getElem?_cons_succ, List.getElem?_cons_zero]; rfl) (by kernel_rfl) (by kernel_rfl) (by kernel_rfl) (fun _ _ _ h => h) (Or.inl ⟨by rfl, ?_⟩) (by assumption) ?_
      rotate_left
      · (intro w hSw; (try dsimp only at hSw); go_simp; try with_reducible rfl)
      try simp only [Act.put, List.setIfInBounds_toArray, List.set_cons_zero, List.set_cons_succ]
      refine wpAnyH_take (i := 42) (v := ?_) (by simp only [List.getElem?_toArray, List.getElem?_cons_succ, List.getElem?_cons_zero]; rfl) (by kernel_rfl) (by kernel_rfl) (by kernel_rfl) (fun _ _ _ h => h) (Or.inl ⟨by rfl, ?_⟩) (by assumption) ?_
      rotate_left
      · (intro w hSw; (try dsimp only at hSw); go_simp; try with_reducible rfl)
      try simp only [Act.put, List.setIfInBounds_toArray, List.set_cons_zero, List.set_cons_succ]
      refine wpAnyH_ready (rs := [38]) (by kernel_rfl) (by simp) ?_
      refine AllReadyH.cons (by simp only [List.getElem?_toArray, List.getElem?_cons_succ, List.getElem?_cons_zero]; rfl) (fun K hK => ?_) AllReadyH.nil
      go_simp
      go_at_call 12
      refine (DL.out _).mono ?_
      rintro e v11 ⟨rfl, k11⟩
      have h11 := bstep (by first | exact h10 | exact Below.drew h10) k11
      have HROW := Lib.hid (Row.below (by first | exact HROW.out | exact Row.below HROW.out (Below.drew (Below.refl _ _))) k11)
      go_wp2_with fail
      refine hK.out _ _ (keepC hHeld k11) (fun hHeld => ?_)
      clear hK K
      try simp only [Act.put, List.setIfInBounds_toArray, List.set_cons_zero, List.set_cons_succ]
      refine wpAnyH_ready (rs := [40]) (by kernel_rfl) (by simp) ?_
      refine AllReadyH.cons (by simp only [List.getElem?_toArray, List.getElem?_cons_succ, List.getElem?_cons_zero]; rfl) (fun K hK => ?_) AllReadyH.nil
      go_simp
      go_at_call 12
      refine (DP.out _).mono ?_
      rintro e v12 ⟨rfl, k12⟩
      have h12 := bstep (by first | exact h11 | exact Below.drew h11) k12
      have HROW := Lib.hid (Row.below (by first | exact HROW.out | exact Row.below HROW.out (Below.drew (Below.refl _ _))) k12)
      go_wp2_with fail
      refine hK.out _ _ (keepC hHeld k12) (fun hHeld => ?_)
      clear hK K
      try simp only [Act.put, List.setIfInBounds_toArray, List.set_cons_zero, List.set_cons_succ]
      refine wpAnyH_take (i := 41) (v := ?_) (by simp only [List.getElem?_toArray, List.getElem?_cons_succ, List.getElem?_cons_zero]; rfl) (by kernel_rfl) (by kernel_rfl) (by kernel_rfl) (fun _ _ _ h => h) (Or.inl ⟨by rfl, ?_⟩) (by assumption) ?_
      rotate_left
      · (intro w hSw; (try dsimp only at hSw); go_simp; try with_reducible rfl)
      try simp only [Act.put, List.setIfInBounds_toArray, List.set_cons_zero, List.set_cons_succ]
      refine wpAnyH_take (i := 43) (v := ?_) (by simp only [List.getElem?_toArray, List.getElem?_cons_succ, List.getElem?_cons_zero]; rfl) (by kernel_rfl) (by kernel_rfl) (by kernel_rfl) (fun _ _ _ h => h) (Or.inl ⟨by rfl, ?_⟩) (by assumption) ?_
      rotate_left
      · (intro w hSw; (try dsimp only at hSw); go_simp; try with_reducible rfl)
      try simp only [Act.put, List.setIfInBounds_toArray, List.set_cons_zero, List.set_cons_succ]
      refine wpAnyH_take (i := 44) (v := ?_) (by simp only [List.getElem?_toArray, List.getElem?_cons_succ, List.getElem?_cons_zero]; rfl) (by kernel_rfl) (by kernel_rfl) (by kernel_rfl) (fun _ _ _ h => h) (Or.inl ⟨by rfl, ?_⟩) (by assumption) ?_
      rotate_left
      · (intro w hSw; (try dsimp only at hSw); go_simp; try with_reducible rfl)
      try simp only [Act.put, List.setIfInBounds_toArray, List.set_cons_zero, List.set_cons_succ]
      refine wpAnyH_take (i := 45) (v := ?_) (by simp only [List.getElem?_toArray, List.getElem?_cons_succ, List.getElem?_cons_zero]; rfl) (by kernel_rfl) (by kernel_rfl) (by kernel_rfl) (fun _ _ _ h => h) (Or.inl ⟨by rfl, ?_⟩) (by assumption) ?_
      rotate_left
      · (intro w hSw; (try dsimp only at hSw); go_simp; try with_reducible rfl)
      try simp only [Act.put, List.setIfInBounds_toArray, List.set_cons_zero, List.set_cons_succ]
      refine wpAnyH_done (by kernel_rfl) ?_ _
      refine NoPanic.normal ?_
      clear NU PA CL UA UB DL e1 e2 y0 y0b
      have hcell2 := hHeld
      clear hHeld
      cases s with
      | true =>
        go_wp2
        go_roundw
        case rel => exact ⟨k + 1, by omega, by go_num, by rw [HA2.out], by rw [HS.out]; rfl, Lib.hid (fun _ => ⟨g, rfl, HROW.out⟩), h12⟩
        case measure => simp [intOf]; omega
      | false =>
        by_cases htq : tl = q
        · have y5 : (tl == q) = true := by rw [beq_iff_eq]; exact htq
          have Y5 := Lib.hid y5
          clear htq
          go_wp2
          go_roundw
          case rel => exact ⟨k + 1, by omega, by go_num, by rw [HA2.out], by rw [HS.out]; rw [Y5.out]; rfl, Lib.hid (fun _ => ⟨g, rfl, HROW.out⟩), h12⟩
          case measure => simp [intOf]; omega
        · have y5 : (tl == q) = false := by rw [beq_eq_false_iff_ne]; exact htq
          have Y5 := Lib.hid y5
          clear htq
          go_wp2
          go_roundw
          case rel => exact ⟨k + 1, by omega, by go_num, by rw [HA2.out], by rw [HS.out]; rw [Y5.out]; rfl, Lib.hid (fun _ => ⟨g, rfl, HROW.out⟩), h12⟩
          case measure => simp [intOf]; omega
    · obtain rfl : k = N := by omega
      have hn := HN.out
      have htn := HTN.out
      have hd1 : decide ((k : Int) < (k : Int)) = false := decide_eq_false (by omega)
      have hat : atK PL k = [49] := by
        rw [atK, ← hn, show n - k = 1 by omega, show PL.take 1 = [1] by
          have h1 := HV.out.1
          cases PL with
          | nil => cases h1
          | cons y r => rw [show y = 1 from h1]; rfl, w1]
      have hs : isK TT q k = TT.any (· == q) := by rw [isK, List.take_of_length_le (by omega)]
      rw [hat, hs]
      obtain ⟨s, hs2⟩ : ∃ s, s = TT.any (· == q) := ⟨_, rfl⟩
      rw [← hs2] at UQ ⊢
      have PA := Lib.hid (fun w => parent_any [49] w (by decide))
      rw [show parentL [49] = [] by rw [parentL, p1]; rfl] at PA
      have NU := Lib.hid (fun w => numberOf_any [49] w (by decide))
      rw [show last (parse [49]) = 0 by rw [p1]; rfl] at NU
      clear hat hs hs2 hn htn HI
      cases s with
      | true =>
        go_wp2_with fail
        refine (PA.out _).mono ?_
        rintro e v13 ⟨rfl, k13⟩
        have h13 := bstep hb k13
        clear k13
        go_wp2_with fail
        refine (NU.out _).mono ?_
        rintro e v14 ⟨rfl, k14⟩
        have h14 := bstep h13 k14
        clear k14
        go_wp2_with fail
        refine (UQ.out _).mono ?_
        rintro e v15 ⟨rfl, k15⟩
        have h15 := bstep h14 k15
        clear k15
        go_wp2_with fail
        refine (alive_any _ (T.out.below h15)).mono ?_
        rintro e v16 ⟨rfl, k16⟩
        have h16 := bstep h15 k16
        clear k16
        go_wp2
        go_ret
        exact ⟨rfl, h16⟩
      | false =>
        go_wp2_with fail
        refine (PA.out _).mono ?_
        rintro e v17 ⟨rfl, k17⟩
        have h17 := bstep hb k17
        clear k17
        go_wp2_with fail
        refine (NU.out _).mono ?_
        rintro e v18 ⟨rfl, k18⟩
        have h18 := bstep h17 k18
        clear k18
        go_wp2_with fail
        refine (UQ.out _).mono ?_
        rintro e v19 ⟨rfl, k19⟩
        have h19 := bstep h18 k19
        clear k19
        go_wp2_with fail
        refine (alive_any _ (T.out.below h19)).mono ?_
        rintro e v20 ⟨rfl, k20⟩
        have h20 := bstep h19 k20
        clear k20
        go_wp2
        go_ret
        exact ⟨rfl, h20⟩

end Go.Proofs.YtagpbhghmhamdaaDoor.PathTree
