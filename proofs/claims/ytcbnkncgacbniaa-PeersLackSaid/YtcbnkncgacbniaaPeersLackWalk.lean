/- PeersLack: the walk. -/
import Derived.Test.YtcbnkncgacbniaaPeersLackPlain
namespace Go.Proofs.Ytcbnkncgacbniaa
namespace PeersLack
open Go.RowKit Go.Proofs.Ytcbnkncgacbniaa.Mark Go.Proofs.Ytcbnkncgacbniaa.Dots Go.Proofs.Ytcbnkncgacbniaa.Peers Go.Proofs.Ytcbnkncgacbniaa.PeersLaw

set_option maxRecDepth 100000 in
set_option maxHeartbeats 40000000 in
theorem walk (a0 : List (List UInt8)) (s0 : Option Addr) (c0 : Nat) (a1 : List Peers.St) (s1 : Option Addr) (c1 : Nat) (a2 : List Mark.M) (s2 : Option Addr) (c2 : Nat) (w : World) (w0 : ∀ x ∈ a0, x.length ≤ 140737488351232) (l0 : Words.Lies w s0 a0.length a0) (_ : a0.length ≤ 140737488351232) (w1 : ∀ x ∈ a1, x.Sized ∧ x.Deep w) (l1 : Peers.Steps w s1 a1.length a1) (_ : a1.length ≤ 140737488351232) (w2 : ∀ x ∈ a2, x.Was) (l2 : Mark.Lies w s2 a2.length a2) (_ : a2.length ≤ 140737488351232) :
    Calls Try.prog 4 #[.slice s0 a0.length c0, .slice s1 a1.length c1, .slice s2 a2.length c2] w fun e w' => e = .returned (.bool true) ∧ Below w.heap.size w w' := by
  have hb := Below.refl w.heap.size w
  have HH := Lib.hid (heavy_any a1 s1 c1 w l1 (fun x hx => (w1 x hx).2) (fun x hx => (w1 x hx).1))
  obtain ⟨n0, hn0⟩ : ∃ n, n = a0.length := ⟨_, rfl⟩
  obtain ⟨n1, hn1⟩ : ∃ n, n = a1.length := ⟨_, rfl⟩
  obtain ⟨n2, hn2⟩ : ∃ n, n = a2.length := ⟨_, rfl⟩
  rw [← hn0] at l0 ⊢
  rw [← hn1] at l1 HH ⊢
  rw [← hn2] at l2 ⊢
  have HN := Lib.hid (And.intro hn0 hn1)
  have HN2 := Lib.hid hn2
  have W0 := Lib.hid w0
  have W1 := Lib.hid w1
  have W2 := Lib.hid w2
  have OK2 := Lib.hid (was_ok w2)
  replace l0 := Lib.hid l0
  replace l1 := Lib.hid l1
  replace l2 := Lib.hid l2
  clear w0 w1 w2 hn0 hn1 hn2
  go_enter Try.func4, Try.ntmps4
  go_wp2_with fail
  refine HH.out.mono ?_
  rintro e v1 ⟨r1, rfl, hr1, k1⟩
  replace hb := bstep hb k1
  have HR1 := Lib.hid hr1
  clear k1 hr1
  cases r1
  rotate_left
  · go_wp2_with fail
    refine (works_any _).mono ?_
    rintro e v2 ⟨rfl, k2⟩
    replace hb := bstep hb k2
    go_wp2
    go_ret
    exact ⟨rfl, hb⟩
  have LT := Lib.hid (HR1.out rfl)
  clear HR1
  go_wp2_with fail
  have L0 : Peers.Steps (v1.alloc (.cells #[.int .i64 0, .slice s0 n0 c0, .string ⟨#[]⟩, .slice none 0 0, .string ⟨#[]⟩, .int .u64 0, .string ⟨#[]⟩, .int .u64 0] 30)) (some ⟨v1.heap.size, 0, none⟩) 1 [oneL s0 c0 a0] := by
    have := Row.lies_new (E := Peers.encS) v1 (oneL s0 c0 a0) 30
    unfold oneL Peers.encS St.cells at this
    simp only [← HN.out.1] at this
    exact this
  replace hb := bstep hb (balloc (Below.refl _ _) (.cells #[.int .i64 0, .slice s0 n0 c0, .string ⟨#[]⟩, .slice none 0 0, .string ⟨#[]⟩, .int .u64 0, .string ⟨#[]⟩, .int .u64 0] 30))
  refine (heavy_words a0 _ s0 c0 n0 _ HN.out.1 L0 (l0.out.below hb) W0.out).mono ?_
  rintro e v2 ⟨r2, rfl, hr2, k2⟩
  replace hb := bstep hb k2
  have HR2 := Lib.hid hr2
  clear k2 hr2 L0
  cases r2
  rotate_left
  · go_wp2_with fail
    refine (works_any _).mono ?_
    rintro e v2 ⟨rfl, k2⟩
    replace hb := bstep hb k2
    go_wp2
    go_ret
    exact ⟨rfl, hb⟩
  have LM := Lib.hid (HR2.out rfl)
  clear HR2
  go_wp2_with fail
  have L0 : Peers.Steps (v2.alloc (.cells #[.int .i64 0, .slice none 0 0, .string ⟨#[]⟩, .slice s2 n2 c2, .string ⟨#[]⟩, .int .u64 0, .string ⟨#[]⟩, .int .u64 0] 30)) (some ⟨v2.heap.size, 0, none⟩) 1 [oneA s2 c2 a2] := by
    have := Row.lies_new (E := Peers.encS) v2 (oneA s2 c2 a2) 30
    unfold oneA Peers.encS St.cells at this
    simp only [← HN2.out] at this
    exact this
  replace hb := bstep hb (balloc (Below.refl _ _) (.cells #[.int .i64 0, .slice none 0 0, .string ⟨#[]⟩, .slice s2 n2 c2, .string ⟨#[]⟩, .int .u64 0, .string ⟨#[]⟩, .int .u64 0] 30))
  refine (heavy_marks a2 _ s2 c2 n2 _ HN2.out L0 (l2.out.below hb) W2.out).mono ?_
  rintro e v2 ⟨r2, rfl, hr2, k2⟩
  replace hb := bstep hb k2
  have HR2 := Lib.hid hr2
  clear k2 hr2 L0
  cases r2
  rotate_left
  · go_wp2_with fail
    refine (works_any _).mono ?_
    rintro e v2 ⟨rfl, k2⟩
    replace hb := bstep hb k2
    go_wp2
    go_ret
    exact ⟨rfl, hb⟩
  have LA := Lib.hid (HR2.out rfl)
  clear HR2
  have hn2 : n2 ≤ 30 := by have := LA.out; have := HN2.out; omega
  go_wp2_with fail
  refine (RefDots.may_any a2 s2 n2 c2 _ (l2.out.below hb) (by omega) OK2.out).mono ?_
  rintro e v3 ⟨rfl, k3⟩
  replace hb := bstep hb k3
  clear k3
  obtain ⟨mb2, hmy⟩ : ∃ b, b = mayL a2 := ⟨_, rfl⟩
  rw [← hmy]
  have HMY := Lib.hid hmy
  clear hmy
  cases mb2
  · go_wp2_with fail
    refine (works_any _).mono ?_
    rintro e v2 ⟨rfl, k2⟩
    replace hb := bstep hb k2
    go_wp2
    go_ret
    exact ⟨rfl, hb⟩
  have MY : Hid (mayL a2 = true) := Lib.hid HMY.out.symm
  clear HMY
  go_wp2_with fail
  refine (new_any _).mono ?_
  rintro e v3 ⟨pb, mb, rfl, i3, hp, hm, k3⟩
  have HP : Hid (w.heap.size ≤ pb ∧ w.heap.size ≤ mb) := Lib.hid ⟨Nat.le_trans hb.size hp, Nat.le_trans hb.size hm⟩
  replace hb := bstep hb k3
  have I := Lib.hid i3
  clear i3 hp hm k3
  go_wp2_with (at_builtin; refine Row.wpList_app Words.typ rfl _ _ rfl v3.heap.size _ [] rfl (Row.Own.nil _ _) s0 n0 c0 a0 rfl (l0.out.below hb) (by have := LM.out.1; have := HN.out; simp only [List.length_nil]; omega) (Nat.le_refl _) ?_; intro v4 w4 o4 _ k4)
  rw [List.nil_append] at o4
  obtain ⟨sa, ca, rfl, -, -, la, -⟩ := Row.Own.lies o4
  replace hb := bstep hb k4
  replace I := Lib.hid (I.out.below k4)
  replace la := Lib.hid la
  clear o4 k4
  obtain ⟨T, hT⟩ : ∃ T, T = sortU a0 := ⟨_, rfl⟩
  have HT := Lib.hid hT
  have HTL : Hid (T.length ≤ 30) := Lib.hid (by rw [hT]; exact Nat.le_trans (sortU_len a0) LM.out.1)
  have HTS : Hid (∀ q ∈ T, q.length ≤ 8192) := Lib.hid (fun q hq => LM.out.2 q ((mem_sortU a0 q).1 (by rw [← hT]; exact hq)))
  clear hT
  go_wp2_with fail
  refine (set_any a0 sa ca _ pb mb [] _ [] I.out la.out (fun q hq => by have := LM.out.2 q hq; omega) (by have := LM.out.1; omega)).mono ?_
  rintro e v5 ⟨rfl, g, i5, hg, k5⟩
  rw [val_nil, ← HT.out] at i5
  have HG : Hid (w.heap.size ≤ pb ∧ w.heap.size ≤ g) := Lib.hid ⟨HP.out.1, Nat.le_trans hb.size hg⟩
  replace hb := stepS hb k5 HP.out (Nat.le_refl _)
  replace I := Lib.hid i5
  clear i5 hg k5 la
  go_wp2_with fail
  go_loopw [8] (fun iv wr => ∃ (k : Nat) (V : List UInt8 → List M), k ≤ n1 ∧ iv = .int .i64 k ∧ Hid (Is wr pb g T V []) ∧ Hid (VOK V (30 * k)) ∧ Below w.heap.size w wr) (fun iv _ => n1 - (intOf iv).toNat)
  case atStart => exact ⟨0, _, by omega, rfl, I, Lib.hid (vok_nil _), hb⟩
  case round =>
    clear hb I
    obtain ⟨k, V, hk, rfl, I, HV, hb⟩ := hrel
    have hn1 : n1 ≤ 200 := by have := LT.out.1; have := HN.out; omega
    by_cases hlt : k < n1
    · have hll : k < a1.length := by have := HN.out; omega
      obtain ⟨b, o, rfl, hcell⟩ := steps_at l1.out (by omega)
      obtain ⟨x1, x2, x3, x4, x6⟩ := hcell k hll
      have hmem := List.getElem_mem hll
      have hdk := (W1.out _ hmem).2
      obtain ⟨okA, lenA, lenP⟩ := light_ok (LT.out.2 _ hmem) (W1.out _ hmem).1
      have hbl := World.block_lt_of_cell? _ _ x2
      obtain ⟨x, hx⟩ : ∃ x, x = a1[k] := ⟨_, rfl⟩
      rw [← hx] at x2 x3 hdk okA lenA lenP
      clear hx hmem hcell x1 x4 x6 hll
      obtain ⟨d, ls, lc, L, pe, ms, mc, A, bp, cap, ow, bs⟩ := x
      obtain ⟨dL, dA⟩ := hdk
      simp only at x2 x3 dA okA lenA lenP hbl
      have dA := Lib.hid dA
      have OK := Lib.hid (And.intro okA (And.intro lenA lenP))
      have HK := Lib.hid hlt
      have HBL : Hid (b < w.heap.size) := Lib.hid hbl
      obtain ⟨na, hna⟩ : ∃ n, n = A.length := ⟨_, rfl⟩
      rw [← hna] at x3 dA
      have HNA := Lib.hid hna
      have y2 := Dots.keepC x2 hb
      have y3 := Dots.keepC x3 hb
      have d1 : decide ((k : Int) < (n1 : Int)) = true := decide_eq_true (by omega)
      have j1 : (0 : Int) ≤ (k : Int) := by omega
      have j2 : (k : Int) < (n1 : Int) := by omega
      clear dL okA lenA lenP hlt x2 x3 hbl hna
      have HB6 := Lib.hid hb
      have hpb : b ≠ pb := by have := HBL.out; have := HG.out; omega
      have hpg : b ≠ g := by have := HBL.out; have := HG.out; omega
      go_wp2_with fail
      refine wp_region_noPanic ?_
      refine wp_region_held_drew (S := (fun w' => w'.cell? ⟨b, o + k * 8 + 2, none⟩ = some (.string ⟨pe.toArray⟩) ∧ w'.cell? ⟨b, o + k * 8 + 3, none⟩ = some (.slice ms na mc))) (by kernel_rfl) (⟨y2, y3⟩) (fun hHeld => ?_)
      refine wpAnyH_take (i := 0) (v := ?_) (by simp only [List.getElem?_toArray, List.getElem?_cons_zero]; rfl) (by kernel_rfl) (by kernel_rfl) (by kernel_rfl) (fun _ _ _ h => h) (Or.inl ⟨by rfl, ?_⟩) (by assumption) ?_
      rotate_left
      · (intro w hSw; (try dsimp only at hSw); go_simp; try with_reducible rfl)
      try simp only [Act.put, List.setIfInBounds_toArray, List.set_cons_zero, List.set_cons_succ]
      refine wpAnyH_take (i := 1) (v := ?_) (by simp only [List.getElem?_toArray, List.getElem?_cons_succ, List.getElem?_cons_zero]; rfl) (by kernel_rfl) (by kernel_rfl) (by kernel_rfl) (fun _ _ _ h => h) (Or.inl ⟨by rfl, ?_⟩) (by assumption) ?_
      rotate_left
      · (intro w hSw; (try dsimp only at hSw); go_simp; try with_reducible rfl)
      try simp only [Act.put, List.setIfInBounds_toArray, List.set_cons_zero, List.set_cons_succ]
      refine wpAnyH_take (i := 2) (v := ?_) (by simp only [List.getElem?_toArray, List.getElem?_cons_succ, List.getElem?_cons_zero]; rfl) (by kernel_rfl) (by kernel_rfl) (by kernel_rfl) (fun _ _ _ h => h) (Or.inl ⟨by rfl, ?_⟩) (by assumption) ?_
      rotate_left
      · (intro w hSw; (try dsimp only at hSw); go_simp; try with_reducible rfl)
      try simp only [Act.put, List.setIfInBounds_toArray, List.set_cons_zero, List.set_cons_succ]
      refine wpAnyH_take (i := 3) (v := ?_) (by simp only [List.getElem?_toArray, List.getElem?_cons_succ, List.getElem?_cons_zero]; rfl) (by kernel_rfl) (by kernel_rfl) (by kernel_rfl) (fun _ _ _ h => h) (Or.inl ⟨by rfl, ?_⟩) (by assumption) ?_
      rotate_left
      · (intro w hSw; (try dsimp only at hSw); go_simp; try with_reducible rfl)
      try simp only [Act.put, List.setIfInBounds_toArray, List.set_cons_zero, List.set_cons_succ]
      refine wpAnyH_take (i := 4) (v := ?_) (by simp only [List.getElem?_toArray, List.getElem?_cons_succ, List.getElem?_cons_zero]; rfl) (by kernel_rfl) (by kernel_rfl) (by kernel_rfl) (fun _ _ _ h => h) (Or.inl ⟨by rfl, ?_⟩) (by assumption) ?_
      rotate_left
      · (intro w hSw; (try dsimp only at hSw); go_simp; try with_reducible rfl)
      try simp only [Act.put, List.setIfInBounds_toArray, List.set_cons_zero, List.set_cons_succ]
      refine wpAnyH_take (i := 5) (v := ?_) (by simp only [List.getElem?_toArray, List.getElem?_cons_succ, List.getElem?_cons_zero]; rfl) (by kernel_rfl) (by kernel_rfl) (by kernel_rfl) (fun _ _ _ h => h) (Or.inl ⟨by rfl, ?_⟩) (by assumption) ?_
      rotate_left
      · (intro w hSw; (try dsimp only at hSw); go_simp; try with_reducible rfl)
      try simp only [Act.put, List.setIfInBounds_toArray, List.set_cons_zero, List.set_cons_succ]
      refine wpAnyH_take (i := 6) (v := ?_) (by simp only [List.getElem?_toArray, List.getElem?_cons_succ, List.getElem?_cons_zero]; rfl) (by kernel_rfl) (by kernel_rfl) (by kernel_rfl) (fun _ _ _ h => h) (Or.inl ⟨by rfl, ?_⟩) (by assumption) ?_
      rotate_left
      · (intro w hSw; (try dsimp only at hSw); go_simp; try with_reducible rfl)
      try simp only [Act.put, List.setIfInBounds_toArray, List.set_cons_zero, List.set_cons_succ]
      refine wpAnyH_take (i := 7) (v := ?_) (by simp only [List.getElem?_toArray, List.getElem?_cons_succ, List.getElem?_cons_zero]; rfl) (by kernel_rfl) (by kernel_rfl) (by kernel_rfl) (fun _ _ _ h => h) (Or.inl ⟨by rfl, ?_⟩) (by assumption) ?_
      rotate_left
      · (intro w hSw; (try dsimp only at hSw); go_simp; try with_reducible rfl)
      try simp only [Act.put, List.setIfInBounds_toArray, List.set_cons_zero, List.set_cons_succ]
      refine wpAnyH_take (i := 8) (v := ?_) (by simp only [List.getElem?_toArray, List.getElem?_cons_succ, List.getElem?_cons_zero]; rfl) (by kernel_rfl) (by kernel_rfl) (by kernel_rfl) (fun _ _ _ h => h) (Or.inl ⟨by rfl, ?_⟩) (by assumption) ?_
      rotate_left
      · (intro w hSw; (try dsimp only at hSw); go_simp; try with_reducible rfl)
      try simp only [Act.put, List.setIfInBounds_toArray, List.set_cons_zero, List.set_cons_succ]
      refine wpAnyH_take (i := 9) (v := ?_) (by simp only [List.getElem?_toArray, List.getElem?_cons_succ, List.getElem?_cons_zero]; rfl) (by kernel_rfl) (by kernel_rfl) (by kernel_rfl) (fun _ _ _ h => h) (Or.inl ⟨by rfl, ?_⟩) (by assumption) ?_
      rotate_left
      · (intro w hSw; (try dsimp only at hSw); go_simp; try with_reducible rfl)
      try simp only [Act.put, List.setIfInBounds_toArray, List.set_cons_zero, List.set_cons_succ]
      refine wpAnyH_take (i := 10) (v := ?_) (by simp only [List.getElem?_toArray, List.getElem?_cons_succ, List.getElem?_cons_zero]; rfl) (by kernel_rfl) (by kernel_rfl) (by kernel_rfl) (fun _ _ _ h => h) (Or.inl ⟨by rfl, ?_⟩) (by assumption) ?_
      rotate_left
      · (intro w hSw; (try dsimp only at hSw); go_simp; try with_reducible rfl)
      try simp only [Act.put, List.setIfInBounds_toArray, List.set_cons_zero, List.set_cons_succ]
      refine wpAnyH_ready (rs := [11]) (by kernel_rfl) (by simp) ?_
      refine AllReadyH.cons (by simp only [List.getElem?_toArray, List.getElem?_cons_succ, List.getElem?_cons_zero]; rfl) (fun K hK => ?_) AllReadyH.nil
      go_simp
      go_at_call 13
      refine (copied_any A ms na mc _ ((dA.out.below HB6.out).below (Below.drew (Below.refl _ _))) (by have := OK.out.2.1; have := HNA.out; omega)).mono ?_
      rintro e v7 ⟨z2, q2, rfl, t2, -, k7⟩
      have k8 : Below wr.heap.size wr v7 := (Below.drew (Below.refl _ _)).trans k7
      have I7 := Lib.hid (I.out.below k8)
      have B7 := Lib.hid (bstep HB6.out k8)
      have T2 := Lib.hid t2
      have y4 := Dots.keepC y2 k8
      have y5 := Dots.keepC y3 k8
      clear k7 k8 t2
      go_wp2_with fail
      refine hK.out _ _ (⟨y4, y5⟩) (fun hHeld => ?_)
      clear hK K
      try simp only [Act.put, List.setIfInBounds_toArray, List.set_cons_zero, List.set_cons_succ]
      refine wpAnyH_ready (rs := [12]) (by kernel_rfl) (by simp) ?_
      refine AllReadyH.cons (by simp only [List.getElem?_toArray, List.getElem?_cons_succ, List.getElem?_cons_zero]; rfl) (fun K hK => ?_) AllReadyH.nil
      go_simp
      go_at_call 12
      refine (learn_any pe A z2 q2 _ pb g T V [] I7.out T2.out OK.out.1 (by have := OK.out.2.2; omega) (by have := OK.out.2.1; omega) (by have := ((HV.out.val T) pe).2.2; omega)).mono ?_
      rintro e v8 ⟨r, V', rfl, hL, i8, k8⟩
      have I8 := Lib.hid i8
      have HL := Lib.hid hL
      have SV := Lib.hid k8
      have y6 := (k8.cell (p := ⟨b, o + k * 8 + 2, none⟩) (World.block_lt_of_cell? _ _ y4) hpb hpg).trans y4
      have y7 := (k8.cell (p := ⟨b, o + k * 8 + 3, none⟩) (World.block_lt_of_cell? _ _ y5) hpb hpg).trans y5
      clear i8 hL k8
      go_wp2_with fail
      refine hK.out _ _ (⟨y6, y7⟩) (fun hHeld => ?_)
      clear hK K
      try simp only [Act.put, List.setIfInBounds_toArray, List.set_cons_zero, List.set_cons_succ]
      refine wpAnyH_done (by kernel_rfl) ?_ _
      refine NoPanic.normal ?_
      clear hHeld y2 y3 y4 y5 y6 y7 hb
      have hb := stepS B7.out SV.out HG.out (Nat.le_refl _)
      have HV' := Lib.hid (learnt_ok HL.out HV.out OK.out.1 OK.out.2.1)
      go_wp2_with fail
      go_roundw
      case rel => exact ⟨k + 1, V', by have := HK.out; omega, by go_num, I8, Lib.hid (by have := HV'.out; rw [show 30 * (k + 1) = 30 * k + 30 by omega]; exact this), hb⟩
      case measure => have := HK.out; simp [intOf]; omega
    · obtain rfl : n1 = k := by omega
      have d1 : decide ((n1 : Int) < (n1 : Int)) = false := decide_eq_false (by omega)
      replace HV := Lib.hid (HV.out.mono (show 30 * n1 ≤ 6000 by omega))
      have HVL : Hid (∀ q, (val T V q).length ≤ 6000) := Lib.hid (fun q => ((HV.out.val T) q).2.2)
      clear hlt hk
      go_wp2_with fail
      refine (copied_any a2 s2 n2 c2 _ (l2.out.below hb) (by omega)).mono ?_
      rintro e v6 ⟨z1, q1, rfl, t1, -, k6⟩
      replace I := Lib.hid (I.out.below k6)
      replace hb := bstep hb k6
      have T1 := Lib.hid t1
      clear k6 t1
      go_wp2_with fail
      refine (lacks_any a2 z1 q1 _ pb g T V [] I.out T1.out OK2.out (by have := LA.out; omega) MY.out (fun q hq => by have := HTS.out q hq; omega) (fun q => by have := HVL.out q; omega)).mono ?_
      rintro e v7 ⟨v, R, rfl, hR, oR, k7⟩
      have HR := Lib.hid hR
      obtain ⟨ar, cr, rfl, -, -, lr, har, -⟩ := oR.lies'
      obtain ⟨nR, hnR⟩ : ∃ n, n = R.length := ⟨_, rfl⟩
      rw [← hnR] at lr ⊢
      have HNR := Lib.hid hnR
      have hn30 : nR ≤ 30 := by have h1 := lack_len hR; have h2 := HTL.out; omega
      have HAR : Hid (∀ x, ar = some x → x.block ≠ pb ∧ x.block ≠ g) := Lib.hid (fun x e => by have := har x e; have := I.out.lt; omega)
      have LR := Lib.hid lr
      replace I := Lib.hid (I.out.below k7)
      replace hb := bstep hb k7
      clear hR oR lr har hnR k7 T1
      go_wp2_with fail
      go_loopw [10] (fun iv wr => ∃ (j : Nat) (W : List UInt8 → List M), j ≤ nR ∧ iv = .int .i64 j ∧ Hid (Is wr pb g T W []) ∧ Hid (LackInv V a2 R j W) ∧ Hid (Words.Lies wr ar nR R) ∧ Below w.heap.size w wr) (fun iv _ => nR - (intOf iv).toNat)
      case atStart => exact ⟨0, _, by omega, rfl, I, Lib.hid (LackInv.first HV.out), LR, hb⟩
      case round =>
        clear hb I LR
        obtain ⟨j, W, hj, rfl, I, HI, LR, hb⟩ := hrel
        by_cases hlt : j < nR
        · have hjR : j < R.length := by have := HNR.out; omega
          obtain ⟨b, o, rfl, hcell⟩ := Words.words_at LR.out (by omega)
          have hc := hcell j hjR
          obtain ⟨q, hq⟩ : ∃ x, x = R[j] := ⟨_, rfl⟩
          rw [← hq] at hc
          obtain ⟨hqT, hWq, hnc⟩ := HI.out.at I.out.up HR.out hjR hq
          have HQ := Lib.hid (And.intro hqT hnc)
          have HQL : Hid (q.length ≤ 8192) := Lib.hid (HTS.out q hqT)
          have HNX : Hid (∀ r W', Learnt T W q a2 r W' → (∀ x, ofL a2 x ≤ ofL (W' q) x) → (∀ x, x ≠ q → W' x = W x) → LackInv V a2 R (j + 1) W') := Lib.hid (fun r W' h1 h2 h3 => HI.out.next hjR hq h1 OK2.out LA.out h2 h3)
          have HWV : Hid (VOK W 6900) := Lib.hid (HI.out.2.2.mono (by omega))
          have HWL : Hid (∀ q, (val T W q).length ≤ 6900 ∧ Ok (val T W q)) := Lib.hid (fun q => ⟨((HWV.out.val T) q).2.2, ((HWV.out.val T) q).2.1⟩)
          have hpb : b ≠ pb := (HAR.out _ rfl).1
          have hpg : b ≠ g := (HAR.out _ rfl).2
          have d1 : decide ((j : Int) < (nR : Int)) = true := decide_eq_true (by omega)
          have j1 : (0 : Int) ≤ (j : Int) := by omega
          have j2 : (j : Int) < (nR : Int) := by omega
          have HK := Lib.hid hlt
          have HB6 := Lib.hid hb
          clear hcell hq hqT hWq hnc hjR hlt hj
          go_wp2_with fail
          refine wp_region_noPanic ?_
          refine wp_region_held_drew (S := (fun w' => w'.cell? ⟨b, o + j, none⟩ = some (.string ⟨q.toArray⟩))) (by kernel_rfl) (hc) (fun hHeld => ?_)
          refine wpAnyH_take (i := 0) (v := ?_) (by simp only [List.getElem?_toArray, List.getElem?_cons_zero]; rfl) (by kernel_rfl) (by kernel_rfl) (by kernel_rfl) (fun _ _ _ h => h) (Or.inl ⟨by rfl, ?_⟩) (by assumption) ?_
          rotate_left
          · (intro w hSw; (try dsimp only at hSw); go_simp; try with_reducible rfl)
          try simp only [Act.put, List.setIfInBounds_toArray, List.set_cons_zero, List.set_cons_succ]
          refine wpAnyH_take (i := 1) (v := ?_) (by simp only [List.getElem?_toArray, List.getElem?_cons_succ, List.getElem?_cons_zero]; rfl) (by kernel_rfl) (by kernel_rfl) (by kernel_rfl) (fun _ _ _ h => h) (Or.inl ⟨by rfl, ?_⟩) (by assumption) ?_
          rotate_left
          · (intro w hSw; (try dsimp only at hSw); go_simp; try with_reducible rfl)
          try simp only [Act.put, List.setIfInBounds_toArray, List.set_cons_zero, List.set_cons_succ]
          refine wpAnyH_take (i := 2) (v := ?_) (by simp only [List.getElem?_toArray, List.getElem?_cons_succ, List.getElem?_cons_zero]; rfl) (by kernel_rfl) (by kernel_rfl) (by kernel_rfl) (fun _ _ _ h => h) (Or.inl ⟨by rfl, ?_⟩) (by assumption) ?_
          rotate_left
          · (intro w hSw; (try dsimp only at hSw); go_simp; try with_reducible rfl)
          try simp only [Act.put, List.setIfInBounds_toArray, List.set_cons_zero, List.set_cons_succ]
          refine wpAnyH_take (i := 3) (v := ?_) (by simp only [List.getElem?_toArray, List.getElem?_cons_succ, List.getElem?_cons_zero]; rfl) (by kernel_rfl) (by kernel_rfl) (by kernel_rfl) (fun _ _ _ h => h) (Or.inl ⟨by rfl, ?_⟩) (by assumption) ?_
          rotate_left
          · (intro w hSw; (try dsimp only at hSw); go_simp; try with_reducible rfl)
          try simp only [Act.put, List.setIfInBounds_toArray, List.set_cons_zero, List.set_cons_succ]
          refine wpAnyH_take (i := 4) (v := ?_) (by simp only [List.getElem?_toArray, List.getElem?_cons_succ, List.getElem?_cons_zero]; rfl) (by kernel_rfl) (by kernel_rfl) (by kernel_rfl) (fun _ _ _ h => h) (Or.inl ⟨by rfl, ?_⟩) (by assumption) ?_
          rotate_left
          · (intro w hSw; (try dsimp only at hSw); go_simp; try with_reducible rfl)
          try simp only [Act.put, List.setIfInBounds_toArray, List.set_cons_zero, List.set_cons_succ]
          refine wpAnyH_take (i := 6) (v := ?_) (by simp only [List.getElem?_toArray, List.getElem?_cons_succ, List.getElem?_cons_zero]; rfl) (by kernel_rfl) (by kernel_rfl) (by kernel_rfl) (fun _ _ _ h => h) (Or.inl ⟨by rfl, ?_⟩) (by assumption) ?_
          rotate_left
          · (intro w hSw; (try dsimp only at hSw); go_simp; try with_reducible rfl)
          try simp only [Act.put, List.setIfInBounds_toArray, List.set_cons_zero, List.set_cons_succ]
          refine wpAnyH_ready (rs := [5]) (by kernel_rfl) (by simp) ?_
          refine AllReadyH.cons (by simp only [List.getElem?_toArray, List.getElem?_cons_succ, List.getElem?_cons_zero]; rfl) (fun K hK => ?_) AllReadyH.nil
          go_simp
          go_at_call 11
          refine (known_any q (by have := HQL.out; omega) _ pb g T W [] (I.out.below (Below.drew (Below.refl _ _))) (by have := (HWL.out q).1; omega)).mono ?_
          rintro e x1 ⟨z2, q2, rfl, t2, -, k7⟩
          have k8 : Below wr.heap.size wr x1 := (Below.drew (Below.refl _ _)).trans k7
          have I1 := Lib.hid (I.out.below k8)
          have B1 := Lib.hid (bstep HB6.out k8)
          have T2 := Lib.hid t2
          have c1 := Dots.keepC hc k8
          have LR1 := Lib.hid (LR.out.below k8)
          clear k7 k8 t2
          go_wp2_with fail
          refine hK.out _ _ (c1) (fun hHeld => ?_)
          clear hK K
          try simp only [Act.put, List.setIfInBounds_toArray, List.set_cons_zero, List.set_cons_succ]
          refine wpAnyH_ready (rs := [7]) (by kernel_rfl) (by simp) ?_
          refine AllReadyH.cons (by simp only [List.getElem?_toArray, List.getElem?_cons_succ, List.getElem?_cons_zero]; rfl) (fun K hK => ?_) AllReadyH.nil
          go_simp
          go_at_call 14
          refine (RefDots.covers_any (val T W q) a2 z2 s2 (val T W q).length n2 q2 c2 _ T2.out (l2.out.below B1.out) (by have := (HWL.out q).1; omega) (by omega) (HWL.out q).2 OK2.out).mono ?_
          rintro e x2 ⟨rc, rfl, hrc, k8⟩
          obtain rfl : rc = false := by
            cases rc
            · rfl
            · exact absurd (hrc.1 rfl) HQ.out.2
          have I2 := Lib.hid (I1.out.below k8)
          have B2 := Lib.hid (bstep B1.out k8)
          have c2x := Dots.keepC c1 k8
          have LR2 := Lib.hid (LR1.out.below k8)
          clear k8 hrc
          go_wp2_with fail
          refine hK.out _ _ (c2x) (fun hHeld => ?_)
          clear hK K
          try simp only [Act.put, List.setIfInBounds_toArray, List.set_cons_zero, List.set_cons_succ]
          refine wpAnyH_take (i := 8) (v := ?_) (by simp only [List.getElem?_toArray, List.getElem?_cons_succ, List.getElem?_cons_zero]; rfl) (by kernel_rfl) (by kernel_rfl) (by kernel_rfl) (fun _ _ _ h => h) (Or.inl ⟨by rfl, ?_⟩) (by assumption) ?_
          rotate_left
          · (intro w hSw; (try dsimp only at hSw); go_simp; try with_reducible rfl)
          try simp only [Act.put, List.setIfInBounds_toArray, List.set_cons_zero, List.set_cons_succ]
          refine wpAnyH_take (i := 9) (v := ?_) (by simp only [List.getElem?_toArray, List.getElem?_cons_succ, List.getElem?_cons_zero]; rfl) (by kernel_rfl) (by kernel_rfl) (by kernel_rfl) (fun _ _ _ h => h) (Or.inl ⟨by rfl, ?_⟩) (by assumption) ?_
          rotate_left
          · (intro w hSw; (try dsimp only at hSw); go_simp; try with_reducible rfl)
          try simp only [Act.put, List.setIfInBounds_toArray, List.set_cons_zero, List.set_cons_succ]
          refine wpAnyH_take (i := 10) (v := ?_) (by simp only [List.getElem?_toArray, List.getElem?_cons_succ, List.getElem?_cons_zero]; rfl) (by kernel_rfl) (by kernel_rfl) (by kernel_rfl) (fun _ _ _ h => h) (Or.inl ⟨by rfl, ?_⟩) (by assumption) ?_
          rotate_left
          · (intro w hSw; (try dsimp only at hSw); go_simp; try with_reducible rfl)
          try simp only [Act.put, List.setIfInBounds_toArray, List.set_cons_zero, List.set_cons_succ]
          refine wpAnyH_take (i := 11) (v := ?_) (by simp only [List.getElem?_toArray, List.getElem?_cons_succ, List.getElem?_cons_zero]; rfl) (by kernel_rfl) (by kernel_rfl) (by kernel_rfl) (fun _ _ _ h => h) (Or.inl ⟨by rfl, ?_⟩) (by assumption) ?_
          rotate_left
          · (intro w hSw; (try dsimp only at hSw); go_simp; try with_reducible rfl)
          try simp only [Act.put, List.setIfInBounds_toArray, List.set_cons_zero, List.set_cons_succ]
          refine wpAnyH_take (i := 12) (v := ?_) (by simp only [List.getElem?_toArray, List.getElem?_cons_succ, List.getElem?_cons_zero]; rfl) (by kernel_rfl) (by kernel_rfl) (by kernel_rfl) (fun _ _ _ h => h) (Or.inl ⟨by rfl, ?_⟩) (by assumption) ?_
          rotate_left
          · (intro w hSw; (try dsimp only at hSw); go_simp; try with_reducible rfl)
          try simp only [Act.put, List.setIfInBounds_toArray, List.set_cons_zero, List.set_cons_succ]
          refine wpAnyH_take (i := 13) (v := ?_) (by simp only [List.getElem?_toArray, List.getElem?_cons_succ, List.getElem?_cons_zero]; rfl) (by kernel_rfl) (by kernel_rfl) (by kernel_rfl) (fun _ _ _ h => h) (Or.inl ⟨by rfl, ?_⟩) (by assumption) ?_
          rotate_left
          · (intro w hSw; (try dsimp only at hSw); go_simp; try with_reducible rfl)
          try simp only [Act.put, List.setIfInBounds_toArray, List.set_cons_zero, List.set_cons_succ]
          refine wpAnyH_take (i := 14) (v := ?_) (by simp only [List.getElem?_toArray, List.getElem?_cons_succ, List.getElem?_cons_zero]; rfl) (by kernel_rfl) (by kernel_rfl) (by kernel_rfl) (fun _ _ _ h => h) (Or.inl ⟨by rfl, ?_⟩) (by assumption) ?_
          rotate_left
          · (intro w hSw; (try dsimp only at hSw); go_simp; try with_reducible rfl)
          try simp only [Act.put, List.setIfInBounds_toArray, List.set_cons_zero, List.set_cons_succ]
          refine wpAnyH_ready (rs := [15]) (by kernel_rfl) (by simp) ?_
          refine AllReadyH.cons (by simp only [List.getElem?_toArray, List.getElem?_cons_succ, List.getElem?_cons_zero]; rfl) (fun K hK => ?_) AllReadyH.nil
          go_simp
          go_at_call 13
          refine (copied_any a2 s2 n2 c2 _ (l2.out.below B2.out) (by omega)).mono ?_
          rintro e x3 ⟨z3, q3, rfl, t3, -, k8⟩
          have I3 := Lib.hid (I2.out.below k8)
          have B3 := Lib.hid (bstep B2.out k8)
          have T3 := Lib.hid t3
          have c3 := Dots.keepC c2x k8
          have LR3 := Lib.hid (LR2.out.below k8)
          clear k8 t3
          go_wp2_with fail
          refine hK.out _ _ (c3) (fun hHeld => ?_)
          clear hK K
          try simp only [Act.put, List.setIfInBounds_toArray, List.set_cons_zero, List.set_cons_succ]
          refine wpAnyH_ready (rs := [16]) (by kernel_rfl) (by simp) ?_
          refine AllReadyH.cons (by simp only [List.getElem?_toArray, List.getElem?_cons_succ, List.getElem?_cons_zero]; rfl) (fun K hK => ?_) AllReadyH.nil
          go_simp
          go_at_call 12
          refine (learn_any q a2 z3 q3 _ pb g T W [] I3.out T3.out OK2.out (by have := HQL.out; omega) (by have := LA.out; omega) (by have := (HWL.out q).1; omega)).mono ?_
          rintro e x4 ⟨r, W', rfl, hL, i8, k8⟩
          obtain ⟨rfl, hcv, hot⟩ := learn_first hL MY.out HQ.out.1 HQ.out.2
          have HNI := Lib.hid (HNX.out _ W' hL hcv hot)
          have HWV' := Lib.hid (learnt_ok hL HWV.out OK2.out LA.out)
          have HCV := Lib.hid hcv
          have I4 := Lib.hid i8
          have B4 := Lib.hid (stepS B3.out k8 HG.out (Nat.le_refl _))
          have c4 := (k8.cell (p := ⟨b, o + j, none⟩) (World.block_lt_of_cell? _ _ c3) hpb hpg).trans c3
          have LR4 := Lib.hid (Row.Lies.save LR3.out k8 HAR.out)
          clear hL i8 k8 hcv hot
          go_wp2_with fail
          refine hK.out _ _ (c4) (fun hHeld => ?_)
          clear hK K
          try simp only [Act.put, List.setIfInBounds_toArray, List.set_cons_zero, List.set_cons_succ]
          refine wpAnyH_take (i := 17) (v := ?_) (by simp only [List.getElem?_toArray, List.getElem?_cons_succ, List.getElem?_cons_zero]; rfl) (by kernel_rfl) (by kernel_rfl) (by kernel_rfl) (fun _ _ _ h => h) (Or.inl ⟨by rfl, ?_⟩) (by assumption) ?_
          rotate_left
          · (intro w hSw; (try dsimp only at hSw); go_simp; try with_reducible rfl)
          try simp only [Act.put, List.setIfInBounds_toArray, List.set_cons_zero, List.set_cons_succ]
          refine wpAnyH_take (i := 18) (v := ?_) (by simp only [List.getElem?_toArray, List.getElem?_cons_succ, List.getElem?_cons_zero]; rfl) (by kernel_rfl) (by kernel_rfl) (by kernel_rfl) (fun _ _ _ h => h) (Or.inl ⟨by rfl, ?_⟩) (by assumption) ?_
          rotate_left
          · (intro w hSw; (try dsimp only at hSw); go_simp; try with_reducible rfl)
          try simp only [Act.put, List.setIfInBounds_toArray, List.set_cons_zero, List.set_cons_succ]
          refine wpAnyH_take (i := 19) (v := ?_) (by simp only [List.getElem?_toArray, List.getElem?_cons_succ, List.getElem?_cons_zero]; rfl) (by kernel_rfl) (by kernel_rfl) (by kernel_rfl) (fun _ _ _ h => h) (Or.inl ⟨by rfl, ?_⟩) (by assumption) ?_
          rotate_left
          · (intro w hSw; (try dsimp only at hSw); go_simp; try with_reducible rfl)
          try simp only [Act.put, List.setIfInBounds_toArray, List.set_cons_zero, List.set_cons_succ]
          refine wpAnyH_take (i := 20) (v := ?_) (by simp only [List.getElem?_toArray, List.getElem?_cons_succ, List.getElem?_cons_zero]; rfl) (by kernel_rfl) (by kernel_rfl) (by kernel_rfl) (fun _ _ _ h => h) (Or.inl ⟨by rfl, ?_⟩) (by assumption) ?_
          rotate_left
          · (intro w hSw; (try dsimp only at hSw); go_simp; try with_reducible rfl)
          try simp only [Act.put, List.setIfInBounds_toArray, List.set_cons_zero, List.set_cons_succ]
          refine wpAnyH_take (i := 21) (v := ?_) (by simp only [List.getElem?_toArray, List.getElem?_cons_succ, List.getElem?_cons_zero]; rfl) (by kernel_rfl) (by kernel_rfl) (by kernel_rfl) (fun _ _ _ h => h) (Or.inl ⟨by rfl, ?_⟩) (by assumption) ?_
          rotate_left
          · (intro w hSw; (try dsimp only at hSw); go_simp; try with_reducible rfl)
          try simp only [Act.put, List.setIfInBounds_toArray, List.set_cons_zero, List.set_cons_succ]
          refine wpAnyH_take (i := 22) (v := ?_) (by simp only [List.getElem?_toArray, List.getElem?_cons_succ, List.getElem?_cons_zero]; rfl) (by kernel_rfl) (by kernel_rfl) (by kernel_rfl) (fun _ _ _ h => h) (Or.inl ⟨by rfl, ?_⟩) (by assumption) ?_
          rotate_left
          · (intro w hSw; (try dsimp only at hSw); go_simp; try with_reducible rfl)
          try simp only [Act.put, List.setIfInBounds_toArray, List.set_cons_zero, List.set_cons_succ]
          refine wpAnyH_take (i := 23) (v := ?_) (by simp only [List.getElem?_toArray, List.getElem?_cons_succ, List.getElem?_cons_zero]; rfl) (by kernel_rfl) (by kernel_rfl) (by kernel_rfl) (fun _ _ _ h => h) (Or.inl ⟨by rfl, ?_⟩) (by assumption) ?_
          rotate_left
          · (intro w hSw; (try dsimp only at hSw); go_simp; try with_reducible rfl)
          try simp only [Act.put, List.setIfInBounds_toArray, List.set_cons_zero, List.set_cons_succ]
          refine wpAnyH_take (i := 24) (v := ?_) (by simp only [List.getElem?_toArray, List.getElem?_cons_succ, List.getElem?_cons_zero]; rfl) (by kernel_rfl) (by kernel_rfl) (by kernel_rfl) (fun _ _ _ h => h) (Or.inl ⟨by rfl, ?_⟩) (by assumption) ?_
          rotate_left
          · (intro w hSw; (try dsimp only at hSw); go_simp; try with_reducible rfl)
          try simp only [Act.put, List.setIfInBounds_toArray, List.set_cons_zero, List.set_cons_succ]
          refine wpAnyH_take (i := 25) (v := ?_) (by simp only [List.getElem?_toArray, List.getElem?_cons_succ, List.getElem?_cons_zero]; rfl) (by kernel_rfl) (by kernel_rfl) (by kernel_rfl) (fun _ _ _ h => h) (Or.inl ⟨by rfl, ?_⟩) (by assumption) ?_
          rotate_left
          · (intro w hSw; (try dsimp only at hSw); go_simp; try with_reducible rfl)
          try simp only [Act.put, List.setIfInBounds_toArray, List.set_cons_zero, List.set_cons_succ]
          refine wpAnyH_ready (rs := [26]) (by kernel_rfl) (by simp) ?_
          refine AllReadyH.cons (by simp only [List.getElem?_toArray, List.getElem?_cons_succ, List.getElem?_cons_zero]; rfl) (fun K hK => ?_) AllReadyH.nil
          go_simp
          go_at_call 13
          refine (copied_any a2 s2 n2 c2 _ (l2.out.below B4.out) (by omega)).mono ?_
          rintro e x5 ⟨z5, q5, rfl, t5, -, k8⟩
          have I5 := Lib.hid (I4.out.below k8)
          have B5 := Lib.hid (bstep B4.out k8)
          have T5 := Lib.hid t5
          have c5 := Dots.keepC c4 k8
          have LR5 := Lib.hid (LR4.out.below k8)
          clear k8 t5
          go_wp2_with fail
          refine hK.out _ _ (c5) (fun hHeld => ?_)
          clear hK K
          try simp only [Act.put, List.setIfInBounds_toArray, List.set_cons_zero, List.set_cons_succ]
          refine wpAnyH_ready (rs := [27]) (by kernel_rfl) (by simp) ?_
          refine AllReadyH.cons (by simp only [List.getElem?_toArray, List.getElem?_cons_succ, List.getElem?_cons_zero]; rfl) (fun K hK => ?_) AllReadyH.nil
          go_simp
          go_at_call 12
          refine (learn_any q a2 z5 q5 _ pb g T W' [] I5.out T5.out OK2.out (by have := HQL.out; omega) (by have := LA.out; omega) (by have := ((HWV'.out.val T) q).2.2; omega)).mono ?_
          rintro e x6 ⟨r, W2, rfl, hL, i8, k8⟩
          obtain ⟨rfl, hWW⟩ := learn_again hL HCV.out
          rw [hWW] at i8
          have I6 := Lib.hid i8
          have B6 := Lib.hid (stepS B5.out k8 HG.out (Nat.le_refl _))
          have c6 := (k8.cell (p := ⟨b, o + j, none⟩) (World.block_lt_of_cell? _ _ c5) hpb hpg).trans c5
          have LR6 := Lib.hid (Row.Lies.save LR5.out k8 HAR.out)
          clear hL hWW i8 k8
          go_wp2_with fail
          refine hK.out _ _ (c6) (fun hHeld => ?_)
          clear hK K
          try simp only [Act.put, List.setIfInBounds_toArray, List.set_cons_zero, List.set_cons_succ]
          refine wpAnyH_take (i := 28) (v := ?_) (by simp only [List.getElem?_toArray, List.getElem?_cons_succ, List.getElem?_cons_zero]; rfl) (by kernel_rfl) (by kernel_rfl) (by kernel_rfl) (fun _ _ _ h => h) (Or.inl ⟨by rfl, ?_⟩) (by assumption) ?_
          rotate_left
          · (intro w hSw; (try dsimp only at hSw); go_simp; try with_reducible rfl)
          try simp only [Act.put, List.setIfInBounds_toArray, List.set_cons_zero, List.set_cons_succ]
          refine wpAnyH_done (by kernel_rfl) ?_ _
          refine NoPanic.normal ?_
          clear hHeld hc c1 c2x c3 c4 c5 c6 hb
          have hb := B6.out
          go_wp2_with fail
          go_roundw
          case rel => exact ⟨j + 1, W', by have := HK.out; omega, by go_num, I6, HNI, LR6, hb⟩
          case measure => have := HK.out; simp [intOf]; omega
        · obtain rfl : nR = j := by omega
          have d1 : decide ((nR : Int) < (nR : Int)) = false := decide_eq_false (by omega)
          have HEN : Hid (∀ R2, LackIs T W a2 R2 → R2 = []) := Lib.hid (fun R2 h => LackInv.end HR.out (by have := HI.out; rw [HNR.out] at this; exact this) h)
          have HWL : Hid (∀ q, (val T W q).length ≤ 6900) := Lib.hid (fun q => by have h1 := HI.out.2.2.mono (show 6000 + 30 * nR ≤ 6900 by omega); exact ((h1.val T) q).2.2)
          clear hlt hj LR HI
          go_wp2_with fail
          refine (copied_any a2 s2 n2 c2 _ (l2.out.below hb) (by omega)).mono ?_
          rintro e v6 ⟨z1, q1, rfl, t1, -, k6⟩
          replace I := Lib.hid (I.out.below k6)
          replace hb := bstep hb k6
          have T1 := Lib.hid t1
          clear k6 t1
          go_wp2_with fail
          refine (lacks_any a2 z1 q1 _ pb g T W [] I.out T1.out OK2.out (by have := LA.out; omega) MY.out (fun q hq => by have := HTS.out q hq; omega) (fun q => by have := HWL.out q; omega)).mono ?_
          rintro e v7 ⟨v, R2, rfl, hR2, oR, k7⟩
          rw [HEN.out R2 hR2] at oR
          obtain ⟨ax, cx, rfl, -⟩ := oR.lies'
          replace I := Lib.hid (I.out.below k7)
          replace hb := bstep hb k7
          clear hR2 oR k7 T1 HEN HWL
          go_wp2_with fail
          refine (set_any [] none 0 _ pb g T W [] I.out (Row.Lies.nil _ _) (fun q hq => by cases hq) (by simp)).mono ?_
          rintro e v8 ⟨rfl, g2, i8, hg2, k8⟩
          rw [sortU_nil] at i8
          have HG2 : Hid (w.heap.size ≤ pb ∧ w.heap.size ≤ g2) := Lib.hid ⟨HG.out.1, Nat.le_trans hb.size hg2⟩
          replace hb := stepS hb k8 HG.out (Nat.le_refl _)
          replace I := Lib.hid i8
          clear i8 hg2 k8
          go_wp2_with fail
          refine (all_any _ pb g2 [] _ [] I.out).mono ?_
          rintro e v9 ⟨v, rfl, o9, k9⟩
          obtain ⟨ay, cy, rfl, -⟩ := o9.lies'
          replace I := Lib.hid (I.out.below k9)
          replace hb := bstep hb k9
          clear o9 k9
          go_wp2_with (at_builtin; refine Row.wpList_app Words.typ rfl _ _ rfl v9.heap.size _ [] rfl (Row.Own.nil _ _) s0 n0 c0 a0 rfl (l0.out.below hb) (by have := LM.out.1; have := HN.out; simp only [List.length_nil]; omega) (Nat.le_refl _) ?_; intro v14 w14 o14 _ k14)
          rw [List.nil_append] at o14
          obtain ⟨sd, cd, rfl, -, -, ld, -⟩ := Row.Own.lies o14
          replace hb := bstep hb k14
          replace I := Lib.hid (I.out.below k14)
          replace ld := Lib.hid ld
          clear o14 k14
          go_wp2_with fail
          refine (set_any a0 sd cd _ pb g2 [] _ [] I.out ld.out (fun q hq => by have := LM.out.2 q hq; omega) (by have := LM.out.1; omega)).mono ?_
          rintro e v15 ⟨rfl, g3, i15, hg3, k15⟩
          rw [← HT.out, val_none] at i15
          replace hb := stepS hb k15 HG2.out (Nat.le_refl _)
          replace I := Lib.hid i15
          clear i15 hg3 k15 ld
          go_wp2_with fail
          refine (all_any _ pb g3 T _ _ I.out).mono ?_
          rintro e v16 ⟨v, rfl, o16, k16⟩
          obtain ⟨al, cl, rfl, -, -, ll, -⟩ := o16.lies'
          obtain ⟨n, hn⟩ : ∃ n, n = T.length := ⟨_, rfl⟩
          rw [← hn] at ll ⊢
          have HNT := Lib.hid hn
          have hnn : n ≤ 30 := by rw [hn]; exact HTL.out
          have LL := Lib.hid ll
          replace I := Lib.hid (I.out.below k16)
          replace hb := bstep hb k16
          clear o16 ll hn k16
          go_wp2_with fail
          go_loopw [12] (fun iv wq => ∃ i : Nat, i ≤ n ∧ iv = .int .i64 i ∧ Below v16.heap.size v16 wq) (fun iv _ => n - (intOf iv).toNat)
          case atStart => exact ⟨0, by omega, rfl, Below.refl _ _⟩
          case round =>
            obtain ⟨i, hi, rfl, k2⟩ := hrel
            by_cases hin : i < n
            · have d2 : decide ((i : Int) < (n : Int)) = true := decide_eq_true (by omega)
              have j1 : (0 : Int) ≤ (i : Int) := by omega
              have j2 : (i : Int) < (n : Int) := by omega
              have hiT : i < T.length := by rw [← HNT.out]; exact hin
              obtain ⟨bl, ol, rfl, hcell⟩ := Words.words_at LL.out (by omega)
              have hc := hcell i hiT
              obtain ⟨x, hx⟩ : ∃ x, x = T[i] := ⟨_, rfl⟩
              have HXL : Hid (x.length ≤ 8192) := Lib.hid (HTS.out x (by rw [hx]; exact List.getElem_mem hiT))
              rw [← hx] at hc
              have hc2 := Dots.keepC hc k2
              have I2 := Lib.hid (I.out.below k2)
              have HK2 := Lib.hid hin
              clear hc hcell hx hiT hin hi
              go_wp2_with fail
              refine (known_any x (by have := HXL.out; omega) _ pb g3 T _ [] I2.out (by rw [val_nil]; simp)).mono ?_
              rintro e v17 ⟨z3, q3, rfl, -, -, k9⟩
              rw [val_nil]
              have k3 := bstep k2 k9
              go_wp2_with fail
              go_roundw
              case rel => exact ⟨i + 1, by have := HK2.out; omega, by go_num, k3⟩
              case measure => have := HK2.out; simp [intOf]; omega
            · have d2 : decide ((i : Int) < (n : Int)) = false := decide_eq_false (by omega)
              replace hb := bstep hb k2
              clear hi k2
              go_wp2_with fail
              refine (works_any _).mono ?_
              rintro e v20 ⟨rfl, k20⟩
              replace hb := bstep hb k20
              go_wp2
              go_ret
              exact ⟨rfl, hb⟩
end PeersLack
end Go.Proofs.Ytcbnkncgacbniaa
