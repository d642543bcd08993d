/- TreeNodes: the walk. -/
import Derived.Test.YtjnlooccddnbkaaGreatDoorTmLaw
import Derived.Test.YtjnlooccddnbkaaGreatDoorTmStepIn
namespace Go.Proofs.YtjnlooccddnbkaaGreatDoor
namespace TreeNodes
open Go.RowKit Go.Proofs.YtjnlooccddnbkaaGreatDoor.Mark Go.Proofs.YtjnlooccddnbkaaGreatDoor.Dots Go.Proofs.YtjnlooccddnbkaaGreatDoor.Tree Go.Proofs.YtjnlooccddnbkaaGreatDoor.TreeLaw
/-- What two halves have seen. -/
theorem seen_two (l : List It) (i m : Nat) (A B J R : List M) (hA : IsVec A (ofL (Tree.seen l (2 * i * 2 ^ m) (2 ^ m)))) (hB : IsVec B (ofL (Tree.seen l ((2 * i + 1) * 2 ^ m) (2 ^ m)))) (hJ : IsVec J (fun q => max (ofL A q) (ofL B q)))
    (hR : IsVec R (ofL (Tree.seen l (i * 2 ^ (m + 1)) (2 ^ (m + 1))))) : R = J := by
  refine IsVec.uniq hR ⟨hJ.1, fun q => ?_⟩
  rw [hJ.2 q]
  show max (ofL A q) (ofL B q) = _
  rw [hA.2 q, hB.2 q, ← RefDots.ofL_append]
  have e1 : i * 2 ^ (m + 1) = 2 * i * 2 ^ m := by rw [Nat.pow_succ]; rw [Nat.mul_comm 2 i, Nat.mul_assoc, Nat.mul_comm 2 (2 ^ m)]
  have e2 : (2 * i + 1) * 2 ^ m = 2 * i * 2 ^ m + 2 ^ m := by rw [Nat.add_mul, Nat.one_mul]
  have e3 : 2 ^ (m + 1) = 2 ^ m + 2 ^ m := by rw [Nat.pow_succ]; omega
  rw [e1, e2, e3, seen_add]

set_option maxRecDepth 100000 in
set_option maxHeartbeats 8000000 in
theorem walk (a0 : List St) (s0 : Option Addr) (c0 : Nat) (w : World) (w0 : ∀ x ∈ a0, x.Sized ∧ x.Deep w) (l0 : TreeLaw.Steps w s0 a0.length a0) (_ : a0.length ≤ 140737488351232) (ht : Sha.Tabs w) :
    Calls Tryz.prog 6 #[.slice s0 a0.length c0] w fun e w' => e = .returned (.bool true) ∧ Below w.heap.size w w' := by
  have hb := Below.refl w.heap.size w
  have HT := Lib.hid ht
  clear ht
  have HH0 := Lib.hid (fun x (k : Below w.heap.size w x) => heavy_any a0 s0 c0 x (l0.below k) (fun y hy => (w0 y hy).2.below k) (fun y hy => (w0 y hy).1))
  obtain ⟨n0, hn0⟩ : ∃ n, n = a0.length := ⟨_, rfl⟩
  rw [← hn0] at l0 HH0 ⊢
  have HN0 := Lib.hid hn0
  have W0 := Lib.hid w0
  have L0 := Lib.hid l0
  clear w0 l0 hn0
  go_enter Tryz.func6, Tryz.ntmps6
  go_wp2_with fail
  refine (HH0.out _ hb).mono ?_
  rintro e vh0 ⟨r0, rfl, hr0, kh⟩
  replace hb := bstep hb kh
  have HR0 := Lib.hid hr0
  clear kh hr0 HH0
  cases r0
  rotate_left
  · skip
    go_wp2_with fail
    refine (works_any _ (HT.out.below hb)).mono ?_
    rintro e vw ⟨rfl, kw⟩
    replace hb := bstep hb kw
    go_wp2
    go_ret
    exact ⟨rfl, hb⟩
  have LT0 := Lib.hid (HR0.out rfl)
  clear HR0
  go_wp2_with fail
  refine (new_on hb).mono ?_
  rintro e vn ⟨tb, mb, rfl, i, htb, hmb, kn⟩
  have I := Lib.hid i
  have HB : Hid (w.heap.size ≤ tb ∧ w.heap.size ≤ mb) := Lib.hid ⟨Nat.le_trans hb.size htb, Nat.le_trans hb.size hmb⟩
  replace hb := bstep hb kn
  clear i htb hmb kn
  go_wp2_with fail
  go_loopw [4] (fun iv wr => ∃ k : Nat, k ≤ n0 ∧ iv = .int .i64 k ∧ ∃ l, Hid (On w wr tb mb k l)) (fun iv _ => n0 - (intOf iv).toNat)
  case atStart => exact ⟨0, by omega, rfl, _, I⟩
  case round =>
    clear hb I
    obtain ⟨k, hk, rfl, l, I⟩ := hrel
    have hn60 : n0 ≤ 60 := by have := LT0.out.1; have := HN0.out; omega
    by_cases hlt : k < n0
    · skip
      have hll : k < a0.length := by have := HN0.out; omega
      obtain ⟨b, o, rfl, hcell⟩ := steps_at L0.out (by omega)
      obtain ⟨x0, x1, x2, x3⟩ := hcell k hll
      have hmem := List.getElem_mem hll
      have hdk := (W0.out _ hmem).2
      have hok := step_ok (LT0.out.2 _ hmem) (W0.out _ hmem).1
      have hbl := World.block_lt_of_cell? _ _ x0
      obtain ⟨x, hx⟩ : ∃ x, x = a0[k] := ⟨_, rfl⟩
      rw [← hx] at x0 x1 x2 x3 hdk hok
      clear hx hmem hcell
      obtain ⟨d, key, bs, ms, mc, A⟩ := x
      unfold St.Deep at hdk
      simp only at x0 x1 x2 x3 hdk hok
      have dA := Lib.hid (hdk.below I.out.hb)
      have OK := Lib.hid hok
      have HK := Lib.hid hlt
      have HBL : Hid (b < w.heap.size) := Lib.hid hbl
      obtain ⟨na, hna⟩ : ∃ n, n = A.length := ⟨_, rfl⟩
      rw [← hna] at x3 dA
      have HNA := Lib.hid hna
      have y0 := Dots.keepC x0 I.out.hb
      have y1 := Dots.keepC x1 I.out.hb
      have y2 := Dots.keepC x2 I.out.hb
      have y3 := Dots.keepC x3 I.out.hb
      have d1 : decide ((k : Int) < (n0 : Int)) = true := decide_eq_true (by omega)
      have j1 : (0 : Int) ≤ (k : Int) := by omega
      have j2 : (k : Int) < (n0 : Int) := by omega
      clear hok hlt x0 x1 x2 x3 hbl hna hdk hll
      by_cases hd : d = 1
      · have e1 : (d == 1) = true := by rw [hd]; rfl
        clear hd
        go_wp2_with fail
        refine (drop_on I.out key (by have := OK.out.2.1; omega)).mono ?_
        rintro e v5 ⟨rfl, i5, -⟩
        have hi := Lib.hid (i5.more (Nat.le_succ k))
        clear i5
        go_wp2
        go_roundw
        case rel => exact ⟨k + 1, by have := HK.out; omega, by go_num, _, hi⟩
        case measure => have := HK.out; simp [intOf]; omega
      · have e1 : (d == 1) = false := by simp [hd]
        clear hd
        go_wp2_with fail
        refine wp_region_noPanic ?_
        refine wp_region_held_drew (S := (fun w' => w'.cell? ⟨b, o + k * 4 + 1, none⟩ = some (.string ⟨key.toArray⟩) ∧ w'.cell? ⟨b, o + k * 4 + 2, none⟩ = some (.string ⟨bs.toArray⟩) ∧ w'.cell? ⟨b, o + k * 4 + 3, none⟩ = some (.slice ms na mc))) (by kernel_rfl) (⟨y1, y2, y3⟩) (fun hHeld => ?_)
        refine wpAnyH_take (i := 0) (v := ?_) (by simp only [List.getElem?_toArray, List.getElem?_cons_zero]; rfl) (by kernel_rfl) (by kernel_rfl) (by kernel_rfl) (fun _ _ _ h => h) (Or.inl ⟨by rfl, ?_⟩) (by assumption) ?_
        rotate_left
        · (intro w hSw; (try dsimp only at hSw); go_simp; try with_reducible rfl)
        try simp only [Act.put, List.setIfInBounds_toArray, List.set_cons_zero, List.set_cons_succ]
        refine wpAnyH_take (i := 1) (v := ?_) (by simp only [List.getElem?_toArray, List.getElem?_cons_succ, List.getElem?_cons_zero]; rfl) (by kernel_rfl) (by kernel_rfl) (by kernel_rfl) (fun _ _ _ h => h) (Or.inl ⟨by rfl, ?_⟩) (by assumption) ?_
        rotate_left
        · (intro w hSw; (try dsimp only at hSw); go_simp; try with_reducible rfl)
        try simp only [Act.put, List.setIfInBounds_toArray, List.set_cons_zero, List.set_cons_succ]
        refine wpAnyH_take (i := 2) (v := ?_) (by simp only [List.getElem?_toArray, List.getElem?_cons_succ, List.getElem?_cons_zero]; rfl) (by kernel_rfl) (by kernel_rfl) (by kernel_rfl) (fun _ _ _ h => h) (Or.inl ⟨by rfl, ?_⟩) (by assumption) ?_
        rotate_left
        · (intro w hSw; (try dsimp only at hSw); go_simp; try with_reducible rfl)
        try simp only [Act.put, List.setIfInBounds_toArray, List.set_cons_zero, List.set_cons_succ]
        refine wpAnyH_take (i := 3) (v := ?_) (by simp only [List.getElem?_toArray, List.getElem?_cons_succ, List.getElem?_cons_zero]; rfl) (by kernel_rfl) (by kernel_rfl) (by kernel_rfl) (fun _ _ _ h => h) (Or.inl ⟨by rfl, ?_⟩) (by assumption) ?_
        rotate_left
        · (intro w hSw; (try dsimp only at hSw); go_simp; try with_reducible rfl)
        try simp only [Act.put, List.setIfInBounds_toArray, List.set_cons_zero, List.set_cons_succ]
        refine wpAnyH_take (i := 4) (v := ?_) (by simp only [List.getElem?_toArray, List.getElem?_cons_succ, List.getElem?_cons_zero]; rfl) (by kernel_rfl) (by kernel_rfl) (by kernel_rfl) (fun _ _ _ h => h) (Or.inl ⟨by rfl, ?_⟩) (by assumption) ?_
        rotate_left
        · (intro w hSw; (try dsimp only at hSw); go_simp; try with_reducible rfl)
        try simp only [Act.put, List.setIfInBounds_toArray, List.set_cons_zero, List.set_cons_succ]
        refine wpAnyH_take (i := 5) (v := ?_) (by simp only [List.getElem?_toArray, List.getElem?_cons_succ, List.getElem?_cons_zero]; rfl) (by kernel_rfl) (by kernel_rfl) (by kernel_rfl) (fun _ _ _ h => h) (Or.inl ⟨by rfl, ?_⟩) (by assumption) ?_
        rotate_left
        · (intro w hSw; (try dsimp only at hSw); go_simp; try with_reducible rfl)
        try simp only [Act.put, List.setIfInBounds_toArray, List.set_cons_zero, List.set_cons_succ]
        refine wpAnyH_take (i := 6) (v := ?_) (by simp only [List.getElem?_toArray, List.getElem?_cons_succ, List.getElem?_cons_zero]; rfl) (by kernel_rfl) (by kernel_rfl) (by kernel_rfl) (fun _ _ _ h => h) (Or.inl ⟨by rfl, ?_⟩) (by assumption) ?_
        rotate_left
        · (intro w hSw; (try dsimp only at hSw); go_simp; try with_reducible rfl)
        try simp only [Act.put, List.setIfInBounds_toArray, List.set_cons_zero, List.set_cons_succ]
        refine wpAnyH_take (i := 7) (v := ?_) (by simp only [List.getElem?_toArray, List.getElem?_cons_succ, List.getElem?_cons_zero]; rfl) (by kernel_rfl) (by kernel_rfl) (by kernel_rfl) (fun _ _ _ h => h) (Or.inl ⟨by rfl, ?_⟩) (by assumption) ?_
        rotate_left
        · (intro w hSw; (try dsimp only at hSw); go_simp; try with_reducible rfl)
        try simp only [Act.put, List.setIfInBounds_toArray, List.set_cons_zero, List.set_cons_succ]
        refine wpAnyH_take (i := 8) (v := ?_) (by simp only [List.getElem?_toArray, List.getElem?_cons_succ, List.getElem?_cons_zero]; rfl) (by kernel_rfl) (by kernel_rfl) (by kernel_rfl) (fun _ _ _ h => h) (Or.inl ⟨by rfl, ?_⟩) (by assumption) ?_
        rotate_left
        · (intro w hSw; (try dsimp only at hSw); go_simp; try with_reducible rfl)
        try simp only [Act.put, List.setIfInBounds_toArray, List.set_cons_zero, List.set_cons_succ]
        refine wpAnyH_take (i := 9) (v := ?_) (by simp only [List.getElem?_toArray, List.getElem?_cons_succ, List.getElem?_cons_zero]; rfl) (by kernel_rfl) (by kernel_rfl) (by kernel_rfl) (fun _ _ _ h => h) (Or.inl ⟨by rfl, ?_⟩) (by assumption) ?_
        rotate_left
        · (intro w hSw; (try dsimp only at hSw); go_simp; try with_reducible rfl)
        try simp only [Act.put, List.setIfInBounds_toArray, List.set_cons_zero, List.set_cons_succ]
        refine wpAnyH_take (i := 10) (v := ?_) (by simp only [List.getElem?_toArray, List.getElem?_cons_succ, List.getElem?_cons_zero]; rfl) (by kernel_rfl) (by kernel_rfl) (by kernel_rfl) (fun _ _ _ h => h) (Or.inl ⟨by rfl, ?_⟩) (by assumption) ?_
        rotate_left
        · (intro w hSw; (try dsimp only at hSw); go_simp; try with_reducible rfl)
        try simp only [Act.put, List.setIfInBounds_toArray, List.set_cons_zero, List.set_cons_succ]
        refine wpAnyH_take (i := 11) (v := ?_) (by simp only [List.getElem?_toArray, List.getElem?_cons_succ, List.getElem?_cons_zero]; rfl) (by kernel_rfl) (by kernel_rfl) (by kernel_rfl) (fun _ _ _ h => h) (Or.inl ⟨by rfl, ?_⟩) (by assumption) ?_
        rotate_left
        · (intro w hSw; (try dsimp only at hSw); go_simp; try with_reducible rfl)
        try simp only [Act.put, List.setIfInBounds_toArray, List.set_cons_zero, List.set_cons_succ]
        refine wpAnyH_take (i := 12) (v := ?_) (by simp only [List.getElem?_toArray, List.getElem?_cons_succ, List.getElem?_cons_zero]; rfl) (by kernel_rfl) (by kernel_rfl) (by kernel_rfl) (fun _ _ _ h => h) (Or.inl ⟨by rfl, ?_⟩) (by assumption) ?_
        rotate_left
        · (intro w hSw; (try dsimp only at hSw); go_simp; try with_reducible rfl)
        try simp only [Act.put, List.setIfInBounds_toArray, List.set_cons_zero, List.set_cons_succ]
        refine wpAnyH_take (i := 13) (v := ?_) (by simp only [List.getElem?_toArray, List.getElem?_cons_succ, List.getElem?_cons_zero]; rfl) (by kernel_rfl) (by kernel_rfl) (by kernel_rfl) (fun _ _ _ h => h) (Or.inl ⟨by rfl, ?_⟩) (by assumption) ?_
        rotate_left
        · (intro w hSw; (try dsimp only at hSw); go_simp; try with_reducible rfl)
        try simp only [Act.put, List.setIfInBounds_toArray, List.set_cons_zero, List.set_cons_succ]
        refine wpAnyH_take (i := 14) (v := ?_) (by simp only [List.getElem?_toArray, List.getElem?_cons_succ, List.getElem?_cons_zero]; rfl) (by kernel_rfl) (by kernel_rfl) (by kernel_rfl) (fun _ _ _ h => h) (Or.inl ⟨by rfl, ?_⟩) (by assumption) ?_
        rotate_left
        · (intro w hSw; (try dsimp only at hSw); go_simp; try with_reducible rfl)
        try simp only [Act.put, List.setIfInBounds_toArray, List.set_cons_zero, List.set_cons_succ]
        refine wpAnyH_take (i := 15) (v := ?_) (by simp only [List.getElem?_toArray, List.getElem?_cons_succ, List.getElem?_cons_zero]; rfl) (by kernel_rfl) (by kernel_rfl) (by kernel_rfl) (fun _ _ _ h => h) (Or.inl ⟨by rfl, ?_⟩) (by assumption) ?_
        rotate_left
        · (intro w hSw; (try dsimp only at hSw); go_simp; try with_reducible rfl)
        try simp only [Act.put, List.setIfInBounds_toArray, List.set_cons_zero, List.set_cons_succ]
        refine wpAnyH_ready (rs := [16]) (by kernel_rfl) (by simp) ?_
        refine AllReadyH.cons (by simp only [List.getElem?_toArray, List.getElem?_cons_succ, List.getElem?_cons_zero]; rfl) (fun K hK => ?_) AllReadyH.nil
        go_simp
        go_at_call 14
        refine (copied_any A ms na mc _ (dA.out.below (Below.drew (Below.refl _ _))) (by have := OK.out.1.2; have := HNA.out; omega)).mono ?_
        rintro e v7 ⟨z2, q2, rfl, t2, -, k7⟩
        have k8 : Below wr.heap.size wr v7 := (Below.drew (Below.refl _ _)).trans k7
        have I7 := Lib.hid (I.out.below k8)
        have T2 := Lib.hid t2
        have y4 := Dots.keepC y1 k8
        have y5 := Dots.keepC y2 k8
        have y6 := Dots.keepC y3 k8
        clear k7 k8 t2
        go_wp2_with fail
        refine hK.out _ _ (⟨y4, y5, y6⟩) (fun hHeld => ?_)
        clear hK K
        try simp only [Act.put, List.setIfInBounds_toArray, List.set_cons_zero, List.set_cons_succ]
        refine wpAnyH_ready (rs := [17]) (by kernel_rfl) (by simp) ?_
        refine AllReadyH.cons (by simp only [List.getElem?_toArray, List.getElem?_cons_succ, List.getElem?_cons_zero]; rfl) (fun K hK => ?_) AllReadyH.nil
        go_simp
        go_at_call 13
        refine (put_on I7.out key bs A z2 q2 T2.out OK.out.1.1 (by have := OK.out.2.1; omega) (by have := OK.out.2.2; omega) (by have := OK.out.1.2; omega) (by omega)).mono ?_
        rintro e v8 ⟨rfl, i8, k8⟩
        have I8 := Lib.hid i8
        have hbm : b < v7.heap.size ∧ b ≠ mb := by have := HBL.out; have := I7.out.lo; have := I7.out.hb.size; omega
        have y7 := (k8.cell (p := ⟨b, o + k * 4 + 1, none⟩) hbm.1 hbm.2).trans y4
        have y8 := (k8.cell (p := ⟨b, o + k * 4 + 2, none⟩) hbm.1 hbm.2).trans y5
        have y9 := (k8.cell (p := ⟨b, o + k * 4 + 3, none⟩) hbm.1 hbm.2).trans y6
        clear i8 k8
        go_wp2_with fail
        refine hK.out _ _ (⟨y7, y8, y9⟩) (fun hHeld => ?_)
        clear hK K
        try simp only [Act.put, List.setIfInBounds_toArray, List.set_cons_zero, List.set_cons_succ]
        refine wpAnyH_done (by kernel_rfl) ?_ _
        refine NoPanic.normal ?_
        clear hHeld y1 y2 y3 y4 y5 y6 y7 y8 y9 hbm
        go_wp2
        go_roundw
        case rel => exact ⟨k + 1, by have := HK.out; omega, by go_num, _, I8⟩
        case measure => have := HK.out; simp [intOf]; omega
    have d1 : decide ((k : Int) < (n0 : Int)) = false := decide_eq_false (by omega)
    skip
    clear hk
    go_wp2_with fail
    go_loopw [5] (fun iv wr => ∃ d : Nat, d ≤ 4 ∧ iv = .int .i64 d ∧ Hid (On w wr tb mb k l)) (fun iv _ => 4 - (intOf iv).toNat)
    case atStart => exact ⟨0, by omega, rfl, I⟩
    case round =>
      clear I
      obtain ⟨d, hd, rfl, I⟩ := hrel
      by_cases hd4 : d < 4
      rotate_left
      · obtain rfl : d = 4 := by omega
        go_wp2_with fail
        refine (works_any _ (HT.out.below I.out.hb)).mono ?_
        rintro e v9 ⟨rfl, k9⟩
        have hb := bstep I.out.hb k9
        go_wp2
        go_ret
        exact ⟨rfl, hb⟩
      have e1 : decide ((d : Int) < 4) = true := decide_eq_true (by omega)
      have HD := Lib.hid hd4
      obtain ⟨dd, hdd⟩ : ∃ x, x = 2 ^ d := ⟨_, rfl⟩
      have hdd8 : dd ≤ 8 := by rw [hdd]; exact Nat.le_trans (Nat.pow_le_pow_right (by decide) (show d ≤ 3 by omega)) (by decide)
      have HDD := Lib.hid hdd
      have hu : IntKind.u64.wrap (d : Int) = (d : Int) := by simp only [IntKind.wrap_u64]; omega
      have hs1 : wrap64 (2 ^ min (IntKind.u64.wrap (d : Int)).toNat 64) = (dd : Int) := by rw [hu, Int.toNat_natCast, Nat.min_eq_left (by omega)]; exact shl_nat d dd hdd (by omega)
      clear hd hd4 hdd hu
      go_wp2_with fail
      go_loopw [6] (fun jv wr => ∃ i : Nat, i ≤ dd ∧ jv = .int .i64 i ∧ Hid (On w wr tb mb k l)) (fun jv _ => dd - (intOf jv).toNat)
      case atStart => exact ⟨0, by omega, rfl, I⟩
      case round =>
        clear I
        obtain ⟨i, hi, rfl, I⟩ := hrel
        by_cases hlt : i < dd
        rotate_left
        · obtain rfl : i = dd := by omega
          have e2 : decide ((i : Int) < (i : Int)) = false := decide_eq_false (by omega)
          go_wp2
          have hd5 := HD.out
          have hw : wrap64 ((d : Int) + 1) = ((d + 1 : Nat) : Int) := by unfold wrap64; omega
          go_roundw
          case rel => exact ⟨d + 1, by omega, by rw [hw], I⟩
          case measure => rw [hw]; simp only [intOf]; omega
        have e2 : decide ((i : Int) < (dd : Int)) = true := decide_eq_true (by omega)
        have w1 : IntKind.i64.wrap ((d : Int) + 1) = ((d + 1 : Nat) : Int) := by rw [IntKind.wrap_i64]; have := HD.out; omega
        have w2 : IntKind.i64.wrap (2 * (i : Int)) = ((2 * i : Nat) : Int) := by rw [IntKind.wrap_i64]; omega
        have w3 : IntKind.i64.wrap (((2 * i : Nat) : Int) + 1) = ((2 * i + 1 : Nat) : Int) := by rw [IntKind.wrap_i64]; omega
        obtain ⟨m, hm⟩ : ∃ m, d + 1 + m = 4 := ⟨3 - d, by have := HD.out; omega⟩
        have HM := Lib.hid hm
        have HI := Lib.hid hlt
        have N1 := Lib.hid (fun x (h : On w x tb mb k l) => node_on h HT.out (tabs_two HT.out) d i (m + 1) (by omega) (by rw [← HDD.out]; exact hlt))
        have N2 := Lib.hid (fun x (h : On w x tb mb k l) => node_on h HT.out (tabs_two HT.out) (d + 1) (2 * i) m hm (by rw [Nat.pow_succ, ← HDD.out]; omega))
        have N3 := Lib.hid (fun x (h : On w x tb mb k l) => node_on h HT.out (tabs_two HT.out) (d + 1) (2 * i + 1) m hm (by rw [Nat.pow_succ, ← HDD.out]; omega))
        obtain ⟨d1, hd1⟩ : ∃ x, x = dig l (m + 1) i := ⟨_, rfl⟩
        obtain ⟨d2, hd2⟩ : ∃ x, x = dig l m (2 * i) := ⟨_, rfl⟩
        obtain ⟨d3, hd3⟩ : ∃ x, x = dig l m (2 * i + 1) := ⟨_, rfl⟩
        have hl1 : d1.length = 32 := by rw [hd1]; exact dig_length _ _ _
        have hl2 : d2.length = 32 := by rw [hd2]; exact dig_length _ _ _
        have hl3 : d3.length = 32 := by rw [hd3]; exact dig_length _ _ _
        have HQ : Hid (d1 = Sha.of (1 :: (d2 ++ d3))) := Lib.hid (by rw [hd1, hd2, hd3]; rfl)
        have HL1 : Hid (d1.length = 32) := Lib.hid hl1
        rw [← hd1] at N1
        rw [← hd2] at N2
        rw [← hd3] at N3
        have PA := Lib.hid (fun x (h : On w x tb mb k l) => pair_any d2 d3 x (HT.out.below h.hb) (by omega) (by omega))
        rw [← HQ.out] at PA
        clear hd1 hd2 hd3 hl1 hl2 hl3 hm hlt
        go_wp2_with fail
        refine (N1.out _ I.out).mono ?_
        rintro e v1 ⟨x1, c1, R1, rfl, hv1, hn1, y1, k1⟩
        have I1 := Lib.hid (I.out.below k1)
        have V1 := Lib.hid hv1
        have Y1 := Lib.hid y1
        have Z1 := Lib.hid hn1
        clear I k1 hv1 y1 hn1 N1
        go_wp2_with fail
        refine (N2.out _ I1.out).mono ?_
        rintro e v2 ⟨x2, c2, R2, rfl, hv2, hn2, y2, k2⟩
        have I2 := Lib.hid (I1.out.below k2)
        have V2 := Lib.hid hv2
        have Y2 := Lib.hid y2
        have Z2 := Lib.hid hn2
        replace Y1 := Lib.hid (Y1.out.below k2)
        clear I1 k2 hv2 y2 hn2 N2
        go_wp2_with fail
        refine (N3.out _ I2.out).mono ?_
        rintro e v3 ⟨x3, c3, R3, rfl, hv3, hn3, y3, k3⟩
        have I3 := Lib.hid (I2.out.below k3)
        have V3 := Lib.hid hv3
        have Y3 := Lib.hid y3
        have Z3 := Lib.hid hn3
        replace Y1 := Lib.hid (Y1.out.below k3)
        replace Y2 := Lib.hid (Y2.out.below k3)
        clear I2 k3 hv3 y3 hn3 N3
        go_wp2_with fail
        refine (PA.out _ I3.out).mono ?_
        rintro e v4 ⟨rfl, k4⟩
        have I4 := Lib.hid (I3.out.below k4)
        replace Y1 := Lib.hid (Y1.out.below k4)
        replace Y2 := Lib.hid (Y2.out.below k4)
        replace Y3 := Lib.hid (Y3.out.below k4)
        have q1 : (d1 != d1) = false := by simp
        have q2 : ((d1.length : Int) != 32) = false := by rw [HL1.out]; rfl
        clear I3 k4
        go_wp2_with fail
        refine (join_any R2 R3 x2 x3 R2.length R3.length c2 c3 _ Y2.out Y3.out (by have := Z2.out; omega) (by have := Z3.out; omega)).mono ?_
        rintro e v5 ⟨v, J, rfl, hJ, hlJ, oJ, k5⟩
        obtain ⟨aJ, cJ, rfl, -, -, lJ, -⟩ := oJ.lies
        have EQ : Hid (R1 = J) := Lib.hid (seen_two l i m R2 R3 J R1 V2.out V3.out hJ V1.out)
        have I5 := Lib.hid (I4.out.below k5)
        replace Y1 := Lib.hid (Y1.out.below k5)
        have YJ := Lib.hid lJ
        have ZJ : Hid (J.length ≤ 1099511627776) := Lib.hid (by have := Z2.out; have := Z3.out; omega)
        clear I4 k5 lJ oJ hJ hlJ V1 V2 V3
        go_wp2_with fail
        refine (marks_any R1 J x1 aJ R1.length J.length c1 cJ _ Y1.out YJ.out (by have := Z1.out; omega) ZJ.out).mono ?_
        rintro e v6 ⟨rfl, k6⟩
        have e6 : decide (R1 = J) = true := decide_eq_true EQ.out
        have I6 := Lib.hid (I5.out.below k6)
        clear I5 k6
        rw [e6]
        go_wp2
        go_roundw
        case rel => exact ⟨i + 1, by have := HI.out; omega, by go_num, I6⟩
        case measure => have := HI.out; simp [intOf]; omega
end TreeNodes
end Go.Proofs.YtjnlooccddnbkaaGreatDoor
