/- Merged texts: BagSame, BagRefOf, BagLaid. -/
import Derived.Test.YtnlbgjghckbbcaaTmBagRef
namespace Go.Proofs.Ytnlbgjghckbbcaa
namespace RefBag
open Go.RowKit Go.Proofs.Ytnlbgjghckbbcaa.Mark Go.Proofs.Ytnlbgjghckbbcaa.Dots Go.Proofs.Ytnlbgjghckbbcaa.Bag
theorem It.ext' {a b : It} (h : a.t = b.t) (k : a.d = b.d) : a = b := by cases a; cases b; simp_all
instance : DecidableEq It := fun a b => if h : a.t = b.t ∧ a.d = b.d then .isTrue (It.ext' h.1 h.2) else .isFalse fun e => h (by rw [e]; exact ⟨rfl, rfl⟩)
theorem neq_dot (m k : M) (w : World) : (binOp .neq 31 (.agg #[.string ⟨m.p.toArray⟩, .int .u64 (m.n : Int)]) (.agg #[.string ⟨k.p.toArray⟩, .int .u64 (k.n : Int)])).run Try.prog w = .ok (.bool (!decide (m = k))) w := by
  rw [run_neq_struct]
  have h := RefDots.eql_of 31 (by kernel_rfl) (by kernel_rfl) m k w
  rw [RefDots.eqM_iff] at h
  unfold M.cells at h
  rw [h]; rfl
theorem ne_item {A B : List It} {i : Nat} (hi : i < A.length) (hj : i < B.length) (h : A[i] ≠ B[i]) : A ≠ B := fun e => by subst e; exact h rfl
theorem take_next {α : Type} {A B : List α} {i : Nat} (hi : i < A.length) (hj : i < B.length) (h : A.take i = B.take i) (k : A[i] = B[i]) : A.take (i + 1) = B.take (i + 1) := by
  rw [List.take_succ_eq_append_getElem hi, List.take_succ_eq_append_getElem hj, h, k]
set_option maxRecDepth 100000 in
set_option maxHeartbeats 2000000 in
theorem same_any (A B : List It) (a b : Option Addr) (n m ca cb : Nat) (w : World) (hA : Bag.Lies w a n A) (hB : Bag.Lies w b m B) (hn : n ≤ 1099511627776) (hd : ∀ x ∈ A, x.d.length ≤ 1099511627776) :
    Calls Try.prog 9 #[.slice a n ca, .slice b m cb] w fun e w' => e = .returned (.bool (decide (A = B))) ∧ Below w.heap.size w w' := by
  obtain ⟨J, rfl, hJ, hJD⟩ := hA
  obtain ⟨K, rfl, hK, hKD⟩ := hB
  have h0 := Below.refl w.heap.size w
  by_cases hnm : n = m
  rotate_left
  · have q1 : ((n : Int) != (m : Int)) = true := by rw [bne_iff_ne]; omega
    have q2 : ((n : Int) == (m : Int)) = false := by rw [beq_eq_false_iff_ne]; omega
    have q3 : (n == m) = false := by simpa using hnm
    have HE : Hid (decide (J.map RI.it = K.map RI.it) = false) := Lib.hid (decide_eq_false fun e => by
      have := congrArg List.length e
      rw [List.length_map, List.length_map, ← hJ.1, ← hK.1] at this
      exact hnm this)
    clear hJ hK hJD hKD hd hnm
    go_enter Try.func9, Try.ntmps9
    go_wp2
    go_ret
    exact ⟨by rw [HE.out]; rfl, h0⟩
  subst hnm
  have HJ := Lib.hid hJ
  have HK := Lib.hid hK
  have HJD := Lib.hid hJD
  have HKD := Lib.hid hKD
  have HDL := Lib.hid hd
  have HNN := Lib.hid hn
  have HT0 : Hid ((J.map RI.it).take 0 = (K.map RI.it).take 0) := Lib.hid rfl
  clear hJ hK hJD hKD hd
  go_enter Try.func9, Try.ntmps9
  go_wp2_with fail
  go_loopw [5] (fun iv wr => ∃ i : Nat, i ≤ n ∧ iv = .int .i64 i ∧ Hid ((J.map RI.it).take i = (K.map RI.it).take i) ∧ Below w.heap.size w wr) (fun iv _ => n - (intOf iv).toNat)
  case atStart => exact ⟨0, by omega, rfl, HT0, h0⟩
  case round =>
    clear HT0 h0
    obtain ⟨i, hi, rfl, HT, hb⟩ := hrel
    by_cases hlt : i < n
    rotate_left
    · obtain rfl : i = n := by omega
      have d1 : decide ((i : Int) < (i : Int)) = false := decide_eq_false (by omega)
      have HE : Hid (decide (J.map RI.it = K.map RI.it) = true) := Lib.hid (decide_eq_true (by
        have := HT.out
        rwa [List.take_of_length_le (by rw [List.length_map]; have := HJ.out.1; omega), List.take_of_length_le (by rw [List.length_map]; have := HK.out.1; omega)] at this))
      go_wp2
      go_ret
      exact ⟨by rw [HE.out]; rfl, hb⟩
    have d1 : decide ((i : Int) < (n : Int)) = true := decide_eq_true (by omega)
    have j1 : (0 : Int) ≤ (i : Int) := by omega
    have j2 : (i : Int) < (n : Int) := by omega
    have hil : i < J.length := by have := HJ.out.1; omega
    have hik : i < K.length := by have := HK.out.1; omega
    have hml : i < (J.map RI.it).length := by rw [List.length_map]; exact hil
    have hmk : i < (K.map RI.it).length := by rw [List.length_map]; exact hik
    obtain ⟨ab, ao, rfl, hc⟩ := items_at (HJ.out.below hb) (by omega)
    obtain ⟨bb, bo, rfl, hc'⟩ := items_at (HK.out.below hb) (by omega)
    obtain ⟨a0, a1⟩ := hc i hil
    obtain ⟨b0, b1⟩ := hc' i hik
    have HJX := Lib.hid (HJD.out _ (List.getElem_mem hil))
    have HKX := Lib.hid (HKD.out _ (List.getElem_mem hik))
    have HNE : Hid (∀ (_ : J[i].it ≠ K[i].it), decide (J.map RI.it = K.map RI.it) = false) := Lib.hid fun h => decide_eq_false (ne_item hml hmk (by rw [List.getElem_map, List.getElem_map]; exact h))
    have HEQ : Hid (∀ (_ : J[i].it = K[i].it), (J.map RI.it).take (i + 1) = (K.map RI.it).take (i + 1)) := Lib.hid fun h => take_next hml hmk HT.out (by rw [List.getElem_map, List.getElem_map]; exact h)
    have HXL : Hid (J[i].d.length ≤ 1099511627776) := Lib.hid (HDL.out J[i].it (List.mem_map.2 ⟨J[i], List.getElem_mem hil, rfl⟩))
    obtain ⟨x, hx⟩ : ∃ x, x = J[i] := ⟨_, rfl⟩
    obtain ⟨y, hy⟩ : ∃ y, y = K[i] := ⟨_, rfl⟩
    rw [← hx] at a0 a1 HJX HNE HEQ HXL
    rw [← hy] at b0 b1 HKX HNE HEQ
    obtain ⟨xt, xa, xc, xd⟩ := x
    obtain ⟨yt, ya, yc, yd⟩ := y
    simp only [RI.it] at a0 a1 b0 b1 HXL HNE HEQ
    unfold Inner at HJX HKX
    simp only at HJX HKX
    have HI := Lib.hid hlt
    obtain ⟨nd, hnd⟩ : ∃ k, k = xd.length := ⟨_, rfl⟩
    obtain ⟨ne, hne⟩ : ∃ k, k = yd.length := ⟨_, rfl⟩
    rw [← hnd] at a1 HXL HJX
    rw [← hne] at b1 HKX
    have HND := Lib.hid hnd
    have HNEL := Lib.hid hne
    clear hc hc' hil hik hml hmk hx hy hlt hnd hne HT
    go_wp2_with fail
    by_cases ht : xt = yt
    rotate_left
    · have q1 : (xt != yt) = true := by simpa using ht
      have q2 : (xt == yt) = false := by simpa using ht
      have HE := Lib.hid (HNE.out (fun e => ht (by simp only [It.mk.injEq] at e; exact e.1)))
      clear ht
      refine wp_region_noPanic ?_
      refine wp_region_held_drew (S := (fun w' => w'.cell? ⟨ab, ao + i * 2, none⟩ = some (.string ⟨xt.toArray⟩) ∧ w'.cell? ⟨ab, ao + i * 2 + 1, none⟩ = some (.slice xa nd xc) ∧ w'.cell? ⟨bb, bo + i * 2, none⟩ = some (.string ⟨yt.toArray⟩) ∧ w'.cell? ⟨bb, bo + i * 2 + 1, none⟩ = some (.slice ya ne yc))) (by kernel_rfl) (⟨Dots.keepC a0 (Below.drew (Below.refl _ _)), Dots.keepC a1 (Below.drew (Below.refl _ _)), Dots.keepC b0 (Below.drew (Below.refl _ _)), Dots.keepC b1 (Below.drew (Below.refl _ _))⟩) (fun hHeld => ?_)
      refine wpAnyH_take (i := 0) (v := ?_) (by simp only [List.getElem?_toArray, List.getElem?_cons_zero]; rfl) (by kernel_rfl) (by kernel_rfl) (by kernel_rfl) (fun _ _ _ h => h) (Or.inl ⟨by rfl, ?_⟩) (by assumption) ?_
      rotate_left
      · (intro w hSw; (try dsimp only at hSw); go_simp; try with_reducible rfl)
      try simp only [Act.put, List.setIfInBounds_toArray, List.set_cons_zero, List.set_cons_succ]
      refine wpAnyH_take (i := 1) (v := ?_) (by simp only [List.getElem?_toArray, List.getElem?_cons_succ, List.getElem?_cons_zero]; rfl) (by kernel_rfl) (by kernel_rfl) (by kernel_rfl) (fun _ _ _ h => h) (Or.inl ⟨by rfl, ?_⟩) (by assumption) ?_
      rotate_left
      · (intro w hSw; (try dsimp only at hSw); go_simp; try with_reducible rfl)
      try simp only [Act.put, List.setIfInBounds_toArray, List.set_cons_zero, List.set_cons_succ]
      refine wpAnyH_take (i := 2) (v := ?_) (by simp only [List.getElem?_toArray, List.getElem?_cons_succ, List.getElem?_cons_zero]; rfl) (by kernel_rfl) (by kernel_rfl) (by kernel_rfl) (fun _ _ _ h => h) (Or.inl ⟨by rfl, ?_⟩) (by assumption) ?_
      rotate_left
      · (intro w hSw; (try dsimp only at hSw); go_simp; try with_reducible rfl)
      try simp only [Act.put, List.setIfInBounds_toArray, List.set_cons_zero, List.set_cons_succ]
      refine wpAnyH_take (i := 3) (v := ?_) (by simp only [List.getElem?_toArray, List.getElem?_cons_succ, List.getElem?_cons_zero]; rfl) (by kernel_rfl) (by kernel_rfl) (by kernel_rfl) (fun _ _ _ h => h) (Or.inl ⟨by rfl, ?_⟩) (by assumption) ?_
      rotate_left
      · (intro w hSw; (try dsimp only at hSw); go_simp; try with_reducible rfl)
      try simp only [Act.put, List.setIfInBounds_toArray, List.set_cons_zero, List.set_cons_succ]
      refine wpAnyH_take (i := 4) (v := ?_) (by simp only [List.getElem?_toArray, List.getElem?_cons_succ, List.getElem?_cons_zero]; rfl) (by kernel_rfl) (by kernel_rfl) (by kernel_rfl) (fun _ _ _ h => h) (Or.inl ⟨by rfl, ?_⟩) (by assumption) ?_
      rotate_left
      · (intro w hSw; (try dsimp only at hSw); go_simp; try with_reducible rfl)
      try simp only [Act.put, List.setIfInBounds_toArray, List.set_cons_zero, List.set_cons_succ]
      refine wpAnyH_take (i := 5) (v := ?_) (by simp only [List.getElem?_toArray, List.getElem?_cons_succ, List.getElem?_cons_zero]; rfl) (by kernel_rfl) (by kernel_rfl) (by kernel_rfl) (fun _ _ _ h => h) (Or.inl ⟨by rfl, ?_⟩) (by assumption) ?_
      rotate_left
      · (intro w hSw; (try dsimp only at hSw); go_simp; try with_reducible rfl)
      try simp only [Act.put, List.setIfInBounds_toArray, List.set_cons_zero, List.set_cons_succ]
      refine wpAnyH_take (i := 6) (v := ?_) (by simp only [List.getElem?_toArray, List.getElem?_cons_succ, List.getElem?_cons_zero]; rfl) (by kernel_rfl) (by kernel_rfl) (by kernel_rfl) (fun _ _ _ h => h) (Or.inl ⟨by rfl, ?_⟩) (by assumption) ?_
      rotate_left
      · (intro w hSw; (try dsimp only at hSw); go_simp; try with_reducible rfl)
      try simp only [Act.put, List.setIfInBounds_toArray, List.set_cons_zero, List.set_cons_succ]
      refine wpAnyH_take (i := 7) (v := ?_) (by simp only [List.getElem?_toArray, List.getElem?_cons_succ, List.getElem?_cons_zero]; rfl) (by kernel_rfl) (by kernel_rfl) (by kernel_rfl) (fun _ _ _ h => h) (Or.inl ⟨by rfl, ?_⟩) (by assumption) ?_
      rotate_left
      · (intro w hSw; (try dsimp only at hSw); go_simp; try with_reducible rfl)
      try simp only [Act.put, List.setIfInBounds_toArray, List.set_cons_zero, List.set_cons_succ]
      refine wpAnyH_take (i := 8) (v := ?_) (by simp only [List.getElem?_toArray, List.getElem?_cons_succ, List.getElem?_cons_zero]; rfl) (by kernel_rfl) (by kernel_rfl) (by kernel_rfl) (fun _ _ _ h => h) (Or.inl ⟨by rfl, ?_⟩) (by assumption) ?_
      rotate_left
      · (intro w hSw; (try dsimp only at hSw); go_simp; try with_reducible rfl)
      try simp only [Act.put, List.setIfInBounds_toArray, List.set_cons_zero, List.set_cons_succ]
      refine wpAnyH_take (i := 9) (v := ?_) (by simp only [List.getElem?_toArray, List.getElem?_cons_succ, List.getElem?_cons_zero]; rfl) (by kernel_rfl) (by kernel_rfl) (by kernel_rfl) (fun _ _ _ h => h) (Or.inl ⟨by rfl, ?_⟩) (by assumption) ?_
      rotate_left
      · (intro w hSw; (try dsimp only at hSw); go_simp; try with_reducible rfl)
      try simp only [Act.put, List.setIfInBounds_toArray, List.set_cons_zero, List.set_cons_succ]
      refine wpAnyH_take (i := 10) (v := ?_) (by simp only [List.getElem?_toArray, List.getElem?_cons_succ, List.getElem?_cons_zero]; rfl) (by kernel_rfl) (by kernel_rfl) (by kernel_rfl) (fun _ _ _ h => h) (Or.inl ⟨by rfl, ?_⟩) (by assumption) ?_
      rotate_left
      · (intro w hSw; (try dsimp only at hSw); go_simp; try with_reducible rfl)
      try simp only [Act.put, List.setIfInBounds_toArray, List.set_cons_zero, List.set_cons_succ]
      refine wpAnyH_take (i := 11) (v := ?_) (by simp only [List.getElem?_toArray, List.getElem?_cons_succ, List.getElem?_cons_zero]; rfl) (by kernel_rfl) (by kernel_rfl) (by kernel_rfl) (fun _ _ _ h => h) (Or.inl ⟨by rfl, ?_⟩) (by assumption) ?_
      rotate_left
      · (intro w hSw; (try dsimp only at hSw); go_simp; try with_reducible rfl)
      try simp only [Act.put, List.setIfInBounds_toArray, List.set_cons_zero, List.set_cons_succ]
      refine wpAnyH_take (i := 12) (v := undef) (by simp only [List.getElem?_toArray, List.getElem?_cons_succ, List.getElem?_cons_zero]; rfl) (by kernel_rfl) (by kernel_rfl) (by kernel_rfl) (fun _ _ _ h => h) (Or.inr ⟨by rfl, rfl⟩) (by assumption) ?_
      try simp only [Act.put, List.setIfInBounds_toArray, List.set_cons_zero, List.set_cons_succ]
      refine wpAnyH_take (i := 13) (v := undef) (by simp only [List.getElem?_toArray, List.getElem?_cons_succ, List.getElem?_cons_zero]; rfl) (by kernel_rfl) (by kernel_rfl) (by kernel_rfl) (fun _ _ _ h => h) (Or.inr ⟨by rfl, rfl⟩) (by assumption) ?_
      try simp only [Act.put, List.setIfInBounds_toArray, List.set_cons_zero, List.set_cons_succ]
      refine wpAnyH_take (i := 14) (v := undef) (by simp only [List.getElem?_toArray, List.getElem?_cons_succ, List.getElem?_cons_zero]; rfl) (by kernel_rfl) (by kernel_rfl) (by kernel_rfl) (fun _ _ _ h => h) (Or.inr ⟨by rfl, rfl⟩) (by assumption) ?_
      try simp only [Act.put, List.setIfInBounds_toArray, List.set_cons_zero, List.set_cons_succ]
      refine wpAnyH_take (i := 15) (v := undef) (by simp only [List.getElem?_toArray, List.getElem?_cons_succ, List.getElem?_cons_zero]; rfl) (by kernel_rfl) (by kernel_rfl) (by kernel_rfl) (fun _ _ _ h => h) (Or.inr ⟨by rfl, rfl⟩) (by assumption) ?_
      try simp only [Act.put, List.setIfInBounds_toArray, List.set_cons_zero, List.set_cons_succ]
      refine wpAnyH_take (i := 16) (v := undef) (by simp only [List.getElem?_toArray, List.getElem?_cons_succ, List.getElem?_cons_zero]; rfl) (by kernel_rfl) (by kernel_rfl) (by kernel_rfl) (fun _ _ _ h => h) (Or.inr ⟨by rfl, rfl⟩) (by assumption) ?_
      try simp only [Act.put, List.setIfInBounds_toArray, List.set_cons_zero, List.set_cons_succ]
      refine wpAnyH_take (i := 17) (v := undef) (by simp only [List.getElem?_toArray, List.getElem?_cons_succ, List.getElem?_cons_zero]; rfl) (by kernel_rfl) (by kernel_rfl) (by kernel_rfl) (fun _ _ _ h => h) (Or.inr ⟨by rfl, rfl⟩) (by assumption) ?_
      try simp only [Act.put, List.setIfInBounds_toArray, List.set_cons_zero, List.set_cons_succ]
      refine wpAnyH_take (i := 18) (v := undef) (by simp only [List.getElem?_toArray, List.getElem?_cons_succ, List.getElem?_cons_zero]; rfl) (by kernel_rfl) (by kernel_rfl) (by kernel_rfl) (fun _ _ _ h => h) (Or.inr ⟨by rfl, rfl⟩) (by assumption) ?_
      try simp only [Act.put, List.setIfInBounds_toArray, List.set_cons_zero, List.set_cons_succ]
      refine wpAnyH_take (i := 19) (v := undef) (by simp only [List.getElem?_toArray, List.getElem?_cons_succ, List.getElem?_cons_zero]; rfl) (by kernel_rfl) (by kernel_rfl) (by kernel_rfl) (fun _ _ _ h => h) (Or.inr ⟨by rfl, rfl⟩) (by assumption) ?_
      try simp only [Act.put, List.setIfInBounds_toArray, List.set_cons_zero, List.set_cons_succ]
      refine wpAnyH_take (i := 20) (v := undef) (by simp only [List.getElem?_toArray, List.getElem?_cons_succ, List.getElem?_cons_zero]; rfl) (by kernel_rfl) (by kernel_rfl) (by kernel_rfl) (fun _ _ _ h => h) (Or.inr ⟨by rfl, rfl⟩) (by assumption) ?_
      try simp only [Act.put, List.setIfInBounds_toArray, List.set_cons_zero, List.set_cons_succ]
      refine wpAnyH_take (i := 21) (v := undef) (by simp only [List.getElem?_toArray, List.getElem?_cons_succ, List.getElem?_cons_zero]; rfl) (by kernel_rfl) (by kernel_rfl) (by kernel_rfl) (fun _ _ _ h => h) (Or.inr ⟨by rfl, rfl⟩) (by assumption) ?_
      try simp only [Act.put, List.setIfInBounds_toArray, List.set_cons_zero, List.set_cons_succ]
      refine wpAnyH_take (i := 22) (v := undef) (by simp only [List.getElem?_toArray, List.getElem?_cons_succ, List.getElem?_cons_zero]; rfl) (by kernel_rfl) (by kernel_rfl) (by kernel_rfl) (fun _ _ _ h => h) (Or.inr ⟨by rfl, rfl⟩) (by assumption) ?_
      try simp only [Act.put, List.setIfInBounds_toArray, List.set_cons_zero, List.set_cons_succ]
      refine wpAnyH_take (i := 23) (v := undef) (by simp only [List.getElem?_toArray, List.getElem?_cons_succ, List.getElem?_cons_zero]; rfl) (by kernel_rfl) (by kernel_rfl) (by kernel_rfl) (fun _ _ _ h => h) (Or.inr ⟨by rfl, rfl⟩) (by assumption) ?_
      try simp only [Act.put, List.setIfInBounds_toArray, List.set_cons_zero, List.set_cons_succ]
      refine wpAnyH_take (i := 24) (v := undef) (by simp only [List.getElem?_toArray, List.getElem?_cons_succ, List.getElem?_cons_zero]; rfl) (by kernel_rfl) (by kernel_rfl) (by kernel_rfl) (fun _ _ _ h => h) (Or.inr ⟨by rfl, rfl⟩) (by assumption) ?_
      try simp only [Act.put, List.setIfInBounds_toArray, List.set_cons_zero, List.set_cons_succ]
      refine wpAnyH_take (i := 25) (v := ?_) (by simp only [List.getElem?_toArray, List.getElem?_cons_succ, List.getElem?_cons_zero]; rfl) (by kernel_rfl) (by kernel_rfl) (by kernel_rfl) (fun _ _ _ h => h) (Or.inl ⟨by rfl, ?_⟩) (by assumption) ?_
      rotate_left
      · (intro w hSw; (try dsimp only at hSw); go_simp; try with_reducible rfl)
      try simp only [Act.put, List.setIfInBounds_toArray, List.set_cons_zero, List.set_cons_succ]
      refine wpAnyH_done (by kernel_rfl) ?_ _
      refine NoPanic.normal ?_
      clear hHeld
      go_wp2
      go_ret
      exact ⟨by rw [HE.out]; rfl, Below.drew hb⟩
    have q1 : (xt != yt) = false := by simpa using ht
    have q2 : (xt == yt) = true := by simpa using ht
    have HTT := Lib.hid ht
    clear ht
    by_cases hnn : nd = ne
    rotate_left
    · have q3 : ((nd : Int) != (ne : Int)) = true := by rw [bne_iff_ne]; omega
      have q4 : ((nd : Int) == (ne : Int)) = false := by rw [beq_eq_false_iff_ne]; omega
      have q5 : (nd == ne) = false := by simpa using hnn
      have HE := Lib.hid (HNE.out (fun e => hnn (by simp only [It.mk.injEq] at e; rw [HND.out, HNEL.out, e.2])))
      clear hnn
      refine wp_region_noPanic ?_
      refine wp_region_held_drew (S := (fun w' => w'.cell? ⟨ab, ao + i * 2, none⟩ = some (.string ⟨xt.toArray⟩) ∧ w'.cell? ⟨ab, ao + i * 2 + 1, none⟩ = some (.slice xa nd xc) ∧ w'.cell? ⟨bb, bo + i * 2, none⟩ = some (.string ⟨yt.toArray⟩) ∧ w'.cell? ⟨bb, bo + i * 2 + 1, none⟩ = some (.slice ya ne yc))) (by kernel_rfl) (⟨Dots.keepC a0 (Below.drew (Below.refl _ _)), Dots.keepC a1 (Below.drew (Below.refl _ _)), Dots.keepC b0 (Below.drew (Below.refl _ _)), Dots.keepC b1 (Below.drew (Below.refl _ _))⟩) (fun hHeld => ?_)
      refine wpAnyH_take (i := 0) (v := ?_) (by simp only [List.getElem?_toArray, List.getElem?_cons_zero]; rfl) (by kernel_rfl) (by kernel_rfl) (by kernel_rfl) (fun _ _ _ h => h) (Or.inl ⟨by rfl, ?_⟩) (by assumption) ?_
      rotate_left
      · (intro w hSw; (try dsimp only at hSw); go_simp; try with_reducible rfl)
      try simp only [Act.put, List.setIfInBounds_toArray, List.set_cons_zero, List.set_cons_succ]
      refine wpAnyH_take (i := 1) (v := ?_) (by simp only [List.getElem?_toArray, List.getElem?_cons_succ, List.getElem?_cons_zero]; rfl) (by kernel_rfl) (by kernel_rfl) (by kernel_rfl) (fun _ _ _ h => h) (Or.inl ⟨by rfl, ?_⟩) (by assumption) ?_
      rotate_left
      · (intro w hSw; (try dsimp only at hSw); go_simp; try with_reducible rfl)
      try simp only [Act.put, List.setIfInBounds_toArray, List.set_cons_zero, List.set_cons_succ]
      refine wpAnyH_take (i := 2) (v := ?_) (by simp only [List.getElem?_toArray, List.getElem?_cons_succ, List.getElem?_cons_zero]; rfl) (by kernel_rfl) (by kernel_rfl) (by kernel_rfl) (fun _ _ _ h => h) (Or.inl ⟨by rfl, ?_⟩) (by assumption) ?_
      rotate_left
      · (intro w hSw; (try dsimp only at hSw); go_simp; try with_reducible rfl)
      try simp only [Act.put, List.setIfInBounds_toArray, List.set_cons_zero, List.set_cons_succ]
      refine wpAnyH_take (i := 3) (v := ?_) (by simp only [List.getElem?_toArray, List.getElem?_cons_succ, List.getElem?_cons_zero]; rfl) (by kernel_rfl) (by kernel_rfl) (by kernel_rfl) (fun _ _ _ h => h) (Or.inl ⟨by rfl, ?_⟩) (by assumption) ?_
      rotate_left
      · (intro w hSw; (try dsimp only at hSw); go_simp; try with_reducible rfl)
      try simp only [Act.put, List.setIfInBounds_toArray, List.set_cons_zero, List.set_cons_succ]
      refine wpAnyH_take (i := 4) (v := ?_) (by simp only [List.getElem?_toArray, List.getElem?_cons_succ, List.getElem?_cons_zero]; rfl) (by kernel_rfl) (by kernel_rfl) (by kernel_rfl) (fun _ _ _ h => h) (Or.inl ⟨by rfl, ?_⟩) (by assumption) ?_
      rotate_left
      · (intro w hSw; (try dsimp only at hSw); go_simp; try with_reducible rfl)
      try simp only [Act.put, List.setIfInBounds_toArray, List.set_cons_zero, List.set_cons_succ]
      refine wpAnyH_take (i := 5) (v := ?_) (by simp only [List.getElem?_toArray, List.getElem?_cons_succ, List.getElem?_cons_zero]; rfl) (by kernel_rfl) (by kernel_rfl) (by kernel_rfl) (fun _ _ _ h => h) (Or.inl ⟨by rfl, ?_⟩) (by assumption) ?_
      rotate_left
      · (intro w hSw; (try dsimp only at hSw); go_simp; try with_reducible rfl)
      try simp only [Act.put, List.setIfInBounds_toArray, List.set_cons_zero, List.set_cons_succ]
      refine wpAnyH_take (i := 6) (v := ?_) (by simp only [List.getElem?_toArray, List.getElem?_cons_succ, List.getElem?_cons_zero]; rfl) (by kernel_rfl) (by kernel_rfl) (by kernel_rfl) (fun _ _ _ h => h) (Or.inl ⟨by rfl, ?_⟩) (by assumption) ?_
      rotate_left
      · (intro w hSw; (try dsimp only at hSw); go_simp; try with_reducible rfl)
      try simp only [Act.put, List.setIfInBounds_toArray, List.set_cons_zero, List.set_cons_succ]
      refine wpAnyH_take (i := 7) (v := ?_) (by simp only [List.getElem?_toArray, List.getElem?_cons_succ, List.getElem?_cons_zero]; rfl) (by kernel_rfl) (by kernel_rfl) (by kernel_rfl) (fun _ _ _ h => h) (Or.inl ⟨by rfl, ?_⟩) (by assumption) ?_
      rotate_left
      · (intro w hSw; (try dsimp only at hSw); go_simp; try with_reducible rfl)
      try simp only [Act.put, List.setIfInBounds_toArray, List.set_cons_zero, List.set_cons_succ]
      refine wpAnyH_take (i := 8) (v := ?_) (by simp only [List.getElem?_toArray, List.getElem?_cons_succ, List.getElem?_cons_zero]; rfl) (by kernel_rfl) (by kernel_rfl) (by kernel_rfl) (fun _ _ _ h => h) (Or.inl ⟨by rfl, ?_⟩) (by assumption) ?_
      rotate_left
      · (intro w hSw; (try dsimp only at hSw); go_simp; try with_reducible rfl)
      try simp only [Act.put, List.setIfInBounds_toArray, List.set_cons_zero, List.set_cons_succ]
      refine wpAnyH_take (i := 9) (v := ?_) (by simp only [List.getElem?_toArray, List.getElem?_cons_succ, List.getElem?_cons_zero]; rfl) (by kernel_rfl) (by kernel_rfl) (by kernel_rfl) (fun _ _ _ h => h) (Or.inl ⟨by rfl, ?_⟩) (by assumption) ?_
      rotate_left
      · (intro w hSw; (try dsimp only at hSw); go_simp; try with_reducible rfl)
      try simp only [Act.put, List.setIfInBounds_toArray, List.set_cons_zero, List.set_cons_succ]
      refine wpAnyH_take (i := 10) (v := ?_) (by simp only [List.getElem?_toArray, List.getElem?_cons_succ, List.getElem?_cons_zero]; rfl) (by kernel_rfl) (by kernel_rfl) (by kernel_rfl) (fun _ _ _ h => h) (Or.inl ⟨by rfl, ?_⟩) (by assumption) ?_
      rotate_left
      · (intro w hSw; (try dsimp only at hSw); go_simp; try with_reducible rfl)
      try simp only [Act.put, List.setIfInBounds_toArray, List.set_cons_zero, List.set_cons_succ]
      refine wpAnyH_take (i := 11) (v := ?_) (by simp only [List.getElem?_toArray, List.getElem?_cons_succ, List.getElem?_cons_zero]; rfl) (by kernel_rfl) (by kernel_rfl) (by kernel_rfl) (fun _ _ _ h => h) (Or.inl ⟨by rfl, ?_⟩) (by assumption) ?_
      rotate_left
      · (intro w hSw; (try dsimp only at hSw); go_simp; try with_reducible rfl)
      try simp only [Act.put, List.setIfInBounds_toArray, List.set_cons_zero, List.set_cons_succ]
      refine wpAnyH_take (i := 12) (v := ?_) (by simp only [List.getElem?_toArray, List.getElem?_cons_succ, List.getElem?_cons_zero]; rfl) (by kernel_rfl) (by kernel_rfl) (by kernel_rfl) (fun _ _ _ h => h) (Or.inl ⟨by rfl, ?_⟩) (by assumption) ?_
      rotate_left
      · (intro w hSw; (try dsimp only at hSw); go_simp; try with_reducible rfl)
      try simp only [Act.put, List.setIfInBounds_toArray, List.set_cons_zero, List.set_cons_succ]
      refine wpAnyH_take (i := 13) (v := ?_) (by simp only [List.getElem?_toArray, List.getElem?_cons_succ, List.getElem?_cons_zero]; rfl) (by kernel_rfl) (by kernel_rfl) (by kernel_rfl) (fun _ _ _ h => h) (Or.inl ⟨by rfl, ?_⟩) (by assumption) ?_
      rotate_left
      · (intro w hSw; (try dsimp only at hSw); go_simp; try with_reducible rfl)
      try simp only [Act.put, List.setIfInBounds_toArray, List.set_cons_zero, List.set_cons_succ]
      refine wpAnyH_take (i := 14) (v := ?_) (by simp only [List.getElem?_toArray, List.getElem?_cons_succ, List.getElem?_cons_zero]; rfl) (by kernel_rfl) (by kernel_rfl) (by kernel_rfl) (fun _ _ _ h => h) (Or.inl ⟨by rfl, ?_⟩) (by assumption) ?_
      rotate_left
      · (intro w hSw; (try dsimp only at hSw); go_simp; try with_reducible rfl)
      try simp only [Act.put, List.setIfInBounds_toArray, List.set_cons_zero, List.set_cons_succ]
      refine wpAnyH_take (i := 15) (v := ?_) (by simp only [List.getElem?_toArray, List.getElem?_cons_succ, List.getElem?_cons_zero]; rfl) (by kernel_rfl) (by kernel_rfl) (by kernel_rfl) (fun _ _ _ h => h) (Or.inl ⟨by rfl, ?_⟩) (by assumption) ?_
      rotate_left
      · (intro w hSw; (try dsimp only at hSw); go_simp; try with_reducible rfl)
      try simp only [Act.put, List.setIfInBounds_toArray, List.set_cons_zero, List.set_cons_succ]
      refine wpAnyH_take (i := 16) (v := ?_) (by simp only [List.getElem?_toArray, List.getElem?_cons_succ, List.getElem?_cons_zero]; rfl) (by kernel_rfl) (by kernel_rfl) (by kernel_rfl) (fun _ _ _ h => h) (Or.inl ⟨by rfl, ?_⟩) (by assumption) ?_
      rotate_left
      · (intro w hSw; (try dsimp only at hSw); go_simp; try with_reducible rfl)
      try simp only [Act.put, List.setIfInBounds_toArray, List.set_cons_zero, List.set_cons_succ]
      refine wpAnyH_take (i := 17) (v := ?_) (by simp only [List.getElem?_toArray, List.getElem?_cons_succ, List.getElem?_cons_zero]; rfl) (by kernel_rfl) (by kernel_rfl) (by kernel_rfl) (fun _ _ _ h => h) (Or.inl ⟨by rfl, ?_⟩) (by assumption) ?_
      rotate_left
      · (intro w hSw; (try dsimp only at hSw); go_simp; try with_reducible rfl)
      try simp only [Act.put, List.setIfInBounds_toArray, List.set_cons_zero, List.set_cons_succ]
      refine wpAnyH_take (i := 18) (v := ?_) (by simp only [List.getElem?_toArray, List.getElem?_cons_succ, List.getElem?_cons_zero]; rfl) (by kernel_rfl) (by kernel_rfl) (by kernel_rfl) (fun _ _ _ h => h) (Or.inl ⟨by rfl, ?_⟩) (by assumption) ?_
      rotate_left
      · (intro w hSw; (try dsimp only at hSw); go_simp; try with_reducible rfl)
      try simp only [Act.put, List.setIfInBounds_toArray, List.set_cons_zero, List.set_cons_succ]
      refine wpAnyH_take (i := 19) (v := ?_) (by simp only [List.getElem?_toArray, List.getElem?_cons_succ, List.getElem?_cons_zero]; rfl) (by kernel_rfl) (by kernel_rfl) (by kernel_rfl) (fun _ _ _ h => h) (Or.inl ⟨by rfl, ?_⟩) (by assumption) ?_
      rotate_left
      · (intro w hSw; (try dsimp only at hSw); go_simp; try with_reducible rfl)
      try simp only [Act.put, List.setIfInBounds_toArray, List.set_cons_zero, List.set_cons_succ]
      refine wpAnyH_take (i := 20) (v := ?_) (by simp only [List.getElem?_toArray, List.getElem?_cons_succ, List.getElem?_cons_zero]; rfl) (by kernel_rfl) (by kernel_rfl) (by kernel_rfl) (fun _ _ _ h => h) (Or.inl ⟨by rfl, ?_⟩) (by assumption) ?_
      rotate_left
      · (intro w hSw; (try dsimp only at hSw); go_simp; try with_reducible rfl)
      try simp only [Act.put, List.setIfInBounds_toArray, List.set_cons_zero, List.set_cons_succ]
      refine wpAnyH_take (i := 21) (v := ?_) (by simp only [List.getElem?_toArray, List.getElem?_cons_succ, List.getElem?_cons_zero]; rfl) (by kernel_rfl) (by kernel_rfl) (by kernel_rfl) (fun _ _ _ h => h) (Or.inl ⟨by rfl, ?_⟩) (by assumption) ?_
      rotate_left
      · (intro w hSw; (try dsimp only at hSw); go_simp; try with_reducible rfl)
      try simp only [Act.put, List.setIfInBounds_toArray, List.set_cons_zero, List.set_cons_succ]
      refine wpAnyH_take (i := 22) (v := ?_) (by simp only [List.getElem?_toArray, List.getElem?_cons_succ, List.getElem?_cons_zero]; rfl) (by kernel_rfl) (by kernel_rfl) (by kernel_rfl) (fun _ _ _ h => h) (Or.inl ⟨by rfl, ?_⟩) (by assumption) ?_
      rotate_left
      · (intro w hSw; (try dsimp only at hSw); go_simp; try with_reducible rfl)
      try simp only [Act.put, List.setIfInBounds_toArray, List.set_cons_zero, List.set_cons_succ]
      refine wpAnyH_take (i := 23) (v := ?_) (by simp only [List.getElem?_toArray, List.getElem?_cons_succ, List.getElem?_cons_zero]; rfl) (by kernel_rfl) (by kernel_rfl) (by kernel_rfl) (fun _ _ _ h => h) (Or.inl ⟨by rfl, ?_⟩) (by assumption) ?_
      rotate_left
      · (intro w hSw; (try dsimp only at hSw); go_simp; try with_reducible rfl)
      try simp only [Act.put, List.setIfInBounds_toArray, List.set_cons_zero, List.set_cons_succ]
      refine wpAnyH_take (i := 24) (v := ?_) (by simp only [List.getElem?_toArray, List.getElem?_cons_succ, List.getElem?_cons_zero]; rfl) (by kernel_rfl) (by kernel_rfl) (by kernel_rfl) (fun _ _ _ h => h) (Or.inl ⟨by rfl, ?_⟩) (by assumption) ?_
      rotate_left
      · (intro w hSw; (try dsimp only at hSw); go_simp; try with_reducible rfl)
      try simp only [Act.put, List.setIfInBounds_toArray, List.set_cons_zero, List.set_cons_succ]
      refine wpAnyH_take (i := 25) (v := ?_) (by simp only [List.getElem?_toArray, List.getElem?_cons_succ, List.getElem?_cons_zero]; rfl) (by kernel_rfl) (by kernel_rfl) (by kernel_rfl) (fun _ _ _ h => h) (Or.inl ⟨by rfl, ?_⟩) (by assumption) ?_
      rotate_left
      · (intro w hSw; (try dsimp only at hSw); go_simp; try with_reducible rfl)
      try simp only [Act.put, List.setIfInBounds_toArray, List.set_cons_zero, List.set_cons_succ]
      refine wpAnyH_done (by kernel_rfl) ?_ _
      refine NoPanic.normal ?_
      clear hHeld
      go_wp2
      go_ret
      exact ⟨by rw [HE.out]; rfl, Below.drew hb⟩
    subst hnn
    refine wp_region_noPanic ?_
    refine wp_region_held_drew (S := (fun w' => w'.cell? ⟨ab, ao + i * 2, none⟩ = some (.string ⟨xt.toArray⟩) ∧ w'.cell? ⟨ab, ao + i * 2 + 1, none⟩ = some (.slice xa nd xc) ∧ w'.cell? ⟨bb, bo + i * 2, none⟩ = some (.string ⟨yt.toArray⟩) ∧ w'.cell? ⟨bb, bo + i * 2 + 1, none⟩ = some (.slice ya nd yc))) (by kernel_rfl) (⟨Dots.keepC a0 (Below.drew (Below.refl _ _)), Dots.keepC a1 (Below.drew (Below.refl _ _)), Dots.keepC b0 (Below.drew (Below.refl _ _)), Dots.keepC b1 (Below.drew (Below.refl _ _))⟩) (fun hHeld => ?_)
    refine wpAnyH_take (i := 0) (v := ?_) (by simp only [List.getElem?_toArray, List.getElem?_cons_zero]; rfl) (by kernel_rfl) (by kernel_rfl) (by kernel_rfl) (fun _ _ _ h => h) (Or.inl ⟨by rfl, ?_⟩) (by assumption) ?_
    rotate_left
    · (intro w hSw; (try dsimp only at hSw); go_simp; try with_reducible rfl)
    try simp only [Act.put, List.setIfInBounds_toArray, List.set_cons_zero, List.set_cons_succ]
    refine wpAnyH_take (i := 1) (v := ?_) (by simp only [List.getElem?_toArray, List.getElem?_cons_succ, List.getElem?_cons_zero]; rfl) (by kernel_rfl) (by kernel_rfl) (by kernel_rfl) (fun _ _ _ h => h) (Or.inl ⟨by rfl, ?_⟩) (by assumption) ?_
    rotate_left
    · (intro w hSw; (try dsimp only at hSw); go_simp; try with_reducible rfl)
    try simp only [Act.put, List.setIfInBounds_toArray, List.set_cons_zero, List.set_cons_succ]
    refine wpAnyH_take (i := 2) (v := ?_) (by simp only [List.getElem?_toArray, List.getElem?_cons_succ, List.getElem?_cons_zero]; rfl) (by kernel_rfl) (by kernel_rfl) (by kernel_rfl) (fun _ _ _ h => h) (Or.inl ⟨by rfl, ?_⟩) (by assumption) ?_
    rotate_left
    · (intro w hSw; (try dsimp only at hSw); go_simp; try with_reducible rfl)
    try simp only [Act.put, List.setIfInBounds_toArray, List.set_cons_zero, List.set_cons_succ]
    refine wpAnyH_take (i := 3) (v := ?_) (by simp only [List.getElem?_toArray, List.getElem?_cons_succ, List.getElem?_cons_zero]; rfl) (by kernel_rfl) (by kernel_rfl) (by kernel_rfl) (fun _ _ _ h => h) (Or.inl ⟨by rfl, ?_⟩) (by assumption) ?_
    rotate_left
    · (intro w hSw; (try dsimp only at hSw); go_simp; try with_reducible rfl)
    try simp only [Act.put, List.setIfInBounds_toArray, List.set_cons_zero, List.set_cons_succ]
    refine wpAnyH_take (i := 4) (v := ?_) (by simp only [List.getElem?_toArray, List.getElem?_cons_succ, List.getElem?_cons_zero]; rfl) (by kernel_rfl) (by kernel_rfl) (by kernel_rfl) (fun _ _ _ h => h) (Or.inl ⟨by rfl, ?_⟩) (by assumption) ?_
    rotate_left
    · (intro w hSw; (try dsimp only at hSw); go_simp; try with_reducible rfl)
    try simp only [Act.put, List.setIfInBounds_toArray, List.set_cons_zero, List.set_cons_succ]
    refine wpAnyH_take (i := 5) (v := ?_) (by simp only [List.getElem?_toArray, List.getElem?_cons_succ, List.getElem?_cons_zero]; rfl) (by kernel_rfl) (by kernel_rfl) (by kernel_rfl) (fun _ _ _ h => h) (Or.inl ⟨by rfl, ?_⟩) (by assumption) ?_
    rotate_left
    · (intro w hSw; (try dsimp only at hSw); go_simp; try with_reducible rfl)
    try simp only [Act.put, List.setIfInBounds_toArray, List.set_cons_zero, List.set_cons_succ]
    refine wpAnyH_take (i := 6) (v := ?_) (by simp only [List.getElem?_toArray, List.getElem?_cons_succ, List.getElem?_cons_zero]; rfl) (by kernel_rfl) (by kernel_rfl) (by kernel_rfl) (fun _ _ _ h => h) (Or.inl ⟨by rfl, ?_⟩) (by assumption) ?_
    rotate_left
    · (intro w hSw; (try dsimp only at hSw); go_simp; try with_reducible rfl)
    try simp only [Act.put, List.setIfInBounds_toArray, List.set_cons_zero, List.set_cons_succ]
    refine wpAnyH_take (i := 7) (v := ?_) (by simp only [List.getElem?_toArray, List.getElem?_cons_succ, List.getElem?_cons_zero]; rfl) (by kernel_rfl) (by kernel_rfl) (by kernel_rfl) (fun _ _ _ h => h) (Or.inl ⟨by rfl, ?_⟩) (by assumption) ?_
    rotate_left
    · (intro w hSw; (try dsimp only at hSw); go_simp; try with_reducible rfl)
    try simp only [Act.put, List.setIfInBounds_toArray, List.set_cons_zero, List.set_cons_succ]
    refine wpAnyH_take (i := 8) (v := ?_) (by simp only [List.getElem?_toArray, List.getElem?_cons_succ, List.getElem?_cons_zero]; rfl) (by kernel_rfl) (by kernel_rfl) (by kernel_rfl) (fun _ _ _ h => h) (Or.inl ⟨by rfl, ?_⟩) (by assumption) ?_
    rotate_left
    · (intro w hSw; (try dsimp only at hSw); go_simp; try with_reducible rfl)
    try simp only [Act.put, List.setIfInBounds_toArray, List.set_cons_zero, List.set_cons_succ]
    refine wpAnyH_take (i := 9) (v := ?_) (by simp only [List.getElem?_toArray, List.getElem?_cons_succ, List.getElem?_cons_zero]; rfl) (by kernel_rfl) (by kernel_rfl) (by kernel_rfl) (fun _ _ _ h => h) (Or.inl ⟨by rfl, ?_⟩) (by assumption) ?_
    rotate_left
    · (intro w hSw; (try dsimp only at hSw); go_simp; try with_reducible rfl)
    try simp only [Act.put, List.setIfInBounds_toArray, List.set_cons_zero, List.set_cons_succ]
    refine wpAnyH_take (i := 10) (v := ?_) (by simp only [List.getElem?_toArray, List.getElem?_cons_succ, List.getElem?_cons_zero]; rfl) (by kernel_rfl) (by kernel_rfl) (by kernel_rfl) (fun _ _ _ h => h) (Or.inl ⟨by rfl, ?_⟩) (by assumption) ?_
    rotate_left
    · (intro w hSw; (try dsimp only at hSw); go_simp; try with_reducible rfl)
    try simp only [Act.put, List.setIfInBounds_toArray, List.set_cons_zero, List.set_cons_succ]
    refine wpAnyH_take (i := 11) (v := ?_) (by simp only [List.getElem?_toArray, List.getElem?_cons_succ, List.getElem?_cons_zero]; rfl) (by kernel_rfl) (by kernel_rfl) (by kernel_rfl) (fun _ _ _ h => h) (Or.inl ⟨by rfl, ?_⟩) (by assumption) ?_
    rotate_left
    · (intro w hSw; (try dsimp only at hSw); go_simp; try with_reducible rfl)
    try simp only [Act.put, List.setIfInBounds_toArray, List.set_cons_zero, List.set_cons_succ]
    refine wpAnyH_take (i := 12) (v := ?_) (by simp only [List.getElem?_toArray, List.getElem?_cons_succ, List.getElem?_cons_zero]; rfl) (by kernel_rfl) (by kernel_rfl) (by kernel_rfl) (fun _ _ _ h => h) (Or.inl ⟨by rfl, ?_⟩) (by assumption) ?_
    rotate_left
    · (intro w hSw; (try dsimp only at hSw); go_simp; try with_reducible rfl)
    try simp only [Act.put, List.setIfInBounds_toArray, List.set_cons_zero, List.set_cons_succ]
    refine wpAnyH_take (i := 13) (v := ?_) (by simp only [List.getElem?_toArray, List.getElem?_cons_succ, List.getElem?_cons_zero]; rfl) (by kernel_rfl) (by kernel_rfl) (by kernel_rfl) (fun _ _ _ h => h) (Or.inl ⟨by rfl, ?_⟩) (by assumption) ?_
    rotate_left
    · (intro w hSw; (try dsimp only at hSw); go_simp; try with_reducible rfl)
    try simp only [Act.put, List.setIfInBounds_toArray, List.set_cons_zero, List.set_cons_succ]
    refine wpAnyH_take (i := 14) (v := ?_) (by simp only [List.getElem?_toArray, List.getElem?_cons_succ, List.getElem?_cons_zero]; rfl) (by kernel_rfl) (by kernel_rfl) (by kernel_rfl) (fun _ _ _ h => h) (Or.inl ⟨by rfl, ?_⟩) (by assumption) ?_
    rotate_left
    · (intro w hSw; (try dsimp only at hSw); go_simp; try with_reducible rfl)
    try simp only [Act.put, List.setIfInBounds_toArray, List.set_cons_zero, List.set_cons_succ]
    refine wpAnyH_take (i := 15) (v := ?_) (by simp only [List.getElem?_toArray, List.getElem?_cons_succ, List.getElem?_cons_zero]; rfl) (by kernel_rfl) (by kernel_rfl) (by kernel_rfl) (fun _ _ _ h => h) (Or.inl ⟨by rfl, ?_⟩) (by assumption) ?_
    rotate_left
    · (intro w hSw; (try dsimp only at hSw); go_simp; try with_reducible rfl)
    try simp only [Act.put, List.setIfInBounds_toArray, List.set_cons_zero, List.set_cons_succ]
    refine wpAnyH_take (i := 16) (v := ?_) (by simp only [List.getElem?_toArray, List.getElem?_cons_succ, List.getElem?_cons_zero]; rfl) (by kernel_rfl) (by kernel_rfl) (by kernel_rfl) (fun _ _ _ h => h) (Or.inl ⟨by rfl, ?_⟩) (by assumption) ?_
    rotate_left
    · (intro w hSw; (try dsimp only at hSw); go_simp; try with_reducible rfl)
    try simp only [Act.put, List.setIfInBounds_toArray, List.set_cons_zero, List.set_cons_succ]
    refine wpAnyH_take (i := 17) (v := ?_) (by simp only [List.getElem?_toArray, List.getElem?_cons_succ, List.getElem?_cons_zero]; rfl) (by kernel_rfl) (by kernel_rfl) (by kernel_rfl) (fun _ _ _ h => h) (Or.inl ⟨by rfl, ?_⟩) (by assumption) ?_
    rotate_left
    · (intro w hSw; (try dsimp only at hSw); go_simp; try with_reducible rfl)
    try simp only [Act.put, List.setIfInBounds_toArray, List.set_cons_zero, List.set_cons_succ]
    refine wpAnyH_take (i := 18) (v := ?_) (by simp only [List.getElem?_toArray, List.getElem?_cons_succ, List.getElem?_cons_zero]; rfl) (by kernel_rfl) (by kernel_rfl) (by kernel_rfl) (fun _ _ _ h => h) (Or.inl ⟨by rfl, ?_⟩) (by assumption) ?_
    rotate_left
    · (intro w hSw; (try dsimp only at hSw); go_simp; try with_reducible rfl)
    try simp only [Act.put, List.setIfInBounds_toArray, List.set_cons_zero, List.set_cons_succ]
    refine wpAnyH_take (i := 19) (v := ?_) (by simp only [List.getElem?_toArray, List.getElem?_cons_succ, List.getElem?_cons_zero]; rfl) (by kernel_rfl) (by kernel_rfl) (by kernel_rfl) (fun _ _ _ h => h) (Or.inl ⟨by rfl, ?_⟩) (by assumption) ?_
    rotate_left
    · (intro w hSw; (try dsimp only at hSw); go_simp; try with_reducible rfl)
    try simp only [Act.put, List.setIfInBounds_toArray, List.set_cons_zero, List.set_cons_succ]
    refine wpAnyH_take (i := 20) (v := ?_) (by simp only [List.getElem?_toArray, List.getElem?_cons_succ, List.getElem?_cons_zero]; rfl) (by kernel_rfl) (by kernel_rfl) (by kernel_rfl) (fun _ _ _ h => h) (Or.inl ⟨by rfl, ?_⟩) (by assumption) ?_
    rotate_left
    · (intro w hSw; (try dsimp only at hSw); go_simp; try with_reducible rfl)
    try simp only [Act.put, List.setIfInBounds_toArray, List.set_cons_zero, List.set_cons_succ]
    refine wpAnyH_take (i := 21) (v := ?_) (by simp only [List.getElem?_toArray, List.getElem?_cons_succ, List.getElem?_cons_zero]; rfl) (by kernel_rfl) (by kernel_rfl) (by kernel_rfl) (fun _ _ _ h => h) (Or.inl ⟨by rfl, ?_⟩) (by assumption) ?_
    rotate_left
    · (intro w hSw; (try dsimp only at hSw); go_simp; try with_reducible rfl)
    try simp only [Act.put, List.setIfInBounds_toArray, List.set_cons_zero, List.set_cons_succ]
    refine wpAnyH_take (i := 22) (v := ?_) (by simp only [List.getElem?_toArray, List.getElem?_cons_succ, List.getElem?_cons_zero]; rfl) (by kernel_rfl) (by kernel_rfl) (by kernel_rfl) (fun _ _ _ h => h) (Or.inl ⟨by rfl, ?_⟩) (by assumption) ?_
    rotate_left
    · (intro w hSw; (try dsimp only at hSw); go_simp; try with_reducible rfl)
    try simp only [Act.put, List.setIfInBounds_toArray, List.set_cons_zero, List.set_cons_succ]
    refine wpAnyH_take (i := 23) (v := ?_) (by simp only [List.getElem?_toArray, List.getElem?_cons_succ, List.getElem?_cons_zero]; rfl) (by kernel_rfl) (by kernel_rfl) (by kernel_rfl) (fun _ _ _ h => h) (Or.inl ⟨by rfl, ?_⟩) (by assumption) ?_
    rotate_left
    · (intro w hSw; (try dsimp only at hSw); go_simp; try with_reducible rfl)
    try simp only [Act.put, List.setIfInBounds_toArray, List.set_cons_zero, List.set_cons_succ]
    refine wpAnyH_take (i := 24) (v := ?_) (by simp only [List.getElem?_toArray, List.getElem?_cons_succ, List.getElem?_cons_zero]; rfl) (by kernel_rfl) (by kernel_rfl) (by kernel_rfl) (fun _ _ _ h => h) (Or.inl ⟨by rfl, ?_⟩) (by assumption) ?_
    rotate_left
    · (intro w hSw; (try dsimp only at hSw); go_simp; try with_reducible rfl)
    try simp only [Act.put, List.setIfInBounds_toArray, List.set_cons_zero, List.set_cons_succ]
    refine wpAnyH_take (i := 25) (v := ?_) (by simp only [List.getElem?_toArray, List.getElem?_cons_succ, List.getElem?_cons_zero]; rfl) (by kernel_rfl) (by kernel_rfl) (by kernel_rfl) (fun _ _ _ h => h) (Or.inl ⟨by rfl, ?_⟩) (by assumption) ?_
    rotate_left
    · (intro w hSw; (try dsimp only at hSw); go_simp; try with_reducible rfl)
    try simp only [Act.put, List.setIfInBounds_toArray, List.set_cons_zero, List.set_cons_succ]
    refine wpAnyH_done (by kernel_rfl) ?_ _
    refine NoPanic.normal ?_
    obtain ⟨-, s1, -, t1⟩ := hHeld
    replace hb := Below.drew hb
    have HT0 : Hid (xd.take 0 = yd.take 0) := Lib.hid rfl
    obtain ⟨w2, hw2⟩ : ∃ v, v = World.drew wr := ⟨_, rfl⟩
    try rw [← hw2] at s1 t1 hb ⊢
    have h2 := Below.refl w2.heap.size w2
    clear a0 b0 a1 b1 q1 q2
    try clear hw2
    go_wp2_with fail
    go_loopw [6] (fun jv wq => ∃ j : Nat, j ≤ nd ∧ jv = .int .i64 j ∧ Hid (xd.take j = yd.take j) ∧ Below w2.heap.size w2 wq) (fun jv _ => nd - (intOf jv).toNat)
    case atStart => exact ⟨0, by omega, rfl, HT0, h2⟩
    case round =>
      clear HT0 h2
      obtain ⟨j, hj, rfl, HTD, hb2⟩ := hrel
      replace s1 := Dots.keepC s1 hb2
      replace t1 := Dots.keepC t1 hb2
      by_cases hjd : j < nd
      rotate_left
      · obtain rfl : j = nd := by omega
        have d2 : decide ((j : Int) < (j : Int)) = false := decide_eq_false (by omega)
        have hdd : xd = yd := by
          have := HTD.out
          rwa [List.take_of_length_le (by have := HND.out; omega), List.take_of_length_le (by have := HNEL.out; omega)] at this
        have HT1 := Lib.hid (HEQ.out (by rw [HTT.out, hdd]))
        clear hdd
        go_wp2
        go_roundw
        case rel => exact ⟨i + 1, by have := HI.out; omega, by go_num, HT1, hb.trans (hb2.mono hb.size)⟩
        case measure => have := HI.out; simp [intOf]; omega
      have d2 : decide ((j : Int) < (nd : Int)) = true := decide_eq_true (by omega)
      have j3 : (0 : Int) ≤ (j : Int) := by omega
      have j4 : (j : Int) < (nd : Int) := by omega
      have hjx : j < xd.length := by have := HND.out; omega
      have hjy : j < yd.length := by have := HNEL.out; omega
      have hbq := hb.trans (hb2.mono hb.size)
      obtain ⟨xb, xo, rfl, hxc⟩ := dots_at (Row.Lies.below HJX.out hbq) (by omega)
      obtain ⟨yb, yo, rfl, hyc⟩ := dots_at (Row.Lies.below HKX.out hbq) (by omega)
      obtain ⟨e0, e1⟩ := hxc j hjx
      obtain ⟨g0, g1⟩ := hyc j hjy
      have HND2 : Hid (∀ (_ : xd[j] ≠ yd[j]), decide (J.map RI.it = K.map RI.it) = false) := Lib.hid fun h => HNE.out (fun e => h (by
        simp only [It.mk.injEq] at e
        have := e.2
        subst this
        rfl))
      have HTK : Hid (∀ (_ : xd[j] = yd[j]), xd.take (j + 1) = yd.take (j + 1)) := Lib.hid fun h => take_next hjx hjy HTD.out h
      obtain ⟨x, hx⟩ : ∃ x, x = xd[j] := ⟨_, rfl⟩
      obtain ⟨y, hy⟩ : ∃ y, y = yd[j] := ⟨_, rfl⟩
      rw [← hx] at e0 e1 HND2 HTK
      rw [← hy] at g0 g1 HND2 HTK
      obtain ⟨xp, xq⟩ := x
      obtain ⟨yp, yq⟩ := y
      simp only at e0 e1 g0 g1
      have hE := neq_dot ⟨xp, xq⟩ ⟨yp, yq⟩
      have HJ1 := Lib.hid hjd
      clear hxc hyc hjx hjy hx hy hjd hbq HTD
      go_wp2_with fail
      by_cases he : (⟨xp, xq⟩ : M) = ⟨yp, yq⟩
      rotate_left
      · rw [decide_eq_false he] at hE
        try dsimp only at hE
        have HE := Lib.hid (HND2.out he)
        clear he
        refine wp_region_noPanic ?_
        refine wp_region_held_drew (S := (fun w' => w'.cell? ⟨ab, ao + i * 2 + 1, none⟩ = some (.slice (some ⟨xb, xo, none⟩) nd xc) ∧ w'.cell? ⟨bb, bo + i * 2 + 1, none⟩ = some (.slice (some ⟨yb, yo, none⟩) nd yc) ∧ w'.cell? ⟨xb, xo + j * 2, none⟩ = some (.string ⟨xp.toArray⟩) ∧ w'.cell? ⟨xb, xo + j * 2 + 1, none⟩ = some (.int .u64 (xq : Int)) ∧ w'.cell? ⟨yb, yo + j * 2, none⟩ = some (.string ⟨yp.toArray⟩) ∧ w'.cell? ⟨yb, yo + j * 2 + 1, none⟩ = some (.int .u64 (yq : Int)))) (by kernel_rfl) (⟨Dots.keepC s1 (Below.drew (Below.refl _ _)), Dots.keepC t1 (Below.drew (Below.refl _ _)), Dots.keepC e0 (Below.drew (Below.refl _ _)), Dots.keepC e1 (Below.drew (Below.refl _ _)), Dots.keepC g0 (Below.drew (Below.refl _ _)), Dots.keepC g1 (Below.drew (Below.refl _ _))⟩) (fun hHeld => ?_)
        refine wpAnyH_take (i := 0) (v := ?_) (by simp only [List.getElem?_toArray, List.getElem?_cons_zero]; rfl) (by kernel_rfl) (by kernel_rfl) (by kernel_rfl) (fun _ _ _ h => h) (Or.inl ⟨by rfl, ?_⟩) (by assumption) ?_
        rotate_left
        · (intro w hSw; (try dsimp only at hSw); go_simp; try with_reducible rfl)
        try simp only [Act.put, List.setIfInBounds_toArray, List.set_cons_zero, List.set_cons_succ]
        refine wpAnyH_take (i := 1) (v := ?_) (by simp only [List.getElem?_toArray, List.getElem?_cons_succ, List.getElem?_cons_zero]; rfl) (by kernel_rfl) (by kernel_rfl) (by kernel_rfl) (fun _ _ _ h => h) (Or.inl ⟨by rfl, ?_⟩) (by assumption) ?_
        rotate_left
        · (intro w hSw; (try dsimp only at hSw); go_simp; try with_reducible rfl)
        try simp only [Act.put, List.setIfInBounds_toArray, List.set_cons_zero, List.set_cons_succ]
        refine wpAnyH_take (i := 2) (v := ?_) (by simp only [List.getElem?_toArray, List.getElem?_cons_succ, List.getElem?_cons_zero]; rfl) (by kernel_rfl) (by kernel_rfl) (by kernel_rfl) (fun _ _ _ h => h) (Or.inl ⟨by rfl, ?_⟩) (by assumption) ?_
        rotate_left
        · (intro w hSw; (try dsimp only at hSw); go_simp; try with_reducible rfl)
        try simp only [Act.put, List.setIfInBounds_toArray, List.set_cons_zero, List.set_cons_succ]
        refine wpAnyH_take (i := 3) (v := ?_) (by simp only [List.getElem?_toArray, List.getElem?_cons_succ, List.getElem?_cons_zero]; rfl) (by kernel_rfl) (by kernel_rfl) (by kernel_rfl) (fun _ _ _ h => h) (Or.inl ⟨by rfl, ?_⟩) (by assumption) ?_
        rotate_left
        · (intro w hSw; (try dsimp only at hSw); go_simp; try with_reducible rfl)
        try simp only [Act.put, List.setIfInBounds_toArray, List.set_cons_zero, List.set_cons_succ]
        refine wpAnyH_take (i := 4) (v := ?_) (by simp only [List.getElem?_toArray, List.getElem?_cons_succ, List.getElem?_cons_zero]; rfl) (by kernel_rfl) (by kernel_rfl) (by kernel_rfl) (fun _ _ _ h => h) (Or.inl ⟨by rfl, ?_⟩) (by assumption) ?_
        rotate_left
        · (intro w hSw; (try dsimp only at hSw); go_simp; try with_reducible rfl)
        try simp only [Act.put, List.setIfInBounds_toArray, List.set_cons_zero, List.set_cons_succ]
        refine wpAnyH_take (i := 5) (v := ?_) (by simp only [List.getElem?_toArray, List.getElem?_cons_succ, List.getElem?_cons_zero]; rfl) (by kernel_rfl) (by kernel_rfl) (by kernel_rfl) (fun _ _ _ h => h) (Or.inl ⟨by rfl, ?_⟩) (by assumption) ?_
        rotate_left
        · (intro w hSw; (try dsimp only at hSw); go_simp; try with_reducible rfl)
        try simp only [Act.put, List.setIfInBounds_toArray, List.set_cons_zero, List.set_cons_succ]
        refine wpAnyH_take (i := 6) (v := ?_) (by simp only [List.getElem?_toArray, List.getElem?_cons_succ, List.getElem?_cons_zero]; rfl) (by kernel_rfl) (by kernel_rfl) (by kernel_rfl) (fun _ _ _ h => h) (Or.inl ⟨by rfl, ?_⟩) (by assumption) ?_
        rotate_left
        · (intro w hSw; (try dsimp only at hSw); go_simp; try with_reducible rfl)
        try simp only [Act.put, List.setIfInBounds_toArray, List.set_cons_zero, List.set_cons_succ]
        refine wpAnyH_take (i := 7) (v := ?_) (by simp only [List.getElem?_toArray, List.getElem?_cons_succ, List.getElem?_cons_zero]; rfl) (by kernel_rfl) (by kernel_rfl) (by kernel_rfl) (fun _ _ _ h => h) (Or.inl ⟨by rfl, ?_⟩) (by assumption) ?_
        rotate_left
        · (intro w hSw; (try dsimp only at hSw); go_simp; try with_reducible rfl)
        try simp only [Act.put, List.setIfInBounds_toArray, List.set_cons_zero, List.set_cons_succ]
        refine wpAnyH_take (i := 8) (v := ?_) (by simp only [List.getElem?_toArray, List.getElem?_cons_succ, List.getElem?_cons_zero]; rfl) (by kernel_rfl) (by kernel_rfl) (by kernel_rfl) (fun _ _ _ h => h) (Or.inl ⟨by rfl, ?_⟩) (by assumption) ?_
        rotate_left
        · (intro w hSw; (try dsimp only at hSw); go_simp; try with_reducible rfl)
        try simp only [Act.put, List.setIfInBounds_toArray, List.set_cons_zero, List.set_cons_succ]
        refine wpAnyH_take (i := 9) (v := ?_) (by simp only [List.getElem?_toArray, List.getElem?_cons_succ, List.getElem?_cons_zero]; rfl) (by kernel_rfl) (by kernel_rfl) (by kernel_rfl) (fun _ _ _ h => h) (Or.inl ⟨by rfl, ?_⟩) (by assumption) ?_
        rotate_left
        · (intro w hSw; (try dsimp only at hSw); go_simp; try with_reducible rfl)
        try simp only [Act.put, List.setIfInBounds_toArray, List.set_cons_zero, List.set_cons_succ]
        refine wpAnyH_take (i := 10) (v := ?_) (by simp only [List.getElem?_toArray, List.getElem?_cons_succ, List.getElem?_cons_zero]; rfl) (by kernel_rfl) (by kernel_rfl) (by kernel_rfl) (fun _ _ _ h => h) (Or.inl ⟨by rfl, ?_⟩) (by assumption) ?_
        rotate_left
        · (intro w hSw; (try dsimp only at hSw); go_simp; try with_reducible rfl)
        try simp only [Act.put, List.setIfInBounds_toArray, List.set_cons_zero, List.set_cons_succ]
        refine wpAnyH_take (i := 11) (v := ?_) (by simp only [List.getElem?_toArray, List.getElem?_cons_succ, List.getElem?_cons_zero]; rfl) (by kernel_rfl) (by kernel_rfl) (by kernel_rfl) (fun _ _ _ h => h) (Or.inl ⟨by rfl, ?_⟩) (by assumption) ?_
        rotate_left
        · (intro w hSw; (try dsimp only at hSw); go_simp; try with_reducible rfl)
        try simp only [Act.put, List.setIfInBounds_toArray, List.set_cons_zero, List.set_cons_succ]
        refine wpAnyH_take (i := 12) (v := ?_) (by simp only [List.getElem?_toArray, List.getElem?_cons_succ, List.getElem?_cons_zero]; rfl) (by kernel_rfl) (by kernel_rfl) (by kernel_rfl) (fun _ _ _ h => h) (Or.inl ⟨by rfl, ?_⟩) (by assumption) ?_
        rotate_left
        · (intro w hSw; (try dsimp only at hSw); go_simp; try with_reducible rfl)
        try simp only [Act.put, List.setIfInBounds_toArray, List.set_cons_zero, List.set_cons_succ]
        refine wpAnyH_take (i := 13) (v := ?_) (by simp only [List.getElem?_toArray, List.getElem?_cons_succ, List.getElem?_cons_zero]; rfl) (by kernel_rfl) (by kernel_rfl) (by kernel_rfl) (fun _ _ _ h => h) (Or.inl ⟨by rfl, ?_⟩) (by assumption) ?_
        rotate_left
        · (intro w hSw; (try dsimp only at hSw); go_simp; try with_reducible rfl)
        try simp only [Act.put, List.setIfInBounds_toArray, List.set_cons_zero, List.set_cons_succ]
        refine wpAnyH_take (i := 14) (v := ?_) (by simp only [List.getElem?_toArray, List.getElem?_cons_succ, List.getElem?_cons_zero]; rfl) (by kernel_rfl) (by kernel_rfl) (by kernel_rfl) (fun _ _ _ h => h) (Or.inl ⟨by rfl, ?_⟩) (by assumption) ?_
        rotate_left
        · (intro w hSw; (try dsimp only at hSw); go_simp; try with_reducible rfl)
        try simp only [Act.put, List.setIfInBounds_toArray, List.set_cons_zero, List.set_cons_succ]
        refine wpAnyH_take (i := 15) (v := ?_) (by simp only [List.getElem?_toArray, List.getElem?_cons_succ, List.getElem?_cons_zero]; rfl) (by kernel_rfl) (by kernel_rfl) (by kernel_rfl) (fun _ _ _ h => h) (Or.inl ⟨by rfl, ?_⟩) (by assumption) ?_
        rotate_left
        · (intro w hSw; (try dsimp only at hSw); go_simp; try with_reducible rfl)
        try simp only [Act.put, List.setIfInBounds_toArray, List.set_cons_zero, List.set_cons_succ]
        refine wpAnyH_take (i := 16) (v := ?_) (by simp only [List.getElem?_toArray, List.getElem?_cons_succ, List.getElem?_cons_zero]; rfl) (by kernel_rfl) (by kernel_rfl) (by kernel_rfl) (fun _ _ _ h => h) (Or.inl ⟨by rfl, ?_⟩) (by assumption) ?_
        rotate_left
        · (intro w hSw; (try dsimp only at hSw); go_simp; try with_reducible rfl)
        try simp only [Act.put, List.setIfInBounds_toArray, List.set_cons_zero, List.set_cons_succ]
        refine wpAnyH_done (by kernel_rfl) ?_ _
        refine NoPanic.normal ?_
        clear hHeld
        go_wp2
        go_ret
        exact ⟨by rw [HE.out]; rfl, hb.trans ((Below.drew hb2).mono hb.size)⟩
      rw [decide_eq_true he] at hE
      try dsimp only at hE
      have HT1 := Lib.hid (HTK.out he)
      clear he
      refine wp_region_noPanic ?_
      refine wp_region_held_drew (S := (fun w' => w'.cell? ⟨ab, ao + i * 2 + 1, none⟩ = some (.slice (some ⟨xb, xo, none⟩) nd xc) ∧ w'.cell? ⟨bb, bo + i * 2 + 1, none⟩ = some (.slice (some ⟨yb, yo, none⟩) nd yc) ∧ w'.cell? ⟨xb, xo + j * 2, none⟩ = some (.string ⟨xp.toArray⟩) ∧ w'.cell? ⟨xb, xo + j * 2 + 1, none⟩ = some (.int .u64 (xq : Int)) ∧ w'.cell? ⟨yb, yo + j * 2, none⟩ = some (.string ⟨yp.toArray⟩) ∧ w'.cell? ⟨yb, yo + j * 2 + 1, none⟩ = some (.int .u64 (yq : Int)))) (by kernel_rfl) (⟨Dots.keepC s1 (Below.drew (Below.refl _ _)), Dots.keepC t1 (Below.drew (Below.refl _ _)), Dots.keepC e0 (Below.drew (Below.refl _ _)), Dots.keepC e1 (Below.drew (Below.refl _ _)), Dots.keepC g0 (Below.drew (Below.refl _ _)), Dots.keepC g1 (Below.drew (Below.refl _ _))⟩) (fun hHeld => ?_)
      refine wpAnyH_take (i := 0) (v := ?_) (by simp only [List.getElem?_toArray, List.getElem?_cons_zero]; rfl) (by kernel_rfl) (by kernel_rfl) (by kernel_rfl) (fun _ _ _ h => h) (Or.inl ⟨by rfl, ?_⟩) (by assumption) ?_
      rotate_left
      · (intro w hSw; (try dsimp only at hSw); go_simp; try with_reducible rfl)
      try simp only [Act.put, List.setIfInBounds_toArray, List.set_cons_zero, List.set_cons_succ]
      refine wpAnyH_take (i := 1) (v := ?_) (by simp only [List.getElem?_toArray, List.getElem?_cons_succ, List.getElem?_cons_zero]; rfl) (by kernel_rfl) (by kernel_rfl) (by kernel_rfl) (fun _ _ _ h => h) (Or.inl ⟨by rfl, ?_⟩) (by assumption) ?_
      rotate_left
      · (intro w hSw; (try dsimp only at hSw); go_simp; try with_reducible rfl)
      try simp only [Act.put, List.setIfInBounds_toArray, List.set_cons_zero, List.set_cons_succ]
      refine wpAnyH_take (i := 2) (v := ?_) (by simp only [List.getElem?_toArray, List.getElem?_cons_succ, List.getElem?_cons_zero]; rfl) (by kernel_rfl) (by kernel_rfl) (by kernel_rfl) (fun _ _ _ h => h) (Or.inl ⟨by rfl, ?_⟩) (by assumption) ?_
      rotate_left
      · (intro w hSw; (try dsimp only at hSw); go_simp; try with_reducible rfl)
      try simp only [Act.put, List.setIfInBounds_toArray, List.set_cons_zero, List.set_cons_succ]
      refine wpAnyH_take (i := 3) (v := ?_) (by simp only [List.getElem?_toArray, List.getElem?_cons_succ, List.getElem?_cons_zero]; rfl) (by kernel_rfl) (by kernel_rfl) (by kernel_rfl) (fun _ _ _ h => h) (Or.inl ⟨by rfl, ?_⟩) (by assumption) ?_
      rotate_left
      · (intro w hSw; (try dsimp only at hSw); go_simp; try with_reducible rfl)
      try simp only [Act.put, List.setIfInBounds_toArray, List.set_cons_zero, List.set_cons_succ]
      refine wpAnyH_take (i := 4) (v := ?_) (by simp only [List.getElem?_toArray, List.getElem?_cons_succ, List.getElem?_cons_zero]; rfl) (by kernel_rfl) (by kernel_rfl) (by kernel_rfl) (fun _ _ _ h => h) (Or.inl ⟨by rfl, ?_⟩) (by assumption) ?_
      rotate_left
      · (intro w hSw; (try dsimp only at hSw); go_simp; try with_reducible rfl)
      try simp only [Act.put, List.setIfInBounds_toArray, List.set_cons_zero, List.set_cons_succ]
      refine wpAnyH_take (i := 5) (v := ?_) (by simp only [List.getElem?_toArray, List.getElem?_cons_succ, List.getElem?_cons_zero]; rfl) (by kernel_rfl) (by kernel_rfl) (by kernel_rfl) (fun _ _ _ h => h) (Or.inl ⟨by rfl, ?_⟩) (by assumption) ?_
      rotate_left
      · (intro w hSw; (try dsimp only at hSw); go_simp; try with_reducible rfl)
      try simp only [Act.put, List.setIfInBounds_toArray, List.set_cons_zero, List.set_cons_succ]
      refine wpAnyH_take (i := 6) (v := ?_) (by simp only [List.getElem?_toArray, List.getElem?_cons_succ, List.getElem?_cons_zero]; rfl) (by kernel_rfl) (by kernel_rfl) (by kernel_rfl) (fun _ _ _ h => h) (Or.inl ⟨by rfl, ?_⟩) (by assumption) ?_
      rotate_left
      · (intro w hSw; (try dsimp only at hSw); go_simp; try with_reducible rfl)
      try simp only [Act.put, List.setIfInBounds_toArray, List.set_cons_zero, List.set_cons_succ]
      refine wpAnyH_take (i := 7) (v := ?_) (by simp only [List.getElem?_toArray, List.getElem?_cons_succ, List.getElem?_cons_zero]; rfl) (by kernel_rfl) (by kernel_rfl) (by kernel_rfl) (fun _ _ _ h => h) (Or.inl ⟨by rfl, ?_⟩) (by assumption) ?_
      rotate_left
      · (intro w hSw; (try dsimp only at hSw); go_simp; try with_reducible rfl)
      try simp only [Act.put, List.setIfInBounds_toArray, List.set_cons_zero, List.set_cons_succ]
      refine wpAnyH_take (i := 8) (v := ?_) (by simp only [List.getElem?_toArray, List.getElem?_cons_succ, List.getElem?_cons_zero]; rfl) (by kernel_rfl) (by kernel_rfl) (by kernel_rfl) (fun _ _ _ h => h) (Or.inl ⟨by rfl, ?_⟩) (by assumption) ?_
      rotate_left
      · (intro w hSw; (try dsimp only at hSw); go_simp; try with_reducible rfl)
      try simp only [Act.put, List.setIfInBounds_toArray, List.set_cons_zero, List.set_cons_succ]
      refine wpAnyH_take (i := 9) (v := ?_) (by simp only [List.getElem?_toArray, List.getElem?_cons_succ, List.getElem?_cons_zero]; rfl) (by kernel_rfl) (by kernel_rfl) (by kernel_rfl) (fun _ _ _ h => h) (Or.inl ⟨by rfl, ?_⟩) (by assumption) ?_
      rotate_left
      · (intro w hSw; (try dsimp only at hSw); go_simp; try with_reducible rfl)
      try simp only [Act.put, List.setIfInBounds_toArray, List.set_cons_zero, List.set_cons_succ]
      refine wpAnyH_take (i := 10) (v := ?_) (by simp only [List.getElem?_toArray, List.getElem?_cons_succ, List.getElem?_cons_zero]; rfl) (by kernel_rfl) (by kernel_rfl) (by kernel_rfl) (fun _ _ _ h => h) (Or.inl ⟨by rfl, ?_⟩) (by assumption) ?_
      rotate_left
      · (intro w hSw; (try dsimp only at hSw); go_simp; try with_reducible rfl)
      try simp only [Act.put, List.setIfInBounds_toArray, List.set_cons_zero, List.set_cons_succ]
      refine wpAnyH_take (i := 11) (v := ?_) (by simp only [List.getElem?_toArray, List.getElem?_cons_succ, List.getElem?_cons_zero]; rfl) (by kernel_rfl) (by kernel_rfl) (by kernel_rfl) (fun _ _ _ h => h) (Or.inl ⟨by rfl, ?_⟩) (by assumption) ?_
      rotate_left
      · (intro w hSw; (try dsimp only at hSw); go_simp; try with_reducible rfl)
      try simp only [Act.put, List.setIfInBounds_toArray, List.set_cons_zero, List.set_cons_succ]
      refine wpAnyH_take (i := 12) (v := ?_) (by simp only [List.getElem?_toArray, List.getElem?_cons_succ, List.getElem?_cons_zero]; rfl) (by kernel_rfl) (by kernel_rfl) (by kernel_rfl) (fun _ _ _ h => h) (Or.inl ⟨by rfl, ?_⟩) (by assumption) ?_
      rotate_left
      · (intro w hSw; (try dsimp only at hSw); go_simp; try with_reducible rfl)
      try simp only [Act.put, List.setIfInBounds_toArray, List.set_cons_zero, List.set_cons_succ]
      refine wpAnyH_take (i := 13) (v := ?_) (by simp only [List.getElem?_toArray, List.getElem?_cons_succ, List.getElem?_cons_zero]; rfl) (by kernel_rfl) (by kernel_rfl) (by kernel_rfl) (fun _ _ _ h => h) (Or.inl ⟨by rfl, ?_⟩) (by assumption) ?_
      rotate_left
      · (intro w hSw; (try dsimp only at hSw); go_simp; try with_reducible rfl)
      try simp only [Act.put, List.setIfInBounds_toArray, List.set_cons_zero, List.set_cons_succ]
      refine wpAnyH_take (i := 14) (v := ?_) (by simp only [List.getElem?_toArray, List.getElem?_cons_succ, List.getElem?_cons_zero]; rfl) (by kernel_rfl) (by kernel_rfl) (by kernel_rfl) (fun _ _ _ h => h) (Or.inl ⟨by rfl, ?_⟩) (by assumption) ?_
      rotate_left
      · (intro w hSw; (try dsimp only at hSw); go_simp; try with_reducible rfl)
      try simp only [Act.put, List.setIfInBounds_toArray, List.set_cons_zero, List.set_cons_succ]
      refine wpAnyH_take (i := 15) (v := ?_) (by simp only [List.getElem?_toArray, List.getElem?_cons_succ, List.getElem?_cons_zero]; rfl) (by kernel_rfl) (by kernel_rfl) (by kernel_rfl) (fun _ _ _ h => h) (Or.inl ⟨by rfl, ?_⟩) (by assumption) ?_
      rotate_left
      · (intro w hSw; (try dsimp only at hSw); go_simp; try with_reducible rfl)
      try simp only [Act.put, List.setIfInBounds_toArray, List.set_cons_zero, List.set_cons_succ]
      refine wpAnyH_take (i := 16) (v := ?_) (by simp only [List.getElem?_toArray, List.getElem?_cons_succ, List.getElem?_cons_zero]; rfl) (by kernel_rfl) (by kernel_rfl) (by kernel_rfl) (fun _ _ _ h => h) (Or.inl ⟨by rfl, ?_⟩) (by assumption) ?_
      rotate_left
      · (intro w hSw; (try dsimp only at hSw); go_simp; try with_reducible rfl)
      try simp only [Act.put, List.setIfInBounds_toArray, List.set_cons_zero, List.set_cons_succ]
      refine wpAnyH_done (by kernel_rfl) ?_ _
      refine NoPanic.normal ?_
      clear hHeld
      have hjw : wrap64 ((j : Int) + 1) = ((j + 1 : Nat) : Int) := by have := HJ1.out; have := HXL.out; unfold wrap64; omega
      go_wp2
      go_roundw
      case rel => exact ⟨j + 1, by have := HJ1.out; omega, by rw [hjw], HT1, Below.drew hb2⟩
      case measure => rw [hjw]; have := HJ1.out; simp only [intOf]; omega
end RefBag
end Go.Proofs.Ytnlbgjghckbbcaa

namespace Go.Proofs.Ytnlbgjghckbbcaa
namespace RefBag
open Go.RowKit Go.Proofs.Ytnlbgjghckbbcaa.Mark Go.Proofs.Ytnlbgjghckbbcaa.Dots Go.Proofs.Ytnlbgjghckbbcaa.Bag
theorem ofT_snoc (L : List It) (x : It) (t : List UInt8) : ofT (L ++ [x]) t = if x.t = t then x.d.foldl putD (ofT L t) else ofT L t := by
  unfold ofT
  rw [List.filter_append, List.flatMap_append, List.foldl_append]
  by_cases h : x.t = t
  · rw [if_pos h]; simp [h]
  · rw [if_neg h]; simp [h]
set_option maxRecDepth 100000 in
set_option maxHeartbeats 2000000 in
theorem of_any (L : List It) (text : List UInt8) (a : Option Addr) (n c : Nat) (w : World) (hL : Bag.Lies w a n L) (hn : n ≤ 1099511627776) (hf : (pls L).length ≤ 1099511627760) :
    Calls Try.prog 15 #[.slice a n c, .string ⟨text.toArray⟩] w fun e w' => ∃ a' c', e = .returned (.slice a' (ofT L text).length c') ∧ Row.Lies dE w' a' (ofT L text).length (ofT L text) ∧ Below w.heap.size w w' := by
  obtain ⟨J, rfl, hJ, hD⟩ := hL
  have h0 := Below.refl w.heap.size w
  have HJ := Lib.hid hJ
  have HD := Lib.hid hD
  have HF := Lib.hid hf
  have HN := Lib.hid hJ.1
  have HNN := Lib.hid hn
  have HO0 : Hid (Row.Lies dE w none (ofT ((J.map RI.it).take 0) text).length (ofT ((J.map RI.it).take 0) text)) := Lib.hid (Row.Lies.nil _ _)
  have HK0 : Hid ((ofT ((J.map RI.it).take 0) text).length ≤ (pls ((J.map RI.it).take 0)).length) := Lib.hid (Nat.zero_le _)
  clear hJ hD hf
  go_enter Try.func15, Try.ntmps15
  go_wp2_with fail
  go_loopw [5, 6] (fun ov iv wr => ∃ (i : Nat) (oa : Option Addr) (oc : Nat) (K : List M), i ≤ n ∧ iv = .int .i64 i ∧ ov = .slice oa K.length oc ∧ Hid (K = ofT ((J.map RI.it).take i) text) ∧ Hid (Row.Lies dE wr oa K.length K) ∧ Hid (K.length ≤ (pls ((J.map RI.it).take i)).length) ∧ Below w.heap.size w wr) (fun _ iv _ => n - (intOf iv).toNat)
  case atStart => exact ⟨0, none, 0, [], by omega, rfl, rfl, Lib.hid rfl, HO0, HK0, h0⟩
  case round =>
    clear HO0 HK0 h0
    obtain ⟨i, oa, oc, K, hi, rfl, rfl, HK, HL, HB, hb⟩ := hrel
    by_cases hlt : i < n
    rotate_left
    · obtain rfl : i = n := by omega
      have d1 : decide ((i : Int) < (i : Int)) = false := decide_eq_false (by omega)
      have HE : Hid (ofT (J.map RI.it) text = K) := Lib.hid (by
        rw [HK.out, List.take_of_length_le (by rw [List.length_map]; have := HN.out; omega)])
      go_wp2
      go_ret
      exact ⟨oa, oc, by rw [HE.out]; rfl, by rw [HE.out]; exact HL.out, hb⟩
    have d1 : decide ((i : Int) < (n : Int)) = true := decide_eq_true (by omega)
    have j1 : (0 : Int) ≤ (i : Int) := by omega
    have j2 : (i : Int) < (n : Int) := by omega
    have hil : i < J.length := by have := HN.out; omega
    have hml : i < (J.map RI.it).length := by rw [List.length_map]; exact hil
    obtain ⟨b, o, rfl, hc⟩ := items_at (HJ.out.below hb) (by omega)
    obtain ⟨c0, c1⟩ := hc i hil
    have HDX := Lib.hid (HD.out _ (List.getElem_mem hil))
    obtain ⟨hsl, -⟩ := pls_sub hml
    have hts : (J.map RI.it).take (i + 1) = (J.map RI.it).take i ++ [(J.map RI.it)[i]] := List.take_succ_eq_append_getElem hml
    have hpt := pls_take hml
    rw [List.getElem_map] at hts hsl hpt
    obtain ⟨x, hx⟩ : ∃ x, x = J[i] := ⟨_, rfl⟩
    rw [← hx] at c0 c1 HDX hts hsl hpt
    obtain ⟨t, xa, xc, d⟩ := x
    simp only [RI.it] at c0 c1 hts hsl hpt
    unfold Inner at HDX
    simp only at HDX
    have HST : Hid (ofT ((J.map RI.it).take (i + 1)) text = if t = text then d.foldl putD K else K) := Lib.hid (by rw [hts, ofT_snoc, ← HK.out])
    have HPL : Hid (K.length + d.length ≤ (pls ((J.map RI.it).take (i + 1))).length ∧ K.length + d.length ≤ 1099511627760) := Lib.hid (by
      have := HB.out; have := HF.out
      rw [hpt, List.length_append, onT_len]; omega)
    have HI := Lib.hid hlt
    obtain ⟨nd, hnd⟩ : ∃ k, k = d.length := ⟨_, rfl⟩
    rw [← hnd] at c1 HDX HPL
    have HND := Lib.hid hnd
    clear hc hil hml hsl hts hpt hx hlt hnd HK HB
    have C0 := Lib.hid c0
    have C1 := Lib.hid c1
    have h1 := Below.refl wr.heap.size wr
    have HL1 : Hid (Row.Lies dE wr oa ((d.take 0).foldl putD K).length ((d.take 0).foldl putD K)) := HL
    by_cases ht : t = text
    rotate_left
    · have q1 : (t == text) = false := by simpa using ht
      have HS1 : Hid (K = ofT ((J.map RI.it).take (i + 1)) text) := Lib.hid (by rw [HST.out, if_neg ht])
      clear ht HL1
      go_wp2_with fail
      go_loopw [5, 7] (fun ov jv wq => ov = .slice oa K.length oc ∧ jv = .int .i64 0 ∧ wq = wr) (fun _ _ _ => 0)
      case atStart => exact ⟨rfl, rfl, rfl⟩
      case round =>
        obtain ⟨rfl, rfl, rfl⟩ := hrel
        by_cases hnd0 : 0 < nd
        · have d2 : decide ((0 : Int) < (nd : Int)) = true := decide_eq_true (by omega)
          have d3 : decide (0 < nd) = true := decide_eq_true hnd0
          go_wp2
          go_roundw
          case rel => exact ⟨i + 1, oa, oc, K, by have := HI.out; omega, by go_num, rfl, HS1, HL, Lib.hid (by have := HPL.out; omega), hb⟩
          case measure => have := HI.out; simp [intOf]; omega
        · have d2 : decide ((0 : Int) < (nd : Int)) = false := decide_eq_false (by omega)
          have d3 : decide (0 < nd) = false := decide_eq_false hnd0
          go_wp2
          go_roundw
          case rel => exact ⟨i + 1, oa, oc, K, by have := HI.out; omega, by go_num, rfl, HS1, HL, Lib.hid (by have := HPL.out; omega), hb⟩
          case measure => have := HI.out; simp [intOf]; omega
    have q1 : (t == text) = true := by simpa using ht
    have HS1 : Hid (d.foldl putD K = ofT ((J.map RI.it).take (i + 1)) text) := Lib.hid (by rw [HST.out, if_pos ht])
    clear ht c0 c1 HL
    go_wp2_with fail
    go_loopw [5, 7] (fun ov jv wq => ∃ (j : Nat) (oa : Option Addr) (oc : Nat) (K2 : List M), j ≤ nd ∧ jv = .int .i64 j ∧ ov = .slice oa K2.length oc ∧ Hid (K2 = (d.take j).foldl putD K) ∧ Hid (Row.Lies dE wq oa K2.length K2) ∧ Hid (K2.length ≤ K.length + j) ∧ Below wr.heap.size wr wq) (fun _ jv _ => nd - (intOf jv).toNat)
    case atStart => exact ⟨0, oa, oc, K, by omega, rfl, rfl, Lib.hid rfl, HL1, Lib.hid (Nat.le_refl _), h1⟩
    case round =>
      clear HL1 h1
      obtain ⟨j, oa2, oc2, K2, hj, rfl, rfl, HK2, HL2, HB2, hb2⟩ := hrel
      have c0 := Dots.keepC C0.out hb2
      have c1 := Dots.keepC C1.out hb2
      have hbq := hb.trans (hb2.mono hb.size)
      by_cases hjd : j < nd
      rotate_left
      · obtain rfl : j = nd := by omega
        have d2 : decide ((j : Int) < (j : Int)) = false := decide_eq_false (by omega)
        have HE : Hid (K2 = ofT ((J.map RI.it).take (i + 1)) text) := Lib.hid (by
          rw [← HS1.out, HK2.out, List.take_of_length_le (by have := HND.out; omega)])
        have HBE : Hid (K2.length ≤ (pls ((J.map RI.it).take (i + 1))).length) := Lib.hid (by have := HPL.out; have := HB2.out; omega)
        go_wp2
        go_roundw
        case rel => exact ⟨i + 1, oa2, oc2, K2, by have := HI.out; omega, by go_num, rfl, HE, HL2, HBE, hbq⟩
        case measure => have := HI.out; simp [intOf]; omega
      have d2 : decide ((j : Int) < (nd : Int)) = true := decide_eq_true (by omega)
      have j3 : (0 : Int) ≤ (j : Int) := by omega
      have j4 : (j : Int) < (nd : Int) := by omega
      have hjl : j < d.length := by have := HND.out; omega
      obtain ⟨b2, o2, rfl, hc2⟩ := dots_at (Row.Lies.below HDX.out hbq) (by omega)
      obtain ⟨e0, e1⟩ := hc2 j hjl
      have hts2 : d.take (j + 1) = d.take j ++ [d[j]] := List.take_succ_eq_append_getElem hjl
      obtain ⟨m, hm⟩ : ∃ m, m = d[j] := ⟨_, rfl⟩
      rw [← hm] at e0 e1 hts2
      have HK3 : Hid (putD K2 m = (d.take (j + 1)).foldl putD K) := Lib.hid (by rw [hts2, List.foldl_append, ← HK2.out]; rfl)
      have HB3 : Hid ((putD K2 m).length ≤ K.length + (j + 1)) := Lib.hid (by have := putD_len K2 m; have := HB2.out; omega)
      have PU := Lib.hid (put_any K2 m oa2 K2.length oc2 _ HL2.out (by have := HPL.out; have := HB2.out; omega))
      have HJ1 := Lib.hid hjd
      obtain ⟨p, q⟩ := m
      simp only at e0 e1
      clear hc2 hjl hts2 hm hjd
      go_wp2_with fail
      refine PU.out.mono ?_
      rintro e w5 ⟨a5, c5, rfl, hl5, -, k5⟩
      have HL5 := Lib.hid hl5
      have hb5 := bstep hb2 k5
      have hjw : wrap64 ((j : Int) + 1) = ((j + 1 : Nat) : Int) := by have := HJ1.out; have := HPL.out; unfold wrap64; omega
      clear hl5 k5
      go_wp2
      go_roundw
      case rel => exact ⟨j + 1, a5, c5, _, by have := HJ1.out; omega, by rw [hjw], rfl, HK3, HL5, HB3, hb5⟩
      case measure => rw [hjw]; have := HJ1.out; simp only [intOf]; omega
end RefBag
end Go.Proofs.Ytnlbgjghckbbcaa

namespace Go.Proofs.Ytnlbgjghckbbcaa
namespace RefBag
open Go.RowKit Go.Proofs.Ytnlbgjghckbbcaa.Mark Go.Proofs.Ytnlbgjghckbbcaa.Dots Go.Proofs.Ytnlbgjghckbbcaa.Bag
/-- Items in a row of the call's own: each one's dots lie in the world at the start, or are the call's own; all that is its own lies below C. -/
structure Laid (w1 w : World) (B C : Nat) (v : Value) (J : List RI) : Prop where
  row : OwnI w B v J
  lt : ∀ k, v.ownBlock = some k → k < C
  each : ∀ y ∈ J, Inner w1 y ∨ (OwnD w B y.v y.d ∧ ∀ k, y.v.ownBlock = some k → k < C)
variable {w1 w w' : World} {B C : Nat} {v v' : Value} {J : List RI} {y : RI}
theorem Laid.nil (w1 w : World) (B C : Nat) : Laid w1 w B C (.slice none 0 0) [] := ⟨Row.Own.nil _ _, fun k e => by simp [Value.ownBlock] at e, fun y hy => by cases hy⟩
theorem Laid.below (h : Laid w1 w B C v J) (k : Below w.heap.size w w') : Laid w1 w' B C v J :=
  ⟨Row.Own.below h.row k, h.lt, fun y hy => (h.each y hy).imp id fun e => ⟨Row.Own.below e.1 k, e.2⟩⟩
theorem Laid.tight (h : Laid w1 w B C v J) : Laid w1 w B w.heap.size v J :=
  ⟨h.row, fun k e => (Row.Own.lt h.row k e).2, fun y hy => (h.each y hy).imp id fun e => ⟨e.1, fun k hk => (Row.Own.lt e.1 k hk).2⟩⟩
theorem Laid.kept (h : Laid w1 w B C v J) {g : Nat} (hg : w.grownBy w' (some g)) (hC : C ≤ g) : Laid w1 w' B C v J :=
  ⟨World.ownsRow.kept h.row hg (.inr fun e => by have := h.lt g e; omega), h.lt, fun y hy => (h.each y hy).imp id fun e => ⟨World.ownsRow.kept e.1 hg (.inr fun e' => by have := e.2 g e'; omega), e.2⟩⟩
theorem Laid.app (h : Laid w1 w B C v J) (ho : OwnI w' B v' (J ++ [y])) (hg : w.grownBy w' v.ownBlock) (hy : Inner w1 y ∨ OwnD w B y.v y.d) : Laid w1 w' B w'.heap.size v' (J ++ [y]) := by
  have hk : ∀ z : RI, OwnD w B z.v z.d → OwnD w' B z.v z.d := fun z hz => World.ownsRow.kept hz hg (rows_ne hz h.row ne_DI)
  refine ⟨ho, fun k e => (Row.Own.lt ho k e).2, fun z hz => ?_⟩
  rcases List.mem_append.1 hz with hz | hz
  · exact (h.each z hz).imp id fun e => ⟨hk z e.1, fun k e' => (Row.Own.lt (hk z e.1) k e').2⟩
  · rw [List.mem_singleton.1 hz]
    exact hy.imp id fun e => ⟨hk y e, fun k e' => (Row.Own.lt (hk y e) k e').2⟩
theorem Laid.lies (h : Laid w1 w B C v J) (k : Below w1.heap.size w1 w) : ∃ a c, v = .slice a J.length c ∧ Bag.Lies w a J.length (J.map RI.it) := by
  obtain ⟨a, c, rfl, -, -, hl, -⟩ := Row.Own.lies h.row
  exact ⟨a, c, rfl, J, rfl, hl, fun y hy => by
    rcases h.each y hy with e | e
    · exact e.below k
    · exact own_inner e.1⟩
theorem Laid.len (h : Laid w1 w B C v J) : ∃ a c, v = .slice a J.length c := by
  obtain ⟨a, c, rfl, -⟩ := Row.Own.lies h.row
  exact ⟨a, c, rfl⟩
/-- One dot in a new block. -/
theorem own_one (w : World) (m : M) (B : Nat) (hB : B ≤ w.heap.size) : OwnD (w.alloc (.cells #[.string ⟨m.p.toArray⟩, .int .u64 (m.n : Int)] 31)) B (.slice (some ⟨w.heap.size, 0, none⟩) 1 1) [m] :=
  Row.own_of (cur := #[.string ⟨m.p.toArray⟩, .int .u64 (m.n : Int)]) hB ((by unfold World.alloc; simp)) rfl (Nat.le_refl _) (by decide) rfl rfl
/-- What is left to lay. -/
theorem insI_len1 {t : List UInt8} {m : M} {L K X : List It} (h : insI t m false L = K ++ X) : K.length ≤ L.length + 1 := by
  have h1 := congrArg List.length h
  rw [List.length_append] at h1
  have h2 := insI_len t m false L
  simp only [Bool.false_eq_true, if_false] at h2
  omega
theorem insI_same {t : List UInt8} {m : M} {z : Bool} {x : It} {r : List It} (h : x.t = t) : insI t m z (x :: r) = ⟨x.t, putD x.d m⟩ :: insI t m true r := by
  rw [insI, if_pos h]
theorem insI_here {t : List UInt8} {m : M} {x : It} {r : List It} (h : x.t ≠ t) (k : TL t x.t) : insI t m false (x :: r) = ⟨t, [m]⟩ :: x :: insI t m true r := by
  rw [insI, if_neg h, if_pos (by simp [k])]
theorem insI_on {t : List UInt8} {m : M} {z : Bool} {x : It} {r : List It} (h : x.t ≠ t) (k : z = true ∨ ¬ TL t x.t) : insI t m z (x :: r) = x :: insI t m z r := by
  rw [insI, if_neg h, if_neg (by rcases k with k | k <;> simp [k])]
end RefBag
end Go.Proofs.Ytnlbgjghckbbcaa
