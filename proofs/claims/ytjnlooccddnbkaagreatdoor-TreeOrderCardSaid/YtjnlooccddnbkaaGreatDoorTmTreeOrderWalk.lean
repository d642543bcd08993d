/- TreeOrder: the walk. -/
import Derived.Test.YtjnlooccddnbkaaGreatDoorTmLaw
import Derived.Test.YtjnlooccddnbkaaGreatDoorTmStepIn
namespace Go.Proofs.YtjnlooccddnbkaaGreatDoor
namespace TreeOrder
open Go.RowKit Go.Proofs.YtjnlooccddnbkaaGreatDoor.Mark Go.Proofs.YtjnlooccddnbkaaGreatDoor.Dots Go.Proofs.YtjnlooccddnbkaaGreatDoor.Tree Go.Proofs.YtjnlooccddnbkaaGreatDoor.TreeLaw
theorem zero_int {w : World} : (zeroValue 3).run Tryz.prog w = .ok (.int .i64 0) w := by kernel_rfl
theorem mapped {w x y : World} {tb mb n p : Nat} {l : List It} (h : On w x tb mb n l) (k : x.grownBy y (some p)) (hp : p ≠ mb) (lo : w.heap.size ≤ p) (hm : ∃ es c, x.heap[p]? = some (.map es c)) : On w y tb mb n l :=
  ⟨But.below h.hb (but_grown k) lo h.hb.size, h.is.but (but_grown k) hp hm, h.lo⟩
theorem mem_putL {l : List It} {x y : It} (h : y ∈ putL l x) : y = x ∨ y ∈ l := by
  unfold putL at h
  split at h
  · exact mem_put x l y h
  · exact .inr h
/-- Each key is one of some steps'. -/
def Keyed (Ls : List St) (lo hi : Nat) (l : List It) : Prop := ∀ x ∈ l, ∃ j, lo ≤ j ∧ j < hi ∧ ∃ y, Ls[j]? = some y ∧ y.key = x.k
theorem Keyed.put {Ls : List St} {k : Nat} {l : List It} {x : It} {y : St} (h : Keyed Ls 0 k l) (hy : Ls[k]? = some y) (hk : y.key = x.k) : Keyed Ls 0 (k + 1) (putL l x) := fun z hz => by
  rcases mem_putL hz with rfl | hz
  · exact ⟨k, Nat.zero_le _, Nat.lt_succ_self _, y, hy, hk⟩
  · obtain ⟨j, h1, h2, h3⟩ := h z hz
    exact ⟨j, h1, by omega, h3⟩
theorem Keyed.drop {Ls : List St} {k n : Nat} {l : List It} {y : St} (h : Keyed Ls k n l) (hy : Ls[k]? = some y) : Keyed Ls (k + 1) n (Tree.drop y.key l) := fun z hz => by
  obtain ⟨h1, h2⟩ := List.mem_filter.1 hz
  obtain ⟨j, j1, j2, x, j3, j4⟩ := h z h1
  refine ⟨j, ?_, j2, x, j3, j4⟩
  have : j ≠ k := fun e => by
    subst e
    rw [hy] at j3
    cases j3
    rw [j4] at h2
    simp at h2
  omega
theorem Keyed.none {Ls : List St} {n : Nat} {l : List It} (h : Keyed Ls n n l) : l = [] := by
  cases l with
  | nil => rfl
  | cons x l =>
    obtain ⟨j, h1, h2, _⟩ := h x (List.mem_cons_self ..)
    omega

set_option maxRecDepth 100000 in
set_option maxHeartbeats 16000000 in
theorem walk (a0 : List St) (s0 : Option Addr) (c0 : Nat) (a1 : List St) (s1 : Option Addr) (c1 : Nat) (w : World) (w0 : ∀ x ∈ a0, x.Sized ∧ x.Deep w) (l0 : TreeLaw.Steps w s0 a0.length a0) (_ : a0.length ≤ 140737488351232) (w1 : ∀ x ∈ a1, x.Sized ∧ x.Deep w) (l1 : TreeLaw.Steps w s1 a1.length a1) (_ : a1.length ≤ 140737488351232) (ht : Sha.Tabs w) :
    Calls Tryz.prog 5 #[.slice s0 a0.length c0, .slice s1 a1.length c1] w fun e w' => e = .returned (.bool true) ∧ Below w.heap.size w w' := by
  have hb := Below.refl w.heap.size w
  have HT := Lib.hid ht
  clear ht
  have hmm := @run_makeMap Tryz.prog
  have HH0 := Lib.hid (fun x (k : Below w.heap.size w x) => heavy_any a0 s0 c0 x (l0.below k) (fun y hy => (w0 y hy).2.below k) (fun y hy => (w0 y hy).1))
  obtain ⟨n0, hn0⟩ : ∃ n, n = a0.length := ⟨_, rfl⟩
  rw [← hn0] at l0 HH0 ⊢
  have HN0 := Lib.hid hn0
  have W0 := Lib.hid w0
  have L0 := Lib.hid l0
  clear w0 l0 hn0
  have HH1 := Lib.hid (fun x (k : Below w.heap.size w x) => heavy_any a1 s1 c1 x (l1.below k) (fun y hy => (w1 y hy).2.below k) (fun y hy => (w1 y hy).1))
  obtain ⟨n1, hn1⟩ : ∃ n, n = a1.length := ⟨_, rfl⟩
  rw [← hn1] at l1 HH1 ⊢
  have HN1 := Lib.hid hn1
  have W1 := Lib.hid w1
  have L1 := Lib.hid l1
  clear w1 l1 hn1
  go_enter Tryz.func5, Tryz.ntmps5
  go_wp2_with fail
  refine (HH0.out _ hb).mono ?_
  rintro e vh0 ⟨r0, rfl, hr0, kh⟩
  replace hb := bstep hb kh
  have HR0 := Lib.hid hr0
  clear kh hr0 HH0
  cases r0
  rotate_left
  · skip
    go_wp2_with fail
    refine (works_any _ (HT.out.below hb)).mono ?_
    rintro e vw ⟨rfl, kw⟩
    replace hb := bstep hb kw
    go_wp2
    go_ret
    exact ⟨rfl, hb⟩
  have LT0 := Lib.hid (HR0.out rfl)
  clear HR0
  go_wp2_with fail
  refine (HH1.out _ hb).mono ?_
  rintro e vh1 ⟨r1, rfl, hr1, kh⟩
  replace hb := bstep hb kh
  have HR1 := Lib.hid hr1
  clear kh hr1 HH1
  cases r1
  rotate_left
  · skip
    go_wp2_with fail
    refine (works_any _ (HT.out.below hb)).mono ?_
    rintro e vw ⟨rfl, kw⟩
    replace hb := bstep hb kw
    go_wp2
    go_ret
    exact ⟨rfl, hb⟩
  have LT1 := Lib.hid (HR1.out rfl)
  clear HR1
  go_wp2_with fail
  refine (new_on hb).mono ?_
  rintro e vnA ⟨tbA, mbA, rfl, iA, htbA, hmbA, kn⟩
  have IA := Lib.hid iA
  have HBA : Hid (w.heap.size ≤ tbA ∧ w.heap.size ≤ mbA) := Lib.hid ⟨Nat.le_trans hb.size htbA, Nat.le_trans hb.size hmbA⟩
  replace hb := bstep hb kn
  clear iA htbA hmbA kn
  go_wp2_with fail
  refine (new_on hb).mono ?_
  rintro e vnB ⟨tbB, mbB, rfl, iB, -, hmbB, kn⟩
  have HNE : Hid (mbA ≠ mbB) := Lib.hid (by have := IA.out.is.mlt; omega)
  replace IA : Hid (On w vnB tbA mbA 0 (puts (a0.take 0))) := Lib.hid (by rw [List.take_zero]; exact IA.out.below kn)
  have IB := Lib.hid iB
  replace hb := bstep hb kn
  clear iB hmbB kn HBA
  go_wp2_with fail
  go_loopw [7] (fun iv wr => ∃ k : Nat, k ≤ n0 ∧ iv = .int .i64 k ∧ Hid (On w wr tbA mbA k (puts (a0.take k))) ∧ Hid (On w wr tbB mbB 0 [])) (fun iv _ => n0 - (intOf iv).toNat)
  case atStart => exact ⟨0, by omega, rfl, IA, IB⟩
  case round =>
    clear hb IA
    obtain ⟨k, hk, rfl, IA, IB⟩ := hrel
    have hn60 : n0 ≤ 60 := by have := LT0.out.1; have := HN0.out; omega
    by_cases hlt : k < n0
    · skip
      have hll : k < a0.length := by have := HN0.out; omega
      obtain ⟨b, o, rfl, hcell⟩ := steps_at L0.out (by omega)
      obtain ⟨x0, x1, x2, x3⟩ := hcell k hll
      have hmem := List.getElem_mem hll
      have hdk := (W0.out _ hmem).2
      have hok := step_ok (LT0.out.2 _ hmem) (W0.out _ hmem).1
      have hbl := World.block_lt_of_cell? _ _ x0
      have hps := puts_succ hll
      obtain ⟨x, hx⟩ : ∃ x, x = a0[k] := ⟨_, rfl⟩
      rw [← hx] at x0 x1 x2 x3 hdk hok hps
      clear hx hmem hcell
      obtain ⟨d, key, bs, ms, mc, A⟩ := x
      unfold St.Deep at hdk
      simp only at x0 x1 x2 x3 hdk hok
      have dA := Lib.hid (hdk.below IA.out.hb)
      have OK := Lib.hid hok
      have HK := Lib.hid hlt
      have HBL : Hid (b < w.heap.size) := Lib.hid hbl
      obtain ⟨na, hna⟩ : ∃ n, n = A.length := ⟨_, rfl⟩
      rw [← hna] at x3 dA
      have HNA := Lib.hid hna
      have y0 := Dots.keepC x0 IA.out.hb
      have y1 := Dots.keepC x1 IA.out.hb
      have y2 := Dots.keepC x2 IA.out.hb
      have y3 := Dots.keepC x3 IA.out.hb
      have d1 : decide ((k : Int) < (n0 : Int)) = true := decide_eq_true (by omega)
      have j1 : (0 : Int) ≤ (k : Int) := by omega
      have j2 : (k : Int) < (n0 : Int) := by omega
      clear hok hlt x0 x1 x2 x3 hbl hna hdk hll
      have HPS := Lib.hid hps
      clear hps
      go_wp2_with fail
      refine wp_region_noPanic ?_
      refine wp_region_held_drew (S := (fun w' => w'.cell? ⟨b, o + k * 4 + 1, none⟩ = some (.string ⟨key.toArray⟩) ∧ w'.cell? ⟨b, o + k * 4 + 2, none⟩ = some (.string ⟨bs.toArray⟩) ∧ w'.cell? ⟨b, o + k * 4 + 3, none⟩ = some (.slice ms na mc))) (by kernel_rfl) (⟨y1, y2, y3⟩) (fun hHeld => ?_)
      refine wpAnyH_take (i := 0) (v := ?_) (by simp only [List.getElem?_toArray, List.getElem?_cons_zero]; rfl) (by kernel_rfl) (by kernel_rfl) (by kernel_rfl) (fun _ _ _ h => h) (Or.inl ⟨by rfl, ?_⟩) (by assumption) ?_
      rotate_left
      · (intro w hSw; (try dsimp only at hSw); go_simp; try with_reducible rfl)
      try simp only [Act.put, List.setIfInBounds_toArray, List.set_cons_zero, List.set_cons_succ]
      refine wpAnyH_take (i := 1) (v := ?_) (by simp only [List.getElem?_toArray, List.getElem?_cons_succ, List.getElem?_cons_zero]; rfl) (by kernel_rfl) (by kernel_rfl) (by kernel_rfl) (fun _ _ _ h => h) (Or.inl ⟨by rfl, ?_⟩) (by assumption) ?_
      rotate_left
      · (intro w hSw; (try dsimp only at hSw); go_simp; try with_reducible rfl)
      try simp only [Act.put, List.setIfInBounds_toArray, List.set_cons_zero, List.set_cons_succ]
      refine wpAnyH_take (i := 2) (v := ?_) (by simp only [List.getElem?_toArray, List.getElem?_cons_succ, List.getElem?_cons_zero]; rfl) (by kernel_rfl) (by kernel_rfl) (by kernel_rfl) (fun _ _ _ h => h) (Or.inl ⟨by rfl, ?_⟩) (by assumption) ?_
      rotate_left
      · (intro w hSw; (try dsimp only at hSw); go_simp; try with_reducible rfl)
      try simp only [Act.put, List.setIfInBounds_toArray, List.set_cons_zero, List.set_cons_succ]
      refine wpAnyH_take (i := 3) (v := ?_) (by simp only [List.getElem?_toArray, List.getElem?_cons_succ, List.getElem?_cons_zero]; rfl) (by kernel_rfl) (by kernel_rfl) (by kernel_rfl) (fun _ _ _ h => h) (Or.inl ⟨by rfl, ?_⟩) (by assumption) ?_
      rotate_left
      · (intro w hSw; (try dsimp only at hSw); go_simp; try with_reducible rfl)
      try simp only [Act.put, List.setIfInBounds_toArray, List.set_cons_zero, List.set_cons_succ]
      refine wpAnyH_take (i := 4) (v := ?_) (by simp only [List.getElem?_toArray, List.getElem?_cons_succ, List.getElem?_cons_zero]; rfl) (by kernel_rfl) (by kernel_rfl) (by kernel_rfl) (fun _ _ _ h => h) (Or.inl ⟨by rfl, ?_⟩) (by assumption) ?_
      rotate_left
      · (intro w hSw; (try dsimp only at hSw); go_simp; try with_reducible rfl)
      try simp only [Act.put, List.setIfInBounds_toArray, List.set_cons_zero, List.set_cons_succ]
      refine wpAnyH_take (i := 5) (v := ?_) (by simp only [List.getElem?_toArray, List.getElem?_cons_succ, List.getElem?_cons_zero]; rfl) (by kernel_rfl) (by kernel_rfl) (by kernel_rfl) (fun _ _ _ h => h) (Or.inl ⟨by rfl, ?_⟩) (by assumption) ?_
      rotate_left
      · (intro w hSw; (try dsimp only at hSw); go_simp; try with_reducible rfl)
      try simp only [Act.put, List.setIfInBounds_toArray, List.set_cons_zero, List.set_cons_succ]
      refine wpAnyH_take (i := 6) (v := ?_) (by simp only [List.getElem?_toArray, List.getElem?_cons_succ, List.getElem?_cons_zero]; rfl) (by kernel_rfl) (by kernel_rfl) (by kernel_rfl) (fun _ _ _ h => h) (Or.inl ⟨by rfl, ?_⟩) (by assumption) ?_
      rotate_left
      · (intro w hSw; (try dsimp only at hSw); go_simp; try with_reducible rfl)
      try simp only [Act.put, List.setIfInBounds_toArray, List.set_cons_zero, List.set_cons_succ]
      refine wpAnyH_take (i := 7) (v := ?_) (by simp only [List.getElem?_toArray, List.getElem?_cons_succ, List.getElem?_cons_zero]; rfl) (by kernel_rfl) (by kernel_rfl) (by kernel_rfl) (fun _ _ _ h => h) (Or.inl ⟨by rfl, ?_⟩) (by assumption) ?_
      rotate_left
      · (intro w hSw; (try dsimp only at hSw); go_simp; try with_reducible rfl)
      try simp only [Act.put, List.setIfInBounds_toArray, List.set_cons_zero, List.set_cons_succ]
      refine wpAnyH_take (i := 8) (v := ?_) (by simp only [List.getElem?_toArray, List.getElem?_cons_succ, List.getElem?_cons_zero]; rfl) (by kernel_rfl) (by kernel_rfl) (by kernel_rfl) (fun _ _ _ h => h) (Or.inl ⟨by rfl, ?_⟩) (by assumption) ?_
      rotate_left
      · (intro w hSw; (try dsimp only at hSw); go_simp; try with_reducible rfl)
      try simp only [Act.put, List.setIfInBounds_toArray, List.set_cons_zero, List.set_cons_succ]
      refine wpAnyH_take (i := 9) (v := ?_) (by simp only [List.getElem?_toArray, List.getElem?_cons_succ, List.getElem?_cons_zero]; rfl) (by kernel_rfl) (by kernel_rfl) (by kernel_rfl) (fun _ _ _ h => h) (Or.inl ⟨by rfl, ?_⟩) (by assumption) ?_
      rotate_left
      · (intro w hSw; (try dsimp only at hSw); go_simp; try with_reducible rfl)
      try simp only [Act.put, List.setIfInBounds_toArray, List.set_cons_zero, List.set_cons_succ]
      refine wpAnyH_take (i := 10) (v := ?_) (by simp only [List.getElem?_toArray, List.getElem?_cons_succ, List.getElem?_cons_zero]; rfl) (by kernel_rfl) (by kernel_rfl) (by kernel_rfl) (fun _ _ _ h => h) (Or.inl ⟨by rfl, ?_⟩) (by assumption) ?_
      rotate_left
      · (intro w hSw; (try dsimp only at hSw); go_simp; try with_reducible rfl)
      try simp only [Act.put, List.setIfInBounds_toArray, List.set_cons_zero, List.set_cons_succ]
      refine wpAnyH_take (i := 11) (v := ?_) (by simp only [List.getElem?_toArray, List.getElem?_cons_succ, List.getElem?_cons_zero]; rfl) (by kernel_rfl) (by kernel_rfl) (by kernel_rfl) (fun _ _ _ h => h) (Or.inl ⟨by rfl, ?_⟩) (by assumption) ?_
      rotate_left
      · (intro w hSw; (try dsimp only at hSw); go_simp; try with_reducible rfl)
      try simp only [Act.put, List.setIfInBounds_toArray, List.set_cons_zero, List.set_cons_succ]
      refine wpAnyH_take (i := 12) (v := ?_) (by simp only [List.getElem?_toArray, List.getElem?_cons_succ, List.getElem?_cons_zero]; rfl) (by kernel_rfl) (by kernel_rfl) (by kernel_rfl) (fun _ _ _ h => h) (Or.inl ⟨by rfl, ?_⟩) (by assumption) ?_
      rotate_left
      · (intro w hSw; (try dsimp only at hSw); go_simp; try with_reducible rfl)
      try simp only [Act.put, List.setIfInBounds_toArray, List.set_cons_zero, List.set_cons_succ]
      refine wpAnyH_take (i := 13) (v := ?_) (by simp only [List.getElem?_toArray, List.getElem?_cons_succ, List.getElem?_cons_zero]; rfl) (by kernel_rfl) (by kernel_rfl) (by kernel_rfl) (fun _ _ _ h => h) (Or.inl ⟨by rfl, ?_⟩) (by assumption) ?_
      rotate_left
      · (intro w hSw; (try dsimp only at hSw); go_simp; try with_reducible rfl)
      try simp only [Act.put, List.setIfInBounds_toArray, List.set_cons_zero, List.set_cons_succ]
      refine wpAnyH_take (i := 14) (v := ?_) (by simp only [List.getElem?_toArray, List.getElem?_cons_succ, List.getElem?_cons_zero]; rfl) (by kernel_rfl) (by kernel_rfl) (by kernel_rfl) (fun _ _ _ h => h) (Or.inl ⟨by rfl, ?_⟩) (by assumption) ?_
      rotate_left
      · (intro w hSw; (try dsimp only at hSw); go_simp; try with_reducible rfl)
      try simp only [Act.put, List.setIfInBounds_toArray, List.set_cons_zero, List.set_cons_succ]
      refine wpAnyH_take (i := 15) (v := ?_) (by simp only [List.getElem?_toArray, List.getElem?_cons_succ, List.getElem?_cons_zero]; rfl) (by kernel_rfl) (by kernel_rfl) (by kernel_rfl) (fun _ _ _ h => h) (Or.inl ⟨by rfl, ?_⟩) (by assumption) ?_
      rotate_left
      · (intro w hSw; (try dsimp only at hSw); go_simp; try with_reducible rfl)
      try simp only [Act.put, List.setIfInBounds_toArray, List.set_cons_zero, List.set_cons_succ]
      refine wpAnyH_ready (rs := [16]) (by kernel_rfl) (by simp) ?_
      refine AllReadyH.cons (by simp only [List.getElem?_toArray, List.getElem?_cons_succ, List.getElem?_cons_zero]; rfl) (fun K hK => ?_) AllReadyH.nil
      go_simp
      go_at_call 14
      refine (copied_any A ms na mc _ (dA.out.below (Below.drew (Below.refl _ _))) (by have := OK.out.1.2; have := HNA.out; omega)).mono ?_
      rintro e v7 ⟨z2, q2, rfl, t2, -, k7⟩
      have k8 : Below wr.heap.size wr v7 := (Below.drew (Below.refl _ _)).trans k7
      have I7 := Lib.hid (IA.out.below k8)
      have IB7 := Lib.hid (IB.out.below k8)
      have T2 := Lib.hid t2
      have y4 := Dots.keepC y1 k8
      have y5 := Dots.keepC y2 k8
      have y6 := Dots.keepC y3 k8
      clear k7 k8 t2
      go_wp2_with fail
      refine hK.out _ _ (⟨y4, y5, y6⟩) (fun hHeld => ?_)
      clear hK K
      try simp only [Act.put, List.setIfInBounds_toArray, List.set_cons_zero, List.set_cons_succ]
      refine wpAnyH_ready (rs := [17]) (by kernel_rfl) (by simp) ?_
      refine AllReadyH.cons (by simp only [List.getElem?_toArray, List.getElem?_cons_succ, List.getElem?_cons_zero]; rfl) (fun K hK => ?_) AllReadyH.nil
      go_simp
      go_at_call 13
      refine (put_on I7.out key bs A z2 q2 T2.out OK.out.1.1 (by have := OK.out.2.1; omega) (by have := OK.out.2.2; omega) (by have := OK.out.1.2; omega) (by omega)).mono ?_
      rintro e v8 ⟨rfl, i8, k8⟩
      have I8 := Lib.hid i8
      have IB8 := Lib.hid (IB7.out.other I7.out k8 HNE.out)
      have hbm : b < v7.heap.size ∧ b ≠ mbA := by have := HBL.out; have := I7.out.lo; have := I7.out.hb.size; omega
      have y7 := (k8.cell (p := ⟨b, o + k * 4 + 1, none⟩) hbm.1 hbm.2).trans y4
      have y8 := (k8.cell (p := ⟨b, o + k * 4 + 2, none⟩) hbm.1 hbm.2).trans y5
      have y9 := (k8.cell (p := ⟨b, o + k * 4 + 3, none⟩) hbm.1 hbm.2).trans y6
      clear i8 k8
      go_wp2_with fail
      refine hK.out _ _ (⟨y7, y8, y9⟩) (fun hHeld => ?_)
      clear hK K
      try simp only [Act.put, List.setIfInBounds_toArray, List.set_cons_zero, List.set_cons_succ]
      refine wpAnyH_done (by kernel_rfl) ?_ _
      refine NoPanic.normal ?_
      clear hHeld y1 y2 y3 y4 y5 y6 y7 y8 y9 hbm
      have I9 : Hid (On w v8 tbA mbA (k + 1) (puts (a0.take (k + 1)))) := Lib.hid (by rw [HPS.out]; exact I8.out)
      go_wp2
      go_roundw
      case rel => exact ⟨k + 1, by have := HK.out; omega, by go_num, I9, IB8⟩
      case measure => have := HK.out; simp [intOf]; omega
    have d1 : decide ((k : Int) < (n0 : Int)) = false := decide_eq_false (by omega)
    obtain rfl : n0 = k := by omega
    have TA : Hid (On w wr tbA mbA n0 (puts a0)) := Lib.hid (by
      have e : a0.take n0 = a0 := List.take_of_length_le (by have := HN0.out; omega)
      rw [e] at IA; exact IA.out)
    have H60 : Hid (a0.length ≤ 60) := Lib.hid (by have := HN0.out; omega)
    obtain ⟨nA, hnA⟩ : ∃ n, n = n0 := ⟨_, rfl⟩
    rw [← hnA] at TA
    have KB : Hid (Keyed a1 0 0 []) := Lib.hid (fun x hx => by cases hx)
    clear hk hn60 IA hnA
    go_wp2_with fail
    go_loopw [8] (fun iv wr => ∃ k : Nat, k ≤ n1 ∧ iv = .int .i64 k ∧ ∃ lb, Hid (On w wr tbB mbB k lb) ∧ Hid (Keyed a1 0 k lb) ∧ Hid (On w wr tbA mbA nA (puts a0))) (fun iv _ => n1 - (intOf iv).toNat)
    case atStart => exact ⟨0, by omega, rfl, _, IB, KB, TA⟩
    case round =>
      clear TA IB KB
      obtain ⟨k, hk, rfl, lb, IB, KB, TA⟩ := hrel
      have hn60 : n1 ≤ 60 := by have := LT1.out.1; have := HN1.out; omega
      by_cases hlt : k < n1
      · skip
        have hll : k < a1.length := by have := HN1.out; omega
        obtain ⟨b, o, rfl, hcell⟩ := steps_at L1.out (by omega)
        obtain ⟨x0, x1, x2, x3⟩ := hcell k hll
        have hmem := List.getElem_mem hll
        have hdk := (W1.out _ hmem).2
        have hok := step_ok (LT1.out.2 _ hmem) (W1.out _ hmem).1
        have hbl := World.block_lt_of_cell? _ _ x0
        have hax : a1[k]? = some a1[k] := List.getElem?_eq_getElem hll
        obtain ⟨x, hx⟩ : ∃ x, x = a1[k] := ⟨_, rfl⟩
        rw [← hx] at x0 x1 x2 x3 hdk hok hax
        clear hx hmem hcell
        obtain ⟨d, key, bs, ms, mc, A⟩ := x
        unfold St.Deep at hdk
        simp only at x0 x1 x2 x3 hdk hok
        have dA := Lib.hid (hdk.below IB.out.hb)
        have OK := Lib.hid hok
        have HK := Lib.hid hlt
        have HBL : Hid (b < w.heap.size) := Lib.hid hbl
        obtain ⟨na, hna⟩ : ∃ n, n = A.length := ⟨_, rfl⟩
        rw [← hna] at x3 dA
        have HNA := Lib.hid hna
        have y0 := Dots.keepC x0 IB.out.hb
        have y1 := Dots.keepC x1 IB.out.hb
        have y2 := Dots.keepC x2 IB.out.hb
        have y3 := Dots.keepC x3 IB.out.hb
        have d1 : decide ((k : Int) < (n1 : Int)) = true := decide_eq_true (by omega)
        have j1 : (0 : Int) ≤ (k : Int) := by omega
        have j2 : (k : Int) < (n1 : Int) := by omega
        clear hok hlt x0 x1 x2 x3 hbl hna hdk hll
        have HAX := Lib.hid hax
        clear hax
        go_wp2_with fail
        refine wp_region_noPanic ?_
        refine wp_region_held_drew (S := (fun w' => w'.cell? ⟨b, o + k * 4 + 1, none⟩ = some (.string ⟨key.toArray⟩) ∧ w'.cell? ⟨b, o + k * 4 + 2, none⟩ = some (.string ⟨bs.toArray⟩) ∧ w'.cell? ⟨b, o + k * 4 + 3, none⟩ = some (.slice ms na mc))) (by kernel_rfl) (⟨y1, y2, y3⟩) (fun hHeld => ?_)
        refine wpAnyH_take (i := 0) (v := ?_) (by simp only [List.getElem?_toArray, List.getElem?_cons_zero]; rfl) (by kernel_rfl) (by kernel_rfl) (by kernel_rfl) (fun _ _ _ h => h) (Or.inl ⟨by rfl, ?_⟩) (by assumption) ?_
        rotate_left
        · (intro w hSw; (try dsimp only at hSw); go_simp; try with_reducible rfl)
        try simp only [Act.put, List.setIfInBounds_toArray, List.set_cons_zero, List.set_cons_succ]
        refine wpAnyH_take (i := 1) (v := ?_) (by simp only [List.getElem?_toArray, List.getElem?_cons_succ, List.getElem?_cons_zero]; rfl) (by kernel_rfl) (by kernel_rfl) (by kernel_rfl) (fun _ _ _ h => h) (Or.inl ⟨by rfl, ?_⟩) (by assumption) ?_
        rotate_left
        · (intro w hSw; (try dsimp only at hSw); go_simp; try with_reducible rfl)
        try simp only [Act.put, List.setIfInBounds_toArray, List.set_cons_zero, List.set_cons_succ]
        refine wpAnyH_take (i := 2) (v := ?_) (by simp only [List.getElem?_toArray, List.getElem?_cons_succ, List.getElem?_cons_zero]; rfl) (by kernel_rfl) (by kernel_rfl) (by kernel_rfl) (fun _ _ _ h => h) (Or.inl ⟨by rfl, ?_⟩) (by assumption) ?_
        rotate_left
        · (intro w hSw; (try dsimp only at hSw); go_simp; try with_reducible rfl)
        try simp only [Act.put, List.setIfInBounds_toArray, List.set_cons_zero, List.set_cons_succ]
        refine wpAnyH_take (i := 3) (v := ?_) (by simp only [List.getElem?_toArray, List.getElem?_cons_succ, List.getElem?_cons_zero]; rfl) (by kernel_rfl) (by kernel_rfl) (by kernel_rfl) (fun _ _ _ h => h) (Or.inl ⟨by rfl, ?_⟩) (by assumption) ?_
        rotate_left
        · (intro w hSw; (try dsimp only at hSw); go_simp; try with_reducible rfl)
        try simp only [Act.put, List.setIfInBounds_toArray, List.set_cons_zero, List.set_cons_succ]
        refine wpAnyH_take (i := 4) (v := ?_) (by simp only [List.getElem?_toArray, List.getElem?_cons_succ, List.getElem?_cons_zero]; rfl) (by kernel_rfl) (by kernel_rfl) (by kernel_rfl) (fun _ _ _ h => h) (Or.inl ⟨by rfl, ?_⟩) (by assumption) ?_
        rotate_left
        · (intro w hSw; (try dsimp only at hSw); go_simp; try with_reducible rfl)
        try simp only [Act.put, List.setIfInBounds_toArray, List.set_cons_zero, List.set_cons_succ]
        refine wpAnyH_take (i := 5) (v := ?_) (by simp only [List.getElem?_toArray, List.getElem?_cons_succ, List.getElem?_cons_zero]; rfl) (by kernel_rfl) (by kernel_rfl) (by kernel_rfl) (fun _ _ _ h => h) (Or.inl ⟨by rfl, ?_⟩) (by assumption) ?_
        rotate_left
        · (intro w hSw; (try dsimp only at hSw); go_simp; try with_reducible rfl)
        try simp only [Act.put, List.setIfInBounds_toArray, List.set_cons_zero, List.set_cons_succ]
        refine wpAnyH_take (i := 6) (v := ?_) (by simp only [List.getElem?_toArray, List.getElem?_cons_succ, List.getElem?_cons_zero]; rfl) (by kernel_rfl) (by kernel_rfl) (by kernel_rfl) (fun _ _ _ h => h) (Or.inl ⟨by rfl, ?_⟩) (by assumption) ?_
        rotate_left
        · (intro w hSw; (try dsimp only at hSw); go_simp; try with_reducible rfl)
        try simp only [Act.put, List.setIfInBounds_toArray, List.set_cons_zero, List.set_cons_succ]
        refine wpAnyH_take (i := 7) (v := ?_) (by simp only [List.getElem?_toArray, List.getElem?_cons_succ, List.getElem?_cons_zero]; rfl) (by kernel_rfl) (by kernel_rfl) (by kernel_rfl) (fun _ _ _ h => h) (Or.inl ⟨by rfl, ?_⟩) (by assumption) ?_
        rotate_left
        · (intro w hSw; (try dsimp only at hSw); go_simp; try with_reducible rfl)
        try simp only [Act.put, List.setIfInBounds_toArray, List.set_cons_zero, List.set_cons_succ]
        refine wpAnyH_take (i := 8) (v := ?_) (by simp only [List.getElem?_toArray, List.getElem?_cons_succ, List.getElem?_cons_zero]; rfl) (by kernel_rfl) (by kernel_rfl) (by kernel_rfl) (fun _ _ _ h => h) (Or.inl ⟨by rfl, ?_⟩) (by assumption) ?_
        rotate_left
        · (intro w hSw; (try dsimp only at hSw); go_simp; try with_reducible rfl)
        try simp only [Act.put, List.setIfInBounds_toArray, List.set_cons_zero, List.set_cons_succ]
        refine wpAnyH_take (i := 9) (v := ?_) (by simp only [List.getElem?_toArray, List.getElem?_cons_succ, List.getElem?_cons_zero]; rfl) (by kernel_rfl) (by kernel_rfl) (by kernel_rfl) (fun _ _ _ h => h) (Or.inl ⟨by rfl, ?_⟩) (by assumption) ?_
        rotate_left
        · (intro w hSw; (try dsimp only at hSw); go_simp; try with_reducible rfl)
        try simp only [Act.put, List.setIfInBounds_toArray, List.set_cons_zero, List.set_cons_succ]
        refine wpAnyH_take (i := 10) (v := ?_) (by simp only [List.getElem?_toArray, List.getElem?_cons_succ, List.getElem?_cons_zero]; rfl) (by kernel_rfl) (by kernel_rfl) (by kernel_rfl) (fun _ _ _ h => h) (Or.inl ⟨by rfl, ?_⟩) (by assumption) ?_
        rotate_left
        · (intro w hSw; (try dsimp only at hSw); go_simp; try with_reducible rfl)
        try simp only [Act.put, List.setIfInBounds_toArray, List.set_cons_zero, List.set_cons_succ]
        refine wpAnyH_take (i := 11) (v := ?_) (by simp only [List.getElem?_toArray, List.getElem?_cons_succ, List.getElem?_cons_zero]; rfl) (by kernel_rfl) (by kernel_rfl) (by kernel_rfl) (fun _ _ _ h => h) (Or.inl ⟨by rfl, ?_⟩) (by assumption) ?_
        rotate_left
        · (intro w hSw; (try dsimp only at hSw); go_simp; try with_reducible rfl)
        try simp only [Act.put, List.setIfInBounds_toArray, List.set_cons_zero, List.set_cons_succ]
        refine wpAnyH_take (i := 12) (v := ?_) (by simp only [List.getElem?_toArray, List.getElem?_cons_succ, List.getElem?_cons_zero]; rfl) (by kernel_rfl) (by kernel_rfl) (by kernel_rfl) (fun _ _ _ h => h) (Or.inl ⟨by rfl, ?_⟩) (by assumption) ?_
        rotate_left
        · (intro w hSw; (try dsimp only at hSw); go_simp; try with_reducible rfl)
        try simp only [Act.put, List.setIfInBounds_toArray, List.set_cons_zero, List.set_cons_succ]
        refine wpAnyH_take (i := 13) (v := ?_) (by simp only [List.getElem?_toArray, List.getElem?_cons_succ, List.getElem?_cons_zero]; rfl) (by kernel_rfl) (by kernel_rfl) (by kernel_rfl) (fun _ _ _ h => h) (Or.inl ⟨by rfl, ?_⟩) (by assumption) ?_
        rotate_left
        · (intro w hSw; (try dsimp only at hSw); go_simp; try with_reducible rfl)
        try simp only [Act.put, List.setIfInBounds_toArray, List.set_cons_zero, List.set_cons_succ]
        refine wpAnyH_take (i := 14) (v := ?_) (by simp only [List.getElem?_toArray, List.getElem?_cons_succ, List.getElem?_cons_zero]; rfl) (by kernel_rfl) (by kernel_rfl) (by kernel_rfl) (fun _ _ _ h => h) (Or.inl ⟨by rfl, ?_⟩) (by assumption) ?_
        rotate_left
        · (intro w hSw; (try dsimp only at hSw); go_simp; try with_reducible rfl)
        try simp only [Act.put, List.setIfInBounds_toArray, List.set_cons_zero, List.set_cons_succ]
        refine wpAnyH_take (i := 15) (v := ?_) (by simp only [List.getElem?_toArray, List.getElem?_cons_succ, List.getElem?_cons_zero]; rfl) (by kernel_rfl) (by kernel_rfl) (by kernel_rfl) (fun _ _ _ h => h) (Or.inl ⟨by rfl, ?_⟩) (by assumption) ?_
        rotate_left
        · (intro w hSw; (try dsimp only at hSw); go_simp; try with_reducible rfl)
        try simp only [Act.put, List.setIfInBounds_toArray, List.set_cons_zero, List.set_cons_succ]
        refine wpAnyH_ready (rs := [16]) (by kernel_rfl) (by simp) ?_
        refine AllReadyH.cons (by simp only [List.getElem?_toArray, List.getElem?_cons_succ, List.getElem?_cons_zero]; rfl) (fun K hK => ?_) AllReadyH.nil
        go_simp
        go_at_call 14
        refine (copied_any A ms na mc _ (dA.out.below (Below.drew (Below.refl _ _))) (by have := OK.out.1.2; have := HNA.out; omega)).mono ?_
        rintro e v7 ⟨z2, q2, rfl, t2, -, k7⟩
        have k8 : Below wr.heap.size wr v7 := (Below.drew (Below.refl _ _)).trans k7
        have I7 := Lib.hid (IB.out.below k8)
        have TA7 := Lib.hid (TA.out.below k8)
        have T2 := Lib.hid t2
        have y4 := Dots.keepC y1 k8
        have y5 := Dots.keepC y2 k8
        have y6 := Dots.keepC y3 k8
        clear k7 k8 t2
        go_wp2_with fail
        refine hK.out _ _ (⟨y4, y5, y6⟩) (fun hHeld => ?_)
        clear hK K
        try simp only [Act.put, List.setIfInBounds_toArray, List.set_cons_zero, List.set_cons_succ]
        refine wpAnyH_ready (rs := [17]) (by kernel_rfl) (by simp) ?_
        refine AllReadyH.cons (by simp only [List.getElem?_toArray, List.getElem?_cons_succ, List.getElem?_cons_zero]; rfl) (fun K hK => ?_) AllReadyH.nil
        go_simp
        go_at_call 13
        refine (put_on I7.out key bs A z2 q2 T2.out OK.out.1.1 (by have := OK.out.2.1; omega) (by have := OK.out.2.2; omega) (by have := OK.out.1.2; omega) (by omega)).mono ?_
        rintro e v8 ⟨rfl, i8, k8⟩
        have I8 := Lib.hid i8
        have TA8 := Lib.hid (TA7.out.other I7.out k8 (fun e => HNE.out e.symm))
        have hbm : b < v7.heap.size ∧ b ≠ mbB := by have := HBL.out; have := I7.out.lo; have := I7.out.hb.size; omega
        have y7 := (k8.cell (p := ⟨b, o + k * 4 + 1, none⟩) hbm.1 hbm.2).trans y4
        have y8 := (k8.cell (p := ⟨b, o + k * 4 + 2, none⟩) hbm.1 hbm.2).trans y5
        have y9 := (k8.cell (p := ⟨b, o + k * 4 + 3, none⟩) hbm.1 hbm.2).trans y6
        clear i8 k8
        go_wp2_with fail
        refine hK.out _ _ (⟨y7, y8, y9⟩) (fun hHeld => ?_)
        clear hK K
        try simp only [Act.put, List.setIfInBounds_toArray, List.set_cons_zero, List.set_cons_succ]
        refine wpAnyH_done (by kernel_rfl) ?_ _
        refine NoPanic.normal ?_
        clear hHeld y1 y2 y3 y4 y5 y6 y7 y8 y9 hbm
        have KB8 : Hid (Keyed a1 0 (k + 1) (putL lb ⟨key, bs, A⟩)) := Lib.hid (KB.out.put HAX.out rfl)
        go_wp2
        go_roundw
        case rel => exact ⟨k + 1, by have := HK.out; omega, by go_num, _, I8, KB8, TA8⟩
        case measure => have := HK.out; simp [intOf]; omega
      have d2 : decide ((k : Int) < (n1 : Int)) = false := decide_eq_false (by omega)
      obtain rfl : n1 = k := by omega
      obtain ⟨nB, hnB⟩ : ∃ n, n = n1 := ⟨_, rfl⟩
      rw [← hnB] at IB
      have HB60 : Hid (nB ≤ 60) := Lib.hid (by omega)
      clear hk hn60 hnB
      go_wp2_with fail
      go_loopw [9] (fun iv wr => ∃ k : Nat, k ≤ n1 ∧ iv = .int .i64 k ∧ ∃ lb, Hid (On w wr tbB mbB nB lb) ∧ Hid (Keyed a1 k n1 lb) ∧ Hid (On w wr tbA mbA nA (puts a0))) (fun iv _ => n1 - (intOf iv).toNat)
      case atStart => exact ⟨0, by omega, rfl, _, IB, KB, TA⟩
      case round =>
        clear TA IB KB
        obtain ⟨k, hk, rfl, lb, IB, KB, TA⟩ := hrel
        have hn60 : n1 ≤ 60 := by have := LT1.out.1; have := HN1.out; omega
        by_cases hlt : k < n1
        · skip
          have hll : k < a1.length := by have := HN1.out; omega
          obtain ⟨b, o, rfl, hcell⟩ := steps_at L1.out (by omega)
          obtain ⟨x0, x1, x2, x3⟩ := hcell k hll
          have hmem := List.getElem_mem hll
          have hdk := (W1.out _ hmem).2
          have hok := step_ok (LT1.out.2 _ hmem) (W1.out _ hmem).1
          have hbl := World.block_lt_of_cell? _ _ x0
          have hax : a1[k]? = some a1[k] := List.getElem?_eq_getElem hll
          obtain ⟨x, hx⟩ : ∃ x, x = a1[k] := ⟨_, rfl⟩
          rw [← hx] at x0 x1 x2 x3 hdk hok hax
          clear hx hmem hcell
          obtain ⟨d, key, bs, ms, mc, A⟩ := x
          unfold St.Deep at hdk
          simp only at x0 x1 x2 x3 hdk hok
          have dA := Lib.hid (hdk.below IB.out.hb)
          have OK := Lib.hid hok
          have HK := Lib.hid hlt
          have HBL : Hid (b < w.heap.size) := Lib.hid hbl
          obtain ⟨na, hna⟩ : ∃ n, n = A.length := ⟨_, rfl⟩
          rw [← hna] at x3 dA
          have HNA := Lib.hid hna
          have y0 := Dots.keepC x0 IB.out.hb
          have y1 := Dots.keepC x1 IB.out.hb
          have y2 := Dots.keepC x2 IB.out.hb
          have y3 := Dots.keepC x3 IB.out.hb
          have d1 : decide ((k : Int) < (n1 : Int)) = true := decide_eq_true (by omega)
          have j1 : (0 : Int) ≤ (k : Int) := by omega
          have j2 : (k : Int) < (n1 : Int) := by omega
          clear hok hlt x0 x1 x2 x3 hbl hna hdk hll
          have HAX := Lib.hid hax
          clear hax
          go_wp2_with fail
          refine (drop_on IB.out key (by have := OK.out.2.1; omega)).mono ?_
          rintro e v8 ⟨rfl, i8, k8⟩
          have I8 := Lib.hid i8
          have TA8 := Lib.hid (TA.out.other IB.out k8 (fun e => HNE.out e.symm))
          have KB8 : Hid (Keyed a1 (k + 1) n1 (Tree.drop key lb)) := Lib.hid (KB.out.drop HAX.out)
          clear i8 k8
          go_wp2
          go_roundw
          case rel => exact ⟨k + 1, by have := HK.out; omega, by go_num, _, I8, KB8, TA8⟩
          case measure => have := HK.out; simp [intOf]; omega
        have d3 : decide ((k : Int) < (n1 : Int)) = false := decide_eq_false (by omega)
        obtain rfl : n1 = k := by omega
        obtain rfl : lb = [] := KB.out.none
        clear hk hn60 KB
        obtain ⟨d0, hd0⟩ : ∃ d, d = dig [] 4 0 := ⟨_, rfl⟩
        have RT := Lib.hid (fun x tb mb n (h : On w x tb mb n []) => root_on h HT.out (tabs_two HT.out))
        rw [← hd0] at RT
        have e0 : (d0 != d0) = false := by simp
        clear hd0
        go_wp2_with fail
        refine (len_on IB.out).mono ?_
        rintro e u1 ⟨rfl, rfl⟩
        go_wp2_with fail
        refine (RT.out _ _ _ _ IB.out).mono ?_
        rintro e u2 ⟨rfl, k2⟩
        replace IB := Lib.hid (IB.out.below k2)
        replace TA := Lib.hid (TA.out.below k2)
        clear k2
        go_wp2_with fail
        refine (new_on IB.out.hb).mono ?_
        rintro e u3 ⟨tbC, mbC, rfl, iC, -, -, k3⟩
        have IC := Lib.hid iC
        replace IB := Lib.hid (IB.out.below k3)
        replace TA := Lib.hid (TA.out.below k3)
        clear k3 iC
        go_wp2_with fail
        refine (RT.out _ _ _ _ IC.out).mono ?_
        rintro e u4 ⟨rfl, k4⟩
        replace IB := Lib.hid (IB.out.below k4)
        replace TA := Lib.hid (TA.out.below k4)
        clear k4 IC RT
        go_upto_region 19 with (fail)
        have hmN := TextMap.Is.made (P := Tryz.prog) (ks := 9) u4
        have kM := balloc (Below.refl u4.heap.size u4) (.map #[] 0)
        have HMN : Hid ((mbA ≠ u4.heap.size ∧ mbB ≠ u4.heap.size) ∧ w.heap.size ≤ u4.heap.size) := Lib.hid (by have h1 := TA.out.is.mlt; have h2 := IB.out.is.mlt; have h3 := TA.out.hb.size; omega)
        replace IB := Lib.hid (IB.out.below kM)
        replace TA := Lib.hid (TA.out.below kM)
        obtain ⟨mm, hm0⟩ : ∃ m, m = u4.heap.size := ⟨_, rfl⟩
        obtain ⟨vm, hvm⟩ : ∃ v, v = u4.alloc (.map #[] 0) := ⟨_, rfl⟩
        rw [← hvm] at IB TA hmN ⊢
        rw [← hm0] at hmN HMN ⊢
        have MP : Hid (TextMap.Is Tryz.prog 9 vm mm 0 (lastV a0 0)) := Lib.hid hmN
        clear hmN kM hm0 hvm
        go_wp2_with fail
        go_loopw [11] (fun iv wr => ∃ k : Nat, k ≤ n0 ∧ iv = .int .i64 k ∧ Hid (TextMap.Is Tryz.prog 9 wr mm k (lastV a0 k)) ∧ Hid (On w wr tbB mbB nB []) ∧ Hid (On w wr tbA mbA nA (puts a0))) (fun iv _ => n0 - (intOf iv).toNat)
        case atStart => exact ⟨0, by omega, rfl, MP, IB, TA⟩
        case round =>
          clear TA IB MP
          obtain ⟨k, hk, rfl, MP, IB, TA⟩ := hrel
          have hn60 : n0 ≤ 60 := by have := LT0.out.1; have := HN0.out; omega
          by_cases hlt : k < n0
          · skip
            have hll : k < a0.length := by have := HN0.out; omega
            obtain ⟨b, o, rfl, hcell⟩ := steps_at L0.out (by omega)
            obtain ⟨x0, x1, x2, x3⟩ := hcell k hll
            have hmem := List.getElem_mem hll
            have hdk := (W0.out _ hmem).2
            have hok := step_ok (LT0.out.2 _ hmem) (W0.out _ hmem).1
            have hbl := World.block_lt_of_cell? _ _ x0
            have hly := fun h => lastV_yes hll h
            have hln := fun h => lastV_no hll h
            obtain ⟨x, hx⟩ : ∃ x, x = a0[k] := ⟨_, rfl⟩
            rw [← hx] at x0 x1 x2 x3 hdk hok hly hln
            clear hx hmem hcell
            obtain ⟨d, key, bs, ms, mc, A⟩ := x
            unfold St.Deep at hdk
            simp only at x0 x1 x2 x3 hdk hok
            have dA := Lib.hid (hdk.below IB.out.hb)
            have OK := Lib.hid hok
            have HK := Lib.hid hlt
            have HBL : Hid (b < w.heap.size) := Lib.hid hbl
            obtain ⟨na, hna⟩ : ∃ n, n = A.length := ⟨_, rfl⟩
            rw [← hna] at x3 dA
            have HNA := Lib.hid hna
            have y0 := Dots.keepC x0 IB.out.hb
            have y1 := Dots.keepC x1 IB.out.hb
            have y2 := Dots.keepC x2 IB.out.hb
            have y3 := Dots.keepC x3 IB.out.hb
            have d1 : decide ((k : Int) < (n0 : Int)) = true := decide_eq_true (by omega)
            have j1 : (0 : Int) ≤ (k : Int) := by omega
            have j2 : (k : Int) < (n0 : Int) := by omega
            clear hok hlt x0 x1 x2 x3 hbl hna hdk hll
            have HLY := Lib.hid hly
            have HLN := Lib.hid hln
            clear hly hln
            cases hA : mayL A with
            | true =>
              have HLK : Hid (lastV a0 (k + 1) = TextMap.put (lastV a0 k) key (.int .i64 (k : Int))) := Lib.hid (HLY.out hA)
              clear HLY HLN
              go_wp2_with fail
              refine (copied_any A ms na mc _ dA.out (by have := OK.out.1.2; have := HNA.out; omega)).mono ?_
              rintro e u7 ⟨z2, q2, rfl, t2, -, k7⟩
              replace IB := Lib.hid (IB.out.below k7)
              replace TA := Lib.hid (TA.out.below k7)
              replace MP := Lib.hid (MP.out.below k7)
              replace y1 := Dots.keepC y1 k7
              have T2 := Lib.hid t2
              clear t2 k7 y0 y2 y3
              go_wp2_with fail
              refine (may_any A z2 A.length q2 _ T2.out (by have := OK.out.1.2; omega) OK.out.1.1).mono ?_
              rintro e u8 ⟨rfl, k8⟩
              rw [hA]
              replace IB := Lib.hid (IB.out.below k8)
              replace TA := Lib.hid (TA.out.below k8)
              replace MP := Lib.hid (MP.out.below k8)
              replace y1 := Dots.keepC y1 k8
              clear k8 T2 hA
              go_wp2_with (at_mapUpdate; refine TextMap.wpList_put Tryz.underlying31 Tryz.underlying9 rfl _ _ _ rfl mm k (lastV a0 k) key (.int .i64 (k : Int)) rfl MP.out (by have := HK.out; unfold maxLen; omega) rfl (by have := OK.out.2.1; unfold maxLen; omega) rfl ?_; intro w9 S9 k9)
              have IB9 := Lib.hid (mapped IB.out k9 (fun e => HMN.out.1.2 e.symm) HMN.out.2 MP.out.isMap)
              have TA9 := Lib.hid (mapped TA.out k9 (fun e => HMN.out.1.1 e.symm) HMN.out.2 MP.out.isMap)
              have MP9 : Hid (TextMap.Is Tryz.prog 9 w9 mm (k + 1) (lastV a0 (k + 1))) := Lib.hid (by rw [HLK.out]; exact S9)
              clear S9 k9
              go_roundw
              case rel => exact ⟨k + 1, by have := HK.out; omega, by go_num, MP9, IB9, TA9⟩
              case measure => have := HK.out; simp [intOf]; omega
            | false =>
              have HLK : Hid (lastV a0 (k + 1) = lastV a0 k) := Lib.hid (HLN.out hA)
              clear HLY HLN
              go_wp2_with fail
              refine (copied_any A ms na mc _ dA.out (by have := OK.out.1.2; have := HNA.out; omega)).mono ?_
              rintro e u7 ⟨z2, q2, rfl, t2, -, k7⟩
              replace IB := Lib.hid (IB.out.below k7)
              replace TA := Lib.hid (TA.out.below k7)
              replace MP := Lib.hid (MP.out.below k7)
              have T2 := Lib.hid t2
              clear t2 k7 y0 y1 y2 y3
              go_wp2_with fail
              refine (may_any A z2 A.length q2 _ T2.out (by have := OK.out.1.2; omega) OK.out.1.1).mono ?_
              rintro e u8 ⟨rfl, k8⟩
              rw [hA]
              replace IB := Lib.hid (IB.out.below k8)
              replace TA := Lib.hid (TA.out.below k8)
              have MP9 : Hid (TextMap.Is Tryz.prog 9 u8 mm (k + 1) (lastV a0 (k + 1))) := Lib.hid (by rw [HLK.out]; exact (MP.out.below k8).mono (Nat.le_succ k))
              clear k8 T2 hA
              go_wp2
              go_roundw
              case rel => exact ⟨k + 1, by have := HK.out; omega, by go_num, MP9, IB, TA⟩
              case measure => have := HK.out; simp [intOf]; omega
          have d4 : decide ((k : Int) < (n0 : Int)) = false := decide_eq_false (by omega)
          obtain rfl : n0 = k := by omega
          replace MP : Hid (TextMap.Is Tryz.prog 9 wr mm n0 (lastV a0 a0.length)) := Lib.hid (by rw [← HN0.out]; exact MP.out)
          have BF : Hid (∀ q, find [] q = backF a0 n0 q) := Lib.hid (fun q => by rw [HN0.out, backF_end]; rfl)
          have HLL : Hid (nB + n0 ≤ 120 ∧ ([] : List It).length + n0 ≤ n0) := Lib.hid ⟨by have := HB60.out; omega, by simp⟩
          have xn : IntKind.i64.wrap ((n0 : Int) - 1) = (n0 : Int) - 1 := by rw [IntKind.wrap_i64]; omega
          have HN6 : Hid (n0 ≤ 60) := Lib.hid hn60
          clear hk hn60
          go_wp2_with fail
          go_loopw [12] (fun iv wr => ∃ (i : Nat) (lb : List It) (nb : Nat), i ≤ n0 ∧ iv = .int .i64 ((i : Int) - 1) ∧ Hid (On w wr tbA mbA nA (puts a0)) ∧ Hid (On w wr tbB mbB nb lb) ∧ Hid (nb + i ≤ 120 ∧ lb.length + i ≤ n0) ∧ Hid (∀ q, find lb q = backF a0 i q) ∧ Hid (TextMap.Is Tryz.prog 9 wr mm n0 (lastV a0 a0.length))) (fun iv _ => (intOf iv + 1).toNat)
          case atStart => exact ⟨n0, [], nB, Nat.le_refl _, rfl, TA, IB, HLL, BF, MP⟩
          case round =>
            clear TA IB HLL BF MP
            obtain ⟨i, lb, nb, hi, rfl, TA, IB, HLL, BF, MP⟩ := hrel
            rcases Nat.eq_zero_or_pos i with rfl | hpos
            · skip
              have ei : (((0 : Nat) : Int)) - 1 = -1 := rfl
              rw [ei]
              have d5 : decide ((-1 : Int) ≥ 0) = false := by decide
              have d6 : decide ((0 : Int) ≤ -1) = false := by decide
              obtain rfl : lb = puts a0 := up_ext lb (puts a0) IB.out.is.up TA.out.is.up (fun q => (BF.out q).trans (backF_all H60.out q))
              clear BF MP HLL ei hi
              obtain ⟨dg, hdg⟩ : ∃ d, d = dig (puts a0) 4 0 := ⟨_, rfl⟩
              have RT := Lib.hid (fun x tb mb n (h : On w x tb mb n (puts a0)) => root_on h HT.out (tabs_two HT.out))
              rw [← hdg] at RT
              have e8 : (dg == dg) = true := by simp
              clear hdg
              go_wp2_with fail
              refine (node_on TA.out HT.out (tabs_two HT.out) 0 0 4 rfl (by decide)).mono ?_
              rintro e v1 ⟨x1, q1, R1, rfl, hv1, hn1, z1, k1⟩
              have V1 := Lib.hid hv1
              have Z1 := Lib.hid z1
              have N1 := Lib.hid hn1
              replace IB := Lib.hid (IB.out.below k1)
              replace TA := Lib.hid (TA.out.below k1)
              clear hv1 z1 hn1 k1
              go_wp2_with fail
              refine (node_on IB.out HT.out (tabs_two HT.out) 0 0 4 rfl (by decide)).mono ?_
              rintro e v2 ⟨x2, q2, R2, rfl, hv2, hn2, z2, k2⟩
              have EQ := Lib.hid (IsVec.uniq V1.out hv2)
              have Z2 := Lib.hid z2
              have N2 := Lib.hid hn2
              replace IB := Lib.hid (IB.out.below k2)
              replace TA := Lib.hid (TA.out.below k2)
              replace Z1 := Lib.hid (Z1.out.below k2)
              clear hv2 z2 hn2 k2 V1
              go_wp2_with fail
              refine (RT.out _ _ _ _ TA.out).mono ?_
              rintro e v3 ⟨rfl, k3⟩
              replace IB := Lib.hid (IB.out.below k3)
              replace TA := Lib.hid (TA.out.below k3)
              replace Z1 := Lib.hid (Z1.out.below k3)
              replace Z2 := Lib.hid (Z2.out.below k3)
              clear k3
              go_wp2_with fail
              refine (RT.out _ _ _ _ IB.out).mono ?_
              rintro e v4 ⟨rfl, k4⟩
              replace IB := Lib.hid (IB.out.below k4)
              replace TA := Lib.hid (TA.out.below k4)
              replace Z1 := Lib.hid (Z1.out.below k4)
              replace Z2 := Lib.hid (Z2.out.below k4)
              clear k4
              go_wp2_with fail
              refine (marks_any R1 R2 x1 x2 R1.length R2.length q1 q2 _ Z1.out Z2.out (by have := N1.out; omega) (by have := N2.out; omega)).mono ?_
              rintro e v5 ⟨rfl, k5⟩
              replace IB := Lib.hid (IB.out.below k5)
              replace TA := Lib.hid (TA.out.below k5)
              rw [decide_eq_true EQ.out]
              clear k5 Z1 Z2
              obtain ⟨ll, hll⟩ : ∃ n, n = (puts a0).length := ⟨_, rfl⟩
              have LE := Lib.hid (fun x tb mb n (h : On w x tb mb n (puts a0)) => len_on h)
              rw [← hll] at LE
              have e9 : ((ll : Int) == (ll : Int)) = true := by simp
              clear hll
              go_wp2_with fail
              refine (LE.out _ _ _ _ TA.out).mono ?_
              rintro e v6 ⟨rfl, rfl⟩
              go_wp2_with fail
              refine (LE.out _ _ _ _ IB.out).mono ?_
              rintro e v7 ⟨rfl, rfl⟩
              go_wp2_with fail
              refine (works_any _ (HT.out.below TA.out.hb)).mono ?_
              rintro e vw ⟨rfl, kw⟩
              have hb := bstep TA.out.hb kw
              go_wp2
              go_ret
              exact ⟨rfl, hb⟩
            obtain ⟨k, rfl⟩ : ∃ k, i = k + 1 := ⟨i - 1, by omega⟩
            have hlt : k < n0 := hi
            have ei : (((k + 1 : Nat) : Int)) - 1 = (k : Int) := by omega
            rw [ei]
            have d5 : decide ((k : Int) ≥ 0) = true := decide_eq_true (by omega)
            have d6 : decide ((0 : Int) ≤ (k : Int)) = true := decide_eq_true (by omega)
            have hn60 := HN6.out
            have xk : IntKind.i64.wrap ((k : Int) - 1) = (k : Int) - 1 := by rw [IntKind.wrap_i64]; omega
            clear ei hpos
            have hll : k < a0.length := by have := HN0.out; omega
            obtain ⟨b, o, rfl, hcell⟩ := steps_at L0.out (by omega)
            obtain ⟨x0, x1, x2, x3⟩ := hcell k hll
            have hmem := List.getElem_mem hll
            have hdk := (W0.out _ hmem).2
            have hok := step_ok (LT0.out.2 _ hmem) (W0.out _ hmem).1
            have hbl := World.block_lt_of_cell? _ _ x0
            have hax : a0[k]? = some a0[k] := List.getElem?_eq_getElem hll
            have hby := fun h => backF_yes hll h
            have hbn := fun h => backF_no hll h
            obtain ⟨x, hx⟩ : ∃ x, x = a0[k] := ⟨_, rfl⟩
            rw [← hx] at x0 x1 x2 x3 hdk hok hax hby hbn
            clear hx hmem hcell
            obtain ⟨d, key, bs, ms, mc, A⟩ := x
            unfold St.Deep at hdk
            simp only at x0 x1 x2 x3 hdk hok
            have dA := Lib.hid (hdk.below IB.out.hb)
            have OK := Lib.hid hok
            have HK := Lib.hid hlt
            have HBL : Hid (b < w.heap.size) := Lib.hid hbl
            obtain ⟨na, hna⟩ : ∃ n, n = A.length := ⟨_, rfl⟩
            rw [← hna] at x3 dA
            have HNA := Lib.hid hna
            have y0 := Dots.keepC x0 IB.out.hb
            have y1 := Dots.keepC x1 IB.out.hb
            have y2 := Dots.keepC x2 IB.out.hb
            have y3 := Dots.keepC x3 IB.out.hb
            have d1 : decide ((k : Int) < (n0 : Int)) = true := decide_eq_true (by omega)
            have j1 : (0 : Int) ≤ (k : Int) := by omega
            have j2 : (k : Int) < (n0 : Int) := by omega
            clear hok hlt x0 x1 x2 x3 hbl hna hdk hll
            have HAX := Lib.hid hax
            have HBY := Lib.hid hby
            have HBN := Lib.hid hbn
            clear hax hby hbn
            by_cases hL : lastF a0 a0.length key = some k
            · have HG : Hid ((lastV a0 a0.length key).getD (.int .i64 0) = .int .i64 (k : Int)) := Lib.hid (by unfold lastV; rw [hL]; rfl)
              have HI : Hid ((lastV a0 a0.length key).isSome = true) := Lib.hid (by unfold lastV; rw [hL]; rfl)
              have hmay : mayL A = true := by
                obtain ⟨-, x, h1, -, h2⟩ := lastF_at hL
                rw [HAX.out] at h1
                cases h1; exact h2
              have HPL : Hid (putL lb ⟨key, bs, A⟩ = put ⟨key, bs, A⟩ lb) := Lib.hid (by rw [putL_light (by have := HLL.out; omega), if_pos (show mayL (⟨key, bs, A⟩ : It).s = true from hmay)])
              have HL := Lib.hid hL
              have HUPB := Lib.hid IB.out.is.up
              have ek : ((k : Int) == (k : Int)) = true := by simp
              clear hL hmay
              go_wp2_with (at_lookup; refine TextMap.wpList_look_ok Tryz.underlying31 Tryz.underlying9 zero_int rfl _ _ rfl mm n0 (lastV a0 a0.length) key rfl MP.out rfl (by have := OK.out.2.1; unfold maxLen; omega) (.int .i64 (k : Int)) HG.out true HI.out ?_)
              refine wp_region_noPanic ?_
              refine wp_region_held_drew (S := (fun w' => w'.cell? ⟨b, o + k * 4 + 1, none⟩ = some (.string ⟨key.toArray⟩) ∧ w'.cell? ⟨b, o + k * 4 + 2, none⟩ = some (.string ⟨bs.toArray⟩) ∧ w'.cell? ⟨b, o + k * 4 + 3, none⟩ = some (.slice ms na mc))) (by kernel_rfl) (⟨y1, y2, y3⟩) (fun hHeld => ?_)
              refine wpAnyH_take (i := 0) (v := ?_) (by simp only [List.getElem?_toArray, List.getElem?_cons_zero]; rfl) (by kernel_rfl) (by kernel_rfl) (by kernel_rfl) (fun _ _ _ h => h) (Or.inl ⟨by rfl, ?_⟩) (by assumption) ?_
              rotate_left
              · (intro w hSw; (try dsimp only at hSw); go_simp; try with_reducible rfl)
              try simp only [Act.put, List.setIfInBounds_toArray, List.set_cons_zero, List.set_cons_succ]
              refine wpAnyH_take (i := 1) (v := ?_) (by simp only [List.getElem?_toArray, List.getElem?_cons_succ, List.getElem?_cons_zero]; rfl) (by kernel_rfl) (by kernel_rfl) (by kernel_rfl) (fun _ _ _ h => h) (Or.inl ⟨by rfl, ?_⟩) (by assumption) ?_
              rotate_left
              · (intro w hSw; (try dsimp only at hSw); go_simp; try with_reducible rfl)
              try simp only [Act.put, List.setIfInBounds_toArray, List.set_cons_zero, List.set_cons_succ]
              refine wpAnyH_take (i := 2) (v := ?_) (by simp only [List.getElem?_toArray, List.getElem?_cons_succ, List.getElem?_cons_zero]; rfl) (by kernel_rfl) (by kernel_rfl) (by kernel_rfl) (fun _ _ _ h => h) (Or.inl ⟨by rfl, ?_⟩) (by assumption) ?_
              rotate_left
              · (intro w hSw; (try dsimp only at hSw); go_simp; try with_reducible rfl)
              try simp only [Act.put, List.setIfInBounds_toArray, List.set_cons_zero, List.set_cons_succ]
              refine wpAnyH_take (i := 3) (v := ?_) (by simp only [List.getElem?_toArray, List.getElem?_cons_succ, List.getElem?_cons_zero]; rfl) (by kernel_rfl) (by kernel_rfl) (by kernel_rfl) (fun _ _ _ h => h) (Or.inl ⟨by rfl, ?_⟩) (by assumption) ?_
              rotate_left
              · (intro w hSw; (try dsimp only at hSw); go_simp; try with_reducible rfl)
              try simp only [Act.put, List.setIfInBounds_toArray, List.set_cons_zero, List.set_cons_succ]
              refine wpAnyH_take (i := 4) (v := ?_) (by simp only [List.getElem?_toArray, List.getElem?_cons_succ, List.getElem?_cons_zero]; rfl) (by kernel_rfl) (by kernel_rfl) (by kernel_rfl) (fun _ _ _ h => h) (Or.inl ⟨by rfl, ?_⟩) (by assumption) ?_
              rotate_left
              · (intro w hSw; (try dsimp only at hSw); go_simp; try with_reducible rfl)
              try simp only [Act.put, List.setIfInBounds_toArray, List.set_cons_zero, List.set_cons_succ]
              refine wpAnyH_take (i := 5) (v := ?_) (by simp only [List.getElem?_toArray, List.getElem?_cons_succ, List.getElem?_cons_zero]; rfl) (by kernel_rfl) (by kernel_rfl) (by kernel_rfl) (fun _ _ _ h => h) (Or.inl ⟨by rfl, ?_⟩) (by assumption) ?_
              rotate_left
              · (intro w hSw; (try dsimp only at hSw); go_simp; try with_reducible rfl)
              try simp only [Act.put, List.setIfInBounds_toArray, List.set_cons_zero, List.set_cons_succ]
              refine wpAnyH_take (i := 6) (v := ?_) (by simp only [List.getElem?_toArray, List.getElem?_cons_succ, List.getElem?_cons_zero]; rfl) (by kernel_rfl) (by kernel_rfl) (by kernel_rfl) (fun _ _ _ h => h) (Or.inl ⟨by rfl, ?_⟩) (by assumption) ?_
              rotate_left
              · (intro w hSw; (try dsimp only at hSw); go_simp; try with_reducible rfl)
              try simp only [Act.put, List.setIfInBounds_toArray, List.set_cons_zero, List.set_cons_succ]
              refine wpAnyH_take (i := 7) (v := ?_) (by simp only [List.getElem?_toArray, List.getElem?_cons_succ, List.getElem?_cons_zero]; rfl) (by kernel_rfl) (by kernel_rfl) (by kernel_rfl) (fun _ _ _ h => h) (Or.inl ⟨by rfl, ?_⟩) (by assumption) ?_
              rotate_left
              · (intro w hSw; (try dsimp only at hSw); go_simp; try with_reducible rfl)
              try simp only [Act.put, List.setIfInBounds_toArray, List.set_cons_zero, List.set_cons_succ]
              refine wpAnyH_take (i := 8) (v := ?_) (by simp only [List.getElem?_toArray, List.getElem?_cons_succ, List.getElem?_cons_zero]; rfl) (by kernel_rfl) (by kernel_rfl) (by kernel_rfl) (fun _ _ _ h => h) (Or.inl ⟨by rfl, ?_⟩) (by assumption) ?_
              rotate_left
              · (intro w hSw; (try dsimp only at hSw); go_simp; try with_reducible rfl)
              try simp only [Act.put, List.setIfInBounds_toArray, List.set_cons_zero, List.set_cons_succ]
              refine wpAnyH_take (i := 9) (v := ?_) (by simp only [List.getElem?_toArray, List.getElem?_cons_succ, List.getElem?_cons_zero]; rfl) (by kernel_rfl) (by kernel_rfl) (by kernel_rfl) (fun _ _ _ h => h) (Or.inl ⟨by rfl, ?_⟩) (by assumption) ?_
              rotate_left
              · (intro w hSw; (try dsimp only at hSw); go_simp; try with_reducible rfl)
              try simp only [Act.put, List.setIfInBounds_toArray, List.set_cons_zero, List.set_cons_succ]
              refine wpAnyH_take (i := 10) (v := ?_) (by simp only [List.getElem?_toArray, List.getElem?_cons_succ, List.getElem?_cons_zero]; rfl) (by kernel_rfl) (by kernel_rfl) (by kernel_rfl) (fun _ _ _ h => h) (Or.inl ⟨by rfl, ?_⟩) (by assumption) ?_
              rotate_left
              · (intro w hSw; (try dsimp only at hSw); go_simp; try with_reducible rfl)
              try simp only [Act.put, List.setIfInBounds_toArray, List.set_cons_zero, List.set_cons_succ]
              refine wpAnyH_take (i := 11) (v := ?_) (by simp only [List.getElem?_toArray, List.getElem?_cons_succ, List.getElem?_cons_zero]; rfl) (by kernel_rfl) (by kernel_rfl) (by kernel_rfl) (fun _ _ _ h => h) (Or.inl ⟨by rfl, ?_⟩) (by assumption) ?_
              rotate_left
              · (intro w hSw; (try dsimp only at hSw); go_simp; try with_reducible rfl)
              try simp only [Act.put, List.setIfInBounds_toArray, List.set_cons_zero, List.set_cons_succ]
              refine wpAnyH_take (i := 12) (v := ?_) (by simp only [List.getElem?_toArray, List.getElem?_cons_succ, List.getElem?_cons_zero]; rfl) (by kernel_rfl) (by kernel_rfl) (by kernel_rfl) (fun _ _ _ h => h) (Or.inl ⟨by rfl, ?_⟩) (by assumption) ?_
              rotate_left
              · (intro w hSw; (try dsimp only at hSw); go_simp; try with_reducible rfl)
              try simp only [Act.put, List.setIfInBounds_toArray, List.set_cons_zero, List.set_cons_succ]
              refine wpAnyH_take (i := 13) (v := ?_) (by simp only [List.getElem?_toArray, List.getElem?_cons_succ, List.getElem?_cons_zero]; rfl) (by kernel_rfl) (by kernel_rfl) (by kernel_rfl) (fun _ _ _ h => h) (Or.inl ⟨by rfl, ?_⟩) (by assumption) ?_
              rotate_left
              · (intro w hSw; (try dsimp only at hSw); go_simp; try with_reducible rfl)
              try simp only [Act.put, List.setIfInBounds_toArray, List.set_cons_zero, List.set_cons_succ]
              refine wpAnyH_take (i := 14) (v := ?_) (by simp only [List.getElem?_toArray, List.getElem?_cons_succ, List.getElem?_cons_zero]; rfl) (by kernel_rfl) (by kernel_rfl) (by kernel_rfl) (fun _ _ _ h => h) (Or.inl ⟨by rfl, ?_⟩) (by assumption) ?_
              rotate_left
              · (intro w hSw; (try dsimp only at hSw); go_simp; try with_reducible rfl)
              try simp only [Act.put, List.setIfInBounds_toArray, List.set_cons_zero, List.set_cons_succ]
              refine wpAnyH_take (i := 15) (v := ?_) (by simp only [List.getElem?_toArray, List.getElem?_cons_succ, List.getElem?_cons_zero]; rfl) (by kernel_rfl) (by kernel_rfl) (by kernel_rfl) (fun _ _ _ h => h) (Or.inl ⟨by rfl, ?_⟩) (by assumption) ?_
              rotate_left
              · (intro w hSw; (try dsimp only at hSw); go_simp; try with_reducible rfl)
              try simp only [Act.put, List.setIfInBounds_toArray, List.set_cons_zero, List.set_cons_succ]
              refine wpAnyH_ready (rs := [16]) (by kernel_rfl) (by simp) ?_
              refine AllReadyH.cons (by simp only [List.getElem?_toArray, List.getElem?_cons_succ, List.getElem?_cons_zero]; rfl) (fun K hK => ?_) AllReadyH.nil
              go_simp
              go_at_call 14
              refine (copied_any A ms na mc _ (dA.out.below (Below.drew (Below.refl _ _))) (by have := OK.out.1.2; have := HNA.out; omega)).mono ?_
              rintro e v7 ⟨z2, q2, rfl, t2, -, k7⟩
              have k8 : Below wr.heap.size wr v7 := (Below.drew (Below.refl _ _)).trans k7
              have I7 := Lib.hid (IB.out.below k8)
              have TA7 := Lib.hid (TA.out.below k8)
              have MP7 := Lib.hid (MP.out.below k8)
              have T2 := Lib.hid t2
              have y4 := Dots.keepC y1 k8
              have y5 := Dots.keepC y2 k8
              have y6 := Dots.keepC y3 k8
              clear k7 k8 t2
              go_wp2_with fail
              refine hK.out _ _ (⟨y4, y5, y6⟩) (fun hHeld => ?_)
              clear hK K
              try simp only [Act.put, List.setIfInBounds_toArray, List.set_cons_zero, List.set_cons_succ]
              refine wpAnyH_ready (rs := [17]) (by kernel_rfl) (by simp) ?_
              refine AllReadyH.cons (by simp only [List.getElem?_toArray, List.getElem?_cons_succ, List.getElem?_cons_zero]; rfl) (fun K hK => ?_) AllReadyH.nil
              go_simp
              go_at_call 13
              refine (put_on I7.out key bs A z2 q2 T2.out OK.out.1.1 (by have := OK.out.2.1; omega) (by have := OK.out.2.2; omega) (by have := OK.out.1.2; omega) (by have := HLL.out; omega)).mono ?_
              rintro e v8 ⟨rfl, i8, k8⟩
              have I8 := Lib.hid i8
              have TA8 := Lib.hid (TA7.out.other I7.out k8 (fun e => HNE.out e.symm))
              have MP8 := Lib.hid (MP7.out.moved (k8.block _ MP7.out.lt (fun e => HMN.out.1.2 e.symm)))
              have hbm : b < v7.heap.size ∧ b ≠ mbB := by have := HBL.out; have := I7.out.lo; have := I7.out.hb.size; omega
              have y7 := (k8.cell (p := ⟨b, o + k * 4 + 1, none⟩) hbm.1 hbm.2).trans y4
              have y8 := (k8.cell (p := ⟨b, o + k * 4 + 2, none⟩) hbm.1 hbm.2).trans y5
              have y9 := (k8.cell (p := ⟨b, o + k * 4 + 3, none⟩) hbm.1 hbm.2).trans y6
              clear i8 k8
              go_wp2_with fail
              refine hK.out _ _ (⟨y7, y8, y9⟩) (fun hHeld => ?_)
              clear hK K
              try simp only [Act.put, List.setIfInBounds_toArray, List.set_cons_zero, List.set_cons_succ]
              refine wpAnyH_done (by kernel_rfl) ?_ _
              refine NoPanic.normal ?_
              clear hHeld y1 y2 y3 y4 y5 y6 y7 y8 y9 hbm
              have BF8 : Hid (∀ q, find (putL lb ⟨key, bs, A⟩) q = backF a0 k q) := Lib.hid (fun q => by
                rw [HPL.out, find_put _ _ HUPB.out, HBY.out HL.out q, BF.out q]; rfl)
              have HLL8 : Hid (nb + 1 + k ≤ 120 ∧ (putL lb ⟨key, bs, A⟩).length + k ≤ n0) := Lib.hid ⟨by have := HLL.out; omega, by have := HLL.out; have := len_putL HUPB.out ⟨key, bs, A⟩; omega⟩
              go_wp2
              go_roundw
              case rel => exact ⟨k, _, nb + 1, by have := HK.out; omega, rfl, TA8, I8, HLL8, BF8, MP8⟩
              case measure => simp [intOf]
            have BF8 : Hid (∀ q, find lb q = backF a0 k q) := Lib.hid (fun q => by rw [HBN.out hL q, BF.out q])
            have HLL8 : Hid (nb + k ≤ 120 ∧ lb.length + k ≤ n0) := Lib.hid (by have := HLL.out; omega)
            cases hf : lastF a0 a0.length key with
            | none =>
              have HG : Hid ((lastV a0 a0.length key).getD (.int .i64 0) = .int .i64 0) := Lib.hid (by unfold lastV; rw [hf]; rfl)
              have HI : Hid ((lastV a0 a0.length key).isSome = false) := Lib.hid (by unfold lastV; rw [hf]; rfl)
              clear hL hf
              go_wp2_with (at_lookup; refine TextMap.wpList_look_ok Tryz.underlying31 Tryz.underlying9 zero_int rfl _ _ rfl mm n0 (lastV a0 a0.length) key rfl MP.out rfl (by have := OK.out.2.1; unfold maxLen; omega) (.int .i64 0) HG.out false HI.out ?_)
              go_roundw
              case rel => exact ⟨k, _, nb, by have := HK.out; omega, rfl, TA, IB, HLL8, BF8, MP⟩
              case measure => simp [intOf]
            | some m =>
              have HG : Hid ((lastV a0 a0.length key).getD (.int .i64 0) = .int .i64 (m : Int)) := Lib.hid (by unfold lastV; rw [hf]; rfl)
              have HI : Hid ((lastV a0 a0.length key).isSome = true) := Lib.hid (by unfold lastV; rw [hf]; rfl)
              have hmk : m ≠ k := fun e => hL (by rw [hf, e])
              have em : ((m : Int) == (k : Int)) = false := by simp; omega
              have em2 : decide ((m : Int) = (k : Int)) = false := decide_eq_false (by omega)
              clear hL hf
              go_wp2_with (at_lookup; refine TextMap.wpList_look_ok Tryz.underlying31 Tryz.underlying9 zero_int rfl _ _ rfl mm n0 (lastV a0 a0.length) key rfl MP.out rfl (by have := OK.out.2.1; unfold maxLen; omega) (.int .i64 (m : Int)) HG.out true HI.out ?_)
              go_roundw
              case rel => exact ⟨k, _, nb, by have := HK.out; omega, rfl, TA, IB, HLL8, BF8, MP⟩
              case measure => simp [intOf]
end TreeOrder
end Go.Proofs.YtjnlooccddnbkaaGreatDoor
