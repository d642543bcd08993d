/- Merged texts: BagRef, BagSame. -/
import Derived.Test.YtnpjkmomllkhpaaGreatTake
import Derived.Test.YtnpjkmomllkhpaaGreatTmBagMay
import Derived.Test.YtnpjkmomllkhpaaGreatTmRefD
namespace Go.Proofs.YtnpjkmomllkhpaaGreat
namespace RefBag
open Go.RowKit Go.Proofs.YtnpjkmomllkhpaaGreat.Mark Go.Proofs.YtnpjkmomllkhpaaGreat.Dots Go.Proofs.YtnpjkmomllkhpaaGreat.Bag
theorem insD_cons (m x : M) (l : List M) : insD m (x :: l) = if cmpD m x < 0 then m :: x :: l else x :: insD m l := rfl
/-- What is left to lay. -/
def left (m : M) (z : Bool) (l : List M) : List M := if z then l else insD m l
theorem len_of {m : M} {D K X : List M} (h : insD m D = K ++ X) : K.length ≤ D.length + 1 := by
  have := congrArg List.length h
  rw [insD_len, List.length_append] at this
  omega
end RefBag
end Go.Proofs.YtnpjkmomllkhpaaGreat

namespace Go.Proofs.YtnpjkmomllkhpaaGreat
namespace RefBag
open Go.RowKit Go.Proofs.YtnpjkmomllkhpaaGreat.Mark Go.Proofs.YtnpjkmomllkhpaaGreat.Dots Go.Proofs.YtnpjkmomllkhpaaGreat.Bag
theorem It.ext' {a b : It} (h : a.t = b.t) (k : a.d = b.d) : a = b := by cases a; cases b; simp_all
instance : DecidableEq It := fun a b => if h : a.t = b.t ∧ a.d = b.d then .isTrue (It.ext' h.1 h.2) else .isFalse fun e => h (by rw [e]; exact ⟨rfl, rfl⟩)
theorem neq_dot (m k : M) (w : World) : (binOp .neq 96 (.agg #[.string ⟨m.p.toArray⟩, .int .u64 (m.n : Int)]) (.agg #[.string ⟨k.p.toArray⟩, .int .u64 (k.n : Int)])).run Tryz.prog w = .ok (.bool (!decide (m = k))) w := by
  rw [run_neq_struct]
  have h := RefDots.eql_of 96 (by kernel_rfl) (by kernel_rfl) m k w
  rw [RefDots.eqM_iff] at h
  unfold M.cells at h
  rw [h]; rfl
theorem ne_item {A B : List It} {i : Nat} (hi : i < A.length) (hj : i < B.length) (h : A[i] ≠ B[i]) : A ≠ B := fun e => by subst e; exact h rfl
theorem take_next {α : Type} {A B : List α} {i : Nat} (hi : i < A.length) (hj : i < B.length) (h : A.take i = B.take i) (k : A[i] = B[i]) : A.take (i + 1) = B.take (i + 1) := by
  rw [List.take_succ_eq_append_getElem hi, List.take_succ_eq_append_getElem hj, h, k]
set_option maxRecDepth 100000 in
set_option maxHeartbeats 2000000 in
theorem same_any (A B : List It) (a b : Option Addr) (n m ca cb : Nat) (w : World) (hA : Bag.Lies w a n A) (hB : Bag.Lies w b m B) (hn : n ≤ 1099511627776) (hd : ∀ x ∈ A, x.d.length ≤ 1099511627776) :
    Calls Tryz.prog 22 #[.slice a n ca, .slice b m cb] w fun e w' => e = .returned (.bool (decide (A = B))) ∧ Below w.heap.size w w' := by
  obtain ⟨J, rfl, hJ, hJD⟩ := hA
  obtain ⟨K, rfl, hK, hKD⟩ := hB
  have h0 := Below.refl w.heap.size w
  by_cases hnm : n = m
  rotate_left
  · have q1 : ((n : Int) != (m : Int)) = true := by rw [bne_iff_ne]; omega
    have q2 : ((n : Int) == (m : Int)) = false := by rw [beq_eq_false_iff_ne]; omega
    have q3 : (n == m) = false := by simpa using hnm
    have HE : Hid (decide (J.map RI.it = K.map RI.it) = false) := Lib.hid (decide_eq_false fun e => by
      have := congrArg List.length e
      rw [List.length_map, List.length_map, ← hJ.1, ← hK.1] at this
      exact hnm this)
    clear hJ hK hJD hKD hd hnm
    go_enter Tryz.func22, Tryz.ntmps22
    go_wp2
    go_ret
    exact ⟨by rw [HE.out]; rfl, h0⟩
  subst hnm
  have HJ := Lib.hid hJ
  have HK := Lib.hid hK
  have HJD := Lib.hid hJD
  have HKD := Lib.hid hKD
  have HDL := Lib.hid hd
  have HNN := Lib.hid hn
  have HT0 : Hid ((J.map RI.it).take 0 = (K.map RI.it).take 0) := Lib.hid rfl
  clear hJ hK hJD hKD hd
  go_enter Tryz.func22, Tryz.ntmps22
  go_wp2_with fail
  go_loopw [5] (fun iv wr => ∃ i : Nat, i ≤ n ∧ iv = .int .i64 i ∧ Hid ((J.map RI.it).take i = (K.map RI.it).take i) ∧ Below w.heap.size w wr) (fun iv _ => n - (intOf iv).toNat)
  case atStart => exact ⟨0, by omega, rfl, HT0, h0⟩
  case round =>
    clear HT0 h0
    obtain ⟨i, hi, rfl, HT, hb⟩ := hrel
    by_cases hlt : i < n
    rotate_left
    · obtain rfl : i = n := by omega
      have d1 : decide ((i : Int) < (i : Int)) = false := decide_eq_false (by omega)
      have HE : Hid (decide (J.map RI.it = K.map RI.it) = true) := Lib.hid (decide_eq_true (by
        have := HT.out
        rwa [List.take_of_length_le (by rw [List.length_map]; have := HJ.out.1; omega), List.take_of_length_le (by rw [List.length_map]; have := HK.out.1; omega)] at this))
      go_wp2
      go_ret
      exact ⟨by rw [HE.out]; rfl, hb⟩
    have d1 : decide ((i : Int) < (n : Int)) = true := decide_eq_true (by omega)
    have j1 : (0 : Int) ≤ (i : Int) := by omega
    have j2 : (i : Int) < (n : Int) := by omega
    have hil : i < J.length := by have := HJ.out.1; omega
    have hik : i < K.length := by have := HK.out.1; omega
    have hml : i < (J.map RI.it).length := by rw [List.length_map]; exact hil
    have hmk : i < (K.map RI.it).length := by rw [List.length_map]; exact hik
    obtain ⟨ab, ao, rfl, hc⟩ := items_at (HJ.out.below hb) (by omega)
    obtain ⟨bb, bo, rfl, hc'⟩ := items_at (HK.out.below hb) (by omega)
    obtain ⟨a0, a1⟩ := hc i hil
    obtain ⟨b0, b1⟩ := hc' i hik
    have HJX := Lib.hid (HJD.out _ (List.getElem_mem hil))
    have HKX := Lib.hid (HKD.out _ (List.getElem_mem hik))
    have HNE : Hid (∀ (_ : J[i].it ≠ K[i].it), decide (J.map RI.it = K.map RI.it) = false) := Lib.hid fun h => decide_eq_false (ne_item hml hmk (by rw [List.getElem_map, List.getElem_map]; exact h))
    have HEQ : Hid (∀ (_ : J[i].it = K[i].it), (J.map RI.it).take (i + 1) = (K.map RI.it).take (i + 1)) := Lib.hid fun h => take_next hml hmk HT.out (by rw [List.getElem_map, List.getElem_map]; exact h)
    have HXL : Hid (J[i].d.length ≤ 1099511627776) := Lib.hid (HDL.out J[i].it (List.mem_map.2 ⟨J[i], List.getElem_mem hil, rfl⟩))
    obtain ⟨x, hx⟩ : ∃ x, x = J[i] := ⟨_, rfl⟩
    obtain ⟨y, hy⟩ : ∃ y, y = K[i] := ⟨_, rfl⟩
    rw [← hx] at a0 a1 HJX HNE HEQ HXL
    rw [← hy] at b0 b1 HKX HNE HEQ
    obtain ⟨xt, xa, xc, xd⟩ := x
    obtain ⟨yt, ya, yc, yd⟩ := y
    simp only [RI.it] at a0 a1 b0 b1 HXL HNE HEQ
    unfold Inner at HJX HKX
    simp only at HJX HKX
    have HI := Lib.hid hlt
    obtain ⟨nd, hnd⟩ : ∃ k, k = xd.length := ⟨_, rfl⟩
    obtain ⟨ne, hne⟩ : ∃ k, k = yd.length := ⟨_, rfl⟩
    rw [← hnd] at a1 HXL HJX
    rw [← hne] at b1 HKX
    have HND := Lib.hid hnd
    have HNEL := Lib.hid hne
    clear hc hc' hil hik hml hmk hx hy hlt hnd hne HT
    go_wp2_with fail
    by_cases ht : xt = yt
    rotate_left
    · have q1 : (xt != yt) = true := by simpa using ht
      have q2 : (xt == yt) = false := by simpa using ht
      have HE := Lib.hid (HNE.out (fun e => ht (by simp only [It.mk.injEq] at e; exact e.1)))
      clear ht
      refine wp_region_noPanic ?_
      refine wp_region_held_drew (S := (fun w' => w'.cell? ⟨ab, ao + i * 2, none⟩ = some (.string ⟨xt.toArray⟩) ∧ w'.cell? ⟨ab, ao + i * 2 + 1, none⟩ = some (.slice xa nd xc) ∧ w'.cell? ⟨bb, bo + i * 2, none⟩ = some (.string ⟨yt.toArray⟩) ∧ w'.cell? ⟨bb, bo + i * 2 + 1, none⟩ = some (.slice ya ne yc))) (by kernel_rfl) (⟨Dots.keepC a0 (Below.drew (Below.refl _ _)), Dots.keepC a1 (Below.drew (Below.refl _ _)), Dots.keepC b0 (Below.drew (Below.refl _ _)), Dots.keepC b1 (Below.drew (Below.refl _ _))⟩) (fun hHeld => ?_)
      refine tk 0 ?_
      try simp only [Act.put, List.setIfInBounds_toArray, List.set_cons_zero, List.set_cons_succ]
      refine tk 1 ?_
      try simp only [Act.put, List.setIfInBounds_toArray, List.set_cons_zero, List.set_cons_succ]
      refine tk 2 ?_
      try simp only [Act.put, List.setIfInBounds_toArray, List.set_cons_zero, List.set_cons_succ]
      refine tk 3 ?_
      try simp only [Act.put, List.setIfInBounds_toArray, List.set_cons_zero, List.set_cons_succ]
      refine tk 4 ?_
      try simp only [Act.put, List.setIfInBounds_toArray, List.set_cons_zero, List.set_cons_succ]
      refine tk 5 ?_
      try simp only [Act.put, List.setIfInBounds_toArray, List.set_cons_zero, List.set_cons_succ]
      refine tk 6 ?_
      try simp only [Act.put, List.setIfInBounds_toArray, List.set_cons_zero, List.set_cons_succ]
      refine tk 7 ?_
      try simp only [Act.put, List.setIfInBounds_toArray, List.set_cons_zero, List.set_cons_succ]
      refine tk 8 ?_
      try simp only [Act.put, List.setIfInBounds_toArray, List.set_cons_zero, List.set_cons_succ]
      refine tk 9 ?_
      try simp only [Act.put, List.setIfInBounds_toArray, List.set_cons_zero, List.set_cons_succ]
      refine tk 10 ?_
      try simp only [Act.put, List.setIfInBounds_toArray, List.set_cons_zero, List.set_cons_succ]
      refine tk 11 ?_
      try simp only [Act.put, List.setIfInBounds_toArray, List.set_cons_zero, List.set_cons_succ]
      refine tku 12 ?_
      try simp only [Act.put, List.setIfInBounds_toArray, List.set_cons_zero, List.set_cons_succ]
      refine tku 13 ?_
      try simp only [Act.put, List.setIfInBounds_toArray, List.set_cons_zero, List.set_cons_succ]
      refine tku 14 ?_
      try simp only [Act.put, List.setIfInBounds_toArray, List.set_cons_zero, List.set_cons_succ]
      refine tku 15 ?_
      try simp only [Act.put, List.setIfInBounds_toArray, List.set_cons_zero, List.set_cons_succ]
      refine tku 16 ?_
      try simp only [Act.put, List.setIfInBounds_toArray, List.set_cons_zero, List.set_cons_succ]
      refine tku 17 ?_
      try simp only [Act.put, List.setIfInBounds_toArray, List.set_cons_zero, List.set_cons_succ]
      refine tku 18 ?_
      try simp only [Act.put, List.setIfInBounds_toArray, List.set_cons_zero, List.set_cons_succ]
      refine tku 19 ?_
      try simp only [Act.put, List.setIfInBounds_toArray, List.set_cons_zero, List.set_cons_succ]
      refine tku 20 ?_
      try simp only [Act.put, List.setIfInBounds_toArray, List.set_cons_zero, List.set_cons_succ]
      refine tku 21 ?_
      try simp only [Act.put, List.setIfInBounds_toArray, List.set_cons_zero, List.set_cons_succ]
      refine tku 22 ?_
      try simp only [Act.put, List.setIfInBounds_toArray, List.set_cons_zero, List.set_cons_succ]
      refine tku 23 ?_
      try simp only [Act.put, List.setIfInBounds_toArray, List.set_cons_zero, List.set_cons_succ]
      refine tku 24 ?_
      try simp only [Act.put, List.setIfInBounds_toArray, List.set_cons_zero, List.set_cons_succ]
      refine tk 25 ?_
      try simp only [Act.put, List.setIfInBounds_toArray, List.set_cons_zero, List.set_cons_succ]
      refine wpAnyH_done (by kernel_rfl) ?_ _
      refine NoPanic.normal ?_
      clear hHeld
      go_wp2
      go_ret
      exact ⟨by rw [HE.out]; rfl, Below.drew hb⟩
    have q1 : (xt != yt) = false := by simpa using ht
    have q2 : (xt == yt) = true := by simpa using ht
    have HTT := Lib.hid ht
    clear ht
    by_cases hnn : nd = ne
    rotate_left
    · have q3 : ((nd : Int) != (ne : Int)) = true := by rw [bne_iff_ne]; omega
      have q4 : ((nd : Int) == (ne : Int)) = false := by rw [beq_eq_false_iff_ne]; omega
      have q5 : (nd == ne) = false := by simpa using hnn
      have HE := Lib.hid (HNE.out (fun e => hnn (by simp only [It.mk.injEq] at e; rw [HND.out, HNEL.out, e.2])))
      clear hnn
      refine wp_region_noPanic ?_
      refine wp_region_held_drew (S := (fun w' => w'.cell? ⟨ab, ao + i * 2, none⟩ = some (.string ⟨xt.toArray⟩) ∧ w'.cell? ⟨ab, ao + i * 2 + 1, none⟩ = some (.slice xa nd xc) ∧ w'.cell? ⟨bb, bo + i * 2, none⟩ = some (.string ⟨yt.toArray⟩) ∧ w'.cell? ⟨bb, bo + i * 2 + 1, none⟩ = some (.slice ya ne yc))) (by kernel_rfl) (⟨Dots.keepC a0 (Below.drew (Below.refl _ _)), Dots.keepC a1 (Below.drew (Below.refl _ _)), Dots.keepC b0 (Below.drew (Below.refl _ _)), Dots.keepC b1 (Below.drew (Below.refl _ _))⟩) (fun hHeld => ?_)
      refine tk 0 ?_
      try simp only [Act.put, List.setIfInBounds_toArray, List.set_cons_zero, List.set_cons_succ]
      refine tk 1 ?_
      try simp only [Act.put, List.setIfInBounds_toArray, List.set_cons_zero, List.set_cons_succ]
      refine tk 2 ?_
      try simp only [Act.put, List.setIfInBounds_toArray, List.set_cons_zero, List.set_cons_succ]
      refine tk 3 ?_
      try simp only [Act.put, List.setIfInBounds_toArray, List.set_cons_zero, List.set_cons_succ]
      refine tk 4 ?_
      try simp only [Act.put, List.setIfInBounds_toArray, List.set_cons_zero, List.set_cons_succ]
      refine tk 5 ?_
      try simp only [Act.put, List.setIfInBounds_toArray, List.set_cons_zero, List.set_cons_succ]
      refine tk 6 ?_
      try simp only [Act.put, List.setIfInBounds_toArray, List.set_cons_zero, List.set_cons_succ]
      refine tk 7 ?_
      try simp only [Act.put, List.setIfInBounds_toArray, List.set_cons_zero, List.set_cons_succ]
      refine tk 8 ?_
      try simp only [Act.put, List.setIfInBounds_toArray, List.set_cons_zero, List.set_cons_succ]
      refine tk 9 ?_
      try simp only [Act.put, List.setIfInBounds_toArray, List.set_cons_zero, List.set_cons_succ]
      refine tk 10 ?_
      try simp only [Act.put, List.setIfInBounds_toArray, List.set_cons_zero, List.set_cons_succ]
      refine tk 11 ?_
      try simp only [Act.put, List.setIfInBounds_toArray, List.set_cons_zero, List.set_cons_succ]
      refine tk 12 ?_
      try simp only [Act.put, List.setIfInBounds_toArray, List.set_cons_zero, List.set_cons_succ]
      refine tk 13 ?_
      try simp only [Act.put, List.setIfInBounds_toArray, List.set_cons_zero, List.set_cons_succ]
      refine tk 14 ?_
      try simp only [Act.put, List.setIfInBounds_toArray, List.set_cons_zero, List.set_cons_succ]
      refine tk 15 ?_
      try simp only [Act.put, List.setIfInBounds_toArray, List.set_cons_zero, List.set_cons_succ]
      refine tk 16 ?_
      try simp only [Act.put, List.setIfInBounds_toArray, List.set_cons_zero, List.set_cons_succ]
      refine tk 17 ?_
      try simp only [Act.put, List.setIfInBounds_toArray, List.set_cons_zero, List.set_cons_succ]
      refine tk 18 ?_
      try simp only [Act.put, List.setIfInBounds_toArray, List.set_cons_zero, List.set_cons_succ]
      refine tk 19 ?_
      try simp only [Act.put, List.setIfInBounds_toArray, List.set_cons_zero, List.set_cons_succ]
      refine tk 20 ?_
      try simp only [Act.put, List.setIfInBounds_toArray, List.set_cons_zero, List.set_cons_succ]
      refine tk 21 ?_
      try simp only [Act.put, List.setIfInBounds_toArray, List.set_cons_zero, List.set_cons_succ]
      refine tk 22 ?_
      try simp only [Act.put, List.setIfInBounds_toArray, List.set_cons_zero, List.set_cons_succ]
      refine tk 23 ?_
      try simp only [Act.put, List.setIfInBounds_toArray, List.set_cons_zero, List.set_cons_succ]
      refine tk 24 ?_
      try simp only [Act.put, List.setIfInBounds_toArray, List.set_cons_zero, List.set_cons_succ]
      refine tk 25 ?_
      try simp only [Act.put, List.setIfInBounds_toArray, List.set_cons_zero, List.set_cons_succ]
      refine wpAnyH_done (by kernel_rfl) ?_ _
      refine NoPanic.normal ?_
      clear hHeld
      go_wp2
      go_ret
      exact ⟨by rw [HE.out]; rfl, Below.drew hb⟩
    subst hnn
    refine wp_region_noPanic ?_
    refine wp_region_held_drew (S := (fun w' => w'.cell? ⟨ab, ao + i * 2, none⟩ = some (.string ⟨xt.toArray⟩) ∧ w'.cell? ⟨ab, ao + i * 2 + 1, none⟩ = some (.slice xa nd xc) ∧ w'.cell? ⟨bb, bo + i * 2, none⟩ = some (.string ⟨yt.toArray⟩) ∧ w'.cell? ⟨bb, bo + i * 2 + 1, none⟩ = some (.slice ya nd yc))) (by kernel_rfl) (⟨Dots.keepC a0 (Below.drew (Below.refl _ _)), Dots.keepC a1 (Below.drew (Below.refl _ _)), Dots.keepC b0 (Below.drew (Below.refl _ _)), Dots.keepC b1 (Below.drew (Below.refl _ _))⟩) (fun hHeld => ?_)
    refine tk 0 ?_
    try simp only [Act.put, List.setIfInBounds_toArray, List.set_cons_zero, List.set_cons_succ]
    refine tk 1 ?_
    try simp only [Act.put, List.setIfInBounds_toArray, List.set_cons_zero, List.set_cons_succ]
    refine tk 2 ?_
    try simp only [Act.put, List.setIfInBounds_toArray, List.set_cons_zero, List.set_cons_succ]
    refine tk 3 ?_
    try simp only [Act.put, List.setIfInBounds_toArray, List.set_cons_zero, List.set_cons_succ]
    refine tk 4 ?_
    try simp only [Act.put, List.setIfInBounds_toArray, List.set_cons_zero, List.set_cons_succ]
    refine tk 5 ?_
    try simp only [Act.put, List.setIfInBounds_toArray, List.set_cons_zero, List.set_cons_succ]
    refine tk 6 ?_
    try simp only [Act.put, List.setIfInBounds_toArray, List.set_cons_zero, List.set_cons_succ]
    refine tk 7 ?_
    try simp only [Act.put, List.setIfInBounds_toArray, List.set_cons_zero, List.set_cons_succ]
    refine tk 8 ?_
    try simp only [Act.put, List.setIfInBounds_toArray, List.set_cons_zero, List.set_cons_succ]
    refine tk 9 ?_
    try simp only [Act.put, List.setIfInBounds_toArray, List.set_cons_zero, List.set_cons_succ]
    refine tk 10 ?_
    try simp only [Act.put, List.setIfInBounds_toArray, List.set_cons_zero, List.set_cons_succ]
    refine tk 11 ?_
    try simp only [Act.put, List.setIfInBounds_toArray, List.set_cons_zero, List.set_cons_succ]
    refine tk 12 ?_
    try simp only [Act.put, List.setIfInBounds_toArray, List.set_cons_zero, List.set_cons_succ]
    refine tk 13 ?_
    try simp only [Act.put, List.setIfInBounds_toArray, List.set_cons_zero, List.set_cons_succ]
    refine tk 14 ?_
    try simp only [Act.put, List.setIfInBounds_toArray, List.set_cons_zero, List.set_cons_succ]
    refine tk 15 ?_
    try simp only [Act.put, List.setIfInBounds_toArray, List.set_cons_zero, List.set_cons_succ]
    refine tk 16 ?_
    try simp only [Act.put, List.setIfInBounds_toArray, List.set_cons_zero, List.set_cons_succ]
    refine tk 17 ?_
    try simp only [Act.put, List.setIfInBounds_toArray, List.set_cons_zero, List.set_cons_succ]
    refine tk 18 ?_
    try simp only [Act.put, List.setIfInBounds_toArray, List.set_cons_zero, List.set_cons_succ]
    refine tk 19 ?_
    try simp only [Act.put, List.setIfInBounds_toArray, List.set_cons_zero, List.set_cons_succ]
    refine tk 20 ?_
    try simp only [Act.put, List.setIfInBounds_toArray, List.set_cons_zero, List.set_cons_succ]
    refine tk 21 ?_
    try simp only [Act.put, List.setIfInBounds_toArray, List.set_cons_zero, List.set_cons_succ]
    refine tk 22 ?_
    try simp only [Act.put, List.setIfInBounds_toArray, List.set_cons_zero, List.set_cons_succ]
    refine tk 23 ?_
    try simp only [Act.put, List.setIfInBounds_toArray, List.set_cons_zero, List.set_cons_succ]
    refine tk 24 ?_
    try simp only [Act.put, List.setIfInBounds_toArray, List.set_cons_zero, List.set_cons_succ]
    refine tk 25 ?_
    try simp only [Act.put, List.setIfInBounds_toArray, List.set_cons_zero, List.set_cons_succ]
    refine wpAnyH_done (by kernel_rfl) ?_ _
    refine NoPanic.normal ?_
    obtain ⟨-, s1, -, t1⟩ := hHeld
    replace hb := Below.drew hb
    have HT0 : Hid (xd.take 0 = yd.take 0) := Lib.hid rfl
    obtain ⟨w2, hw2⟩ : ∃ v, v = World.drew wr := ⟨_, rfl⟩
    try rw [← hw2] at s1 t1 hb ⊢
    have h2 := Below.refl w2.heap.size w2
    clear a0 b0 a1 b1 q1 q2
    try clear hw2
    go_wp2_with fail
    go_loopw [6] (fun jv wq => ∃ j : Nat, j ≤ nd ∧ jv = .int .i64 j ∧ Hid (xd.take j = yd.take j) ∧ Below w2.heap.size w2 wq) (fun jv _ => nd - (intOf jv).toNat)
    case atStart => exact ⟨0, by omega, rfl, HT0, h2⟩
    case round =>
      clear HT0 h2
      obtain ⟨j, hj, rfl, HTD, hb2⟩ := hrel
      replace s1 := Dots.keepC s1 hb2
      replace t1 := Dots.keepC t1 hb2
      by_cases hjd : j < nd
      rotate_left
      · obtain rfl : j = nd := by omega
        have d2 : decide ((j : Int) < (j : Int)) = false := decide_eq_false (by omega)
        have hdd : xd = yd := by
          have := HTD.out
          rwa [List.take_of_length_le (by have := HND.out; omega), List.take_of_length_le (by have := HNEL.out; omega)] at this
        have HT1 := Lib.hid (HEQ.out (by rw [HTT.out, hdd]))
        clear hdd
        go_wp2
        go_roundw
        case rel => exact ⟨i + 1, by have := HI.out; omega, by go_num, HT1, hb.trans (hb2.mono hb.size)⟩
        case measure => have := HI.out; simp [intOf]; omega
      have d2 : decide ((j : Int) < (nd : Int)) = true := decide_eq_true (by omega)
      have j3 : (0 : Int) ≤ (j : Int) := by omega
      have j4 : (j : Int) < (nd : Int) := by omega
      have hjx : j < xd.length := by have := HND.out; omega
      have hjy : j < yd.length := by have := HNEL.out; omega
      have hbq := hb.trans (hb2.mono hb.size)
      obtain ⟨xb, xo, rfl, hxc⟩ := dots_at (Row.Lies.below HJX.out hbq) (by omega)
      obtain ⟨yb, yo, rfl, hyc⟩ := dots_at (Row.Lies.below HKX.out hbq) (by omega)
      obtain ⟨e0, e1⟩ := hxc j hjx
      obtain ⟨g0, g1⟩ := hyc j hjy
      have HND2 : Hid (∀ (_ : xd[j] ≠ yd[j]), decide (J.map RI.it = K.map RI.it) = false) := Lib.hid fun h => HNE.out (fun e => h (by
        simp only [It.mk.injEq] at e
        have := e.2
        subst this
        rfl))
      have HTK : Hid (∀ (_ : xd[j] = yd[j]), xd.take (j + 1) = yd.take (j + 1)) := Lib.hid fun h => take_next hjx hjy HTD.out h
      obtain ⟨x, hx⟩ : ∃ x, x = xd[j] := ⟨_, rfl⟩
      obtain ⟨y, hy⟩ : ∃ y, y = yd[j] := ⟨_, rfl⟩
      rw [← hx] at e0 e1 HND2 HTK
      rw [← hy] at g0 g1 HND2 HTK
      obtain ⟨xp, xq⟩ := x
      obtain ⟨yp, yq⟩ := y
      simp only at e0 e1 g0 g1
      have hE := neq_dot ⟨xp, xq⟩ ⟨yp, yq⟩
      have HJ1 := Lib.hid hjd
      clear hxc hyc hjx hjy hx hy hjd hbq HTD
      go_wp2_with fail
      by_cases he : (⟨xp, xq⟩ : M) = ⟨yp, yq⟩
      rotate_left
      · rw [decide_eq_false he] at hE
        try dsimp only at hE
        have HE := Lib.hid (HND2.out he)
        clear he
        refine wp_region_noPanic ?_
        refine wp_region_held_drew (S := (fun w' => w'.cell? ⟨ab, ao + i * 2 + 1, none⟩ = some (.slice (some ⟨xb, xo, none⟩) nd xc) ∧ w'.cell? ⟨bb, bo + i * 2 + 1, none⟩ = some (.slice (some ⟨yb, yo, none⟩) nd yc) ∧ w'.cell? ⟨xb, xo + j * 2, none⟩ = some (.string ⟨xp.toArray⟩) ∧ w'.cell? ⟨xb, xo + j * 2 + 1, none⟩ = some (.int .u64 (xq : Int)) ∧ w'.cell? ⟨yb, yo + j * 2, none⟩ = some (.string ⟨yp.toArray⟩) ∧ w'.cell? ⟨yb, yo + j * 2 + 1, none⟩ = some (.int .u64 (yq : Int)))) (by kernel_rfl) (⟨Dots.keepC s1 (Below.drew (Below.refl _ _)), Dots.keepC t1 (Below.drew (Below.refl _ _)), Dots.keepC e0 (Below.drew (Below.refl _ _)), Dots.keepC e1 (Below.drew (Below.refl _ _)), Dots.keepC g0 (Below.drew (Below.refl _ _)), Dots.keepC g1 (Below.drew (Below.refl _ _))⟩) (fun hHeld => ?_)
        refine tk 0 ?_
        try simp only [Act.put, List.setIfInBounds_toArray, List.set_cons_zero, List.set_cons_succ]
        refine tk 1 ?_
        try simp only [Act.put, List.setIfInBounds_toArray, List.set_cons_zero, List.set_cons_succ]
        refine tk 2 ?_
        try simp only [Act.put, List.setIfInBounds_toArray, List.set_cons_zero, List.set_cons_succ]
        refine tk 3 ?_
        try simp only [Act.put, List.setIfInBounds_toArray, List.set_cons_zero, List.set_cons_succ]
        refine tk 4 ?_
        try simp only [Act.put, List.setIfInBounds_toArray, List.set_cons_zero, List.set_cons_succ]
        refine tk 5 ?_
        try simp only [Act.put, List.setIfInBounds_toArray, List.set_cons_zero, List.set_cons_succ]
        refine tk 6 ?_
        try simp only [Act.put, List.setIfInBounds_toArray, List.set_cons_zero, List.set_cons_succ]
        refine tk 7 ?_
        try simp only [Act.put, List.setIfInBounds_toArray, List.set_cons_zero, List.set_cons_succ]
        refine tk 8 ?_
        try simp only [Act.put, List.setIfInBounds_toArray, List.set_cons_zero, List.set_cons_succ]
        refine tk 9 ?_
        try simp only [Act.put, List.setIfInBounds_toArray, List.set_cons_zero, List.set_cons_succ]
        refine tk 10 ?_
        try simp only [Act.put, List.setIfInBounds_toArray, List.set_cons_zero, List.set_cons_succ]
        refine tk 11 ?_
        try simp only [Act.put, List.setIfInBounds_toArray, List.set_cons_zero, List.set_cons_succ]
        refine tk 12 ?_
        try simp only [Act.put, List.setIfInBounds_toArray, List.set_cons_zero, List.set_cons_succ]
        refine tk 13 ?_
        try simp only [Act.put, List.setIfInBounds_toArray, List.set_cons_zero, List.set_cons_succ]
        refine tk 14 ?_
        try simp only [Act.put, List.setIfInBounds_toArray, List.set_cons_zero, List.set_cons_succ]
        refine tk 15 ?_
        try simp only [Act.put, List.setIfInBounds_toArray, List.set_cons_zero, List.set_cons_succ]
        refine tk 16 ?_
        try simp only [Act.put, List.setIfInBounds_toArray, List.set_cons_zero, List.set_cons_succ]
        refine wpAnyH_done (by kernel_rfl) ?_ _
        refine NoPanic.normal ?_
        clear hHeld
        go_wp2
        go_ret
        exact ⟨by rw [HE.out]; rfl, hb.trans ((Below.drew hb2).mono hb.size)⟩
      rw [decide_eq_true he] at hE
      try dsimp only at hE
      have HT1 := Lib.hid (HTK.out he)
      clear he
      refine wp_region_noPanic ?_
      refine wp_region_held_drew (S := (fun w' => w'.cell? ⟨ab, ao + i * 2 + 1, none⟩ = some (.slice (some ⟨xb, xo, none⟩) nd xc) ∧ w'.cell? ⟨bb, bo + i * 2 + 1, none⟩ = some (.slice (some ⟨yb, yo, none⟩) nd yc) ∧ w'.cell? ⟨xb, xo + j * 2, none⟩ = some (.string ⟨xp.toArray⟩) ∧ w'.cell? ⟨xb, xo + j * 2 + 1, none⟩ = some (.int .u64 (xq : Int)) ∧ w'.cell? ⟨yb, yo + j * 2, none⟩ = some (.string ⟨yp.toArray⟩) ∧ w'.cell? ⟨yb, yo + j * 2 + 1, none⟩ = some (.int .u64 (yq : Int)))) (by kernel_rfl) (⟨Dots.keepC s1 (Below.drew (Below.refl _ _)), Dots.keepC t1 (Below.drew (Below.refl _ _)), Dots.keepC e0 (Below.drew (Below.refl _ _)), Dots.keepC e1 (Below.drew (Below.refl _ _)), Dots.keepC g0 (Below.drew (Below.refl _ _)), Dots.keepC g1 (Below.drew (Below.refl _ _))⟩) (fun hHeld => ?_)
      refine tk 0 ?_
      try simp only [Act.put, List.setIfInBounds_toArray, List.set_cons_zero, List.set_cons_succ]
      refine tk 1 ?_
      try simp only [Act.put, List.setIfInBounds_toArray, List.set_cons_zero, List.set_cons_succ]
      refine tk 2 ?_
      try simp only [Act.put, List.setIfInBounds_toArray, List.set_cons_zero, List.set_cons_succ]
      refine tk 3 ?_
      try simp only [Act.put, List.setIfInBounds_toArray, List.set_cons_zero, List.set_cons_succ]
      refine tk 4 ?_
      try simp only [Act.put, List.setIfInBounds_toArray, List.set_cons_zero, List.set_cons_succ]
      refine tk 5 ?_
      try simp only [Act.put, List.setIfInBounds_toArray, List.set_cons_zero, List.set_cons_succ]
      refine tk 6 ?_
      try simp only [Act.put, List.setIfInBounds_toArray, List.set_cons_zero, List.set_cons_succ]
      refine tk 7 ?_
      try simp only [Act.put, List.setIfInBounds_toArray, List.set_cons_zero, List.set_cons_succ]
      refine tk 8 ?_
      try simp only [Act.put, List.setIfInBounds_toArray, List.set_cons_zero, List.set_cons_succ]
      refine tk 9 ?_
      try simp only [Act.put, List.setIfInBounds_toArray, List.set_cons_zero, List.set_cons_succ]
      refine tk 10 ?_
      try simp only [Act.put, List.setIfInBounds_toArray, List.set_cons_zero, List.set_cons_succ]
      refine tk 11 ?_
      try simp only [Act.put, List.setIfInBounds_toArray, List.set_cons_zero, List.set_cons_succ]
      refine tk 12 ?_
      try simp only [Act.put, List.setIfInBounds_toArray, List.set_cons_zero, List.set_cons_succ]
      refine tk 13 ?_
      try simp only [Act.put, List.setIfInBounds_toArray, List.set_cons_zero, List.set_cons_succ]
      refine tk 14 ?_
      try simp only [Act.put, List.setIfInBounds_toArray, List.set_cons_zero, List.set_cons_succ]
      refine tk 15 ?_
      try simp only [Act.put, List.setIfInBounds_toArray, List.set_cons_zero, List.set_cons_succ]
      refine tk 16 ?_
      try simp only [Act.put, List.setIfInBounds_toArray, List.set_cons_zero, List.set_cons_succ]
      refine wpAnyH_done (by kernel_rfl) ?_ _
      refine NoPanic.normal ?_
      clear hHeld
      have hjw : wrap64 ((j : Int) + 1) = ((j + 1 : Nat) : Int) := by have := HJ1.out; have := HXL.out; unfold wrap64; omega
      go_wp2
      go_roundw
      case rel => exact ⟨j + 1, by have := HJ1.out; omega, by rw [hjw], HT1, Below.drew hb2⟩
      case measure => rw [hjw]; have := HJ1.out; simp only [intOf]; omega
end RefBag
end Go.Proofs.YtnpjkmomllkhpaaGreat
