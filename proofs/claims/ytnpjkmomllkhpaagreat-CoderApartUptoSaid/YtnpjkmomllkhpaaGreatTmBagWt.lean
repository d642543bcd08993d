/- bag: how much of a bag there is; the law's Large (the same as in BagLarge, without the rest). -/
import Derived.Test.YtnpjkmomllkhpaaGreatTake
import Derived.Test.YtnpjkmomllkhpaaGreatTmBagMay
namespace Go.Proofs.YtnpjkmomllkhpaaGreat
namespace BagLaw
open Go.RowKit Go.Proofs.YtnpjkmomllkhpaaGreat.Mark Go.Proofs.YtnpjkmomllkhpaaGreat.Dots Go.Proofs.YtnpjkmomllkhpaaGreat.Bag
/-- How much of a bag there is. -/
def wt (L : List It) : Nat := (L.map (fun x => 1 + x.d.length + x.t.length / 64)).sum
theorem wt_snoc (L : List It) (x : It) : wt (L ++ [x]) = wt L + (1 + x.d.length + x.t.length / 64) := by unfold wt; simp
theorem wt_len : ∀ L : List It, L.length ≤ wt L
  | [] => Nat.le_refl _
  | x :: L => by have := wt_len L; unfold wt at *; simp; omega
theorem wt_pls : ∀ L : List It, (pls L).length ≤ wt L
  | [] => Nat.le_refl _
  | x :: L => by
    have := wt_pls L
    unfold wt pls at *
    simp only [List.flatMap_cons, List.length_append, onT_len, List.map_cons, List.sum_cons]
    omega
theorem wt_text {L : List It} : ∀ x ∈ L, x.d.length ≤ wt L ∧ x.t.length ≤ 64 * wt L + 63 := by
  induction L with
  | nil => intro x hx; cases hx
  | cons y L ih =>
    intro x hx
    have e : wt (y :: L) = (1 + y.d.length + y.t.length / 64) + wt L := by unfold wt; simp
    rcases List.mem_cons.1 hx with rfl | hx
    · constructor <;> omega
    · have := ih x hx; constructor <;> omega
set_option maxRecDepth 100000 in
set_option maxHeartbeats 1000000 in
theorem large_any (L : List It) (a : Option Addr) (n c : Nat) (w : World) (hL : Bag.Lies w a n L) (hn : n ≤ 140737488351232) (hz : ∀ x ∈ L, x.t.length ≤ 140737488351232 ∧ x.d.length ≤ 140737488351232) :
    Calls Tryz.prog 14 #[.slice a n c] w fun e w' => ∃ z, e = .returned (.bool z) ∧ (z = false → wt L ≤ 400) ∧ Below w.heap.size w w' := by
  obtain ⟨J, rfl, hJ, hD⟩ := hL
  have HJ := Lib.hid hJ
  have HN := Lib.hid hJ.1
  have HZ := Lib.hid hz
  have HNN := Lib.hid hn
  have h0 := Below.refl w.heap.size w
  have HW0 : Hid (0 = wt ((J.map RI.it).take 0)) := Lib.hid rfl
  clear hJ hD hz hn
  go_enter Tryz.func14, Tryz.ntmps14
  go_wp2_with fail
  go_loopw [3, 4] (fun sv iv wr => ∃ (i s : Nat), i ≤ n ∧ iv = .int .i64 i ∧ sv = .int .i64 s ∧ Hid (s = wt ((J.map RI.it).take i)) ∧ Hid (s ≤ 500000000000000) ∧ Below w.heap.size w wr) (fun _ iv _ => n - (intOf iv).toNat)
  case atStart => exact ⟨0, 0, by omega, rfl, rfl, HW0, Lib.hid (by omega), h0⟩
  case round =>
    clear HW0 h0
    obtain ⟨i, s, hi, rfl, rfl, HW, HS, hb⟩ := hrel
    by_cases hlt : i < n
    rotate_left
    · obtain rfl : i = n := by omega
      have d1 : decide ((i : Int) < (i : Int)) = false := decide_eq_false (by omega)
      by_cases hs : s ≤ 400
      · have d2 : decide ((400 : Int) < (s : Int)) = false := decide_eq_false (by omega)
        have HE : Hid (wt (J.map RI.it) ≤ 400) := Lib.hid (by
          have := HW.out
          rw [List.take_of_length_le (by rw [List.length_map]; have := HN.out; omega)] at this
          omega)
        clear hs
        go_wp2
        go_ret
        exact ⟨false, rfl, fun _ => HE.out, hb⟩
      · have d2 : decide ((400 : Int) < (s : Int)) = true := decide_eq_true (by omega)
        clear hs
        go_wp2
        go_ret
        exact ⟨true, rfl, fun h => (by cases h), hb⟩
    have d1 : decide ((i : Int) < (n : Int)) = true := decide_eq_true (by omega)
    by_cases hs : s ≤ 400
    rotate_left
    · have d2 : decide ((400 : Int) < (s : Int)) = true := decide_eq_true (by omega)
      have d3 : decide ((s : Int) ≤ (400 : Int)) = false := decide_eq_false (by omega)
      clear hs
      go_wp2
      go_ret
      exact ⟨true, rfl, fun h => (by cases h), hb⟩
    have d3 : decide ((s : Int) ≤ (400 : Int)) = true := decide_eq_true (by omega)
    have j1 : (0 : Int) ≤ (i : Int) := by omega
    have j2 : (i : Int) < (n : Int) := by omega
    have hil : i < J.length := by have := HN.out; omega
    have hml : i < (J.map RI.it).length := by rw [List.length_map]; exact hil
    obtain ⟨b, o, rfl, hc⟩ := items_at (HJ.out.below hb) (by omega)
    obtain ⟨c0, c1⟩ := hc i hil
    have hts : (J.map RI.it).take (i + 1) = (J.map RI.it).take i ++ [(J.map RI.it)[i]] := List.take_succ_eq_append_getElem hml
    rw [List.getElem_map] at hts
    have hzx := HZ.out J[i].it (List.mem_map.2 ⟨J[i], List.getElem_mem hil, rfl⟩)
    obtain ⟨x, hx⟩ : ∃ x, x = J[i] := ⟨_, rfl⟩
    rw [← hx] at c0 c1 hts hzx
    obtain ⟨t, xa, xc, d⟩ := x
    simp only [RI.it] at c0 c1 hts hzx
    have HT := Lib.hid hts
    have HI := Lib.hid hlt
    obtain ⟨nd, hnd⟩ : ∃ k, k = d.length := ⟨_, rfl⟩
    rw [← hnd] at c1 hzx
    have HW1 : Hid (s + (1 + nd + t.length / 64) = wt ((J.map RI.it).take (i + 1))) := Lib.hid (by rw [HT.out, wt_snoc, ← HW.out, hnd])
    have HWR : Hid (IntKind.i64.wrap ((s : Int) + 1) = (s : Int) + 1 ∧ IntKind.i64.wrap ((s : Int) + 1 + (nd : Int)) = ((s + 1 + nd : Nat) : Int) ∧ IntKind.i64.wrap ((t.length : Int) / 64) = ((t.length / 64 : Nat) : Int) ∧ IntKind.i64.wrap (((s + 1 + nd : Nat) : Int) + ((t.length / 64 : Nat) : Int)) = ((s + (1 + nd + t.length / 64) : Nat) : Int)) := Lib.hid (by
      refine ⟨?_, ?_, ?_, ?_⟩ <;> rw [IntKind.wrap_i64] <;> omega)
    have hjw : wrap64 ((i : Int) + 1) = ((i + 1 : Nat) : Int) := by have := HNN.out; unfold wrap64; omega
    have HS1 : Hid (s + (1 + nd + t.length / 64) ≤ 500000000000000) := Lib.hid (by omega)
    clear hc hil hml hts hzx hx hlt hnd HW HT hs
    go_wp2_with fail
    refine wp_region_noPanic ?_
    refine wp_region_held_drew (S := (fun w' => w'.cell? ⟨b, o + i * 2, none⟩ = some (.string ⟨t.toArray⟩) ∧ w'.cell? ⟨b, o + i * 2 + 1, none⟩ = some (.slice xa nd xc))) (by kernel_rfl) (⟨Dots.keepC c0 (Below.drew (Below.refl _ _)), Dots.keepC c1 (Below.drew (Below.refl _ _))⟩) (fun hHeld => ?_)
    refine tk 0 ?_
    try simp only [Act.put, List.setIfInBounds_toArray, List.set_cons_zero, List.set_cons_succ]
    refine tk 1 ?_
    try simp only [Act.put, List.setIfInBounds_toArray, List.set_cons_zero, List.set_cons_succ]
    refine tk 2 ?_
    try simp only [Act.put, List.setIfInBounds_toArray, List.set_cons_zero, List.set_cons_succ]
    refine tk 3 ?_
    try simp only [Act.put, List.setIfInBounds_toArray, List.set_cons_zero, List.set_cons_succ]
    refine tk 4 ?_
    try simp only [Act.put, List.setIfInBounds_toArray, List.set_cons_zero, List.set_cons_succ]
    refine tk 5 ?_
    try simp only [Act.put, List.setIfInBounds_toArray, List.set_cons_zero, List.set_cons_succ]
    refine tk 6 ?_
    try simp only [Act.put, List.setIfInBounds_toArray, List.set_cons_zero, List.set_cons_succ]
    refine tk 7 ?_
    try simp only [Act.put, List.setIfInBounds_toArray, List.set_cons_zero, List.set_cons_succ]
    refine tk 8 ?_
    try simp only [Act.put, List.setIfInBounds_toArray, List.set_cons_zero, List.set_cons_succ]
    refine tk 9 ?_
    try simp only [Act.put, List.setIfInBounds_toArray, List.set_cons_zero, List.set_cons_succ]
    refine tk 10 ?_
    try simp only [Act.put, List.setIfInBounds_toArray, List.set_cons_zero, List.set_cons_succ]
    refine tk 11 ?_
    try simp only [Act.put, List.setIfInBounds_toArray, List.set_cons_zero, List.set_cons_succ]
    refine tk 12 ?_
    try simp only [Act.put, List.setIfInBounds_toArray, List.set_cons_zero, List.set_cons_succ]
    refine tk 13 ?_
    try simp only [Act.put, List.setIfInBounds_toArray, List.set_cons_zero, List.set_cons_succ]
    refine tk 14 ?_
    try simp only [Act.put, List.setIfInBounds_toArray, List.set_cons_zero, List.set_cons_succ]
    refine tk 15 ?_
    try simp only [Act.put, List.setIfInBounds_toArray, List.set_cons_zero, List.set_cons_succ]
    refine tk 16 ?_
    try simp only [Act.put, List.setIfInBounds_toArray, List.set_cons_zero, List.set_cons_succ]
    refine tk 17 ?_
    try simp only [Act.put, List.setIfInBounds_toArray, List.set_cons_zero, List.set_cons_succ]
    refine wpAnyH_done (by kernel_rfl) ?_ _
    refine NoPanic.normal ?_
    clear hHeld
    go_wp2
    go_roundw
    case rel => exact ⟨i + 1, s + (1 + nd + t.length / 64), by have := HI.out; omega, by rw [hjw], by rw [HWR.out.1, HWR.out.2.1, HWR.out.2.2.1, HWR.out.2.2.2], HW1, HS1, Below.drew hb⟩
    case measure => rw [hjw]; have := HI.out; simp only [intOf]; omega
end BagLaw
end Go.Proofs.YtnpjkmomllkhpaaGreat
