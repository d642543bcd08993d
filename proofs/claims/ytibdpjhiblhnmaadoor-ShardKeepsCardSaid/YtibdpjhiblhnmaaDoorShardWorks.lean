/- shard: works. -/
import Derived.Test.YtibdpjhiblhnmaaDoorShard
namespace Go.Proofs.YtibdpjhiblhnmaaDoor
namespace Shard
open Go.RowKit
theorem rising_perm (L : List (List UInt8)) : (WordSeq.rising L).Perm L := List.mergeSort_perm _ _
theorem rising_le (L : List (List UInt8)) : (WordSeq.rising L).Pairwise (fun x y => x ≤ y) := by
  refine (List.pairwise_mergeSort (fun a b c h1 h2 => ?_) (fun a b => ?_) L).imp (fun h => by simpa using h)
  · simp only [decide_eq_true_eq] at *; exact List.le_trans h1 h2
  · simp only [Bool.or_eq_true, decide_eq_true_eq]; exact List.le_total a b
theorem rising_eq {L S : List (List UInt8)} (hp : S.Perm L) (hs : S.Pairwise (fun x y => x ≤ y)) : WordSeq.rising L = S :=
  List.Perm.eq_of_pairwise (le := fun a b => a ≤ b) (fun _ _ _ _ h1 h2 => List.le_antisymm h1 h2) (rising_le L) hs ((rising_perm L).trans hp.symm)
def total (L : Nat → List (List UInt8)) : Nat → Nat
  | 0 => 0
  | j + 1 => total L j + (L j).length
theorem total_part (l : List (List UInt8)) : ∀ m, total (part l) m = (l.filter (fun x => decide (no x < m))).length
  | 0 => by
    rw [List.filter_eq_nil_iff.2 (fun x _ => by simp)]; rfl
  | m + 1 => by
    show total (part l) m + (part l m).length = _
    rw [total_part l m]
    unfold part
    induction l with
    | nil => rfl
    | cons x l ih =>
      simp only [List.filter_cons]
      by_cases h1 : no x < m
      · have h2 : no x < m + 1 := by omega
        have h3 : (no x == m) = false := by simp; omega
        simp only [h1, h2, h3, decide_true, if_true, Bool.false_eq_true, if_false, List.length_cons]
        omega
      · by_cases h4 : no x = m
        · have h2 : no x < m + 1 := by omega
          have h3 : (no x == m) = true := by simp [h4]
          simp only [h1, h2, h3, decide_true, decide_false, Bool.false_eq_true, if_true, if_false, List.length_cons]
          omega
        · have h2 : ¬ no x < m + 1 := by omega
          have h3 : (no x == m) = false := by simp [h4]
          simp only [h1, h2, h3, decide_false, Bool.false_eq_true, if_false]
          exact ih
theorem total_all (l : List (List UInt8)) : total (part l) 16 = l.length := by
  rw [total_part, List.filter_eq_self.2]
  intro x _
  simpa using no_lt x
theorem total_le (l : List (List UInt8)) (m : Nat) : total (part l) m ≤ l.length := by
  rw [total_part]; exact List.length_filter_le _ _
def kA : List UInt8 := [35, 97]
def kB : List UInt8 := [35, 98]
theorem keys_ab : keys [kA, kB, kA] = [kA, kB] := by
  have h : WordSeq.rising [kA, kB, kA] = [kA, kA, kB] := rising_eq (by decide) (by decide)
  unfold keys
  rw [h]
  decide +kernel
theorem pos_a : 0 < (part (keys [kA, kB, kA]) (no kA)).length := by
  rw [keys_ab]
  refine List.length_pos_of_mem (a := kA) ?_
  unfold part
  simp

set_option maxRecDepth 100000 in
set_option maxHeartbeats 2000000 in
theorem works_any (w : World) (ht : Sha.Tabs w) :
    Calls Tryd.prog 5 #[] w fun e w' => e = .returned (.bool true) ∧ Below w.heap.size w w' := by
  have hb := Below.refl w.heap.size w
  have HT := Lib.hid ht
  clear ht
  have HS := Lib.hid (fun (w0 : World) (W : World) (h : Below w.heap.size w (w0.alloc (.cells #[.string ⟨#[35, 97]⟩, .string ⟨#[35, 98]⟩, .string ⟨#[35, 97]⟩] 9))) => split_any (some ⟨w0.heap.size, 0, none⟩) 3 3 [kA, kB, kA] (w0.alloc (.cells #[.string ⟨#[35, 97]⟩, .string ⟨#[35, 98]⟩, .string ⟨#[35, 97]⟩] 9)) (Words.Lies.of_cells (L := [kA, kB, kA]) (fun j hj => by
      rw [World.cell?_alloc_new, Nat.zero_add]
      match j, hj with
      | 0, _ => rfl
      | 1, _ => rfl
      | 2, _ => rfl)) (fun x hx => by cases hx; rw [World.size_alloc]; exact Nat.lt_succ_self _) (HT.out.below h) (by decide) (by decide))
  have HA := Lib.hid (fun w ht => of_any kA w ht (by decide))
  have HP0 := Lib.hid pos_a
  have h16 := no_lt kA
  obtain ⟨s, hs⟩ : ∃ s, s = no kA := ⟨_, rfl⟩
  rw [← hs] at HA HP0 h16
  clear hs
  have HTA := Lib.hid (show total (part (keys [kA, kB, kA])) 16 = 2 by rw [total_all, keys_ab]; rfl)
  have HTL := Lib.hid (show ∀ m, total (part (keys [kA, kB, kA])) m ≤ 3 from fun m => Nat.le_trans (total_le _ m) (keys_length _))
  generalize keys [kA, kB, kA] = ks at HS HP0 HTA HTL
  generalize part ks = L at HS HP0 HTA HTL
  go_enter Tryd.func5, Tryd.ntmps5
  go_wp2_with fail
  refine (HS.out w w (balloc hb _)).mono ?_
  rintro e w1 ⟨g, V, rfl, HP, k1⟩
  have hb1 := bstep (balloc hb _) k1
  replace HP := Lib.hid HP
  clear HS k1
  go_wp2_with fail
  go_loopw [2, 3] (fun n i wx => ∃ j : Nat, j ≤ 16 ∧ n = .int .i64 (total L j : Int) ∧ i = .int .i64 (j : Int) ∧ wx = w1) (fun _ i _ => 16 - (intOf i).toNat)
  case atStart => exact ⟨0, by omega, rfl, rfl, rfl⟩
  case round =>
    obtain ⟨j, hj, rfl, rfl, rfl⟩ := hrel
    have htl := HTL.out j
    obtain ⟨t, hte⟩ : ∃ t, t = total L j := ⟨_, rfl⟩
    rw [← hte] at htl ⊢
    by_cases hlt : j < 16
    · have hd : decide ((j : Int) < 16) = true := decide_eq_true (by omega)
      obtain ⟨a, c, hv, -, -, -⟩ := HP.out.row hlt
      have hc := HP.out.cell hlt
      rw [hv] at hc
      have h0j : (0 : Int) ≤ (j : Int) := by omega
      have hj16 : (j : Int) < 16 := by omega
      have htn := HTL.out (j + 1)
      rw [show total L (j + 1) = t + (L j).length by rw [hte]; rfl] at htn
      obtain ⟨m, hm⟩ : ∃ m, m = (L j).length := ⟨_, rfl⟩
      rw [← hm] at htn hc
      have HTE := Lib.hid (show total L (j + 1) = t + m by rw [hte, hm]; rfl)
      clear hv hte hm
      have hwr : IntKind.i64.wrap ((t : Int) + (m : Int)) = ((t + m : Nat) : Int) := by rw [IntKind.wrap_i64]; omega
      go_wp2_with fail
      go_roundw
      case rel => exact ⟨j + 1, by omega, by rw [HTE.out]; go_num, by go_num, trivial⟩
      case measure => simp [intOf]; omega
    · obtain rfl : j = 16 := by omega
      have hd : decide ((16 : Int) < 16) = false := by decide
      obtain rfl : t = 2 := hte.trans HTA.out
      clear hte htl
      go_wp2_with fail
      refine (HA.out _ (HT.out.below hb1)).mono ?_
      rintro e w4 ⟨rfl, k4⟩
      have HP4 := HP.out.below k4
      obtain ⟨a, c, hv, -, -, -⟩ := HP4.row h16
      have hc := HP4.cell h16
      rw [hv] at hc
      have h0s : (0 : Int) ≤ (s : Int) := by omega
      have hs16 : (s : Int) < 16 := by omega
      have hge : decide ((s : Int) ≥ 0) = true := decide_eq_true h0s
      have hge2 : decide ((0 : Int) ≤ (s : Int)) = true := decide_eq_true h0s
      have hlt2 : decide ((s : Int) < 16) = true := decide_eq_true hs16
      have hm0 := HP0.out
      obtain ⟨m, hm⟩ : ∃ m, m = (L s).length := ⟨_, rfl⟩
      rw [← hm] at hm0 hc
      have hm1 : (0 : Int) < (m : Int) := by omega
      have hgt : decide ((m : Int) > 0) = true := decide_eq_true hm1
      have hgt2 : decide ((0 : Int) < (m : Int)) = true := decide_eq_true hm1
      have hb4 := bstep hb1 k4
      clear hv hm HP HP4 k4
      go_wp2
      go_ret
      exact ⟨rfl, hb4⟩
end Shard
end Go.Proofs.YtibdpjhiblhnmaaDoor
