/- Merged texts: Shard, ShardPlain. -/
import Derived.Test.YtjnlooccddnbkaaGreatDoorTmRefSha0
import Derived.Test.YtjnlooccddnbkaaGreatDoorTmWord
import Derived.Test.YtjnlooccddnbkaaGreatDoorTmSha
import Derived.Test.YtjnlooccddnbkaaGreatDoorTmRefSha
namespace Go.Proofs.YtjnlooccddnbkaaGreatDoor
namespace Shard
open Go.RowKit
/-- A key's shard. -/
def no (l : List UInt8) : Nat := ((Sha.of l).headD 0).toNat % 16
theorem no_lt (l : List UInt8) : no l < 16 := Nat.mod_lt _ (by decide)
theorem of_cons (l : List UInt8) : ∃ x r, Sha.of l = x :: r ∧ no l = x.toNat % 16 := by
  have h := Sha.of_length l
  unfold no
  cases e : Sha.of l with
  | nil => rw [e] at h; cases h
  | cons x r => exact ⟨x, r, rfl, rfl⟩
theorem new_text0 (W : World) (x : List UInt8) (T : TypeId) : Words.Lies ((W.drew.alloc (.cells #[.string ⟨x.toArray⟩] T))) (some ⟨W.heap.size, 0, none⟩) 1 [x] :=
  Row.lies_new (E := Words.enc) W.drew x T
theorem one_flat (l : List UInt8) : [l].flatten = l := by simp

set_option maxRecDepth 100000 in
theorem of_any (l : List UInt8) (w : World) (ht : Sha.Tabs w) (hl : l.length ≤ 1099511627776) :
    Calls Tryz.prog 73 #[.string ⟨l.toArray⟩] w fun e w' => e = .returned (.int .i64 (no l : Int)) ∧ Below w.heap.size w w' := by
  have hb := Below.refl w.heap.size w
  obtain ⟨x, r, hx, hn⟩ := of_cons l
  rw [hn]
  have h16 : (Int.tmod (x.toNat : Int) 16) = ((x.toNat % 16 : Nat) : Int) := rfl
  have hxl : x.toNat < 256 := x.toNat_lt
  have h0 : (0 : Int) ≤ (x.toNat : Int) := by omega
  have hwr : wrap64 (x.toNat : Int) = (x.toNat : Int) := by unfold wrap64; omega
  have A := Lib.hid (fun a w (h : Words.Lies w a 1 [l]) (ht : Sha.Tabs w) => Sha.of_any a 1 1 [l] w h ht (by rw [one_flat]; omega) (by decide))
  rw [one_flat, hx] at A
  have HT := Lib.hid ht
  clear hx hn hl ht
  go_enter Tryz.func73, Tryz.ntmps73
  go_wp2_with fail
  refine (A.out _ _ (Row.lies_new (E := Words.enc) _ _ _) (HT.out.below (balloc (Below.refl _ _) _))).mono ?_
  rintro e w1 ⟨rfl, k1⟩
  clear A
  go_wp2
  go_ret
  exact ⟨by rw [← h16]; exact congrArg (fun z : Int => Ending.returned (.int .i64 (z.tmod 16))) hwr, bstep (balloc hb _) k1⟩
set_option maxRecDepth 100000 in
theorem refOf_any (l : List UInt8) (w : World) (hl : l.length ≤ 1099511627776) :
    Calls Tryz.prog 17 #[.string ⟨l.toArray⟩] w fun e w' => e = .returned (.int .i64 (no l : Int)) ∧ Below w.heap.size w w' := by
  have hb := Below.refl w.heap.size w
  obtain ⟨x, r, hx, hn⟩ := of_cons l
  rw [hn]
  have h16 : (Int.tmod (x.toNat : Int) 16) = ((x.toNat % 16 : Nat) : Int) := rfl
  have hxl : x.toNat < 256 := x.toNat_lt
  have h0 : (0 : Int) ≤ (x.toNat : Int) := by omega
  have hwr : wrap64 (x.toNat : Int) = (x.toNat : Int) := by unfold wrap64; omega
  have A := Lib.hid (fun w => RefSha.of_any l w hl)
  rw [hx] at A
  clear hx hn hl
  go_enter Tryz.func17, Tryz.ntmps17
  go_wp2_with fail
  refine (A.out _).mono ?_
  rintro e w1 ⟨rfl, k1⟩
  go_wp2
  go_ret
  exact ⟨by rw [← h16]; exact congrArg (fun z : Int => Ending.returned (.int .i64 (z.tmod 16))) hwr, k1⟩
/-- The keys of a list, rising, each once. -/
def keys (zs : List (List UInt8)) : List (List UInt8) := Lib.compact (WordSeq.rising zs)
theorem keys_length (zs : List (List UInt8)) : (keys zs).length ≤ zs.length := by
  have := Lib.compact_length_le (WordSeq.rising zs)
  rw [WordSeq.rising_length] at this
  exact this
theorem mem_keys (zs : List (List UInt8)) (x : List UInt8) (h : x ∈ keys zs) : x ∈ zs := by
  unfold keys Lib.compact Lib.compactUpTo at h
  obtain ⟨j, hj, rfl⟩ := List.mem_map.1 h
  have hj := List.mem_range.1 (List.mem_filter.1 hj).1
  have hx : (WordSeq.rising zs).toArray[j]! = (WordSeq.rising zs)[j] := by simp [hj]
  rw [hx]
  have := List.getElem_mem hj
  unfold WordSeq.rising at this
  exact (List.mem_mergeSort.1 this)
def part (l : List (List UInt8)) (i : Nat) : List (List UInt8) := l.filter (fun x => no x == i)
theorem part_nil : part [] = fun _ => [] := rfl
theorem part_snoc (l : List (List UInt8)) (x : List UInt8) (j : Nat) : part (l ++ [x]) j = Parts.upd (part l) (no x) (part l (no x) ++ [x]) j := by
  unfold part
  rw [List.filter_append]
  by_cases h : j = no x
  · subst h; rw [Parts.upd_same]; simp
  · rw [Parts.upd_other _ _ _ h]
    have : (no x == j) = false := by simp; exact fun e => h e.symm
    simp [this]
theorem part_length (l : List (List UInt8)) (i : Nat) : (part l i).length ≤ l.length := List.length_filter_le _ _
set_option maxRecDepth 100000 in
set_option maxHeartbeats 2000000 in
theorem split_any (a : Option Addr) (n c : Nat) (zs : List (List UInt8)) (w : World) (hL : Words.Lies w a n zs) (hlow : ∀ x, a = some x → x.block < w.heap.size) (ht : Sha.Tabs w) (hn : n ≤ 1099511627776) (hz : ∀ x ∈ zs, x.length ≤ 1099511627776) :
    Calls Tryz.prog 47 #[.slice a n c] w fun e w' => ∃ g V, e = .returned (.slice (some ⟨g, 0, none⟩) 16 16) ∧ Parts.Is w' w.heap.size g 16 V (part (keys zs)) ∧ Below w.heap.size w w' := by
  have hb := Below.refl w.heap.size w
  have hzn := hL.1
  obtain ⟨ks, hks⟩ : ∃ ks, ks = keys zs := ⟨_, rfl⟩
  have hkn : ks.length ≤ n := by rw [hks, hzn]; exact keys_length zs
  have HZ := Lib.hid (show ∀ x ∈ ks, x.length ≤ 1099511627776 from fun x hx => hz x (mem_keys zs x (hks ▸ hx)))
  have HL := Lib.hid hL
  have HT := Lib.hid ht
  have HK := Lib.hid hks
  have hlow2 := Lib.hid hlow
  clear hL hlow ht hz hks hzn
  have hmk : ∀ W, (Instr.makeSlice 75 (.int .i64 16) (.int .i64 16)).run Tryz.prog W = .ok (.slice (some ⟨W.heap.size, 0, none⟩) 16 16) (W.alloc (.cells (madeCells #[.slice none 0 0] 16) 42)) := fun W => Parts.make_rows 16 (by decide) W
  go_enter Tryz.func47, Tryz.ntmps47
  go_wp2_with fail
  refine (WordSeq.values_any a n c _).mono ?_
  rintro e w1 ⟨rfl, hw1⟩
  have HP : Hid (Parts.Is w1 w.heap.size w.heap.size 16 (fun _ => .slice none 0 0) (part [])) := Lib.hid (by rw [hw1, part_nil]; exact (Parts.Is.new w (Nat.le_refl _)).below (balloc (Below.refl _ _) _))
  have hb1 : Below w.heap.size w w1 := by rw [hw1]; exact balloc (balloc hb _) _
  have hsz1 : w1.heap.size = w.heap.size + 1 + 1 := by rw [hw1, World.size_alloc, World.size_alloc]
  have hc1 : w1.cell? ⟨w.heap.size + 1, 0, none⟩ = some (.slice a n c) := by have e := cell_one_new (w.alloc (.cells (madeCells #[.slice none 0 0] 16) 42)) (.slice a n c) 42 0 _ rfl; rw [World.size_alloc] at e; rw [hw1]; exact e
  have HS := Lib.hid (WordSeq.sorted_any (w.heap.size + 1) a n c zs hn w1 (by omega) hc1 (HL.out.below hb1) (fun x hx => by have := hlow2.out x hx; omega))
  have hsz0 : (w.alloc (.cells (madeCells #[.slice none 0 0] 16) 42)).heap.size = w.heap.size + 1 := World.size_alloc _ _
  try rw [hsz0]
  clear hw1 hc1 hsz0 hmk
  go_wp2_with fail
  refine HS.out.mono ?_
  rintro e w2 ⟨v2, rfl, h2, k2⟩
  have HC := Lib.hid (WordSeq.compact_mine _ v2 _ w2 h2)
  have hb2 := bstep hb1 k2
  have hsz2 := k2.size
  clear h2 hb1 HS
  go_wp2_with fail
  refine HC.out.mono ?_
  rintro e w3 ⟨v3, rfl, h3, k3⟩
  have hb3 := hb2.trans (k3.mono (by omega))
  replace HP := Lib.hid (HP.out.below (k2.trans k3))
  rw [show Lib.compact (WordSeq.rising zs) = ks from HK.out.symm] at h3
  obtain ⟨a3, c3, rfl, -, -, -, -, -⟩ := h3.lies'
  have HM : Hid (Words.Mine w3 (w.heap.size + 1) (.slice a3 ks.length c3) ks ∧ ∀ j, j < 16 → RefSha.Apart (.slice none 0 0) (.slice a3 ks.length c3)) := Lib.hid ⟨h3.base (by omega), fun _ _ _ e => by cases e⟩
  clear h3 k2 k3 hb2 hsz2 hsz1 HC HL hlow2
  go_wp2_with fail
  go_loopw [15] (fun i wx => ∃ (k : Nat) (V : Nat → Value), k ≤ ks.length ∧ i = .int .i64 (k : Int) ∧ Below w.heap.size w wx ∧ Hid (Parts.Is wx w.heap.size w.heap.size 16 V (part (ks.take k))) ∧ Hid (Words.Mine wx (w.heap.size + 1) (.slice a3 ks.length c3) ks ∧ ∀ j, j < 16 → RefSha.Apart (V j) (.slice a3 ks.length c3))) (fun i _ => ks.length - (intOf i).toNat)
  case atStart => exact ⟨0, _, Nat.zero_le _, rfl, hb3, HP, HM⟩
  case round =>
    clear hb3 HP HM
    obtain ⟨k, V, hk, rfl, hb3, HP, HM⟩ := hrel
    by_cases hlt : k < ks.length
    · have hd : decide ((k : Int) < (ks.length : Int)) = true := decide_eq_true (by omega)
      obtain ⟨a4, c4, e4, -, -, hL4, -, -⟩ := HM.out.1.lies'
      simp only [Value.slice.injEq, true_and] at e4
      obtain ⟨rfl, rfl⟩ := e4
      obtain ⟨b, o, rfl, hc⟩ := Words.words_at hL4 (by omega)
      have hcx := hc k hlt
      have hxl := HZ.out ks[k] (List.getElem_mem _)
      have HF := Lib.hid (List.take_succ_eq_append_getElem hlt)
      obtain ⟨x, hx⟩ : ∃ x, x = ks[k] := ⟨_, rfl⟩
      rw [← hx] at hcx hxl HF
      have h0k : (0 : Int) ≤ (k : Int) := by omega
      have hs := no_lt x
      obtain ⟨s, hse⟩ : ∃ s, s = no x := ⟨_, rfl⟩
      have A := Lib.hid (fun w (ht : Sha.Tabs w) => of_any x w ht hxl)
      rw [← hse] at hs A
      have HSE := Lib.hid hse
      clear hc hL4 hx hse hxl
      go_wp2_with fail
      refine (A.out _ (HT.out.below hb3)).mono ?_
      rintro e w4 ⟨rfl, k4⟩
      have HP4 := Lib.hid (HP.out.below k4)
      have HM4 := Lib.hid (show Words.Mine w4 (w.heap.size + 1) _ ks ∧ _ from ⟨HM.out.1.below k4, HM.out.2⟩)
      have hb4 := bstep hb3 k4
      clear HP HM k4 A
      have h0s : (0 : Int) ≤ (s : Int) := by omega
      have hs16 : (s : Int) < 16 := by omega
      have hcv := HP4.out.cell hs
      have hfz := HP4.out.frozen s
      have hcvd : w4.drew.cell? ⟨w.heap.size, s, none⟩ = some (V s) := hcv
      have hgl := HP4.out.lt
      have hne : some w.heap.size ≠ (V s).ownBlock := fun e => by have := (HP4.out.own s hs).lt w.heap.size e.symm; omega
      have hlen : (part (ks.take k) s).length + 1 ≤ 1099511627776 := by have := part_length (ks.take k) s; have := List.length_take_le k ks; omega
      go_wp2_with (at_builtin; go_loud (refine Ones.wpList_app_place Words.typ rfl _ _ rfl (w.heap.size + 1) (V s) (part (ks.take k) s) rfl ((HP4.out.own s hs).alloc _) _ 1 1 [x] rfl (Row.lies_new _ x _) hlen (Nat.le_trans (Nat.succ_le_of_lt hgl) (balloc (Below.refl _ _) _).size) ?_; intro v9 w9 o9 g9 k9 p9; obtain ⟨a9, m9, rfl, -, -, -, -, -⟩ := o9.lies'; simp only [List.length_append, List.length_singleton] at o9 p9; have HP9 := Lib.hid (Parts.Is.app (HP4.out.below (balloc (Below.refl _ _) _)) hs g9 o9 p9); have HM9 := Lib.hid (Parts.beside hs g9 p9 (HM4.out.1.below (balloc (Below.refl _ _) _)) HM4.out.2); have hz9 : w.heap.size < (w4.alloc (.cells #[.string ⟨x.toArray⟩] 9)).heap.size := Nat.lt_of_lt_of_le hgl (balloc (Below.refl _ _) _).size; have hcA := (HP4.out.below (w1 := w4.alloc (.cells #[.string ⟨x.toArray⟩] 9)) (balloc (Below.refl _ _) _)).cell hs; have hfA := (HP4.out.below (w1 := w4.alloc (.cells #[.string ⟨x.toArray⟩] 9)) (balloc (Below.refl _ _) _)).frozen s; have c9 := (World.cell?_of_block (a := ⟨w.heap.size, s, none⟩) (g9.block _ hz9 hne)).trans hcA; have fz9 := (World.frozen?_of_block (a := ⟨w.heap.size, s, none⟩) (g9.block _ hz9 hne)).trans hfA; have hb9 := (balloc hb4 _).trans (k9.mono (Nat.le_succ _)); clear hcA hfA o9 g9 k9 p9))
      go_roundw
      case rel => exact ⟨k + 1, Parts.upd V s _, by omega, by go_num, bset hb9 (Nat.le_refl _) _, Lib.hid (by have h := HP9.out; refine h.ext fun j hj => ?_; rw [HF.out, part_snoc, ← HSE.out]), HM9⟩
      case measure => simp [intOf]; omega
    · obtain rfl : k = ks.length := by omega
      have hd : decide ((ks.length : Int) < (ks.length : Int)) = false := decide_eq_false (by omega)
      have HPE : Hid (Parts.Is wr w.heap.size w.heap.size 16 V (part ks)) := Lib.hid (by have h := HP.out; rwa [List.take_of_length_le (Nat.le_refl _)] at h)
      clear HP HM
      go_wp2
      go_ret
      exact ⟨_, V, rfl, by rw [← HK.out]; exact HPE.out, hb3⟩
end Shard
end Go.Proofs.YtjnlooccddnbkaaGreatDoor

namespace Go.Proofs.YtjnlooccddnbkaaGreatDoor
namespace Shard
open Go.RowKit
theorem rising_perm (L : List (List UInt8)) : (WordSeq.rising L).Perm L := List.mergeSort_perm _ _
theorem rising_le (L : List (List UInt8)) : (WordSeq.rising L).Pairwise (fun x y => x ≤ y) := by
  refine (List.pairwise_mergeSort (fun a b c h1 h2 => ?_) (fun a b => ?_) L).imp (fun h => by simpa using h)
  · simp only [decide_eq_true_eq] at *; exact List.le_trans h1 h2
  · simp only [Bool.or_eq_true, decide_eq_true_eq]; exact List.le_total a b
theorem rising_eq {L S : List (List UInt8)} (hp : S.Perm L) (hs : S.Pairwise (fun x y => x ≤ y)) : WordSeq.rising L = S :=
  List.Perm.eq_of_pairwise (le := fun a b => a ≤ b) (fun _ _ _ _ h1 h2 => List.le_antisymm h1 h2) (rising_le L) hs ((rising_perm L).trans hp.symm)
/-- Keys that are each there once: they come out rising. -/
theorem keys_of_perm {zs T : List (List UInt8)} (hp : zs.Perm T) (hT : T.Pairwise (fun x y => x < y)) : keys zs = T := by
  have h : WordSeq.rising zs = T := rising_eq hp.symm (hT.imp fun h => List.le_of_lt h)
  unfold keys
  rw [h]
  refine Lib.compact_all T fun j hj => ?_
  by_cases h0 : j = 0
  · subst h0; exact Lib.keeps_lt_one _ 0 (by decide)
  · refine Lib.keeps_pos fun e => ?_
    have h1 := List.pairwise_iff_getElem.1 hT (j - 1) j (by omega) hj (by omega)
    have e1 : T.toArray[j]! = T[j] := by simp [hj]
    have e2 : T.toArray[j - 1]! = T[j - 1] := by simp [show j - 1 < T.length by omega]
    rw [e1, e2] at e
    rw [e] at h1
    exact List.lt_irrefl _ h1
end Shard
end Go.Proofs.YtjnlooccddnbkaaGreatDoor
