/- msg.Decode. -/
import Derived.Test.YtcfimfoccbaepaaDoorMsgRead
namespace Go.Proofs.YtcfimfoccbaepaaDoor
namespace Msg
open Go.RowKit Go.Proofs.YtcfimfoccbaepaaDoor.Mark Go.Proofs.YtcfimfoccbaepaaDoor.Num Go.Proofs.YtcfimfoccbaepaaDoor.Wire

theorem textS_le (most : Int) (l : List UInt8) (E : Int) (h0 : 0 ≤ most) : ((textS most l E).1.length : Int) ≤ most := by
  unfold textS
  split
  · simp; omega
  · simp only
    unfold textT
    split
    · simp; omega
    split
    · simp; omega
    split
    · simp; omega
    · simp only [List.length_take]; omega
theorem numS_b (most : Int) (l : List UInt8) (E : Int) (h0 : 0 ≤ most) : 0 ≤ (numS most l E).1 ∧ (numS most l E).1 ≤ most := numS_le (n := (numS most l E).1) (l' := (numS most l E).2.1) (E' := (numS most l E).2.2) rfl h0
theorem intS_b (most : Int) (l : List UInt8) (E : Int) (h0 : 0 ≤ most) : 0 ≤ (intS most l E).1 ∧ (intS most l E).1 ≤ most := by
  unfold intS; rw [if_neg (by omega)]; exact numS_b most l E h0
theorem marksS_b : ∀ (k : Nat) (l : List UInt8) (E : Int) (K : List M), k + K.length ≤ 512 → (∀ m ∈ K, m.n ≤ 281474976710656 ∧ m.p.length ≤ 16384) → (marksS k l E K).1.length ≤ 512 ∧ ∀ m ∈ (marksS k l E K).1, m.n ≤ 281474976710656 ∧ m.p.length ≤ 16384
  | 0, l, E, K, h, hK => ⟨by rw [marksS]; simp only; omega, by rw [marksS]; exact hK⟩
  | k + 1, l, E, K, h, hK => by
    rw [marksS]
    split
    · exact ⟨by simp only; omega, hK⟩
    · refine marksS_b k _ _ _ (by rw [List.length_append]; simp; omega) (fun m hm => ?_)
      rcases List.mem_append.1 hm with hm | hm
      · exact hK m hm
      · rw [List.mem_singleton] at hm
        subst hm
        have a := numS_b 281474976710656 (textS 16384 l E).2.1 (textS 16384 l E).2.2 (by omega)
        have b := textS_le 16384 l E (by omega)
        simp only
        omega
theorem rvS_b (l : List UInt8) (E : Int) : (rvS l E).1.length ≤ 512 ∧ ∀ m ∈ (rvS l E).1, m.n ≤ 281474976710656 ∧ m.p.length ≤ 16384 := by
  have a := numS_b 512 l E (by omega)
  exact marksS_b _ _ _ [] (by simp; omega) (fun m h => by cases h)
/-- What is read is such as the machine can have. -/
theorem readG_mod (t : List UInt8) : (readG t).1.Mod := by
  have n1 := numS_b 255 t 0 (by omega)
  have s2 := textS_le 16384 (rd1 t).2.1 (rd1 t).2.2 (by omega)
  have s3 := textS_le 16384 (rd2 t).2.1 (rd2 t).2.2 (by omega)
  have v1 := rvS_b (rd3 t).2.1 (rd3 t).2.2
  have n2 := numS_b 18446744073709551615 (rdV t).2.1 (rdV t).2.2 (by omega)
  have i1 := intS_b 256 (rdI t).2.1 (rdI t).2.2 (by omega)
  have i2 := intS_b 256 (rdJ t).2.1 (rdJ t).2.2 (by omega)
  have s4 := textS_le 4096 (rdN t).2.1 (rdN t).2.2 (by omega)
  have n3 := numS_b 281474976710656 (rd3 t).2.1 (rd3 t).2.2 (by omega)
  have s5 := textS_le 16384 (rdS t).2.1 (rdS t).2.2 (by omega)
  have v2 := rvS_b (rdF t).2.1 (rdF t).2.2
  have ok : ∀ K : List M, (∀ m ∈ K, m.n ≤ 281474976710656 ∧ m.p.length ≤ 16384) → Mark.Ok K := fun K h m hm => by have := h m hm; omega
  have okn : Mark.Ok [] := fun m hm => by cases hm
  change 0 ≤ (rd1 t).1 ∧ (rd1 t).1 ≤ 255 at n1
  change ((rd2 t).1.length : Int) ≤ 16384 at s2
  change ((rd3 t).1.length : Int) ≤ 16384 at s3
  change (rdV t).1.length ≤ 512 ∧ ∀ m ∈ (rdV t).1, m.n ≤ 281474976710656 ∧ m.p.length ≤ 16384 at v1
  change 0 ≤ (rdI t).1 ∧ (rdI t).1 ≤ 18446744073709551615 at n2
  change 0 ≤ (rdJ t).1 ∧ (rdJ t).1 ≤ 256 at i1
  change 0 ≤ (rdN t).1 ∧ (rdN t).1 ≤ 256 at i2
  change ((rdX t).1.length : Int) ≤ 4096 at s4
  change 0 ≤ (rdS t).1 ∧ (rdS t).1 ≤ 281474976710656 at n3
  change ((rdF t).1.length : Int) ≤ 16384 at s5
  change (rdW t).1.length ≤ 512 ∧ ∀ m ∈ (rdW t).1, m.n ≤ 281474976710656 ∧ m.p.length ≤ 16384 at v2
  unfold readG
  split
  · exact ⟨⟨by simp, by simp only; omega, by simp only; omega, by simp, by simp, ok _ v1.2, by simp only; omega, by simp only; omega, by simp only; omega, by simp only; omega, by simp only; omega⟩, by simp only [List.length_nil]; omega, by simp only; omega⟩
  split
  · exact ⟨⟨by simp, by simp only; omega, by simp only; omega, by simp, by simp only; omega, okn, by simp, by simp, by simp, by simp, by simp⟩, by simp only [List.length_nil]; omega, by simp⟩
  split
  · exact ⟨⟨by simp, by simp only; omega, by simp only; omega, by simp only; omega, by simp only; omega, okn, by simp, by simp, by simp, by simp, by simp⟩, by simp only [List.length_nil]; omega, by simp⟩
  split
  · exact ⟨⟨by simp, by simp only; omega, by simp only; omega, by simp only; omega, by simp only; omega, ok _ v2.2, by simp only; omega, by simp, by simp, by simp, by simp⟩, by simp only [List.length_nil]; omega, by simp only; omega⟩
  · exact ⟨⟨by simp only; omega, by simp only; omega, by simp only; omega, by simp, by simp, okn, by simp, by simp, by simp, by simp, by simp⟩, by simp only [List.length_nil]; omega, by simp⟩
theorem lies_set {W : World} {a : Option Addr} {n : Nat} {L : List M} (h : Lies W a n L) {p : Addr} (hp : ∀ q, a = some q → q.block ≠ p.block) (v : Value) : Lies (W.setCell p v) a n L := by
  refine ⟨h.1, fun hn => ?_⟩
  obtain ⟨b, off, e, hc⟩ := h.2 hn
  refine ⟨b, off, e, fun j hj => ?_⟩
  obtain ⟨c1, c2⟩ := hc j hj
  have hne := hp _ e
  have hne2 : p.block ≠ b := fun e => hne e.symm
  exact ⟨(World.cell?_setCell_far _ _ _ _ hne2).trans c1, (World.cell?_setCell_far _ _ _ _ hne2).trans c2⟩
def zeroG : G := ⟨0, [], [], [], 0, [], 0, 0, 0, []⟩
/-- The message that bytes tell, or the error. -/
def decG (s : List UInt8) : G × Int :=
  if 16384 < s.length then (zeroG, 4)
  else if (Frame.cutL s).2.2 ≠ 0 then (zeroG, (Frame.cutL s).2.2)
  else if (Frame.cutL s).2.1 = [] ∧ (readG (Frame.cutL s).1).2 = true ∧ mayM (readG (Frame.cutL s).1).1 = true then ((readG (Frame.cutL s).1).1, 0)
  else (zeroG, 8)

set_option maxRecDepth 100000 in
set_option maxHeartbeats 8000000 in
theorem decode_any (s : List UInt8) (w : World) (hs : s.length ≤ 1099511627776) (ht : Crc.Tab w) :
    Calls Tryd.prog 17 #[.string ⟨s.toArray⟩] w fun e w' => ∃ a c, e = .returned (.tuple #[.agg ((decG s).1.cells a c), .int .i64 (decG s).2]) ∧ Lies w' a (decG s).1.all.length (decG s).1.all ∧ Below w.heap.size w w' := by
  have hb := Below.refl w.heap.size w
  have hsz := Str.size_mk s
  have hTab := Lib.hid ht
  clear ht
  by_cases h1 : 16384 < s.length
  · have d1 : decide ((s.length : Int) > 16384) = true := decide_eq_true (by omega)
    have d2 : decide ((16384 : Int) < (s.length : Int)) = true := decide_eq_true (by omega)
    have HV : Hid (decG s = (zeroG, 4)) := Lib.hid (by unfold decG; rw [if_pos h1])
    replace hb := balloc hb (.cells #[.int .u8 0, .string ⟨#[]⟩, .string ⟨#[]⟩, .string ⟨#[]⟩, .int .u64 0, .slice none 0 0, .int .u64 0, .int .i64 0, .int .i64 0, .string ⟨#[]⟩] 27)
    go_enter Tryd.func17, Tryd.ntmps17
    go_wp2
    rw [HV.out]
    refine bodyPost_ret (v := .tuple #[.agg #[.int .u8 0, .string ⟨#[]⟩, .string ⟨#[]⟩, .string ⟨#[]⟩, .int .u64 0, .slice none 0 0, .int .u64 0, .int .i64 0, .int .i64 0, .string ⟨#[]⟩], .int .i64 4]) (by simp [results, Tryd.results17, go_sem]) rfl ?_
    exact ⟨none, 0, rfl, Lies.nil _ _, hb⟩
  have d1 : decide ((s.length : Int) > 16384) = false := decide_eq_false (by omega)
  have d2 : decide ((16384 : Int) < (s.length : Int)) = false := decide_eq_false (by omega)
  obtain ⟨t, r, er, hc⟩ : ∃ t r e, Frame.cutL s = (t, r, e) := ⟨_, _, _, rfl⟩
  have htl : t.length ≤ s.length := by
    have : (Frame.cutL s).1.length ≤ s.length := by
      unfold Frame.cutL
      split
      · simp
      split
      · simp
      split
      · simp
      split
      · simp
      · simp only [List.length_take, List.length_drop]; omega
    rw [hc] at this; exact this
  have C0 := Lib.hid (fun W h => Frame.cut_any s W hs h)
  rw [hc] at C0
  have hm : (w.alloc (.cells #[.int .u8 0, .string ⟨#[]⟩, .string ⟨#[]⟩, .string ⟨#[]⟩, .int .u64 0, .slice none 0 0, .int .u64 0, .int .i64 0, .int .i64 0, .string ⟨#[]⟩] 27)).heap[w.heap.size]? = some (.cells #[.int .u8 0, .string ⟨#[]⟩, .string ⟨#[]⟩, .string ⟨#[]⟩, .int .u64 0, .slice none 0 0, .int .u64 0, .int .i64 0, .int .i64 0, .string ⟨#[]⟩] 27 (0, 0)) := heap_at1 w _
  go_enter Tryd.func17, Tryd.ntmps17
  go_wp2_with fail
  replace hTab := Lib.hid ((hTab.out).below (balloc (Below.refl _ _) (.cells #[.int .u8 0, .string ⟨#[]⟩, .string ⟨#[]⟩, .string ⟨#[]⟩, .int .u64 0, .slice none 0 0, .int .u64 0, .int .i64 0, .int .i64 0, .string ⟨#[]⟩] 27)))
  replace hb := bstep hb (balloc (Below.refl _ _) (.cells #[.int .u8 0, .string ⟨#[]⟩, .string ⟨#[]⟩, .string ⟨#[]⟩, .int .u64 0, .slice none 0 0, .int .u64 0, .int .i64 0, .int .i64 0, .string ⟨#[]⟩] 27))
  go_wp2_with fail
  refine (C0.out _ hTab.out).mono ?_
  rintro e v1 ⟨rfl, k1⟩
  replace hTab := Lib.hid ((hTab.out).below k1)
  replace hm := ((Below.block k1 w.heap.size (heap_lt hm)).trans hm)
  replace hb := bstep hb k1
  clear k1 C0
  by_cases he : er = 0
  rotate_left
  · have d3 : (er != 0) = true := by rw [bne_iff_ne]; exact he
    have HV : Hid (decG s = (zeroG, er)) := Lib.hid (by unfold decG; rw [if_neg h1, hc, if_pos he])
    have fz := fun j => Lib.frozen_of_heap hm j
    have zc0 : _ = (some (.int .u8 0) : Option Value) := (Lib.cell_of_heap hm 0).trans rfl
    have zc1 : _ = (some (.string ⟨#[]⟩) : Option Value) := (Lib.cell_of_heap hm 1).trans rfl
    have zc2 : _ = (some (.string ⟨#[]⟩) : Option Value) := (Lib.cell_of_heap hm 2).trans rfl
    have zc3 : _ = (some (.string ⟨#[]⟩) : Option Value) := (Lib.cell_of_heap hm 3).trans rfl
    have zc4 : _ = (some (.int .u64 0) : Option Value) := (Lib.cell_of_heap hm 4).trans rfl
    have zc5 : _ = (some (.slice none 0 0) : Option Value) := (Lib.cell_of_heap hm 5).trans rfl
    have zc6 : _ = (some (.int .u64 0) : Option Value) := (Lib.cell_of_heap hm 6).trans rfl
    have zc7 : _ = (some (.int .i64 0) : Option Value) := (Lib.cell_of_heap hm 7).trans rfl
    have zc8 : _ = (some (.int .i64 0) : Option Value) := (Lib.cell_of_heap hm 8).trans rfl
    have zc9 : _ = (some (.string ⟨#[]⟩) : Option Value) := (Lib.cell_of_heap hm 9).trans rfl
    go_wp2
    have hh := hm
    rw [set_same hh 0 (.int .u8 0) rfl]
    rw [set_same hh 1 (.string ⟨#[]⟩) rfl]
    rw [set_same hh 2 (.string ⟨#[]⟩) rfl]
    rw [set_same hh 3 (.string ⟨#[]⟩) rfl]
    rw [set_same hh 4 (.int .u64 0) rfl]
    rw [set_same hh 5 (.slice none 0 0) rfl]
    rw [set_same hh 6 (.int .u64 0) rfl]
    rw [set_same hh 7 (.int .i64 0) rfl]
    rw [set_same hh 8 (.int .i64 0) rfl]
    rw [set_same hh 9 (.string ⟨#[]⟩) rfl]
    have y0 : _ = (some (.int .u8 0) : Option Value) := (Lib.cell_of_heap hh 0).trans rfl
    have y1 : _ = (some (.string ⟨#[]⟩) : Option Value) := (Lib.cell_of_heap hh 1).trans rfl
    have y2 : _ = (some (.string ⟨#[]⟩) : Option Value) := (Lib.cell_of_heap hh 2).trans rfl
    have y3 : _ = (some (.string ⟨#[]⟩) : Option Value) := (Lib.cell_of_heap hh 3).trans rfl
    have y4 : _ = (some (.int .u64 0) : Option Value) := (Lib.cell_of_heap hh 4).trans rfl
    have y5 : _ = (some (.slice none 0 0) : Option Value) := (Lib.cell_of_heap hh 5).trans rfl
    have y6 : _ = (some (.int .u64 0) : Option Value) := (Lib.cell_of_heap hh 6).trans rfl
    have y7 : _ = (some (.int .i64 0) : Option Value) := (Lib.cell_of_heap hh 7).trans rfl
    have y8 : _ = (some (.int .i64 0) : Option Value) := (Lib.cell_of_heap hh 8).trans rfl
    have y9 : _ = (some (.string ⟨#[]⟩) : Option Value) := (Lib.cell_of_heap hh 9).trans rfl
    rw [HV.out]
    refine bodyPost_ret (v := .tuple #[.agg #[.int .u8 0, .string ⟨#[]⟩, .string ⟨#[]⟩, .string ⟨#[]⟩, .int .u64 0, .slice none 0 0, .int .u64 0, .int .i64 0, .int .i64 0, .string ⟨#[]⟩], .int .i64 er]) (by simp [results, Tryd.results17, go_sem, y0, y1, y2, y3, y4, y5, y6, y7, y8, y9]) rfl ?_
    exact ⟨none, 0, rfl, Lies.nil _ _, hb⟩
  subst he
  have R0 := fun W => read_any t W (by omega)
  have hmod := readG_mod t
  obtain ⟨⟨⟨k, src, dst, fr, sq, R, id, ii, nn, tx⟩, ok⟩, hG⟩ : ∃ x, x = readG t := ⟨_, rfl⟩
  rw [← hG] at R0 hmod
  simp only [G.cells] at R0
  replace R0 := Lib.hid R0
  have HG := Lib.hid hG
  have HC := Lib.hid hc
  have HM := Lib.hid hmod
  clear hG hc hmod
  go_wp2_with fail
  refine (R0.out _).mono ?_
  rintro e v2 ⟨a, c, rfl, hl, far, k2⟩
  have hlt0 := heap_lt hm
  replace far : Hid (∀ q, a = some q → q.block ≠ w.heap.size) := Lib.hid (fun q e => by have := far q e; omega)
  
  replace hTab := Lib.hid ((hTab.out).below k2)
  replace hm := ((Below.block k2 w.heap.size (heap_lt hm)).trans hm)
  replace hb := bstep hb k2
  clear k2 R0
  replace hl := Lib.hid hl
  cases hr : (r == [])
  · have d4 : (!(r == [])) = true := by rw [hr]; rfl
    have HV : Hid (decG s = (zeroG, 8)) := Lib.hid (by
      have hrn : ¬ r = [] := fun e => by rw [e] at hr; cases hr
      unfold decG; rw [if_neg h1, HC.out, if_neg (by simp), if_neg (fun h => hrn h.1)])
    replace hTab := Lib.hid ((hTab.out).below (balloc (Below.refl _ _) (.cells #[.int .u8 (k : Int), .string ⟨src.toArray⟩, .string ⟨dst.toArray⟩, .string ⟨fr.toArray⟩, .int .u64 (sq : Int), .slice a R.length c, .int .u64 (id : Int), .int .i64 ii, .int .i64 nn, .string ⟨tx.toArray⟩] 27)))
    replace hm := ((Below.block (balloc (Below.refl _ _) (.cells #[.int .u8 (k : Int), .string ⟨src.toArray⟩, .string ⟨dst.toArray⟩, .string ⟨fr.toArray⟩, .int .u64 (sq : Int), .slice a R.length c, .int .u64 (id : Int), .int .i64 ii, .int .i64 nn, .string ⟨tx.toArray⟩] 27)) w.heap.size (heap_lt hm)).trans hm)
    replace hl := Lib.hid ((hl.out).below (balloc (Below.refl _ _) (.cells #[.int .u8 (k : Int), .string ⟨src.toArray⟩, .string ⟨dst.toArray⟩, .string ⟨fr.toArray⟩, .int .u64 (sq : Int), .slice a R.length c, .int .u64 (id : Int), .int .i64 ii, .int .i64 nn, .string ⟨tx.toArray⟩] 27)))
    replace hb := bstep hb (balloc (Below.refl _ _) (.cells #[.int .u8 (k : Int), .string ⟨src.toArray⟩, .string ⟨dst.toArray⟩, .string ⟨fr.toArray⟩, .int .u64 (sq : Int), .slice a R.length c, .int .u64 (id : Int), .int .i64 ii, .int .i64 nn, .string ⟨tx.toArray⟩] 27))
    have bx := Box.new v2 #[.int .u8 (k : Int), .string ⟨src.toArray⟩, .string ⟨dst.toArray⟩, .string ⟨fr.toArray⟩, .int .u64 (sq : Int), .slice a R.length c, .int .u64 (id : Int), .int .i64 ii, .int .i64 nn, .string ⟨tx.toArray⟩] 27
    have fz := fun j => Lib.frozen_of_heap hm j
    have zc0 : _ = (some (.int .u8 0) : Option Value) := (Lib.cell_of_heap hm 0).trans rfl
    have zc1 : _ = (some (.string ⟨#[]⟩) : Option Value) := (Lib.cell_of_heap hm 1).trans rfl
    have zc2 : _ = (some (.string ⟨#[]⟩) : Option Value) := (Lib.cell_of_heap hm 2).trans rfl
    have zc3 : _ = (some (.string ⟨#[]⟩) : Option Value) := (Lib.cell_of_heap hm 3).trans rfl
    have zc4 : _ = (some (.int .u64 0) : Option Value) := (Lib.cell_of_heap hm 4).trans rfl
    have zc5 : _ = (some (.slice none 0 0) : Option Value) := (Lib.cell_of_heap hm 5).trans rfl
    have zc6 : _ = (some (.int .u64 0) : Option Value) := (Lib.cell_of_heap hm 6).trans rfl
    have zc7 : _ = (some (.int .i64 0) : Option Value) := (Lib.cell_of_heap hm 7).trans rfl
    have zc8 : _ = (some (.int .i64 0) : Option Value) := (Lib.cell_of_heap hm 8).trans rfl
    have zc9 : _ = (some (.string ⟨#[]⟩) : Option Value) := (Lib.cell_of_heap hm 9).trans rfl
    go_wp2
    have hh := hm
    rw [set_same hh 0 (.int .u8 0) rfl]
    rw [set_same hh 1 (.string ⟨#[]⟩) rfl]
    rw [set_same hh 2 (.string ⟨#[]⟩) rfl]
    rw [set_same hh 3 (.string ⟨#[]⟩) rfl]
    rw [set_same hh 4 (.int .u64 0) rfl]
    rw [set_same hh 5 (.slice none 0 0) rfl]
    rw [set_same hh 6 (.int .u64 0) rfl]
    rw [set_same hh 7 (.int .i64 0) rfl]
    rw [set_same hh 8 (.int .i64 0) rfl]
    rw [set_same hh 9 (.string ⟨#[]⟩) rfl]
    have y0 : _ = (some (.int .u8 0) : Option Value) := (Lib.cell_of_heap hh 0).trans rfl
    have y1 : _ = (some (.string ⟨#[]⟩) : Option Value) := (Lib.cell_of_heap hh 1).trans rfl
    have y2 : _ = (some (.string ⟨#[]⟩) : Option Value) := (Lib.cell_of_heap hh 2).trans rfl
    have y3 : _ = (some (.string ⟨#[]⟩) : Option Value) := (Lib.cell_of_heap hh 3).trans rfl
    have y4 : _ = (some (.int .u64 0) : Option Value) := (Lib.cell_of_heap hh 4).trans rfl
    have y5 : _ = (some (.slice none 0 0) : Option Value) := (Lib.cell_of_heap hh 5).trans rfl
    have y6 : _ = (some (.int .u64 0) : Option Value) := (Lib.cell_of_heap hh 6).trans rfl
    have y7 : _ = (some (.int .i64 0) : Option Value) := (Lib.cell_of_heap hh 7).trans rfl
    have y8 : _ = (some (.int .i64 0) : Option Value) := (Lib.cell_of_heap hh 8).trans rfl
    have y9 : _ = (some (.string ⟨#[]⟩) : Option Value) := (Lib.cell_of_heap hh 9).trans rfl
    rw [HV.out]
    refine bodyPost_ret (v := .tuple #[.agg #[.int .u8 0, .string ⟨#[]⟩, .string ⟨#[]⟩, .string ⟨#[]⟩, .int .u64 0, .slice none 0 0, .int .u64 0, .int .i64 0, .int .i64 0, .string ⟨#[]⟩], .int .i64 8]) (by simp [results, Tryd.results17, go_sem, y0, y1, y2, y3, y4, y5, y6, y7, y8, y9]) rfl ?_
    exact ⟨none, 0, rfl, Lies.nil _ _, hb⟩
  have hr0 : r = [] := by simpa using hr
  have d4 : (!(r == [])) = false := by rw [hr]; rfl
  cases hok : ok
  · subst hok
    have HV : Hid (decG s = (zeroG, 8)) := Lib.hid (by unfold decG; rw [if_neg h1, HC.out, if_neg (by simp), if_neg (fun h => by have := h.2.1; simp only at this; rw [← HG.out] at this; cases this)])
    replace hr0 := Lib.hid hr0
    replace hTab := Lib.hid ((hTab.out).below (balloc (Below.refl _ _) (.cells #[.int .u8 (k : Int), .string ⟨src.toArray⟩, .string ⟨dst.toArray⟩, .string ⟨fr.toArray⟩, .int .u64 (sq : Int), .slice a R.length c, .int .u64 (id : Int), .int .i64 ii, .int .i64 nn, .string ⟨tx.toArray⟩] 27)))
    replace hm := ((Below.block (balloc (Below.refl _ _) (.cells #[.int .u8 (k : Int), .string ⟨src.toArray⟩, .string ⟨dst.toArray⟩, .string ⟨fr.toArray⟩, .int .u64 (sq : Int), .slice a R.length c, .int .u64 (id : Int), .int .i64 ii, .int .i64 nn, .string ⟨tx.toArray⟩] 27)) w.heap.size (heap_lt hm)).trans hm)
    replace hl := Lib.hid ((hl.out).below (balloc (Below.refl _ _) (.cells #[.int .u8 (k : Int), .string ⟨src.toArray⟩, .string ⟨dst.toArray⟩, .string ⟨fr.toArray⟩, .int .u64 (sq : Int), .slice a R.length c, .int .u64 (id : Int), .int .i64 ii, .int .i64 nn, .string ⟨tx.toArray⟩] 27)))
    replace hb := bstep hb (balloc (Below.refl _ _) (.cells #[.int .u8 (k : Int), .string ⟨src.toArray⟩, .string ⟨dst.toArray⟩, .string ⟨fr.toArray⟩, .int .u64 (sq : Int), .slice a R.length c, .int .u64 (id : Int), .int .i64 ii, .int .i64 nn, .string ⟨tx.toArray⟩] 27))
    have bx := Box.new v2 #[.int .u8 (k : Int), .string ⟨src.toArray⟩, .string ⟨dst.toArray⟩, .string ⟨fr.toArray⟩, .int .u64 (sq : Int), .slice a R.length c, .int .u64 (id : Int), .int .i64 ii, .int .i64 nn, .string ⟨tx.toArray⟩] 27
    have fz := fun j => Lib.frozen_of_heap hm j
    have zc0 : _ = (some (.int .u8 0) : Option Value) := (Lib.cell_of_heap hm 0).trans rfl
    have zc1 : _ = (some (.string ⟨#[]⟩) : Option Value) := (Lib.cell_of_heap hm 1).trans rfl
    have zc2 : _ = (some (.string ⟨#[]⟩) : Option Value) := (Lib.cell_of_heap hm 2).trans rfl
    have zc3 : _ = (some (.string ⟨#[]⟩) : Option Value) := (Lib.cell_of_heap hm 3).trans rfl
    have zc4 : _ = (some (.int .u64 0) : Option Value) := (Lib.cell_of_heap hm 4).trans rfl
    have zc5 : _ = (some (.slice none 0 0) : Option Value) := (Lib.cell_of_heap hm 5).trans rfl
    have zc6 : _ = (some (.int .u64 0) : Option Value) := (Lib.cell_of_heap hm 6).trans rfl
    have zc7 : _ = (some (.int .i64 0) : Option Value) := (Lib.cell_of_heap hm 7).trans rfl
    have zc8 : _ = (some (.int .i64 0) : Option Value) := (Lib.cell_of_heap hm 8).trans rfl
    have zc9 : _ = (some (.string ⟨#[]⟩) : Option Value) := (Lib.cell_of_heap hm 9).trans rfl
    go_wp2
    have hh := hm
    rw [set_same hh 0 (.int .u8 0) rfl]
    rw [set_same hh 1 (.string ⟨#[]⟩) rfl]
    rw [set_same hh 2 (.string ⟨#[]⟩) rfl]
    rw [set_same hh 3 (.string ⟨#[]⟩) rfl]
    rw [set_same hh 4 (.int .u64 0) rfl]
    rw [set_same hh 5 (.slice none 0 0) rfl]
    rw [set_same hh 6 (.int .u64 0) rfl]
    rw [set_same hh 7 (.int .i64 0) rfl]
    rw [set_same hh 8 (.int .i64 0) rfl]
    rw [set_same hh 9 (.string ⟨#[]⟩) rfl]
    have y0 : _ = (some (.int .u8 0) : Option Value) := (Lib.cell_of_heap hh 0).trans rfl
    have y1 : _ = (some (.string ⟨#[]⟩) : Option Value) := (Lib.cell_of_heap hh 1).trans rfl
    have y2 : _ = (some (.string ⟨#[]⟩) : Option Value) := (Lib.cell_of_heap hh 2).trans rfl
    have y3 : _ = (some (.string ⟨#[]⟩) : Option Value) := (Lib.cell_of_heap hh 3).trans rfl
    have y4 : _ = (some (.int .u64 0) : Option Value) := (Lib.cell_of_heap hh 4).trans rfl
    have y5 : _ = (some (.slice none 0 0) : Option Value) := (Lib.cell_of_heap hh 5).trans rfl
    have y6 : _ = (some (.int .u64 0) : Option Value) := (Lib.cell_of_heap hh 6).trans rfl
    have y7 : _ = (some (.int .i64 0) : Option Value) := (Lib.cell_of_heap hh 7).trans rfl
    have y8 : _ = (some (.int .i64 0) : Option Value) := (Lib.cell_of_heap hh 8).trans rfl
    have y9 : _ = (some (.string ⟨#[]⟩) : Option Value) := (Lib.cell_of_heap hh 9).trans rfl
    rw [HV.out]
    refine bodyPost_ret (v := .tuple #[.agg #[.int .u8 0, .string ⟨#[]⟩, .string ⟨#[]⟩, .string ⟨#[]⟩, .int .u64 0, .slice none 0 0, .int .u64 0, .int .i64 0, .int .i64 0, .string ⟨#[]⟩], .int .i64 8]) (by simp [results, Tryd.results17, go_sem, y0, y1, y2, y3, y4, y5, y6, y7, y8, y9]) rfl ?_
    exact ⟨none, 0, rfl, Lies.nil _ _, hb⟩
  subst hok
  have MY := Lib.hid (fun W h => may_any k src dst fr sq R id ii nn tx a c W HM.out h)
  obtain ⟨y, hy⟩ : ∃ y, mayM ⟨k, src, dst, fr, sq, R, id, ii, nn, tx⟩ = y := ⟨_, rfl⟩
  rw [hy] at MY
  cases y
  · have HV : Hid (decG s = (zeroG, 8)) := Lib.hid (by unfold decG; rw [if_neg h1, HC.out, if_neg (by simp), if_neg (fun h => by have := h.2.2; simp only at this; rw [← HG.out, hy] at this; cases this)])
    replace hr0 := Lib.hid hr0
    clear hy
    replace hTab := Lib.hid ((hTab.out).below (balloc (Below.refl _ _) (.cells #[.int .u8 (k : Int), .string ⟨src.toArray⟩, .string ⟨dst.toArray⟩, .string ⟨fr.toArray⟩, .int .u64 (sq : Int), .slice a R.length c, .int .u64 (id : Int), .int .i64 ii, .int .i64 nn, .string ⟨tx.toArray⟩] 27)))
    replace hm := ((Below.block (balloc (Below.refl _ _) (.cells #[.int .u8 (k : Int), .string ⟨src.toArray⟩, .string ⟨dst.toArray⟩, .string ⟨fr.toArray⟩, .int .u64 (sq : Int), .slice a R.length c, .int .u64 (id : Int), .int .i64 ii, .int .i64 nn, .string ⟨tx.toArray⟩] 27)) w.heap.size (heap_lt hm)).trans hm)
    replace hl := Lib.hid ((hl.out).below (balloc (Below.refl _ _) (.cells #[.int .u8 (k : Int), .string ⟨src.toArray⟩, .string ⟨dst.toArray⟩, .string ⟨fr.toArray⟩, .int .u64 (sq : Int), .slice a R.length c, .int .u64 (id : Int), .int .i64 ii, .int .i64 nn, .string ⟨tx.toArray⟩] 27)))
    replace hb := bstep hb (balloc (Below.refl _ _) (.cells #[.int .u8 (k : Int), .string ⟨src.toArray⟩, .string ⟨dst.toArray⟩, .string ⟨fr.toArray⟩, .int .u64 (sq : Int), .slice a R.length c, .int .u64 (id : Int), .int .i64 ii, .int .i64 nn, .string ⟨tx.toArray⟩] 27))
    have bx := Box.new v2 #[.int .u8 (k : Int), .string ⟨src.toArray⟩, .string ⟨dst.toArray⟩, .string ⟨fr.toArray⟩, .int .u64 (sq : Int), .slice a R.length c, .int .u64 (id : Int), .int .i64 ii, .int .i64 nn, .string ⟨tx.toArray⟩] 27
    have x0 := bx 0 _ rfl
    have x1 := bx 1 _ rfl
    have x2 := bx 2 _ rfl
    have x3 := bx 3 _ rfl
    have x4 := bx 4 _ rfl
    have x5 := bx 5 _ rfl
    have x6 := bx 6 _ rfl
    have x7 := bx 7 _ rfl
    have x8 := bx 8 _ rfl
    have x9 := bx 9 _ rfl
    go_wp2_with fail
    refine (MY.out _ hl.out).mono ?_
    rintro e v3 ⟨rfl, k3⟩
    replace hTab := Lib.hid ((hTab.out).below k3)
    replace hm := ((Below.block k3 w.heap.size (heap_lt hm)).trans hm)
    replace hl := Lib.hid ((hl.out).below k3)
    replace bx := ((bx).below k3)
    replace hb := bstep hb k3
    clear k3 x0 x1 x2 x3 x4 x5 x6 x7 x8 x9
    have fz := fun j => Lib.frozen_of_heap hm j
    have zc0 : _ = (some (.int .u8 0) : Option Value) := (Lib.cell_of_heap hm 0).trans rfl
    have zc1 : _ = (some (.string ⟨#[]⟩) : Option Value) := (Lib.cell_of_heap hm 1).trans rfl
    have zc2 : _ = (some (.string ⟨#[]⟩) : Option Value) := (Lib.cell_of_heap hm 2).trans rfl
    have zc3 : _ = (some (.string ⟨#[]⟩) : Option Value) := (Lib.cell_of_heap hm 3).trans rfl
    have zc4 : _ = (some (.int .u64 0) : Option Value) := (Lib.cell_of_heap hm 4).trans rfl
    have zc5 : _ = (some (.slice none 0 0) : Option Value) := (Lib.cell_of_heap hm 5).trans rfl
    have zc6 : _ = (some (.int .u64 0) : Option Value) := (Lib.cell_of_heap hm 6).trans rfl
    have zc7 : _ = (some (.int .i64 0) : Option Value) := (Lib.cell_of_heap hm 7).trans rfl
    have zc8 : _ = (some (.int .i64 0) : Option Value) := (Lib.cell_of_heap hm 8).trans rfl
    have zc9 : _ = (some (.string ⟨#[]⟩) : Option Value) := (Lib.cell_of_heap hm 9).trans rfl
    go_wp2
    have hh := hm
    rw [set_same hh 0 (.int .u8 0) rfl]
    rw [set_same hh 1 (.string ⟨#[]⟩) rfl]
    rw [set_same hh 2 (.string ⟨#[]⟩) rfl]
    rw [set_same hh 3 (.string ⟨#[]⟩) rfl]
    rw [set_same hh 4 (.int .u64 0) rfl]
    rw [set_same hh 5 (.slice none 0 0) rfl]
    rw [set_same hh 6 (.int .u64 0) rfl]
    rw [set_same hh 7 (.int .i64 0) rfl]
    rw [set_same hh 8 (.int .i64 0) rfl]
    rw [set_same hh 9 (.string ⟨#[]⟩) rfl]
    have y0 : _ = (some (.int .u8 0) : Option Value) := (Lib.cell_of_heap hh 0).trans rfl
    have y1 : _ = (some (.string ⟨#[]⟩) : Option Value) := (Lib.cell_of_heap hh 1).trans rfl
    have y2 : _ = (some (.string ⟨#[]⟩) : Option Value) := (Lib.cell_of_heap hh 2).trans rfl
    have y3 : _ = (some (.string ⟨#[]⟩) : Option Value) := (Lib.cell_of_heap hh 3).trans rfl
    have y4 : _ = (some (.int .u64 0) : Option Value) := (Lib.cell_of_heap hh 4).trans rfl
    have y5 : _ = (some (.slice none 0 0) : Option Value) := (Lib.cell_of_heap hh 5).trans rfl
    have y6 : _ = (some (.int .u64 0) : Option Value) := (Lib.cell_of_heap hh 6).trans rfl
    have y7 : _ = (some (.int .i64 0) : Option Value) := (Lib.cell_of_heap hh 7).trans rfl
    have y8 : _ = (some (.int .i64 0) : Option Value) := (Lib.cell_of_heap hh 8).trans rfl
    have y9 : _ = (some (.string ⟨#[]⟩) : Option Value) := (Lib.cell_of_heap hh 9).trans rfl
    rw [HV.out]
    refine bodyPost_ret (v := .tuple #[.agg #[.int .u8 0, .string ⟨#[]⟩, .string ⟨#[]⟩, .string ⟨#[]⟩, .int .u64 0, .slice none 0 0, .int .u64 0, .int .i64 0, .int .i64 0, .string ⟨#[]⟩], .int .i64 8]) (by simp [results, Tryd.results17, go_sem, y0, y1, y2, y3, y4, y5, y6, y7, y8, y9]) rfl ?_
    exact ⟨none, 0, rfl, Lies.nil _ _, hb⟩
  have HV : Hid (decG s = (⟨k, src, dst, fr, sq, R, id, ii, nn, tx⟩, 0)) := Lib.hid (by unfold decG; rw [if_neg h1, HC.out, if_neg (by simp), if_pos ⟨hr0, by simp only; rw [← HG.out], by simp only; rw [← HG.out]; exact hy⟩]; simp only; rw [← HG.out])
  replace hr0 := Lib.hid hr0
  clear hy
  replace hTab := Lib.hid ((hTab.out).below (balloc (Below.refl _ _) (.cells #[.int .u8 (k : Int), .string ⟨src.toArray⟩, .string ⟨dst.toArray⟩, .string ⟨fr.toArray⟩, .int .u64 (sq : Int), .slice a R.length c, .int .u64 (id : Int), .int .i64 ii, .int .i64 nn, .string ⟨tx.toArray⟩] 27)))
  replace hm := ((Below.block (balloc (Below.refl _ _) (.cells #[.int .u8 (k : Int), .string ⟨src.toArray⟩, .string ⟨dst.toArray⟩, .string ⟨fr.toArray⟩, .int .u64 (sq : Int), .slice a R.length c, .int .u64 (id : Int), .int .i64 ii, .int .i64 nn, .string ⟨tx.toArray⟩] 27)) w.heap.size (heap_lt hm)).trans hm)
  replace hl := Lib.hid ((hl.out).below (balloc (Below.refl _ _) (.cells #[.int .u8 (k : Int), .string ⟨src.toArray⟩, .string ⟨dst.toArray⟩, .string ⟨fr.toArray⟩, .int .u64 (sq : Int), .slice a R.length c, .int .u64 (id : Int), .int .i64 ii, .int .i64 nn, .string ⟨tx.toArray⟩] 27)))
  replace hb := bstep hb (balloc (Below.refl _ _) (.cells #[.int .u8 (k : Int), .string ⟨src.toArray⟩, .string ⟨dst.toArray⟩, .string ⟨fr.toArray⟩, .int .u64 (sq : Int), .slice a R.length c, .int .u64 (id : Int), .int .i64 ii, .int .i64 nn, .string ⟨tx.toArray⟩] 27))
  have bx := Box.new v2 #[.int .u8 (k : Int), .string ⟨src.toArray⟩, .string ⟨dst.toArray⟩, .string ⟨fr.toArray⟩, .int .u64 (sq : Int), .slice a R.length c, .int .u64 (id : Int), .int .i64 ii, .int .i64 nn, .string ⟨tx.toArray⟩] 27
  have x0 := bx 0 _ rfl
  have x1 := bx 1 _ rfl
  have x2 := bx 2 _ rfl
  have x3 := bx 3 _ rfl
  have x4 := bx 4 _ rfl
  have x5 := bx 5 _ rfl
  have x6 := bx 6 _ rfl
  have x7 := bx 7 _ rfl
  have x8 := bx 8 _ rfl
  have x9 := bx 9 _ rfl
  go_wp2_with fail
  refine (MY.out _ hl.out).mono ?_
  rintro e v3 ⟨rfl, k3⟩
  replace hTab := Lib.hid ((hTab.out).below k3)
  replace hm := ((Below.block k3 w.heap.size (heap_lt hm)).trans hm)
  replace hl := Lib.hid ((hl.out).below k3)
  replace bx := ((bx).below k3)
  replace hb := bstep hb k3
  clear k3 x0 x1 x2 x3 x4 x5 x6 x7 x8 x9
  have fz := fun j => Lib.frozen_of_heap hm j
  have zc0 : _ = (some (.int .u8 0) : Option Value) := (Lib.cell_of_heap hm 0).trans rfl
  have zc1 : _ = (some (.string ⟨#[]⟩) : Option Value) := (Lib.cell_of_heap hm 1).trans rfl
  have zc2 : _ = (some (.string ⟨#[]⟩) : Option Value) := (Lib.cell_of_heap hm 2).trans rfl
  have zc3 : _ = (some (.string ⟨#[]⟩) : Option Value) := (Lib.cell_of_heap hm 3).trans rfl
  have zc4 : _ = (some (.int .u64 0) : Option Value) := (Lib.cell_of_heap hm 4).trans rfl
  have zc5 : _ = (some (.slice none 0 0) : Option Value) := (Lib.cell_of_heap hm 5).trans rfl
  have zc6 : _ = (some (.int .u64 0) : Option Value) := (Lib.cell_of_heap hm 6).trans rfl
  have zc7 : _ = (some (.int .i64 0) : Option Value) := (Lib.cell_of_heap hm 7).trans rfl
  have zc8 : _ = (some (.int .i64 0) : Option Value) := (Lib.cell_of_heap hm 8).trans rfl
  have zc9 : _ = (some (.string ⟨#[]⟩) : Option Value) := (Lib.cell_of_heap hm 9).trans rfl
  have x0 := bx 0 _ rfl
  have x1 := bx 1 _ rfl
  have x2 := bx 2 _ rfl
  have x3 := bx 3 _ rfl
  have x4 := bx 4 _ rfl
  have x5 := bx 5 _ rfl
  have x6 := bx 6 _ rfl
  have x7 := bx 7 _ rfl
  have x8 := bx 8 _ rfl
  have x9 := bx 9 _ rfl
  have e0 : (v3.setCell ⟨w.heap.size, 0, none⟩ (.int .u8 (k : Int))).heap[w.heap.size]? = some (.cells #[.int .u8 (k : Int), .string ⟨#[]⟩, .string ⟨#[]⟩, .string ⟨#[]⟩, .int .u64 0, .slice none 0 0, .int .u64 0, .int .i64 0, .int .i64 0, .string ⟨#[]⟩] 27 (0, 0)) := Joins.block_setCell hm _
  have e1 : ((v3.setCell ⟨w.heap.size, 0, none⟩ (.int .u8 (k : Int))).setCell ⟨w.heap.size, 1, none⟩ (.string ⟨src.toArray⟩)).heap[w.heap.size]? = some (.cells #[.int .u8 (k : Int), .string ⟨src.toArray⟩, .string ⟨#[]⟩, .string ⟨#[]⟩, .int .u64 0, .slice none 0 0, .int .u64 0, .int .i64 0, .int .i64 0, .string ⟨#[]⟩] 27 (0, 0)) := Joins.block_setCell e0 _
  have e2 : (((v3.setCell ⟨w.heap.size, 0, none⟩ (.int .u8 (k : Int))).setCell ⟨w.heap.size, 1, none⟩ (.string ⟨src.toArray⟩)).setCell ⟨w.heap.size, 2, none⟩ (.string ⟨dst.toArray⟩)).heap[w.heap.size]? = some (.cells #[.int .u8 (k : Int), .string ⟨src.toArray⟩, .string ⟨dst.toArray⟩, .string ⟨#[]⟩, .int .u64 0, .slice none 0 0, .int .u64 0, .int .i64 0, .int .i64 0, .string ⟨#[]⟩] 27 (0, 0)) := Joins.block_setCell e1 _
  have e3 : ((((v3.setCell ⟨w.heap.size, 0, none⟩ (.int .u8 (k : Int))).setCell ⟨w.heap.size, 1, none⟩ (.string ⟨src.toArray⟩)).setCell ⟨w.heap.size, 2, none⟩ (.string ⟨dst.toArray⟩)).setCell ⟨w.heap.size, 3, none⟩ (.string ⟨fr.toArray⟩)).heap[w.heap.size]? = some (.cells #[.int .u8 (k : Int), .string ⟨src.toArray⟩, .string ⟨dst.toArray⟩, .string ⟨fr.toArray⟩, .int .u64 0, .slice none 0 0, .int .u64 0, .int .i64 0, .int .i64 0, .string ⟨#[]⟩] 27 (0, 0)) := Joins.block_setCell e2 _
  have e4 : (((((v3.setCell ⟨w.heap.size, 0, none⟩ (.int .u8 (k : Int))).setCell ⟨w.heap.size, 1, none⟩ (.string ⟨src.toArray⟩)).setCell ⟨w.heap.size, 2, none⟩ (.string ⟨dst.toArray⟩)).setCell ⟨w.heap.size, 3, none⟩ (.string ⟨fr.toArray⟩)).setCell ⟨w.heap.size, 4, none⟩ (.int .u64 (sq : Int))).heap[w.heap.size]? = some (.cells #[.int .u8 (k : Int), .string ⟨src.toArray⟩, .string ⟨dst.toArray⟩, .string ⟨fr.toArray⟩, .int .u64 (sq : Int), .slice none 0 0, .int .u64 0, .int .i64 0, .int .i64 0, .string ⟨#[]⟩] 27 (0, 0)) := Joins.block_setCell e3 _
  have e5 : ((((((v3.setCell ⟨w.heap.size, 0, none⟩ (.int .u8 (k : Int))).setCell ⟨w.heap.size, 1, none⟩ (.string ⟨src.toArray⟩)).setCell ⟨w.heap.size, 2, none⟩ (.string ⟨dst.toArray⟩)).setCell ⟨w.heap.size, 3, none⟩ (.string ⟨fr.toArray⟩)).setCell ⟨w.heap.size, 4, none⟩ (.int .u64 (sq : Int))).setCell ⟨w.heap.size, 5, none⟩ (.slice a R.length c)).heap[w.heap.size]? = some (.cells #[.int .u8 (k : Int), .string ⟨src.toArray⟩, .string ⟨dst.toArray⟩, .string ⟨fr.toArray⟩, .int .u64 (sq : Int), .slice a R.length c, .int .u64 0, .int .i64 0, .int .i64 0, .string ⟨#[]⟩] 27 (0, 0)) := Joins.block_setCell e4 _
  have e6 : (((((((v3.setCell ⟨w.heap.size, 0, none⟩ (.int .u8 (k : Int))).setCell ⟨w.heap.size, 1, none⟩ (.string ⟨src.toArray⟩)).setCell ⟨w.heap.size, 2, none⟩ (.string ⟨dst.toArray⟩)).setCell ⟨w.heap.size, 3, none⟩ (.string ⟨fr.toArray⟩)).setCell ⟨w.heap.size, 4, none⟩ (.int .u64 (sq : Int))).setCell ⟨w.heap.size, 5, none⟩ (.slice a R.length c)).setCell ⟨w.heap.size, 6, none⟩ (.int .u64 (id : Int))).heap[w.heap.size]? = some (.cells #[.int .u8 (k : Int), .string ⟨src.toArray⟩, .string ⟨dst.toArray⟩, .string ⟨fr.toArray⟩, .int .u64 (sq : Int), .slice a R.length c, .int .u64 (id : Int), .int .i64 0, .int .i64 0, .string ⟨#[]⟩] 27 (0, 0)) := Joins.block_setCell e5 _
  have e7 : ((((((((v3.setCell ⟨w.heap.size, 0, none⟩ (.int .u8 (k : Int))).setCell ⟨w.heap.size, 1, none⟩ (.string ⟨src.toArray⟩)).setCell ⟨w.heap.size, 2, none⟩ (.string ⟨dst.toArray⟩)).setCell ⟨w.heap.size, 3, none⟩ (.string ⟨fr.toArray⟩)).setCell ⟨w.heap.size, 4, none⟩ (.int .u64 (sq : Int))).setCell ⟨w.heap.size, 5, none⟩ (.slice a R.length c)).setCell ⟨w.heap.size, 6, none⟩ (.int .u64 (id : Int))).setCell ⟨w.heap.size, 7, none⟩ (.int .i64 ii)).heap[w.heap.size]? = some (.cells #[.int .u8 (k : Int), .string ⟨src.toArray⟩, .string ⟨dst.toArray⟩, .string ⟨fr.toArray⟩, .int .u64 (sq : Int), .slice a R.length c, .int .u64 (id : Int), .int .i64 ii, .int .i64 0, .string ⟨#[]⟩] 27 (0, 0)) := Joins.block_setCell e6 _
  have e8 : (((((((((v3.setCell ⟨w.heap.size, 0, none⟩ (.int .u8 (k : Int))).setCell ⟨w.heap.size, 1, none⟩ (.string ⟨src.toArray⟩)).setCell ⟨w.heap.size, 2, none⟩ (.string ⟨dst.toArray⟩)).setCell ⟨w.heap.size, 3, none⟩ (.string ⟨fr.toArray⟩)).setCell ⟨w.heap.size, 4, none⟩ (.int .u64 (sq : Int))).setCell ⟨w.heap.size, 5, none⟩ (.slice a R.length c)).setCell ⟨w.heap.size, 6, none⟩ (.int .u64 (id : Int))).setCell ⟨w.heap.size, 7, none⟩ (.int .i64 ii)).setCell ⟨w.heap.size, 8, none⟩ (.int .i64 nn)).heap[w.heap.size]? = some (.cells #[.int .u8 (k : Int), .string ⟨src.toArray⟩, .string ⟨dst.toArray⟩, .string ⟨fr.toArray⟩, .int .u64 (sq : Int), .slice a R.length c, .int .u64 (id : Int), .int .i64 ii, .int .i64 nn, .string ⟨#[]⟩] 27 (0, 0)) := Joins.block_setCell e7 _
  have e9 : ((((((((((v3.setCell ⟨w.heap.size, 0, none⟩ (.int .u8 (k : Int))).setCell ⟨w.heap.size, 1, none⟩ (.string ⟨src.toArray⟩)).setCell ⟨w.heap.size, 2, none⟩ (.string ⟨dst.toArray⟩)).setCell ⟨w.heap.size, 3, none⟩ (.string ⟨fr.toArray⟩)).setCell ⟨w.heap.size, 4, none⟩ (.int .u64 (sq : Int))).setCell ⟨w.heap.size, 5, none⟩ (.slice a R.length c)).setCell ⟨w.heap.size, 6, none⟩ (.int .u64 (id : Int))).setCell ⟨w.heap.size, 7, none⟩ (.int .i64 ii)).setCell ⟨w.heap.size, 8, none⟩ (.int .i64 nn)).setCell ⟨w.heap.size, 9, none⟩ (.string ⟨tx.toArray⟩)).heap[w.heap.size]? = some (.cells #[.int .u8 (k : Int), .string ⟨src.toArray⟩, .string ⟨dst.toArray⟩, .string ⟨fr.toArray⟩, .int .u64 (sq : Int), .slice a R.length c, .int .u64 (id : Int), .int .i64 ii, .int .i64 nn, .string ⟨tx.toArray⟩] 27 (0, 0)) := Joins.block_setCell e8 _
  have HE := Lib.hid e9
  clear e0 e1 e2 e3 e4 e5 e6 e7 e8 e9
  have lz0 := hl.out
  have bz0 := hb
  have lz1 := lies_set lz0 (p := ⟨w.heap.size, 0, none⟩) far.out (.int .u8 (k : Int))
  have bz1 := bz0.setCell (p := ⟨w.heap.size, 0, none⟩) (Nat.le_refl _) (.int .u8 (k : Int))
  have lz2 := lies_set lz1 (p := ⟨w.heap.size, 1, none⟩) far.out (.string ⟨src.toArray⟩)
  have bz2 := bz1.setCell (p := ⟨w.heap.size, 1, none⟩) (Nat.le_refl _) (.string ⟨src.toArray⟩)
  have lz3 := lies_set lz2 (p := ⟨w.heap.size, 2, none⟩) far.out (.string ⟨dst.toArray⟩)
  have bz3 := bz2.setCell (p := ⟨w.heap.size, 2, none⟩) (Nat.le_refl _) (.string ⟨dst.toArray⟩)
  have lz4 := lies_set lz3 (p := ⟨w.heap.size, 3, none⟩) far.out (.string ⟨fr.toArray⟩)
  have bz4 := bz3.setCell (p := ⟨w.heap.size, 3, none⟩) (Nat.le_refl _) (.string ⟨fr.toArray⟩)
  have lz5 := lies_set lz4 (p := ⟨w.heap.size, 4, none⟩) far.out (.int .u64 (sq : Int))
  have bz5 := bz4.setCell (p := ⟨w.heap.size, 4, none⟩) (Nat.le_refl _) (.int .u64 (sq : Int))
  have lz6 := lies_set lz5 (p := ⟨w.heap.size, 5, none⟩) far.out (.slice a R.length c)
  have bz6 := bz5.setCell (p := ⟨w.heap.size, 5, none⟩) (Nat.le_refl _) (.slice a R.length c)
  have lz7 := lies_set lz6 (p := ⟨w.heap.size, 6, none⟩) far.out (.int .u64 (id : Int))
  have bz7 := bz6.setCell (p := ⟨w.heap.size, 6, none⟩) (Nat.le_refl _) (.int .u64 (id : Int))
  have lz8 := lies_set lz7 (p := ⟨w.heap.size, 7, none⟩) far.out (.int .i64 ii)
  have bz8 := bz7.setCell (p := ⟨w.heap.size, 7, none⟩) (Nat.le_refl _) (.int .i64 ii)
  have lz9 := lies_set lz8 (p := ⟨w.heap.size, 8, none⟩) far.out (.int .i64 nn)
  have bz9 := bz8.setCell (p := ⟨w.heap.size, 8, none⟩) (Nat.le_refl _) (.int .i64 nn)
  have lz10 := lies_set lz9 (p := ⟨w.heap.size, 9, none⟩) far.out (.string ⟨tx.toArray⟩)
  have bz10 := bz9.setCell (p := ⟨w.heap.size, 9, none⟩) (Nat.le_refl _) (.string ⟨tx.toArray⟩)
  have LZ := Lib.hid (And.intro lz10 bz10)
  clear lz0 bz0 lz1 bz1 lz2 bz2 lz3 bz3 lz4 bz4 lz5 bz5 lz6 bz6 lz7 bz7 lz8 bz8 lz9 bz9 lz10 bz10
  go_wp2
  have y0 : _ = (some (.int .u8 (k : Int)) : Option Value) := (Lib.cell_of_heap HE.out 0).trans rfl
  have y1 : _ = (some (.string ⟨src.toArray⟩) : Option Value) := (Lib.cell_of_heap HE.out 1).trans rfl
  have y2 : _ = (some (.string ⟨dst.toArray⟩) : Option Value) := (Lib.cell_of_heap HE.out 2).trans rfl
  have y3 : _ = (some (.string ⟨fr.toArray⟩) : Option Value) := (Lib.cell_of_heap HE.out 3).trans rfl
  have y4 : _ = (some (.int .u64 (sq : Int)) : Option Value) := (Lib.cell_of_heap HE.out 4).trans rfl
  have y5 : _ = (some (.slice a R.length c) : Option Value) := (Lib.cell_of_heap HE.out 5).trans rfl
  have y6 : _ = (some (.int .u64 (id : Int)) : Option Value) := (Lib.cell_of_heap HE.out 6).trans rfl
  have y7 : _ = (some (.int .i64 ii) : Option Value) := (Lib.cell_of_heap HE.out 7).trans rfl
  have y8 : _ = (some (.int .i64 nn) : Option Value) := (Lib.cell_of_heap HE.out 8).trans rfl
  have y9 : _ = (some (.string ⟨tx.toArray⟩) : Option Value) := (Lib.cell_of_heap HE.out 9).trans rfl
  rw [HV.out]
  refine bodyPost_ret (v := .tuple #[.agg #[.int .u8 (k : Int), .string ⟨src.toArray⟩, .string ⟨dst.toArray⟩, .string ⟨fr.toArray⟩, .int .u64 (sq : Int), .slice a R.length c, .int .u64 (id : Int), .int .i64 ii, .int .i64 nn, .string ⟨tx.toArray⟩], .int .i64 0]) (by simp only [results, Tryd.results17]; simp [go_sem, y0, y1, y2, y3, y4, y5, y6, y7, y8, y9]) rfl ?_
  exact ⟨a, c, rfl, LZ.out.1, LZ.out.2⟩

end Msg
end Go.Proofs.YtcfimfoccbaepaaDoor
