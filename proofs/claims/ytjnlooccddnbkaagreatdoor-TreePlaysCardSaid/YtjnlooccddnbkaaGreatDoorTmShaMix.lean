/- sha: what lies in memory; the block is taken into the state. -/
import Derived.Test.YtjnlooccddnbkaaGreatDoorTmSha0
import Derived.Laws.Rows
import Derived.Laws.Tables
import Derived.Deep.MidRow
import Derived.Deep.QuietTactic
import Derived.BigQuiet
import Derived.StillTailTactics
import Derived.LoopTactic
import Derived.Test.YtjnlooccddnbkaaGreatDoorTmBase2
namespace Go.Proofs.YtjnlooccddnbkaaGreatDoor
namespace Sha
open Go.RowKit
def u32s (l : List Int) : List Value := l.map (fun x => .int .u32 x)
def u8s (l : List UInt8) : List Value := l.map (fun x => .int .u8 (x.toNat : Int))
theorem u32s_length (l : List Int) : (u32s l).length = l.length := List.length_map _
theorem u8s_length (l : List UInt8) : (u8s l).length = l.length := List.length_map _
/-- A row of words fills a block. -/
def Row (w : World) (b : Nat) (t : TypeId) (l : List Int) : Prop := w.heap[b]? = some (.cells (u32s l).toArray t (0, 0))
theorem Row.lt {w : World} {b : Nat} {t : TypeId} {l : List Int} (h : Row w b t l) : b < w.heap.size := (Array.getElem?_eq_some_iff.1 h).1
theorem Row.cell {w : World} {b : Nat} {t : TypeId} {l : List Int} (h : Row w b t l) (i : Nat) (hi : i < l.length) : w.cell? ⟨b, i, none⟩ = some (.int .u32 (l.getD i 0)) := by
  rw [cell_of_row w b i _ t _ h, List.getElem?_toArray, u32s, List.getElem?_map, List.getElem?_eq_getElem hi, List.getD_eq_getElem?_getD, List.getElem?_eq_getElem hi]
  rfl
theorem Row.eight {w : World} {b : Nat} {t : TypeId} {s : St} (h : Row w b t s.list) :
    w.cell? ⟨b, 0, none⟩ = some (.int .u32 s.a) ∧ w.cell? ⟨b, 1, none⟩ = some (.int .u32 s.b) ∧ w.cell? ⟨b, 2, none⟩ = some (.int .u32 s.c) ∧ w.cell? ⟨b, 3, none⟩ = some (.int .u32 s.d) ∧
    w.cell? ⟨b, 4, none⟩ = some (.int .u32 s.e) ∧ w.cell? ⟨b, 5, none⟩ = some (.int .u32 s.f) ∧ w.cell? ⟨b, 6, none⟩ = some (.int .u32 s.g) ∧ w.cell? ⟨b, 7, none⟩ = some (.int .u32 s.h) :=
  ⟨h.cell 0 (by show 0 < 8; decide), h.cell 1 (by show 1 < 8; decide), h.cell 2 (by show 2 < 8; decide), h.cell 3 (by show 3 < 8; decide), h.cell 4 (by show 4 < 8; decide), h.cell 5 (by show 5 < 8; decide), h.cell 6 (by show 6 < 8; decide), h.cell 7 (by show 7 < 8; decide)⟩
theorem Row.frozen {w : World} {b : Nat} {t : TypeId} {l : List Int} (h : Row w b t l) (i : Nat) : w.frozen? ⟨b, i, none⟩ = false := frozen_of_row w b i _ t h
theorem Row.set {w : World} {b : Nat} {t : TypeId} {l : List Int} (h : Row w b t l) (i : Nat) (x : Int) : Row (w.setCell ⟨b, i, none⟩ (.int .u32 x)) b t (l.set i x) := by
  unfold Row
  rw [heap_setCell_same w b i _ t _ h, List.setIfInBounds_toArray, u32s, u32s, List.map_set]
theorem Row.block {w w' : World} {b : Nat} {t : TypeId} {l : List Int} (h : Row w b t l) (k : w'.heap[b]? = w.heap[b]?) : Row w' b t l := k.trans h
theorem row_new (w : World) (t : TypeId) (n : Nat) : Row (w.alloc (.cells (Array.replicate n (.int .u32 0)) t)) w.heap.size t (List.replicate n 0) := by
  unfold Row
  rw [heap_alloc_new, u32s, List.map_replicate, List.toArray_replicate]
/-- A hash lies in block b: its state, its block's bytes, how many came. -/
def IsL (w : World) (b : Nat) (l : List Int) (bk : List UInt8) (n : Int) : Prop :=
  w.heap[b]? = some (.cells (.bool true :: (u32s l ++ (u8s bk ++ [.int .u64 n]))).toArray 126 (0, 0)) ∧ bk.length = 64 ∧ l.length = 8
def Is (w : World) (b : Nat) (s : St) (bk : List UInt8) (n : Int) : Prop := IsL w b s.list bk n
section
variable {w : World} {b : Nat} {l : List Int} {bk : List UInt8} {n : Int}
theorem IsL.cell0 (h : IsL w b l bk n) : w.cell? ⟨b, 0, none⟩ = some (.bool true) := by
  rw [cell_of_row w b 0 _ _ _ h.1]; rfl
theorem IsL.word (h : IsL w b l bk n) (i : Nat) (hi : i < 8) : w.cell? ⟨b, 1 + i, none⟩ = some (.int .u32 (l.getD i 0)) := by
  rw [cell_of_row w b (1 + i) _ _ _ h.1, List.getElem?_toArray, Nat.add_comm 1 i, List.getElem?_cons_succ]
  have h8 : (u32s l).length = 8 := by rw [u32s_length]; exact h.2.2
  have h9 := h.2.2
  rw [List.getElem?_append_left (by omega), u32s, List.getElem?_map, List.getElem?_eq_getElem (by omega), List.getD_eq_getElem?_getD, List.getElem?_eq_getElem (by omega)]
  rfl
theorem IsL.byte (h : IsL w b l bk n) (i : Nat) (hi : i < 64) : w.cell? ⟨b, 9 + i, none⟩ = some (.int .u8 ((bk.getD i 0).toNat : Int)) := by
  rw [cell_of_row w b (9 + i) _ _ _ h.1, List.getElem?_toArray, show 9 + i = (8 + i) + 1 by omega, List.getElem?_cons_succ]
  have h8 : (u32s l).length = 8 := by rw [u32s_length]; exact h.2.2
  have h64 : (u8s bk).length = 64 := by rw [u8s_length]; exact h.2.1
  rw [List.getElem?_append_right (by omega), h8, show 8 + i - 8 = i by omega, List.getElem?_append_left (by omega), u8s, List.getElem?_map, List.getElem?_eq_getElem (by rw [h.2.1]; exact hi), List.getD_eq_getElem?_getD, List.getElem?_eq_getElem (by rw [h.2.1]; exact hi)]
  rfl
theorem IsL.size (h : IsL w b l bk n) : w.cell? ⟨b, 73, none⟩ = some (.int .u64 n) := by
  rw [cell_of_row w b 73 _ _ _ h.1, List.getElem?_toArray, List.getElem?_cons_succ]
  have h8 : (u32s l).length = 8 := by rw [u32s_length]; exact h.2.2
  have h64 : (u8s bk).length = 64 := by rw [u8s_length]; exact h.2.1
  rw [List.getElem?_append_right (by omega), h8, List.getElem?_append_right (by omega), h64]
  rfl
theorem IsL.frozen (h : IsL w b l bk n) (i : Nat) : w.frozen? ⟨b, i, none⟩ = false := frozen_of_row w b i _ _ h.1
theorem IsL.lt (h : IsL w b l bk n) : b < w.heap.size := (Array.getElem?_eq_some_iff.1 h.1).1
theorem IsL.block {w' : World} (h : IsL w b l bk n) (k : w'.heap[b]? = w.heap[b]?) : IsL w' b l bk n := ⟨k.trans h.1, h.2⟩
theorem IsL.below {w' : World} (h : IsL w b l bk n) (k : Below w.heap.size w w') : IsL w' b l bk n := h.block (k.block b h.lt)
theorem IsL.setW (h : IsL w b l bk n) (i : Nat) (hi : i < 8) (x : Int) : IsL (w.setCell ⟨b, 1 + i, none⟩ (.int .u32 x)) b (l.set i x) bk n := by
  refine ⟨?_, h.2.1, by rw [List.length_set]; exact h.2.2⟩
  have h8 : (u32s l).length = 8 := by rw [u32s_length]; exact h.2.2
  rw [heap_setCell_same w b (1 + i) _ _ _ h.1, List.setIfInBounds_toArray, Nat.add_comm 1 i, List.set_cons_succ, List.set_append_left _ _ (by omega), u32s, u32s, List.map_set]
theorem IsL.setN (h : IsL w b l bk n) (m : Int) : IsL (w.setCell ⟨b, 73, none⟩ (.int .u64 m)) b l bk m := by
  refine ⟨?_, h.2⟩
  have h8 : (u32s l).length = 8 := by rw [u32s_length]; exact h.2.2
  have h64 : (u8s bk).length = 64 := by rw [u8s_length]; exact h.2.1
  rw [heap_setCell_same w b 73 _ _ _ h.1, List.setIfInBounds_toArray, List.set_cons_succ, List.set_append_right _ _ (by omega), h8, List.set_append_right _ _ (by omega), h64]
  rfl
theorem Is.below {s : St} {w' : World} (h : Is w b s bk n) (k : Below w.heap.size w w') : Is w' b s bk n := IsL.below h k
theorem Is.lt {s : St} (h : Is w b s bk n) : b < w.heap.size := IsL.lt h
end
/-- The table of numbers lies there. -/
def Tab (w : World) (K : List Int) : Prop := ∃ t, Row w 1 t K ∧ K.length = 64
theorem Tab.below {w w' : World} {K : List Int} (h : Tab w K) (k : Below w.heap.size w w') : Tab w' K := by
  obtain ⟨t, h1, h2⟩ := h
  exact ⟨t, (k.block _ h1.lt).trans h1, h2⟩
theorem slice4 (b k : Nat) (w : World) (hk : k < 16) : (Instr.sliceAt 124 (.pointer (some ⟨b, 9, none⟩)) (some (.int .i64 (4 * (k : Int)))) (some (.int .i64 (4 * (k : Int) + 4))) none).run Tryz.prog w = .ok (.slice (some ⟨b, 9 + 4 * k, none⟩) 4 (64 - 4 * k)) w := by
  have hn : Tryz.prog.arrayLen 124 = 64 := by kernel_rfl
  have hz : (sizeOf (Tryz.prog.elem 124)).run Tryz.prog w = .ok 1 w := by kernel_rfl
  rw [run_sliceAt_array_lh (ht := by kernel_rfl) (h0 := by omega) (h1 := by omega) (h2 := by rw [hn]; omega), hz, hn]
  have e1 : (4 * (k : Int)).toNat = 4 * k := by omega
  have e2 : (4 * (k : Int) + 4).toNat = 4 * k + 4 := by omega
  simp only [Result.andThen_ok, slicedAt, e1, e2]
  rw [if_neg (by omega), show 4 * k + 4 - 4 * k = 4 by omega, Nat.mul_one, Go.WideShapes.add_plain]
set_option maxRecDepth 100000 in
set_option maxHeartbeats 4000000 in
theorem mix_any (K : List Int) (b : Nat) (s : St) (bk : List UInt8) (n : Int) (w : World) (h : Is w b s bk n) (hK : Tab w K) :
    Calls Tryz.prog 80 #[.pointer (some ⟨b, 0, none⟩)] w fun e w' => e = .returned (.tuple #[]) ∧ Is w' b (block K s bk) bk n ∧ But b w w' := by
  have H := Lib.hid h
  have HK := Lib.hid hK
  have hltb := h.lt
  clear h hK
  go_enter Tryz.func80, Tryz.ntmps80
  go_wp2_with fail
  go_loopw [19] (fun i wx => ∃ k : Nat, k ≤ 16 ∧ i = .int .i64 k ∧ Below w.heap.size w wx ∧ Hid (Row wx w.heap.size 143 (words bk k ++ List.replicate (64 - k) 0))) (fun i _ => 16 - (intOf i).toNat)
  case atStart => exact ⟨0, by omega, rfl, balloc (Below.refl _ _) _, Lib.hid (row_new w 143 64)⟩
  case round =>
    obtain ⟨k, hk, rfl, hb, HR⟩ := hrel
    by_cases hlt : k < 16
    · have hd : decide ((k : Int) < 16) = true := decide_eq_true (by omega)
      have hsl := fun w => slice4 b k w hlt
      have HI : IsL wr b s.list bk n := IsL.below H.out hb
      have c0 := HI.byte (4 * k) (by omega)
      have c1 := HI.byte (4 * k + 1) (by omega)
      have c2 := HI.byte (4 * k + 2) (by omega)
      have c3 := HI.byte (4 * k + 3) (by omega)
      have hw : Hid (word bk k = be4 (bk.getD (4 * k) 0) (bk.getD (4 * k + 1) 0) (bk.getD (4 * k + 2) 0) (bk.getD (4 * k + 3) 0)) := Lib.hid rfl
      generalize bk.getD (4 * k) 0 = x0 at c0 hw
      generalize bk.getD (4 * k + 1) 0 = x1 at c1 hw
      generalize bk.getD (4 * k + 2) 0 = x2 at c2 hw
      generalize bk.getD (4 * k + 3) 0 = x3 at c3 hw
      have y0 := x0.toNat_lt
      have y1 := x1.toNat_lt
      have y2 := x2.toNat_lt
      have y3 := x3.toNat_lt
      have h64 : (k : Int) < 64 := by omega
      have h0k : (0 : Int) ≤ (k : Int) := by omega
      rw [show 9 + (4 * k + 1) = 9 + 4 * k + 1 by omega] at c1
      rw [show 9 + (4 * k + 2) = 9 + 4 * k + 2 by omega] at c2
      rw [show 9 + (4 * k + 3) = 9 + 4 * k + 3 by omega] at c3
      have hcB := HR.out.cell k (by rw [List.length_append, words_length, List.length_replicate]; omega)
      have hfB := HR.out.frozen k
      generalize (words bk k ++ List.replicate (64 - k) 0).getD k 0 = z at hcB
      clear HI
      go_wp2_with fail
      go_still_tail 24, (by kernel_rfl)
      go_wp2_with fail
      go_roundw
      case rel => exact ⟨k + 1, by omega, by go_num, Below.drew (bset hb (Nat.le_refl _) _), Lib.hid (by
        have := HR.out.set k (word bk k)
        rw [fill_words bk k (by omega), hw.out] at this
        exact this)⟩
      case measure => simp [intOf]; omega
    · obtain rfl : k = 16 := by omega
      have hd : decide ((16 : Int) < 16) = false := by decide
      go_wp2_with fail
      rw [show ((16 : Nat) : Int) = 16 from rfl]
      go_loopw [5] (fun i wx => ∃ t : Nat, 16 ≤ t ∧ t ≤ 64 ∧ i = .int .i64 (t : Int) ∧ Below w.heap.size w wx ∧ Hid (Row wx w.heap.size 143 (sched (words bk 16) (t - 16) ++ List.replicate (64 - t) 0))) (fun i _ => 64 - (intOf i).toNat)
      case atStart => exact ⟨16, by omega, by omega, rfl, hb, HR⟩
      case round =>
        clear hb HR
        obtain ⟨t, ht, ht2, rfl, hb, HR⟩ := hrel
        by_cases hlt : t < 64
        · have hd : decide ((t : Int) < 64) = true := decide_eq_true (by omega)
          have hlen : (sched (words bk 16) (t - 16) ++ List.replicate (64 - t) 0).length = 64 := by rw [List.length_append, sched_length, words_length, List.length_replicate]; omega
          have c2 := HR.out.cell (t - 2) (by omega)
          have c7 := HR.out.cell (t - 7) (by omega)
          have c15 := HR.out.cell (t - 15) (by omega)
          have c16 := HR.out.cell (t - 16) (by omega)
          have c0 := HR.out.cell t (by omega)
          have hf := HR.out.frozen t
          have i2 : (0 : Int) ≤ (t : Int) - 2 := by omega
          have l2 : (2 : Int) ≤ (t : Int) := by omega
          have j2 : (t : Int) - 2 < 64 := by omega
          have h2 : ((t : Int) - 2).toNat = t - 2 := by omega
          have i7 : (0 : Int) ≤ (t : Int) - 7 := by omega
          have l7 : (7 : Int) ≤ (t : Int) := by omega
          have j7 : (t : Int) - 7 < 64 := by omega
          have h7 : ((t : Int) - 7).toNat = t - 7 := by omega
          have i15 : (0 : Int) ≤ (t : Int) - 15 := by omega
          have l15 : (15 : Int) ≤ (t : Int) := by omega
          have j15 : (t : Int) - 15 < 64 := by omega
          have h15 : ((t : Int) - 15).toNat = t - 15 := by omega
          have i16 : (0 : Int) ≤ (t : Int) - 16 := by omega
          have l16 : (16 : Int) ≤ (t : Int) := by omega
          have j16 : (t : Int) - 16 < 64 := by omega
          have h16 : ((t : Int) - 16).toNat = t - 16 := by omega
          have j0 : (t : Int) < 64 := by omega
          have HN : Hid (next (sched (words bk 16) (t - 16)) = add (add (add (sig1 ((sched (words bk 16) (t - 16) ++ List.replicate (64 - t) 0).getD (t - 2) 0)) ((sched (words bk 16) (t - 16) ++ List.replicate (64 - t) 0).getD (t - 7) 0)) (sig0 ((sched (words bk 16) (t - 16) ++ List.replicate (64 - t) 0).getD (t - 15) 0))) ((sched (words bk 16) (t - 16) ++ List.replicate (64 - t) 0).getD (t - 16) 0)) := Lib.hid (next_at _ t _ (by rw [sched_length, words_length]; omega) ht)
          generalize (sched (words bk 16) (t - 16) ++ List.replicate (64 - t) 0).getD (t - 2) 0 = x2 at c2 HN
          generalize (sched (words bk 16) (t - 16) ++ List.replicate (64 - t) 0).getD (t - 7) 0 = x7 at c7 HN
          generalize (sched (words bk 16) (t - 16) ++ List.replicate (64 - t) 0).getD (t - 15) 0 = x15 at c15 HN
          generalize (sched (words bk 16) (t - 16) ++ List.replicate (64 - t) 0).getD (t - 16) 0 = x16 at c16 HN
          generalize (sched (words bk 16) (t - 16) ++ List.replicate (64 - t) 0).getD t 0 = x0 at c0
          clear hlen
          go_wp2_with fail
          go_quiet ((go_at_call 96; exact Calls.quiet_of_same (right_q _ _ (by decide) _)))
          generalize hW : wr.drewN _ = W1
          replace c2 : W1.cell? ⟨w.heap.size, t - 2, none⟩ = some (.int .u32 x2) := by rw [← hW]; simpa using c2
          replace c7 : W1.cell? ⟨w.heap.size, t - 7, none⟩ = some (.int .u32 x7) := by rw [← hW]; simpa using c7
          replace c15 : W1.cell? ⟨w.heap.size, t - 15, none⟩ = some (.int .u32 x15) := by rw [← hW]; simpa using c15
          replace c16 : W1.cell? ⟨w.heap.size, t - 16, none⟩ = some (.int .u32 x16) := by rw [← hW]; simpa using c16
          replace c0 : W1.cell? ⟨w.heap.size, t, none⟩ = some (.int .u32 x0) := by rw [← hW]; simpa using c0
          replace hf : W1.frozen? ⟨w.heap.size, t, none⟩ = false := by rw [← hW]; simpa using hf
          replace hb : Below w.heap.size w W1 := by rw [← hW]; exact bdrewN hb _
          replace HR : Hid (Row W1 w.heap.size 143 (sched (words bk 16) (t - 16) ++ List.replicate (64 - t) 0)) := by rw [← hW]; exact HR
          clear hW
          go_wp2_with fail
          go_quiet ((go_at_call 96; exact Calls.quiet_of_same (right_q _ _ (by decide) _)))
          generalize hW : W1.drewN _ = W2
          replace c2 : W2.cell? ⟨w.heap.size, t - 2, none⟩ = some (.int .u32 x2) := by rw [← hW]; simpa using c2
          replace c7 : W2.cell? ⟨w.heap.size, t - 7, none⟩ = some (.int .u32 x7) := by rw [← hW]; simpa using c7
          replace c15 : W2.cell? ⟨w.heap.size, t - 15, none⟩ = some (.int .u32 x15) := by rw [← hW]; simpa using c15
          replace c16 : W2.cell? ⟨w.heap.size, t - 16, none⟩ = some (.int .u32 x16) := by rw [← hW]; simpa using c16
          replace c0 : W2.cell? ⟨w.heap.size, t, none⟩ = some (.int .u32 x0) := by rw [← hW]; simpa using c0
          replace hf : W2.frozen? ⟨w.heap.size, t, none⟩ = false := by rw [← hW]; simpa using hf
          replace hb : Below w.heap.size w W2 := by rw [← hW]; exact bdrewN hb _
          replace HR : Hid (Row W2 w.heap.size 143 (sched (words bk 16) (t - 16) ++ List.replicate (64 - t) 0)) := by rw [← hW]; exact HR
          clear hW
          go_wp2_with fail
          have v7 : IntKind.i64.wrap ((t : Int) - 7) = (t : Int) - 7 := by rw [IntKind.wrap_i64]; omega
          have v16 : IntKind.i64.wrap ((t : Int) - 16) = (t : Int) - 16 := by rw [IntKind.wrap_i64]; omega
          clear c15 c2 h15 h2 i15 i2 j15 j2
          go_still_tail 15, (by kernel_rfl)
          go_wp2_with fail
          go_roundw
          case rel => exact ⟨t + 1, by omega, by omega, by go_num, Below.drew (bset hb (Nat.le_refl _) _), Lib.hid (by
            have := HR.out.set t (next (sched (words bk 16) (t - 16)))
            rw [fill_sched (words bk 16) t (words_length _ _) ht (by omega), HN.out, add_4] at this
            exact this)⟩
          case measure => simp [intOf]; omega
        · obtain rfl : t = 64 := by omega
          have hd : decide ((64 : Int) < 64) = false := by decide
          have HI : IsL wr b s.list bk n := IsL.below H.out hb
          have c1 := HI.word 0 (by decide)
          have c2 := HI.word 1 (by decide)
          have c3 := HI.word 2 (by decide)
          have c4 := HI.word 3 (by decide)
          have c5 := HI.word 4 (by decide)
          have c6 := HI.word 5 (by decide)
          have c7 := HI.word 6 (by decide)
          have c8 := HI.word 7 (by decide)
          simp only [St.list, Nat.reduceAdd, List.getD_cons_zero, List.getD_cons_succ] at c1 c2 c3 c4 c5 c6 c7 c8
          clear HI
          go_wp2_with fail
          rw [show ((64 : Nat) : Int) = 64 from rfl]
          have hlB := HR.out.lt
          generalize hB2 : wr.heap.size = B2
          rw [hB2] at hlB
          have HB2 := Lib.hid hB2
          clear hB2
          go_loopw [113] (fun i wx => ∃ t : Nat, t ≤ 64 ∧ i = .int .i64 (t : Int) ∧ Below w.heap.size w wx ∧ Hid (Row wx w.heap.size 143 (sched (words bk 16) 48)) ∧ Hid (Row wx B2 123 (rounds K (sched (words bk 16) 48) s t).list)  ) (fun i _ => 64 - (intOf i).toNat)
          case atStart =>
            have hB2 := HR.out.lt
            have hR := HR.out
            rw [show 64 - 16 = 48 from rfl, Nat.sub_self, List.replicate_zero, List.append_nil] at hR
            exact ⟨0, by omega, rfl, balloc hb _, Lib.hid (hR.block (Below.heap_alloc _ _ _ hB2)), Lib.hid (by rw [rounds_zero, ← HB2.out]; unfold Row; rw [heap_alloc_new]; rfl)⟩
          case round =>
            obtain ⟨t, ht, rfl, hb2, HW, HS⟩ := hrel
            clear HB2
            by_cases hlt : t < 64
            · have hd : decide ((t : Int) < 64) = true := decide_eq_true (by omega)
              have hlen : (sched (words bk 16) 48).length = 64 := by rw [sched_length, words_length]
              have cw := HW.out.cell t (by omega)
              have hKK := HK.out
              obtain ⟨tk, hKr, hKl⟩ := HK.out.below hb2
              have ck := hKr.cell t (by omega)
              have HN : Hid ((rounds K (sched (words bk 16) 48) s (t + 1)) = rnd (rounds K (sched (words bk 16) 48) s t) (K.getD t 0) ((sched (words bk 16) 48).getD t 0)) := Lib.hid (rounds_succ _ _ _ _)
              obtain ⟨s0, s1, s2, s3, s4, s5, s6, s7⟩ := HS.out.eight
              generalize rounds K (sched (words bk 16) 48) s t = r at HS HN s0 s1 s2 s3 s4 s5 s6 s7
              obtain ⟨ra, rb, rc, rd, re, rf, rg, rh⟩ := r
              simp only at s0 s1 s2 s3 s4 s5 s6 s7
              generalize K.getD t 0 = kt at ck HN
              generalize (sched (words bk 16) 48).getD t 0 = wt at cw HN
              have hf := HS.out.frozen
              have hsg : IntKind.u32.signed = false := rfl
              have j0 : (t : Int) < 64 := by omega
              have h0t : (0 : Int) ≤ (t : Int) := by omega
              clear hlen hKK hKr hKl
              go_wp2_with fail
              go_quiet (fail)
              generalize hW : wr.drewN _ = W1
              replace s0 : W1.cell? ⟨B2, 0, none⟩ = some (.int .u32 ra) := by rw [← hW]; simpa using s0
              replace s1 : W1.cell? ⟨B2, 1, none⟩ = some (.int .u32 rb) := by rw [← hW]; simpa using s1
              replace s2 : W1.cell? ⟨B2, 2, none⟩ = some (.int .u32 rc) := by rw [← hW]; simpa using s2
              replace s3 : W1.cell? ⟨B2, 3, none⟩ = some (.int .u32 rd) := by rw [← hW]; simpa using s3
              replace s4 : W1.cell? ⟨B2, 4, none⟩ = some (.int .u32 re) := by rw [← hW]; simpa using s4
              replace s5 : W1.cell? ⟨B2, 5, none⟩ = some (.int .u32 rf) := by rw [← hW]; simpa using s5
              replace s6 : W1.cell? ⟨B2, 6, none⟩ = some (.int .u32 rg) := by rw [← hW]; simpa using s6
              replace s7 : W1.cell? ⟨B2, 7, none⟩ = some (.int .u32 rh) := by rw [← hW]; simpa using s7
              replace ck : W1.cell? ⟨1, t, none⟩ = some (.int .u32 kt) := by rw [← hW]; simpa using ck
              replace cw : W1.cell? ⟨w.heap.size, t, none⟩ = some (.int .u32 wt) := by rw [← hW]; simpa using cw
              replace hb2 : Below w.heap.size w W1 := by rw [← hW]; exact bdrewN hb2 _
              replace HW : Hid (Row W1 w.heap.size 143 (sched (words bk 16) 48)) := by rw [← hW]; exact HW
              replace HS : Hid (Row W1 B2 123 (St.mk ra rb rc rd re rf rg rh).list) := by rw [← hW]; exact HS
              replace hf : ∀ i : Nat, W1.frozen? ⟨B2, i, none⟩ = false := by rw [← hW]; simpa using hf
              clear hW
              go_wp2_with fail
              go_quiet ((go_at_call 96; exact Calls.quiet_of_same (right_q _ _ (by decide) _)))
              generalize hW : W1.drewN _ = W2
              replace s0 : W2.cell? ⟨B2, 0, none⟩ = some (.int .u32 ra) := by rw [← hW]; simpa using s0
              replace s1 : W2.cell? ⟨B2, 1, none⟩ = some (.int .u32 rb) := by rw [← hW]; simpa using s1
              replace s2 : W2.cell? ⟨B2, 2, none⟩ = some (.int .u32 rc) := by rw [← hW]; simpa using s2
              replace s3 : W2.cell? ⟨B2, 3, none⟩ = some (.int .u32 rd) := by rw [← hW]; simpa using s3
              replace s4 : W2.cell? ⟨B2, 4, none⟩ = some (.int .u32 re) := by rw [← hW]; simpa using s4
              replace s5 : W2.cell? ⟨B2, 5, none⟩ = some (.int .u32 rf) := by rw [← hW]; simpa using s5
              replace s6 : W2.cell? ⟨B2, 6, none⟩ = some (.int .u32 rg) := by rw [← hW]; simpa using s6
              replace s7 : W2.cell? ⟨B2, 7, none⟩ = some (.int .u32 rh) := by rw [← hW]; simpa using s7
              replace ck : W2.cell? ⟨1, t, none⟩ = some (.int .u32 kt) := by rw [← hW]; simpa using ck
              replace cw : W2.cell? ⟨w.heap.size, t, none⟩ = some (.int .u32 wt) := by rw [← hW]; simpa using cw
              replace hb2 : Below w.heap.size w W2 := by rw [← hW]; exact bdrewN hb2 _
              replace HW : Hid (Row W2 w.heap.size 143 (sched (words bk 16) 48)) := by rw [← hW]; exact HW
              replace HS : Hid (Row W2 B2 123 (St.mk ra rb rc rd re rf rg rh).list) := by rw [← hW]; exact HS
              replace hf : ∀ i : Nat, W2.frozen? ⟨B2, i, none⟩ = false := by rw [← hW]; simpa using hf
              clear hW
              go_wp2_with (go_at_call 96; refine (right_any _ _ (by decide) _).mono ?_; rintro e w' ⟨rfl, rfl⟩)
              go_roundw
              case rel =>
                have hW := HW.out
                have hS := HS.out
                have h8 := ((((((((hS.set 0 (rnd ⟨ra, rb, rc, rd, re, rf, rg, rh⟩ kt wt).a).set 1 ra).set 2 rb).set 3 rc).set 4 (rnd ⟨ra, rb, rc, rd, re, rf, rg, rh⟩ kt wt).e).set 5 re).set 6 rf).set 7 rg)
                have hne : w.heap.size ≠ B2 := by omega
                have hn2 : w.heap.size ≤ B2 := by omega
                rw [rnd_a, rnd_e] at h8
                refine ⟨t + 1, by omega, by go_num, ?_, Lib.hid ?_, Lib.hid ?_⟩
                · exact bset (bset (bset (bset (bset (bset (bset (bset hb2 hn2 _) hn2 _) hn2 _) hn2 _) hn2 _) hn2 _) hn2 _) hn2 _
                · refine hW.block ?_
                  rw [heap_setCell_other _ _ _ _ hne, heap_setCell_other _ _ _ _ hne, heap_setCell_other _ _ _ _ hne, heap_setCell_other _ _ _ _ hne, heap_setCell_other _ _ _ _ hne, heap_setCell_other _ _ _ _ hne, heap_setCell_other _ _ _ _ hne, heap_setCell_other _ _ _ _ hne]
                · rw [HN.out, rnd_list, rnd_a, rnd_e]
                  exact h8
              case measure => simp [intOf]; omega
            · obtain rfl : t = 64 := by omega
              have hd : decide ((64 : Int) < 64) = false := by decide
              go_wp2_with fail
              rw [show ((64 : Nat) : Int) = 64 from rfl]
              have HB : Hid (block K s bk = s.plus (rounds K (sched (words bk 16) 48) s 64)) := Lib.hid rfl
              generalize rounds K (sched (words bk 16) 48) s 64 = r at HS HB
              go_loopw [191] (fun i wx => ∃ t : Nat, t ≤ 8 ∧ i = .int .i64 (t : Int) ∧ But b w wx ∧ Hid (IsL wx b ((s.plus r).list.take t ++ s.list.drop t) bk n) ∧ Hid (Row wx B2 123 r.list)) (fun i _ => 8 - (intOf i).toNat)
              case atStart => exact ⟨0, by omega, rfl, But.of hb2, Lib.hid (IsL.below H.out hb2), HS⟩
              case round =>
                have hnb : b ≠ B2 := by omega
                clear HS hb2 HW H
                obtain ⟨t, ht, rfl, hb3, HI, HS⟩ := hrel
                by_cases hlt : t < 8
                · have hd : decide ((t : Int) < 8) = true := decide_eq_true (by omega)
                  have hlr : r.list.length = 8 := rfl
                  have cs := HS.out.cell t (by omega)
                  have ch := HI.out.word t hlt
                  have hf := HI.out.frozen (1 + t)
                  have HP := Lib.hid (plus_at s r t hlt)
                  rw [HP.out.1] at ch
                  generalize s.list.getD t 0 = x at ch HP
                  generalize r.list.getD t 0 = y at cs HP
                  have j0 : (t : Int) < 8 := by omega
                  have h0t : (0 : Int) ≤ (t : Int) := by omega
                  clear hlr
                  go_wp2_with fail
                  go_still_tail 13, (by kernel_rfl)
                  go_wp2_with fail
                  go_roundw
                  case rel =>
                    refine ⟨t + 1, by omega, by go_num, (hb3.set _ rfl _).drew, Lib.hid ?_, Lib.hid (HS.out.block (heap_setCell_other _ _ _ _ (fun e => hnb e.symm)))⟩
                    rw [← HP.out.2]
                    exact HI.out.setW t hlt (add x y)
                  case measure => simp [intOf]; omega
                · obtain rfl : t = 8 := by omega
                  have hd : decide ((8 : Int) < 8) = false := by decide
                  have HE : Hid (IsL wr b (s.plus r).list bk n) := HI
                  go_wp2
                  go_end0
                  exact ⟨rfl, by rw [HB.out]; exact HE.out, hb3⟩
end Sha
end Go.Proofs.YtjnlooccddnbkaaGreatDoor
