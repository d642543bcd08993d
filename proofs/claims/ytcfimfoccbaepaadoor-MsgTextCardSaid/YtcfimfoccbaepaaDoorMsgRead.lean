/- msg.read. -/
import Derived.Test.YtcfimfoccbaepaaDoorMsgRV
import Derived.Lib.SmallJoins
import Derived.Deep.CutBlock
namespace Go.Proofs.YtcfimfoccbaepaaDoor
namespace Msg
open Go.RowKit Go.Proofs.YtcfimfoccbaepaaDoor.Mark Go.Proofs.YtcfimfoccbaepaaDoor.Num Go.Proofs.YtcfimfoccbaepaaDoor.Wire

theorem rd_set {W : World} {rb : Nat} {l : List UInt8} {E : Int} (h : Rd W rb l E) {p : Addr} (hp : p.block ≠ rb) (v : Value) : Rd (W.setCell p v) rb l E :=
  h.but (c := p.block) ((But.refl _ _).set p rfl v) (fun e => hp e.symm)
theorem own_set {W : World} {B : Nat} {u : Value} {L : List M} (h : Mark.Own W B u L) {p : Addr} (hp : p.block < B) (v : Value) : Mark.Own (W.setCell p v) B u L :=
  own_but (b := p.block) h ((But.refl _ _).set p rfl v) hp
theorem arr_same {C : Array Value} {j : Nat} {v : Value} (h : C[j]? = some v) : C.setIfInBounds j v = C := by
  apply Array.ext_getElem?
  intro i
  rw [Array.getElem?_setIfInBounds]
  split
  · rename_i e
    subst e
    split
    · exact h.symm
    · rename_i hl
      rw [Array.getElem?_eq_none (by omega)]
  · rfl
theorem set_same {W : World} {b : Nat} {C : Array Value} {T : TypeId} {fz : Nat × Nat} (h : W.heap[b]? = some (.cells C T fz)) (j : Nat) (v : Value) (hv : C[j]? = some v) : W.setCell ⟨b, j, none⟩ v = W := by
  have e := Joins.block_setCell (i := j) h v
  rw [arr_same hv, ← h] at e
  have hh : (W.setCell ⟨b, j, none⟩ v).heap = W.heap := by
    apply Array.ext_getElem?
    intro i
    by_cases hi : i = b
    · subst hi; exact e
    · exact Below.heap_setCell W ⟨b, j, none⟩ v i hi
  obtain ⟨hp, tp, dr, os, op⟩ := W
  unfold World.setCell at hh ⊢
  simp only at hh ⊢
  rw [hh]
theorem heap_lt {W : World} {b : Nat} {o : Obj} (h : W.heap[b]? = some o) : b < W.heap.size := (Array.getElem?_eq_some_iff.1 h).1
theorem heap_at1 (w : World) (o : Obj) : (w.alloc o).heap[w.heap.size]? = some o := by
  show (w.heap.push o)[w.heap.size]? = some o
  rw [Array.getElem?_push, if_pos rfl]
/-- What is read, field by field. -/
def rd1 (t : List UInt8) := numS 255 t 0
def rd2 (t : List UInt8) := textS 16384 (rd1 t).2.1 (rd1 t).2.2
def rd3 (t : List UInt8) := textS 16384 (rd2 t).2.1 (rd2 t).2.2
def rdV (t : List UInt8) := rvS (rd3 t).2.1 (rd3 t).2.2
def rdI (t : List UInt8) := numS 18446744073709551615 (rdV t).2.1 (rdV t).2.2
def rdJ (t : List UInt8) := intS 256 (rdI t).2.1 (rdI t).2.2
def rdN (t : List UInt8) := intS 256 (rdJ t).2.1 (rdJ t).2.2
def rdX (t : List UInt8) := textS 4096 (rdN t).2.1 (rdN t).2.2
def rdS (t : List UInt8) := numS 281474976710656 (rd3 t).2.1 (rd3 t).2.2
def rdF (t : List UInt8) := textS 16384 (rdS t).2.1 (rdS t).2.2
def rdW (t : List UInt8) := rvS (rdF t).2.1 (rdF t).2.2
/-- The message that a text tells, and whether it is one's. -/
def readG (t : List UInt8) : G × Bool :=
  if (rd1 t).1.toNat = 1 then (⟨1, (rd2 t).1, (rd3 t).1, [], 0, (rdV t).1, (rdI t).1.toNat, (rdJ t).1, (rdN t).1, (rdX t).1⟩, endS (rdX t).2.1 (rdX t).2.2 == 0)
  else if (rd1 t).1.toNat = 2 then (⟨2, (rd2 t).1, (rd3 t).1, [], (rdS t).1.toNat, [], 0, 0, 0, []⟩, endS (rdS t).2.1 (rdS t).2.2 == 0)
  else if (rd1 t).1.toNat = 3 then (⟨3, (rd2 t).1, (rd3 t).1, (rdF t).1, (rdS t).1.toNat, [], 0, 0, 0, []⟩, endS (rdF t).2.1 (rdF t).2.2 == 0)
  else if (rd1 t).1.toNat = 4 then (⟨4, (rd2 t).1, (rd3 t).1, (rdF t).1, (rdS t).1.toNat, (rdW t).1, 0, 0, 0, []⟩, endS (rdW t).2.1 (rdW t).2.2 == 0)
  else (⟨(rd1 t).1.toNat, (rd2 t).1, (rd3 t).1, [], 0, [], 0, 0, 0, []⟩, endS (rd3 t).2.1 (rd3 t).2.2 == 0)

set_option maxRecDepth 100000 in
set_option maxHeartbeats 8000000 in
theorem read_any (t : List UInt8) (w : World) (ht : t.length ≤ 1099511627776) :
    Calls Tryd.prog 27 #[.string ⟨t.toArray⟩] w fun e w' => ∃ a c, e = .returned (.tuple #[.agg ((readG t).1.cells a c), .bool (readG t).2]) ∧ Lies w' a (readG t).1.all.length (readG t).1.all ∧ (∀ q, a = some q → w.heap.size ≤ q.block) ∧ Below w.heap.size w w' := by
  have hb := Below.refl w.heap.size w
  obtain ⟨k, l1, E1, q1⟩ : ∃ k l1 E1, rd1 t = (k, l1, E1) := ⟨_, _, _, rfl⟩
  have hk := numS_le q1 (by omega)
  obtain ⟨k, rfl⟩ := Int.eq_ofNat_of_zero_le hk.1
  obtain ⟨src, l2, E2, q2⟩ : ∃ s l E, rd2 t = (s, l, E) := ⟨_, _, _, rfl⟩
  obtain ⟨dst, l3, E3, q3⟩ : ∃ s l E, rd3 t = (s, l, E) := ⟨_, _, _, rfl⟩
  have u2 := q2
  have u3 := q3
  unfold rd2 at u2
  rw [q1] at u2
  unfold rd3 at u3
  rw [q2] at u3
  simp only at u2 u3
  have w8 : IntKind.u8.wrap (k : Int) = (k : Int) := by rw [IntKind.wrap_u8]; omega
  have w8b : (k : Int) % 256 = (k : Int) := by omega
  have Q1 := Lib.hid q1
  have Q2 := Lib.hid q2
  have Q3 := Lib.hid q3
  have U2 := Lib.hid u2
  have U3 := Lib.hid u3
  clear q1 q2 q3 u2 u3
  go_enter Tryd.func27, Tryd.ntmps27
  go_wp2_with fail
  refine (new_any t _ (by unfold maxLen; omega)).mono ?_
  rintro e v0 ⟨rfl, r0, b0⟩
  have m0 : v0.heap[w.heap.size]? = some (.cells #[.int .u8 0, .string ⟨#[]⟩, .string ⟨#[]⟩, .string ⟨#[]⟩, .int .u64 0, .slice none 0 0, .int .u64 0, .int .i64 0, .int .i64 0, .string ⟨#[]⟩] 27 (0, 0)) := (b0.block w.heap.size (by simp)).trans (heap_at1 w _)
  simp only [World.size_alloc] at r0
  have h0 : Below w.heap.size w v0 := bstep (balloc hb _) b0
  clear b0 hb
  go_wp2_with fail
  refine (num_any _ t 0 255 _ r0 k l1 E1 Q1.out).mono ?_
  rintro e v1 ⟨rfl, ra1, ba1⟩
  have hlt1 := r0.lt
  have ma1 := (ba1.block w.heap.size (by omega) (by omega)).trans m0
  have ha1 := But.below h0 ba1 (by omega) h0.size
  have fa1 := Lib.frozen_of_heap ma1 0
  have ca1 : v1.cell? ⟨w.heap.size, 0, none⟩ = some (.int .u8 0) := by rw [Lib.cell_of_heap ma1]; rfl
  have m1 : (v1.setCell ⟨w.heap.size, 0, none⟩ (.int .u8 (k : Int))).heap[w.heap.size]? = some (.cells #[.int .u8 (k : Int), .string ⟨#[]⟩, .string ⟨#[]⟩, .string ⟨#[]⟩, .int .u64 0, .slice none 0 0, .int .u64 0, .int .i64 0, .int .i64 0, .string ⟨#[]⟩] 27 (0, 0)) := Joins.block_setCell ma1 _
  have r1 : Rd (v1.setCell ⟨w.heap.size, 0, none⟩ (.int .u8 (k : Int))) (w.heap.size + 1) _ _ := rd_set ra1 (by simp) _
  have h1 : Below w.heap.size w (v1.setCell ⟨w.heap.size, 0, none⟩ (.int .u8 (k : Int))) := ha1.setCell (p := ⟨w.heap.size, 0, none⟩) (Nat.le_refl _) _
  clear ba1 ma1 ha1 hlt1 ra1 r0 m0 h0
  go_wp2_with fail
  refine (text_any _ l1 E1 16384 (by omega) (by omega) _ r1 src l2 E2 U2.out).mono ?_
  rintro e v2 ⟨rfl, ra2, ba2⟩
  have hlt2 := r1.lt
  have ma2 := (ba2.block w.heap.size (by omega) (by omega)).trans m1
  have ha2 := But.below h1 ba2 (by omega) h1.size
  have fa2 := Lib.frozen_of_heap ma2 1
  have ca2 : v2.cell? ⟨w.heap.size, 1, none⟩ = some (.string ⟨#[]⟩) := by rw [Lib.cell_of_heap ma2]; rfl
  have m2 : (v2.setCell ⟨w.heap.size, 1, none⟩ (.string ⟨src.toArray⟩)).heap[w.heap.size]? = some (.cells #[.int .u8 (k : Int), .string ⟨src.toArray⟩, .string ⟨#[]⟩, .string ⟨#[]⟩, .int .u64 0, .slice none 0 0, .int .u64 0, .int .i64 0, .int .i64 0, .string ⟨#[]⟩] 27 (0, 0)) := Joins.block_setCell ma2 _
  have r2 : Rd (v2.setCell ⟨w.heap.size, 1, none⟩ (.string ⟨src.toArray⟩)) (w.heap.size + 1) _ _ := rd_set ra2 (by simp) _
  have h2 : Below w.heap.size w (v2.setCell ⟨w.heap.size, 1, none⟩ (.string ⟨src.toArray⟩)) := ha2.setCell (p := ⟨w.heap.size, 1, none⟩) (Nat.le_refl _) _
  clear ba2 ma2 ha2 hlt2 ra2 r1 m1 h1
  go_wp2_with fail
  refine (text_any _ l2 E2 16384 (by omega) (by omega) _ r2 dst l3 E3 U3.out).mono ?_
  rintro e v3 ⟨rfl, ra3, ba3⟩
  have hlt3 := r2.lt
  have ma3 := (ba3.block w.heap.size (by omega) (by omega)).trans m2
  have ha3 := But.below h2 ba3 (by omega) h2.size
  have fa3 := Lib.frozen_of_heap ma3 2
  have ca3 : v3.cell? ⟨w.heap.size, 2, none⟩ = some (.string ⟨#[]⟩) := by rw [Lib.cell_of_heap ma3]; rfl
  have m3 : (v3.setCell ⟨w.heap.size, 2, none⟩ (.string ⟨dst.toArray⟩)).heap[w.heap.size]? = some (.cells #[.int .u8 (k : Int), .string ⟨src.toArray⟩, .string ⟨dst.toArray⟩, .string ⟨#[]⟩, .int .u64 0, .slice none 0 0, .int .u64 0, .int .i64 0, .int .i64 0, .string ⟨#[]⟩] 27 (0, 0)) := Joins.block_setCell ma3 _
  have r3 : Rd (v3.setCell ⟨w.heap.size, 2, none⟩ (.string ⟨dst.toArray⟩)) (w.heap.size + 1) _ _ := rd_set ra3 (by simp) _
  have h3 : Below w.heap.size w (v3.setCell ⟨w.heap.size, 2, none⟩ (.string ⟨dst.toArray⟩)) := ha3.setCell (p := ⟨w.heap.size, 2, none⟩) (Nat.le_refl _) _
  clear ba3 ma3 ha3 hlt3 ra3 r2 m2 h2
  have x0 : (v3.setCell ⟨w.heap.size, 2, none⟩ (.string ⟨dst.toArray⟩)).cell? ⟨w.heap.size, 0, none⟩ = some (.int .u8 (k : Int)) := by rw [Lib.cell_of_heap m3]; rfl
  go_upto_block 0 with fail
  go_cut [] (fun wx => ∃ (m : G) (a : Option Addr) (c : Nat) (l : List UInt8) (E : Int), wx.heap[w.heap.size]? = some (.cells (m.cells a c) 27 (0, 0)) ∧ Mark.Own wx (w.heap.size + 2) (.slice a m.all.length c) m.all ∧ Rd wx (w.heap.size + 1) l E ∧ Below w.heap.size w wx ∧ readG t = (m, endS l E == 0))
  case first =>
    by_cases k1 : k = 1
    · have z1 : ((k : Int) == 1) = true := by rw [beq_iff_eq]; omega
      have K1 := Lib.hid k1
      clear k1
      obtain ⟨R, lv, Elv, qlv⟩ : ∃ s l E, rdV t = (s, l, E) := ⟨_, _, _, rfl⟩
      have ulv := qlv
      unfold rdV at ulv
      rw [Q3.out] at ulv
      simp only at ulv
      have Qlv := Lib.hid qlv
      have Ulv := Lib.hid ulv
      clear qlv ulv
      obtain ⟨id, li, Eli, qli⟩ : ∃ s l E, rdI t = (s, l, E) := ⟨_, _, _, rfl⟩
      have uli := qli
      unfold rdI at uli
      rw [Qlv.out] at uli
      simp only at uli
      have bli := numS_le uli (by omega)
      obtain ⟨id, rfl⟩ := Int.eq_ofNat_of_zero_le bli.1
      have Qli := Lib.hid qli
      have Uli := Lib.hid uli
      clear qli uli
      obtain ⟨ii, lj, Elj, qlj⟩ : ∃ s l E, rdJ t = (s, l, E) := ⟨_, _, _, rfl⟩
      have ulj := qlj
      unfold rdJ at ulj
      rw [Qli.out] at ulj
      simp only at ulj
      have Qlj := Lib.hid qlj
      have Ulj := Lib.hid ulj
      clear qlj ulj
      obtain ⟨nn, ln, Eln, qln⟩ : ∃ s l E, rdN t = (s, l, E) := ⟨_, _, _, rfl⟩
      have uln := qln
      unfold rdN at uln
      rw [Qlj.out] at uln
      simp only at uln
      have Qln := Lib.hid qln
      have Uln := Lib.hid uln
      clear qln uln
      obtain ⟨tx, lx, Elx, qlx⟩ : ∃ s l E, rdX t = (s, l, E) := ⟨_, _, _, rfl⟩
      have ulx := qlx
      unfold rdX at ulx
      rw [Qln.out] at ulx
      simp only at ulx
      have Qlx := Lib.hid qlx
      have Ulx := Lib.hid ulx
      clear qlx ulx
      go_wp2_with fail
      refine (rv_any _ l3 E3 _ r3 R lv Elv Ulv.out).mono ?_
      rintro e v4 ⟨vv4, rfl, oa4, la4, ra4, ba4⟩
      have hlt4 := r3.lt
      have ma4 := (ba4.block w.heap.size (by omega) (by omega)).trans m3
      have ha4 := But.below h3 ba4 (by omega) h3.size
      replace oa4 := oa4.base (B' := w.heap.size + 2) (by have := hlt4; simp at this ⊢; omega)
      obtain ⟨a4, c4, rfl, _⟩ := oa4.lies
      have fa4 := Lib.frozen_of_heap ma4 5
      have ca4 : v4.cell? ⟨w.heap.size, 5, none⟩ = some (.slice none 0 0) := by rw [Lib.cell_of_heap ma4]; rfl
      have m4 : (v4.setCell ⟨w.heap.size, 5, none⟩ (.slice a4 R.length c4)).heap[w.heap.size]? = some (.cells #[.int .u8 (k : Int), .string ⟨src.toArray⟩, .string ⟨dst.toArray⟩, .string ⟨#[]⟩, .int .u64 0, .slice a4 R.length c4, .int .u64 0, .int .i64 0, .int .i64 0, .string ⟨#[]⟩] 27 (0, 0)) := Joins.block_setCell ma4 _
      have r4 : Rd (v4.setCell ⟨w.heap.size, 5, none⟩ (.slice a4 R.length c4)) (w.heap.size + 1) _ _ := rd_set ra4 (by simp) _
      have h4 : Below w.heap.size w (v4.setCell ⟨w.heap.size, 5, none⟩ (.slice a4 R.length c4)) := ha4.setCell (p := ⟨w.heap.size, 5, none⟩) (Nat.le_refl _) _
      have own : Mark.Own (v4.setCell ⟨w.heap.size, 5, none⟩ (.slice a4 R.length c4)) (w.heap.size + 2) _ _ := own_set oa4 (by simp) _
      clear ba4 ma4 ha4 hlt4 ra4 r3 m3 h3
      go_wp2_with fail
      refine (num_any _ lv Elv 18446744073709551615 _ r4 id li Eli Uli.out).mono ?_
      rintro e v5 ⟨rfl, ra5, ba5⟩
      have hlt5 := r4.lt
      have ma5 := (ba5.block w.heap.size (by omega) (by omega)).trans m4
      have ha5 := But.below h4 ba5 (by omega) h4.size
      replace own := own_but own ba5 (by omega)
      have fa5 := Lib.frozen_of_heap ma5 6
      have ca5 : v5.cell? ⟨w.heap.size, 6, none⟩ = some (.int .u64 0) := by rw [Lib.cell_of_heap ma5]; rfl
      have m5 : (v5.setCell ⟨w.heap.size, 6, none⟩ (.int .u64 (id : Int))).heap[w.heap.size]? = some (.cells #[.int .u8 (k : Int), .string ⟨src.toArray⟩, .string ⟨dst.toArray⟩, .string ⟨#[]⟩, .int .u64 0, .slice a4 R.length c4, .int .u64 (id : Int), .int .i64 0, .int .i64 0, .string ⟨#[]⟩] 27 (0, 0)) := Joins.block_setCell ma5 _
      have r5 : Rd (v5.setCell ⟨w.heap.size, 6, none⟩ (.int .u64 (id : Int))) (w.heap.size + 1) _ _ := rd_set ra5 (by simp) _
      have h5 : Below w.heap.size w (v5.setCell ⟨w.heap.size, 6, none⟩ (.int .u64 (id : Int))) := ha5.setCell (p := ⟨w.heap.size, 6, none⟩) (Nat.le_refl _) _
      replace own : Mark.Own (v5.setCell ⟨w.heap.size, 6, none⟩ (.int .u64 (id : Int))) (w.heap.size + 2) _ _ := own_set own (by simp) _
      clear ba5 ma5 ha5 hlt5 ra5 r4 m4 h4
      go_wp2_with fail
      refine (int_any _ li Eli 256 (by omega) (by omega) _ r5 ii lj Elj Ulj.out).mono ?_
      rintro e v6 ⟨rfl, ra6, ba6⟩
      have hlt6 := r5.lt
      have ma6 := (ba6.block w.heap.size (by omega) (by omega)).trans m5
      have ha6 := But.below h5 ba6 (by omega) h5.size
      replace own := own_but own ba6 (by omega)
      have fa6 := Lib.frozen_of_heap ma6 7
      have ca6 : v6.cell? ⟨w.heap.size, 7, none⟩ = some (.int .i64 0) := by rw [Lib.cell_of_heap ma6]; rfl
      have m6 : (v6.setCell ⟨w.heap.size, 7, none⟩ (.int .i64 ii)).heap[w.heap.size]? = some (.cells #[.int .u8 (k : Int), .string ⟨src.toArray⟩, .string ⟨dst.toArray⟩, .string ⟨#[]⟩, .int .u64 0, .slice a4 R.length c4, .int .u64 (id : Int), .int .i64 ii, .int .i64 0, .string ⟨#[]⟩] 27 (0, 0)) := Joins.block_setCell ma6 _
      have r6 : Rd (v6.setCell ⟨w.heap.size, 7, none⟩ (.int .i64 ii)) (w.heap.size + 1) _ _ := rd_set ra6 (by simp) _
      have h6 : Below w.heap.size w (v6.setCell ⟨w.heap.size, 7, none⟩ (.int .i64 ii)) := ha6.setCell (p := ⟨w.heap.size, 7, none⟩) (Nat.le_refl _) _
      replace own : Mark.Own (v6.setCell ⟨w.heap.size, 7, none⟩ (.int .i64 ii)) (w.heap.size + 2) _ _ := own_set own (by simp) _
      clear ba6 ma6 ha6 hlt6 ra6 r5 m5 h5
      go_wp2_with fail
      refine (int_any _ lj Elj 256 (by omega) (by omega) _ r6 nn ln Eln Uln.out).mono ?_
      rintro e v7 ⟨rfl, ra7, ba7⟩
      have hlt7 := r6.lt
      have ma7 := (ba7.block w.heap.size (by omega) (by omega)).trans m6
      have ha7 := But.below h6 ba7 (by omega) h6.size
      replace own := own_but own ba7 (by omega)
      have fa7 := Lib.frozen_of_heap ma7 8
      have ca7 : v7.cell? ⟨w.heap.size, 8, none⟩ = some (.int .i64 0) := by rw [Lib.cell_of_heap ma7]; rfl
      have m7 : (v7.setCell ⟨w.heap.size, 8, none⟩ (.int .i64 nn)).heap[w.heap.size]? = some (.cells #[.int .u8 (k : Int), .string ⟨src.toArray⟩, .string ⟨dst.toArray⟩, .string ⟨#[]⟩, .int .u64 0, .slice a4 R.length c4, .int .u64 (id : Int), .int .i64 ii, .int .i64 nn, .string ⟨#[]⟩] 27 (0, 0)) := Joins.block_setCell ma7 _
      have r7 : Rd (v7.setCell ⟨w.heap.size, 8, none⟩ (.int .i64 nn)) (w.heap.size + 1) _ _ := rd_set ra7 (by simp) _
      have h7 : Below w.heap.size w (v7.setCell ⟨w.heap.size, 8, none⟩ (.int .i64 nn)) := ha7.setCell (p := ⟨w.heap.size, 8, none⟩) (Nat.le_refl _) _
      replace own : Mark.Own (v7.setCell ⟨w.heap.size, 8, none⟩ (.int .i64 nn)) (w.heap.size + 2) _ _ := own_set own (by simp) _
      clear ba7 ma7 ha7 hlt7 ra7 r6 m6 h6
      go_wp2_with fail
      refine (text_any _ ln Eln 4096 (by omega) (by omega) _ r7 tx lx Elx Ulx.out).mono ?_
      rintro e v8 ⟨rfl, ra8, ba8⟩
      have hlt8 := r7.lt
      have ma8 := (ba8.block w.heap.size (by omega) (by omega)).trans m7
      have ha8 := But.below h7 ba8 (by omega) h7.size
      replace own := own_but own ba8 (by omega)
      have fa8 := Lib.frozen_of_heap ma8 9
      have ca8 : v8.cell? ⟨w.heap.size, 9, none⟩ = some (.string ⟨#[]⟩) := by rw [Lib.cell_of_heap ma8]; rfl
      have m8 : (v8.setCell ⟨w.heap.size, 9, none⟩ (.string ⟨tx.toArray⟩)).heap[w.heap.size]? = some (.cells #[.int .u8 (k : Int), .string ⟨src.toArray⟩, .string ⟨dst.toArray⟩, .string ⟨#[]⟩, .int .u64 0, .slice a4 R.length c4, .int .u64 (id : Int), .int .i64 ii, .int .i64 nn, .string ⟨tx.toArray⟩] 27 (0, 0)) := Joins.block_setCell ma8 _
      have r8 : Rd (v8.setCell ⟨w.heap.size, 9, none⟩ (.string ⟨tx.toArray⟩)) (w.heap.size + 1) _ _ := rd_set ra8 (by simp) _
      have h8 : Below w.heap.size w (v8.setCell ⟨w.heap.size, 9, none⟩ (.string ⟨tx.toArray⟩)) := ha8.setCell (p := ⟨w.heap.size, 9, none⟩) (Nat.le_refl _) _
      replace own : Mark.Own (v8.setCell ⟨w.heap.size, 9, none⟩ (.string ⟨tx.toArray⟩)) (w.heap.size + 2) _ _ := own_set own (by simp) _
      clear ba8 ma8 ha8 hlt8 ra8 r7 m7 h7
      go_wp2_with fail
      go_meet
      have k1 := K1.out
      clear K1 z1
      subst k1
      refine ⟨⟨1, src, dst, [], 0, R, id, ii, nn, tx⟩, a4, c4, _, _, m8, own, r8, h8, ?_⟩
      unfold readG
      rw [Q1.out]
      simp only [Int.toNat_natCast]
      rw [if_pos trivial]
      rw [Q2.out, Q3.out, Qlv.out, Qli.out, Qlj.out, Qln.out, Qlx.out]
      try simp only [Int.toNat_natCast]
    by_cases k2 : k = 2
    · have z2 : ((k : Int) == 2) = true := by rw [beq_iff_eq]; omega
      have z1 : ((k : Int) == 1) = false := by rw [beq_eq_false_iff_ne]; omega
      have K2 := Lib.hid k2
      clear k2 k1
      obtain ⟨sq, ls, Els, qls⟩ : ∃ s l E, rdS t = (s, l, E) := ⟨_, _, _, rfl⟩
      have uls := qls
      unfold rdS at uls
      rw [Q3.out] at uls
      simp only at uls
      have bls := numS_le uls (by omega)
      obtain ⟨sq, rfl⟩ := Int.eq_ofNat_of_zero_le bls.1
      have Qls := Lib.hid qls
      have Uls := Lib.hid uls
      clear qls uls
      go_wp2_with fail
      refine (num_any _ l3 E3 281474976710656 _ r3 sq ls Els Uls.out).mono ?_
      rintro e v4 ⟨rfl, ra4, ba4⟩
      have hlt4 := r3.lt
      have ma4 := (ba4.block w.heap.size (by omega) (by omega)).trans m3
      have ha4 := But.below h3 ba4 (by omega) h3.size
      have fa4 := Lib.frozen_of_heap ma4 4
      have ca4 : v4.cell? ⟨w.heap.size, 4, none⟩ = some (.int .u64 0) := by rw [Lib.cell_of_heap ma4]; rfl
      have m4 : (v4.setCell ⟨w.heap.size, 4, none⟩ (.int .u64 (sq : Int))).heap[w.heap.size]? = some (.cells #[.int .u8 (k : Int), .string ⟨src.toArray⟩, .string ⟨dst.toArray⟩, .string ⟨#[]⟩, .int .u64 (sq : Int), .slice none 0 0, .int .u64 0, .int .i64 0, .int .i64 0, .string ⟨#[]⟩] 27 (0, 0)) := Joins.block_setCell ma4 _
      have r4 : Rd (v4.setCell ⟨w.heap.size, 4, none⟩ (.int .u64 (sq : Int))) (w.heap.size + 1) _ _ := rd_set ra4 (by simp) _
      have h4 : Below w.heap.size w (v4.setCell ⟨w.heap.size, 4, none⟩ (.int .u64 (sq : Int))) := ha4.setCell (p := ⟨w.heap.size, 4, none⟩) (Nat.le_refl _) _
      clear ba4 ma4 ha4 hlt4 ra4 r3 m3 h3
      go_wp2_with fail
      go_meet
      have k2 := K2.out
      clear K2 z1 z2
      subst k2
      refine ⟨⟨2, src, dst, [], sq, [], 0, 0, 0, []⟩, none, 0, _, _, m4, Mark.Own.nil _ _, r4, h4, ?_⟩
      unfold readG
      rw [Q1.out]
      simp only [Int.toNat_natCast]
      rw [if_neg (by decide), if_pos trivial]
      rw [Q2.out, Q3.out, Qls.out]
      try simp only [Int.toNat_natCast]
    by_cases k3 : k = 3
    · have z3 : ((k : Int) == 3) = true := by rw [beq_iff_eq]; omega
      have z1 : ((k : Int) == 1) = false := by rw [beq_eq_false_iff_ne]; omega
      have z2 : ((k : Int) == 2) = false := by rw [beq_eq_false_iff_ne]; omega
      have K3 := Lib.hid k3
      clear k3 k2 k1
      obtain ⟨sq, ls, Els, qls⟩ : ∃ s l E, rdS t = (s, l, E) := ⟨_, _, _, rfl⟩
      have uls := qls
      unfold rdS at uls
      rw [Q3.out] at uls
      simp only at uls
      have bls := numS_le uls (by omega)
      obtain ⟨sq, rfl⟩ := Int.eq_ofNat_of_zero_le bls.1
      have Qls := Lib.hid qls
      have Uls := Lib.hid uls
      clear qls uls
      obtain ⟨fr, lf, Elf, qlf⟩ : ∃ s l E, rdF t = (s, l, E) := ⟨_, _, _, rfl⟩
      have ulf := qlf
      unfold rdF at ulf
      rw [Qls.out] at ulf
      simp only at ulf
      have Qlf := Lib.hid qlf
      have Ulf := Lib.hid ulf
      clear qlf ulf
      go_wp2_with fail
      refine (num_any _ l3 E3 281474976710656 _ r3 sq ls Els Uls.out).mono ?_
      rintro e v4 ⟨rfl, ra4, ba4⟩
      have hlt4 := r3.lt
      have ma4 := (ba4.block w.heap.size (by omega) (by omega)).trans m3
      have ha4 := But.below h3 ba4 (by omega) h3.size
      have fa4 := Lib.frozen_of_heap ma4 4
      have ca4 : v4.cell? ⟨w.heap.size, 4, none⟩ = some (.int .u64 0) := by rw [Lib.cell_of_heap ma4]; rfl
      have m4 : (v4.setCell ⟨w.heap.size, 4, none⟩ (.int .u64 (sq : Int))).heap[w.heap.size]? = some (.cells #[.int .u8 (k : Int), .string ⟨src.toArray⟩, .string ⟨dst.toArray⟩, .string ⟨#[]⟩, .int .u64 (sq : Int), .slice none 0 0, .int .u64 0, .int .i64 0, .int .i64 0, .string ⟨#[]⟩] 27 (0, 0)) := Joins.block_setCell ma4 _
      have r4 : Rd (v4.setCell ⟨w.heap.size, 4, none⟩ (.int .u64 (sq : Int))) (w.heap.size + 1) _ _ := rd_set ra4 (by simp) _
      have h4 : Below w.heap.size w (v4.setCell ⟨w.heap.size, 4, none⟩ (.int .u64 (sq : Int))) := ha4.setCell (p := ⟨w.heap.size, 4, none⟩) (Nat.le_refl _) _
      clear ba4 ma4 ha4 hlt4 ra4 r3 m3 h3
      go_wp2_with fail
      refine (text_any _ ls Els 16384 (by omega) (by omega) _ r4 fr lf Elf Ulf.out).mono ?_
      rintro e v5 ⟨rfl, ra5, ba5⟩
      have hlt5 := r4.lt
      have ma5 := (ba5.block w.heap.size (by omega) (by omega)).trans m4
      have ha5 := But.below h4 ba5 (by omega) h4.size
      have fa5 := Lib.frozen_of_heap ma5 3
      have ca5 : v5.cell? ⟨w.heap.size, 3, none⟩ = some (.string ⟨#[]⟩) := by rw [Lib.cell_of_heap ma5]; rfl
      have m5 : (v5.setCell ⟨w.heap.size, 3, none⟩ (.string ⟨fr.toArray⟩)).heap[w.heap.size]? = some (.cells #[.int .u8 (k : Int), .string ⟨src.toArray⟩, .string ⟨dst.toArray⟩, .string ⟨fr.toArray⟩, .int .u64 (sq : Int), .slice none 0 0, .int .u64 0, .int .i64 0, .int .i64 0, .string ⟨#[]⟩] 27 (0, 0)) := Joins.block_setCell ma5 _
      have r5 : Rd (v5.setCell ⟨w.heap.size, 3, none⟩ (.string ⟨fr.toArray⟩)) (w.heap.size + 1) _ _ := rd_set ra5 (by simp) _
      have h5 : Below w.heap.size w (v5.setCell ⟨w.heap.size, 3, none⟩ (.string ⟨fr.toArray⟩)) := ha5.setCell (p := ⟨w.heap.size, 3, none⟩) (Nat.le_refl _) _
      clear ba5 ma5 ha5 hlt5 ra5 r4 m4 h4
      go_wp2_with fail
      go_meet
      have k3 := K3.out
      clear K3 z1 z2 z3
      subst k3
      refine ⟨⟨3, src, dst, fr, sq, [], 0, 0, 0, []⟩, none, 0, _, _, m5, Mark.Own.nil _ _, r5, h5, ?_⟩
      unfold readG
      rw [Q1.out]
      simp only [Int.toNat_natCast]
      rw [if_neg (by decide), if_neg (by decide), if_pos trivial]
      rw [Q2.out, Q3.out, Qls.out, Qlf.out]
      try simp only [Int.toNat_natCast]
    by_cases k4 : k = 4
    · have z4 : ((k : Int) == 4) = true := by rw [beq_iff_eq]; omega
      have z1 : ((k : Int) == 1) = false := by rw [beq_eq_false_iff_ne]; omega
      have z2 : ((k : Int) == 2) = false := by rw [beq_eq_false_iff_ne]; omega
      have z3 : ((k : Int) == 3) = false := by rw [beq_eq_false_iff_ne]; omega
      have K4 := Lib.hid k4
      clear k4 k3 k2 k1
      obtain ⟨sq, ls, Els, qls⟩ : ∃ s l E, rdS t = (s, l, E) := ⟨_, _, _, rfl⟩
      have uls := qls
      unfold rdS at uls
      rw [Q3.out] at uls
      simp only at uls
      have bls := numS_le uls (by omega)
      obtain ⟨sq, rfl⟩ := Int.eq_ofNat_of_zero_le bls.1
      have Qls := Lib.hid qls
      have Uls := Lib.hid uls
      clear qls uls
      obtain ⟨fr, lf, Elf, qlf⟩ : ∃ s l E, rdF t = (s, l, E) := ⟨_, _, _, rfl⟩
      have ulf := qlf
      unfold rdF at ulf
      rw [Qls.out] at ulf
      simp only at ulf
      have Qlf := Lib.hid qlf
      have Ulf := Lib.hid ulf
      clear qlf ulf
      obtain ⟨R, lv, Elv, qlv⟩ : ∃ s l E, rdW t = (s, l, E) := ⟨_, _, _, rfl⟩
      have ulv := qlv
      unfold rdW at ulv
      rw [Qlf.out] at ulv
      simp only at ulv
      have Qlv := Lib.hid qlv
      have Ulv := Lib.hid ulv
      clear qlv ulv
      go_wp2_with fail
      refine (num_any _ l3 E3 281474976710656 _ r3 sq ls Els Uls.out).mono ?_
      rintro e v4 ⟨rfl, ra4, ba4⟩
      have hlt4 := r3.lt
      have ma4 := (ba4.block w.heap.size (by omega) (by omega)).trans m3
      have ha4 := But.below h3 ba4 (by omega) h3.size
      have fa4 := Lib.frozen_of_heap ma4 4
      have ca4 : v4.cell? ⟨w.heap.size, 4, none⟩ = some (.int .u64 0) := by rw [Lib.cell_of_heap ma4]; rfl
      have m4 : (v4.setCell ⟨w.heap.size, 4, none⟩ (.int .u64 (sq : Int))).heap[w.heap.size]? = some (.cells #[.int .u8 (k : Int), .string ⟨src.toArray⟩, .string ⟨dst.toArray⟩, .string ⟨#[]⟩, .int .u64 (sq : Int), .slice none 0 0, .int .u64 0, .int .i64 0, .int .i64 0, .string ⟨#[]⟩] 27 (0, 0)) := Joins.block_setCell ma4 _
      have r4 : Rd (v4.setCell ⟨w.heap.size, 4, none⟩ (.int .u64 (sq : Int))) (w.heap.size + 1) _ _ := rd_set ra4 (by simp) _
      have h4 : Below w.heap.size w (v4.setCell ⟨w.heap.size, 4, none⟩ (.int .u64 (sq : Int))) := ha4.setCell (p := ⟨w.heap.size, 4, none⟩) (Nat.le_refl _) _
      clear ba4 ma4 ha4 hlt4 ra4 r3 m3 h3
      go_wp2_with fail
      refine (text_any _ ls Els 16384 (by omega) (by omega) _ r4 fr lf Elf Ulf.out).mono ?_
      rintro e v5 ⟨rfl, ra5, ba5⟩
      have hlt5 := r4.lt
      have ma5 := (ba5.block w.heap.size (by omega) (by omega)).trans m4
      have ha5 := But.below h4 ba5 (by omega) h4.size
      have fa5 := Lib.frozen_of_heap ma5 3
      have ca5 : v5.cell? ⟨w.heap.size, 3, none⟩ = some (.string ⟨#[]⟩) := by rw [Lib.cell_of_heap ma5]; rfl
      have m5 : (v5.setCell ⟨w.heap.size, 3, none⟩ (.string ⟨fr.toArray⟩)).heap[w.heap.size]? = some (.cells #[.int .u8 (k : Int), .string ⟨src.toArray⟩, .string ⟨dst.toArray⟩, .string ⟨fr.toArray⟩, .int .u64 (sq : Int), .slice none 0 0, .int .u64 0, .int .i64 0, .int .i64 0, .string ⟨#[]⟩] 27 (0, 0)) := Joins.block_setCell ma5 _
      have r5 : Rd (v5.setCell ⟨w.heap.size, 3, none⟩ (.string ⟨fr.toArray⟩)) (w.heap.size + 1) _ _ := rd_set ra5 (by simp) _
      have h5 : Below w.heap.size w (v5.setCell ⟨w.heap.size, 3, none⟩ (.string ⟨fr.toArray⟩)) := ha5.setCell (p := ⟨w.heap.size, 3, none⟩) (Nat.le_refl _) _
      clear ba5 ma5 ha5 hlt5 ra5 r4 m4 h4
      go_wp2_with fail
      refine (rv_any _ lf Elf _ r5 R lv Elv Ulv.out).mono ?_
      rintro e v6 ⟨vv6, rfl, oa6, la6, ra6, ba6⟩
      have hlt6 := r5.lt
      have ma6 := (ba6.block w.heap.size (by omega) (by omega)).trans m5
      have ha6 := But.below h5 ba6 (by omega) h5.size
      replace oa6 := oa6.base (B' := w.heap.size + 2) (by have := hlt6; simp at this ⊢; omega)
      obtain ⟨a6, c6, rfl, _⟩ := oa6.lies
      have fa6 := Lib.frozen_of_heap ma6 5
      have ca6 : v6.cell? ⟨w.heap.size, 5, none⟩ = some (.slice none 0 0) := by rw [Lib.cell_of_heap ma6]; rfl
      have m6 : (v6.setCell ⟨w.heap.size, 5, none⟩ (.slice a6 R.length c6)).heap[w.heap.size]? = some (.cells #[.int .u8 (k : Int), .string ⟨src.toArray⟩, .string ⟨dst.toArray⟩, .string ⟨fr.toArray⟩, .int .u64 (sq : Int), .slice a6 R.length c6, .int .u64 0, .int .i64 0, .int .i64 0, .string ⟨#[]⟩] 27 (0, 0)) := Joins.block_setCell ma6 _
      have r6 : Rd (v6.setCell ⟨w.heap.size, 5, none⟩ (.slice a6 R.length c6)) (w.heap.size + 1) _ _ := rd_set ra6 (by simp) _
      have h6 : Below w.heap.size w (v6.setCell ⟨w.heap.size, 5, none⟩ (.slice a6 R.length c6)) := ha6.setCell (p := ⟨w.heap.size, 5, none⟩) (Nat.le_refl _) _
      have own : Mark.Own (v6.setCell ⟨w.heap.size, 5, none⟩ (.slice a6 R.length c6)) (w.heap.size + 2) _ _ := own_set oa6 (by simp) _
      clear ba6 ma6 ha6 hlt6 ra6 r5 m5 h5
      go_wp2_with fail
      go_meet
      have k4 := K4.out
      clear K4 z1 z2 z3 z4
      subst k4
      refine ⟨⟨4, src, dst, fr, sq, R, 0, 0, 0, []⟩, a6, c6, _, _, m6, own, r6, h6, ?_⟩
      unfold readG
      rw [Q1.out]
      simp only [Int.toNat_natCast]
      rw [if_neg (by decide), if_neg (by decide), if_neg (by decide), if_pos trivial]
      rw [Q2.out, Q3.out, Qls.out, Qlf.out, Qlv.out]
      try simp only [Int.toNat_natCast]
    have z1 : ((k : Int) == 1) = false := by rw [beq_eq_false_iff_ne]; omega
    have z2 : ((k : Int) == 2) = false := by rw [beq_eq_false_iff_ne]; omega
    have z3 : ((k : Int) == 3) = false := by rw [beq_eq_false_iff_ne]; omega
    have z4 : ((k : Int) == 4) = false := by rw [beq_eq_false_iff_ne]; omega
    have K1 := Lib.hid k1
    have K2 := Lib.hid k2
    have K3 := Lib.hid k3
    have K4 := Lib.hid k4
    clear k1 k2 k3 k4
    go_wp2_with fail
    go_meet
    refine ⟨⟨k, src, dst, [], 0, [], 0, 0, 0, []⟩, none, 0, _, _, m3, Mark.Own.nil _ _, r3, h3, ?_⟩
    unfold readG
    rw [Q1.out]
    simp only [Int.toNat_natCast]
    rw [if_neg K1.out, if_neg K2.out, if_neg K3.out, if_neg K4.out]
    rw [Q2.out, Q3.out]
    try simp only [Int.toNat_natCast]
  clear r3 m3 h3 x0 fa1 ca1 fa2 ca2 fa3 ca3 U2 U3 Q1 Q2 Q3
  obtain ⟨⟨k, src, dst, fr, sq, R, id, ii, nn, tx⟩, a, c, l, E, hm, own, hr, hb, hG⟩ := hcut
  replace hG := Lib.hid hG
  unfold G.cells at hm
  simp only at hm own
  obtain ⟨rr, hrr⟩ : ∃ r, endS l E = r := ⟨_, rfl⟩
  rw [hrr] at hG
  have hn := hr.lt
  have x0 : wc.cell? ⟨w.heap.size, 0, none⟩ = some (.int .u8 (k : Int)) := by rw [Lib.cell_of_heap hm]; rfl
  have x1 : wc.cell? ⟨w.heap.size, 1, none⟩ = some (.string ⟨src.toArray⟩) := by rw [Lib.cell_of_heap hm]; rfl
  have x2 : wc.cell? ⟨w.heap.size, 2, none⟩ = some (.string ⟨dst.toArray⟩) := by rw [Lib.cell_of_heap hm]; rfl
  have x3 : wc.cell? ⟨w.heap.size, 3, none⟩ = some (.string ⟨fr.toArray⟩) := by rw [Lib.cell_of_heap hm]; rfl
  have x4 : wc.cell? ⟨w.heap.size, 4, none⟩ = some (.int .u64 (sq : Int)) := by rw [Lib.cell_of_heap hm]; rfl
  have x5 : wc.cell? ⟨w.heap.size, 5, none⟩ = some (.slice a R.length c) := by rw [Lib.cell_of_heap hm]; rfl
  have x6 : wc.cell? ⟨w.heap.size, 6, none⟩ = some (.int .u64 (id : Int)) := by rw [Lib.cell_of_heap hm]; rfl
  have x7 : wc.cell? ⟨w.heap.size, 7, none⟩ = some (.int .i64 ii) := by rw [Lib.cell_of_heap hm]; rfl
  have x8 : wc.cell? ⟨w.heap.size, 8, none⟩ = some (.int .i64 nn) := by rw [Lib.cell_of_heap hm]; rfl
  have x9 : wc.cell? ⟨w.heap.size, 9, none⟩ = some (.string ⟨tx.toArray⟩) := by rw [Lib.cell_of_heap hm]; rfl
  go_wp2_with fail
  refine wp_region_noPanic ?_
  refine wp_region_held_drew (S := (fun w' => Below w.heap.size w w' ∧ w'.cell? ⟨w.heap.size, 0, none⟩ = some (.int .u8 (k : Int)) ∧ w'.cell? ⟨w.heap.size, 1, none⟩ = some (.string ⟨src.toArray⟩) ∧ w'.cell? ⟨w.heap.size, 2, none⟩ = some (.string ⟨dst.toArray⟩) ∧ w'.cell? ⟨w.heap.size, 3, none⟩ = some (.string ⟨fr.toArray⟩) ∧ w'.cell? ⟨w.heap.size, 4, none⟩ = some (.int .u64 (sq : Int)) ∧ w'.cell? ⟨w.heap.size, 5, none⟩ = some (.slice a R.length c) ∧ w'.cell? ⟨w.heap.size, 6, none⟩ = some (.int .u64 (id : Int)) ∧ w'.cell? ⟨w.heap.size, 7, none⟩ = some (.int .i64 ii) ∧ w'.cell? ⟨w.heap.size, 8, none⟩ = some (.int .i64 nn) ∧ w'.cell? ⟨w.heap.size, 9, none⟩ = some (.string ⟨tx.toArray⟩) ∧ Mark.Own w' (w.heap.size + 2) (.slice a R.length c) R ∧ w'.heap[w.heap.size]? = some (.cells #[.int .u8 (k : Int), .string ⟨src.toArray⟩, .string ⟨dst.toArray⟩, .string ⟨fr.toArray⟩, .int .u64 (sq : Int), .slice a R.length c, .int .u64 (id : Int), .int .i64 ii, .int .i64 nn, .string ⟨tx.toArray⟩] 27 (0, 0)))) (by kernel_rfl) (⟨Below.drew hb, (But.cell (But.of (b := w.heap.size + 1) (Below.drew (Below.refl _ _))) (World.block_lt_of_cell? _ _ x0) (by simp)).trans x0, (But.cell (But.of (b := w.heap.size + 1) (Below.drew (Below.refl _ _))) (World.block_lt_of_cell? _ _ x1) (by simp)).trans x1, (But.cell (But.of (b := w.heap.size + 1) (Below.drew (Below.refl _ _))) (World.block_lt_of_cell? _ _ x2) (by simp)).trans x2, (But.cell (But.of (b := w.heap.size + 1) (Below.drew (Below.refl _ _))) (World.block_lt_of_cell? _ _ x3) (by simp)).trans x3, (But.cell (But.of (b := w.heap.size + 1) (Below.drew (Below.refl _ _))) (World.block_lt_of_cell? _ _ x4) (by simp)).trans x4, (But.cell (But.of (b := w.heap.size + 1) (Below.drew (Below.refl _ _))) (World.block_lt_of_cell? _ _ x5) (by simp)).trans x5, (But.cell (But.of (b := w.heap.size + 1) (Below.drew (Below.refl _ _))) (World.block_lt_of_cell? _ _ x6) (by simp)).trans x6, (But.cell (But.of (b := w.heap.size + 1) (Below.drew (Below.refl _ _))) (World.block_lt_of_cell? _ _ x7) (by simp)).trans x7, (But.cell (But.of (b := w.heap.size + 1) (Below.drew (Below.refl _ _))) (World.block_lt_of_cell? _ _ x8) (by simp)).trans x8, (But.cell (But.of (b := w.heap.size + 1) (Below.drew (Below.refl _ _))) (World.block_lt_of_cell? _ _ x9) (by simp)).trans x9, own_but own (But.of (b := w.heap.size + 1) (Below.drew (Below.refl _ _))) (by omega), (But.block (But.of (b := w.heap.size + 1) (Below.drew (Below.refl _ _))) w.heap.size (heap_lt hm) (by omega)).trans hm⟩) (fun hHeld => ?_)
  refine wpAnyH_take (i := 0) (v := ?_) (by simp only [List.getElem?_toArray, List.getElem?_cons_zero]; rfl) (by kernel_rfl) (by kernel_rfl) (by kernel_rfl) (fun _ _ _ h => h) (Or.inl ⟨by rfl, ?_⟩) (by assumption) ?_
  rotate_left
  · (intro w hSw; (try dsimp only at hSw); go_simp; try with_reducible rfl)
  try simp only [Act.put, List.setIfInBounds_toArray, List.set_cons_zero, List.set_cons_succ]
  refine wpAnyH_take (i := 1) (v := ?_) (by simp only [List.getElem?_toArray, List.getElem?_cons_succ, List.getElem?_cons_zero]; rfl) (by kernel_rfl) (by kernel_rfl) (by kernel_rfl) (fun _ _ _ h => h) (Or.inl ⟨by rfl, ?_⟩) (by assumption) ?_
  rotate_left
  · (intro w hSw; (try dsimp only at hSw); go_simp; try with_reducible rfl)
  try simp only [Act.put, List.setIfInBounds_toArray, List.set_cons_zero, List.set_cons_succ]
  refine wpAnyH_ready (rs := [2]) (by kernel_rfl) (by simp) ?_
  refine AllReadyH.cons (by simp only [List.getElem?_toArray, List.getElem?_cons_succ, List.getElem?_cons_zero]; rfl) (fun K hK => ?_) AllReadyH.nil
  go_simp
  go_at_call 46
  refine (end_any _ l E _ (hr.below (Below.drew (Below.refl _ _)) hn) rr hrr).mono ?_
  rintro e v1 ⟨rfl, rE, k1⟩
  go_wp2_with fail
  refine hK.out _ _ (⟨But.below hHeld.1 k1 (by omega) (hHeld.1.size), (But.cell k1 (World.block_lt_of_cell? _ _ hHeld.2.1) (by simp)).trans hHeld.2.1, (But.cell k1 (World.block_lt_of_cell? _ _ hHeld.2.2.1) (by simp)).trans hHeld.2.2.1, (But.cell k1 (World.block_lt_of_cell? _ _ hHeld.2.2.2.1) (by simp)).trans hHeld.2.2.2.1, (But.cell k1 (World.block_lt_of_cell? _ _ hHeld.2.2.2.2.1) (by simp)).trans hHeld.2.2.2.2.1, (But.cell k1 (World.block_lt_of_cell? _ _ hHeld.2.2.2.2.2.1) (by simp)).trans hHeld.2.2.2.2.2.1, (But.cell k1 (World.block_lt_of_cell? _ _ hHeld.2.2.2.2.2.2.1) (by simp)).trans hHeld.2.2.2.2.2.2.1, (But.cell k1 (World.block_lt_of_cell? _ _ hHeld.2.2.2.2.2.2.2.1) (by simp)).trans hHeld.2.2.2.2.2.2.2.1, (But.cell k1 (World.block_lt_of_cell? _ _ hHeld.2.2.2.2.2.2.2.2.1) (by simp)).trans hHeld.2.2.2.2.2.2.2.2.1, (But.cell k1 (World.block_lt_of_cell? _ _ hHeld.2.2.2.2.2.2.2.2.2.1) (by simp)).trans hHeld.2.2.2.2.2.2.2.2.2.1, (But.cell k1 (World.block_lt_of_cell? _ _ hHeld.2.2.2.2.2.2.2.2.2.2.1) (by simp)).trans hHeld.2.2.2.2.2.2.2.2.2.2.1, own_but hHeld.2.2.2.2.2.2.2.2.2.2.2.1 k1 (by omega), (But.block k1 w.heap.size (heap_lt hHeld.2.2.2.2.2.2.2.2.2.2.2.2) (by omega)).trans hHeld.2.2.2.2.2.2.2.2.2.2.2.2⟩) (fun hHeld => ?_)
  clear hK K k1
  try simp only [Act.put, List.setIfInBounds_toArray, List.set_cons_zero, List.set_cons_succ]
  refine wpAnyH_take (i := 3) (v := ?_) (by simp only [List.getElem?_toArray, List.getElem?_cons_succ, List.getElem?_cons_zero]; rfl) (by kernel_rfl) (by kernel_rfl) (by kernel_rfl) (fun _ _ _ h => h) (Or.inl ⟨by rfl, ?_⟩) (by assumption) ?_
  rotate_left
  · (intro w hSw; (try dsimp only at hSw); go_simp; try with_reducible rfl)
  try simp only [Act.put, List.setIfInBounds_toArray, List.set_cons_zero, List.set_cons_succ]
  refine wpAnyH_ready (rs := [4]) (by kernel_rfl) (by simp) ?_
  refine AllReadyH.cons (by simp only [List.getElem?_toArray, List.getElem?_cons_succ, List.getElem?_cons_zero]; rfl) (fun K hK => ?_) AllReadyH.nil
  have fz := fun j => Lib.frozen_of_heap hHeld.2.2.2.2.2.2.2.2.2.2.2.2 j
  go_simp
  have hh := hHeld.2.2.2.2.2.2.2.2.2.2.2.2
  rw [set_same hh 0 (.int .u8 (k : Int)) rfl]
  rw [set_same hh 1 (.string ⟨src.toArray⟩) rfl]
  rw [set_same hh 2 (.string ⟨dst.toArray⟩) rfl]
  rw [set_same hh 3 (.string ⟨fr.toArray⟩) rfl]
  rw [set_same hh 4 (.int .u64 (sq : Int)) rfl]
  rw [set_same hh 5 (.slice a R.length c) rfl]
  rw [set_same hh 6 (.int .u64 (id : Int)) rfl]
  rw [set_same hh 7 (.int .i64 ii) rfl]
  rw [set_same hh 8 (.int .i64 nn) rfl]
  rw [set_same hh 9 (.string ⟨tx.toArray⟩) rfl]
  refine hK.out _ _ hHeld (fun hHeld => ?_)
  clear hK K
  try simp only [Act.put, List.setIfInBounds_toArray, List.set_cons_zero, List.set_cons_succ]
  refine wpAnyH_take (i := 5) (v := ?_) (by simp only [List.getElem?_toArray, List.getElem?_cons_succ, List.getElem?_cons_zero]; rfl) (by kernel_rfl) (by kernel_rfl) (by kernel_rfl) (fun _ _ _ h => h) (Or.inl ⟨by rfl, ?_⟩) (by assumption) ?_
  rotate_left
  · (intro w hSw; (try dsimp only at hSw); go_simp; try with_reducible rfl)
  try simp only [Act.put, List.setIfInBounds_toArray, List.set_cons_zero, List.set_cons_succ]
  refine wpAnyH_done (by kernel_rfl) ?_ _
  refine NoPanic.normal ?_
  clear hb x0 x1 x2 x3 x4 x5 x6 x7 x8 x9 own hm
  obtain ⟨hb, x0, x1, x2, x3, x4, x5, x6, x7, x8, x9, own, hm⟩ := hHeld
  have y := hm
  obtain ⟨a2, c2, e2, _, _, lies, far⟩ := own.lies
  simp only [Value.slice.injEq] at e2
  obtain ⟨rfl, _, rfl⟩ := e2
  go_wp2
  rw [hG.out]
  refine bodyPost_ret (v := .tuple #[.agg #[.int .u8 (k : Int), .string ⟨src.toArray⟩, .string ⟨dst.toArray⟩, .string ⟨fr.toArray⟩, .int .u64 (sq : Int), .slice a R.length c, .int .u64 (id : Int), .int .i64 ii, .int .i64 nn, .string ⟨tx.toArray⟩], .bool (rr == 0)]) (by simp [results, Tryd.results27, go_sem, x0, x1, x2, x3, x4, x5, x6, x7, x8, x9]) rfl ?_
  exact ⟨a, c, rfl, lies, fun q e => by have := far q e; omega, hb⟩

end Msg
end Go.Proofs.YtcfimfoccbaepaaDoor
