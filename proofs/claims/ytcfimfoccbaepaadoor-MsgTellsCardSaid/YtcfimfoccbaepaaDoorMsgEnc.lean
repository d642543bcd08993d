/- msg.bytes, May, Encode. -/
import Derived.Test.YtcfimfoccbaepaaDoorMsgBody
namespace Go.Proofs.YtcfimfoccbaepaaDoor
namespace Msg
open Go.RowKit Go.Proofs.YtcfimfoccbaepaaDoor.Mark Go.Proofs.YtcfimfoccbaepaaDoor.Num Go.Proofs.YtcfimfoccbaepaaDoor.Wire

def Box (W : World) (b : Nat) (C : Array Value) : Prop := ∀ j v, C[j]? = some v → W.cell? ⟨b, j, none⟩ = some v
theorem Box.below {W W' : World} {b : Nat} {C : Array Value} (h : Box W b C) (k : Below W.heap.size W W') : Box W' b C := fun j v e => keepC (h j v e) k
theorem Box.new (W : World) (C : Array Value) (T : TypeId) : Box (W.alloc (.cells C T)) W.heap.size C := fun j v e => box_cells W C T j v e

/-- May a message be? -/
def mayM (m : G) : Bool := fitsB m && decide (8 + (bodyL m).length ≤ 16384)
def bytesR (m : G) : List UInt8 := if mayM m then bodyL m else []
def encR (m : G) : List UInt8 × Int := if mayM m then (Frame.putL (bodyL m), 0) else ([], 2)
/-- The texts are such as fit into memory together. -/
structure G.Mod (m : G) : Prop where
  ok : m.Ok
  tx : m.src.length + m.dst.length + m.fr.length + m.tx.length ≤ 68719476736
  len : m.all.length ≤ 1048576
def sumP (L : List M) : Nat := (L.map fun m => m.p.length).sum
theorem sumP_take (L : List M) (k : Nat) (h : k < L.length) : sumP (L.take (k + 1)) = sumP (L.take k) + L[k].p.length := by
  unfold sumP
  rw [List.take_succ_eq_append_getElem h, List.map_append, List.sum_append]; simp
theorem sumP_le (L : List M) (k : Nat) : sumP (L.take k) ≤ sumP L := by
  unfold sumP
  conv => rhs; rw [← List.take_append_drop k L, List.map_append, List.sum_append]
  omega
theorem txtL_length (p : List UInt8) : p.length + 1 ≤ (txtL p).length ∧ (txtL p).length ≤ p.length + 10 := by
  have := upL_length p.length
  unfold txtL; rw [List.length_append]; omega
theorem mcat_length : ∀ L : List M, sumP L ≤ (mcat L).length ∧ (mcat L).length ≤ sumP L + 20 * L.length
  | [] => by simp [sumP, mcat]
  | m :: L => by
    have h := mcat_length L
    have e : mcat (m :: L) = markL m ++ mcat L := by unfold mcat; rw [List.flatMap_cons]
    have s : sumP (m :: L) = m.p.length + sumP L := by unfold sumP; rw [List.map_cons, List.sum_cons]
    have t := txtL_length m.p
    have u := upL_length m.n
    rw [e, s, List.length_append, List.length_cons]
    unfold markL
    rw [List.length_append]; omega
theorem vecL_length (L : List M) : sumP L ≤ (vecL L).length ∧ (vecL L).length ≤ sumP L + 20 * L.length + 10 := by
  have h := mcat_length L
  have u := upL_length L.length
  unfold vecL; rw [List.length_append]; omega
theorem head_length (m : G) : (headL m).length ≤ m.src.length + m.dst.length + 30 := by
  have u := upL_length m.kind
  have s := txtL_length m.src
  have d := txtL_length m.dst
  unfold headL; rw [List.length_append, List.length_append]; omega
theorem body_length (m : G) : (bodyL m).length ≤ m.src.length + m.dst.length + m.fr.length + m.tx.length + sumP m.all + 20 * m.all.length + 100 := by
  have h := head_length m
  have v := vecL_length m.all
  have u1 := upL_length m.seq
  have u2 := upL_length m.id
  have u3 := upL_length m.i.toNat
  have u4 := upL_length m.n.toNat
  have t1 := txtL_length m.tx
  have t2 := txtL_length m.fr
  unfold bodyL
  split
  · simp only [List.length_append]; omega
  split
  · simp only [List.length_append]; omega
  split
  · simp only [List.length_append]; omega
  split
  · simp only [List.length_append]; omega
  · omega
theorem fits_sum {m : G} (h : fitsB m = true) : sumP m.all ≤ (bodyL m).length := by
  have v := vecL_length m.all
  unfold fitsB shapeB at h
  simp only [Bool.and_eq_true] at h
  obtain ⟨_, _, _, _, h⟩ := h
  have z : decide (m.all.length = 0) = true → sumP m.all = 0 := fun e => by
    have : m.all = [] := List.length_eq_zero_iff.1 (of_decide_eq_true e)
    rw [this]; rfl
  unfold bodyL
  split
  · simp only [List.length_append]; omega
  split
  · rename_i h1 h2
    rw [if_neg h1, if_pos h2] at h
    simp only [Bool.and_eq_true] at h
    rw [z h.2.1]; omega
  split
  · rename_i h1 h2 h3
    rw [if_neg h1, if_neg h2, if_pos h3] at h
    simp only [Bool.and_eq_true] at h
    rw [z h.2.1]; omega
  split
  · simp only [List.length_append]; omega
  · rename_i h1 h2 h3 h4
    rw [if_neg h1, if_neg h2, if_neg h3, if_neg h4] at h; cases h
theorem fits_nat {m : G} (h : fitsB m = true) : 0 ≤ m.i ∧ 0 ≤ m.n := by
  unfold fitsB shapeB at h
  simp only [Bool.and_eq_true] at h
  obtain ⟨_, _, _, _, h⟩ := h
  have z : noPart m.id m.i m.n m.tx = true → 0 ≤ m.i ∧ 0 ≤ m.n := fun e => by
    unfold noPart at e
    have := of_decide_eq_true e
    omega
  split at h
  · simp only [Bool.and_eq_true, mayPartB, decide_eq_true_eq] at h; omega
  split at h
  · simp only [Bool.and_eq_true] at h; exact z h.2.2
  split at h
  · simp only [Bool.and_eq_true] at h; exact z h.2.2
  split at h
  · simp only [Bool.and_eq_true] at h; exact z h.2
  · cases h

set_option maxRecDepth 100000 in
set_option maxHeartbeats 8000000 in
theorem bytes_any (k : Nat) (src dst fr : List UInt8) (seq : Nat) (all : List M) (id : Nat) (i n : Int) (tx : List UInt8) (a : Option Addr) (c : Nat) (w : World) (hm : (G.mk k src dst fr seq all id i n tx).Mod) (hL : Lies w a all.length all) :
    Calls Tryd.prog 24 #[.agg #[.int .u8 (k : Int), .string ⟨src.toArray⟩, .string ⟨dst.toArray⟩, .string ⟨fr.toArray⟩, .int .u64 (seq : Int), .slice a all.length c, .int .u64 (id : Int), .int .i64 i, .int .i64 n, .string ⟨tx.toArray⟩]] w fun e w' => e = .returned (.tuple #[.string ⟨(bytesR ⟨k, src, dst, fr, seq, all, id, i, n, tx⟩).toArray⟩, .bool (mayM ⟨k, src, dst, fr, seq, all, id, i, n, tx⟩)]) ∧ Below w.heap.size w w' := by
  have hb := Below.refl w.heap.size w
  have lA := Lib.hid hL
  have hM := Lib.hid hm
  have bx : Hid (Box (w.alloc (.cells #[.int .u8 (k : Int), .string ⟨src.toArray⟩, .string ⟨dst.toArray⟩, .string ⟨fr.toArray⟩, .int .u64 (seq : Int), .slice a all.length c, .int .u64 (id : Int), .int .i64 i, .int .i64 n, .string ⟨tx.toArray⟩] 27)) w.heap.size #[.int .u8 (k : Int), .string ⟨src.toArray⟩, .string ⟨dst.toArray⟩, .string ⟨fr.toArray⟩, .int .u64 (seq : Int), .slice a all.length c, .int .u64 (id : Int), .int .i64 i, .int .i64 n, .string ⟨tx.toArray⟩]) := Lib.hid (Box.new w _ _)
  clear hL hm
  cases h0 : fitsB ⟨k, src, dst, fr, seq, all, id, i, n, tx⟩
  · have HV : Hid (mayM ⟨k, src, dst, fr, seq, all, id, i, n, tx⟩ = false) := Lib.hid (by unfold mayM; rw [h0]; rfl)
    have HW : Hid (bytesR ⟨k, src, dst, fr, seq, all, id, i, n, tx⟩ = []) := Lib.hid (by unfold bytesR; rw [HV.out]; rfl)
    go_enter Tryd.func24, Tryd.ntmps24
    go_wp2_with fail
    replace lA := Lib.hid ((lA.out).below (balloc (Below.refl _ _) (.cells #[.int .u8 (k : Int), .string ⟨src.toArray⟩, .string ⟨dst.toArray⟩, .string ⟨fr.toArray⟩, .int .u64 (seq : Int), .slice a all.length c, .int .u64 (id : Int), .int .i64 i, .int .i64 n, .string ⟨tx.toArray⟩] 27)))
    replace hb := bstep hb (balloc (Below.refl _ _) (.cells #[.int .u8 (k : Int), .string ⟨src.toArray⟩, .string ⟨dst.toArray⟩, .string ⟨fr.toArray⟩, .int .u64 (seq : Int), .slice a all.length c, .int .u64 (id : Int), .int .i64 i, .int .i64 n, .string ⟨tx.toArray⟩] 27))
    have x0 := bx.out 0 _ rfl
    have x1 := bx.out 1 _ rfl
    have x2 := bx.out 2 _ rfl
    have x3 := bx.out 3 _ rfl
    have x4 := bx.out 4 _ rfl
    have x5 := bx.out 5 _ rfl
    have x6 := bx.out 6 _ rfl
    have x7 := bx.out 7 _ rfl
    have x8 := bx.out 8 _ rfl
    have x9 := bx.out 9 _ rfl
    go_wp2_with fail
    have C0 := fits_any k src dst fr seq all id i n tx a c _ hM.out.ok lA.out
    rw [h0] at C0
    refine C0.mono ?_
    rintro e v1 ⟨rfl, k1⟩
    replace lA := Lib.hid ((lA.out).below k1)
    replace bx := Lib.hid ((bx.out).below k1)
    replace hb := bstep hb k1
    go_wp2
    go_ret2
    exact ⟨by rw [HV.out, HW.out]; rfl, hb⟩
  have hs := Lib.hid (fits_sum h0)
  have hln := hM.out.len
  simp only at hln
  go_enter Tryd.func24, Tryd.ntmps24
  go_wp2_with fail
  replace lA := Lib.hid ((lA.out).below (balloc (Below.refl _ _) (.cells #[.int .u8 (k : Int), .string ⟨src.toArray⟩, .string ⟨dst.toArray⟩, .string ⟨fr.toArray⟩, .int .u64 (seq : Int), .slice a all.length c, .int .u64 (id : Int), .int .i64 i, .int .i64 n, .string ⟨tx.toArray⟩] 27)))
  replace hb := bstep hb (balloc (Below.refl _ _) (.cells #[.int .u8 (k : Int), .string ⟨src.toArray⟩, .string ⟨dst.toArray⟩, .string ⟨fr.toArray⟩, .int .u64 (seq : Int), .slice a all.length c, .int .u64 (id : Int), .int .i64 i, .int .i64 n, .string ⟨tx.toArray⟩] 27))
  have x0 := bx.out 0 _ rfl
  have x1 := bx.out 1 _ rfl
  have x2 := bx.out 2 _ rfl
  have x3 := bx.out 3 _ rfl
  have x4 := bx.out 4 _ rfl
  have x5 := bx.out 5 _ rfl
  have x6 := bx.out 6 _ rfl
  have x7 := bx.out 7 _ rfl
  have x8 := bx.out 8 _ rfl
  have x9 := bx.out 9 _ rfl
  go_wp2_with fail
  have C0 := fits_any k src dst fr seq all id i n tx a c _ hM.out.ok lA.out
  rw [h0] at C0
  refine C0.mono ?_
  rintro e v1 ⟨rfl, k1⟩
  replace lA := Lib.hid ((lA.out).below k1)
  replace bx := Lib.hid ((bx.out).below k1)
  replace hb := bstep hb k1
  clear C0 k1 x0 x1 x2 x3 x4 x5 x6 x7 x8 x9
  have x0 := bx.out 0 _ rfl
  have x1 := bx.out 1 _ rfl
  have x2 := bx.out 2 _ rfl
  have x3 := bx.out 3 _ rfl
  have x4 := bx.out 4 _ rfl
  have x5 := bx.out 5 _ rfl
  have x6 := bx.out 6 _ rfl
  have x7 := bx.out 7 _ rfl
  have x8 := bx.out 8 _ rfl
  have x9 := bx.out 9 _ rfl
  go_wp2_with fail
  go_loopw [4, 14] (fun rv iv wr => ∃ q : Nat, q ≤ all.length ∧ iv = .int .i64 q ∧ rv = .int .i64 (16384 - (sumP (all.take q) : Int)) ∧ sumP (all.take q) ≤ 16384 ∧ Below w.heap.size w wr ∧ Lies wr a all.length all ∧ Box wr w.heap.size #[.int .u8 (k : Int), .string ⟨src.toArray⟩, .string ⟨dst.toArray⟩, .string ⟨fr.toArray⟩, .int .u64 (seq : Int), .slice a all.length c, .int .u64 (id : Int), .int .i64 i, .int .i64 n, .string ⟨tx.toArray⟩]) (fun _ iv _ => all.length - (intOf iv).toNat)
  case atStart => exact ⟨0, by omega, rfl, by simp [sumP], by simp [sumP], hb, lA.out, bx.out⟩
  case round =>
    clear hb lA bx x0 x1 x2 x3 x4 x5 x6 x7 x8 x9
    obtain ⟨q, hq, rfl, rfl, hsq, hb, hlA, hbx⟩ := hrel
    have lA := Lib.hid hlA
    have bx := Lib.hid hbx
    by_cases hlt : q < all.length
    · obtain ⟨b, off, rfl, hcell⟩ := hlA.2 (by omega)
      obtain ⟨c1, c2⟩ := hcell q (by omega)
      have hst := sumP_take all q hlt
      have hle := sumP_le all (q + 1)
      obtain ⟨m, hm⟩ : ∃ m, m = all[q] := ⟨_, rfl⟩
      rw [← hm] at c1 c2 hst
      obtain ⟨p, x⟩ := m
      simp only at c1 c2 hst
      have hpl := Str.size_mk p
      obtain ⟨s, hs0⟩ : ∃ s, s = sumP (all.take q) := ⟨_, rfl⟩
      rw [← hs0] at hst hsq ⊢
      have j1 : (0 : Int) ≤ (q : Int) := by omega
      have j2 : (q : Int) < (all.length : Int) := by omega
      have hpb : p.length ≤ 9223372036854775807 := by
        have := (hM.out.ok.all _ (List.getElem_mem hlt)).2
        rw [← hm] at this; exact this
      clear hcell hm hlA hbx hs0
      by_cases hneg : 16384 < s + p.length
      · have HV : Hid (mayM ⟨k, src, dst, fr, seq, all, id, i, n, tx⟩ = false) := Lib.hid (by
          have := hs.out
          unfold mayM
          rw [decide_eq_false (by (try simp only at this); omega), Bool.and_false])
        have HW : Hid (bytesR ⟨k, src, dst, fr, seq, all, id, i, n, tx⟩ = []) := Lib.hid (by unfold bytesR; rw [HV.out]; rfl)
        have w1 : IntKind.i64.wrap (16384 - (s : Int) - (p.length : Int)) = 16384 - (s : Int) - (p.length : Int) := by rw [IntKind.wrap_i64]; omega
        have d1 : decide (16384 - (s : Int) - (p.length : Int) < 0) = true := decide_eq_true (by omega)
        clear hst hle
        go_wp2
        go_ret2
        exact ⟨by rw [HV.out, HW.out]; rfl, balloc hb _⟩
      · have w1 : IntKind.i64.wrap (16384 - (s : Int) - (p.length : Int)) = 16384 - (s : Int) - (p.length : Int) := by rw [IntKind.wrap_i64]; omega
        have d1 : decide (16384 - (s : Int) - (p.length : Int) < 0) = false := decide_eq_false (by omega)
        have HST := Lib.hid hst
        clear hst hle
        go_wp2
        go_roundw
        case rel => exact ⟨q + 1, by omega, by go_num, by rw [HST.out]; congr 1; omega, by rw [HST.out]; omega, balloc hb _, lA.out.below (balloc (Below.refl _ _) _), bx.out.below (balloc (Below.refl _ _) _)⟩
        case measure => simp [intOf]; omega
    · obtain rfl : q = all.length := by omega
      rw [List.take_length] at hsq ⊢
      have hd : decide ((all.length : Int) < (all.length : Int)) = false := decide_eq_false (by omega)
      clear hlA hbx
      obtain ⟨n1, n2⟩ := fits_nat h0
      simp only at n1 n2
      obtain ⟨i, rfl⟩ := Int.eq_ofNat_of_zero_le n1
      obtain ⟨n, rfl⟩ := Int.eq_ofNat_of_zero_le n2
      have hbl := body_length ⟨k, src, dst, fr, seq, all, id, i, n, tx⟩
      simp only at hbl
      have htx := hM.out.tx
      simp only at htx
      have B0 := Lib.hid (fun W h => body_any k src dst fr seq all id i n tx a c W hM.out.ok h (by omega) (by omega))
      obtain ⟨T, hT⟩ : ∃ T, T = bodyL ⟨k, src, dst, fr, seq, all, id, i, n, tx⟩ := ⟨_, rfl⟩
      rw [← hT] at B0 hbl
      obtain ⟨S0, hS0⟩ : ∃ s, s = sumP all := ⟨_, rfl⟩
      rw [← hS0] at hsq hbl ⊢
      have hsT := Str.size_mk T
      have Z := Lib.hid (fun W => Frame.size_any T W (by omega))
      have x0 := bx.out 0 _ rfl
      have x1 := bx.out 1 _ rfl
      have x2 := bx.out 2 _ rfl
      have x3 := bx.out 3 _ rfl
      have x4 := bx.out 4 _ rfl
      have x5 := bx.out 5 _ rfl
      have x6 := bx.out 6 _ rfl
      have x7 := bx.out 7 _ rfl
      have x8 := bx.out 8 _ rfl
      have x9 := bx.out 9 _ rfl
      go_wp2_with fail
      refine (B0.out _ lA.out).mono ?_
      rintro e v2 ⟨rfl, k2⟩
      replace hb := bstep hb k2
      by_cases hbig : 16384 < 8 + T.length
      · have HV : Hid (mayM ⟨k, src, dst, fr, seq, all, id, i, n, tx⟩ = false) := Lib.hid (by unfold mayM; rw [← hT, decide_eq_false (by omega), Bool.and_false])
        have HW : Hid (bytesR ⟨k, src, dst, fr, seq, all, id, i, n, tx⟩ = []) := Lib.hid (by unfold bytesR; rw [HV.out]; rfl)
        have d1 : decide (((8 + T.length : Nat) : Int) > 16384) = true := decide_eq_true (by omega)
        have d2 : decide ((16384 : Int) < ((8 + T.length : Nat) : Int)) = true := decide_eq_true (by omega)
        obtain ⟨N8, hN8⟩ : ∃ n, n = 8 + T.length := ⟨_, rfl⟩
        rw [← hN8] at d1 d2 Z
        clear hT hN8
        go_wp2_with fail
        refine (Z.out _).mono ?_
        rintro e w9 ⟨rfl, rfl⟩
        go_wp2
        go_ret2
        exact ⟨by rw [HV.out, HW.out]; rfl, hb⟩
      · have HV : Hid (mayM ⟨k, src, dst, fr, seq, all, id, i, n, tx⟩ = true) := Lib.hid (by unfold mayM; rw [← hT, decide_eq_true (by omega), Bool.and_true]; exact h0)
        have HW : Hid (bytesR ⟨k, src, dst, fr, seq, all, id, i, n, tx⟩ = T) := Lib.hid (by unfold bytesR; rw [HV.out, hT]; rfl)
        have d1 : decide (((8 + T.length : Nat) : Int) > 16384) = false := decide_eq_false (by omega)
        have d2 : decide ((16384 : Int) < ((8 + T.length : Nat) : Int)) = false := decide_eq_false (by omega)
        obtain ⟨N8, hN8⟩ : ∃ n, n = 8 + T.length := ⟨_, rfl⟩
        rw [← hN8] at d1 d2 Z
        clear hT hN8
        go_wp2_with fail
        refine (Z.out _).mono ?_
        rintro e w9 ⟨rfl, rfl⟩
        go_wp2
        go_ret2
        exact ⟨by rw [HV.out, HW.out]; rfl, hb⟩
set_option maxRecDepth 100000 in
theorem may_any (k : Nat) (src dst fr : List UInt8) (seq : Nat) (all : List M) (id : Nat) (i n : Int) (tx : List UInt8) (a : Option Addr) (c : Nat) (w : World) (hm : (G.mk k src dst fr seq all id i n tx).Mod) (hL : Lies w a all.length all) :
    Calls Tryd.prog 14 #[.agg #[.int .u8 (k : Int), .string ⟨src.toArray⟩, .string ⟨dst.toArray⟩, .string ⟨fr.toArray⟩, .int .u64 (seq : Int), .slice a all.length c, .int .u64 (id : Int), .int .i64 i, .int .i64 n, .string ⟨tx.toArray⟩]] w fun e w' => e = .returned (.bool (mayM ⟨k, src, dst, fr, seq, all, id, i, n, tx⟩)) ∧ Below w.heap.size w w' := by
  have hb := Below.refl w.heap.size w
  have lA := Lib.hid hL
  have C0 := Lib.hid (fun W h => bytes_any k src dst fr seq all id i n tx a c W hm h)
  have bx : Hid (Box (w.alloc (.cells #[.int .u8 (k : Int), .string ⟨src.toArray⟩, .string ⟨dst.toArray⟩, .string ⟨fr.toArray⟩, .int .u64 (seq : Int), .slice a all.length c, .int .u64 (id : Int), .int .i64 i, .int .i64 n, .string ⟨tx.toArray⟩] 27)) w.heap.size #[.int .u8 (k : Int), .string ⟨src.toArray⟩, .string ⟨dst.toArray⟩, .string ⟨fr.toArray⟩, .int .u64 (seq : Int), .slice a all.length c, .int .u64 (id : Int), .int .i64 i, .int .i64 n, .string ⟨tx.toArray⟩]) := Lib.hid (Box.new w _ _)
  clear hL hm
  obtain ⟨r, hr⟩ : ∃ r, mayM ⟨k, src, dst, fr, seq, all, id, i, n, tx⟩ = r := ⟨_, rfl⟩
  obtain ⟨t, htt⟩ : ∃ r, bytesR ⟨k, src, dst, fr, seq, all, id, i, n, tx⟩ = r := ⟨_, rfl⟩
  rw [hr, htt] at C0
  rw [hr]
  clear hr htt
  go_enter Tryd.func14, Tryd.ntmps14
  go_wp2_with fail
  replace lA := Lib.hid ((lA.out).below (balloc (Below.refl _ _) (.cells #[.int .u8 (k : Int), .string ⟨src.toArray⟩, .string ⟨dst.toArray⟩, .string ⟨fr.toArray⟩, .int .u64 (seq : Int), .slice a all.length c, .int .u64 (id : Int), .int .i64 i, .int .i64 n, .string ⟨tx.toArray⟩] 27)))
  replace hb := bstep hb (balloc (Below.refl _ _) (.cells #[.int .u8 (k : Int), .string ⟨src.toArray⟩, .string ⟨dst.toArray⟩, .string ⟨fr.toArray⟩, .int .u64 (seq : Int), .slice a all.length c, .int .u64 (id : Int), .int .i64 i, .int .i64 n, .string ⟨tx.toArray⟩] 27))
  have x0 := bx.out 0 _ rfl
  have x1 := bx.out 1 _ rfl
  have x2 := bx.out 2 _ rfl
  have x3 := bx.out 3 _ rfl
  have x4 := bx.out 4 _ rfl
  have x5 := bx.out 5 _ rfl
  have x6 := bx.out 6 _ rfl
  have x7 := bx.out 7 _ rfl
  have x8 := bx.out 8 _ rfl
  have x9 := bx.out 9 _ rfl
  go_wp2_with fail
  refine (C0.out _ lA.out).mono ?_
  rintro e v1 ⟨rfl, k1⟩
  replace lA := Lib.hid ((lA.out).below k1)
  replace hb := bstep hb k1
  go_wp2
  go_ret
  exact ⟨rfl, hb⟩
set_option maxRecDepth 100000 in
set_option maxHeartbeats 1000000 in
theorem encode_any (k : Nat) (src dst fr : List UInt8) (seq : Nat) (all : List M) (id : Nat) (i n : Int) (tx : List UInt8) (a : Option Addr) (c : Nat) (w : World) (hm : (G.mk k src dst fr seq all id i n tx).Mod) (hL : Lies w a all.length all) (ht : Crc.Tab w) :
    Calls Tryd.prog 11 #[.agg #[.int .u8 (k : Int), .string ⟨src.toArray⟩, .string ⟨dst.toArray⟩, .string ⟨fr.toArray⟩, .int .u64 (seq : Int), .slice a all.length c, .int .u64 (id : Int), .int .i64 i, .int .i64 n, .string ⟨tx.toArray⟩]] w fun e w' => e = .returned (.tuple #[.string ⟨(encR ⟨k, src, dst, fr, seq, all, id, i, n, tx⟩).1.toArray⟩, .int .i64 (encR ⟨k, src, dst, fr, seq, all, id, i, n, tx⟩).2]) ∧ Below w.heap.size w w' := by
  have hb := Below.refl w.heap.size w
  have lA := Lib.hid hL
  have hTab := Lib.hid ht
  have C0 := Lib.hid (fun W h => bytes_any k src dst fr seq all id i n tx a c W hm h)
  have bx : Hid (Box (w.alloc (.cells #[.int .u8 (k : Int), .string ⟨src.toArray⟩, .string ⟨dst.toArray⟩, .string ⟨fr.toArray⟩, .int .u64 (seq : Int), .slice a all.length c, .int .u64 (id : Int), .int .i64 i, .int .i64 n, .string ⟨tx.toArray⟩] 27)) w.heap.size #[.int .u8 (k : Int), .string ⟨src.toArray⟩, .string ⟨dst.toArray⟩, .string ⟨fr.toArray⟩, .int .u64 (seq : Int), .slice a all.length c, .int .u64 (id : Int), .int .i64 i, .int .i64 n, .string ⟨tx.toArray⟩]) := Lib.hid (Box.new w _ _)
  clear hL hm ht
  cases hr : mayM ⟨k, src, dst, fr, seq, all, id, i, n, tx⟩
  · have HV : Hid (encR ⟨k, src, dst, fr, seq, all, id, i, n, tx⟩ = ([], 2)) := Lib.hid (by unfold encR; rw [hr]; rfl)
    obtain ⟨t, htt⟩ : ∃ r, bytesR ⟨k, src, dst, fr, seq, all, id, i, n, tx⟩ = r := ⟨_, rfl⟩
    rw [hr, htt] at C0
    clear hr htt
    go_enter Tryd.func11, Tryd.ntmps11
    go_wp2_with fail
    replace lA := Lib.hid ((lA.out).below (balloc (Below.refl _ _) (.cells #[.int .u8 (k : Int), .string ⟨src.toArray⟩, .string ⟨dst.toArray⟩, .string ⟨fr.toArray⟩, .int .u64 (seq : Int), .slice a all.length c, .int .u64 (id : Int), .int .i64 i, .int .i64 n, .string ⟨tx.toArray⟩] 27)))
    replace hTab := Lib.hid ((hTab.out).below (balloc (Below.refl _ _) (.cells #[.int .u8 (k : Int), .string ⟨src.toArray⟩, .string ⟨dst.toArray⟩, .string ⟨fr.toArray⟩, .int .u64 (seq : Int), .slice a all.length c, .int .u64 (id : Int), .int .i64 i, .int .i64 n, .string ⟨tx.toArray⟩] 27)))
    replace hb := bstep hb (balloc (Below.refl _ _) (.cells #[.int .u8 (k : Int), .string ⟨src.toArray⟩, .string ⟨dst.toArray⟩, .string ⟨fr.toArray⟩, .int .u64 (seq : Int), .slice a all.length c, .int .u64 (id : Int), .int .i64 i, .int .i64 n, .string ⟨tx.toArray⟩] 27))
    have x0 := bx.out 0 _ rfl
    have x1 := bx.out 1 _ rfl
    have x2 := bx.out 2 _ rfl
    have x3 := bx.out 3 _ rfl
    have x4 := bx.out 4 _ rfl
    have x5 := bx.out 5 _ rfl
    have x6 := bx.out 6 _ rfl
    have x7 := bx.out 7 _ rfl
    have x8 := bx.out 8 _ rfl
    have x9 := bx.out 9 _ rfl
    go_wp2_with fail
    refine (C0.out _ lA.out).mono ?_
    rintro e v1 ⟨rfl, k1⟩
    replace lA := Lib.hid ((lA.out).below k1)
    replace hTab := Lib.hid ((hTab.out).below k1)
    replace hb := bstep hb k1
    go_wp2
    go_ret2
    exact ⟨by rw [HV.out]; rfl, hb⟩
  · obtain ⟨T, hT⟩ : ∃ r, bodyL ⟨k, src, dst, fr, seq, all, id, i, n, tx⟩ = r := ⟨_, rfl⟩
    have hTl : T.length ≤ 16376 := by
      rw [← hT]
      have : decide (8 + (bodyL ⟨k, src, dst, fr, seq, all, id, i, n, tx⟩).length ≤ 16384) = true := by unfold mayM at hr; exact (Bool.and_eq_true _ _ ▸ hr : _ ∧ _).2
      have := of_decide_eq_true this
      omega
    have HV : Hid (encR ⟨k, src, dst, fr, seq, all, id, i, n, tx⟩ = (Frame.putL T, 0)) := Lib.hid (by unfold encR; rw [hr, hT]; rfl)
    have htt : bytesR ⟨k, src, dst, fr, seq, all, id, i, n, tx⟩ = T := by unfold bytesR; rw [hr, hT]; rfl
    rw [hr, htt] at C0
    have D0 := Lib.hid (fun W h => Frame.put_any T W (by omega) h)
    have hpr : Frame.putR T = (Frame.putL T, 0) := by unfold Frame.putR; rw [if_neg (by omega)]
    rw [hpr] at D0
    obtain ⟨U, hU⟩ : ∃ U, U = Frame.putL T := ⟨_, rfl⟩
    rw [← hU] at D0 HV
    clear hr htt hT hpr hU
    go_enter Tryd.func11, Tryd.ntmps11
    go_wp2_with fail
    replace lA := Lib.hid ((lA.out).below (balloc (Below.refl _ _) (.cells #[.int .u8 (k : Int), .string ⟨src.toArray⟩, .string ⟨dst.toArray⟩, .string ⟨fr.toArray⟩, .int .u64 (seq : Int), .slice a all.length c, .int .u64 (id : Int), .int .i64 i, .int .i64 n, .string ⟨tx.toArray⟩] 27)))
    replace hTab := Lib.hid ((hTab.out).below (balloc (Below.refl _ _) (.cells #[.int .u8 (k : Int), .string ⟨src.toArray⟩, .string ⟨dst.toArray⟩, .string ⟨fr.toArray⟩, .int .u64 (seq : Int), .slice a all.length c, .int .u64 (id : Int), .int .i64 i, .int .i64 n, .string ⟨tx.toArray⟩] 27)))
    replace hb := bstep hb (balloc (Below.refl _ _) (.cells #[.int .u8 (k : Int), .string ⟨src.toArray⟩, .string ⟨dst.toArray⟩, .string ⟨fr.toArray⟩, .int .u64 (seq : Int), .slice a all.length c, .int .u64 (id : Int), .int .i64 i, .int .i64 n, .string ⟨tx.toArray⟩] 27))
    have x0 := bx.out 0 _ rfl
    have x1 := bx.out 1 _ rfl
    have x2 := bx.out 2 _ rfl
    have x3 := bx.out 3 _ rfl
    have x4 := bx.out 4 _ rfl
    have x5 := bx.out 5 _ rfl
    have x6 := bx.out 6 _ rfl
    have x7 := bx.out 7 _ rfl
    have x8 := bx.out 8 _ rfl
    have x9 := bx.out 9 _ rfl
    go_wp2_with fail
    refine (C0.out _ lA.out).mono ?_
    rintro e v1 ⟨rfl, k1⟩
    replace lA := Lib.hid ((lA.out).below k1)
    replace hTab := Lib.hid ((hTab.out).below k1)
    replace hb := bstep hb k1
    go_wp2_with fail
    refine (D0.out _ hTab.out).mono ?_
    rintro e v2 ⟨rfl, k2⟩
    replace lA := Lib.hid ((lA.out).below k2)
    replace hTab := Lib.hid ((hTab.out).below k2)
    replace hb := bstep hb k2
    go_wp2
    go_ret2
    exact ⟨by rw [HV.out]; rfl, hb⟩

end Msg
end Go.Proofs.YtcfimfoccbaepaaDoor
