/- MsgApart: the walk. -/
import Derived.Test.YtcfimfoccbaepaaDoorMsgApartPlain
import Derived.Deep.DeepCutAuto
import Derived.Laws.BitsAllLaws
import Derived.Laws.IdiomStrings
namespace Go.Proofs.YtcfimfoccbaepaaDoor
namespace MsgApart
open Go.RowKit Go.Proofs.YtcfimfoccbaepaaDoor.Mark Go.Proofs.YtcfimfoccbaepaaDoor.Num Go.Proofs.YtcfimfoccbaepaaDoor.Wire Go.Proofs.YtcfimfoccbaepaaDoor.Msg

/-- Bytes that lie from a block's first cell on, and may be written. -/
def Bytes (W : World) (B : Nat) (X : List UInt8) : Prop := ∀ j (hj : j < X.length), W.cell? ⟨B, j, none⟩ = some (.int .u8 ((X[j]).toNat : Int)) ∧ W.frozen? ⟨B, j, none⟩ = false
theorem Bytes.set {W : World} {B : Nat} {X : List UInt8} (h : Bytes W B X) (j : Nat) (hj : j < X.length) (b : UInt8) : Bytes (W.setCell ⟨B, j, none⟩ (.int .u8 (b.toNat : Int))) B (X.set j b) := by
  intro q hq
  rw [List.length_set] at hq
  refine ⟨?_, by rw [World.frozen?_setCell]; exact (h q hq).2⟩
  by_cases e : j = q
  · subst e
    rw [List.getElem_set_self]
    exact World.cell?_setCell_same _ _ _ (h j hj).1
  · rw [List.getElem_set_ne e]
    rw [World.cell?_setCell_other _ _ _ _ (by intro h; cases h; exact e rfl)]
    exact (h q hq).1
/-- '[]byte(s)' has been made. -/
theorem bytes_new (v : World) (s : List UInt8) (cap : Nat) (e : TypeId) (n m : Nat) (hn : s.length ≤ n) :
    Bytes (v.drew.alloc (.cells (bytesRow ⟨s.toArray⟩ cap) e (n, m))) v.heap.size s := by
  intro j hj
  have hh : (v.drew.alloc (.cells (bytesRow ⟨s.toArray⟩ cap) e (n, m))).heap[v.heap.size]? = some (.cells (bytesRow ⟨s.toArray⟩ cap) e (n, m)) := heap_at1 v.drew _
  refine ⟨?_, ?_⟩
  · rw [Lib.cell_of_heap hh]
    unfold bytesRow
    rw [Array.getElem?_append_left (by simpa using hj)]
    simp [hj]
  · unfold World.frozen?
    simp only [hh]
    simp
    omega
def Made (q : Value) (wx v : World) (X : List UInt8) : Prop := ∃ cap, q = .slice (some ⟨v.heap.size, 0, none⟩) X.length cap ∧ Bytes wx v.heap.size X ∧ Below v.heap.size v wx
theorem getX (t t' : List UInt8) (j : Nat) (h : 8 + j < (headF t ++ t').length) : (headF t ++ t')[8 + j] = t'.getD j 0 := by
  have h2 : j < t'.length := by rw [List.length_append, headF_length] at h; omega
  rw [List.getElem_append_right (by rw [headF_length]; omega)]
  simp only [headF_length, Nat.add_sub_cancel_left]
  simp [List.getD_eq_getElem?_getD, h2]
theorem set_head (t t' : List UInt8) (j : Nat) (b : UInt8) : (headF t ++ t').set (8 + j) b = headF t ++ t'.set j b := by
  rw [List.set_append_right _ _ (by rw [headF_length]; omega)]
  simp only [headF_length, Nat.add_sub_cancel_left]
theorem xorB (y : UInt8) (q : Nat) (hq : q < 8) : bits .xor .u8 (y.toNat : Int) (2 ^ q % 256) = ((Crc.flipB y q).toNat : Int) := by
  have h2 : 2 ^ q < 256 := Nat.lt_of_lt_of_le (Nat.pow_lt_pow_right (by decide) hq) (by decide)
  have e : (2 : Int) ^ q % 256 = ((2 ^ q : Nat) : Int) := by
    rw [show (2 : Int) ^ q = ((2 ^ q : Nat) : Int) by simp]
    exact Int.emod_eq_of_lt (Int.natCast_nonneg _) (Int.ofNat_lt.2 h2)
  rw [e, u8_xor_nat _ _ y.toNat_lt h2]
  unfold Crc.flipB
  rw [UInt8.toNat_xor, UInt8.toNat_ofNat', Nat.mod_eq_of_lt h2]
theorem body_pos (m : G) : 0 < (bodyL m).length := by
  have h := head_le m
  have : 0 < (headL m).length := by unfold headL; rw [List.length_append]; have := upL_length m.kind; omega
  omega

set_option maxRecDepth 100000 in
set_option maxHeartbeats 16000000 in
theorem walk (m : G) (a : Option Addr) (c : Nat) (x : G) (a' : Option Addr) (c' : Nat) (at_ bits_ : Int) (w : World) (hm : m.Was) (hlm : Lies w a m.all.length m.all) (hx : x.Was) (hlx : Lies w a' x.all.length x.all) (w2 : (Lit.int .u32 at_).wf = true) (w3 : (Lit.int .u32 bits_).wf = true) (ht : Crc.Tab w) :
    Calls Tryd.prog 6 #[.agg (m.cells a c), .agg (x.cells a' c'), .int .u32 at_, .int .u32 bits_] w fun e w' => e = .returned (.bool true) ∧ Below w.heap.size w w' := by
  obtain ⟨a0, a1⟩ := bounds_u32 w2
  obtain ⟨at_, rfl⟩ := Int.eq_ofNat_of_zero_le a0
  obtain ⟨b0, b1⟩ := bounds_u32 w3
  obtain ⟨bs, rfl⟩ := Int.eq_ofNat_of_zero_le b0
  clear w2 w3 a0 b0
  show Calls Tryd.prog 6 #[.agg #[.int .u8 (m.kind : Int), .string ⟨m.src.toArray⟩, .string ⟨m.dst.toArray⟩, .string ⟨m.fr.toArray⟩, .int .u64 (m.seq : Int), .slice a m.all.length c, .int .u64 (m.id : Int), .int .i64 m.i, .int .i64 m.n, .string ⟨m.tx.toArray⟩], .agg #[.int .u8 (x.kind : Int), .string ⟨x.src.toArray⟩, .string ⟨x.dst.toArray⟩, .string ⟨x.fr.toArray⟩, .int .u64 (x.seq : Int), .slice a' x.all.length c', .int .u64 (x.id : Int), .int .i64 x.i, .int .i64 x.n, .string ⟨x.tx.toArray⟩], .int .u32 (at_ : Int), .int .u32 (bs : Int)] w fun e w' => e = .returned (.bool true) ∧ Below w.heap.size w w'
  have hb : Below w.heap.size w ((w.alloc (.cells #[.int .u8 (m.kind : Int), .string ⟨m.src.toArray⟩, .string ⟨m.dst.toArray⟩, .string ⟨m.fr.toArray⟩, .int .u64 (m.seq : Int), .slice a m.all.length c, .int .u64 (m.id : Int), .int .i64 m.i, .int .i64 m.n, .string ⟨m.tx.toArray⟩] 27)).alloc (.cells #[.int .u8 (x.kind : Int), .string ⟨x.src.toArray⟩, .string ⟨x.dst.toArray⟩, .string ⟨x.fr.toArray⟩, .int .u64 (x.seq : Int), .slice a' x.all.length c', .int .u64 (x.id : Int), .int .i64 x.i, .int .i64 x.n, .string ⟨x.tx.toArray⟩] 27)) := balloc (balloc (Below.refl w.heap.size w) _) _
  have bm : Hid (Box ((w.alloc (.cells #[.int .u8 (m.kind : Int), .string ⟨m.src.toArray⟩, .string ⟨m.dst.toArray⟩, .string ⟨m.fr.toArray⟩, .int .u64 (m.seq : Int), .slice a m.all.length c, .int .u64 (m.id : Int), .int .i64 m.i, .int .i64 m.n, .string ⟨m.tx.toArray⟩] 27)).alloc (.cells #[.int .u8 (x.kind : Int), .string ⟨x.src.toArray⟩, .string ⟨x.dst.toArray⟩, .string ⟨x.fr.toArray⟩, .int .u64 (x.seq : Int), .slice a' x.all.length c', .int .u64 (x.id : Int), .int .i64 x.i, .int .i64 x.n, .string ⟨x.tx.toArray⟩] 27)) w.heap.size #[.int .u8 (m.kind : Int), .string ⟨m.src.toArray⟩, .string ⟨m.dst.toArray⟩, .string ⟨m.fr.toArray⟩, .int .u64 (m.seq : Int), .slice a m.all.length c, .int .u64 (m.id : Int), .int .i64 m.i, .int .i64 m.n, .string ⟨m.tx.toArray⟩]) := Lib.hid ((Box.new w _ _).below (balloc (Below.refl _ _) _))
  have bx : Hid (Box ((w.alloc (.cells #[.int .u8 (m.kind : Int), .string ⟨m.src.toArray⟩, .string ⟨m.dst.toArray⟩, .string ⟨m.fr.toArray⟩, .int .u64 (m.seq : Int), .slice a m.all.length c, .int .u64 (m.id : Int), .int .i64 m.i, .int .i64 m.n, .string ⟨m.tx.toArray⟩] 27)).alloc (.cells #[.int .u8 (x.kind : Int), .string ⟨x.src.toArray⟩, .string ⟨x.dst.toArray⟩, .string ⟨x.fr.toArray⟩, .int .u64 (x.seq : Int), .slice a' x.all.length c', .int .u64 (x.id : Int), .int .i64 x.i, .int .i64 x.n, .string ⟨x.tx.toArray⟩] 27)) (w.heap.size + 1) #[.int .u8 (x.kind : Int), .string ⟨x.src.toArray⟩, .string ⟨x.dst.toArray⟩, .string ⟨x.fr.toArray⟩, .int .u64 (x.seq : Int), .slice a' x.all.length c', .int .u64 (x.id : Int), .int .i64 x.i, .int .i64 x.n, .string ⟨x.tx.toArray⟩]) := Lib.hid (by have := Box.new (w.alloc (.cells #[.int .u8 (m.kind : Int), .string ⟨m.src.toArray⟩, .string ⟨m.dst.toArray⟩, .string ⟨m.fr.toArray⟩, .int .u64 (m.seq : Int), .slice a m.all.length c, .int .u64 (m.id : Int), .int .i64 m.i, .int .i64 m.n, .string ⟨m.tx.toArray⟩] 27)) #[.int .u8 (x.kind : Int), .string ⟨x.src.toArray⟩, .string ⟨x.dst.toArray⟩, .string ⟨x.fr.toArray⟩, .int .u64 (x.seq : Int), .slice a' x.all.length c', .int .u64 (x.id : Int), .int .i64 x.i, .int .i64 x.n, .string ⟨x.tx.toArray⟩] 27; simpa using this)
  have lm := Lib.hid (hlm.below hb)
  have lx := Lib.hid (hlx.below hb)
  have tab := Lib.hid (ht.below hb)
  have WM := Lib.hid hm
  have WX := Lib.hid hx
  clear hlm hlx ht hm hx
  cases v1 : heavyB m
  rotate_left
  · replace v1 := Lib.hid v1
    go_enter Tryd.func6, Tryd.ntmps6
    have x0 := bm.out 0 (.int .u8 (m.kind : Int)) rfl
    have x1 := bm.out 1 (.string ⟨m.src.toArray⟩) rfl
    have x2 := bm.out 2 (.string ⟨m.dst.toArray⟩) rfl
    have x3 := bm.out 3 (.string ⟨m.fr.toArray⟩) rfl
    have x4 := bm.out 4 (.int .u64 (m.seq : Int)) rfl
    have x5 := bm.out 5 (.slice a m.all.length c) rfl
    have x6 := bm.out 6 (.int .u64 (m.id : Int)) rfl
    have x7 := bm.out 7 (.int .i64 m.i) rfl
    have x8 := bm.out 8 (.int .i64 m.n) rfl
    have x9 := bm.out 9 (.string ⟨m.tx.toArray⟩) rfl
    have y0 := bx.out 0 (.int .u8 (x.kind : Int)) rfl
    have y1 := bx.out 1 (.string ⟨x.src.toArray⟩) rfl
    have y2 := bx.out 2 (.string ⟨x.dst.toArray⟩) rfl
    have y3 := bx.out 3 (.string ⟨x.fr.toArray⟩) rfl
    have y4 := bx.out 4 (.int .u64 (x.seq : Int)) rfl
    have y5 := bx.out 5 (.slice a' x.all.length c') rfl
    have y6 := bx.out 6 (.int .u64 (x.id : Int)) rfl
    have y7 := bx.out 7 (.int .i64 x.i) rfl
    have y8 := bx.out 8 (.int .i64 x.n) rfl
    have y9 := bx.out 9 (.string ⟨x.tx.toArray⟩) rfl
    go_wp2_with fail
    refine (heavy_is true v1.out WM.out _ lm.out).mono ?_
    rintro e v1 ⟨rfl, k1⟩
    replace tab := Lib.hid ((tab.out).below k1)
    replace lm := Lib.hid ((lm.out).below k1)
    replace lx := Lib.hid ((lx.out).below k1)
    replace bm := Lib.hid ((bm.out).below k1)
    replace bx := Lib.hid ((bx.out).below k1)
    replace x0 := (Msg.keepC x0 k1)
    replace x1 := (Msg.keepC x1 k1)
    replace x2 := (Msg.keepC x2 k1)
    replace x3 := (Msg.keepC x3 k1)
    replace x4 := (Msg.keepC x4 k1)
    replace x5 := (Msg.keepC x5 k1)
    replace x6 := (Msg.keepC x6 k1)
    replace x7 := (Msg.keepC x7 k1)
    replace x8 := (Msg.keepC x8 k1)
    replace x9 := (Msg.keepC x9 k1)
    replace y0 := (Msg.keepC y0 k1)
    replace y1 := (Msg.keepC y1 k1)
    replace y2 := (Msg.keepC y2 k1)
    replace y3 := (Msg.keepC y3 k1)
    replace y4 := (Msg.keepC y4 k1)
    replace y5 := (Msg.keepC y5 k1)
    replace y6 := (Msg.keepC y6 k1)
    replace y7 := (Msg.keepC y7 k1)
    replace y8 := (Msg.keepC y8 k1)
    replace y9 := (Msg.keepC y9 k1)
    replace hb := bstep hb k1
    clear k1
    clear x0 x1 x2 x3 x4 x5 x6 x7 x8 x9 y0 y1 y2 y3 y4 y5 y6 y7 y8 y9
    go_wp2_with fail
    refine (works_any _ tab.out).mono ?_
    rintro e v2 ⟨rfl, k2⟩
    replace tab := Lib.hid ((tab.out).below k2)
    replace lm := Lib.hid ((lm.out).below k2)
    replace lx := Lib.hid ((lx.out).below k2)
    replace bm := Lib.hid ((bm.out).below k2)
    replace bx := Lib.hid ((bx.out).below k2)
    replace hb := bstep hb k2
    clear k2
    go_wp2
    go_ret
    exact ⟨rfl, hb⟩
  replace v1 := Lib.hid v1
  cases v2 : heavyB x
  rotate_left
  · replace v2 := Lib.hid v2
    go_enter Tryd.func6, Tryd.ntmps6
    have x0 := bm.out 0 (.int .u8 (m.kind : Int)) rfl
    have x1 := bm.out 1 (.string ⟨m.src.toArray⟩) rfl
    have x2 := bm.out 2 (.string ⟨m.dst.toArray⟩) rfl
    have x3 := bm.out 3 (.string ⟨m.fr.toArray⟩) rfl
    have x4 := bm.out 4 (.int .u64 (m.seq : Int)) rfl
    have x5 := bm.out 5 (.slice a m.all.length c) rfl
    have x6 := bm.out 6 (.int .u64 (m.id : Int)) rfl
    have x7 := bm.out 7 (.int .i64 m.i) rfl
    have x8 := bm.out 8 (.int .i64 m.n) rfl
    have x9 := bm.out 9 (.string ⟨m.tx.toArray⟩) rfl
    have y0 := bx.out 0 (.int .u8 (x.kind : Int)) rfl
    have y1 := bx.out 1 (.string ⟨x.src.toArray⟩) rfl
    have y2 := bx.out 2 (.string ⟨x.dst.toArray⟩) rfl
    have y3 := bx.out 3 (.string ⟨x.fr.toArray⟩) rfl
    have y4 := bx.out 4 (.int .u64 (x.seq : Int)) rfl
    have y5 := bx.out 5 (.slice a' x.all.length c') rfl
    have y6 := bx.out 6 (.int .u64 (x.id : Int)) rfl
    have y7 := bx.out 7 (.int .i64 x.i) rfl
    have y8 := bx.out 8 (.int .i64 x.n) rfl
    have y9 := bx.out 9 (.string ⟨x.tx.toArray⟩) rfl
    go_wp2_with fail
    refine (heavy_is false v1.out WM.out _ lm.out).mono ?_
    rintro e v3 ⟨rfl, k3⟩
    replace tab := Lib.hid ((tab.out).below k3)
    replace lm := Lib.hid ((lm.out).below k3)
    replace lx := Lib.hid ((lx.out).below k3)
    replace bm := Lib.hid ((bm.out).below k3)
    replace bx := Lib.hid ((bx.out).below k3)
    replace x0 := (Msg.keepC x0 k3)
    replace x1 := (Msg.keepC x1 k3)
    replace x2 := (Msg.keepC x2 k3)
    replace x3 := (Msg.keepC x3 k3)
    replace x4 := (Msg.keepC x4 k3)
    replace x5 := (Msg.keepC x5 k3)
    replace x6 := (Msg.keepC x6 k3)
    replace x7 := (Msg.keepC x7 k3)
    replace x8 := (Msg.keepC x8 k3)
    replace x9 := (Msg.keepC x9 k3)
    replace y0 := (Msg.keepC y0 k3)
    replace y1 := (Msg.keepC y1 k3)
    replace y2 := (Msg.keepC y2 k3)
    replace y3 := (Msg.keepC y3 k3)
    replace y4 := (Msg.keepC y4 k3)
    replace y5 := (Msg.keepC y5 k3)
    replace y6 := (Msg.keepC y6 k3)
    replace y7 := (Msg.keepC y7 k3)
    replace y8 := (Msg.keepC y8 k3)
    replace y9 := (Msg.keepC y9 k3)
    replace hb := bstep hb k3
    clear k3
    go_wp2_with fail
    refine (heavy_is true v2.out WX.out _ lx.out).mono ?_
    rintro e v4 ⟨rfl, k4⟩
    replace tab := Lib.hid ((tab.out).below k4)
    replace lm := Lib.hid ((lm.out).below k4)
    replace lx := Lib.hid ((lx.out).below k4)
    replace bm := Lib.hid ((bm.out).below k4)
    replace bx := Lib.hid ((bx.out).below k4)
    replace x0 := (Msg.keepC x0 k4)
    replace x1 := (Msg.keepC x1 k4)
    replace x2 := (Msg.keepC x2 k4)
    replace x3 := (Msg.keepC x3 k4)
    replace x4 := (Msg.keepC x4 k4)
    replace x5 := (Msg.keepC x5 k4)
    replace x6 := (Msg.keepC x6 k4)
    replace x7 := (Msg.keepC x7 k4)
    replace x8 := (Msg.keepC x8 k4)
    replace x9 := (Msg.keepC x9 k4)
    replace y0 := (Msg.keepC y0 k4)
    replace y1 := (Msg.keepC y1 k4)
    replace y2 := (Msg.keepC y2 k4)
    replace y3 := (Msg.keepC y3 k4)
    replace y4 := (Msg.keepC y4 k4)
    replace y5 := (Msg.keepC y5 k4)
    replace y6 := (Msg.keepC y6 k4)
    replace y7 := (Msg.keepC y7 k4)
    replace y8 := (Msg.keepC y8 k4)
    replace y9 := (Msg.keepC y9 k4)
    replace hb := bstep hb k4
    clear k4
    clear x0 x1 x2 x3 x4 x5 x6 x7 x8 x9 y0 y1 y2 y3 y4 y5 y6 y7 y8 y9
    go_wp2_with fail
    refine (works_any _ tab.out).mono ?_
    rintro e v5 ⟨rfl, k5⟩
    replace tab := Lib.hid ((tab.out).below k5)
    replace lm := Lib.hid ((lm.out).below k5)
    replace lx := Lib.hid ((lx.out).below k5)
    replace bm := Lib.hid ((bm.out).below k5)
    replace bx := Lib.hid ((bx.out).below k5)
    replace hb := bstep hb k5
    clear k5
    go_wp2
    go_ret
    exact ⟨rfl, hb⟩
  replace v2 := Lib.hid v2
  have MM := Lib.hid (WM.out.mod v1.out)
  have MX := Lib.hid (WX.out.mod v2.out)
  obtain ⟨T, i, hE⟩ : ∃ T i, encR m = (T, i) := ⟨_, _, rfl⟩
  obtain ⟨U, i2, hF⟩ : ∃ U i, encR x = (U, i) := ⟨_, _, rfl⟩
  replace hE := Lib.hid hE
  replace hF := Lib.hid hF
  cases e1 : (i == 0)
  · have n1 : (i != 0) = true := by rw [bne, e1]; rfl
    go_enter Tryd.func6, Tryd.ntmps6
    have x0 := bm.out 0 (.int .u8 (m.kind : Int)) rfl
    have x1 := bm.out 1 (.string ⟨m.src.toArray⟩) rfl
    have x2 := bm.out 2 (.string ⟨m.dst.toArray⟩) rfl
    have x3 := bm.out 3 (.string ⟨m.fr.toArray⟩) rfl
    have x4 := bm.out 4 (.int .u64 (m.seq : Int)) rfl
    have x5 := bm.out 5 (.slice a m.all.length c) rfl
    have x6 := bm.out 6 (.int .u64 (m.id : Int)) rfl
    have x7 := bm.out 7 (.int .i64 m.i) rfl
    have x8 := bm.out 8 (.int .i64 m.n) rfl
    have x9 := bm.out 9 (.string ⟨m.tx.toArray⟩) rfl
    have y0 := bx.out 0 (.int .u8 (x.kind : Int)) rfl
    have y1 := bx.out 1 (.string ⟨x.src.toArray⟩) rfl
    have y2 := bx.out 2 (.string ⟨x.dst.toArray⟩) rfl
    have y3 := bx.out 3 (.string ⟨x.fr.toArray⟩) rfl
    have y4 := bx.out 4 (.int .u64 (x.seq : Int)) rfl
    have y5 := bx.out 5 (.slice a' x.all.length c') rfl
    have y6 := bx.out 6 (.int .u64 (x.id : Int)) rfl
    have y7 := bx.out 7 (.int .i64 x.i) rfl
    have y8 := bx.out 8 (.int .i64 x.n) rfl
    have y9 := bx.out 9 (.string ⟨x.tx.toArray⟩) rfl
    go_wp2_with fail
    refine (heavy_is false v1.out WM.out _ lm.out).mono ?_
    rintro e v6 ⟨rfl, k6⟩
    replace tab := Lib.hid ((tab.out).below k6)
    replace lm := Lib.hid ((lm.out).below k6)
    replace lx := Lib.hid ((lx.out).below k6)
    replace bm := Lib.hid ((bm.out).below k6)
    replace bx := Lib.hid ((bx.out).below k6)
    replace x0 := (Msg.keepC x0 k6)
    replace x1 := (Msg.keepC x1 k6)
    replace x2 := (Msg.keepC x2 k6)
    replace x3 := (Msg.keepC x3 k6)
    replace x4 := (Msg.keepC x4 k6)
    replace x5 := (Msg.keepC x5 k6)
    replace x6 := (Msg.keepC x6 k6)
    replace x7 := (Msg.keepC x7 k6)
    replace x8 := (Msg.keepC x8 k6)
    replace x9 := (Msg.keepC x9 k6)
    replace y0 := (Msg.keepC y0 k6)
    replace y1 := (Msg.keepC y1 k6)
    replace y2 := (Msg.keepC y2 k6)
    replace y3 := (Msg.keepC y3 k6)
    replace y4 := (Msg.keepC y4 k6)
    replace y5 := (Msg.keepC y5 k6)
    replace y6 := (Msg.keepC y6 k6)
    replace y7 := (Msg.keepC y7 k6)
    replace y8 := (Msg.keepC y8 k6)
    replace y9 := (Msg.keepC y9 k6)
    replace hb := bstep hb k6
    clear k6
    go_wp2_with fail
    refine (heavy_is false v2.out WX.out _ lx.out).mono ?_
    rintro e v7 ⟨rfl, k7⟩
    replace tab := Lib.hid ((tab.out).below k7)
    replace lm := Lib.hid ((lm.out).below k7)
    replace lx := Lib.hid ((lx.out).below k7)
    replace bm := Lib.hid ((bm.out).below k7)
    replace bx := Lib.hid ((bx.out).below k7)
    replace x0 := (Msg.keepC x0 k7)
    replace x1 := (Msg.keepC x1 k7)
    replace x2 := (Msg.keepC x2 k7)
    replace x3 := (Msg.keepC x3 k7)
    replace x4 := (Msg.keepC x4 k7)
    replace x5 := (Msg.keepC x5 k7)
    replace x6 := (Msg.keepC x6 k7)
    replace x7 := (Msg.keepC x7 k7)
    replace x8 := (Msg.keepC x8 k7)
    replace x9 := (Msg.keepC x9 k7)
    replace y0 := (Msg.keepC y0 k7)
    replace y1 := (Msg.keepC y1 k7)
    replace y2 := (Msg.keepC y2 k7)
    replace y3 := (Msg.keepC y3 k7)
    replace y4 := (Msg.keepC y4 k7)
    replace y5 := (Msg.keepC y5 k7)
    replace y6 := (Msg.keepC y6 k7)
    replace y7 := (Msg.keepC y7 k7)
    replace y8 := (Msg.keepC y8 k7)
    replace y9 := (Msg.keepC y9 k7)
    replace hb := bstep hb k7
    clear k7
    go_wp2_with fail
    refine (copied_is MM.out _ lm.out).mono ?_
    rintro e v8 ⟨b8, d8, rfl, l8, -, k8⟩
    replace tab := Lib.hid ((tab.out).below k8)
    replace lm := Lib.hid ((lm.out).below k8)
    replace lx := Lib.hid ((lx.out).below k8)
    replace bm := Lib.hid ((bm.out).below k8)
    replace bx := Lib.hid ((bx.out).below k8)
    replace x0 := (Msg.keepC x0 k8)
    replace x1 := (Msg.keepC x1 k8)
    replace x2 := (Msg.keepC x2 k8)
    replace x3 := (Msg.keepC x3 k8)
    replace x4 := (Msg.keepC x4 k8)
    replace x5 := (Msg.keepC x5 k8)
    replace x6 := (Msg.keepC x6 k8)
    replace x7 := (Msg.keepC x7 k8)
    replace x8 := (Msg.keepC x8 k8)
    replace x9 := (Msg.keepC x9 k8)
    replace y0 := (Msg.keepC y0 k8)
    replace y1 := (Msg.keepC y1 k8)
    replace y2 := (Msg.keepC y2 k8)
    replace y3 := (Msg.keepC y3 k8)
    replace y4 := (Msg.keepC y4 k8)
    replace y5 := (Msg.keepC y5 k8)
    replace y6 := (Msg.keepC y6 k8)
    replace y7 := (Msg.keepC y7 k8)
    replace y8 := (Msg.keepC y8 k8)
    replace y9 := (Msg.keepC y9 k8)
    replace hb := bstep hb k8
    clear k8
    replace l8 := Lib.hid l8
    go_wp2_with fail
    refine (enc_is T i hE.out MM.out _ l8.out tab.out).mono ?_
    rintro e v9 ⟨rfl, k9⟩
    replace tab := Lib.hid ((tab.out).below k9)
    replace lm := Lib.hid ((lm.out).below k9)
    replace lx := Lib.hid ((lx.out).below k9)
    replace bm := Lib.hid ((bm.out).below k9)
    replace bx := Lib.hid ((bx.out).below k9)
    replace x0 := (Msg.keepC x0 k9)
    replace x1 := (Msg.keepC x1 k9)
    replace x2 := (Msg.keepC x2 k9)
    replace x3 := (Msg.keepC x3 k9)
    replace x4 := (Msg.keepC x4 k9)
    replace x5 := (Msg.keepC x5 k9)
    replace x6 := (Msg.keepC x6 k9)
    replace x7 := (Msg.keepC x7 k9)
    replace x8 := (Msg.keepC x8 k9)
    replace x9 := (Msg.keepC x9 k9)
    replace y0 := (Msg.keepC y0 k9)
    replace y1 := (Msg.keepC y1 k9)
    replace y2 := (Msg.keepC y2 k9)
    replace y3 := (Msg.keepC y3 k9)
    replace y4 := (Msg.keepC y4 k9)
    replace y5 := (Msg.keepC y5 k9)
    replace y6 := (Msg.keepC y6 k9)
    replace y7 := (Msg.keepC y7 k9)
    replace y8 := (Msg.keepC y8 k9)
    replace y9 := (Msg.keepC y9 k9)
    replace l8 := Lib.hid ((l8.out).below k9)
    replace hb := bstep hb k9
    clear k9
    clear l8
    go_wp2_with fail
    refine (copied_is MX.out _ lx.out).mono ?_
    rintro e v10 ⟨b10, d10, rfl, l10, -, k10⟩
    replace tab := Lib.hid ((tab.out).below k10)
    replace lm := Lib.hid ((lm.out).below k10)
    replace lx := Lib.hid ((lx.out).below k10)
    replace bm := Lib.hid ((bm.out).below k10)
    replace bx := Lib.hid ((bx.out).below k10)
    replace x0 := (Msg.keepC x0 k10)
    replace x1 := (Msg.keepC x1 k10)
    replace x2 := (Msg.keepC x2 k10)
    replace x3 := (Msg.keepC x3 k10)
    replace x4 := (Msg.keepC x4 k10)
    replace x5 := (Msg.keepC x5 k10)
    replace x6 := (Msg.keepC x6 k10)
    replace x7 := (Msg.keepC x7 k10)
    replace x8 := (Msg.keepC x8 k10)
    replace x9 := (Msg.keepC x9 k10)
    replace y0 := (Msg.keepC y0 k10)
    replace y1 := (Msg.keepC y1 k10)
    replace y2 := (Msg.keepC y2 k10)
    replace y3 := (Msg.keepC y3 k10)
    replace y4 := (Msg.keepC y4 k10)
    replace y5 := (Msg.keepC y5 k10)
    replace y6 := (Msg.keepC y6 k10)
    replace y7 := (Msg.keepC y7 k10)
    replace y8 := (Msg.keepC y8 k10)
    replace y9 := (Msg.keepC y9 k10)
    replace hb := bstep hb k10
    clear k10
    replace l10 := Lib.hid l10
    go_wp2_with fail
    refine (enc_is U i2 hF.out MX.out _ l10.out tab.out).mono ?_
    rintro e v11 ⟨rfl, k11⟩
    replace tab := Lib.hid ((tab.out).below k11)
    replace lm := Lib.hid ((lm.out).below k11)
    replace lx := Lib.hid ((lx.out).below k11)
    replace bm := Lib.hid ((bm.out).below k11)
    replace bx := Lib.hid ((bx.out).below k11)
    replace x0 := (Msg.keepC x0 k11)
    replace x1 := (Msg.keepC x1 k11)
    replace x2 := (Msg.keepC x2 k11)
    replace x3 := (Msg.keepC x3 k11)
    replace x4 := (Msg.keepC x4 k11)
    replace x5 := (Msg.keepC x5 k11)
    replace x6 := (Msg.keepC x6 k11)
    replace x7 := (Msg.keepC x7 k11)
    replace x8 := (Msg.keepC x8 k11)
    replace x9 := (Msg.keepC x9 k11)
    replace y0 := (Msg.keepC y0 k11)
    replace y1 := (Msg.keepC y1 k11)
    replace y2 := (Msg.keepC y2 k11)
    replace y3 := (Msg.keepC y3 k11)
    replace y4 := (Msg.keepC y4 k11)
    replace y5 := (Msg.keepC y5 k11)
    replace y6 := (Msg.keepC y6 k11)
    replace y7 := (Msg.keepC y7 k11)
    replace y8 := (Msg.keepC y8 k11)
    replace y9 := (Msg.keepC y9 k11)
    replace l10 := Lib.hid ((l10.out).below k11)
    replace hb := bstep hb k11
    clear k11
    clear l10
    clear x0 x1 x2 x3 x4 x5 x6 x7 x8 x9 y0 y1 y2 y3 y4 y5 y6 y7 y8 y9
    go_wp2_with fail
    refine (works_any _ tab.out).mono ?_
    rintro e v12 ⟨rfl, k12⟩
    replace tab := Lib.hid ((tab.out).below k12)
    replace lm := Lib.hid ((lm.out).below k12)
    replace lx := Lib.hid ((lx.out).below k12)
    replace bm := Lib.hid ((bm.out).below k12)
    replace bx := Lib.hid ((bx.out).below k12)
    replace hb := bstep hb k12
    clear k12
    go_wp2
    go_ret
    exact ⟨rfl, hb⟩
  have n1 : (i != 0) = false := by rw [bne, e1]; rfl
  cases e2 : (i2 == 0)
  · have n2 : (i2 != 0) = true := by rw [bne, e2]; rfl
    go_enter Tryd.func6, Tryd.ntmps6
    have x0 := bm.out 0 (.int .u8 (m.kind : Int)) rfl
    have x1 := bm.out 1 (.string ⟨m.src.toArray⟩) rfl
    have x2 := bm.out 2 (.string ⟨m.dst.toArray⟩) rfl
    have x3 := bm.out 3 (.string ⟨m.fr.toArray⟩) rfl
    have x4 := bm.out 4 (.int .u64 (m.seq : Int)) rfl
    have x5 := bm.out 5 (.slice a m.all.length c) rfl
    have x6 := bm.out 6 (.int .u64 (m.id : Int)) rfl
    have x7 := bm.out 7 (.int .i64 m.i) rfl
    have x8 := bm.out 8 (.int .i64 m.n) rfl
    have x9 := bm.out 9 (.string ⟨m.tx.toArray⟩) rfl
    have y0 := bx.out 0 (.int .u8 (x.kind : Int)) rfl
    have y1 := bx.out 1 (.string ⟨x.src.toArray⟩) rfl
    have y2 := bx.out 2 (.string ⟨x.dst.toArray⟩) rfl
    have y3 := bx.out 3 (.string ⟨x.fr.toArray⟩) rfl
    have y4 := bx.out 4 (.int .u64 (x.seq : Int)) rfl
    have y5 := bx.out 5 (.slice a' x.all.length c') rfl
    have y6 := bx.out 6 (.int .u64 (x.id : Int)) rfl
    have y7 := bx.out 7 (.int .i64 x.i) rfl
    have y8 := bx.out 8 (.int .i64 x.n) rfl
    have y9 := bx.out 9 (.string ⟨x.tx.toArray⟩) rfl
    go_wp2_with fail
    refine (heavy_is false v1.out WM.out _ lm.out).mono ?_
    rintro e v13 ⟨rfl, k13⟩
    replace tab := Lib.hid ((tab.out).below k13)
    replace lm := Lib.hid ((lm.out).below k13)
    replace lx := Lib.hid ((lx.out).below k13)
    replace bm := Lib.hid ((bm.out).below k13)
    replace bx := Lib.hid ((bx.out).below k13)
    replace x0 := (Msg.keepC x0 k13)
    replace x1 := (Msg.keepC x1 k13)
    replace x2 := (Msg.keepC x2 k13)
    replace x3 := (Msg.keepC x3 k13)
    replace x4 := (Msg.keepC x4 k13)
    replace x5 := (Msg.keepC x5 k13)
    replace x6 := (Msg.keepC x6 k13)
    replace x7 := (Msg.keepC x7 k13)
    replace x8 := (Msg.keepC x8 k13)
    replace x9 := (Msg.keepC x9 k13)
    replace y0 := (Msg.keepC y0 k13)
    replace y1 := (Msg.keepC y1 k13)
    replace y2 := (Msg.keepC y2 k13)
    replace y3 := (Msg.keepC y3 k13)
    replace y4 := (Msg.keepC y4 k13)
    replace y5 := (Msg.keepC y5 k13)
    replace y6 := (Msg.keepC y6 k13)
    replace y7 := (Msg.keepC y7 k13)
    replace y8 := (Msg.keepC y8 k13)
    replace y9 := (Msg.keepC y9 k13)
    replace hb := bstep hb k13
    clear k13
    go_wp2_with fail
    refine (heavy_is false v2.out WX.out _ lx.out).mono ?_
    rintro e v14 ⟨rfl, k14⟩
    replace tab := Lib.hid ((tab.out).below k14)
    replace lm := Lib.hid ((lm.out).below k14)
    replace lx := Lib.hid ((lx.out).below k14)
    replace bm := Lib.hid ((bm.out).below k14)
    replace bx := Lib.hid ((bx.out).below k14)
    replace x0 := (Msg.keepC x0 k14)
    replace x1 := (Msg.keepC x1 k14)
    replace x2 := (Msg.keepC x2 k14)
    replace x3 := (Msg.keepC x3 k14)
    replace x4 := (Msg.keepC x4 k14)
    replace x5 := (Msg.keepC x5 k14)
    replace x6 := (Msg.keepC x6 k14)
    replace x7 := (Msg.keepC x7 k14)
    replace x8 := (Msg.keepC x8 k14)
    replace x9 := (Msg.keepC x9 k14)
    replace y0 := (Msg.keepC y0 k14)
    replace y1 := (Msg.keepC y1 k14)
    replace y2 := (Msg.keepC y2 k14)
    replace y3 := (Msg.keepC y3 k14)
    replace y4 := (Msg.keepC y4 k14)
    replace y5 := (Msg.keepC y5 k14)
    replace y6 := (Msg.keepC y6 k14)
    replace y7 := (Msg.keepC y7 k14)
    replace y8 := (Msg.keepC y8 k14)
    replace y9 := (Msg.keepC y9 k14)
    replace hb := bstep hb k14
    clear k14
    go_wp2_with fail
    refine (copied_is MM.out _ lm.out).mono ?_
    rintro e v15 ⟨b15, d15, rfl, l15, -, k15⟩
    replace tab := Lib.hid ((tab.out).below k15)
    replace lm := Lib.hid ((lm.out).below k15)
    replace lx := Lib.hid ((lx.out).below k15)
    replace bm := Lib.hid ((bm.out).below k15)
    replace bx := Lib.hid ((bx.out).below k15)
    replace x0 := (Msg.keepC x0 k15)
    replace x1 := (Msg.keepC x1 k15)
    replace x2 := (Msg.keepC x2 k15)
    replace x3 := (Msg.keepC x3 k15)
    replace x4 := (Msg.keepC x4 k15)
    replace x5 := (Msg.keepC x5 k15)
    replace x6 := (Msg.keepC x6 k15)
    replace x7 := (Msg.keepC x7 k15)
    replace x8 := (Msg.keepC x8 k15)
    replace x9 := (Msg.keepC x9 k15)
    replace y0 := (Msg.keepC y0 k15)
    replace y1 := (Msg.keepC y1 k15)
    replace y2 := (Msg.keepC y2 k15)
    replace y3 := (Msg.keepC y3 k15)
    replace y4 := (Msg.keepC y4 k15)
    replace y5 := (Msg.keepC y5 k15)
    replace y6 := (Msg.keepC y6 k15)
    replace y7 := (Msg.keepC y7 k15)
    replace y8 := (Msg.keepC y8 k15)
    replace y9 := (Msg.keepC y9 k15)
    replace hb := bstep hb k15
    clear k15
    replace l15 := Lib.hid l15
    go_wp2_with fail
    refine (enc_is T i hE.out MM.out _ l15.out tab.out).mono ?_
    rintro e v16 ⟨rfl, k16⟩
    replace tab := Lib.hid ((tab.out).below k16)
    replace lm := Lib.hid ((lm.out).below k16)
    replace lx := Lib.hid ((lx.out).below k16)
    replace bm := Lib.hid ((bm.out).below k16)
    replace bx := Lib.hid ((bx.out).below k16)
    replace x0 := (Msg.keepC x0 k16)
    replace x1 := (Msg.keepC x1 k16)
    replace x2 := (Msg.keepC x2 k16)
    replace x3 := (Msg.keepC x3 k16)
    replace x4 := (Msg.keepC x4 k16)
    replace x5 := (Msg.keepC x5 k16)
    replace x6 := (Msg.keepC x6 k16)
    replace x7 := (Msg.keepC x7 k16)
    replace x8 := (Msg.keepC x8 k16)
    replace x9 := (Msg.keepC x9 k16)
    replace y0 := (Msg.keepC y0 k16)
    replace y1 := (Msg.keepC y1 k16)
    replace y2 := (Msg.keepC y2 k16)
    replace y3 := (Msg.keepC y3 k16)
    replace y4 := (Msg.keepC y4 k16)
    replace y5 := (Msg.keepC y5 k16)
    replace y6 := (Msg.keepC y6 k16)
    replace y7 := (Msg.keepC y7 k16)
    replace y8 := (Msg.keepC y8 k16)
    replace y9 := (Msg.keepC y9 k16)
    replace l15 := Lib.hid ((l15.out).below k16)
    replace hb := bstep hb k16
    clear k16
    clear l15
    go_wp2_with fail
    refine (copied_is MX.out _ lx.out).mono ?_
    rintro e v17 ⟨b17, d17, rfl, l17, -, k17⟩
    replace tab := Lib.hid ((tab.out).below k17)
    replace lm := Lib.hid ((lm.out).below k17)
    replace lx := Lib.hid ((lx.out).below k17)
    replace bm := Lib.hid ((bm.out).below k17)
    replace bx := Lib.hid ((bx.out).below k17)
    replace x0 := (Msg.keepC x0 k17)
    replace x1 := (Msg.keepC x1 k17)
    replace x2 := (Msg.keepC x2 k17)
    replace x3 := (Msg.keepC x3 k17)
    replace x4 := (Msg.keepC x4 k17)
    replace x5 := (Msg.keepC x5 k17)
    replace x6 := (Msg.keepC x6 k17)
    replace x7 := (Msg.keepC x7 k17)
    replace x8 := (Msg.keepC x8 k17)
    replace x9 := (Msg.keepC x9 k17)
    replace y0 := (Msg.keepC y0 k17)
    replace y1 := (Msg.keepC y1 k17)
    replace y2 := (Msg.keepC y2 k17)
    replace y3 := (Msg.keepC y3 k17)
    replace y4 := (Msg.keepC y4 k17)
    replace y5 := (Msg.keepC y5 k17)
    replace y6 := (Msg.keepC y6 k17)
    replace y7 := (Msg.keepC y7 k17)
    replace y8 := (Msg.keepC y8 k17)
    replace y9 := (Msg.keepC y9 k17)
    replace hb := bstep hb k17
    clear k17
    replace l17 := Lib.hid l17
    go_wp2_with fail
    refine (enc_is U i2 hF.out MX.out _ l17.out tab.out).mono ?_
    rintro e v18 ⟨rfl, k18⟩
    replace tab := Lib.hid ((tab.out).below k18)
    replace lm := Lib.hid ((lm.out).below k18)
    replace lx := Lib.hid ((lx.out).below k18)
    replace bm := Lib.hid ((bm.out).below k18)
    replace bx := Lib.hid ((bx.out).below k18)
    replace x0 := (Msg.keepC x0 k18)
    replace x1 := (Msg.keepC x1 k18)
    replace x2 := (Msg.keepC x2 k18)
    replace x3 := (Msg.keepC x3 k18)
    replace x4 := (Msg.keepC x4 k18)
    replace x5 := (Msg.keepC x5 k18)
    replace x6 := (Msg.keepC x6 k18)
    replace x7 := (Msg.keepC x7 k18)
    replace x8 := (Msg.keepC x8 k18)
    replace x9 := (Msg.keepC x9 k18)
    replace y0 := (Msg.keepC y0 k18)
    replace y1 := (Msg.keepC y1 k18)
    replace y2 := (Msg.keepC y2 k18)
    replace y3 := (Msg.keepC y3 k18)
    replace y4 := (Msg.keepC y4 k18)
    replace y5 := (Msg.keepC y5 k18)
    replace y6 := (Msg.keepC y6 k18)
    replace y7 := (Msg.keepC y7 k18)
    replace y8 := (Msg.keepC y8 k18)
    replace y9 := (Msg.keepC y9 k18)
    replace l17 := Lib.hid ((l17.out).below k18)
    replace hb := bstep hb k18
    clear k18
    clear l17
    clear x0 x1 x2 x3 x4 x5 x6 x7 x8 x9 y0 y1 y2 y3 y4 y5 y6 y7 y8 y9
    go_wp2_with fail
    refine (works_any _ tab.out).mono ?_
    rintro e v19 ⟨rfl, k19⟩
    replace tab := Lib.hid ((tab.out).below k19)
    replace lm := Lib.hid ((lm.out).below k19)
    replace lx := Lib.hid ((lx.out).below k19)
    replace bm := Lib.hid ((bm.out).below k19)
    replace bx := Lib.hid ((bx.out).below k19)
    replace hb := bstep hb k19
    clear k19
    go_wp2
    go_ret
    exact ⟨rfl, hb⟩
  have n2 : (i2 != 0) = false := by rw [bne, e2]; rfl
  have hi : i = 0 := by simpa using e1
  have hi2 : i2 = 0 := by simpa using e2
  obtain ⟨q1, q2, q3, q4⟩ := enc_ok hE.out hi WM.out.id
  obtain ⟨r1, r2, r3, r4⟩ := enc_ok hF.out hi2 WX.out.id
  have hsame : ((T == U) : Bool) = decide (m = x) := by
    by_cases e : m = x
    · rw [decide_eq_true e, beq_iff_eq, q4, r4, e]
    · rw [decide_eq_false e, beq_eq_false_iff_ne, q4, r4]; exact fun h => e (enc_inj m x q3 r3 WM.out.id WX.out.id h)
  replace q1 := Lib.hid q1
  replace q3 := Lib.hid q3
  replace q4 := Lib.hid q4
  replace hi := Lib.hid hi
  replace hi2 := Lib.hid hi2
  clear r1 r2 r3 r4
  have mlen : m.all.length ≤ 1099511627776 := by have := MM.out.len; omega
  have HS := Lib.hid hsame
  clear hsame
  go_enter Tryd.func6, Tryd.ntmps6
  have x0 := bm.out 0 (.int .u8 (m.kind : Int)) rfl
  have x1 := bm.out 1 (.string ⟨m.src.toArray⟩) rfl
  have x2 := bm.out 2 (.string ⟨m.dst.toArray⟩) rfl
  have x3 := bm.out 3 (.string ⟨m.fr.toArray⟩) rfl
  have x4 := bm.out 4 (.int .u64 (m.seq : Int)) rfl
  have x5 := bm.out 5 (.slice a m.all.length c) rfl
  have x6 := bm.out 6 (.int .u64 (m.id : Int)) rfl
  have x7 := bm.out 7 (.int .i64 m.i) rfl
  have x8 := bm.out 8 (.int .i64 m.n) rfl
  have x9 := bm.out 9 (.string ⟨m.tx.toArray⟩) rfl
  have y0 := bx.out 0 (.int .u8 (x.kind : Int)) rfl
  have y1 := bx.out 1 (.string ⟨x.src.toArray⟩) rfl
  have y2 := bx.out 2 (.string ⟨x.dst.toArray⟩) rfl
  have y3 := bx.out 3 (.string ⟨x.fr.toArray⟩) rfl
  have y4 := bx.out 4 (.int .u64 (x.seq : Int)) rfl
  have y5 := bx.out 5 (.slice a' x.all.length c') rfl
  have y6 := bx.out 6 (.int .u64 (x.id : Int)) rfl
  have y7 := bx.out 7 (.int .i64 x.i) rfl
  have y8 := bx.out 8 (.int .i64 x.n) rfl
  have y9 := bx.out 9 (.string ⟨x.tx.toArray⟩) rfl
  go_wp2_with fail
  refine (heavy_is false v1.out WM.out _ lm.out).mono ?_
  rintro e v20 ⟨rfl, k20⟩
  replace tab := Lib.hid ((tab.out).below k20)
  replace lm := Lib.hid ((lm.out).below k20)
  replace lx := Lib.hid ((lx.out).below k20)
  replace bm := Lib.hid ((bm.out).below k20)
  replace bx := Lib.hid ((bx.out).below k20)
  replace x0 := (Msg.keepC x0 k20)
  replace x1 := (Msg.keepC x1 k20)
  replace x2 := (Msg.keepC x2 k20)
  replace x3 := (Msg.keepC x3 k20)
  replace x4 := (Msg.keepC x4 k20)
  replace x5 := (Msg.keepC x5 k20)
  replace x6 := (Msg.keepC x6 k20)
  replace x7 := (Msg.keepC x7 k20)
  replace x8 := (Msg.keepC x8 k20)
  replace x9 := (Msg.keepC x9 k20)
  replace y0 := (Msg.keepC y0 k20)
  replace y1 := (Msg.keepC y1 k20)
  replace y2 := (Msg.keepC y2 k20)
  replace y3 := (Msg.keepC y3 k20)
  replace y4 := (Msg.keepC y4 k20)
  replace y5 := (Msg.keepC y5 k20)
  replace y6 := (Msg.keepC y6 k20)
  replace y7 := (Msg.keepC y7 k20)
  replace y8 := (Msg.keepC y8 k20)
  replace y9 := (Msg.keepC y9 k20)
  replace hb := bstep hb k20
  clear k20
  go_wp2_with fail
  refine (heavy_is false v2.out WX.out _ lx.out).mono ?_
  rintro e v21 ⟨rfl, k21⟩
  replace tab := Lib.hid ((tab.out).below k21)
  replace lm := Lib.hid ((lm.out).below k21)
  replace lx := Lib.hid ((lx.out).below k21)
  replace bm := Lib.hid ((bm.out).below k21)
  replace bx := Lib.hid ((bx.out).below k21)
  replace x0 := (Msg.keepC x0 k21)
  replace x1 := (Msg.keepC x1 k21)
  replace x2 := (Msg.keepC x2 k21)
  replace x3 := (Msg.keepC x3 k21)
  replace x4 := (Msg.keepC x4 k21)
  replace x5 := (Msg.keepC x5 k21)
  replace x6 := (Msg.keepC x6 k21)
  replace x7 := (Msg.keepC x7 k21)
  replace x8 := (Msg.keepC x8 k21)
  replace x9 := (Msg.keepC x9 k21)
  replace y0 := (Msg.keepC y0 k21)
  replace y1 := (Msg.keepC y1 k21)
  replace y2 := (Msg.keepC y2 k21)
  replace y3 := (Msg.keepC y3 k21)
  replace y4 := (Msg.keepC y4 k21)
  replace y5 := (Msg.keepC y5 k21)
  replace y6 := (Msg.keepC y6 k21)
  replace y7 := (Msg.keepC y7 k21)
  replace y8 := (Msg.keepC y8 k21)
  replace y9 := (Msg.keepC y9 k21)
  replace hb := bstep hb k21
  clear k21
  go_wp2_with fail
  refine (copied_is MM.out _ lm.out).mono ?_
  rintro e v22 ⟨b22, d22, rfl, l22, -, k22⟩
  replace tab := Lib.hid ((tab.out).below k22)
  replace lm := Lib.hid ((lm.out).below k22)
  replace lx := Lib.hid ((lx.out).below k22)
  replace bm := Lib.hid ((bm.out).below k22)
  replace bx := Lib.hid ((bx.out).below k22)
  replace x0 := (Msg.keepC x0 k22)
  replace x1 := (Msg.keepC x1 k22)
  replace x2 := (Msg.keepC x2 k22)
  replace x3 := (Msg.keepC x3 k22)
  replace x4 := (Msg.keepC x4 k22)
  replace x5 := (Msg.keepC x5 k22)
  replace x6 := (Msg.keepC x6 k22)
  replace x7 := (Msg.keepC x7 k22)
  replace x8 := (Msg.keepC x8 k22)
  replace x9 := (Msg.keepC x9 k22)
  replace y0 := (Msg.keepC y0 k22)
  replace y1 := (Msg.keepC y1 k22)
  replace y2 := (Msg.keepC y2 k22)
  replace y3 := (Msg.keepC y3 k22)
  replace y4 := (Msg.keepC y4 k22)
  replace y5 := (Msg.keepC y5 k22)
  replace y6 := (Msg.keepC y6 k22)
  replace y7 := (Msg.keepC y7 k22)
  replace y8 := (Msg.keepC y8 k22)
  replace y9 := (Msg.keepC y9 k22)
  replace hb := bstep hb k22
  clear k22
  replace l22 := Lib.hid l22
  go_wp2_with fail
  refine (enc_is T i hE.out MM.out _ l22.out tab.out).mono ?_
  rintro e v23 ⟨rfl, k23⟩
  replace tab := Lib.hid ((tab.out).below k23)
  replace lm := Lib.hid ((lm.out).below k23)
  replace lx := Lib.hid ((lx.out).below k23)
  replace bm := Lib.hid ((bm.out).below k23)
  replace bx := Lib.hid ((bx.out).below k23)
  replace x0 := (Msg.keepC x0 k23)
  replace x1 := (Msg.keepC x1 k23)
  replace x2 := (Msg.keepC x2 k23)
  replace x3 := (Msg.keepC x3 k23)
  replace x4 := (Msg.keepC x4 k23)
  replace x5 := (Msg.keepC x5 k23)
  replace x6 := (Msg.keepC x6 k23)
  replace x7 := (Msg.keepC x7 k23)
  replace x8 := (Msg.keepC x8 k23)
  replace x9 := (Msg.keepC x9 k23)
  replace y0 := (Msg.keepC y0 k23)
  replace y1 := (Msg.keepC y1 k23)
  replace y2 := (Msg.keepC y2 k23)
  replace y3 := (Msg.keepC y3 k23)
  replace y4 := (Msg.keepC y4 k23)
  replace y5 := (Msg.keepC y5 k23)
  replace y6 := (Msg.keepC y6 k23)
  replace y7 := (Msg.keepC y7 k23)
  replace y8 := (Msg.keepC y8 k23)
  replace y9 := (Msg.keepC y9 k23)
  replace l22 := Lib.hid ((l22.out).below k23)
  replace hb := bstep hb k23
  clear k23
  clear l22
  go_wp2_with fail
  refine (copied_is MX.out _ lx.out).mono ?_
  rintro e v24 ⟨b24, d24, rfl, l24, -, k24⟩
  replace tab := Lib.hid ((tab.out).below k24)
  replace lm := Lib.hid ((lm.out).below k24)
  replace lx := Lib.hid ((lx.out).below k24)
  replace bm := Lib.hid ((bm.out).below k24)
  replace bx := Lib.hid ((bx.out).below k24)
  replace x0 := (Msg.keepC x0 k24)
  replace x1 := (Msg.keepC x1 k24)
  replace x2 := (Msg.keepC x2 k24)
  replace x3 := (Msg.keepC x3 k24)
  replace x4 := (Msg.keepC x4 k24)
  replace x5 := (Msg.keepC x5 k24)
  replace x6 := (Msg.keepC x6 k24)
  replace x7 := (Msg.keepC x7 k24)
  replace x8 := (Msg.keepC x8 k24)
  replace x9 := (Msg.keepC x9 k24)
  replace y0 := (Msg.keepC y0 k24)
  replace y1 := (Msg.keepC y1 k24)
  replace y2 := (Msg.keepC y2 k24)
  replace y3 := (Msg.keepC y3 k24)
  replace y4 := (Msg.keepC y4 k24)
  replace y5 := (Msg.keepC y5 k24)
  replace y6 := (Msg.keepC y6 k24)
  replace y7 := (Msg.keepC y7 k24)
  replace y8 := (Msg.keepC y8 k24)
  replace y9 := (Msg.keepC y9 k24)
  replace hb := bstep hb k24
  clear k24
  replace l24 := Lib.hid l24
  go_wp2_with fail
  refine (enc_is U i2 hF.out MX.out _ l24.out tab.out).mono ?_
  rintro e v25 ⟨rfl, k25⟩
  replace tab := Lib.hid ((tab.out).below k25)
  replace lm := Lib.hid ((lm.out).below k25)
  replace lx := Lib.hid ((lx.out).below k25)
  replace bm := Lib.hid ((bm.out).below k25)
  replace bx := Lib.hid ((bx.out).below k25)
  replace x0 := (Msg.keepC x0 k25)
  replace x1 := (Msg.keepC x1 k25)
  replace x2 := (Msg.keepC x2 k25)
  replace x3 := (Msg.keepC x3 k25)
  replace x4 := (Msg.keepC x4 k25)
  replace x5 := (Msg.keepC x5 k25)
  replace x6 := (Msg.keepC x6 k25)
  replace x7 := (Msg.keepC x7 k25)
  replace x8 := (Msg.keepC x8 k25)
  replace x9 := (Msg.keepC x9 k25)
  replace y0 := (Msg.keepC y0 k25)
  replace y1 := (Msg.keepC y1 k25)
  replace y2 := (Msg.keepC y2 k25)
  replace y3 := (Msg.keepC y3 k25)
  replace y4 := (Msg.keepC y4 k25)
  replace y5 := (Msg.keepC y5 k25)
  replace y6 := (Msg.keepC y6 k25)
  replace y7 := (Msg.keepC y7 k25)
  replace y8 := (Msg.keepC y8 k25)
  replace y9 := (Msg.keepC y9 k25)
  replace l24 := Lib.hid ((l24.out).below k25)
  replace hb := bstep hb k25
  clear k25
  clear l24
  go_upto_region 7 with fail
  go_cut [52] (fun q wx => q = .bool false ∧ Below w.heap.size w wx ∧ Crc.Tab wx ∧ Lies wx a m.all.length m.all ∧ Lies wx a' x.all.length x.all ∧ Box wx w.heap.size #[.int .u8 (m.kind : Int), .string ⟨m.src.toArray⟩, .string ⟨m.dst.toArray⟩, .string ⟨m.fr.toArray⟩, .int .u64 (m.seq : Int), .slice a m.all.length c, .int .u64 (m.id : Int), .int .i64 m.i, .int .i64 m.n, .string ⟨m.tx.toArray⟩] ∧ Box wx (w.heap.size + 1) #[.int .u8 (x.kind : Int), .string ⟨x.src.toArray⟩, .string ⟨x.dst.toArray⟩, .string ⟨x.fr.toArray⟩, .int .u64 (x.seq : Int), .slice a' x.all.length c', .int .u64 (x.id : Int), .int .i64 x.i, .int .i64 x.n, .string ⟨x.tx.toArray⟩] ∧ wx.cell? ⟨w.heap.size, 0, none⟩ = some (.int .u8 (m.kind : Int)) ∧ wx.cell? ⟨w.heap.size, 1, none⟩ = some (.string ⟨m.src.toArray⟩) ∧ wx.cell? ⟨w.heap.size, 2, none⟩ = some (.string ⟨m.dst.toArray⟩) ∧ wx.cell? ⟨w.heap.size, 3, none⟩ = some (.string ⟨m.fr.toArray⟩) ∧ wx.cell? ⟨w.heap.size, 4, none⟩ = some (.int .u64 (m.seq : Int)) ∧ wx.cell? ⟨w.heap.size, 5, none⟩ = some (.slice a m.all.length c) ∧ wx.cell? ⟨w.heap.size, 6, none⟩ = some (.int .u64 (m.id : Int)) ∧ wx.cell? ⟨w.heap.size, 7, none⟩ = some (.int .i64 m.i) ∧ wx.cell? ⟨w.heap.size, 8, none⟩ = some (.int .i64 m.n) ∧ wx.cell? ⟨w.heap.size, 9, none⟩ = some (.string ⟨m.tx.toArray⟩) ∧ wx.cell? ⟨w.heap.size + 1, 0, none⟩ = some (.int .u8 (x.kind : Int)) ∧ wx.cell? ⟨w.heap.size + 1, 1, none⟩ = some (.string ⟨x.src.toArray⟩) ∧ wx.cell? ⟨w.heap.size + 1, 2, none⟩ = some (.string ⟨x.dst.toArray⟩) ∧ wx.cell? ⟨w.heap.size + 1, 3, none⟩ = some (.string ⟨x.fr.toArray⟩) ∧ wx.cell? ⟨w.heap.size + 1, 4, none⟩ = some (.int .u64 (x.seq : Int)) ∧ wx.cell? ⟨w.heap.size + 1, 5, none⟩ = some (.slice a' x.all.length c') ∧ wx.cell? ⟨w.heap.size + 1, 6, none⟩ = some (.int .u64 (x.id : Int)) ∧ wx.cell? ⟨w.heap.size + 1, 7, none⟩ = some (.int .i64 x.i) ∧ wx.cell? ⟨w.heap.size + 1, 8, none⟩ = some (.int .i64 x.n) ∧ wx.cell? ⟨w.heap.size + 1, 9, none⟩ = some (.string ⟨x.tx.toArray⟩))
  case first =>
    cases hq : decide (m = x)
    · skip
      have d0 : (T == U) = false := HS.out.trans hq
      replace hq := Lib.hid hq
      go_wp2_with fail
      refine (same_is false hq.out _ lm.out lx.out mlen).mono ?_
      rintro e v26 ⟨rfl, k26⟩
      replace tab := Lib.hid ((tab.out).below k26)
      replace lm := Lib.hid ((lm.out).below k26)
      replace lx := Lib.hid ((lx.out).below k26)
      replace bm := Lib.hid ((bm.out).below k26)
      replace bx := Lib.hid ((bx.out).below k26)
      replace x0 := (Msg.keepC x0 k26)
      replace x1 := (Msg.keepC x1 k26)
      replace x2 := (Msg.keepC x2 k26)
      replace x3 := (Msg.keepC x3 k26)
      replace x4 := (Msg.keepC x4 k26)
      replace x5 := (Msg.keepC x5 k26)
      replace x6 := (Msg.keepC x6 k26)
      replace x7 := (Msg.keepC x7 k26)
      replace x8 := (Msg.keepC x8 k26)
      replace x9 := (Msg.keepC x9 k26)
      replace y0 := (Msg.keepC y0 k26)
      replace y1 := (Msg.keepC y1 k26)
      replace y2 := (Msg.keepC y2 k26)
      replace y3 := (Msg.keepC y3 k26)
      replace y4 := (Msg.keepC y4 k26)
      replace y5 := (Msg.keepC y5 k26)
      replace y6 := (Msg.keepC y6 k26)
      replace y7 := (Msg.keepC y7 k26)
      replace y8 := (Msg.keepC y8 k26)
      replace y9 := (Msg.keepC y9 k26)
      replace hb := bstep hb k26
      clear k26
      go_wp2_with fail
      go_meet
      exact ⟨rfl, hb, tab.out, lm.out, lx.out, bm.out, bx.out, x0, x1, x2, x3, x4, x5, x6, x7, x8, x9, y0, y1, y2, y3, y4, y5, y6, y7, y8, y9⟩
    · skip
      have d0 : (T == U) = true := HS.out.trans hq
      replace hq := Lib.hid hq
      go_wp2_with fail
      refine (same_is true hq.out _ lm.out lx.out mlen).mono ?_
      rintro e v27 ⟨rfl, k27⟩
      replace tab := Lib.hid ((tab.out).below k27)
      replace lm := Lib.hid ((lm.out).below k27)
      replace lx := Lib.hid ((lx.out).below k27)
      replace bm := Lib.hid ((bm.out).below k27)
      replace bx := Lib.hid ((bx.out).below k27)
      replace x0 := (Msg.keepC x0 k27)
      replace x1 := (Msg.keepC x1 k27)
      replace x2 := (Msg.keepC x2 k27)
      replace x3 := (Msg.keepC x3 k27)
      replace x4 := (Msg.keepC x4 k27)
      replace x5 := (Msg.keepC x5 k27)
      replace x6 := (Msg.keepC x6 k27)
      replace x7 := (Msg.keepC x7 k27)
      replace x8 := (Msg.keepC x8 k27)
      replace x9 := (Msg.keepC x9 k27)
      replace y0 := (Msg.keepC y0 k27)
      replace y1 := (Msg.keepC y1 k27)
      replace y2 := (Msg.keepC y2 k27)
      replace y3 := (Msg.keepC y3 k27)
      replace y4 := (Msg.keepC y4 k27)
      replace y5 := (Msg.keepC y5 k27)
      replace y6 := (Msg.keepC y6 k27)
      replace y7 := (Msg.keepC y7 k27)
      replace y8 := (Msg.keepC y8 k27)
      replace y9 := (Msg.keepC y9 k27)
      replace hb := bstep hb k27
      clear k27
      go_wp2_with fail
      go_meet
      exact ⟨rfl, hb, tab.out, lm.out, lx.out, bm.out, bx.out, x0, x1, x2, x3, x4, x5, x6, x7, x8, x9, y0, y1, y2, y3, y4, y5, y6, y7, y8, y9⟩
  clear hb tab lm lx bm bx x0 x1 x2 x3 x4 x5 x6 x7 x8 x9 y0 y1 y2 y3 y4 y5 y6 y7 y8 y9
  obtain ⟨rfl, hb, tab, lm, lx, bm, bx, x0, x1, x2, x3, x4, x5, x6, x7, x8, x9, y0, y1, y2, y3, y4, y5, y6, y7, y8, y9⟩ := hcut
  replace tab := Lib.hid tab
  replace lm := Lib.hid lm
  replace lx := Lib.hid lx
  replace bm := Lib.hid bm
  replace bx := Lib.hid bx
  clear x0 x1 x2 x3 x4 x5 x6 x7 x8 x9 y0 y1 y2 y3 y4 y5 y6 y7 y8 y9
  obtain ⟨t, D, hT, hN, hNp, hN2⟩ : ∃ t D, T = headF t ++ t ∧ 8 * t.length = D ∧ 0 < D ∧ t.length ≤ 16376 := ⟨bodyL m, _, by rw [q4.out, putL_head], rfl, by have := body_pos m; omega, by have := may_len q3.out; omega⟩
  have hTl : T.length = 8 + t.length := by rw [hT, List.length_append, headF_length]
  have hT8 : 8 ≤ T.length := by omega
  have hT9 : T.length ≤ 16384 := by omega
  have hsz := Str.size_mk T
  obtain ⟨p0, hp0, hp1⟩ : ∃ p, at_ % D = p ∧ p < D := ⟨_, rfl, Nat.mod_lt _ hNp⟩
  have hmod : (at_ : Int) % (D : Int) = (p0 : Int) := by rw [← hp0]; rfl
  have hmod2 : Int.tmod (at_ : Int) (D : Int) = (p0 : Int) := by rw [← hp0]; rfl
  replace hT := Lib.hid hT
  replace hN := Lib.hid hN
  replace hp0 := Lib.hid hp0
  replace hTl := Lib.hid hTl
  have Hmod := Lib.hid hmod
  have Hmod2 := Lib.hid hmod2
  clear hmod hmod2
  rename World => v
  have hcv := fun W => run_bytes_of_string (P := Tryd.prog) W 9 43 5 ⟨T.toArray⟩ Tryd.underlying9 Tryd.underlying43 Tryd.underlying5
  rw [hsz] at hcv
  go_upto_region 9 with fail
  go_cut [13] (fun q wx => Made q wx v T)
  case first =>
    go_wp2_with fail
    go_meet
    exact ⟨_, rfl, bytes_new v T _ _ _ _ (by simp [bytesRow]), (Below.drew (Below.refl _ _)).alloc (Nat.le_refl _) _⟩
  obtain ⟨cap, rfl, hX, kx⟩ := hcut
  replace hX := Lib.hid hX
  replace kx := Lib.hid kx
  clear hcv
  go_upto_region 10 with fail
  go_cut [14] (fun q wx => q = .int .i64 (D : Int) ∧ Hid (Bytes wx v.heap.size T) ∧ Hid (Below v.heap.size v wx))
  case first =>
    go_wp2_with fail
    go_meet
    exact ⟨congrArg (Value.int .i64) (by have := hTl.out; have := hN.out; omega), hX, kx⟩
  clear hX kx
  obtain ⟨rfl, hX, kx⟩ := hcut
  rw [hT.out] at hX
  have hD2 : D ≤ 131008 := by have := hN.out; omega
  go_wp2_with fail
  go_loopw [15, 16] (fun sv kv wr => ∃ (k : Nat) (b : Bool) (t' : List UInt8), k ≤ 32 ∧ sv = .bool b ∧ kv = .int .i64 k ∧ Hid (Crc.Turned t t' (D - p0) k b) ∧ Hid (Bytes wr v.heap.size (headF t ++ t')) ∧ Hid (Below v.heap.size v wr)) (fun _ kv _ => 32 - (intOf kv).toNat)
  case atStart => exact ⟨0, false, t, by omega, rfl, rfl, Lib.hid (Crc.Turned.refl _ _), hX, kx⟩
  case round =>
    obtain ⟨k, b, t', hk, rfl, rfl, HT, HX, KX⟩ := hrel
    have hmod := Hmod.out
    have hmod2 := Hmod2.out
    have dD : decide ((D : Int) > 0) = true := decide_eq_true (by omega)
    have dD2 : decide ((0 : Int) < (D : Int)) = true := decide_eq_true (by omega)
    by_cases hlt : k < 32
    · have dk : decide ((k : Int) < 32) = true := decide_eq_true (by omega)
      have hT' := HT.out.1
      cases e3 : (bits .and .u32 ((bs : Int) / 2 ^ k) 1 == 1)
      · skip
        go_wp2_with fail
        go_roundw
        case rel => exact ⟨k + 1, b, t', by omega, rfl, by go_num, Lib.hid (HT.out.skip), Lib.hid (HX.out), Lib.hid (KX.out)⟩
        case measure => simp [intOf]; omega
      · by_cases hp : p0 + k < D
        rotate_left
        · have dp : decide ((p0 : Int) + (k : Int) < (D : Int)) = false := decide_eq_false (by omega)
          go_wp2_with fail
          go_roundw
          case rel => exact ⟨k + 1, b, t', by omega, rfl, by go_num, Lib.hid (HT.out.skip), Lib.hid (HX.out), Lib.hid (KX.out)⟩
          case measure => simp [intOf]; omega
        have dp : decide ((p0 : Int) + (k : Int) < (D : Int)) = true := decide_eq_true (by omega)
        have hj : (p0 + k) / 8 < t.length := by have := hN.out; omega
        have dI : (0 : Int) ≤ 8 + ((p0 : Int) + (k : Int)) / 8 ∧ 8 + ((p0 : Int) + (k : Int)) / 8 < (T.length : Int) := by have := hTl.out; omega
        obtain ⟨q, hq, hq8⟩ : ∃ q, q = (p0 + k) % 8 ∧ q < 8 := ⟨_, rfl, Nat.mod_lt _ (by decide)⟩
        have hXl : 8 + (p0 + k) / 8 < (headF t ++ t').length := by rw [List.length_append, headF_length]; omega
        obtain ⟨y, hy⟩ : ∃ y, y = t'.getD ((p0 + k) / 8) 0 := ⟨_, rfl⟩
        have cB : wr.cell? ⟨v.heap.size, 8 + (p0 + k) / 8, none⟩ = some (.int .u8 (y.toNat : Int)) := by rw [(HX.out _ hXl).1, getX t t' _ (by omega), hy]
        have fB := (HX.out _ hXl).2
        have ybd : (y.toNat : Int) < 256 := by have := y.toNat_lt; omega
        replace hq := Lib.hid hq
        replace hy := Lib.hid hy
        go_wp2_with fail
        go_roundw
        case rel =>
          have hTF := HT.out.flip hlt (by have := hN.out; omega) (by omega)
          rw [show 8 * t.length - (D - p0) + k = p0 + k by have := hN.out; omega] at hTF
          have hB := HX.out.set _ hXl (Crc.flipB y ((p0 + k) % 8))
          rw [set_head] at hB
          rw [hy.out] at hB
          refine ⟨k + 1, true, Crc.flip t' (p0 + k), by omega, rfl, by go_num, Lib.hid hTF, Lib.hid ?_, Lib.hid (KX.out.setCell (Nat.le_refl _) _)⟩
          rw [xorB _ _ (Nat.mod_lt _ (by decide)), hy.out]
          exact hB
        case measure => simp [intOf]; omega
    · obtain rfl : k = 32 := by omega
      skip
      have hlX : (headF t ++ t').length = T.length := by rw [List.length_append, headF_length, HT.out.1, hTl.out]
      have hbk : (convert 43 9 (.slice (some ⟨v.heap.size, 0, none⟩) T.length cap)).run Tryd.prog wr = .ok (.string ⟨(headF t ++ t').toArray⟩) wr := by
        rw [← hlX]
        exact run_convert_bytes_back wr 43 9 5 ⟨v.heap.size, 0, none⟩ cap (headF t ++ t') Tryd.underlying43 Tryd.underlying5 Tryd.underlying9 (fun j hj => by rw [Go.WideShapes.add_plain, Nat.zero_add]; exact (HX.out j hj).1)
      have tabw := Lib.hid (tab.out.below KX.out)
      have hbw := bstep hb KX.out
      obtain ⟨Y, hY⟩ : ∃ Y, Y = headF t ++ t' := ⟨_, rfl⟩
      rw [← hY] at hbk hlX
      have hYl : Y.length ≤ 1099511627776 := by omega
      have hYl2 : Y.length ≤ 16384 := by omega
      replace hlX := Lib.hid hlX
      replace hY := Lib.hid hY
      clear hb tab hmod hmod2
      cases b
      · skip
        have hd : decG Y = (m, 0) := by rw [hY.out, HT.out.2.1 rfl, ← hT.out]; exact q1.out
        replace hd := Lib.hid hd
        go_wp2_with fail
        refine (dec_is hd.out hYl _ tabw.out).mono ?_
        rintro e vdfalse ⟨ad, cd, rfl, -, kd⟩
        replace hbw := bstep hbw kd
        replace tabw := Lib.hid (tabw.out.below kd)
        clear kd
        replace tabw := Lib.hid (tabw.out.below (balloc (Below.refl _ _) (.cells #[.int .u8 (m.kind : Int), .string ⟨m.src.toArray⟩, .string ⟨m.dst.toArray⟩, .string ⟨m.fr.toArray⟩, .int .u64 (m.seq : Int), .slice ad m.all.length cd, .int .u64 (m.id : Int), .int .i64 m.i, .int .i64 m.n, .string ⟨m.tx.toArray⟩] 27)))
        replace hbw := balloc hbw (.cells #[.int .u8 (m.kind : Int), .string ⟨m.src.toArray⟩, .string ⟨m.dst.toArray⟩, .string ⟨m.fr.toArray⟩, .int .u64 (m.seq : Int), .slice ad m.all.length cd, .int .u64 (m.id : Int), .int .i64 m.i, .int .i64 m.n, .string ⟨m.tx.toArray⟩] 27)
        go_wp2_with fail
        refine (works_any _ tabw.out).mono ?_
        rintro e vefalse ⟨rfl, ke⟩
        replace hbw := bstep hbw ke
        go_wp2
        go_ret
        exact ⟨rfl, hbw⟩
      · skip
        have hd : decG Y = (zeroG, 60) := dec_bad hYl2 (by rw [hY.out]; exact cut_turned HT.out (by omega)) (by decide)
        obtain ⟨zz, hzz⟩ : ∃ z, z = zeroG := ⟨_, rfl⟩
        rw [← hzz] at hd
        replace hd := Lib.hid hd
        clear hzz
        go_wp2_with fail
        refine (dec_is hd.out hYl _ tabw.out).mono ?_
        rintro e vdtrue ⟨ad, cd, rfl, -, kd⟩
        replace hbw := bstep hbw kd
        replace tabw := Lib.hid (tabw.out.below kd)
        clear kd
        replace tabw := Lib.hid (tabw.out.below (balloc (Below.refl _ _) (.cells #[.int .u8 (zz.kind : Int), .string ⟨zz.src.toArray⟩, .string ⟨zz.dst.toArray⟩, .string ⟨zz.fr.toArray⟩, .int .u64 (zz.seq : Int), .slice ad zz.all.length cd, .int .u64 (zz.id : Int), .int .i64 zz.i, .int .i64 zz.n, .string ⟨zz.tx.toArray⟩] 27)))
        replace hbw := balloc hbw (.cells #[.int .u8 (zz.kind : Int), .string ⟨zz.src.toArray⟩, .string ⟨zz.dst.toArray⟩, .string ⟨zz.fr.toArray⟩, .int .u64 (zz.seq : Int), .slice ad zz.all.length cd, .int .u64 (zz.id : Int), .int .i64 zz.i, .int .i64 zz.n, .string ⟨zz.tx.toArray⟩] 27)
        go_wp2_with fail
        refine (works_any _ tabw.out).mono ?_
        rintro e vetrue ⟨rfl, ke⟩
        replace hbw := bstep hbw ke
        go_wp2
        go_ret
        exact ⟨rfl, hbw⟩

end MsgApart
end Go.Proofs.YtcfimfoccbaepaaDoor
