/- MsgText: the walk. -/
import Derived.Test.YtcfimfoccbaepaaDoorRefMsg2
namespace Go.Proofs.YtcfimfoccbaepaaDoor
namespace MsgText
open Go.RowKit Go.Proofs.YtcfimfoccbaepaaDoor.Mark Go.Proofs.YtcfimfoccbaepaaDoor.Num Go.Proofs.YtcfimfoccbaepaaDoor.Wire Go.Proofs.YtcfimfoccbaepaaDoor.Msg

theorem text_ways {l : List UInt8} {n : G} {g : Int} (hl : l.length ≤ 4096) (h : decG (Frame.putL l) = (n, g)) :
    (g = 0 → mayM n = true ∧ bodyL n = l) ∧ (g ≠ 0 → g = 8 ∧ ∀ m : G, m.id ≤ 18446744073709551615 → mayM m = true → bodyL m ≠ l) := by
  have q := Frame.cut_put l [] (by omega)
  rw [List.append_nil] at q
  have hlen : (Frame.putL l).length ≤ 16384 := by rw [Frame.putL_length]; omega
  have h0 := h
  unfold decG at h
  rw [if_neg (by omega), q, if_neg (by simp)] at h
  split at h
  · rename_i hh
    simp only [Prod.mk.injEq] at h
    obtain ⟨rfl, rfl⟩ := h
    refine ⟨fun _ => ⟨hh.2.2, ?_⟩, fun e => absurd rfl e⟩
    exact read_back (t := l) (by rw [← hh.2.1]) hh.2.2
  · rename_i hh
    simp only [Prod.mk.injEq] at h
    obtain ⟨_, rfl⟩ := h
    refine ⟨fun e => absurd e (by decide), fun _ => ⟨rfl, fun m hid hm e => hh ?_⟩⟩
    have := read_body m hm hid
    rw [e] at this
    simp only [this, hm, and_self]
theorem put_is {l : List UInt8} (r : List UInt8) (h : Frame.putL l = r) (hl : l.length ≤ 4096) (w : World) (ht : Crc.Tab w) :
    Calls Tryd.prog 19 #[.string ⟨l.toArray⟩] w fun e w' => e = .returned (.tuple #[.string ⟨r.toArray⟩, .int .i64 0]) ∧ Below w.heap.size w w' := by
  have q := Frame.put_any l w (by omega) ht
  unfold Frame.putR at q
  rw [if_neg (by omega)] at q
  rw [← h]; exact q

set_option maxRecDepth 100000 in
set_option maxHeartbeats 16000000 in
theorem walk (m : G) (a : Option Addr) (c : Nat) (s : ByteArray) (w : World) (hm : m.Was) (hlm : Lies w a m.all.length m.all) (hs : s.size ≤ maxLen) (_ : s.size ≤ 140737488351232) (ht : Crc.Tab w) :
    Calls Tryd.prog 5 #[.agg (m.cells a c), .string s] w fun e w' => e = .returned (.bool true) ∧ Below w.heap.size w w' := by
  obtain ⟨l, rfl⟩ : ∃ l : List UInt8, s = ⟨l.toArray⟩ := ⟨s.data.toList, (Str.mk_toList s).symm⟩
  show Calls Tryd.prog 5 #[.agg #[.int .u8 (m.kind : Int), .string ⟨m.src.toArray⟩, .string ⟨m.dst.toArray⟩, .string ⟨m.fr.toArray⟩, .int .u64 (m.seq : Int), .slice a m.all.length c, .int .u64 (m.id : Int), .int .i64 m.i, .int .i64 m.n, .string ⟨m.tx.toArray⟩], .string ⟨l.toArray⟩] w fun e w' => e = .returned (.bool true) ∧ Below w.heap.size w w'
  have hsz := Str.size_mk l
  unfold maxLen at hs
  rw [hsz] at hs
  have hb : Below w.heap.size w (w.alloc (.cells #[.int .u8 (m.kind : Int), .string ⟨m.src.toArray⟩, .string ⟨m.dst.toArray⟩, .string ⟨m.fr.toArray⟩, .int .u64 (m.seq : Int), .slice a m.all.length c, .int .u64 (m.id : Int), .int .i64 m.i, .int .i64 m.n, .string ⟨m.tx.toArray⟩] 27)) := balloc (Below.refl w.heap.size w) _
  have bm : Hid (Box (w.alloc (.cells #[.int .u8 (m.kind : Int), .string ⟨m.src.toArray⟩, .string ⟨m.dst.toArray⟩, .string ⟨m.fr.toArray⟩, .int .u64 (m.seq : Int), .slice a m.all.length c, .int .u64 (m.id : Int), .int .i64 m.i, .int .i64 m.n, .string ⟨m.tx.toArray⟩] 27)) w.heap.size #[.int .u8 (m.kind : Int), .string ⟨m.src.toArray⟩, .string ⟨m.dst.toArray⟩, .string ⟨m.fr.toArray⟩, .int .u64 (m.seq : Int), .slice a m.all.length c, .int .u64 (m.id : Int), .int .i64 m.i, .int .i64 m.n, .string ⟨m.tx.toArray⟩]) := Lib.hid (Box.new w _ _)
  have lm := Lib.hid (hlm.below hb)
  have tab := Lib.hid (ht.below hb)
  have WM := Lib.hid hm
  clear hlm ht hm
  cases v1 : heavyB m
  rotate_left
  · replace v1 := Lib.hid v1
    go_enter Tryd.func5, Tryd.ntmps5
    have x0 := bm.out 0 (.int .u8 (m.kind : Int)) rfl
    have x1 := bm.out 1 (.string ⟨m.src.toArray⟩) rfl
    have x2 := bm.out 2 (.string ⟨m.dst.toArray⟩) rfl
    have x3 := bm.out 3 (.string ⟨m.fr.toArray⟩) rfl
    have x4 := bm.out 4 (.int .u64 (m.seq : Int)) rfl
    have x5 := bm.out 5 (.slice a m.all.length c) rfl
    have x6 := bm.out 6 (.int .u64 (m.id : Int)) rfl
    have x7 := bm.out 7 (.int .i64 m.i) rfl
    have x8 := bm.out 8 (.int .i64 m.n) rfl
    have x9 := bm.out 9 (.string ⟨m.tx.toArray⟩) rfl
    go_wp2_with fail
    refine (heavy_is true v1.out WM.out _ lm.out).mono ?_
    rintro e v1 ⟨rfl, k1⟩
    replace tab := Lib.hid ((tab.out).below k1)
    replace lm := Lib.hid ((lm.out).below k1)
    replace bm := Lib.hid ((bm.out).below k1)
    replace x0 := (Msg.keepC x0 k1)
    replace x1 := (Msg.keepC x1 k1)
    replace x2 := (Msg.keepC x2 k1)
    replace x3 := (Msg.keepC x3 k1)
    replace x4 := (Msg.keepC x4 k1)
    replace x5 := (Msg.keepC x5 k1)
    replace x6 := (Msg.keepC x6 k1)
    replace x7 := (Msg.keepC x7 k1)
    replace x8 := (Msg.keepC x8 k1)
    replace x9 := (Msg.keepC x9 k1)
    replace hb := bstep hb k1
    clear k1
    clear x0 x1 x2 x3 x4 x5 x6 x7 x8 x9
    go_wp2_with fail
    refine (works_any _ tab.out).mono ?_
    rintro e v2 ⟨rfl, k2⟩
    replace tab := Lib.hid ((tab.out).below k2)
    replace lm := Lib.hid ((lm.out).below k2)
    replace bm := Lib.hid ((bm.out).below k2)
    replace hb := bstep hb k2
    clear k2
    go_wp2
    go_ret
    exact ⟨rfl, hb⟩
  replace v1 := Lib.hid v1
  by_cases h0 : 4096 < l.length
  · have d1 : decide ((l.length : Int) > 4096) = true := decide_eq_true (by omega)
    have d2 : decide ((4096 : Int) < (l.length : Int)) = true := decide_eq_true (by omega)
    go_enter Tryd.func5, Tryd.ntmps5
    have x0 := bm.out 0 (.int .u8 (m.kind : Int)) rfl
    have x1 := bm.out 1 (.string ⟨m.src.toArray⟩) rfl
    have x2 := bm.out 2 (.string ⟨m.dst.toArray⟩) rfl
    have x3 := bm.out 3 (.string ⟨m.fr.toArray⟩) rfl
    have x4 := bm.out 4 (.int .u64 (m.seq : Int)) rfl
    have x5 := bm.out 5 (.slice a m.all.length c) rfl
    have x6 := bm.out 6 (.int .u64 (m.id : Int)) rfl
    have x7 := bm.out 7 (.int .i64 m.i) rfl
    have x8 := bm.out 8 (.int .i64 m.n) rfl
    have x9 := bm.out 9 (.string ⟨m.tx.toArray⟩) rfl
    go_wp2_with fail
    refine (heavy_is false v1.out WM.out _ lm.out).mono ?_
    rintro e v3 ⟨rfl, k3⟩
    replace tab := Lib.hid ((tab.out).below k3)
    replace lm := Lib.hid ((lm.out).below k3)
    replace bm := Lib.hid ((bm.out).below k3)
    replace x0 := (Msg.keepC x0 k3)
    replace x1 := (Msg.keepC x1 k3)
    replace x2 := (Msg.keepC x2 k3)
    replace x3 := (Msg.keepC x3 k3)
    replace x4 := (Msg.keepC x4 k3)
    replace x5 := (Msg.keepC x5 k3)
    replace x6 := (Msg.keepC x6 k3)
    replace x7 := (Msg.keepC x7 k3)
    replace x8 := (Msg.keepC x8 k3)
    replace x9 := (Msg.keepC x9 k3)
    replace hb := bstep hb k3
    clear k3
    clear x0 x1 x2 x3 x4 x5 x6 x7 x8 x9
    go_wp2_with fail
    refine (works_any _ tab.out).mono ?_
    rintro e v4 ⟨rfl, k4⟩
    replace tab := Lib.hid ((tab.out).below k4)
    replace lm := Lib.hid ((lm.out).below k4)
    replace bm := Lib.hid ((bm.out).below k4)
    replace hb := bstep hb k4
    clear k4
    go_wp2
    go_ret
    exact ⟨rfl, hb⟩
  have hl : l.length ≤ 4096 := by omega
  have d1 : decide ((l.length : Int) > 4096) = false := decide_eq_false (by omega)
  have d2 : decide ((4096 : Int) < (l.length : Int)) = false := decide_eq_false (by omega)
  have MM := Lib.hid (WM.out.mod v1.out)
  have BL := Lib.hid (RefMsg.body_light v1.out)
  obtain ⟨R, hR⟩ : ∃ R, Frame.putL l = R := ⟨_, rfl⟩
  have hRl : R.length ≤ 1099511627776 := by rw [← hR, Frame.putL_length]; omega
  obtain ⟨n, g, hD⟩ : ∃ n g, decG R = (n, g) := ⟨_, _, rfl⟩
  have hW := text_ways (l := l) (n := n) (g := g) hl (by rw [hR]; exact hD)
  have hN := Lib.hid (dec_mod hD)
  replace hR := Lib.hid hR
  replace hD := Lib.hid hD
  cases e1 : (g == 0)
  rotate_left
  · obtain ⟨w1, w2⟩ := hW.1 (by simpa using e1)
    have w3 : (bodyL n).length ≤ 1048576 := by rw [w2]; omega
    have w4 : fitsB n = true := by unfold mayM at w1; simp only [Bool.and_eq_true] at w1; exact w1.1
    replace w1 := Lib.hid w1
    replace w2 := Lib.hid w2
    replace w3 := Lib.hid w3
    replace w4 := Lib.hid w4
    clear hW
    go_enter Tryd.func5, Tryd.ntmps5
    have x0 := bm.out 0 (.int .u8 (m.kind : Int)) rfl
    have x1 := bm.out 1 (.string ⟨m.src.toArray⟩) rfl
    have x2 := bm.out 2 (.string ⟨m.dst.toArray⟩) rfl
    have x3 := bm.out 3 (.string ⟨m.fr.toArray⟩) rfl
    have x4 := bm.out 4 (.int .u64 (m.seq : Int)) rfl
    have x5 := bm.out 5 (.slice a m.all.length c) rfl
    have x6 := bm.out 6 (.int .u64 (m.id : Int)) rfl
    have x7 := bm.out 7 (.int .i64 m.i) rfl
    have x8 := bm.out 8 (.int .i64 m.n) rfl
    have x9 := bm.out 9 (.string ⟨m.tx.toArray⟩) rfl
    go_wp2_with fail
    refine (heavy_is false v1.out WM.out _ lm.out).mono ?_
    rintro e v5 ⟨rfl, k5⟩
    replace tab := Lib.hid ((tab.out).below k5)
    replace lm := Lib.hid ((lm.out).below k5)
    replace bm := Lib.hid ((bm.out).below k5)
    replace x0 := (Msg.keepC x0 k5)
    replace x1 := (Msg.keepC x1 k5)
    replace x2 := (Msg.keepC x2 k5)
    replace x3 := (Msg.keepC x3 k5)
    replace x4 := (Msg.keepC x4 k5)
    replace x5 := (Msg.keepC x5 k5)
    replace x6 := (Msg.keepC x6 k5)
    replace x7 := (Msg.keepC x7 k5)
    replace x8 := (Msg.keepC x8 k5)
    replace x9 := (Msg.keepC x9 k5)
    replace hb := bstep hb k5
    clear k5
    go_wp2_with fail
    refine (put_is R hR.out hl _ tab.out).mono ?_
    rintro e v6 ⟨rfl, k6⟩
    replace tab := Lib.hid ((tab.out).below k6)
    replace lm := Lib.hid ((lm.out).below k6)
    replace bm := Lib.hid ((bm.out).below k6)
    replace x0 := (Msg.keepC x0 k6)
    replace x1 := (Msg.keepC x1 k6)
    replace x2 := (Msg.keepC x2 k6)
    replace x3 := (Msg.keepC x3 k6)
    replace x4 := (Msg.keepC x4 k6)
    replace x5 := (Msg.keepC x5 k6)
    replace x6 := (Msg.keepC x6 k6)
    replace x7 := (Msg.keepC x7 k6)
    replace x8 := (Msg.keepC x8 k6)
    replace x9 := (Msg.keepC x9 k6)
    replace hb := bstep hb k6
    clear k6
    go_wp2_with fail
    refine (dec_is hD.out hRl _ tab.out).mono ?_
    rintro e v7 ⟨b7, d7, rfl, l7, k7⟩
    replace tab := Lib.hid ((tab.out).below k7)
    replace lm := Lib.hid ((lm.out).below k7)
    replace bm := Lib.hid ((bm.out).below k7)
    replace x0 := (Msg.keepC x0 k7)
    replace x1 := (Msg.keepC x1 k7)
    replace x2 := (Msg.keepC x2 k7)
    replace x3 := (Msg.keepC x3 k7)
    replace x4 := (Msg.keepC x4 k7)
    replace x5 := (Msg.keepC x5 k7)
    replace x6 := (Msg.keepC x6 k7)
    replace x7 := (Msg.keepC x7 k7)
    replace x8 := (Msg.keepC x8 k7)
    replace x9 := (Msg.keepC x9 k7)
    replace hb := bstep hb k7
    clear k7
    replace l7 := Lib.hid l7
    have bn : Hid (Box (v7.alloc (.cells #[.int .u8 (n.kind : Int), .string ⟨n.src.toArray⟩, .string ⟨n.dst.toArray⟩, .string ⟨n.fr.toArray⟩, .int .u64 (n.seq : Int), .slice b7 n.all.length d7, .int .u64 (n.id : Int), .int .i64 n.i, .int .i64 n.n, .string ⟨n.tx.toArray⟩] 27)) v7.heap.size #[.int .u8 (n.kind : Int), .string ⟨n.src.toArray⟩, .string ⟨n.dst.toArray⟩, .string ⟨n.fr.toArray⟩, .int .u64 (n.seq : Int), .slice b7 n.all.length d7, .int .u64 (n.id : Int), .int .i64 n.i, .int .i64 n.n, .string ⟨n.tx.toArray⟩]) := Lib.hid (Box.new v7 _ _)
    replace tab := Lib.hid ((tab.out).below (balloc (Below.refl _ _) (.cells #[.int .u8 (n.kind : Int), .string ⟨n.src.toArray⟩, .string ⟨n.dst.toArray⟩, .string ⟨n.fr.toArray⟩, .int .u64 (n.seq : Int), .slice b7 n.all.length d7, .int .u64 (n.id : Int), .int .i64 n.i, .int .i64 n.n, .string ⟨n.tx.toArray⟩] 27)))
    replace lm := Lib.hid ((lm.out).below (balloc (Below.refl _ _) (.cells #[.int .u8 (n.kind : Int), .string ⟨n.src.toArray⟩, .string ⟨n.dst.toArray⟩, .string ⟨n.fr.toArray⟩, .int .u64 (n.seq : Int), .slice b7 n.all.length d7, .int .u64 (n.id : Int), .int .i64 n.i, .int .i64 n.n, .string ⟨n.tx.toArray⟩] 27)))
    replace bm := Lib.hid ((bm.out).below (balloc (Below.refl _ _) (.cells #[.int .u8 (n.kind : Int), .string ⟨n.src.toArray⟩, .string ⟨n.dst.toArray⟩, .string ⟨n.fr.toArray⟩, .int .u64 (n.seq : Int), .slice b7 n.all.length d7, .int .u64 (n.id : Int), .int .i64 n.i, .int .i64 n.n, .string ⟨n.tx.toArray⟩] 27)))
    replace x0 := (Msg.keepC x0 (balloc (Below.refl _ _) (.cells #[.int .u8 (n.kind : Int), .string ⟨n.src.toArray⟩, .string ⟨n.dst.toArray⟩, .string ⟨n.fr.toArray⟩, .int .u64 (n.seq : Int), .slice b7 n.all.length d7, .int .u64 (n.id : Int), .int .i64 n.i, .int .i64 n.n, .string ⟨n.tx.toArray⟩] 27)))
    replace x1 := (Msg.keepC x1 (balloc (Below.refl _ _) (.cells #[.int .u8 (n.kind : Int), .string ⟨n.src.toArray⟩, .string ⟨n.dst.toArray⟩, .string ⟨n.fr.toArray⟩, .int .u64 (n.seq : Int), .slice b7 n.all.length d7, .int .u64 (n.id : Int), .int .i64 n.i, .int .i64 n.n, .string ⟨n.tx.toArray⟩] 27)))
    replace x2 := (Msg.keepC x2 (balloc (Below.refl _ _) (.cells #[.int .u8 (n.kind : Int), .string ⟨n.src.toArray⟩, .string ⟨n.dst.toArray⟩, .string ⟨n.fr.toArray⟩, .int .u64 (n.seq : Int), .slice b7 n.all.length d7, .int .u64 (n.id : Int), .int .i64 n.i, .int .i64 n.n, .string ⟨n.tx.toArray⟩] 27)))
    replace x3 := (Msg.keepC x3 (balloc (Below.refl _ _) (.cells #[.int .u8 (n.kind : Int), .string ⟨n.src.toArray⟩, .string ⟨n.dst.toArray⟩, .string ⟨n.fr.toArray⟩, .int .u64 (n.seq : Int), .slice b7 n.all.length d7, .int .u64 (n.id : Int), .int .i64 n.i, .int .i64 n.n, .string ⟨n.tx.toArray⟩] 27)))
    replace x4 := (Msg.keepC x4 (balloc (Below.refl _ _) (.cells #[.int .u8 (n.kind : Int), .string ⟨n.src.toArray⟩, .string ⟨n.dst.toArray⟩, .string ⟨n.fr.toArray⟩, .int .u64 (n.seq : Int), .slice b7 n.all.length d7, .int .u64 (n.id : Int), .int .i64 n.i, .int .i64 n.n, .string ⟨n.tx.toArray⟩] 27)))
    replace x5 := (Msg.keepC x5 (balloc (Below.refl _ _) (.cells #[.int .u8 (n.kind : Int), .string ⟨n.src.toArray⟩, .string ⟨n.dst.toArray⟩, .string ⟨n.fr.toArray⟩, .int .u64 (n.seq : Int), .slice b7 n.all.length d7, .int .u64 (n.id : Int), .int .i64 n.i, .int .i64 n.n, .string ⟨n.tx.toArray⟩] 27)))
    replace x6 := (Msg.keepC x6 (balloc (Below.refl _ _) (.cells #[.int .u8 (n.kind : Int), .string ⟨n.src.toArray⟩, .string ⟨n.dst.toArray⟩, .string ⟨n.fr.toArray⟩, .int .u64 (n.seq : Int), .slice b7 n.all.length d7, .int .u64 (n.id : Int), .int .i64 n.i, .int .i64 n.n, .string ⟨n.tx.toArray⟩] 27)))
    replace x7 := (Msg.keepC x7 (balloc (Below.refl _ _) (.cells #[.int .u8 (n.kind : Int), .string ⟨n.src.toArray⟩, .string ⟨n.dst.toArray⟩, .string ⟨n.fr.toArray⟩, .int .u64 (n.seq : Int), .slice b7 n.all.length d7, .int .u64 (n.id : Int), .int .i64 n.i, .int .i64 n.n, .string ⟨n.tx.toArray⟩] 27)))
    replace x8 := (Msg.keepC x8 (balloc (Below.refl _ _) (.cells #[.int .u8 (n.kind : Int), .string ⟨n.src.toArray⟩, .string ⟨n.dst.toArray⟩, .string ⟨n.fr.toArray⟩, .int .u64 (n.seq : Int), .slice b7 n.all.length d7, .int .u64 (n.id : Int), .int .i64 n.i, .int .i64 n.n, .string ⟨n.tx.toArray⟩] 27)))
    replace x9 := (Msg.keepC x9 (balloc (Below.refl _ _) (.cells #[.int .u8 (n.kind : Int), .string ⟨n.src.toArray⟩, .string ⟨n.dst.toArray⟩, .string ⟨n.fr.toArray⟩, .int .u64 (n.seq : Int), .slice b7 n.all.length d7, .int .u64 (n.id : Int), .int .i64 n.i, .int .i64 n.n, .string ⟨n.tx.toArray⟩] 27)))
    replace l7 := Lib.hid ((l7.out).below (balloc (Below.refl _ _) (.cells #[.int .u8 (n.kind : Int), .string ⟨n.src.toArray⟩, .string ⟨n.dst.toArray⟩, .string ⟨n.fr.toArray⟩, .int .u64 (n.seq : Int), .slice b7 n.all.length d7, .int .u64 (n.id : Int), .int .i64 n.i, .int .i64 n.n, .string ⟨n.tx.toArray⟩] 27)))
    replace hb := bstep hb (balloc (Below.refl _ _) (.cells #[.int .u8 (n.kind : Int), .string ⟨n.src.toArray⟩, .string ⟨n.dst.toArray⟩, .string ⟨n.fr.toArray⟩, .int .u64 (n.seq : Int), .slice b7 n.all.length d7, .int .u64 (n.id : Int), .int .i64 n.i, .int .i64 n.n, .string ⟨n.tx.toArray⟩] 27))
    have z0 := bn.out 0 (.int .u8 (n.kind : Int)) rfl
    have z1 := bn.out 1 (.string ⟨n.src.toArray⟩) rfl
    have z2 := bn.out 2 (.string ⟨n.dst.toArray⟩) rfl
    have z3 := bn.out 3 (.string ⟨n.fr.toArray⟩) rfl
    have z4 := bn.out 4 (.int .u64 (n.seq : Int)) rfl
    have z5 := bn.out 5 (.slice b7 n.all.length d7) rfl
    have z6 := bn.out 6 (.int .u64 (n.id : Int)) rfl
    have z7 := bn.out 7 (.int .i64 n.i) rfl
    have z8 := bn.out 8 (.int .i64 n.n) rfl
    have z9 := bn.out 9 (.string ⟨n.tx.toArray⟩) rfl
    go_wp2_with fail
    refine (RefMsg.may_of true w1.out hN.out w3.out _ l7.out).mono ?_
    rintro e v8 ⟨rfl, k8⟩
    replace tab := Lib.hid ((tab.out).below k8)
    replace lm := Lib.hid ((lm.out).below k8)
    replace bm := Lib.hid ((bm.out).below k8)
    replace x0 := (Msg.keepC x0 k8)
    replace x1 := (Msg.keepC x1 k8)
    replace x2 := (Msg.keepC x2 k8)
    replace x3 := (Msg.keepC x3 k8)
    replace x4 := (Msg.keepC x4 k8)
    replace x5 := (Msg.keepC x5 k8)
    replace x6 := (Msg.keepC x6 k8)
    replace x7 := (Msg.keepC x7 k8)
    replace x8 := (Msg.keepC x8 k8)
    replace x9 := (Msg.keepC x9 k8)
    replace l7 := Lib.hid ((l7.out).below k8)
    replace z0 := (Msg.keepC z0 k8)
    replace z1 := (Msg.keepC z1 k8)
    replace z2 := (Msg.keepC z2 k8)
    replace z3 := (Msg.keepC z3 k8)
    replace z4 := (Msg.keepC z4 k8)
    replace z5 := (Msg.keepC z5 k8)
    replace z6 := (Msg.keepC z6 k8)
    replace z7 := (Msg.keepC z7 k8)
    replace z8 := (Msg.keepC z8 k8)
    replace z9 := (Msg.keepC z9 k8)
    replace hb := bstep hb k8
    clear k8
    go_wp2_with fail
    refine (RefMsg.text_of l w2.out hN.out w4.out w3.out _ l7.out).mono ?_
    rintro e v9 ⟨rfl, k9⟩
    replace tab := Lib.hid ((tab.out).below k9)
    replace lm := Lib.hid ((lm.out).below k9)
    replace bm := Lib.hid ((bm.out).below k9)
    replace x0 := (Msg.keepC x0 k9)
    replace x1 := (Msg.keepC x1 k9)
    replace x2 := (Msg.keepC x2 k9)
    replace x3 := (Msg.keepC x3 k9)
    replace x4 := (Msg.keepC x4 k9)
    replace x5 := (Msg.keepC x5 k9)
    replace x6 := (Msg.keepC x6 k9)
    replace x7 := (Msg.keepC x7 k9)
    replace x8 := (Msg.keepC x8 k9)
    replace x9 := (Msg.keepC x9 k9)
    replace l7 := Lib.hid ((l7.out).below k9)
    replace z0 := (Msg.keepC z0 k9)
    replace z1 := (Msg.keepC z1 k9)
    replace z2 := (Msg.keepC z2 k9)
    replace z3 := (Msg.keepC z3 k9)
    replace z4 := (Msg.keepC z4 k9)
    replace z5 := (Msg.keepC z5 k9)
    replace z6 := (Msg.keepC z6 k9)
    replace z7 := (Msg.keepC z7 k9)
    replace z8 := (Msg.keepC z8 k9)
    replace z9 := (Msg.keepC z9 k9)
    replace hb := bstep hb k9
    clear k9
    go_wp2_with fail
    refine (works_any _ tab.out).mono ?_
    rintro e v10 ⟨rfl, k10⟩
    replace tab := Lib.hid ((tab.out).below k10)
    replace lm := Lib.hid ((lm.out).below k10)
    replace bm := Lib.hid ((bm.out).below k10)
    replace x0 := (Msg.keepC x0 k10)
    replace x1 := (Msg.keepC x1 k10)
    replace x2 := (Msg.keepC x2 k10)
    replace x3 := (Msg.keepC x3 k10)
    replace x4 := (Msg.keepC x4 k10)
    replace x5 := (Msg.keepC x5 k10)
    replace x6 := (Msg.keepC x6 k10)
    replace x7 := (Msg.keepC x7 k10)
    replace x8 := (Msg.keepC x8 k10)
    replace x9 := (Msg.keepC x9 k10)
    replace l7 := Lib.hid ((l7.out).below k10)
    replace z0 := (Msg.keepC z0 k10)
    replace z1 := (Msg.keepC z1 k10)
    replace z2 := (Msg.keepC z2 k10)
    replace z3 := (Msg.keepC z3 k10)
    replace z4 := (Msg.keepC z4 k10)
    replace z5 := (Msg.keepC z5 k10)
    replace z6 := (Msg.keepC z6 k10)
    replace z7 := (Msg.keepC z7 k10)
    replace z8 := (Msg.keepC z8 k10)
    replace z9 := (Msg.keepC z9 k10)
    replace hb := bstep hb k10
    clear k10
    go_wp2
    go_ret
    exact ⟨rfl, hb⟩
  have hg : g ≠ 0 := fun e => by rw [e] at e1; cases e1
  obtain ⟨h8, hno⟩ := hW.2 hg
  subst h8
  clear hg hW e1
  cases r1 : mayM m
  · replace r1 := Lib.hid r1
    clear hno
    go_enter Tryd.func5, Tryd.ntmps5
    have x0 := bm.out 0 (.int .u8 (m.kind : Int)) rfl
    have x1 := bm.out 1 (.string ⟨m.src.toArray⟩) rfl
    have x2 := bm.out 2 (.string ⟨m.dst.toArray⟩) rfl
    have x3 := bm.out 3 (.string ⟨m.fr.toArray⟩) rfl
    have x4 := bm.out 4 (.int .u64 (m.seq : Int)) rfl
    have x5 := bm.out 5 (.slice a m.all.length c) rfl
    have x6 := bm.out 6 (.int .u64 (m.id : Int)) rfl
    have x7 := bm.out 7 (.int .i64 m.i) rfl
    have x8 := bm.out 8 (.int .i64 m.n) rfl
    have x9 := bm.out 9 (.string ⟨m.tx.toArray⟩) rfl
    go_wp2_with fail
    refine (heavy_is false v1.out WM.out _ lm.out).mono ?_
    rintro e v11 ⟨rfl, k11⟩
    replace tab := Lib.hid ((tab.out).below k11)
    replace lm := Lib.hid ((lm.out).below k11)
    replace bm := Lib.hid ((bm.out).below k11)
    replace x0 := (Msg.keepC x0 k11)
    replace x1 := (Msg.keepC x1 k11)
    replace x2 := (Msg.keepC x2 k11)
    replace x3 := (Msg.keepC x3 k11)
    replace x4 := (Msg.keepC x4 k11)
    replace x5 := (Msg.keepC x5 k11)
    replace x6 := (Msg.keepC x6 k11)
    replace x7 := (Msg.keepC x7 k11)
    replace x8 := (Msg.keepC x8 k11)
    replace x9 := (Msg.keepC x9 k11)
    replace hb := bstep hb k11
    clear k11
    go_wp2_with fail
    refine (put_is R hR.out hl _ tab.out).mono ?_
    rintro e v12 ⟨rfl, k12⟩
    replace tab := Lib.hid ((tab.out).below k12)
    replace lm := Lib.hid ((lm.out).below k12)
    replace bm := Lib.hid ((bm.out).below k12)
    replace x0 := (Msg.keepC x0 k12)
    replace x1 := (Msg.keepC x1 k12)
    replace x2 := (Msg.keepC x2 k12)
    replace x3 := (Msg.keepC x3 k12)
    replace x4 := (Msg.keepC x4 k12)
    replace x5 := (Msg.keepC x5 k12)
    replace x6 := (Msg.keepC x6 k12)
    replace x7 := (Msg.keepC x7 k12)
    replace x8 := (Msg.keepC x8 k12)
    replace x9 := (Msg.keepC x9 k12)
    replace hb := bstep hb k12
    clear k12
    go_wp2_with fail
    refine (dec_is hD.out hRl _ tab.out).mono ?_
    rintro e v13 ⟨b13, d13, rfl, l13, k13⟩
    replace tab := Lib.hid ((tab.out).below k13)
    replace lm := Lib.hid ((lm.out).below k13)
    replace bm := Lib.hid ((bm.out).below k13)
    replace x0 := (Msg.keepC x0 k13)
    replace x1 := (Msg.keepC x1 k13)
    replace x2 := (Msg.keepC x2 k13)
    replace x3 := (Msg.keepC x3 k13)
    replace x4 := (Msg.keepC x4 k13)
    replace x5 := (Msg.keepC x5 k13)
    replace x6 := (Msg.keepC x6 k13)
    replace x7 := (Msg.keepC x7 k13)
    replace x8 := (Msg.keepC x8 k13)
    replace x9 := (Msg.keepC x9 k13)
    replace hb := bstep hb k13
    clear k13
    replace l13 := Lib.hid l13
    have bn : Hid (Box (v13.alloc (.cells #[.int .u8 (n.kind : Int), .string ⟨n.src.toArray⟩, .string ⟨n.dst.toArray⟩, .string ⟨n.fr.toArray⟩, .int .u64 (n.seq : Int), .slice b13 n.all.length d13, .int .u64 (n.id : Int), .int .i64 n.i, .int .i64 n.n, .string ⟨n.tx.toArray⟩] 27)) v13.heap.size #[.int .u8 (n.kind : Int), .string ⟨n.src.toArray⟩, .string ⟨n.dst.toArray⟩, .string ⟨n.fr.toArray⟩, .int .u64 (n.seq : Int), .slice b13 n.all.length d13, .int .u64 (n.id : Int), .int .i64 n.i, .int .i64 n.n, .string ⟨n.tx.toArray⟩]) := Lib.hid (Box.new v13 _ _)
    replace tab := Lib.hid ((tab.out).below (balloc (Below.refl _ _) (.cells #[.int .u8 (n.kind : Int), .string ⟨n.src.toArray⟩, .string ⟨n.dst.toArray⟩, .string ⟨n.fr.toArray⟩, .int .u64 (n.seq : Int), .slice b13 n.all.length d13, .int .u64 (n.id : Int), .int .i64 n.i, .int .i64 n.n, .string ⟨n.tx.toArray⟩] 27)))
    replace lm := Lib.hid ((lm.out).below (balloc (Below.refl _ _) (.cells #[.int .u8 (n.kind : Int), .string ⟨n.src.toArray⟩, .string ⟨n.dst.toArray⟩, .string ⟨n.fr.toArray⟩, .int .u64 (n.seq : Int), .slice b13 n.all.length d13, .int .u64 (n.id : Int), .int .i64 n.i, .int .i64 n.n, .string ⟨n.tx.toArray⟩] 27)))
    replace bm := Lib.hid ((bm.out).below (balloc (Below.refl _ _) (.cells #[.int .u8 (n.kind : Int), .string ⟨n.src.toArray⟩, .string ⟨n.dst.toArray⟩, .string ⟨n.fr.toArray⟩, .int .u64 (n.seq : Int), .slice b13 n.all.length d13, .int .u64 (n.id : Int), .int .i64 n.i, .int .i64 n.n, .string ⟨n.tx.toArray⟩] 27)))
    replace x0 := (Msg.keepC x0 (balloc (Below.refl _ _) (.cells #[.int .u8 (n.kind : Int), .string ⟨n.src.toArray⟩, .string ⟨n.dst.toArray⟩, .string ⟨n.fr.toArray⟩, .int .u64 (n.seq : Int), .slice b13 n.all.length d13, .int .u64 (n.id : Int), .int .i64 n.i, .int .i64 n.n, .string ⟨n.tx.toArray⟩] 27)))
    replace x1 := (Msg.keepC x1 (balloc (Below.refl _ _) (.cells #[.int .u8 (n.kind : Int), .string ⟨n.src.toArray⟩, .string ⟨n.dst.toArray⟩, .string ⟨n.fr.toArray⟩, .int .u64 (n.seq : Int), .slice b13 n.all.length d13, .int .u64 (n.id : Int), .int .i64 n.i, .int .i64 n.n, .string ⟨n.tx.toArray⟩] 27)))
    replace x2 := (Msg.keepC x2 (balloc (Below.refl _ _) (.cells #[.int .u8 (n.kind : Int), .string ⟨n.src.toArray⟩, .string ⟨n.dst.toArray⟩, .string ⟨n.fr.toArray⟩, .int .u64 (n.seq : Int), .slice b13 n.all.length d13, .int .u64 (n.id : Int), .int .i64 n.i, .int .i64 n.n, .string ⟨n.tx.toArray⟩] 27)))
    replace x3 := (Msg.keepC x3 (balloc (Below.refl _ _) (.cells #[.int .u8 (n.kind : Int), .string ⟨n.src.toArray⟩, .string ⟨n.dst.toArray⟩, .string ⟨n.fr.toArray⟩, .int .u64 (n.seq : Int), .slice b13 n.all.length d13, .int .u64 (n.id : Int), .int .i64 n.i, .int .i64 n.n, .string ⟨n.tx.toArray⟩] 27)))
    replace x4 := (Msg.keepC x4 (balloc (Below.refl _ _) (.cells #[.int .u8 (n.kind : Int), .string ⟨n.src.toArray⟩, .string ⟨n.dst.toArray⟩, .string ⟨n.fr.toArray⟩, .int .u64 (n.seq : Int), .slice b13 n.all.length d13, .int .u64 (n.id : Int), .int .i64 n.i, .int .i64 n.n, .string ⟨n.tx.toArray⟩] 27)))
    replace x5 := (Msg.keepC x5 (balloc (Below.refl _ _) (.cells #[.int .u8 (n.kind : Int), .string ⟨n.src.toArray⟩, .string ⟨n.dst.toArray⟩, .string ⟨n.fr.toArray⟩, .int .u64 (n.seq : Int), .slice b13 n.all.length d13, .int .u64 (n.id : Int), .int .i64 n.i, .int .i64 n.n, .string ⟨n.tx.toArray⟩] 27)))
    replace x6 := (Msg.keepC x6 (balloc (Below.refl _ _) (.cells #[.int .u8 (n.kind : Int), .string ⟨n.src.toArray⟩, .string ⟨n.dst.toArray⟩, .string ⟨n.fr.toArray⟩, .int .u64 (n.seq : Int), .slice b13 n.all.length d13, .int .u64 (n.id : Int), .int .i64 n.i, .int .i64 n.n, .string ⟨n.tx.toArray⟩] 27)))
    replace x7 := (Msg.keepC x7 (balloc (Below.refl _ _) (.cells #[.int .u8 (n.kind : Int), .string ⟨n.src.toArray⟩, .string ⟨n.dst.toArray⟩, .string ⟨n.fr.toArray⟩, .int .u64 (n.seq : Int), .slice b13 n.all.length d13, .int .u64 (n.id : Int), .int .i64 n.i, .int .i64 n.n, .string ⟨n.tx.toArray⟩] 27)))
    replace x8 := (Msg.keepC x8 (balloc (Below.refl _ _) (.cells #[.int .u8 (n.kind : Int), .string ⟨n.src.toArray⟩, .string ⟨n.dst.toArray⟩, .string ⟨n.fr.toArray⟩, .int .u64 (n.seq : Int), .slice b13 n.all.length d13, .int .u64 (n.id : Int), .int .i64 n.i, .int .i64 n.n, .string ⟨n.tx.toArray⟩] 27)))
    replace x9 := (Msg.keepC x9 (balloc (Below.refl _ _) (.cells #[.int .u8 (n.kind : Int), .string ⟨n.src.toArray⟩, .string ⟨n.dst.toArray⟩, .string ⟨n.fr.toArray⟩, .int .u64 (n.seq : Int), .slice b13 n.all.length d13, .int .u64 (n.id : Int), .int .i64 n.i, .int .i64 n.n, .string ⟨n.tx.toArray⟩] 27)))
    replace l13 := Lib.hid ((l13.out).below (balloc (Below.refl _ _) (.cells #[.int .u8 (n.kind : Int), .string ⟨n.src.toArray⟩, .string ⟨n.dst.toArray⟩, .string ⟨n.fr.toArray⟩, .int .u64 (n.seq : Int), .slice b13 n.all.length d13, .int .u64 (n.id : Int), .int .i64 n.i, .int .i64 n.n, .string ⟨n.tx.toArray⟩] 27)))
    replace hb := bstep hb (balloc (Below.refl _ _) (.cells #[.int .u8 (n.kind : Int), .string ⟨n.src.toArray⟩, .string ⟨n.dst.toArray⟩, .string ⟨n.fr.toArray⟩, .int .u64 (n.seq : Int), .slice b13 n.all.length d13, .int .u64 (n.id : Int), .int .i64 n.i, .int .i64 n.n, .string ⟨n.tx.toArray⟩] 27))
    go_wp2_with fail
    refine (RefMsg.may_of false r1.out MM.out BL.out _ lm.out).mono ?_
    rintro e v14 ⟨rfl, k14⟩
    replace tab := Lib.hid ((tab.out).below k14)
    replace lm := Lib.hid ((lm.out).below k14)
    replace bm := Lib.hid ((bm.out).below k14)
    replace x0 := (Msg.keepC x0 k14)
    replace x1 := (Msg.keepC x1 k14)
    replace x2 := (Msg.keepC x2 k14)
    replace x3 := (Msg.keepC x3 k14)
    replace x4 := (Msg.keepC x4 k14)
    replace x5 := (Msg.keepC x5 k14)
    replace x6 := (Msg.keepC x6 k14)
    replace x7 := (Msg.keepC x7 k14)
    replace x8 := (Msg.keepC x8 k14)
    replace x9 := (Msg.keepC x9 k14)
    replace l13 := Lib.hid ((l13.out).below k14)
    replace hb := bstep hb k14
    clear k14
    go_wp2_with fail
    refine (works_any _ tab.out).mono ?_
    rintro e v15 ⟨rfl, k15⟩
    replace tab := Lib.hid ((tab.out).below k15)
    replace lm := Lib.hid ((lm.out).below k15)
    replace bm := Lib.hid ((bm.out).below k15)
    replace x0 := (Msg.keepC x0 k15)
    replace x1 := (Msg.keepC x1 k15)
    replace x2 := (Msg.keepC x2 k15)
    replace x3 := (Msg.keepC x3 k15)
    replace x4 := (Msg.keepC x4 k15)
    replace x5 := (Msg.keepC x5 k15)
    replace x6 := (Msg.keepC x6 k15)
    replace x7 := (Msg.keepC x7 k15)
    replace x8 := (Msg.keepC x8 k15)
    replace x9 := (Msg.keepC x9 k15)
    replace l13 := Lib.hid ((l13.out).below k15)
    replace hb := bstep hb k15
    clear k15
    go_wp2
    go_ret
    exact ⟨rfl, hb⟩
  have r2 : fitsB m = true := by unfold mayM at r1; simp only [Bool.and_eq_true] at r1; exact r1.1
  have hne := hno m WM.out.id r1
  obtain ⟨X, hX⟩ : ∃ X, bodyL m = X := ⟨_, rfl⟩
  have hXl : (X == l) = false := by rw [beq_eq_false_iff_ne, ← hX]; exact hne
  clear hne hno
  replace r1 := Lib.hid r1
  replace r2 := Lib.hid r2
  replace hX := Lib.hid hX
  go_enter Tryd.func5, Tryd.ntmps5
  have x0 := bm.out 0 (.int .u8 (m.kind : Int)) rfl
  have x1 := bm.out 1 (.string ⟨m.src.toArray⟩) rfl
  have x2 := bm.out 2 (.string ⟨m.dst.toArray⟩) rfl
  have x3 := bm.out 3 (.string ⟨m.fr.toArray⟩) rfl
  have x4 := bm.out 4 (.int .u64 (m.seq : Int)) rfl
  have x5 := bm.out 5 (.slice a m.all.length c) rfl
  have x6 := bm.out 6 (.int .u64 (m.id : Int)) rfl
  have x7 := bm.out 7 (.int .i64 m.i) rfl
  have x8 := bm.out 8 (.int .i64 m.n) rfl
  have x9 := bm.out 9 (.string ⟨m.tx.toArray⟩) rfl
  go_wp2_with fail
  refine (heavy_is false v1.out WM.out _ lm.out).mono ?_
  rintro e v16 ⟨rfl, k16⟩
  replace tab := Lib.hid ((tab.out).below k16)
  replace lm := Lib.hid ((lm.out).below k16)
  replace bm := Lib.hid ((bm.out).below k16)
  replace x0 := (Msg.keepC x0 k16)
  replace x1 := (Msg.keepC x1 k16)
  replace x2 := (Msg.keepC x2 k16)
  replace x3 := (Msg.keepC x3 k16)
  replace x4 := (Msg.keepC x4 k16)
  replace x5 := (Msg.keepC x5 k16)
  replace x6 := (Msg.keepC x6 k16)
  replace x7 := (Msg.keepC x7 k16)
  replace x8 := (Msg.keepC x8 k16)
  replace x9 := (Msg.keepC x9 k16)
  replace hb := bstep hb k16
  clear k16
  go_wp2_with fail
  refine (put_is R hR.out hl _ tab.out).mono ?_
  rintro e v17 ⟨rfl, k17⟩
  replace tab := Lib.hid ((tab.out).below k17)
  replace lm := Lib.hid ((lm.out).below k17)
  replace bm := Lib.hid ((bm.out).below k17)
  replace x0 := (Msg.keepC x0 k17)
  replace x1 := (Msg.keepC x1 k17)
  replace x2 := (Msg.keepC x2 k17)
  replace x3 := (Msg.keepC x3 k17)
  replace x4 := (Msg.keepC x4 k17)
  replace x5 := (Msg.keepC x5 k17)
  replace x6 := (Msg.keepC x6 k17)
  replace x7 := (Msg.keepC x7 k17)
  replace x8 := (Msg.keepC x8 k17)
  replace x9 := (Msg.keepC x9 k17)
  replace hb := bstep hb k17
  clear k17
  go_wp2_with fail
  refine (dec_is hD.out hRl _ tab.out).mono ?_
  rintro e v18 ⟨b18, d18, rfl, l18, k18⟩
  replace tab := Lib.hid ((tab.out).below k18)
  replace lm := Lib.hid ((lm.out).below k18)
  replace bm := Lib.hid ((bm.out).below k18)
  replace x0 := (Msg.keepC x0 k18)
  replace x1 := (Msg.keepC x1 k18)
  replace x2 := (Msg.keepC x2 k18)
  replace x3 := (Msg.keepC x3 k18)
  replace x4 := (Msg.keepC x4 k18)
  replace x5 := (Msg.keepC x5 k18)
  replace x6 := (Msg.keepC x6 k18)
  replace x7 := (Msg.keepC x7 k18)
  replace x8 := (Msg.keepC x8 k18)
  replace x9 := (Msg.keepC x9 k18)
  replace hb := bstep hb k18
  clear k18
  replace l18 := Lib.hid l18
  have bn : Hid (Box (v18.alloc (.cells #[.int .u8 (n.kind : Int), .string ⟨n.src.toArray⟩, .string ⟨n.dst.toArray⟩, .string ⟨n.fr.toArray⟩, .int .u64 (n.seq : Int), .slice b18 n.all.length d18, .int .u64 (n.id : Int), .int .i64 n.i, .int .i64 n.n, .string ⟨n.tx.toArray⟩] 27)) v18.heap.size #[.int .u8 (n.kind : Int), .string ⟨n.src.toArray⟩, .string ⟨n.dst.toArray⟩, .string ⟨n.fr.toArray⟩, .int .u64 (n.seq : Int), .slice b18 n.all.length d18, .int .u64 (n.id : Int), .int .i64 n.i, .int .i64 n.n, .string ⟨n.tx.toArray⟩]) := Lib.hid (Box.new v18 _ _)
  replace tab := Lib.hid ((tab.out).below (balloc (Below.refl _ _) (.cells #[.int .u8 (n.kind : Int), .string ⟨n.src.toArray⟩, .string ⟨n.dst.toArray⟩, .string ⟨n.fr.toArray⟩, .int .u64 (n.seq : Int), .slice b18 n.all.length d18, .int .u64 (n.id : Int), .int .i64 n.i, .int .i64 n.n, .string ⟨n.tx.toArray⟩] 27)))
  replace lm := Lib.hid ((lm.out).below (balloc (Below.refl _ _) (.cells #[.int .u8 (n.kind : Int), .string ⟨n.src.toArray⟩, .string ⟨n.dst.toArray⟩, .string ⟨n.fr.toArray⟩, .int .u64 (n.seq : Int), .slice b18 n.all.length d18, .int .u64 (n.id : Int), .int .i64 n.i, .int .i64 n.n, .string ⟨n.tx.toArray⟩] 27)))
  replace bm := Lib.hid ((bm.out).below (balloc (Below.refl _ _) (.cells #[.int .u8 (n.kind : Int), .string ⟨n.src.toArray⟩, .string ⟨n.dst.toArray⟩, .string ⟨n.fr.toArray⟩, .int .u64 (n.seq : Int), .slice b18 n.all.length d18, .int .u64 (n.id : Int), .int .i64 n.i, .int .i64 n.n, .string ⟨n.tx.toArray⟩] 27)))
  replace x0 := (Msg.keepC x0 (balloc (Below.refl _ _) (.cells #[.int .u8 (n.kind : Int), .string ⟨n.src.toArray⟩, .string ⟨n.dst.toArray⟩, .string ⟨n.fr.toArray⟩, .int .u64 (n.seq : Int), .slice b18 n.all.length d18, .int .u64 (n.id : Int), .int .i64 n.i, .int .i64 n.n, .string ⟨n.tx.toArray⟩] 27)))
  replace x1 := (Msg.keepC x1 (balloc (Below.refl _ _) (.cells #[.int .u8 (n.kind : Int), .string ⟨n.src.toArray⟩, .string ⟨n.dst.toArray⟩, .string ⟨n.fr.toArray⟩, .int .u64 (n.seq : Int), .slice b18 n.all.length d18, .int .u64 (n.id : Int), .int .i64 n.i, .int .i64 n.n, .string ⟨n.tx.toArray⟩] 27)))
  replace x2 := (Msg.keepC x2 (balloc (Below.refl _ _) (.cells #[.int .u8 (n.kind : Int), .string ⟨n.src.toArray⟩, .string ⟨n.dst.toArray⟩, .string ⟨n.fr.toArray⟩, .int .u64 (n.seq : Int), .slice b18 n.all.length d18, .int .u64 (n.id : Int), .int .i64 n.i, .int .i64 n.n, .string ⟨n.tx.toArray⟩] 27)))
  replace x3 := (Msg.keepC x3 (balloc (Below.refl _ _) (.cells #[.int .u8 (n.kind : Int), .string ⟨n.src.toArray⟩, .string ⟨n.dst.toArray⟩, .string ⟨n.fr.toArray⟩, .int .u64 (n.seq : Int), .slice b18 n.all.length d18, .int .u64 (n.id : Int), .int .i64 n.i, .int .i64 n.n, .string ⟨n.tx.toArray⟩] 27)))
  replace x4 := (Msg.keepC x4 (balloc (Below.refl _ _) (.cells #[.int .u8 (n.kind : Int), .string ⟨n.src.toArray⟩, .string ⟨n.dst.toArray⟩, .string ⟨n.fr.toArray⟩, .int .u64 (n.seq : Int), .slice b18 n.all.length d18, .int .u64 (n.id : Int), .int .i64 n.i, .int .i64 n.n, .string ⟨n.tx.toArray⟩] 27)))
  replace x5 := (Msg.keepC x5 (balloc (Below.refl _ _) (.cells #[.int .u8 (n.kind : Int), .string ⟨n.src.toArray⟩, .string ⟨n.dst.toArray⟩, .string ⟨n.fr.toArray⟩, .int .u64 (n.seq : Int), .slice b18 n.all.length d18, .int .u64 (n.id : Int), .int .i64 n.i, .int .i64 n.n, .string ⟨n.tx.toArray⟩] 27)))
  replace x6 := (Msg.keepC x6 (balloc (Below.refl _ _) (.cells #[.int .u8 (n.kind : Int), .string ⟨n.src.toArray⟩, .string ⟨n.dst.toArray⟩, .string ⟨n.fr.toArray⟩, .int .u64 (n.seq : Int), .slice b18 n.all.length d18, .int .u64 (n.id : Int), .int .i64 n.i, .int .i64 n.n, .string ⟨n.tx.toArray⟩] 27)))
  replace x7 := (Msg.keepC x7 (balloc (Below.refl _ _) (.cells #[.int .u8 (n.kind : Int), .string ⟨n.src.toArray⟩, .string ⟨n.dst.toArray⟩, .string ⟨n.fr.toArray⟩, .int .u64 (n.seq : Int), .slice b18 n.all.length d18, .int .u64 (n.id : Int), .int .i64 n.i, .int .i64 n.n, .string ⟨n.tx.toArray⟩] 27)))
  replace x8 := (Msg.keepC x8 (balloc (Below.refl _ _) (.cells #[.int .u8 (n.kind : Int), .string ⟨n.src.toArray⟩, .string ⟨n.dst.toArray⟩, .string ⟨n.fr.toArray⟩, .int .u64 (n.seq : Int), .slice b18 n.all.length d18, .int .u64 (n.id : Int), .int .i64 n.i, .int .i64 n.n, .string ⟨n.tx.toArray⟩] 27)))
  replace x9 := (Msg.keepC x9 (balloc (Below.refl _ _) (.cells #[.int .u8 (n.kind : Int), .string ⟨n.src.toArray⟩, .string ⟨n.dst.toArray⟩, .string ⟨n.fr.toArray⟩, .int .u64 (n.seq : Int), .slice b18 n.all.length d18, .int .u64 (n.id : Int), .int .i64 n.i, .int .i64 n.n, .string ⟨n.tx.toArray⟩] 27)))
  replace l18 := Lib.hid ((l18.out).below (balloc (Below.refl _ _) (.cells #[.int .u8 (n.kind : Int), .string ⟨n.src.toArray⟩, .string ⟨n.dst.toArray⟩, .string ⟨n.fr.toArray⟩, .int .u64 (n.seq : Int), .slice b18 n.all.length d18, .int .u64 (n.id : Int), .int .i64 n.i, .int .i64 n.n, .string ⟨n.tx.toArray⟩] 27)))
  replace hb := bstep hb (balloc (Below.refl _ _) (.cells #[.int .u8 (n.kind : Int), .string ⟨n.src.toArray⟩, .string ⟨n.dst.toArray⟩, .string ⟨n.fr.toArray⟩, .int .u64 (n.seq : Int), .slice b18 n.all.length d18, .int .u64 (n.id : Int), .int .i64 n.i, .int .i64 n.n, .string ⟨n.tx.toArray⟩] 27))
  go_wp2_with fail
  refine (RefMsg.may_of true r1.out MM.out BL.out _ lm.out).mono ?_
  rintro e v19 ⟨rfl, k19⟩
  replace tab := Lib.hid ((tab.out).below k19)
  replace lm := Lib.hid ((lm.out).below k19)
  replace bm := Lib.hid ((bm.out).below k19)
  replace x0 := (Msg.keepC x0 k19)
  replace x1 := (Msg.keepC x1 k19)
  replace x2 := (Msg.keepC x2 k19)
  replace x3 := (Msg.keepC x3 k19)
  replace x4 := (Msg.keepC x4 k19)
  replace x5 := (Msg.keepC x5 k19)
  replace x6 := (Msg.keepC x6 k19)
  replace x7 := (Msg.keepC x7 k19)
  replace x8 := (Msg.keepC x8 k19)
  replace x9 := (Msg.keepC x9 k19)
  replace l18 := Lib.hid ((l18.out).below k19)
  replace hb := bstep hb k19
  clear k19
  go_wp2_with fail
  refine (RefMsg.text_of X hX.out MM.out r2.out BL.out _ lm.out).mono ?_
  rintro e v20 ⟨rfl, k20⟩
  replace tab := Lib.hid ((tab.out).below k20)
  replace lm := Lib.hid ((lm.out).below k20)
  replace bm := Lib.hid ((bm.out).below k20)
  replace x0 := (Msg.keepC x0 k20)
  replace x1 := (Msg.keepC x1 k20)
  replace x2 := (Msg.keepC x2 k20)
  replace x3 := (Msg.keepC x3 k20)
  replace x4 := (Msg.keepC x4 k20)
  replace x5 := (Msg.keepC x5 k20)
  replace x6 := (Msg.keepC x6 k20)
  replace x7 := (Msg.keepC x7 k20)
  replace x8 := (Msg.keepC x8 k20)
  replace x9 := (Msg.keepC x9 k20)
  replace l18 := Lib.hid ((l18.out).below k20)
  replace hb := bstep hb k20
  clear k20
  go_wp2_with fail
  refine (works_any _ tab.out).mono ?_
  rintro e v21 ⟨rfl, k21⟩
  replace tab := Lib.hid ((tab.out).below k21)
  replace lm := Lib.hid ((lm.out).below k21)
  replace bm := Lib.hid ((bm.out).below k21)
  replace x0 := (Msg.keepC x0 k21)
  replace x1 := (Msg.keepC x1 k21)
  replace x2 := (Msg.keepC x2 k21)
  replace x3 := (Msg.keepC x3 k21)
  replace x4 := (Msg.keepC x4 k21)
  replace x5 := (Msg.keepC x5 k21)
  replace x6 := (Msg.keepC x6 k21)
  replace x7 := (Msg.keepC x7 k21)
  replace x8 := (Msg.keepC x8 k21)
  replace x9 := (Msg.keepC x9 k21)
  replace l18 := Lib.hid ((l18.out).below k21)
  replace hb := bstep hb k21
  clear k21
  go_wp2
  go_ret
  exact ⟨rfl, hb⟩

end MsgText
end Go.Proofs.YtcfimfoccbaepaaDoor
