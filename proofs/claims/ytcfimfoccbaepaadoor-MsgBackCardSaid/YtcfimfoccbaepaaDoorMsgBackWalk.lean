/- MsgBack: the walk. -/
import Derived.Test.YtcfimfoccbaepaaDoorMsgUse
import Derived.Deep.DeepCutAuto
namespace Go.Proofs.YtcfimfoccbaepaaDoor
namespace MsgBack
open Go.RowKit Go.Proofs.YtcfimfoccbaepaaDoor.Mark Go.Proofs.YtcfimfoccbaepaaDoor.Num Go.Proofs.YtcfimfoccbaepaaDoor.Wire Go.Proofs.YtcfimfoccbaepaaDoor.Msg

set_option maxRecDepth 100000 in
set_option maxHeartbeats 16000000 in
theorem walk (m : G) (a : Option Addr) (c : Nat) (s : ByteArray) (w : World) (hm : m.Was) (hlm : Lies w a m.all.length m.all) (hs : s.size ≤ maxLen) (_ : s.size ≤ 140737488351232) (ht : Crc.Tab w) :
    Calls Tryd.prog 4 #[.agg (m.cells a c), .string s] w fun e w' => e = .returned (.bool true) ∧ Below w.heap.size w w' := by
  obtain ⟨l, rfl⟩ : ∃ l : List UInt8, s = ⟨l.toArray⟩ := ⟨s.data.toList, (Str.mk_toList s).symm⟩
  show Calls Tryd.prog 4 #[.agg #[.int .u8 (m.kind : Int), .string ⟨m.src.toArray⟩, .string ⟨m.dst.toArray⟩, .string ⟨m.fr.toArray⟩, .int .u64 (m.seq : Int), .slice a m.all.length c, .int .u64 (m.id : Int), .int .i64 m.i, .int .i64 m.n, .string ⟨m.tx.toArray⟩], .string ⟨l.toArray⟩] w fun e w' => e = .returned (.bool true) ∧ Below w.heap.size w w'
  have hsz := Str.size_mk l
  unfold maxLen at hs
  rw [hsz] at hs
  have hb : Below w.heap.size w (w.alloc (.cells #[.int .u8 (m.kind : Int), .string ⟨m.src.toArray⟩, .string ⟨m.dst.toArray⟩, .string ⟨m.fr.toArray⟩, .int .u64 (m.seq : Int), .slice a m.all.length c, .int .u64 (m.id : Int), .int .i64 m.i, .int .i64 m.n, .string ⟨m.tx.toArray⟩] 27)) := balloc (Below.refl w.heap.size w) _
  have bm : Hid (Box (w.alloc (.cells #[.int .u8 (m.kind : Int), .string ⟨m.src.toArray⟩, .string ⟨m.dst.toArray⟩, .string ⟨m.fr.toArray⟩, .int .u64 (m.seq : Int), .slice a m.all.length c, .int .u64 (m.id : Int), .int .i64 m.i, .int .i64 m.n, .string ⟨m.tx.toArray⟩] 27)) w.heap.size #[.int .u8 (m.kind : Int), .string ⟨m.src.toArray⟩, .string ⟨m.dst.toArray⟩, .string ⟨m.fr.toArray⟩, .int .u64 (m.seq : Int), .slice a m.all.length c, .int .u64 (m.id : Int), .int .i64 m.i, .int .i64 m.n, .string ⟨m.tx.toArray⟩]) := Lib.hid (Box.new w _ _)
  have lm := Lib.hid (hlm.below hb)
  have tab := Lib.hid (ht.below hb)
  have WM := Lib.hid hm
  clear hlm ht hm
  cases v1 : heavyB m
  rotate_left
  · replace v1 := Lib.hid v1
    go_enter Tryd.func4, Tryd.ntmps4
    have x0 := bm.out 0 (.int .u8 (m.kind : Int)) rfl
    have x1 := bm.out 1 (.string ⟨m.src.toArray⟩) rfl
    have x2 := bm.out 2 (.string ⟨m.dst.toArray⟩) rfl
    have x3 := bm.out 3 (.string ⟨m.fr.toArray⟩) rfl
    have x4 := bm.out 4 (.int .u64 (m.seq : Int)) rfl
    have x5 := bm.out 5 (.slice a m.all.length c) rfl
    have x6 := bm.out 6 (.int .u64 (m.id : Int)) rfl
    have x7 := bm.out 7 (.int .i64 m.i) rfl
    have x8 := bm.out 8 (.int .i64 m.n) rfl
    have x9 := bm.out 9 (.string ⟨m.tx.toArray⟩) rfl
    go_wp2_with fail
    refine (heavy_is true v1.out WM.out _ lm.out).mono ?_
    rintro e v1 ⟨rfl, k1⟩
    replace tab := Lib.hid ((tab.out).below k1)
    replace lm := Lib.hid ((lm.out).below k1)
    replace bm := Lib.hid ((bm.out).below k1)
    replace x0 := (Msg.keepC x0 k1)
    replace x1 := (Msg.keepC x1 k1)
    replace x2 := (Msg.keepC x2 k1)
    replace x3 := (Msg.keepC x3 k1)
    replace x4 := (Msg.keepC x4 k1)
    replace x5 := (Msg.keepC x5 k1)
    replace x6 := (Msg.keepC x6 k1)
    replace x7 := (Msg.keepC x7 k1)
    replace x8 := (Msg.keepC x8 k1)
    replace x9 := (Msg.keepC x9 k1)
    replace hb := bstep hb k1
    clear k1
    clear x0 x1 x2 x3 x4 x5 x6 x7 x8 x9
    go_wp2_with fail
    refine (works_any _ tab.out).mono ?_
    rintro e v2 ⟨rfl, k2⟩
    replace tab := Lib.hid ((tab.out).below k2)
    replace lm := Lib.hid ((lm.out).below k2)
    replace bm := Lib.hid ((bm.out).below k2)
    replace hb := bstep hb k2
    clear k2
    go_wp2
    go_ret
    exact ⟨rfl, hb⟩
  replace v1 := Lib.hid v1
  by_cases h0 : 32768 < l.length
  · have d1 : decide ((l.length : Int) > 32768) = true := decide_eq_true (by omega)
    have d2 : decide ((32768 : Int) < (l.length : Int)) = true := decide_eq_true (by omega)
    go_enter Tryd.func4, Tryd.ntmps4
    have x0 := bm.out 0 (.int .u8 (m.kind : Int)) rfl
    have x1 := bm.out 1 (.string ⟨m.src.toArray⟩) rfl
    have x2 := bm.out 2 (.string ⟨m.dst.toArray⟩) rfl
    have x3 := bm.out 3 (.string ⟨m.fr.toArray⟩) rfl
    have x4 := bm.out 4 (.int .u64 (m.seq : Int)) rfl
    have x5 := bm.out 5 (.slice a m.all.length c) rfl
    have x6 := bm.out 6 (.int .u64 (m.id : Int)) rfl
    have x7 := bm.out 7 (.int .i64 m.i) rfl
    have x8 := bm.out 8 (.int .i64 m.n) rfl
    have x9 := bm.out 9 (.string ⟨m.tx.toArray⟩) rfl
    go_wp2_with fail
    refine (heavy_is false v1.out WM.out _ lm.out).mono ?_
    rintro e v3 ⟨rfl, k3⟩
    replace tab := Lib.hid ((tab.out).below k3)
    replace lm := Lib.hid ((lm.out).below k3)
    replace bm := Lib.hid ((bm.out).below k3)
    replace x0 := (Msg.keepC x0 k3)
    replace x1 := (Msg.keepC x1 k3)
    replace x2 := (Msg.keepC x2 k3)
    replace x3 := (Msg.keepC x3 k3)
    replace x4 := (Msg.keepC x4 k3)
    replace x5 := (Msg.keepC x5 k3)
    replace x6 := (Msg.keepC x6 k3)
    replace x7 := (Msg.keepC x7 k3)
    replace x8 := (Msg.keepC x8 k3)
    replace x9 := (Msg.keepC x9 k3)
    replace hb := bstep hb k3
    clear k3
    clear x0 x1 x2 x3 x4 x5 x6 x7 x8 x9
    go_wp2_with fail
    refine (works_any _ tab.out).mono ?_
    rintro e v4 ⟨rfl, k4⟩
    replace tab := Lib.hid ((tab.out).below k4)
    replace lm := Lib.hid ((lm.out).below k4)
    replace bm := Lib.hid ((bm.out).below k4)
    replace hb := bstep hb k4
    clear k4
    go_wp2
    go_ret
    exact ⟨rfl, hb⟩
  have d1 : decide ((l.length : Int) > 32768) = false := decide_eq_false (by omega)
  have d2 : decide ((32768 : Int) < (l.length : Int)) = false := decide_eq_false (by omega)
  have MM := Lib.hid (WM.out.mod v1.out)
  obtain ⟨T, i, hE⟩ : ∃ T i, encR m = (T, i) := ⟨_, _, rfl⟩
  replace hE := Lib.hid hE
  go_enter Tryd.func4, Tryd.ntmps4
  have x0 := bm.out 0 (.int .u8 (m.kind : Int)) rfl
  have x1 := bm.out 1 (.string ⟨m.src.toArray⟩) rfl
  have x2 := bm.out 2 (.string ⟨m.dst.toArray⟩) rfl
  have x3 := bm.out 3 (.string ⟨m.fr.toArray⟩) rfl
  have x4 := bm.out 4 (.int .u64 (m.seq : Int)) rfl
  have x5 := bm.out 5 (.slice a m.all.length c) rfl
  have x6 := bm.out 6 (.int .u64 (m.id : Int)) rfl
  have x7 := bm.out 7 (.int .i64 m.i) rfl
  have x8 := bm.out 8 (.int .i64 m.n) rfl
  have x9 := bm.out 9 (.string ⟨m.tx.toArray⟩) rfl
  go_wp2_with fail
  refine (heavy_is false v1.out WM.out _ lm.out).mono ?_
  rintro e v5 ⟨rfl, k5⟩
  replace tab := Lib.hid ((tab.out).below k5)
  replace lm := Lib.hid ((lm.out).below k5)
  replace bm := Lib.hid ((bm.out).below k5)
  replace x0 := (Msg.keepC x0 k5)
  replace x1 := (Msg.keepC x1 k5)
  replace x2 := (Msg.keepC x2 k5)
  replace x3 := (Msg.keepC x3 k5)
  replace x4 := (Msg.keepC x4 k5)
  replace x5 := (Msg.keepC x5 k5)
  replace x6 := (Msg.keepC x6 k5)
  replace x7 := (Msg.keepC x7 k5)
  replace x8 := (Msg.keepC x8 k5)
  replace x9 := (Msg.keepC x9 k5)
  replace hb := bstep hb k5
  clear k5
  go_wp2_with fail
  refine (copied_is MM.out _ lm.out).mono ?_
  rintro e v6 ⟨b6, d6, rfl, l6, -, k6⟩
  replace tab := Lib.hid ((tab.out).below k6)
  replace lm := Lib.hid ((lm.out).below k6)
  replace bm := Lib.hid ((bm.out).below k6)
  replace x0 := (Msg.keepC x0 k6)
  replace x1 := (Msg.keepC x1 k6)
  replace x2 := (Msg.keepC x2 k6)
  replace x3 := (Msg.keepC x3 k6)
  replace x4 := (Msg.keepC x4 k6)
  replace x5 := (Msg.keepC x5 k6)
  replace x6 := (Msg.keepC x6 k6)
  replace x7 := (Msg.keepC x7 k6)
  replace x8 := (Msg.keepC x8 k6)
  replace x9 := (Msg.keepC x9 k6)
  replace hb := bstep hb k6
  clear k6
  replace l6 := Lib.hid l6
  clear x0 x1 x2 x3 x4 x5 x6 x7 x8 x9
  go_wp2_with fail
  refine (enc_is T i hE.out MM.out _ l6.out tab.out).mono ?_
  rintro e v7 ⟨rfl, k7⟩
  replace tab := Lib.hid ((tab.out).below k7)
  replace lm := Lib.hid ((lm.out).below k7)
  replace bm := Lib.hid ((bm.out).below k7)
  replace l6 := Lib.hid ((l6.out).below k7)
  replace hb := bstep hb k7
  clear k7
  clear l6
  go_upto_if 31 with (fail)
  go_cut [] (fun wx => Below w.heap.size w wx ∧ Crc.Tab wx ∧ Lies wx a m.all.length m.all ∧ Box wx w.heap.size #[.int .u8 (m.kind : Int), .string ⟨m.src.toArray⟩, .string ⟨m.dst.toArray⟩, .string ⟨m.fr.toArray⟩, .int .u64 (m.seq : Int), .slice a m.all.length c, .int .u64 (m.id : Int), .int .i64 m.i, .int .i64 m.n, .string ⟨m.tx.toArray⟩])
  case first =>
    cases ei : (i == 0)
    · skip
      have hi : i ≠ 0 := fun e => by rw [e] at ei; cases ei
      clear hi
      go_wp2_with fail
      go_meet
      exact ⟨hb, tab.out, lm.out, bm.out⟩
    · skip
      have hi : i = 0 := by simpa using ei
      obtain ⟨q1, q2, q3, q4⟩ := enc_ok hE.out hi WM.out.id
      replace q1 := Lib.hid q1
      replace hi := Lib.hid hi
      clear q3 q4
      have tz := Str.size_mk T
      have d3 : decide ((T.length : Int) > 16384) = false := decide_eq_false (by omega)
      have d4 : decide ((16384 : Int) < (T.length : Int)) = false := decide_eq_false (by omega)
      have hTl : T.length ≤ 1099511627776 := by omega
      go_wp2_with fail
      refine (dec_is q1.out hTl _ tab.out).mono ?_
      rintro e v8 ⟨b8, d8, rfl, l8, k8⟩
      replace tab := Lib.hid ((tab.out).below k8)
      replace lm := Lib.hid ((lm.out).below k8)
      replace bm := Lib.hid ((bm.out).below k8)
      replace hb := bstep hb k8
      clear k8
      replace l8 := Lib.hid l8
      have bn : Hid (Box (v8.alloc (.cells #[.int .u8 (m.kind : Int), .string ⟨m.src.toArray⟩, .string ⟨m.dst.toArray⟩, .string ⟨m.fr.toArray⟩, .int .u64 (m.seq : Int), .slice b8 m.all.length d8, .int .u64 (m.id : Int), .int .i64 m.i, .int .i64 m.n, .string ⟨m.tx.toArray⟩] 27)) v8.heap.size #[.int .u8 (m.kind : Int), .string ⟨m.src.toArray⟩, .string ⟨m.dst.toArray⟩, .string ⟨m.fr.toArray⟩, .int .u64 (m.seq : Int), .slice b8 m.all.length d8, .int .u64 (m.id : Int), .int .i64 m.i, .int .i64 m.n, .string ⟨m.tx.toArray⟩]) := Lib.hid (Box.new v8 _ _)
      replace tab := Lib.hid ((tab.out).below (balloc (Below.refl _ _) (.cells #[.int .u8 (m.kind : Int), .string ⟨m.src.toArray⟩, .string ⟨m.dst.toArray⟩, .string ⟨m.fr.toArray⟩, .int .u64 (m.seq : Int), .slice b8 m.all.length d8, .int .u64 (m.id : Int), .int .i64 m.i, .int .i64 m.n, .string ⟨m.tx.toArray⟩] 27)))
      replace lm := Lib.hid ((lm.out).below (balloc (Below.refl _ _) (.cells #[.int .u8 (m.kind : Int), .string ⟨m.src.toArray⟩, .string ⟨m.dst.toArray⟩, .string ⟨m.fr.toArray⟩, .int .u64 (m.seq : Int), .slice b8 m.all.length d8, .int .u64 (m.id : Int), .int .i64 m.i, .int .i64 m.n, .string ⟨m.tx.toArray⟩] 27)))
      replace bm := Lib.hid ((bm.out).below (balloc (Below.refl _ _) (.cells #[.int .u8 (m.kind : Int), .string ⟨m.src.toArray⟩, .string ⟨m.dst.toArray⟩, .string ⟨m.fr.toArray⟩, .int .u64 (m.seq : Int), .slice b8 m.all.length d8, .int .u64 (m.id : Int), .int .i64 m.i, .int .i64 m.n, .string ⟨m.tx.toArray⟩] 27)))
      replace l8 := Lib.hid ((l8.out).below (balloc (Below.refl _ _) (.cells #[.int .u8 (m.kind : Int), .string ⟨m.src.toArray⟩, .string ⟨m.dst.toArray⟩, .string ⟨m.fr.toArray⟩, .int .u64 (m.seq : Int), .slice b8 m.all.length d8, .int .u64 (m.id : Int), .int .i64 m.i, .int .i64 m.n, .string ⟨m.tx.toArray⟩] 27)))
      replace hb := bstep hb (balloc (Below.refl _ _) (.cells #[.int .u8 (m.kind : Int), .string ⟨m.src.toArray⟩, .string ⟨m.dst.toArray⟩, .string ⟨m.fr.toArray⟩, .int .u64 (m.seq : Int), .slice b8 m.all.length d8, .int .u64 (m.id : Int), .int .i64 m.i, .int .i64 m.n, .string ⟨m.tx.toArray⟩] 27))
      have x0 := bm.out 0 (.int .u8 (m.kind : Int)) rfl
      have x1 := bm.out 1 (.string ⟨m.src.toArray⟩) rfl
      have x2 := bm.out 2 (.string ⟨m.dst.toArray⟩) rfl
      have x3 := bm.out 3 (.string ⟨m.fr.toArray⟩) rfl
      have x4 := bm.out 4 (.int .u64 (m.seq : Int)) rfl
      have x5 := bm.out 5 (.slice a m.all.length c) rfl
      have x6 := bm.out 6 (.int .u64 (m.id : Int)) rfl
      have x7 := bm.out 7 (.int .i64 m.i) rfl
      have x8 := bm.out 8 (.int .i64 m.n) rfl
      have x9 := bm.out 9 (.string ⟨m.tx.toArray⟩) rfl
      have z0 := bn.out 0 (.int .u8 (m.kind : Int)) rfl
      have z1 := bn.out 1 (.string ⟨m.src.toArray⟩) rfl
      have z2 := bn.out 2 (.string ⟨m.dst.toArray⟩) rfl
      have z3 := bn.out 3 (.string ⟨m.fr.toArray⟩) rfl
      have z4 := bn.out 4 (.int .u64 (m.seq : Int)) rfl
      have z5 := bn.out 5 (.slice b8 m.all.length d8) rfl
      have z6 := bn.out 6 (.int .u64 (m.id : Int)) rfl
      have z7 := bn.out 7 (.int .i64 m.i) rfl
      have z8 := bn.out 8 (.int .i64 m.n) rfl
      have z9 := bn.out 9 (.string ⟨m.tx.toArray⟩) rfl
      have mlen : m.all.length ≤ 1099511627776 := by have := MM.out.len; omega
      go_wp2_with fail
      refine (same_is (n := m) true (by simp) _ lm.out l8.out mlen).mono ?_
      rintro e v9 ⟨rfl, k9⟩
      replace tab := Lib.hid ((tab.out).below k9)
      replace lm := Lib.hid ((lm.out).below k9)
      replace bm := Lib.hid ((bm.out).below k9)
      replace l8 := Lib.hid ((l8.out).below k9)
      replace x0 := (Msg.keepC x0 k9)
      replace x1 := (Msg.keepC x1 k9)
      replace x2 := (Msg.keepC x2 k9)
      replace x3 := (Msg.keepC x3 k9)
      replace x4 := (Msg.keepC x4 k9)
      replace x5 := (Msg.keepC x5 k9)
      replace x6 := (Msg.keepC x6 k9)
      replace x7 := (Msg.keepC x7 k9)
      replace x8 := (Msg.keepC x8 k9)
      replace x9 := (Msg.keepC x9 k9)
      replace hb := bstep hb k9
      clear k9
      clear l8 bn z0 z1 z2 z3 z4 z5 z6 z7 z8 z9
      clear x0 x1 x2 x3 x4 x5 x6 x7 x8 x9
      go_wp2_with fail
      go_meet
      exact ⟨hb, tab.out, lm.out, bm.out⟩
  clear hb tab lm bm
  obtain ⟨hb, tab, lm, bm⟩ := hcut
  replace tab := Lib.hid tab
  replace lm := Lib.hid lm
  replace bm := Lib.hid bm
  obtain ⟨n, g, hD⟩ : ∃ n g, decG l = (n, g) := ⟨_, _, rfl⟩
  obtain ⟨t, r, h, hC⟩ : ∃ t r h, Frame.cutL l = (t, r, h) := ⟨_, _, _, rfl⟩
  have hN := Lib.hid (dec_mod hD)
  have hl : l.length ≤ 1099511627776 := by omega
  by_cases h1 : 16384 < l.length
  · rw [dec_long h1] at hD
    simp only [Prod.mk.injEq] at hD
    obtain ⟨hz, rfl⟩ := hD
    have hD : decG l = (n, 4) := by rw [dec_long h1, hz]
    replace hz := Lib.hid hz
    have e1 : decide ((l.length : Int) > 16384) = true := decide_eq_true (by omega)
    have e2 : decide ((16384 : Int) < (l.length : Int)) = true := decide_eq_true (by omega)
    replace hD := Lib.hid hD
    replace hC := Lib.hid hC
    go_wp2_with fail
    refine (dec_is hD.out hl _ tab.out).mono ?_
    rintro e v10 ⟨b10, d10, rfl, l10, k10⟩
    replace tab := Lib.hid ((tab.out).below k10)
    replace lm := Lib.hid ((lm.out).below k10)
    replace bm := Lib.hid ((bm.out).below k10)
    replace hb := bstep hb k10
    clear k10
    replace l10 := Lib.hid l10
    have bn : Hid (Box (v10.alloc (.cells #[.int .u8 (n.kind : Int), .string ⟨n.src.toArray⟩, .string ⟨n.dst.toArray⟩, .string ⟨n.fr.toArray⟩, .int .u64 (n.seq : Int), .slice b10 n.all.length d10, .int .u64 (n.id : Int), .int .i64 n.i, .int .i64 n.n, .string ⟨n.tx.toArray⟩] 27)) v10.heap.size #[.int .u8 (n.kind : Int), .string ⟨n.src.toArray⟩, .string ⟨n.dst.toArray⟩, .string ⟨n.fr.toArray⟩, .int .u64 (n.seq : Int), .slice b10 n.all.length d10, .int .u64 (n.id : Int), .int .i64 n.i, .int .i64 n.n, .string ⟨n.tx.toArray⟩]) := Lib.hid (Box.new v10 _ _)
    replace tab := Lib.hid ((tab.out).below (balloc (Below.refl _ _) (.cells #[.int .u8 (n.kind : Int), .string ⟨n.src.toArray⟩, .string ⟨n.dst.toArray⟩, .string ⟨n.fr.toArray⟩, .int .u64 (n.seq : Int), .slice b10 n.all.length d10, .int .u64 (n.id : Int), .int .i64 n.i, .int .i64 n.n, .string ⟨n.tx.toArray⟩] 27)))
    replace lm := Lib.hid ((lm.out).below (balloc (Below.refl _ _) (.cells #[.int .u8 (n.kind : Int), .string ⟨n.src.toArray⟩, .string ⟨n.dst.toArray⟩, .string ⟨n.fr.toArray⟩, .int .u64 (n.seq : Int), .slice b10 n.all.length d10, .int .u64 (n.id : Int), .int .i64 n.i, .int .i64 n.n, .string ⟨n.tx.toArray⟩] 27)))
    replace bm := Lib.hid ((bm.out).below (balloc (Below.refl _ _) (.cells #[.int .u8 (n.kind : Int), .string ⟨n.src.toArray⟩, .string ⟨n.dst.toArray⟩, .string ⟨n.fr.toArray⟩, .int .u64 (n.seq : Int), .slice b10 n.all.length d10, .int .u64 (n.id : Int), .int .i64 n.i, .int .i64 n.n, .string ⟨n.tx.toArray⟩] 27)))
    replace l10 := Lib.hid ((l10.out).below (balloc (Below.refl _ _) (.cells #[.int .u8 (n.kind : Int), .string ⟨n.src.toArray⟩, .string ⟨n.dst.toArray⟩, .string ⟨n.fr.toArray⟩, .int .u64 (n.seq : Int), .slice b10 n.all.length d10, .int .u64 (n.id : Int), .int .i64 n.i, .int .i64 n.n, .string ⟨n.tx.toArray⟩] 27)))
    replace hb := bstep hb (balloc (Below.refl _ _) (.cells #[.int .u8 (n.kind : Int), .string ⟨n.src.toArray⟩, .string ⟨n.dst.toArray⟩, .string ⟨n.fr.toArray⟩, .int .u64 (n.seq : Int), .slice b10 n.all.length d10, .int .u64 (n.id : Int), .int .i64 n.i, .int .i64 n.n, .string ⟨n.tx.toArray⟩] 27))
    go_wp2_with fail
    refine (cut_is hC.out hl _ tab.out).mono ?_
    rintro e v11 ⟨rfl, k11⟩
    replace tab := Lib.hid ((tab.out).below k11)
    replace lm := Lib.hid ((lm.out).below k11)
    replace bm := Lib.hid ((bm.out).below k11)
    replace l10 := Lib.hid ((l10.out).below k11)
    replace bn := Lib.hid ((bn.out).below k11)
    replace hb := bstep hb k11
    clear k11
    go_wp2_with fail
    refine (works_any _ tab.out).mono ?_
    rintro e v12 ⟨rfl, k12⟩
    replace tab := Lib.hid ((tab.out).below k12)
    replace lm := Lib.hid ((lm.out).below k12)
    replace bm := Lib.hid ((bm.out).below k12)
    replace l10 := Lib.hid ((l10.out).below k12)
    replace bn := Lib.hid ((bn.out).below k12)
    replace hb := bstep hb k12
    clear k12
    go_wp2
    go_ret
    exact ⟨rfl, hb⟩
  have h1 : l.length ≤ 16384 := by omega
  have e1 : decide ((l.length : Int) > 16384) = false := decide_eq_false (by omega)
  have e2 : decide ((16384 : Int) < (l.length : Int)) = false := decide_eq_false (by omega)
  cases e3 : (h == 0)
  · have hh : h ≠ 0 := fun e => by rw [e] at e3; cases e3
    have n3 : (h != 0) = true := by rw [bne, e3]; rfl
    have hZ := hD
    rw [dec_bad h1 hC hh] at hZ
    simp only [Prod.mk.injEq] at hZ
    obtain ⟨hz, hg⟩ := hZ
    subst hg
    replace hz := Lib.hid hz.symm
    replace hh := Lib.hid hh
    replace hD := Lib.hid hD
    replace hC := Lib.hid hC
    go_wp2_with fail
    refine (dec_is hD.out hl _ tab.out).mono ?_
    rintro e v13 ⟨b13, d13, rfl, l13, k13⟩
    replace tab := Lib.hid ((tab.out).below k13)
    replace lm := Lib.hid ((lm.out).below k13)
    replace bm := Lib.hid ((bm.out).below k13)
    replace hb := bstep hb k13
    clear k13
    replace l13 := Lib.hid l13
    have bn : Hid (Box (v13.alloc (.cells #[.int .u8 (n.kind : Int), .string ⟨n.src.toArray⟩, .string ⟨n.dst.toArray⟩, .string ⟨n.fr.toArray⟩, .int .u64 (n.seq : Int), .slice b13 n.all.length d13, .int .u64 (n.id : Int), .int .i64 n.i, .int .i64 n.n, .string ⟨n.tx.toArray⟩] 27)) v13.heap.size #[.int .u8 (n.kind : Int), .string ⟨n.src.toArray⟩, .string ⟨n.dst.toArray⟩, .string ⟨n.fr.toArray⟩, .int .u64 (n.seq : Int), .slice b13 n.all.length d13, .int .u64 (n.id : Int), .int .i64 n.i, .int .i64 n.n, .string ⟨n.tx.toArray⟩]) := Lib.hid (Box.new v13 _ _)
    replace tab := Lib.hid ((tab.out).below (balloc (Below.refl _ _) (.cells #[.int .u8 (n.kind : Int), .string ⟨n.src.toArray⟩, .string ⟨n.dst.toArray⟩, .string ⟨n.fr.toArray⟩, .int .u64 (n.seq : Int), .slice b13 n.all.length d13, .int .u64 (n.id : Int), .int .i64 n.i, .int .i64 n.n, .string ⟨n.tx.toArray⟩] 27)))
    replace lm := Lib.hid ((lm.out).below (balloc (Below.refl _ _) (.cells #[.int .u8 (n.kind : Int), .string ⟨n.src.toArray⟩, .string ⟨n.dst.toArray⟩, .string ⟨n.fr.toArray⟩, .int .u64 (n.seq : Int), .slice b13 n.all.length d13, .int .u64 (n.id : Int), .int .i64 n.i, .int .i64 n.n, .string ⟨n.tx.toArray⟩] 27)))
    replace bm := Lib.hid ((bm.out).below (balloc (Below.refl _ _) (.cells #[.int .u8 (n.kind : Int), .string ⟨n.src.toArray⟩, .string ⟨n.dst.toArray⟩, .string ⟨n.fr.toArray⟩, .int .u64 (n.seq : Int), .slice b13 n.all.length d13, .int .u64 (n.id : Int), .int .i64 n.i, .int .i64 n.n, .string ⟨n.tx.toArray⟩] 27)))
    replace l13 := Lib.hid ((l13.out).below (balloc (Below.refl _ _) (.cells #[.int .u8 (n.kind : Int), .string ⟨n.src.toArray⟩, .string ⟨n.dst.toArray⟩, .string ⟨n.fr.toArray⟩, .int .u64 (n.seq : Int), .slice b13 n.all.length d13, .int .u64 (n.id : Int), .int .i64 n.i, .int .i64 n.n, .string ⟨n.tx.toArray⟩] 27)))
    replace hb := bstep hb (balloc (Below.refl _ _) (.cells #[.int .u8 (n.kind : Int), .string ⟨n.src.toArray⟩, .string ⟨n.dst.toArray⟩, .string ⟨n.fr.toArray⟩, .int .u64 (n.seq : Int), .slice b13 n.all.length d13, .int .u64 (n.id : Int), .int .i64 n.i, .int .i64 n.n, .string ⟨n.tx.toArray⟩] 27))
    go_wp2_with fail
    refine (cut_is hC.out hl _ tab.out).mono ?_
    rintro e v14 ⟨rfl, k14⟩
    replace tab := Lib.hid ((tab.out).below k14)
    replace lm := Lib.hid ((lm.out).below k14)
    replace bm := Lib.hid ((bm.out).below k14)
    replace l13 := Lib.hid ((l13.out).below k14)
    replace bn := Lib.hid ((bn.out).below k14)
    replace hb := bstep hb k14
    clear k14
    have z0 := bn.out 0 (.int .u8 (n.kind : Int)) rfl
    have z1 := bn.out 1 (.string ⟨n.src.toArray⟩) rfl
    have z2 := bn.out 2 (.string ⟨n.dst.toArray⟩) rfl
    have z3 := bn.out 3 (.string ⟨n.fr.toArray⟩) rfl
    have z4 := bn.out 4 (.int .u64 (n.seq : Int)) rfl
    have z5 := bn.out 5 (.slice b13 n.all.length d13) rfl
    have z6 := bn.out 6 (.int .u64 (n.id : Int)) rfl
    have z7 := bn.out 7 (.int .i64 n.i) rfl
    have z8 := bn.out 8 (.int .i64 n.n) rfl
    have z9 := bn.out 9 (.string ⟨n.tx.toArray⟩) rfl
    go_wp2_with fail
    refine (same_zero hz.out _ l13.out).mono ?_
    rintro e v15 ⟨rfl, k15⟩
    replace tab := Lib.hid ((tab.out).below k15)
    replace lm := Lib.hid ((lm.out).below k15)
    replace bm := Lib.hid ((bm.out).below k15)
    replace l13 := Lib.hid ((l13.out).below k15)
    replace bn := Lib.hid ((bn.out).below k15)
    replace z0 := (Msg.keepC z0 k15)
    replace z1 := (Msg.keepC z1 k15)
    replace z2 := (Msg.keepC z2 k15)
    replace z3 := (Msg.keepC z3 k15)
    replace z4 := (Msg.keepC z4 k15)
    replace z5 := (Msg.keepC z5 k15)
    replace z6 := (Msg.keepC z6 k15)
    replace z7 := (Msg.keepC z7 k15)
    replace z8 := (Msg.keepC z8 k15)
    replace z9 := (Msg.keepC z9 k15)
    replace hb := bstep hb k15
    clear k15
    clear z0 z1 z2 z3 z4 z5 z6 z7 z8 z9
    go_wp2_with fail
    refine (works_any _ tab.out).mono ?_
    rintro e v16 ⟨rfl, k16⟩
    replace tab := Lib.hid ((tab.out).below k16)
    replace lm := Lib.hid ((lm.out).below k16)
    replace bm := Lib.hid ((bm.out).below k16)
    replace l13 := Lib.hid ((l13.out).below k16)
    replace bn := Lib.hid ((bn.out).below k16)
    replace hb := bstep hb k16
    clear k16
    go_wp2
    go_ret
    exact ⟨rfl, hb⟩
  have hh : h = 0 := by simpa using e3
  subst hh
  clear e3
  cases e4 : (r == [])
  · have hr : r ≠ [] := fun e => by rw [e] at e4; cases e4
    have n4 : (r != []) = true := by rw [bne, e4]; rfl
    have hZ := hD
    rw [dec_rest h1 hC hr] at hZ
    simp only [Prod.mk.injEq] at hZ
    obtain ⟨hz, hg⟩ := hZ
    subst hg
    replace hz := Lib.hid hz.symm
    replace hr := Lib.hid hr
    replace hD := Lib.hid hD
    replace hC := Lib.hid hC
    go_wp2_with fail
    refine (dec_is hD.out hl _ tab.out).mono ?_
    rintro e v17 ⟨b17, d17, rfl, l17, k17⟩
    replace tab := Lib.hid ((tab.out).below k17)
    replace lm := Lib.hid ((lm.out).below k17)
    replace bm := Lib.hid ((bm.out).below k17)
    replace hb := bstep hb k17
    clear k17
    replace l17 := Lib.hid l17
    have bn : Hid (Box (v17.alloc (.cells #[.int .u8 (n.kind : Int), .string ⟨n.src.toArray⟩, .string ⟨n.dst.toArray⟩, .string ⟨n.fr.toArray⟩, .int .u64 (n.seq : Int), .slice b17 n.all.length d17, .int .u64 (n.id : Int), .int .i64 n.i, .int .i64 n.n, .string ⟨n.tx.toArray⟩] 27)) v17.heap.size #[.int .u8 (n.kind : Int), .string ⟨n.src.toArray⟩, .string ⟨n.dst.toArray⟩, .string ⟨n.fr.toArray⟩, .int .u64 (n.seq : Int), .slice b17 n.all.length d17, .int .u64 (n.id : Int), .int .i64 n.i, .int .i64 n.n, .string ⟨n.tx.toArray⟩]) := Lib.hid (Box.new v17 _ _)
    replace tab := Lib.hid ((tab.out).below (balloc (Below.refl _ _) (.cells #[.int .u8 (n.kind : Int), .string ⟨n.src.toArray⟩, .string ⟨n.dst.toArray⟩, .string ⟨n.fr.toArray⟩, .int .u64 (n.seq : Int), .slice b17 n.all.length d17, .int .u64 (n.id : Int), .int .i64 n.i, .int .i64 n.n, .string ⟨n.tx.toArray⟩] 27)))
    replace lm := Lib.hid ((lm.out).below (balloc (Below.refl _ _) (.cells #[.int .u8 (n.kind : Int), .string ⟨n.src.toArray⟩, .string ⟨n.dst.toArray⟩, .string ⟨n.fr.toArray⟩, .int .u64 (n.seq : Int), .slice b17 n.all.length d17, .int .u64 (n.id : Int), .int .i64 n.i, .int .i64 n.n, .string ⟨n.tx.toArray⟩] 27)))
    replace bm := Lib.hid ((bm.out).below (balloc (Below.refl _ _) (.cells #[.int .u8 (n.kind : Int), .string ⟨n.src.toArray⟩, .string ⟨n.dst.toArray⟩, .string ⟨n.fr.toArray⟩, .int .u64 (n.seq : Int), .slice b17 n.all.length d17, .int .u64 (n.id : Int), .int .i64 n.i, .int .i64 n.n, .string ⟨n.tx.toArray⟩] 27)))
    replace l17 := Lib.hid ((l17.out).below (balloc (Below.refl _ _) (.cells #[.int .u8 (n.kind : Int), .string ⟨n.src.toArray⟩, .string ⟨n.dst.toArray⟩, .string ⟨n.fr.toArray⟩, .int .u64 (n.seq : Int), .slice b17 n.all.length d17, .int .u64 (n.id : Int), .int .i64 n.i, .int .i64 n.n, .string ⟨n.tx.toArray⟩] 27)))
    replace hb := bstep hb (balloc (Below.refl _ _) (.cells #[.int .u8 (n.kind : Int), .string ⟨n.src.toArray⟩, .string ⟨n.dst.toArray⟩, .string ⟨n.fr.toArray⟩, .int .u64 (n.seq : Int), .slice b17 n.all.length d17, .int .u64 (n.id : Int), .int .i64 n.i, .int .i64 n.n, .string ⟨n.tx.toArray⟩] 27))
    go_wp2_with fail
    refine (cut_is hC.out hl _ tab.out).mono ?_
    rintro e v18 ⟨rfl, k18⟩
    replace tab := Lib.hid ((tab.out).below k18)
    replace lm := Lib.hid ((lm.out).below k18)
    replace bm := Lib.hid ((bm.out).below k18)
    replace l17 := Lib.hid ((l17.out).below k18)
    replace bn := Lib.hid ((bn.out).below k18)
    replace hb := bstep hb k18
    clear k18
    go_wp2_with fail
    refine (works_any _ tab.out).mono ?_
    rintro e v19 ⟨rfl, k19⟩
    replace tab := Lib.hid ((tab.out).below k19)
    replace lm := Lib.hid ((lm.out).below k19)
    replace bm := Lib.hid ((bm.out).below k19)
    replace l17 := Lib.hid ((l17.out).below k19)
    replace bn := Lib.hid ((bn.out).below k19)
    replace hb := bstep hb k19
    clear k19
    go_wp2
    go_ret
    exact ⟨rfl, hb⟩
  have n4 : (r != []) = false := by rw [bne, e4]; rfl
  cases e5 : (g == 0)
  · have hg : g ≠ 0 := fun e => by rw [e] at e5; cases e5
    obtain ⟨hz, h8⟩ := dec_form h1 hC hD hg
    subst h8
    clear hg e5
    replace hz := Lib.hid hz
    replace hD := Lib.hid hD
    replace hC := Lib.hid hC
    go_wp2_with fail
    refine (dec_is hD.out hl _ tab.out).mono ?_
    rintro e v20 ⟨b20, d20, rfl, l20, k20⟩
    replace tab := Lib.hid ((tab.out).below k20)
    replace lm := Lib.hid ((lm.out).below k20)
    replace bm := Lib.hid ((bm.out).below k20)
    replace hb := bstep hb k20
    clear k20
    replace l20 := Lib.hid l20
    have bn : Hid (Box (v20.alloc (.cells #[.int .u8 (n.kind : Int), .string ⟨n.src.toArray⟩, .string ⟨n.dst.toArray⟩, .string ⟨n.fr.toArray⟩, .int .u64 (n.seq : Int), .slice b20 n.all.length d20, .int .u64 (n.id : Int), .int .i64 n.i, .int .i64 n.n, .string ⟨n.tx.toArray⟩] 27)) v20.heap.size #[.int .u8 (n.kind : Int), .string ⟨n.src.toArray⟩, .string ⟨n.dst.toArray⟩, .string ⟨n.fr.toArray⟩, .int .u64 (n.seq : Int), .slice b20 n.all.length d20, .int .u64 (n.id : Int), .int .i64 n.i, .int .i64 n.n, .string ⟨n.tx.toArray⟩]) := Lib.hid (Box.new v20 _ _)
    replace tab := Lib.hid ((tab.out).below (balloc (Below.refl _ _) (.cells #[.int .u8 (n.kind : Int), .string ⟨n.src.toArray⟩, .string ⟨n.dst.toArray⟩, .string ⟨n.fr.toArray⟩, .int .u64 (n.seq : Int), .slice b20 n.all.length d20, .int .u64 (n.id : Int), .int .i64 n.i, .int .i64 n.n, .string ⟨n.tx.toArray⟩] 27)))
    replace lm := Lib.hid ((lm.out).below (balloc (Below.refl _ _) (.cells #[.int .u8 (n.kind : Int), .string ⟨n.src.toArray⟩, .string ⟨n.dst.toArray⟩, .string ⟨n.fr.toArray⟩, .int .u64 (n.seq : Int), .slice b20 n.all.length d20, .int .u64 (n.id : Int), .int .i64 n.i, .int .i64 n.n, .string ⟨n.tx.toArray⟩] 27)))
    replace bm := Lib.hid ((bm.out).below (balloc (Below.refl _ _) (.cells #[.int .u8 (n.kind : Int), .string ⟨n.src.toArray⟩, .string ⟨n.dst.toArray⟩, .string ⟨n.fr.toArray⟩, .int .u64 (n.seq : Int), .slice b20 n.all.length d20, .int .u64 (n.id : Int), .int .i64 n.i, .int .i64 n.n, .string ⟨n.tx.toArray⟩] 27)))
    replace l20 := Lib.hid ((l20.out).below (balloc (Below.refl _ _) (.cells #[.int .u8 (n.kind : Int), .string ⟨n.src.toArray⟩, .string ⟨n.dst.toArray⟩, .string ⟨n.fr.toArray⟩, .int .u64 (n.seq : Int), .slice b20 n.all.length d20, .int .u64 (n.id : Int), .int .i64 n.i, .int .i64 n.n, .string ⟨n.tx.toArray⟩] 27)))
    replace hb := bstep hb (balloc (Below.refl _ _) (.cells #[.int .u8 (n.kind : Int), .string ⟨n.src.toArray⟩, .string ⟨n.dst.toArray⟩, .string ⟨n.fr.toArray⟩, .int .u64 (n.seq : Int), .slice b20 n.all.length d20, .int .u64 (n.id : Int), .int .i64 n.i, .int .i64 n.n, .string ⟨n.tx.toArray⟩] 27))
    go_wp2_with fail
    refine (cut_is hC.out hl _ tab.out).mono ?_
    rintro e v21 ⟨rfl, k21⟩
    replace tab := Lib.hid ((tab.out).below k21)
    replace lm := Lib.hid ((lm.out).below k21)
    replace bm := Lib.hid ((bm.out).below k21)
    replace l20 := Lib.hid ((l20.out).below k21)
    replace bn := Lib.hid ((bn.out).below k21)
    replace hb := bstep hb k21
    clear k21
    have z0 := bn.out 0 (.int .u8 (n.kind : Int)) rfl
    have z1 := bn.out 1 (.string ⟨n.src.toArray⟩) rfl
    have z2 := bn.out 2 (.string ⟨n.dst.toArray⟩) rfl
    have z3 := bn.out 3 (.string ⟨n.fr.toArray⟩) rfl
    have z4 := bn.out 4 (.int .u64 (n.seq : Int)) rfl
    have z5 := bn.out 5 (.slice b20 n.all.length d20) rfl
    have z6 := bn.out 6 (.int .u64 (n.id : Int)) rfl
    have z7 := bn.out 7 (.int .i64 n.i) rfl
    have z8 := bn.out 8 (.int .i64 n.n) rfl
    have z9 := bn.out 9 (.string ⟨n.tx.toArray⟩) rfl
    go_wp2_with fail
    refine (same_zero hz.out _ l20.out).mono ?_
    rintro e v22 ⟨rfl, k22⟩
    replace tab := Lib.hid ((tab.out).below k22)
    replace lm := Lib.hid ((lm.out).below k22)
    replace bm := Lib.hid ((bm.out).below k22)
    replace l20 := Lib.hid ((l20.out).below k22)
    replace bn := Lib.hid ((bn.out).below k22)
    replace z0 := (Msg.keepC z0 k22)
    replace z1 := (Msg.keepC z1 k22)
    replace z2 := (Msg.keepC z2 k22)
    replace z3 := (Msg.keepC z3 k22)
    replace z4 := (Msg.keepC z4 k22)
    replace z5 := (Msg.keepC z5 k22)
    replace z6 := (Msg.keepC z6 k22)
    replace z7 := (Msg.keepC z7 k22)
    replace z8 := (Msg.keepC z8 k22)
    replace z9 := (Msg.keepC z9 k22)
    replace hb := bstep hb k22
    clear k22
    clear z0 z1 z2 z3 z4 z5 z6 z7 z8 z9
    go_wp2_with fail
    refine (works_any _ tab.out).mono ?_
    rintro e v23 ⟨rfl, k23⟩
    replace tab := Lib.hid ((tab.out).below k23)
    replace lm := Lib.hid ((lm.out).below k23)
    replace bm := Lib.hid ((bm.out).below k23)
    replace l20 := Lib.hid ((l20.out).below k23)
    replace bn := Lib.hid ((bn.out).below k23)
    replace hb := bstep hb k23
    clear k23
    go_wp2
    go_ret
    exact ⟨rfl, hb⟩
  have hg : g = 0 := by simpa using e5
  subst hg
  clear e5
  have hB := Lib.hid (dec_back hD h1)
  replace hD := Lib.hid hD
  replace hC := Lib.hid hC
  go_wp2_with fail
  refine (dec_is hD.out hl _ tab.out).mono ?_
  rintro e v24 ⟨b24, d24, rfl, l24, k24⟩
  replace tab := Lib.hid ((tab.out).below k24)
  replace lm := Lib.hid ((lm.out).below k24)
  replace bm := Lib.hid ((bm.out).below k24)
  replace hb := bstep hb k24
  clear k24
  replace l24 := Lib.hid l24
  have bn : Hid (Box (v24.alloc (.cells #[.int .u8 (n.kind : Int), .string ⟨n.src.toArray⟩, .string ⟨n.dst.toArray⟩, .string ⟨n.fr.toArray⟩, .int .u64 (n.seq : Int), .slice b24 n.all.length d24, .int .u64 (n.id : Int), .int .i64 n.i, .int .i64 n.n, .string ⟨n.tx.toArray⟩] 27)) v24.heap.size #[.int .u8 (n.kind : Int), .string ⟨n.src.toArray⟩, .string ⟨n.dst.toArray⟩, .string ⟨n.fr.toArray⟩, .int .u64 (n.seq : Int), .slice b24 n.all.length d24, .int .u64 (n.id : Int), .int .i64 n.i, .int .i64 n.n, .string ⟨n.tx.toArray⟩]) := Lib.hid (Box.new v24 _ _)
  replace tab := Lib.hid ((tab.out).below (balloc (Below.refl _ _) (.cells #[.int .u8 (n.kind : Int), .string ⟨n.src.toArray⟩, .string ⟨n.dst.toArray⟩, .string ⟨n.fr.toArray⟩, .int .u64 (n.seq : Int), .slice b24 n.all.length d24, .int .u64 (n.id : Int), .int .i64 n.i, .int .i64 n.n, .string ⟨n.tx.toArray⟩] 27)))
  replace lm := Lib.hid ((lm.out).below (balloc (Below.refl _ _) (.cells #[.int .u8 (n.kind : Int), .string ⟨n.src.toArray⟩, .string ⟨n.dst.toArray⟩, .string ⟨n.fr.toArray⟩, .int .u64 (n.seq : Int), .slice b24 n.all.length d24, .int .u64 (n.id : Int), .int .i64 n.i, .int .i64 n.n, .string ⟨n.tx.toArray⟩] 27)))
  replace bm := Lib.hid ((bm.out).below (balloc (Below.refl _ _) (.cells #[.int .u8 (n.kind : Int), .string ⟨n.src.toArray⟩, .string ⟨n.dst.toArray⟩, .string ⟨n.fr.toArray⟩, .int .u64 (n.seq : Int), .slice b24 n.all.length d24, .int .u64 (n.id : Int), .int .i64 n.i, .int .i64 n.n, .string ⟨n.tx.toArray⟩] 27)))
  replace l24 := Lib.hid ((l24.out).below (balloc (Below.refl _ _) (.cells #[.int .u8 (n.kind : Int), .string ⟨n.src.toArray⟩, .string ⟨n.dst.toArray⟩, .string ⟨n.fr.toArray⟩, .int .u64 (n.seq : Int), .slice b24 n.all.length d24, .int .u64 (n.id : Int), .int .i64 n.i, .int .i64 n.n, .string ⟨n.tx.toArray⟩] 27)))
  replace hb := bstep hb (balloc (Below.refl _ _) (.cells #[.int .u8 (n.kind : Int), .string ⟨n.src.toArray⟩, .string ⟨n.dst.toArray⟩, .string ⟨n.fr.toArray⟩, .int .u64 (n.seq : Int), .slice b24 n.all.length d24, .int .u64 (n.id : Int), .int .i64 n.i, .int .i64 n.n, .string ⟨n.tx.toArray⟩] 27))
  go_wp2_with fail
  refine (cut_is hC.out hl _ tab.out).mono ?_
  rintro e v25 ⟨rfl, k25⟩
  replace tab := Lib.hid ((tab.out).below k25)
  replace lm := Lib.hid ((lm.out).below k25)
  replace bm := Lib.hid ((bm.out).below k25)
  replace l24 := Lib.hid ((l24.out).below k25)
  replace bn := Lib.hid ((bn.out).below k25)
  replace hb := bstep hb k25
  clear k25
  have z0 := bn.out 0 (.int .u8 (n.kind : Int)) rfl
  have z1 := bn.out 1 (.string ⟨n.src.toArray⟩) rfl
  have z2 := bn.out 2 (.string ⟨n.dst.toArray⟩) rfl
  have z3 := bn.out 3 (.string ⟨n.fr.toArray⟩) rfl
  have z4 := bn.out 4 (.int .u64 (n.seq : Int)) rfl
  have z5 := bn.out 5 (.slice b24 n.all.length d24) rfl
  have z6 := bn.out 6 (.int .u64 (n.id : Int)) rfl
  have z7 := bn.out 7 (.int .i64 n.i) rfl
  have z8 := bn.out 8 (.int .i64 n.n) rfl
  have z9 := bn.out 9 (.string ⟨n.tx.toArray⟩) rfl
  go_wp2_with fail
  refine (copied_is hN.out _ l24.out).mono ?_
  rintro e v26 ⟨b26, d26, rfl, l26, -, k26⟩
  replace tab := Lib.hid ((tab.out).below k26)
  replace lm := Lib.hid ((lm.out).below k26)
  replace bm := Lib.hid ((bm.out).below k26)
  replace l24 := Lib.hid ((l24.out).below k26)
  replace bn := Lib.hid ((bn.out).below k26)
  replace z0 := (Msg.keepC z0 k26)
  replace z1 := (Msg.keepC z1 k26)
  replace z2 := (Msg.keepC z2 k26)
  replace z3 := (Msg.keepC z3 k26)
  replace z4 := (Msg.keepC z4 k26)
  replace z5 := (Msg.keepC z5 k26)
  replace z6 := (Msg.keepC z6 k26)
  replace z7 := (Msg.keepC z7 k26)
  replace z8 := (Msg.keepC z8 k26)
  replace z9 := (Msg.keepC z9 k26)
  replace hb := bstep hb k26
  clear k26
  replace l26 := Lib.hid l26
  clear z0 z1 z2 z3 z4 z5 z6 z7 z8 z9
  go_wp2_with fail
  refine (enc_is l 0 hB.out hN.out _ l26.out tab.out).mono ?_
  rintro e v27 ⟨rfl, k27⟩
  replace tab := Lib.hid ((tab.out).below k27)
  replace lm := Lib.hid ((lm.out).below k27)
  replace bm := Lib.hid ((bm.out).below k27)
  replace l24 := Lib.hid ((l24.out).below k27)
  replace bn := Lib.hid ((bn.out).below k27)
  replace l26 := Lib.hid ((l26.out).below k27)
  replace hb := bstep hb k27
  clear k27
  go_wp2_with fail
  refine (works_any _ tab.out).mono ?_
  rintro e v28 ⟨rfl, k28⟩
  replace tab := Lib.hid ((tab.out).below k28)
  replace lm := Lib.hid ((lm.out).below k28)
  replace bm := Lib.hid ((bm.out).below k28)
  replace l24 := Lib.hid ((l24.out).below k28)
  replace bn := Lib.hid ((bn.out).below k28)
  replace l26 := Lib.hid ((l26.out).below k28)
  replace hb := bstep hb k28
  clear k28
  go_wp2
  go_ret
  exact ⟨rfl, hb⟩

end MsgBack
end Go.Proofs.YtcfimfoccbaepaaDoor
