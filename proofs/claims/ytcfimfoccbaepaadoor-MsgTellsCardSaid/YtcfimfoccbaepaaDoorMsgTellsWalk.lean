/- MsgTells: the walk. -/
import Derived.Test.YtcfimfoccbaepaaDoorRefMsg2
namespace Go.Proofs.YtcfimfoccbaepaaDoor
namespace MsgTells
open Go.RowKit Go.Proofs.YtcfimfoccbaepaaDoor.Mark Go.Proofs.YtcfimfoccbaepaaDoor.Num Go.Proofs.YtcfimfoccbaepaaDoor.Wire Go.Proofs.YtcfimfoccbaepaaDoor.Msg

theorem Same_is {m n : G} {a a' : Option Addr} {c c' : Nat} (r : Bool) (h : decide (m = n) = r) (W : World) (hL : Lies W a m.all.length m.all) (hK : Lies W a' n.all.length n.all) (hn : m.all.length ≤ 1099511627776) :
    Calls Tryd.prog 15 #[.agg (m.cells a c), .agg (n.cells a' c')] W fun e w' => e = .returned (.bool r) ∧ Below W.heap.size W w' := by
  have q := Same_any m.kind m.src m.dst m.fr m.seq m.all m.id m.i m.n m.tx a c n.kind n.src n.dst n.fr n.seq n.all n.id n.i n.n n.tx a' c' W hL hK hn
  rw [← h]; exact q

set_option maxRecDepth 100000 in
set_option maxHeartbeats 16000000 in
theorem walk (m : G) (a : Option Addr) (c : Nat) (x : G) (a' : Option Addr) (c' : Nat) (w : World) (hm : m.Was) (hlm : Lies w a m.all.length m.all) (hx : x.Was) (hlx : Lies w a' x.all.length x.all) (ht : Crc.Tab w) :
    Calls Tryd.prog 3 #[.agg (m.cells a c), .agg (x.cells a' c')] w fun e w' => e = .returned (.bool true) ∧ Below w.heap.size w w' := by
  show Calls Tryd.prog 3 #[.agg #[.int .u8 (m.kind : Int), .string ⟨m.src.toArray⟩, .string ⟨m.dst.toArray⟩, .string ⟨m.fr.toArray⟩, .int .u64 (m.seq : Int), .slice a m.all.length c, .int .u64 (m.id : Int), .int .i64 m.i, .int .i64 m.n, .string ⟨m.tx.toArray⟩], .agg #[.int .u8 (x.kind : Int), .string ⟨x.src.toArray⟩, .string ⟨x.dst.toArray⟩, .string ⟨x.fr.toArray⟩, .int .u64 (x.seq : Int), .slice a' x.all.length c', .int .u64 (x.id : Int), .int .i64 x.i, .int .i64 x.n, .string ⟨x.tx.toArray⟩]] w fun e w' => e = .returned (.bool true) ∧ Below w.heap.size w w'
  have hb : Below w.heap.size w ((w.alloc (.cells #[.int .u8 (m.kind : Int), .string ⟨m.src.toArray⟩, .string ⟨m.dst.toArray⟩, .string ⟨m.fr.toArray⟩, .int .u64 (m.seq : Int), .slice a m.all.length c, .int .u64 (m.id : Int), .int .i64 m.i, .int .i64 m.n, .string ⟨m.tx.toArray⟩] 27)).alloc (.cells #[.int .u8 (x.kind : Int), .string ⟨x.src.toArray⟩, .string ⟨x.dst.toArray⟩, .string ⟨x.fr.toArray⟩, .int .u64 (x.seq : Int), .slice a' x.all.length c', .int .u64 (x.id : Int), .int .i64 x.i, .int .i64 x.n, .string ⟨x.tx.toArray⟩] 27)) := balloc (balloc (Below.refl w.heap.size w) _) _
  have bm : Hid (Box ((w.alloc (.cells #[.int .u8 (m.kind : Int), .string ⟨m.src.toArray⟩, .string ⟨m.dst.toArray⟩, .string ⟨m.fr.toArray⟩, .int .u64 (m.seq : Int), .slice a m.all.length c, .int .u64 (m.id : Int), .int .i64 m.i, .int .i64 m.n, .string ⟨m.tx.toArray⟩] 27)).alloc (.cells #[.int .u8 (x.kind : Int), .string ⟨x.src.toArray⟩, .string ⟨x.dst.toArray⟩, .string ⟨x.fr.toArray⟩, .int .u64 (x.seq : Int), .slice a' x.all.length c', .int .u64 (x.id : Int), .int .i64 x.i, .int .i64 x.n, .string ⟨x.tx.toArray⟩] 27)) w.heap.size #[.int .u8 (m.kind : Int), .string ⟨m.src.toArray⟩, .string ⟨m.dst.toArray⟩, .string ⟨m.fr.toArray⟩, .int .u64 (m.seq : Int), .slice a m.all.length c, .int .u64 (m.id : Int), .int .i64 m.i, .int .i64 m.n, .string ⟨m.tx.toArray⟩]) := Lib.hid ((Box.new w _ _).below (balloc (Below.refl _ _) _))
  have bx : Hid (Box ((w.alloc (.cells #[.int .u8 (m.kind : Int), .string ⟨m.src.toArray⟩, .string ⟨m.dst.toArray⟩, .string ⟨m.fr.toArray⟩, .int .u64 (m.seq : Int), .slice a m.all.length c, .int .u64 (m.id : Int), .int .i64 m.i, .int .i64 m.n, .string ⟨m.tx.toArray⟩] 27)).alloc (.cells #[.int .u8 (x.kind : Int), .string ⟨x.src.toArray⟩, .string ⟨x.dst.toArray⟩, .string ⟨x.fr.toArray⟩, .int .u64 (x.seq : Int), .slice a' x.all.length c', .int .u64 (x.id : Int), .int .i64 x.i, .int .i64 x.n, .string ⟨x.tx.toArray⟩] 27)) (w.heap.size + 1) #[.int .u8 (x.kind : Int), .string ⟨x.src.toArray⟩, .string ⟨x.dst.toArray⟩, .string ⟨x.fr.toArray⟩, .int .u64 (x.seq : Int), .slice a' x.all.length c', .int .u64 (x.id : Int), .int .i64 x.i, .int .i64 x.n, .string ⟨x.tx.toArray⟩]) := Lib.hid (by have := Box.new (w.alloc (.cells #[.int .u8 (m.kind : Int), .string ⟨m.src.toArray⟩, .string ⟨m.dst.toArray⟩, .string ⟨m.fr.toArray⟩, .int .u64 (m.seq : Int), .slice a m.all.length c, .int .u64 (m.id : Int), .int .i64 m.i, .int .i64 m.n, .string ⟨m.tx.toArray⟩] 27)) #[.int .u8 (x.kind : Int), .string ⟨x.src.toArray⟩, .string ⟨x.dst.toArray⟩, .string ⟨x.fr.toArray⟩, .int .u64 (x.seq : Int), .slice a' x.all.length c', .int .u64 (x.id : Int), .int .i64 x.i, .int .i64 x.n, .string ⟨x.tx.toArray⟩] 27; simpa using this)
  have lm := Lib.hid (hlm.below hb)
  have lx := Lib.hid (hlx.below hb)
  have tab := Lib.hid (ht.below hb)
  have WM := Lib.hid hm
  have WX := Lib.hid hx
  clear hlm hlx ht hm hx
  cases v1 : heavyB m
  rotate_left
  · replace v1 := Lib.hid v1
    go_enter Tryd.func3, Tryd.ntmps3
    have x0 := bm.out 0 (.int .u8 (m.kind : Int)) rfl
    have x1 := bm.out 1 (.string ⟨m.src.toArray⟩) rfl
    have x2 := bm.out 2 (.string ⟨m.dst.toArray⟩) rfl
    have x3 := bm.out 3 (.string ⟨m.fr.toArray⟩) rfl
    have x4 := bm.out 4 (.int .u64 (m.seq : Int)) rfl
    have x5 := bm.out 5 (.slice a m.all.length c) rfl
    have x6 := bm.out 6 (.int .u64 (m.id : Int)) rfl
    have x7 := bm.out 7 (.int .i64 m.i) rfl
    have x8 := bm.out 8 (.int .i64 m.n) rfl
    have x9 := bm.out 9 (.string ⟨m.tx.toArray⟩) rfl
    have y0 := bx.out 0 (.int .u8 (x.kind : Int)) rfl
    have y1 := bx.out 1 (.string ⟨x.src.toArray⟩) rfl
    have y2 := bx.out 2 (.string ⟨x.dst.toArray⟩) rfl
    have y3 := bx.out 3 (.string ⟨x.fr.toArray⟩) rfl
    have y4 := bx.out 4 (.int .u64 (x.seq : Int)) rfl
    have y5 := bx.out 5 (.slice a' x.all.length c') rfl
    have y6 := bx.out 6 (.int .u64 (x.id : Int)) rfl
    have y7 := bx.out 7 (.int .i64 x.i) rfl
    have y8 := bx.out 8 (.int .i64 x.n) rfl
    have y9 := bx.out 9 (.string ⟨x.tx.toArray⟩) rfl
    go_wp2_with fail
    refine (heavy_is true v1.out WM.out _ lm.out).mono ?_
    rintro e v1 ⟨rfl, k1⟩
    replace tab := Lib.hid ((tab.out).below k1)
    replace lm := Lib.hid ((lm.out).below k1)
    replace lx := Lib.hid ((lx.out).below k1)
    replace bm := Lib.hid ((bm.out).below k1)
    replace bx := Lib.hid ((bx.out).below k1)
    replace x0 := (Msg.keepC x0 k1)
    replace x1 := (Msg.keepC x1 k1)
    replace x2 := (Msg.keepC x2 k1)
    replace x3 := (Msg.keepC x3 k1)
    replace x4 := (Msg.keepC x4 k1)
    replace x5 := (Msg.keepC x5 k1)
    replace x6 := (Msg.keepC x6 k1)
    replace x7 := (Msg.keepC x7 k1)
    replace x8 := (Msg.keepC x8 k1)
    replace x9 := (Msg.keepC x9 k1)
    replace y0 := (Msg.keepC y0 k1)
    replace y1 := (Msg.keepC y1 k1)
    replace y2 := (Msg.keepC y2 k1)
    replace y3 := (Msg.keepC y3 k1)
    replace y4 := (Msg.keepC y4 k1)
    replace y5 := (Msg.keepC y5 k1)
    replace y6 := (Msg.keepC y6 k1)
    replace y7 := (Msg.keepC y7 k1)
    replace y8 := (Msg.keepC y8 k1)
    replace y9 := (Msg.keepC y9 k1)
    replace hb := bstep hb k1
    clear k1
    clear x0 x1 x2 x3 x4 x5 x6 x7 x8 x9 y0 y1 y2 y3 y4 y5 y6 y7 y8 y9
    go_wp2_with fail
    refine (works_any _ tab.out).mono ?_
    rintro e v2 ⟨rfl, k2⟩
    replace tab := Lib.hid ((tab.out).below k2)
    replace lm := Lib.hid ((lm.out).below k2)
    replace lx := Lib.hid ((lx.out).below k2)
    replace bm := Lib.hid ((bm.out).below k2)
    replace bx := Lib.hid ((bx.out).below k2)
    replace hb := bstep hb k2
    clear k2
    go_wp2
    go_ret
    exact ⟨rfl, hb⟩
  replace v1 := Lib.hid v1
  cases v2 : heavyB x
  rotate_left
  · replace v2 := Lib.hid v2
    go_enter Tryd.func3, Tryd.ntmps3
    have x0 := bm.out 0 (.int .u8 (m.kind : Int)) rfl
    have x1 := bm.out 1 (.string ⟨m.src.toArray⟩) rfl
    have x2 := bm.out 2 (.string ⟨m.dst.toArray⟩) rfl
    have x3 := bm.out 3 (.string ⟨m.fr.toArray⟩) rfl
    have x4 := bm.out 4 (.int .u64 (m.seq : Int)) rfl
    have x5 := bm.out 5 (.slice a m.all.length c) rfl
    have x6 := bm.out 6 (.int .u64 (m.id : Int)) rfl
    have x7 := bm.out 7 (.int .i64 m.i) rfl
    have x8 := bm.out 8 (.int .i64 m.n) rfl
    have x9 := bm.out 9 (.string ⟨m.tx.toArray⟩) rfl
    have y0 := bx.out 0 (.int .u8 (x.kind : Int)) rfl
    have y1 := bx.out 1 (.string ⟨x.src.toArray⟩) rfl
    have y2 := bx.out 2 (.string ⟨x.dst.toArray⟩) rfl
    have y3 := bx.out 3 (.string ⟨x.fr.toArray⟩) rfl
    have y4 := bx.out 4 (.int .u64 (x.seq : Int)) rfl
    have y5 := bx.out 5 (.slice a' x.all.length c') rfl
    have y6 := bx.out 6 (.int .u64 (x.id : Int)) rfl
    have y7 := bx.out 7 (.int .i64 x.i) rfl
    have y8 := bx.out 8 (.int .i64 x.n) rfl
    have y9 := bx.out 9 (.string ⟨x.tx.toArray⟩) rfl
    go_wp2_with fail
    refine (heavy_is false v1.out WM.out _ lm.out).mono ?_
    rintro e v3 ⟨rfl, k3⟩
    replace tab := Lib.hid ((tab.out).below k3)
    replace lm := Lib.hid ((lm.out).below k3)
    replace lx := Lib.hid ((lx.out).below k3)
    replace bm := Lib.hid ((bm.out).below k3)
    replace bx := Lib.hid ((bx.out).below k3)
    replace x0 := (Msg.keepC x0 k3)
    replace x1 := (Msg.keepC x1 k3)
    replace x2 := (Msg.keepC x2 k3)
    replace x3 := (Msg.keepC x3 k3)
    replace x4 := (Msg.keepC x4 k3)
    replace x5 := (Msg.keepC x5 k3)
    replace x6 := (Msg.keepC x6 k3)
    replace x7 := (Msg.keepC x7 k3)
    replace x8 := (Msg.keepC x8 k3)
    replace x9 := (Msg.keepC x9 k3)
    replace y0 := (Msg.keepC y0 k3)
    replace y1 := (Msg.keepC y1 k3)
    replace y2 := (Msg.keepC y2 k3)
    replace y3 := (Msg.keepC y3 k3)
    replace y4 := (Msg.keepC y4 k3)
    replace y5 := (Msg.keepC y5 k3)
    replace y6 := (Msg.keepC y6 k3)
    replace y7 := (Msg.keepC y7 k3)
    replace y8 := (Msg.keepC y8 k3)
    replace y9 := (Msg.keepC y9 k3)
    replace hb := bstep hb k3
    clear k3
    go_wp2_with fail
    refine (heavy_is true v2.out WX.out _ lx.out).mono ?_
    rintro e v4 ⟨rfl, k4⟩
    replace tab := Lib.hid ((tab.out).below k4)
    replace lm := Lib.hid ((lm.out).below k4)
    replace lx := Lib.hid ((lx.out).below k4)
    replace bm := Lib.hid ((bm.out).below k4)
    replace bx := Lib.hid ((bx.out).below k4)
    replace x0 := (Msg.keepC x0 k4)
    replace x1 := (Msg.keepC x1 k4)
    replace x2 := (Msg.keepC x2 k4)
    replace x3 := (Msg.keepC x3 k4)
    replace x4 := (Msg.keepC x4 k4)
    replace x5 := (Msg.keepC x5 k4)
    replace x6 := (Msg.keepC x6 k4)
    replace x7 := (Msg.keepC x7 k4)
    replace x8 := (Msg.keepC x8 k4)
    replace x9 := (Msg.keepC x9 k4)
    replace y0 := (Msg.keepC y0 k4)
    replace y1 := (Msg.keepC y1 k4)
    replace y2 := (Msg.keepC y2 k4)
    replace y3 := (Msg.keepC y3 k4)
    replace y4 := (Msg.keepC y4 k4)
    replace y5 := (Msg.keepC y5 k4)
    replace y6 := (Msg.keepC y6 k4)
    replace y7 := (Msg.keepC y7 k4)
    replace y8 := (Msg.keepC y8 k4)
    replace y9 := (Msg.keepC y9 k4)
    replace hb := bstep hb k4
    clear k4
    clear x0 x1 x2 x3 x4 x5 x6 x7 x8 x9 y0 y1 y2 y3 y4 y5 y6 y7 y8 y9
    go_wp2_with fail
    refine (works_any _ tab.out).mono ?_
    rintro e v5 ⟨rfl, k5⟩
    replace tab := Lib.hid ((tab.out).below k5)
    replace lm := Lib.hid ((lm.out).below k5)
    replace lx := Lib.hid ((lx.out).below k5)
    replace bm := Lib.hid ((bm.out).below k5)
    replace bx := Lib.hid ((bx.out).below k5)
    replace hb := bstep hb k5
    clear k5
    go_wp2
    go_ret
    exact ⟨rfl, hb⟩
  replace v2 := Lib.hid v2
  have MM := Lib.hid (WM.out.mod v1.out)
  have MX := Lib.hid (WX.out.mod v2.out)
  have BL := Lib.hid (RefMsg.body_light v1.out)
  have mlen : m.all.length ≤ 1099511627776 := by have := MM.out.len; omega
  cases r1 : mayM m
  · skip
    have hE : Hid (encR m = ([], 2)) := Lib.hid (by unfold encR; rw [if_neg (by rw [r1]; decide)])
    replace r1 := Lib.hid r1
    cases hq : decide (m = x)
    · replace hq := Lib.hid hq
      go_enter Tryd.func3, Tryd.ntmps3
      have x0 := bm.out 0 (.int .u8 (m.kind : Int)) rfl
      have x1 := bm.out 1 (.string ⟨m.src.toArray⟩) rfl
      have x2 := bm.out 2 (.string ⟨m.dst.toArray⟩) rfl
      have x3 := bm.out 3 (.string ⟨m.fr.toArray⟩) rfl
      have x4 := bm.out 4 (.int .u64 (m.seq : Int)) rfl
      have x5 := bm.out 5 (.slice a m.all.length c) rfl
      have x6 := bm.out 6 (.int .u64 (m.id : Int)) rfl
      have x7 := bm.out 7 (.int .i64 m.i) rfl
      have x8 := bm.out 8 (.int .i64 m.n) rfl
      have x9 := bm.out 9 (.string ⟨m.tx.toArray⟩) rfl
      have y0 := bx.out 0 (.int .u8 (x.kind : Int)) rfl
      have y1 := bx.out 1 (.string ⟨x.src.toArray⟩) rfl
      have y2 := bx.out 2 (.string ⟨x.dst.toArray⟩) rfl
      have y3 := bx.out 3 (.string ⟨x.fr.toArray⟩) rfl
      have y4 := bx.out 4 (.int .u64 (x.seq : Int)) rfl
      have y5 := bx.out 5 (.slice a' x.all.length c') rfl
      have y6 := bx.out 6 (.int .u64 (x.id : Int)) rfl
      have y7 := bx.out 7 (.int .i64 x.i) rfl
      have y8 := bx.out 8 (.int .i64 x.n) rfl
      have y9 := bx.out 9 (.string ⟨x.tx.toArray⟩) rfl
      go_wp2_with fail
      refine (heavy_is false v1.out WM.out _ lm.out).mono ?_
      rintro e v6 ⟨rfl, k6⟩
      replace tab := Lib.hid ((tab.out).below k6)
      replace lm := Lib.hid ((lm.out).below k6)
      replace lx := Lib.hid ((lx.out).below k6)
      replace bm := Lib.hid ((bm.out).below k6)
      replace bx := Lib.hid ((bx.out).below k6)
      replace x0 := (Msg.keepC x0 k6)
      replace x1 := (Msg.keepC x1 k6)
      replace x2 := (Msg.keepC x2 k6)
      replace x3 := (Msg.keepC x3 k6)
      replace x4 := (Msg.keepC x4 k6)
      replace x5 := (Msg.keepC x5 k6)
      replace x6 := (Msg.keepC x6 k6)
      replace x7 := (Msg.keepC x7 k6)
      replace x8 := (Msg.keepC x8 k6)
      replace x9 := (Msg.keepC x9 k6)
      replace y0 := (Msg.keepC y0 k6)
      replace y1 := (Msg.keepC y1 k6)
      replace y2 := (Msg.keepC y2 k6)
      replace y3 := (Msg.keepC y3 k6)
      replace y4 := (Msg.keepC y4 k6)
      replace y5 := (Msg.keepC y5 k6)
      replace y6 := (Msg.keepC y6 k6)
      replace y7 := (Msg.keepC y7 k6)
      replace y8 := (Msg.keepC y8 k6)
      replace y9 := (Msg.keepC y9 k6)
      replace hb := bstep hb k6
      clear k6
      go_wp2_with fail
      refine (heavy_is false v2.out WX.out _ lx.out).mono ?_
      rintro e v7 ⟨rfl, k7⟩
      replace tab := Lib.hid ((tab.out).below k7)
      replace lm := Lib.hid ((lm.out).below k7)
      replace lx := Lib.hid ((lx.out).below k7)
      replace bm := Lib.hid ((bm.out).below k7)
      replace bx := Lib.hid ((bx.out).below k7)
      replace x0 := (Msg.keepC x0 k7)
      replace x1 := (Msg.keepC x1 k7)
      replace x2 := (Msg.keepC x2 k7)
      replace x3 := (Msg.keepC x3 k7)
      replace x4 := (Msg.keepC x4 k7)
      replace x5 := (Msg.keepC x5 k7)
      replace x6 := (Msg.keepC x6 k7)
      replace x7 := (Msg.keepC x7 k7)
      replace x8 := (Msg.keepC x8 k7)
      replace x9 := (Msg.keepC x9 k7)
      replace y0 := (Msg.keepC y0 k7)
      replace y1 := (Msg.keepC y1 k7)
      replace y2 := (Msg.keepC y2 k7)
      replace y3 := (Msg.keepC y3 k7)
      replace y4 := (Msg.keepC y4 k7)
      replace y5 := (Msg.keepC y5 k7)
      replace y6 := (Msg.keepC y6 k7)
      replace y7 := (Msg.keepC y7 k7)
      replace y8 := (Msg.keepC y8 k7)
      replace y9 := (Msg.keepC y9 k7)
      replace hb := bstep hb k7
      clear k7
      go_wp2_with fail
      refine (RefMsg.may_of false r1.out MM.out BL.out _ lm.out).mono ?_
      rintro e v8 ⟨rfl, k8⟩
      replace tab := Lib.hid ((tab.out).below k8)
      replace lm := Lib.hid ((lm.out).below k8)
      replace lx := Lib.hid ((lx.out).below k8)
      replace bm := Lib.hid ((bm.out).below k8)
      replace bx := Lib.hid ((bx.out).below k8)
      replace x0 := (Msg.keepC x0 k8)
      replace x1 := (Msg.keepC x1 k8)
      replace x2 := (Msg.keepC x2 k8)
      replace x3 := (Msg.keepC x3 k8)
      replace x4 := (Msg.keepC x4 k8)
      replace x5 := (Msg.keepC x5 k8)
      replace x6 := (Msg.keepC x6 k8)
      replace x7 := (Msg.keepC x7 k8)
      replace x8 := (Msg.keepC x8 k8)
      replace x9 := (Msg.keepC x9 k8)
      replace y0 := (Msg.keepC y0 k8)
      replace y1 := (Msg.keepC y1 k8)
      replace y2 := (Msg.keepC y2 k8)
      replace y3 := (Msg.keepC y3 k8)
      replace y4 := (Msg.keepC y4 k8)
      replace y5 := (Msg.keepC y5 k8)
      replace y6 := (Msg.keepC y6 k8)
      replace y7 := (Msg.keepC y7 k8)
      replace y8 := (Msg.keepC y8 k8)
      replace y9 := (Msg.keepC y9 k8)
      replace hb := bstep hb k8
      clear k8
      go_wp2_with fail
      refine (copied_is MM.out _ lm.out).mono ?_
      rintro e v9 ⟨b9, d9, rfl, l9, -, k9⟩
      replace tab := Lib.hid ((tab.out).below k9)
      replace lm := Lib.hid ((lm.out).below k9)
      replace lx := Lib.hid ((lx.out).below k9)
      replace bm := Lib.hid ((bm.out).below k9)
      replace bx := Lib.hid ((bx.out).below k9)
      replace x0 := (Msg.keepC x0 k9)
      replace x1 := (Msg.keepC x1 k9)
      replace x2 := (Msg.keepC x2 k9)
      replace x3 := (Msg.keepC x3 k9)
      replace x4 := (Msg.keepC x4 k9)
      replace x5 := (Msg.keepC x5 k9)
      replace x6 := (Msg.keepC x6 k9)
      replace x7 := (Msg.keepC x7 k9)
      replace x8 := (Msg.keepC x8 k9)
      replace x9 := (Msg.keepC x9 k9)
      replace y0 := (Msg.keepC y0 k9)
      replace y1 := (Msg.keepC y1 k9)
      replace y2 := (Msg.keepC y2 k9)
      replace y3 := (Msg.keepC y3 k9)
      replace y4 := (Msg.keepC y4 k9)
      replace y5 := (Msg.keepC y5 k9)
      replace y6 := (Msg.keepC y6 k9)
      replace y7 := (Msg.keepC y7 k9)
      replace y8 := (Msg.keepC y8 k9)
      replace y9 := (Msg.keepC y9 k9)
      replace hb := bstep hb k9
      clear k9
      replace l9 := Lib.hid l9
      go_wp2_with fail
      refine (enc_is [] 2 hE.out MM.out _ l9.out tab.out).mono ?_
      rintro e v10 ⟨rfl, k10⟩
      replace tab := Lib.hid ((tab.out).below k10)
      replace lm := Lib.hid ((lm.out).below k10)
      replace lx := Lib.hid ((lx.out).below k10)
      replace bm := Lib.hid ((bm.out).below k10)
      replace bx := Lib.hid ((bx.out).below k10)
      replace x0 := (Msg.keepC x0 k10)
      replace x1 := (Msg.keepC x1 k10)
      replace x2 := (Msg.keepC x2 k10)
      replace x3 := (Msg.keepC x3 k10)
      replace x4 := (Msg.keepC x4 k10)
      replace x5 := (Msg.keepC x5 k10)
      replace x6 := (Msg.keepC x6 k10)
      replace x7 := (Msg.keepC x7 k10)
      replace x8 := (Msg.keepC x8 k10)
      replace x9 := (Msg.keepC x9 k10)
      replace y0 := (Msg.keepC y0 k10)
      replace y1 := (Msg.keepC y1 k10)
      replace y2 := (Msg.keepC y2 k10)
      replace y3 := (Msg.keepC y3 k10)
      replace y4 := (Msg.keepC y4 k10)
      replace y5 := (Msg.keepC y5 k10)
      replace y6 := (Msg.keepC y6 k10)
      replace y7 := (Msg.keepC y7 k10)
      replace y8 := (Msg.keepC y8 k10)
      replace y9 := (Msg.keepC y9 k10)
      replace l9 := Lib.hid ((l9.out).below k10)
      replace hb := bstep hb k10
      clear k10
      clear l9
      go_wp2_with fail
      refine wp_region_noPanic ?_
      refine wp_region_held_drew (S := (fun w' => Below w.heap.size w w' ∧ Crc.Tab w' ∧ Lies w' a m.all.length m.all ∧ Lies w' a' x.all.length x.all ∧ Box w' w.heap.size #[.int .u8 (m.kind : Int), .string ⟨m.src.toArray⟩, .string ⟨m.dst.toArray⟩, .string ⟨m.fr.toArray⟩, .int .u64 (m.seq : Int), .slice a m.all.length c, .int .u64 (m.id : Int), .int .i64 m.i, .int .i64 m.n, .string ⟨m.tx.toArray⟩] ∧ Box w' (w.heap.size + 1) #[.int .u8 (x.kind : Int), .string ⟨x.src.toArray⟩, .string ⟨x.dst.toArray⟩, .string ⟨x.fr.toArray⟩, .int .u64 (x.seq : Int), .slice a' x.all.length c', .int .u64 (x.id : Int), .int .i64 x.i, .int .i64 x.n, .string ⟨x.tx.toArray⟩] ∧ w'.cell? ⟨w.heap.size, 0, none⟩ = some (.int .u8 (m.kind : Int)) ∧ w'.cell? ⟨w.heap.size, 1, none⟩ = some (.string ⟨m.src.toArray⟩) ∧ w'.cell? ⟨w.heap.size, 2, none⟩ = some (.string ⟨m.dst.toArray⟩) ∧ w'.cell? ⟨w.heap.size, 3, none⟩ = some (.string ⟨m.fr.toArray⟩) ∧ w'.cell? ⟨w.heap.size, 4, none⟩ = some (.int .u64 (m.seq : Int)) ∧ w'.cell? ⟨w.heap.size, 5, none⟩ = some (.slice a m.all.length c) ∧ w'.cell? ⟨w.heap.size, 6, none⟩ = some (.int .u64 (m.id : Int)) ∧ w'.cell? ⟨w.heap.size, 7, none⟩ = some (.int .i64 m.i) ∧ w'.cell? ⟨w.heap.size, 8, none⟩ = some (.int .i64 m.n) ∧ w'.cell? ⟨w.heap.size, 9, none⟩ = some (.string ⟨m.tx.toArray⟩) ∧ w'.cell? ⟨w.heap.size + 1, 0, none⟩ = some (.int .u8 (x.kind : Int)) ∧ w'.cell? ⟨w.heap.size + 1, 1, none⟩ = some (.string ⟨x.src.toArray⟩) ∧ w'.cell? ⟨w.heap.size + 1, 2, none⟩ = some (.string ⟨x.dst.toArray⟩) ∧ w'.cell? ⟨w.heap.size + 1, 3, none⟩ = some (.string ⟨x.fr.toArray⟩) ∧ w'.cell? ⟨w.heap.size + 1, 4, none⟩ = some (.int .u64 (x.seq : Int)) ∧ w'.cell? ⟨w.heap.size + 1, 5, none⟩ = some (.slice a' x.all.length c') ∧ w'.cell? ⟨w.heap.size + 1, 6, none⟩ = some (.int .u64 (x.id : Int)) ∧ w'.cell? ⟨w.heap.size + 1, 7, none⟩ = some (.int .i64 x.i) ∧ w'.cell? ⟨w.heap.size + 1, 8, none⟩ = some (.int .i64 x.n) ∧ w'.cell? ⟨w.heap.size + 1, 9, none⟩ = some (.string ⟨x.tx.toArray⟩))) (by kernel_rfl) (⟨Below.drew hb, (tab.out).below (Below.drew (Below.refl _ _)), (lm.out).below (Below.drew (Below.refl _ _)), (lx.out).below (Below.drew (Below.refl _ _)), (bm.out).below (Below.drew (Below.refl _ _)), (bx.out).below (Below.drew (Below.refl _ _)), Msg.keepC x0 (Below.drew (Below.refl _ _)), Msg.keepC x1 (Below.drew (Below.refl _ _)), Msg.keepC x2 (Below.drew (Below.refl _ _)), Msg.keepC x3 (Below.drew (Below.refl _ _)), Msg.keepC x4 (Below.drew (Below.refl _ _)), Msg.keepC x5 (Below.drew (Below.refl _ _)), Msg.keepC x6 (Below.drew (Below.refl _ _)), Msg.keepC x7 (Below.drew (Below.refl _ _)), Msg.keepC x8 (Below.drew (Below.refl _ _)), Msg.keepC x9 (Below.drew (Below.refl _ _)), Msg.keepC y0 (Below.drew (Below.refl _ _)), Msg.keepC y1 (Below.drew (Below.refl _ _)), Msg.keepC y2 (Below.drew (Below.refl _ _)), Msg.keepC y3 (Below.drew (Below.refl _ _)), Msg.keepC y4 (Below.drew (Below.refl _ _)), Msg.keepC y5 (Below.drew (Below.refl _ _)), Msg.keepC y6 (Below.drew (Below.refl _ _)), Msg.keepC y7 (Below.drew (Below.refl _ _)), Msg.keepC y8 (Below.drew (Below.refl _ _)), Msg.keepC y9 (Below.drew (Below.refl _ _))⟩) (fun hHeld => ?_)
      revert hHeld
      generalize World.drew _ = wd
      intro hHeld
      refine wpAnyH_take (i := 0) (v := ?_) (by simp only [List.getElem?_toArray, List.getElem?_cons_zero]; rfl) (by kernel_rfl) (by kernel_rfl) (by kernel_rfl) (fun _ _ _ h => h) (Or.inl ⟨by rfl, ?_⟩) (by assumption) ?_
      rotate_left
      · (intro w hSw; (try dsimp only at hSw); go_simp; try with_reducible rfl)
      try simp only [Act.put, List.setIfInBounds_toArray, List.set_cons_zero, List.set_cons_succ]
      refine wpAnyH_take (i := 3) (v := ?_) (by simp only [List.getElem?_toArray, List.getElem?_cons_succ, List.getElem?_cons_zero]; rfl) (by kernel_rfl) (by kernel_rfl) (by kernel_rfl) (fun _ _ _ h => h) (Or.inl ⟨by rfl, ?_⟩) (by assumption) ?_
      rotate_left
      · (intro w hSw; (try dsimp only at hSw); go_simp; try with_reducible rfl)
      try simp only [Act.put, List.setIfInBounds_toArray, List.set_cons_zero, List.set_cons_succ]
      refine wpAnyH_ready (rs := [1]) (by kernel_rfl) (by simp) ?_
      refine AllReadyH.cons (by simp only [List.getElem?_toArray, List.getElem?_cons_succ, List.getElem?_cons_zero]; rfl) (fun K hK => ?_) AllReadyH.nil
      go_simp
      go_at_call 12
      refine (copied_is MM.out _ hHeld.2.2.1).mono ?_
      rintro e v11 ⟨bA, dA, rfl, lA, -, k11⟩
      go_wp2_with fail
      refine hK.out _ _ (⟨bstep hHeld.1 k11, (hHeld.2.1).below k11, (hHeld.2.2.1).below k11, (hHeld.2.2.2.1).below k11, (hHeld.2.2.2.2.1).below k11, (hHeld.2.2.2.2.2.1).below k11, Msg.keepC hHeld.2.2.2.2.2.2.1 k11, Msg.keepC hHeld.2.2.2.2.2.2.2.1 k11, Msg.keepC hHeld.2.2.2.2.2.2.2.2.1 k11, Msg.keepC hHeld.2.2.2.2.2.2.2.2.2.1 k11, Msg.keepC hHeld.2.2.2.2.2.2.2.2.2.2.1 k11, Msg.keepC hHeld.2.2.2.2.2.2.2.2.2.2.2.1 k11, Msg.keepC hHeld.2.2.2.2.2.2.2.2.2.2.2.2.1 k11, Msg.keepC hHeld.2.2.2.2.2.2.2.2.2.2.2.2.2.1 k11, Msg.keepC hHeld.2.2.2.2.2.2.2.2.2.2.2.2.2.2.1 k11, Msg.keepC hHeld.2.2.2.2.2.2.2.2.2.2.2.2.2.2.2.1 k11, Msg.keepC hHeld.2.2.2.2.2.2.2.2.2.2.2.2.2.2.2.2.1 k11, Msg.keepC hHeld.2.2.2.2.2.2.2.2.2.2.2.2.2.2.2.2.2.1 k11, Msg.keepC hHeld.2.2.2.2.2.2.2.2.2.2.2.2.2.2.2.2.2.2.1 k11, Msg.keepC hHeld.2.2.2.2.2.2.2.2.2.2.2.2.2.2.2.2.2.2.2.1 k11, Msg.keepC hHeld.2.2.2.2.2.2.2.2.2.2.2.2.2.2.2.2.2.2.2.2.1 k11, Msg.keepC hHeld.2.2.2.2.2.2.2.2.2.2.2.2.2.2.2.2.2.2.2.2.2.1 k11, Msg.keepC hHeld.2.2.2.2.2.2.2.2.2.2.2.2.2.2.2.2.2.2.2.2.2.2.1 k11, Msg.keepC hHeld.2.2.2.2.2.2.2.2.2.2.2.2.2.2.2.2.2.2.2.2.2.2.2.1 k11, Msg.keepC hHeld.2.2.2.2.2.2.2.2.2.2.2.2.2.2.2.2.2.2.2.2.2.2.2.2.1 k11, Msg.keepC hHeld.2.2.2.2.2.2.2.2.2.2.2.2.2.2.2.2.2.2.2.2.2.2.2.2.2 k11⟩) (fun hHeld => ?_)
      clear hK K k11
      try simp only [Act.put, List.setIfInBounds_toArray, List.set_cons_zero, List.set_cons_succ]
      refine wpAnyH_ready (rs := [2]) (by kernel_rfl) (by simp) ?_
      refine AllReadyH.cons (by simp only [List.getElem?_toArray, List.getElem?_cons_succ, List.getElem?_cons_zero]; rfl) (fun K hK => ?_) AllReadyH.nil
      go_simp
      go_at_call 14
      refine (may_eq false r1.out MM.out _ lA).mono ?_
      rintro e v12 ⟨rfl, k12⟩
      replace lA := (lA).below k12
      go_wp2_with fail
      refine hK.out _ _ (⟨bstep hHeld.1 k12, (hHeld.2.1).below k12, (hHeld.2.2.1).below k12, (hHeld.2.2.2.1).below k12, (hHeld.2.2.2.2.1).below k12, (hHeld.2.2.2.2.2.1).below k12, Msg.keepC hHeld.2.2.2.2.2.2.1 k12, Msg.keepC hHeld.2.2.2.2.2.2.2.1 k12, Msg.keepC hHeld.2.2.2.2.2.2.2.2.1 k12, Msg.keepC hHeld.2.2.2.2.2.2.2.2.2.1 k12, Msg.keepC hHeld.2.2.2.2.2.2.2.2.2.2.1 k12, Msg.keepC hHeld.2.2.2.2.2.2.2.2.2.2.2.1 k12, Msg.keepC hHeld.2.2.2.2.2.2.2.2.2.2.2.2.1 k12, Msg.keepC hHeld.2.2.2.2.2.2.2.2.2.2.2.2.2.1 k12, Msg.keepC hHeld.2.2.2.2.2.2.2.2.2.2.2.2.2.2.1 k12, Msg.keepC hHeld.2.2.2.2.2.2.2.2.2.2.2.2.2.2.2.1 k12, Msg.keepC hHeld.2.2.2.2.2.2.2.2.2.2.2.2.2.2.2.2.1 k12, Msg.keepC hHeld.2.2.2.2.2.2.2.2.2.2.2.2.2.2.2.2.2.1 k12, Msg.keepC hHeld.2.2.2.2.2.2.2.2.2.2.2.2.2.2.2.2.2.2.1 k12, Msg.keepC hHeld.2.2.2.2.2.2.2.2.2.2.2.2.2.2.2.2.2.2.2.1 k12, Msg.keepC hHeld.2.2.2.2.2.2.2.2.2.2.2.2.2.2.2.2.2.2.2.2.1 k12, Msg.keepC hHeld.2.2.2.2.2.2.2.2.2.2.2.2.2.2.2.2.2.2.2.2.2.1 k12, Msg.keepC hHeld.2.2.2.2.2.2.2.2.2.2.2.2.2.2.2.2.2.2.2.2.2.2.1 k12, Msg.keepC hHeld.2.2.2.2.2.2.2.2.2.2.2.2.2.2.2.2.2.2.2.2.2.2.2.1 k12, Msg.keepC hHeld.2.2.2.2.2.2.2.2.2.2.2.2.2.2.2.2.2.2.2.2.2.2.2.2.1 k12, Msg.keepC hHeld.2.2.2.2.2.2.2.2.2.2.2.2.2.2.2.2.2.2.2.2.2.2.2.2.2 k12⟩) (fun hHeld => ?_)
      clear hK K k12
      try simp only [Act.put, List.setIfInBounds_toArray, List.set_cons_zero, List.set_cons_succ]
      refine wpAnyH_take (i := 4) (v := ?_) (by simp only [List.getElem?_toArray, List.getElem?_cons_succ, List.getElem?_cons_zero]; rfl) (by kernel_rfl) (by kernel_rfl) (by kernel_rfl) (fun _ _ _ h => h) (Or.inl ⟨by rfl, ?_⟩) (by assumption) ?_
      rotate_left
      · (intro w hSw; (try dsimp only at hSw); go_simp; try with_reducible rfl)
      try simp only [Act.put, List.setIfInBounds_toArray, List.set_cons_zero, List.set_cons_succ]
      refine wpAnyH_take (i := 5) (v := ?_) (by simp only [List.getElem?_toArray, List.getElem?_cons_succ, List.getElem?_cons_zero]; rfl) (by kernel_rfl) (by kernel_rfl) (by kernel_rfl) (fun _ _ _ h => h) (Or.inl ⟨by rfl, ?_⟩) (by assumption) ?_
      rotate_left
      · (intro w hSw; (try dsimp only at hSw); go_simp; try with_reducible rfl)
      try simp only [Act.put, List.setIfInBounds_toArray, List.set_cons_zero, List.set_cons_succ]
      refine wpAnyH_take (i := 6) (v := ?_) (by simp only [List.getElem?_toArray, List.getElem?_cons_succ, List.getElem?_cons_zero]; rfl) (by kernel_rfl) (by kernel_rfl) (by kernel_rfl) (fun _ _ _ h => h) (Or.inl ⟨by rfl, ?_⟩) (by assumption) ?_
      rotate_left
      · (intro w hSw; (try dsimp only at hSw); go_simp; try with_reducible rfl)
      try simp only [Act.put, List.setIfInBounds_toArray, List.set_cons_zero, List.set_cons_succ]
      refine wpAnyH_take (i := 8) (v := ?_) (by simp only [List.getElem?_toArray, List.getElem?_cons_succ, List.getElem?_cons_zero]; rfl) (by kernel_rfl) (by kernel_rfl) (by kernel_rfl) (fun _ _ _ h => h) (Or.inl ⟨by rfl, ?_⟩) (by assumption) ?_
      rotate_left
      · (intro w hSw; (try dsimp only at hSw); go_simp; try with_reducible rfl)
      try simp only [Act.put, List.setIfInBounds_toArray, List.set_cons_zero, List.set_cons_succ]
      refine wpAnyH_take (i := 11) (v := ?_) (by simp only [List.getElem?_toArray, List.getElem?_cons_succ, List.getElem?_cons_zero]; rfl) (by kernel_rfl) (by kernel_rfl) (by kernel_rfl) (fun _ _ _ h => h) (Or.inl ⟨by rfl, ?_⟩) (by assumption) ?_
      rotate_left
      · (intro w hSw; (try dsimp only at hSw); go_simp; try with_reducible rfl)
      try simp only [Act.put, List.setIfInBounds_toArray, List.set_cons_zero, List.set_cons_succ]
      refine wpAnyH_take (i := 12) (v := ?_) (by simp only [List.getElem?_toArray, List.getElem?_cons_succ, List.getElem?_cons_zero]; rfl) (by kernel_rfl) (by kernel_rfl) (by kernel_rfl) (fun _ _ _ h => h) (Or.inl ⟨by rfl, ?_⟩) (by assumption) ?_
      rotate_left
      · (intro w hSw; (try dsimp only at hSw); go_simp; try with_reducible rfl)
      try simp only [Act.put, List.setIfInBounds_toArray, List.set_cons_zero, List.set_cons_succ]
      refine wpAnyH_ready (rs := [7]) (by kernel_rfl) (by simp) ?_
      refine AllReadyH.cons (by simp only [List.getElem?_toArray, List.getElem?_cons_succ, List.getElem?_cons_zero]; rfl) (fun K hK => ?_) AllReadyH.nil
      go_simp
      go_at_call 12
      refine (copied_is MM.out _ hHeld.2.2.1).mono ?_
      rintro e v13 ⟨bB, dB, rfl, lB, -, k13⟩
      replace lA := (lA).below k13
      go_wp2_with fail
      refine hK.out _ _ (⟨bstep hHeld.1 k13, (hHeld.2.1).below k13, (hHeld.2.2.1).below k13, (hHeld.2.2.2.1).below k13, (hHeld.2.2.2.2.1).below k13, (hHeld.2.2.2.2.2.1).below k13, Msg.keepC hHeld.2.2.2.2.2.2.1 k13, Msg.keepC hHeld.2.2.2.2.2.2.2.1 k13, Msg.keepC hHeld.2.2.2.2.2.2.2.2.1 k13, Msg.keepC hHeld.2.2.2.2.2.2.2.2.2.1 k13, Msg.keepC hHeld.2.2.2.2.2.2.2.2.2.2.1 k13, Msg.keepC hHeld.2.2.2.2.2.2.2.2.2.2.2.1 k13, Msg.keepC hHeld.2.2.2.2.2.2.2.2.2.2.2.2.1 k13, Msg.keepC hHeld.2.2.2.2.2.2.2.2.2.2.2.2.2.1 k13, Msg.keepC hHeld.2.2.2.2.2.2.2.2.2.2.2.2.2.2.1 k13, Msg.keepC hHeld.2.2.2.2.2.2.2.2.2.2.2.2.2.2.2.1 k13, Msg.keepC hHeld.2.2.2.2.2.2.2.2.2.2.2.2.2.2.2.2.1 k13, Msg.keepC hHeld.2.2.2.2.2.2.2.2.2.2.2.2.2.2.2.2.2.1 k13, Msg.keepC hHeld.2.2.2.2.2.2.2.2.2.2.2.2.2.2.2.2.2.2.1 k13, Msg.keepC hHeld.2.2.2.2.2.2.2.2.2.2.2.2.2.2.2.2.2.2.2.1 k13, Msg.keepC hHeld.2.2.2.2.2.2.2.2.2.2.2.2.2.2.2.2.2.2.2.2.1 k13, Msg.keepC hHeld.2.2.2.2.2.2.2.2.2.2.2.2.2.2.2.2.2.2.2.2.2.1 k13, Msg.keepC hHeld.2.2.2.2.2.2.2.2.2.2.2.2.2.2.2.2.2.2.2.2.2.2.1 k13, Msg.keepC hHeld.2.2.2.2.2.2.2.2.2.2.2.2.2.2.2.2.2.2.2.2.2.2.2.1 k13, Msg.keepC hHeld.2.2.2.2.2.2.2.2.2.2.2.2.2.2.2.2.2.2.2.2.2.2.2.2.1 k13, Msg.keepC hHeld.2.2.2.2.2.2.2.2.2.2.2.2.2.2.2.2.2.2.2.2.2.2.2.2.2 k13⟩) (fun hHeld => ?_)
      clear hK K k13
      try simp only [Act.put, List.setIfInBounds_toArray, List.set_cons_zero, List.set_cons_succ]
      refine wpAnyH_ready (rs := [9]) (by kernel_rfl) (by simp) ?_
      refine AllReadyH.cons (by simp only [List.getElem?_toArray, List.getElem?_cons_succ, List.getElem?_cons_zero]; rfl) (fun K hK => ?_) AllReadyH.nil
      go_simp
      go_at_call 12
      refine (copied_is MX.out _ hHeld.2.2.2.1).mono ?_
      rintro e v14 ⟨bC, dC, rfl, lC, -, k14⟩
      replace lA := (lA).below k14
      replace lB := (lB).below k14
      go_wp2_with fail
      refine hK.out _ _ (⟨bstep hHeld.1 k14, (hHeld.2.1).below k14, (hHeld.2.2.1).below k14, (hHeld.2.2.2.1).below k14, (hHeld.2.2.2.2.1).below k14, (hHeld.2.2.2.2.2.1).below k14, Msg.keepC hHeld.2.2.2.2.2.2.1 k14, Msg.keepC hHeld.2.2.2.2.2.2.2.1 k14, Msg.keepC hHeld.2.2.2.2.2.2.2.2.1 k14, Msg.keepC hHeld.2.2.2.2.2.2.2.2.2.1 k14, Msg.keepC hHeld.2.2.2.2.2.2.2.2.2.2.1 k14, Msg.keepC hHeld.2.2.2.2.2.2.2.2.2.2.2.1 k14, Msg.keepC hHeld.2.2.2.2.2.2.2.2.2.2.2.2.1 k14, Msg.keepC hHeld.2.2.2.2.2.2.2.2.2.2.2.2.2.1 k14, Msg.keepC hHeld.2.2.2.2.2.2.2.2.2.2.2.2.2.2.1 k14, Msg.keepC hHeld.2.2.2.2.2.2.2.2.2.2.2.2.2.2.2.1 k14, Msg.keepC hHeld.2.2.2.2.2.2.2.2.2.2.2.2.2.2.2.2.1 k14, Msg.keepC hHeld.2.2.2.2.2.2.2.2.2.2.2.2.2.2.2.2.2.1 k14, Msg.keepC hHeld.2.2.2.2.2.2.2.2.2.2.2.2.2.2.2.2.2.2.1 k14, Msg.keepC hHeld.2.2.2.2.2.2.2.2.2.2.2.2.2.2.2.2.2.2.2.1 k14, Msg.keepC hHeld.2.2.2.2.2.2.2.2.2.2.2.2.2.2.2.2.2.2.2.2.1 k14, Msg.keepC hHeld.2.2.2.2.2.2.2.2.2.2.2.2.2.2.2.2.2.2.2.2.2.1 k14, Msg.keepC hHeld.2.2.2.2.2.2.2.2.2.2.2.2.2.2.2.2.2.2.2.2.2.2.1 k14, Msg.keepC hHeld.2.2.2.2.2.2.2.2.2.2.2.2.2.2.2.2.2.2.2.2.2.2.2.1 k14, Msg.keepC hHeld.2.2.2.2.2.2.2.2.2.2.2.2.2.2.2.2.2.2.2.2.2.2.2.2.1 k14, Msg.keepC hHeld.2.2.2.2.2.2.2.2.2.2.2.2.2.2.2.2.2.2.2.2.2.2.2.2.2 k14⟩) (fun hHeld => ?_)
      clear hK K k14
      try simp only [Act.put, List.setIfInBounds_toArray, List.set_cons_zero, List.set_cons_succ]
      refine wpAnyH_ready (rs := [10]) (by kernel_rfl) (by simp) ?_
      refine AllReadyH.cons (by simp only [List.getElem?_toArray, List.getElem?_cons_succ, List.getElem?_cons_zero]; rfl) (fun K hK => ?_) AllReadyH.nil
      go_simp
      go_at_call 15
      refine (Same_is false hq.out _ lB lC mlen).mono ?_
      rintro e v15 ⟨rfl, k15⟩
      replace lA := (lA).below k15
      replace lB := (lB).below k15
      replace lC := (lC).below k15
      go_wp2_with fail
      refine hK.out _ _ (⟨bstep hHeld.1 k15, (hHeld.2.1).below k15, (hHeld.2.2.1).below k15, (hHeld.2.2.2.1).below k15, (hHeld.2.2.2.2.1).below k15, (hHeld.2.2.2.2.2.1).below k15, Msg.keepC hHeld.2.2.2.2.2.2.1 k15, Msg.keepC hHeld.2.2.2.2.2.2.2.1 k15, Msg.keepC hHeld.2.2.2.2.2.2.2.2.1 k15, Msg.keepC hHeld.2.2.2.2.2.2.2.2.2.1 k15, Msg.keepC hHeld.2.2.2.2.2.2.2.2.2.2.1 k15, Msg.keepC hHeld.2.2.2.2.2.2.2.2.2.2.2.1 k15, Msg.keepC hHeld.2.2.2.2.2.2.2.2.2.2.2.2.1 k15, Msg.keepC hHeld.2.2.2.2.2.2.2.2.2.2.2.2.2.1 k15, Msg.keepC hHeld.2.2.2.2.2.2.2.2.2.2.2.2.2.2.1 k15, Msg.keepC hHeld.2.2.2.2.2.2.2.2.2.2.2.2.2.2.2.1 k15, Msg.keepC hHeld.2.2.2.2.2.2.2.2.2.2.2.2.2.2.2.2.1 k15, Msg.keepC hHeld.2.2.2.2.2.2.2.2.2.2.2.2.2.2.2.2.2.1 k15, Msg.keepC hHeld.2.2.2.2.2.2.2.2.2.2.2.2.2.2.2.2.2.2.1 k15, Msg.keepC hHeld.2.2.2.2.2.2.2.2.2.2.2.2.2.2.2.2.2.2.2.1 k15, Msg.keepC hHeld.2.2.2.2.2.2.2.2.2.2.2.2.2.2.2.2.2.2.2.2.1 k15, Msg.keepC hHeld.2.2.2.2.2.2.2.2.2.2.2.2.2.2.2.2.2.2.2.2.2.1 k15, Msg.keepC hHeld.2.2.2.2.2.2.2.2.2.2.2.2.2.2.2.2.2.2.2.2.2.2.1 k15, Msg.keepC hHeld.2.2.2.2.2.2.2.2.2.2.2.2.2.2.2.2.2.2.2.2.2.2.2.1 k15, Msg.keepC hHeld.2.2.2.2.2.2.2.2.2.2.2.2.2.2.2.2.2.2.2.2.2.2.2.2.1 k15, Msg.keepC hHeld.2.2.2.2.2.2.2.2.2.2.2.2.2.2.2.2.2.2.2.2.2.2.2.2.2 k15⟩) (fun hHeld => ?_)
      clear hK K k15
      try simp only [Act.put, List.setIfInBounds_toArray, List.set_cons_zero, List.set_cons_succ]
      refine wpAnyH_ready (rs := [13]) (by kernel_rfl) (by simp) ?_
      refine AllReadyH.cons (by simp only [List.getElem?_toArray, List.getElem?_cons_succ, List.getElem?_cons_zero]; rfl) (fun K hK => ?_) AllReadyH.nil
      go_simp
      go_at_call 16
      refine (same_is false hq.out _ hHeld.2.2.1 hHeld.2.2.2.1 mlen).mono ?_
      rintro e v16 ⟨rfl, k16⟩
      replace lA := (lA).below k16
      replace lB := (lB).below k16
      replace lC := (lC).below k16
      go_wp2_with fail
      refine hK.out _ _ (⟨bstep hHeld.1 k16, (hHeld.2.1).below k16, (hHeld.2.2.1).below k16, (hHeld.2.2.2.1).below k16, (hHeld.2.2.2.2.1).below k16, (hHeld.2.2.2.2.2.1).below k16, Msg.keepC hHeld.2.2.2.2.2.2.1 k16, Msg.keepC hHeld.2.2.2.2.2.2.2.1 k16, Msg.keepC hHeld.2.2.2.2.2.2.2.2.1 k16, Msg.keepC hHeld.2.2.2.2.2.2.2.2.2.1 k16, Msg.keepC hHeld.2.2.2.2.2.2.2.2.2.2.1 k16, Msg.keepC hHeld.2.2.2.2.2.2.2.2.2.2.2.1 k16, Msg.keepC hHeld.2.2.2.2.2.2.2.2.2.2.2.2.1 k16, Msg.keepC hHeld.2.2.2.2.2.2.2.2.2.2.2.2.2.1 k16, Msg.keepC hHeld.2.2.2.2.2.2.2.2.2.2.2.2.2.2.1 k16, Msg.keepC hHeld.2.2.2.2.2.2.2.2.2.2.2.2.2.2.2.1 k16, Msg.keepC hHeld.2.2.2.2.2.2.2.2.2.2.2.2.2.2.2.2.1 k16, Msg.keepC hHeld.2.2.2.2.2.2.2.2.2.2.2.2.2.2.2.2.2.1 k16, Msg.keepC hHeld.2.2.2.2.2.2.2.2.2.2.2.2.2.2.2.2.2.2.1 k16, Msg.keepC hHeld.2.2.2.2.2.2.2.2.2.2.2.2.2.2.2.2.2.2.2.1 k16, Msg.keepC hHeld.2.2.2.2.2.2.2.2.2.2.2.2.2.2.2.2.2.2.2.2.1 k16, Msg.keepC hHeld.2.2.2.2.2.2.2.2.2.2.2.2.2.2.2.2.2.2.2.2.2.1 k16, Msg.keepC hHeld.2.2.2.2.2.2.2.2.2.2.2.2.2.2.2.2.2.2.2.2.2.2.1 k16, Msg.keepC hHeld.2.2.2.2.2.2.2.2.2.2.2.2.2.2.2.2.2.2.2.2.2.2.2.1 k16, Msg.keepC hHeld.2.2.2.2.2.2.2.2.2.2.2.2.2.2.2.2.2.2.2.2.2.2.2.2.1 k16, Msg.keepC hHeld.2.2.2.2.2.2.2.2.2.2.2.2.2.2.2.2.2.2.2.2.2.2.2.2.2 k16⟩) (fun hHeld => ?_)
      clear hK K k16
      try simp only [Act.put, List.setIfInBounds_toArray, List.set_cons_zero, List.set_cons_succ]
      refine wpAnyH_take (i := 14) (v := ?_) (by simp only [List.getElem?_toArray, List.getElem?_cons_succ, List.getElem?_cons_zero]; rfl) (by kernel_rfl) (by kernel_rfl) (by kernel_rfl) (fun _ _ _ h => h) (Or.inl ⟨by rfl, ?_⟩) (by assumption) ?_
      rotate_left
      · (intro w hSw; (try dsimp only at hSw); go_simp; try with_reducible rfl)
      try simp only [Act.put, List.setIfInBounds_toArray, List.set_cons_zero, List.set_cons_succ]
      refine wpAnyH_take (i := 15) (v := ?_) (by simp only [List.getElem?_toArray, List.getElem?_cons_succ, List.getElem?_cons_zero]; rfl) (by kernel_rfl) (by kernel_rfl) (by kernel_rfl) (fun _ _ _ h => h) (Or.inl ⟨by rfl, ?_⟩) (by assumption) ?_
      rotate_left
      · (intro w hSw; (try dsimp only at hSw); go_simp; try with_reducible rfl)
      try simp only [Act.put, List.setIfInBounds_toArray, List.set_cons_zero, List.set_cons_succ]
      refine wpAnyH_take (i := 16) (v := ?_) (by simp only [List.getElem?_toArray, List.getElem?_cons_succ, List.getElem?_cons_zero]; rfl) (by kernel_rfl) (by kernel_rfl) (by kernel_rfl) (fun _ _ _ h => h) (Or.inl ⟨by rfl, ?_⟩) (by assumption) ?_
      rotate_left
      · (intro w hSw; (try dsimp only at hSw); go_simp; try with_reducible rfl)
      try simp only [Act.put, List.setIfInBounds_toArray, List.set_cons_zero, List.set_cons_succ]
      refine wpAnyH_take (i := 17) (v := ?_) (by simp only [List.getElem?_toArray, List.getElem?_cons_succ, List.getElem?_cons_zero]; rfl) (by kernel_rfl) (by kernel_rfl) (by kernel_rfl) (fun _ _ _ h => h) (Or.inl ⟨by rfl, ?_⟩) (by assumption) ?_
      rotate_left
      · (intro w hSw; (try dsimp only at hSw); go_simp; try with_reducible rfl)
      try simp only [Act.put, List.setIfInBounds_toArray, List.set_cons_zero, List.set_cons_succ]
      refine wpAnyH_take (i := 19) (v := ?_) (by simp only [List.getElem?_toArray, List.getElem?_cons_succ, List.getElem?_cons_zero]; rfl) (by kernel_rfl) (by kernel_rfl) (by kernel_rfl) (fun _ _ _ h => h) (Or.inl ⟨by rfl, ?_⟩) (by assumption) ?_
      rotate_left
      · (intro w hSw; (try dsimp only at hSw); go_simp; try with_reducible rfl)
      try simp only [Act.put, List.setIfInBounds_toArray, List.set_cons_zero, List.set_cons_succ]
      refine wpAnyH_ready (rs := [18]) (by kernel_rfl) (by simp) ?_
      refine AllReadyH.cons (by simp only [List.getElem?_toArray, List.getElem?_cons_succ, List.getElem?_cons_zero]; rfl) (fun K hK => ?_) AllReadyH.nil
      go_simp
      go_at_call 12
      refine (copied_is MM.out _ hHeld.2.2.1).mono ?_
      rintro e v17 ⟨bD, dD, rfl, lD, -, k17⟩
      replace lA := (lA).below k17
      replace lB := (lB).below k17
      replace lC := (lC).below k17
      go_wp2_with fail
      refine hK.out _ _ (⟨bstep hHeld.1 k17, (hHeld.2.1).below k17, (hHeld.2.2.1).below k17, (hHeld.2.2.2.1).below k17, (hHeld.2.2.2.2.1).below k17, (hHeld.2.2.2.2.2.1).below k17, Msg.keepC hHeld.2.2.2.2.2.2.1 k17, Msg.keepC hHeld.2.2.2.2.2.2.2.1 k17, Msg.keepC hHeld.2.2.2.2.2.2.2.2.1 k17, Msg.keepC hHeld.2.2.2.2.2.2.2.2.2.1 k17, Msg.keepC hHeld.2.2.2.2.2.2.2.2.2.2.1 k17, Msg.keepC hHeld.2.2.2.2.2.2.2.2.2.2.2.1 k17, Msg.keepC hHeld.2.2.2.2.2.2.2.2.2.2.2.2.1 k17, Msg.keepC hHeld.2.2.2.2.2.2.2.2.2.2.2.2.2.1 k17, Msg.keepC hHeld.2.2.2.2.2.2.2.2.2.2.2.2.2.2.1 k17, Msg.keepC hHeld.2.2.2.2.2.2.2.2.2.2.2.2.2.2.2.1 k17, Msg.keepC hHeld.2.2.2.2.2.2.2.2.2.2.2.2.2.2.2.2.1 k17, Msg.keepC hHeld.2.2.2.2.2.2.2.2.2.2.2.2.2.2.2.2.2.1 k17, Msg.keepC hHeld.2.2.2.2.2.2.2.2.2.2.2.2.2.2.2.2.2.2.1 k17, Msg.keepC hHeld.2.2.2.2.2.2.2.2.2.2.2.2.2.2.2.2.2.2.2.1 k17, Msg.keepC hHeld.2.2.2.2.2.2.2.2.2.2.2.2.2.2.2.2.2.2.2.2.1 k17, Msg.keepC hHeld.2.2.2.2.2.2.2.2.2.2.2.2.2.2.2.2.2.2.2.2.2.1 k17, Msg.keepC hHeld.2.2.2.2.2.2.2.2.2.2.2.2.2.2.2.2.2.2.2.2.2.2.1 k17, Msg.keepC hHeld.2.2.2.2.2.2.2.2.2.2.2.2.2.2.2.2.2.2.2.2.2.2.2.1 k17, Msg.keepC hHeld.2.2.2.2.2.2.2.2.2.2.2.2.2.2.2.2.2.2.2.2.2.2.2.2.1 k17, Msg.keepC hHeld.2.2.2.2.2.2.2.2.2.2.2.2.2.2.2.2.2.2.2.2.2.2.2.2.2 k17⟩) (fun hHeld => ?_)
      clear hK K k17
      try simp only [Act.put, List.setIfInBounds_toArray, List.set_cons_zero, List.set_cons_succ]
      refine wpAnyH_ready (rs := [20]) (by kernel_rfl) (by simp) ?_
      refine AllReadyH.cons (by simp only [List.getElem?_toArray, List.getElem?_cons_succ, List.getElem?_cons_zero]; rfl) (fun K hK => ?_) AllReadyH.nil
      go_simp
      go_at_call 12
      refine (copied_is MM.out _ hHeld.2.2.1).mono ?_
      rintro e v18 ⟨bE, dE, rfl, lE, -, k18⟩
      replace lA := (lA).below k18
      replace lB := (lB).below k18
      replace lC := (lC).below k18
      replace lD := (lD).below k18
      go_wp2_with fail
      refine hK.out _ _ (⟨bstep hHeld.1 k18, (hHeld.2.1).below k18, (hHeld.2.2.1).below k18, (hHeld.2.2.2.1).below k18, (hHeld.2.2.2.2.1).below k18, (hHeld.2.2.2.2.2.1).below k18, Msg.keepC hHeld.2.2.2.2.2.2.1 k18, Msg.keepC hHeld.2.2.2.2.2.2.2.1 k18, Msg.keepC hHeld.2.2.2.2.2.2.2.2.1 k18, Msg.keepC hHeld.2.2.2.2.2.2.2.2.2.1 k18, Msg.keepC hHeld.2.2.2.2.2.2.2.2.2.2.1 k18, Msg.keepC hHeld.2.2.2.2.2.2.2.2.2.2.2.1 k18, Msg.keepC hHeld.2.2.2.2.2.2.2.2.2.2.2.2.1 k18, Msg.keepC hHeld.2.2.2.2.2.2.2.2.2.2.2.2.2.1 k18, Msg.keepC hHeld.2.2.2.2.2.2.2.2.2.2.2.2.2.2.1 k18, Msg.keepC hHeld.2.2.2.2.2.2.2.2.2.2.2.2.2.2.2.1 k18, Msg.keepC hHeld.2.2.2.2.2.2.2.2.2.2.2.2.2.2.2.2.1 k18, Msg.keepC hHeld.2.2.2.2.2.2.2.2.2.2.2.2.2.2.2.2.2.1 k18, Msg.keepC hHeld.2.2.2.2.2.2.2.2.2.2.2.2.2.2.2.2.2.2.1 k18, Msg.keepC hHeld.2.2.2.2.2.2.2.2.2.2.2.2.2.2.2.2.2.2.2.1 k18, Msg.keepC hHeld.2.2.2.2.2.2.2.2.2.2.2.2.2.2.2.2.2.2.2.2.1 k18, Msg.keepC hHeld.2.2.2.2.2.2.2.2.2.2.2.2.2.2.2.2.2.2.2.2.2.1 k18, Msg.keepC hHeld.2.2.2.2.2.2.2.2.2.2.2.2.2.2.2.2.2.2.2.2.2.2.1 k18, Msg.keepC hHeld.2.2.2.2.2.2.2.2.2.2.2.2.2.2.2.2.2.2.2.2.2.2.2.1 k18, Msg.keepC hHeld.2.2.2.2.2.2.2.2.2.2.2.2.2.2.2.2.2.2.2.2.2.2.2.2.1 k18, Msg.keepC hHeld.2.2.2.2.2.2.2.2.2.2.2.2.2.2.2.2.2.2.2.2.2.2.2.2.2 k18⟩) (fun hHeld => ?_)
      clear hK K k18
      try simp only [Act.put, List.setIfInBounds_toArray, List.set_cons_zero, List.set_cons_succ]
      refine wpAnyH_ready (rs := [21]) (by kernel_rfl) (by simp) ?_
      refine AllReadyH.cons (by simp only [List.getElem?_toArray, List.getElem?_cons_succ, List.getElem?_cons_zero]; rfl) (fun K hK => ?_) AllReadyH.nil
      go_simp
      go_at_call 15
      refine (Same_is true (by simp) _ lD lE mlen).mono ?_
      rintro e v19 ⟨rfl, k19⟩
      replace lA := (lA).below k19
      replace lB := (lB).below k19
      replace lC := (lC).below k19
      replace lD := (lD).below k19
      replace lE := (lE).below k19
      go_wp2_with fail
      refine hK.out _ _ (⟨bstep hHeld.1 k19, (hHeld.2.1).below k19, (hHeld.2.2.1).below k19, (hHeld.2.2.2.1).below k19, (hHeld.2.2.2.2.1).below k19, (hHeld.2.2.2.2.2.1).below k19, Msg.keepC hHeld.2.2.2.2.2.2.1 k19, Msg.keepC hHeld.2.2.2.2.2.2.2.1 k19, Msg.keepC hHeld.2.2.2.2.2.2.2.2.1 k19, Msg.keepC hHeld.2.2.2.2.2.2.2.2.2.1 k19, Msg.keepC hHeld.2.2.2.2.2.2.2.2.2.2.1 k19, Msg.keepC hHeld.2.2.2.2.2.2.2.2.2.2.2.1 k19, Msg.keepC hHeld.2.2.2.2.2.2.2.2.2.2.2.2.1 k19, Msg.keepC hHeld.2.2.2.2.2.2.2.2.2.2.2.2.2.1 k19, Msg.keepC hHeld.2.2.2.2.2.2.2.2.2.2.2.2.2.2.1 k19, Msg.keepC hHeld.2.2.2.2.2.2.2.2.2.2.2.2.2.2.2.1 k19, Msg.keepC hHeld.2.2.2.2.2.2.2.2.2.2.2.2.2.2.2.2.1 k19, Msg.keepC hHeld.2.2.2.2.2.2.2.2.2.2.2.2.2.2.2.2.2.1 k19, Msg.keepC hHeld.2.2.2.2.2.2.2.2.2.2.2.2.2.2.2.2.2.2.1 k19, Msg.keepC hHeld.2.2.2.2.2.2.2.2.2.2.2.2.2.2.2.2.2.2.2.1 k19, Msg.keepC hHeld.2.2.2.2.2.2.2.2.2.2.2.2.2.2.2.2.2.2.2.2.1 k19, Msg.keepC hHeld.2.2.2.2.2.2.2.2.2.2.2.2.2.2.2.2.2.2.2.2.2.1 k19, Msg.keepC hHeld.2.2.2.2.2.2.2.2.2.2.2.2.2.2.2.2.2.2.2.2.2.2.1 k19, Msg.keepC hHeld.2.2.2.2.2.2.2.2.2.2.2.2.2.2.2.2.2.2.2.2.2.2.2.1 k19, Msg.keepC hHeld.2.2.2.2.2.2.2.2.2.2.2.2.2.2.2.2.2.2.2.2.2.2.2.2.1 k19, Msg.keepC hHeld.2.2.2.2.2.2.2.2.2.2.2.2.2.2.2.2.2.2.2.2.2.2.2.2.2 k19⟩) (fun hHeld => ?_)
      clear hK K k19
      try simp only [Act.put, List.setIfInBounds_toArray, List.set_cons_zero, List.set_cons_succ]
      refine wpAnyH_take (i := 22) (v := ?_) (by simp only [List.getElem?_toArray, List.getElem?_cons_succ, List.getElem?_cons_zero]; rfl) (by kernel_rfl) (by kernel_rfl) (by kernel_rfl) (fun _ _ _ h => h) (Or.inl ⟨by rfl, ?_⟩) (by assumption) ?_
      rotate_left
      · (intro w hSw; (try dsimp only at hSw); go_simp; try with_reducible rfl)
      try simp only [Act.put, List.setIfInBounds_toArray, List.set_cons_zero, List.set_cons_succ]
      refine wpAnyH_take (i := 23) (v := ?_) (by simp only [List.getElem?_toArray, List.getElem?_cons_succ, List.getElem?_cons_zero]; rfl) (by kernel_rfl) (by kernel_rfl) (by kernel_rfl) (fun _ _ _ h => h) (Or.inl ⟨by rfl, ?_⟩) (by assumption) ?_
      rotate_left
      · (intro w hSw; (try dsimp only at hSw); go_simp; try with_reducible rfl)
      try simp only [Act.put, List.setIfInBounds_toArray, List.set_cons_zero, List.set_cons_succ]
      refine wpAnyH_ready (rs := [24]) (by kernel_rfl) (by simp) ?_
      refine AllReadyH.cons (by simp only [List.getElem?_toArray, List.getElem?_cons_succ, List.getElem?_cons_zero]; rfl) (fun K hK => ?_) AllReadyH.nil
      go_simp
      go_at_call 9
      refine (works_any _ hHeld.2.1).mono ?_
      rintro e v20 ⟨rfl, k20⟩
      replace lA := (lA).below k20
      replace lB := (lB).below k20
      replace lC := (lC).below k20
      replace lD := (lD).below k20
      replace lE := (lE).below k20
      go_wp2_with fail
      refine hK.out _ _ (⟨bstep hHeld.1 k20, (hHeld.2.1).below k20, (hHeld.2.2.1).below k20, (hHeld.2.2.2.1).below k20, (hHeld.2.2.2.2.1).below k20, (hHeld.2.2.2.2.2.1).below k20, Msg.keepC hHeld.2.2.2.2.2.2.1 k20, Msg.keepC hHeld.2.2.2.2.2.2.2.1 k20, Msg.keepC hHeld.2.2.2.2.2.2.2.2.1 k20, Msg.keepC hHeld.2.2.2.2.2.2.2.2.2.1 k20, Msg.keepC hHeld.2.2.2.2.2.2.2.2.2.2.1 k20, Msg.keepC hHeld.2.2.2.2.2.2.2.2.2.2.2.1 k20, Msg.keepC hHeld.2.2.2.2.2.2.2.2.2.2.2.2.1 k20, Msg.keepC hHeld.2.2.2.2.2.2.2.2.2.2.2.2.2.1 k20, Msg.keepC hHeld.2.2.2.2.2.2.2.2.2.2.2.2.2.2.1 k20, Msg.keepC hHeld.2.2.2.2.2.2.2.2.2.2.2.2.2.2.2.1 k20, Msg.keepC hHeld.2.2.2.2.2.2.2.2.2.2.2.2.2.2.2.2.1 k20, Msg.keepC hHeld.2.2.2.2.2.2.2.2.2.2.2.2.2.2.2.2.2.1 k20, Msg.keepC hHeld.2.2.2.2.2.2.2.2.2.2.2.2.2.2.2.2.2.2.1 k20, Msg.keepC hHeld.2.2.2.2.2.2.2.2.2.2.2.2.2.2.2.2.2.2.2.1 k20, Msg.keepC hHeld.2.2.2.2.2.2.2.2.2.2.2.2.2.2.2.2.2.2.2.2.1 k20, Msg.keepC hHeld.2.2.2.2.2.2.2.2.2.2.2.2.2.2.2.2.2.2.2.2.2.1 k20, Msg.keepC hHeld.2.2.2.2.2.2.2.2.2.2.2.2.2.2.2.2.2.2.2.2.2.2.1 k20, Msg.keepC hHeld.2.2.2.2.2.2.2.2.2.2.2.2.2.2.2.2.2.2.2.2.2.2.2.1 k20, Msg.keepC hHeld.2.2.2.2.2.2.2.2.2.2.2.2.2.2.2.2.2.2.2.2.2.2.2.2.1 k20, Msg.keepC hHeld.2.2.2.2.2.2.2.2.2.2.2.2.2.2.2.2.2.2.2.2.2.2.2.2.2 k20⟩) (fun hHeld => ?_)
      clear hK K k20
      try simp only [Act.put, List.setIfInBounds_toArray, List.set_cons_zero, List.set_cons_succ]
      refine wpAnyH_take (i := 25) (v := ?_) (by simp only [List.getElem?_toArray, List.getElem?_cons_succ, List.getElem?_cons_zero]; rfl) (by kernel_rfl) (by kernel_rfl) (by kernel_rfl) (fun _ _ _ h => h) (Or.inl ⟨by rfl, ?_⟩) (by assumption) ?_
      rotate_left
      · (intro w hSw; (try dsimp only at hSw); go_simp; try with_reducible rfl)
      try simp only [Act.put, List.setIfInBounds_toArray, List.set_cons_zero, List.set_cons_succ]
      refine wpAnyH_take (i := 26) (v := ?_) (by simp only [List.getElem?_toArray, List.getElem?_cons_succ, List.getElem?_cons_zero]; rfl) (by kernel_rfl) (by kernel_rfl) (by kernel_rfl) (fun _ _ _ h => h) (Or.inl ⟨by rfl, ?_⟩) (by assumption) ?_
      rotate_left
      · (intro w hSw; (try dsimp only at hSw); go_simp; try with_reducible rfl)
      try simp only [Act.put, List.setIfInBounds_toArray, List.set_cons_zero, List.set_cons_succ]
      refine wpAnyH_done (by kernel_rfl) ?_ _
      refine NoPanic.normal ?_
      clear hb tab lm lx bm bx x0 x1 x2 x3 x4 x5 x6 x7 x8 x9 y0 y1 y2 y3 y4 y5 y6 y7 y8 y9
      obtain ⟨hb, tab, lm, lx, bm, bx, x0, x1, x2, x3, x4, x5, x6, x7, x8, x9, y0, y1, y2, y3, y4, y5, y6, y7, y8, y9⟩ := hHeld
      replace tab := Lib.hid tab
      replace lm := Lib.hid lm
      replace lx := Lib.hid lx
      replace bm := Lib.hid bm
      replace bx := Lib.hid bx
      go_wp2
      go_ret
      exact ⟨rfl, hb⟩
    · replace hq := Lib.hid hq
      go_enter Tryd.func3, Tryd.ntmps3
      have x0 := bm.out 0 (.int .u8 (m.kind : Int)) rfl
      have x1 := bm.out 1 (.string ⟨m.src.toArray⟩) rfl
      have x2 := bm.out 2 (.string ⟨m.dst.toArray⟩) rfl
      have x3 := bm.out 3 (.string ⟨m.fr.toArray⟩) rfl
      have x4 := bm.out 4 (.int .u64 (m.seq : Int)) rfl
      have x5 := bm.out 5 (.slice a m.all.length c) rfl
      have x6 := bm.out 6 (.int .u64 (m.id : Int)) rfl
      have x7 := bm.out 7 (.int .i64 m.i) rfl
      have x8 := bm.out 8 (.int .i64 m.n) rfl
      have x9 := bm.out 9 (.string ⟨m.tx.toArray⟩) rfl
      have y0 := bx.out 0 (.int .u8 (x.kind : Int)) rfl
      have y1 := bx.out 1 (.string ⟨x.src.toArray⟩) rfl
      have y2 := bx.out 2 (.string ⟨x.dst.toArray⟩) rfl
      have y3 := bx.out 3 (.string ⟨x.fr.toArray⟩) rfl
      have y4 := bx.out 4 (.int .u64 (x.seq : Int)) rfl
      have y5 := bx.out 5 (.slice a' x.all.length c') rfl
      have y6 := bx.out 6 (.int .u64 (x.id : Int)) rfl
      have y7 := bx.out 7 (.int .i64 x.i) rfl
      have y8 := bx.out 8 (.int .i64 x.n) rfl
      have y9 := bx.out 9 (.string ⟨x.tx.toArray⟩) rfl
      go_wp2_with fail
      refine (heavy_is false v1.out WM.out _ lm.out).mono ?_
      rintro e v21 ⟨rfl, k21⟩
      replace tab := Lib.hid ((tab.out).below k21)
      replace lm := Lib.hid ((lm.out).below k21)
      replace lx := Lib.hid ((lx.out).below k21)
      replace bm := Lib.hid ((bm.out).below k21)
      replace bx := Lib.hid ((bx.out).below k21)
      replace x0 := (Msg.keepC x0 k21)
      replace x1 := (Msg.keepC x1 k21)
      replace x2 := (Msg.keepC x2 k21)
      replace x3 := (Msg.keepC x3 k21)
      replace x4 := (Msg.keepC x4 k21)
      replace x5 := (Msg.keepC x5 k21)
      replace x6 := (Msg.keepC x6 k21)
      replace x7 := (Msg.keepC x7 k21)
      replace x8 := (Msg.keepC x8 k21)
      replace x9 := (Msg.keepC x9 k21)
      replace y0 := (Msg.keepC y0 k21)
      replace y1 := (Msg.keepC y1 k21)
      replace y2 := (Msg.keepC y2 k21)
      replace y3 := (Msg.keepC y3 k21)
      replace y4 := (Msg.keepC y4 k21)
      replace y5 := (Msg.keepC y5 k21)
      replace y6 := (Msg.keepC y6 k21)
      replace y7 := (Msg.keepC y7 k21)
      replace y8 := (Msg.keepC y8 k21)
      replace y9 := (Msg.keepC y9 k21)
      replace hb := bstep hb k21
      clear k21
      go_wp2_with fail
      refine (heavy_is false v2.out WX.out _ lx.out).mono ?_
      rintro e v22 ⟨rfl, k22⟩
      replace tab := Lib.hid ((tab.out).below k22)
      replace lm := Lib.hid ((lm.out).below k22)
      replace lx := Lib.hid ((lx.out).below k22)
      replace bm := Lib.hid ((bm.out).below k22)
      replace bx := Lib.hid ((bx.out).below k22)
      replace x0 := (Msg.keepC x0 k22)
      replace x1 := (Msg.keepC x1 k22)
      replace x2 := (Msg.keepC x2 k22)
      replace x3 := (Msg.keepC x3 k22)
      replace x4 := (Msg.keepC x4 k22)
      replace x5 := (Msg.keepC x5 k22)
      replace x6 := (Msg.keepC x6 k22)
      replace x7 := (Msg.keepC x7 k22)
      replace x8 := (Msg.keepC x8 k22)
      replace x9 := (Msg.keepC x9 k22)
      replace y0 := (Msg.keepC y0 k22)
      replace y1 := (Msg.keepC y1 k22)
      replace y2 := (Msg.keepC y2 k22)
      replace y3 := (Msg.keepC y3 k22)
      replace y4 := (Msg.keepC y4 k22)
      replace y5 := (Msg.keepC y5 k22)
      replace y6 := (Msg.keepC y6 k22)
      replace y7 := (Msg.keepC y7 k22)
      replace y8 := (Msg.keepC y8 k22)
      replace y9 := (Msg.keepC y9 k22)
      replace hb := bstep hb k22
      clear k22
      go_wp2_with fail
      refine (RefMsg.may_of false r1.out MM.out BL.out _ lm.out).mono ?_
      rintro e v23 ⟨rfl, k23⟩
      replace tab := Lib.hid ((tab.out).below k23)
      replace lm := Lib.hid ((lm.out).below k23)
      replace lx := Lib.hid ((lx.out).below k23)
      replace bm := Lib.hid ((bm.out).below k23)
      replace bx := Lib.hid ((bx.out).below k23)
      replace x0 := (Msg.keepC x0 k23)
      replace x1 := (Msg.keepC x1 k23)
      replace x2 := (Msg.keepC x2 k23)
      replace x3 := (Msg.keepC x3 k23)
      replace x4 := (Msg.keepC x4 k23)
      replace x5 := (Msg.keepC x5 k23)
      replace x6 := (Msg.keepC x6 k23)
      replace x7 := (Msg.keepC x7 k23)
      replace x8 := (Msg.keepC x8 k23)
      replace x9 := (Msg.keepC x9 k23)
      replace y0 := (Msg.keepC y0 k23)
      replace y1 := (Msg.keepC y1 k23)
      replace y2 := (Msg.keepC y2 k23)
      replace y3 := (Msg.keepC y3 k23)
      replace y4 := (Msg.keepC y4 k23)
      replace y5 := (Msg.keepC y5 k23)
      replace y6 := (Msg.keepC y6 k23)
      replace y7 := (Msg.keepC y7 k23)
      replace y8 := (Msg.keepC y8 k23)
      replace y9 := (Msg.keepC y9 k23)
      replace hb := bstep hb k23
      clear k23
      go_wp2_with fail
      refine (copied_is MM.out _ lm.out).mono ?_
      rintro e v24 ⟨b24, d24, rfl, l24, -, k24⟩
      replace tab := Lib.hid ((tab.out).below k24)
      replace lm := Lib.hid ((lm.out).below k24)
      replace lx := Lib.hid ((lx.out).below k24)
      replace bm := Lib.hid ((bm.out).below k24)
      replace bx := Lib.hid ((bx.out).below k24)
      replace x0 := (Msg.keepC x0 k24)
      replace x1 := (Msg.keepC x1 k24)
      replace x2 := (Msg.keepC x2 k24)
      replace x3 := (Msg.keepC x3 k24)
      replace x4 := (Msg.keepC x4 k24)
      replace x5 := (Msg.keepC x5 k24)
      replace x6 := (Msg.keepC x6 k24)
      replace x7 := (Msg.keepC x7 k24)
      replace x8 := (Msg.keepC x8 k24)
      replace x9 := (Msg.keepC x9 k24)
      replace y0 := (Msg.keepC y0 k24)
      replace y1 := (Msg.keepC y1 k24)
      replace y2 := (Msg.keepC y2 k24)
      replace y3 := (Msg.keepC y3 k24)
      replace y4 := (Msg.keepC y4 k24)
      replace y5 := (Msg.keepC y5 k24)
      replace y6 := (Msg.keepC y6 k24)
      replace y7 := (Msg.keepC y7 k24)
      replace y8 := (Msg.keepC y8 k24)
      replace y9 := (Msg.keepC y9 k24)
      replace hb := bstep hb k24
      clear k24
      replace l24 := Lib.hid l24
      go_wp2_with fail
      refine (enc_is [] 2 hE.out MM.out _ l24.out tab.out).mono ?_
      rintro e v25 ⟨rfl, k25⟩
      replace tab := Lib.hid ((tab.out).below k25)
      replace lm := Lib.hid ((lm.out).below k25)
      replace lx := Lib.hid ((lx.out).below k25)
      replace bm := Lib.hid ((bm.out).below k25)
      replace bx := Lib.hid ((bx.out).below k25)
      replace x0 := (Msg.keepC x0 k25)
      replace x1 := (Msg.keepC x1 k25)
      replace x2 := (Msg.keepC x2 k25)
      replace x3 := (Msg.keepC x3 k25)
      replace x4 := (Msg.keepC x4 k25)
      replace x5 := (Msg.keepC x5 k25)
      replace x6 := (Msg.keepC x6 k25)
      replace x7 := (Msg.keepC x7 k25)
      replace x8 := (Msg.keepC x8 k25)
      replace x9 := (Msg.keepC x9 k25)
      replace y0 := (Msg.keepC y0 k25)
      replace y1 := (Msg.keepC y1 k25)
      replace y2 := (Msg.keepC y2 k25)
      replace y3 := (Msg.keepC y3 k25)
      replace y4 := (Msg.keepC y4 k25)
      replace y5 := (Msg.keepC y5 k25)
      replace y6 := (Msg.keepC y6 k25)
      replace y7 := (Msg.keepC y7 k25)
      replace y8 := (Msg.keepC y8 k25)
      replace y9 := (Msg.keepC y9 k25)
      replace l24 := Lib.hid ((l24.out).below k25)
      replace hb := bstep hb k25
      clear k25
      clear l24
      go_wp2_with fail
      refine wp_region_noPanic ?_
      refine wp_region_held_drew (S := (fun w' => Below w.heap.size w w' ∧ Crc.Tab w' ∧ Lies w' a m.all.length m.all ∧ Lies w' a' x.all.length x.all ∧ Box w' w.heap.size #[.int .u8 (m.kind : Int), .string ⟨m.src.toArray⟩, .string ⟨m.dst.toArray⟩, .string ⟨m.fr.toArray⟩, .int .u64 (m.seq : Int), .slice a m.all.length c, .int .u64 (m.id : Int), .int .i64 m.i, .int .i64 m.n, .string ⟨m.tx.toArray⟩] ∧ Box w' (w.heap.size + 1) #[.int .u8 (x.kind : Int), .string ⟨x.src.toArray⟩, .string ⟨x.dst.toArray⟩, .string ⟨x.fr.toArray⟩, .int .u64 (x.seq : Int), .slice a' x.all.length c', .int .u64 (x.id : Int), .int .i64 x.i, .int .i64 x.n, .string ⟨x.tx.toArray⟩] ∧ w'.cell? ⟨w.heap.size, 0, none⟩ = some (.int .u8 (m.kind : Int)) ∧ w'.cell? ⟨w.heap.size, 1, none⟩ = some (.string ⟨m.src.toArray⟩) ∧ w'.cell? ⟨w.heap.size, 2, none⟩ = some (.string ⟨m.dst.toArray⟩) ∧ w'.cell? ⟨w.heap.size, 3, none⟩ = some (.string ⟨m.fr.toArray⟩) ∧ w'.cell? ⟨w.heap.size, 4, none⟩ = some (.int .u64 (m.seq : Int)) ∧ w'.cell? ⟨w.heap.size, 5, none⟩ = some (.slice a m.all.length c) ∧ w'.cell? ⟨w.heap.size, 6, none⟩ = some (.int .u64 (m.id : Int)) ∧ w'.cell? ⟨w.heap.size, 7, none⟩ = some (.int .i64 m.i) ∧ w'.cell? ⟨w.heap.size, 8, none⟩ = some (.int .i64 m.n) ∧ w'.cell? ⟨w.heap.size, 9, none⟩ = some (.string ⟨m.tx.toArray⟩) ∧ w'.cell? ⟨w.heap.size + 1, 0, none⟩ = some (.int .u8 (x.kind : Int)) ∧ w'.cell? ⟨w.heap.size + 1, 1, none⟩ = some (.string ⟨x.src.toArray⟩) ∧ w'.cell? ⟨w.heap.size + 1, 2, none⟩ = some (.string ⟨x.dst.toArray⟩) ∧ w'.cell? ⟨w.heap.size + 1, 3, none⟩ = some (.string ⟨x.fr.toArray⟩) ∧ w'.cell? ⟨w.heap.size + 1, 4, none⟩ = some (.int .u64 (x.seq : Int)) ∧ w'.cell? ⟨w.heap.size + 1, 5, none⟩ = some (.slice a' x.all.length c') ∧ w'.cell? ⟨w.heap.size + 1, 6, none⟩ = some (.int .u64 (x.id : Int)) ∧ w'.cell? ⟨w.heap.size + 1, 7, none⟩ = some (.int .i64 x.i) ∧ w'.cell? ⟨w.heap.size + 1, 8, none⟩ = some (.int .i64 x.n) ∧ w'.cell? ⟨w.heap.size + 1, 9, none⟩ = some (.string ⟨x.tx.toArray⟩))) (by kernel_rfl) (⟨Below.drew hb, (tab.out).below (Below.drew (Below.refl _ _)), (lm.out).below (Below.drew (Below.refl _ _)), (lx.out).below (Below.drew (Below.refl _ _)), (bm.out).below (Below.drew (Below.refl _ _)), (bx.out).below (Below.drew (Below.refl _ _)), Msg.keepC x0 (Below.drew (Below.refl _ _)), Msg.keepC x1 (Below.drew (Below.refl _ _)), Msg.keepC x2 (Below.drew (Below.refl _ _)), Msg.keepC x3 (Below.drew (Below.refl _ _)), Msg.keepC x4 (Below.drew (Below.refl _ _)), Msg.keepC x5 (Below.drew (Below.refl _ _)), Msg.keepC x6 (Below.drew (Below.refl _ _)), Msg.keepC x7 (Below.drew (Below.refl _ _)), Msg.keepC x8 (Below.drew (Below.refl _ _)), Msg.keepC x9 (Below.drew (Below.refl _ _)), Msg.keepC y0 (Below.drew (Below.refl _ _)), Msg.keepC y1 (Below.drew (Below.refl _ _)), Msg.keepC y2 (Below.drew (Below.refl _ _)), Msg.keepC y3 (Below.drew (Below.refl _ _)), Msg.keepC y4 (Below.drew (Below.refl _ _)), Msg.keepC y5 (Below.drew (Below.refl _ _)), Msg.keepC y6 (Below.drew (Below.refl _ _)), Msg.keepC y7 (Below.drew (Below.refl _ _)), Msg.keepC y8 (Below.drew (Below.refl _ _)), Msg.keepC y9 (Below.drew (Below.refl _ _))⟩) (fun hHeld => ?_)
      revert hHeld
      generalize World.drew _ = wd
      intro hHeld
      refine wpAnyH_take (i := 0) (v := ?_) (by simp only [List.getElem?_toArray, List.getElem?_cons_zero]; rfl) (by kernel_rfl) (by kernel_rfl) (by kernel_rfl) (fun _ _ _ h => h) (Or.inl ⟨by rfl, ?_⟩) (by assumption) ?_
      rotate_left
      · (intro w hSw; (try dsimp only at hSw); go_simp; try with_reducible rfl)
      try simp only [Act.put, List.setIfInBounds_toArray, List.set_cons_zero, List.set_cons_succ]
      refine wpAnyH_take (i := 3) (v := ?_) (by simp only [List.getElem?_toArray, List.getElem?_cons_succ, List.getElem?_cons_zero]; rfl) (by kernel_rfl) (by kernel_rfl) (by kernel_rfl) (fun _ _ _ h => h) (Or.inl ⟨by rfl, ?_⟩) (by assumption) ?_
      rotate_left
      · (intro w hSw; (try dsimp only at hSw); go_simp; try with_reducible rfl)
      try simp only [Act.put, List.setIfInBounds_toArray, List.set_cons_zero, List.set_cons_succ]
      refine wpAnyH_ready (rs := [1]) (by kernel_rfl) (by simp) ?_
      refine AllReadyH.cons (by simp only [List.getElem?_toArray, List.getElem?_cons_succ, List.getElem?_cons_zero]; rfl) (fun K hK => ?_) AllReadyH.nil
      go_simp
      go_at_call 12
      refine (copied_is MM.out _ hHeld.2.2.1).mono ?_
      rintro e v26 ⟨bA, dA, rfl, lA, -, k26⟩
      go_wp2_with fail
      refine hK.out _ _ (⟨bstep hHeld.1 k26, (hHeld.2.1).below k26, (hHeld.2.2.1).below k26, (hHeld.2.2.2.1).below k26, (hHeld.2.2.2.2.1).below k26, (hHeld.2.2.2.2.2.1).below k26, Msg.keepC hHeld.2.2.2.2.2.2.1 k26, Msg.keepC hHeld.2.2.2.2.2.2.2.1 k26, Msg.keepC hHeld.2.2.2.2.2.2.2.2.1 k26, Msg.keepC hHeld.2.2.2.2.2.2.2.2.2.1 k26, Msg.keepC hHeld.2.2.2.2.2.2.2.2.2.2.1 k26, Msg.keepC hHeld.2.2.2.2.2.2.2.2.2.2.2.1 k26, Msg.keepC hHeld.2.2.2.2.2.2.2.2.2.2.2.2.1 k26, Msg.keepC hHeld.2.2.2.2.2.2.2.2.2.2.2.2.2.1 k26, Msg.keepC hHeld.2.2.2.2.2.2.2.2.2.2.2.2.2.2.1 k26, Msg.keepC hHeld.2.2.2.2.2.2.2.2.2.2.2.2.2.2.2.1 k26, Msg.keepC hHeld.2.2.2.2.2.2.2.2.2.2.2.2.2.2.2.2.1 k26, Msg.keepC hHeld.2.2.2.2.2.2.2.2.2.2.2.2.2.2.2.2.2.1 k26, Msg.keepC hHeld.2.2.2.2.2.2.2.2.2.2.2.2.2.2.2.2.2.2.1 k26, Msg.keepC hHeld.2.2.2.2.2.2.2.2.2.2.2.2.2.2.2.2.2.2.2.1 k26, Msg.keepC hHeld.2.2.2.2.2.2.2.2.2.2.2.2.2.2.2.2.2.2.2.2.1 k26, Msg.keepC hHeld.2.2.2.2.2.2.2.2.2.2.2.2.2.2.2.2.2.2.2.2.2.1 k26, Msg.keepC hHeld.2.2.2.2.2.2.2.2.2.2.2.2.2.2.2.2.2.2.2.2.2.2.1 k26, Msg.keepC hHeld.2.2.2.2.2.2.2.2.2.2.2.2.2.2.2.2.2.2.2.2.2.2.2.1 k26, Msg.keepC hHeld.2.2.2.2.2.2.2.2.2.2.2.2.2.2.2.2.2.2.2.2.2.2.2.2.1 k26, Msg.keepC hHeld.2.2.2.2.2.2.2.2.2.2.2.2.2.2.2.2.2.2.2.2.2.2.2.2.2 k26⟩) (fun hHeld => ?_)
      clear hK K k26
      try simp only [Act.put, List.setIfInBounds_toArray, List.set_cons_zero, List.set_cons_succ]
      refine wpAnyH_ready (rs := [2]) (by kernel_rfl) (by simp) ?_
      refine AllReadyH.cons (by simp only [List.getElem?_toArray, List.getElem?_cons_succ, List.getElem?_cons_zero]; rfl) (fun K hK => ?_) AllReadyH.nil
      go_simp
      go_at_call 14
      refine (may_eq false r1.out MM.out _ lA).mono ?_
      rintro e v27 ⟨rfl, k27⟩
      replace lA := (lA).below k27
      go_wp2_with fail
      refine hK.out _ _ (⟨bstep hHeld.1 k27, (hHeld.2.1).below k27, (hHeld.2.2.1).below k27, (hHeld.2.2.2.1).below k27, (hHeld.2.2.2.2.1).below k27, (hHeld.2.2.2.2.2.1).below k27, Msg.keepC hHeld.2.2.2.2.2.2.1 k27, Msg.keepC hHeld.2.2.2.2.2.2.2.1 k27, Msg.keepC hHeld.2.2.2.2.2.2.2.2.1 k27, Msg.keepC hHeld.2.2.2.2.2.2.2.2.2.1 k27, Msg.keepC hHeld.2.2.2.2.2.2.2.2.2.2.1 k27, Msg.keepC hHeld.2.2.2.2.2.2.2.2.2.2.2.1 k27, Msg.keepC hHeld.2.2.2.2.2.2.2.2.2.2.2.2.1 k27, Msg.keepC hHeld.2.2.2.2.2.2.2.2.2.2.2.2.2.1 k27, Msg.keepC hHeld.2.2.2.2.2.2.2.2.2.2.2.2.2.2.1 k27, Msg.keepC hHeld.2.2.2.2.2.2.2.2.2.2.2.2.2.2.2.1 k27, Msg.keepC hHeld.2.2.2.2.2.2.2.2.2.2.2.2.2.2.2.2.1 k27, Msg.keepC hHeld.2.2.2.2.2.2.2.2.2.2.2.2.2.2.2.2.2.1 k27, Msg.keepC hHeld.2.2.2.2.2.2.2.2.2.2.2.2.2.2.2.2.2.2.1 k27, Msg.keepC hHeld.2.2.2.2.2.2.2.2.2.2.2.2.2.2.2.2.2.2.2.1 k27, Msg.keepC hHeld.2.2.2.2.2.2.2.2.2.2.2.2.2.2.2.2.2.2.2.2.1 k27, Msg.keepC hHeld.2.2.2.2.2.2.2.2.2.2.2.2.2.2.2.2.2.2.2.2.2.1 k27, Msg.keepC hHeld.2.2.2.2.2.2.2.2.2.2.2.2.2.2.2.2.2.2.2.2.2.2.1 k27, Msg.keepC hHeld.2.2.2.2.2.2.2.2.2.2.2.2.2.2.2.2.2.2.2.2.2.2.2.1 k27, Msg.keepC hHeld.2.2.2.2.2.2.2.2.2.2.2.2.2.2.2.2.2.2.2.2.2.2.2.2.1 k27, Msg.keepC hHeld.2.2.2.2.2.2.2.2.2.2.2.2.2.2.2.2.2.2.2.2.2.2.2.2.2 k27⟩) (fun hHeld => ?_)
      clear hK K k27
      try simp only [Act.put, List.setIfInBounds_toArray, List.set_cons_zero, List.set_cons_succ]
      refine wpAnyH_take (i := 4) (v := ?_) (by simp only [List.getElem?_toArray, List.getElem?_cons_succ, List.getElem?_cons_zero]; rfl) (by kernel_rfl) (by kernel_rfl) (by kernel_rfl) (fun _ _ _ h => h) (Or.inl ⟨by rfl, ?_⟩) (by assumption) ?_
      rotate_left
      · (intro w hSw; (try dsimp only at hSw); go_simp; try with_reducible rfl)
      try simp only [Act.put, List.setIfInBounds_toArray, List.set_cons_zero, List.set_cons_succ]
      refine wpAnyH_take (i := 5) (v := ?_) (by simp only [List.getElem?_toArray, List.getElem?_cons_succ, List.getElem?_cons_zero]; rfl) (by kernel_rfl) (by kernel_rfl) (by kernel_rfl) (fun _ _ _ h => h) (Or.inl ⟨by rfl, ?_⟩) (by assumption) ?_
      rotate_left
      · (intro w hSw; (try dsimp only at hSw); go_simp; try with_reducible rfl)
      try simp only [Act.put, List.setIfInBounds_toArray, List.set_cons_zero, List.set_cons_succ]
      refine wpAnyH_take (i := 6) (v := ?_) (by simp only [List.getElem?_toArray, List.getElem?_cons_succ, List.getElem?_cons_zero]; rfl) (by kernel_rfl) (by kernel_rfl) (by kernel_rfl) (fun _ _ _ h => h) (Or.inl ⟨by rfl, ?_⟩) (by assumption) ?_
      rotate_left
      · (intro w hSw; (try dsimp only at hSw); go_simp; try with_reducible rfl)
      try simp only [Act.put, List.setIfInBounds_toArray, List.set_cons_zero, List.set_cons_succ]
      refine wpAnyH_take (i := 8) (v := ?_) (by simp only [List.getElem?_toArray, List.getElem?_cons_succ, List.getElem?_cons_zero]; rfl) (by kernel_rfl) (by kernel_rfl) (by kernel_rfl) (fun _ _ _ h => h) (Or.inl ⟨by rfl, ?_⟩) (by assumption) ?_
      rotate_left
      · (intro w hSw; (try dsimp only at hSw); go_simp; try with_reducible rfl)
      try simp only [Act.put, List.setIfInBounds_toArray, List.set_cons_zero, List.set_cons_succ]
      refine wpAnyH_take (i := 11) (v := ?_) (by simp only [List.getElem?_toArray, List.getElem?_cons_succ, List.getElem?_cons_zero]; rfl) (by kernel_rfl) (by kernel_rfl) (by kernel_rfl) (fun _ _ _ h => h) (Or.inl ⟨by rfl, ?_⟩) (by assumption) ?_
      rotate_left
      · (intro w hSw; (try dsimp only at hSw); go_simp; try with_reducible rfl)
      try simp only [Act.put, List.setIfInBounds_toArray, List.set_cons_zero, List.set_cons_succ]
      refine wpAnyH_take (i := 12) (v := ?_) (by simp only [List.getElem?_toArray, List.getElem?_cons_succ, List.getElem?_cons_zero]; rfl) (by kernel_rfl) (by kernel_rfl) (by kernel_rfl) (fun _ _ _ h => h) (Or.inl ⟨by rfl, ?_⟩) (by assumption) ?_
      rotate_left
      · (intro w hSw; (try dsimp only at hSw); go_simp; try with_reducible rfl)
      try simp only [Act.put, List.setIfInBounds_toArray, List.set_cons_zero, List.set_cons_succ]
      refine wpAnyH_ready (rs := [7]) (by kernel_rfl) (by simp) ?_
      refine AllReadyH.cons (by simp only [List.getElem?_toArray, List.getElem?_cons_succ, List.getElem?_cons_zero]; rfl) (fun K hK => ?_) AllReadyH.nil
      go_simp
      go_at_call 12
      refine (copied_is MM.out _ hHeld.2.2.1).mono ?_
      rintro e v28 ⟨bB, dB, rfl, lB, -, k28⟩
      replace lA := (lA).below k28
      go_wp2_with fail
      refine hK.out _ _ (⟨bstep hHeld.1 k28, (hHeld.2.1).below k28, (hHeld.2.2.1).below k28, (hHeld.2.2.2.1).below k28, (hHeld.2.2.2.2.1).below k28, (hHeld.2.2.2.2.2.1).below k28, Msg.keepC hHeld.2.2.2.2.2.2.1 k28, Msg.keepC hHeld.2.2.2.2.2.2.2.1 k28, Msg.keepC hHeld.2.2.2.2.2.2.2.2.1 k28, Msg.keepC hHeld.2.2.2.2.2.2.2.2.2.1 k28, Msg.keepC hHeld.2.2.2.2.2.2.2.2.2.2.1 k28, Msg.keepC hHeld.2.2.2.2.2.2.2.2.2.2.2.1 k28, Msg.keepC hHeld.2.2.2.2.2.2.2.2.2.2.2.2.1 k28, Msg.keepC hHeld.2.2.2.2.2.2.2.2.2.2.2.2.2.1 k28, Msg.keepC hHeld.2.2.2.2.2.2.2.2.2.2.2.2.2.2.1 k28, Msg.keepC hHeld.2.2.2.2.2.2.2.2.2.2.2.2.2.2.2.1 k28, Msg.keepC hHeld.2.2.2.2.2.2.2.2.2.2.2.2.2.2.2.2.1 k28, Msg.keepC hHeld.2.2.2.2.2.2.2.2.2.2.2.2.2.2.2.2.2.1 k28, Msg.keepC hHeld.2.2.2.2.2.2.2.2.2.2.2.2.2.2.2.2.2.2.1 k28, Msg.keepC hHeld.2.2.2.2.2.2.2.2.2.2.2.2.2.2.2.2.2.2.2.1 k28, Msg.keepC hHeld.2.2.2.2.2.2.2.2.2.2.2.2.2.2.2.2.2.2.2.2.1 k28, Msg.keepC hHeld.2.2.2.2.2.2.2.2.2.2.2.2.2.2.2.2.2.2.2.2.2.1 k28, Msg.keepC hHeld.2.2.2.2.2.2.2.2.2.2.2.2.2.2.2.2.2.2.2.2.2.2.1 k28, Msg.keepC hHeld.2.2.2.2.2.2.2.2.2.2.2.2.2.2.2.2.2.2.2.2.2.2.2.1 k28, Msg.keepC hHeld.2.2.2.2.2.2.2.2.2.2.2.2.2.2.2.2.2.2.2.2.2.2.2.2.1 k28, Msg.keepC hHeld.2.2.2.2.2.2.2.2.2.2.2.2.2.2.2.2.2.2.2.2.2.2.2.2.2 k28⟩) (fun hHeld => ?_)
      clear hK K k28
      try simp only [Act.put, List.setIfInBounds_toArray, List.set_cons_zero, List.set_cons_succ]
      refine wpAnyH_ready (rs := [9]) (by kernel_rfl) (by simp) ?_
      refine AllReadyH.cons (by simp only [List.getElem?_toArray, List.getElem?_cons_succ, List.getElem?_cons_zero]; rfl) (fun K hK => ?_) AllReadyH.nil
      go_simp
      go_at_call 12
      refine (copied_is MX.out _ hHeld.2.2.2.1).mono ?_
      rintro e v29 ⟨bC, dC, rfl, lC, -, k29⟩
      replace lA := (lA).below k29
      replace lB := (lB).below k29
      go_wp2_with fail
      refine hK.out _ _ (⟨bstep hHeld.1 k29, (hHeld.2.1).below k29, (hHeld.2.2.1).below k29, (hHeld.2.2.2.1).below k29, (hHeld.2.2.2.2.1).below k29, (hHeld.2.2.2.2.2.1).below k29, Msg.keepC hHeld.2.2.2.2.2.2.1 k29, Msg.keepC hHeld.2.2.2.2.2.2.2.1 k29, Msg.keepC hHeld.2.2.2.2.2.2.2.2.1 k29, Msg.keepC hHeld.2.2.2.2.2.2.2.2.2.1 k29, Msg.keepC hHeld.2.2.2.2.2.2.2.2.2.2.1 k29, Msg.keepC hHeld.2.2.2.2.2.2.2.2.2.2.2.1 k29, Msg.keepC hHeld.2.2.2.2.2.2.2.2.2.2.2.2.1 k29, Msg.keepC hHeld.2.2.2.2.2.2.2.2.2.2.2.2.2.1 k29, Msg.keepC hHeld.2.2.2.2.2.2.2.2.2.2.2.2.2.2.1 k29, Msg.keepC hHeld.2.2.2.2.2.2.2.2.2.2.2.2.2.2.2.1 k29, Msg.keepC hHeld.2.2.2.2.2.2.2.2.2.2.2.2.2.2.2.2.1 k29, Msg.keepC hHeld.2.2.2.2.2.2.2.2.2.2.2.2.2.2.2.2.2.1 k29, Msg.keepC hHeld.2.2.2.2.2.2.2.2.2.2.2.2.2.2.2.2.2.2.1 k29, Msg.keepC hHeld.2.2.2.2.2.2.2.2.2.2.2.2.2.2.2.2.2.2.2.1 k29, Msg.keepC hHeld.2.2.2.2.2.2.2.2.2.2.2.2.2.2.2.2.2.2.2.2.1 k29, Msg.keepC hHeld.2.2.2.2.2.2.2.2.2.2.2.2.2.2.2.2.2.2.2.2.2.1 k29, Msg.keepC hHeld.2.2.2.2.2.2.2.2.2.2.2.2.2.2.2.2.2.2.2.2.2.2.1 k29, Msg.keepC hHeld.2.2.2.2.2.2.2.2.2.2.2.2.2.2.2.2.2.2.2.2.2.2.2.1 k29, Msg.keepC hHeld.2.2.2.2.2.2.2.2.2.2.2.2.2.2.2.2.2.2.2.2.2.2.2.2.1 k29, Msg.keepC hHeld.2.2.2.2.2.2.2.2.2.2.2.2.2.2.2.2.2.2.2.2.2.2.2.2.2 k29⟩) (fun hHeld => ?_)
      clear hK K k29
      try simp only [Act.put, List.setIfInBounds_toArray, List.set_cons_zero, List.set_cons_succ]
      refine wpAnyH_ready (rs := [10]) (by kernel_rfl) (by simp) ?_
      refine AllReadyH.cons (by simp only [List.getElem?_toArray, List.getElem?_cons_succ, List.getElem?_cons_zero]; rfl) (fun K hK => ?_) AllReadyH.nil
      go_simp
      go_at_call 15
      refine (Same_is true hq.out _ lB lC mlen).mono ?_
      rintro e v30 ⟨rfl, k30⟩
      replace lA := (lA).below k30
      replace lB := (lB).below k30
      replace lC := (lC).below k30
      go_wp2_with fail
      refine hK.out _ _ (⟨bstep hHeld.1 k30, (hHeld.2.1).below k30, (hHeld.2.2.1).below k30, (hHeld.2.2.2.1).below k30, (hHeld.2.2.2.2.1).below k30, (hHeld.2.2.2.2.2.1).below k30, Msg.keepC hHeld.2.2.2.2.2.2.1 k30, Msg.keepC hHeld.2.2.2.2.2.2.2.1 k30, Msg.keepC hHeld.2.2.2.2.2.2.2.2.1 k30, Msg.keepC hHeld.2.2.2.2.2.2.2.2.2.1 k30, Msg.keepC hHeld.2.2.2.2.2.2.2.2.2.2.1 k30, Msg.keepC hHeld.2.2.2.2.2.2.2.2.2.2.2.1 k30, Msg.keepC hHeld.2.2.2.2.2.2.2.2.2.2.2.2.1 k30, Msg.keepC hHeld.2.2.2.2.2.2.2.2.2.2.2.2.2.1 k30, Msg.keepC hHeld.2.2.2.2.2.2.2.2.2.2.2.2.2.2.1 k30, Msg.keepC hHeld.2.2.2.2.2.2.2.2.2.2.2.2.2.2.2.1 k30, Msg.keepC hHeld.2.2.2.2.2.2.2.2.2.2.2.2.2.2.2.2.1 k30, Msg.keepC hHeld.2.2.2.2.2.2.2.2.2.2.2.2.2.2.2.2.2.1 k30, Msg.keepC hHeld.2.2.2.2.2.2.2.2.2.2.2.2.2.2.2.2.2.2.1 k30, Msg.keepC hHeld.2.2.2.2.2.2.2.2.2.2.2.2.2.2.2.2.2.2.2.1 k30, Msg.keepC hHeld.2.2.2.2.2.2.2.2.2.2.2.2.2.2.2.2.2.2.2.2.1 k30, Msg.keepC hHeld.2.2.2.2.2.2.2.2.2.2.2.2.2.2.2.2.2.2.2.2.2.1 k30, Msg.keepC hHeld.2.2.2.2.2.2.2.2.2.2.2.2.2.2.2.2.2.2.2.2.2.2.1 k30, Msg.keepC hHeld.2.2.2.2.2.2.2.2.2.2.2.2.2.2.2.2.2.2.2.2.2.2.2.1 k30, Msg.keepC hHeld.2.2.2.2.2.2.2.2.2.2.2.2.2.2.2.2.2.2.2.2.2.2.2.2.1 k30, Msg.keepC hHeld.2.2.2.2.2.2.2.2.2.2.2.2.2.2.2.2.2.2.2.2.2.2.2.2.2 k30⟩) (fun hHeld => ?_)
      clear hK K k30
      try simp only [Act.put, List.setIfInBounds_toArray, List.set_cons_zero, List.set_cons_succ]
      refine wpAnyH_ready (rs := [13]) (by kernel_rfl) (by simp) ?_
      refine AllReadyH.cons (by simp only [List.getElem?_toArray, List.getElem?_cons_succ, List.getElem?_cons_zero]; rfl) (fun K hK => ?_) AllReadyH.nil
      go_simp
      go_at_call 16
      refine (same_is true hq.out _ hHeld.2.2.1 hHeld.2.2.2.1 mlen).mono ?_
      rintro e v31 ⟨rfl, k31⟩
      replace lA := (lA).below k31
      replace lB := (lB).below k31
      replace lC := (lC).below k31
      go_wp2_with fail
      refine hK.out _ _ (⟨bstep hHeld.1 k31, (hHeld.2.1).below k31, (hHeld.2.2.1).below k31, (hHeld.2.2.2.1).below k31, (hHeld.2.2.2.2.1).below k31, (hHeld.2.2.2.2.2.1).below k31, Msg.keepC hHeld.2.2.2.2.2.2.1 k31, Msg.keepC hHeld.2.2.2.2.2.2.2.1 k31, Msg.keepC hHeld.2.2.2.2.2.2.2.2.1 k31, Msg.keepC hHeld.2.2.2.2.2.2.2.2.2.1 k31, Msg.keepC hHeld.2.2.2.2.2.2.2.2.2.2.1 k31, Msg.keepC hHeld.2.2.2.2.2.2.2.2.2.2.2.1 k31, Msg.keepC hHeld.2.2.2.2.2.2.2.2.2.2.2.2.1 k31, Msg.keepC hHeld.2.2.2.2.2.2.2.2.2.2.2.2.2.1 k31, Msg.keepC hHeld.2.2.2.2.2.2.2.2.2.2.2.2.2.2.1 k31, Msg.keepC hHeld.2.2.2.2.2.2.2.2.2.2.2.2.2.2.2.1 k31, Msg.keepC hHeld.2.2.2.2.2.2.2.2.2.2.2.2.2.2.2.2.1 k31, Msg.keepC hHeld.2.2.2.2.2.2.2.2.2.2.2.2.2.2.2.2.2.1 k31, Msg.keepC hHeld.2.2.2.2.2.2.2.2.2.2.2.2.2.2.2.2.2.2.1 k31, Msg.keepC hHeld.2.2.2.2.2.2.2.2.2.2.2.2.2.2.2.2.2.2.2.1 k31, Msg.keepC hHeld.2.2.2.2.2.2.2.2.2.2.2.2.2.2.2.2.2.2.2.2.1 k31, Msg.keepC hHeld.2.2.2.2.2.2.2.2.2.2.2.2.2.2.2.2.2.2.2.2.2.1 k31, Msg.keepC hHeld.2.2.2.2.2.2.2.2.2.2.2.2.2.2.2.2.2.2.2.2.2.2.1 k31, Msg.keepC hHeld.2.2.2.2.2.2.2.2.2.2.2.2.2.2.2.2.2.2.2.2.2.2.2.1 k31, Msg.keepC hHeld.2.2.2.2.2.2.2.2.2.2.2.2.2.2.2.2.2.2.2.2.2.2.2.2.1 k31, Msg.keepC hHeld.2.2.2.2.2.2.2.2.2.2.2.2.2.2.2.2.2.2.2.2.2.2.2.2.2 k31⟩) (fun hHeld => ?_)
      clear hK K k31
      try simp only [Act.put, List.setIfInBounds_toArray, List.set_cons_zero, List.set_cons_succ]
      refine wpAnyH_take (i := 14) (v := ?_) (by simp only [List.getElem?_toArray, List.getElem?_cons_succ, List.getElem?_cons_zero]; rfl) (by kernel_rfl) (by kernel_rfl) (by kernel_rfl) (fun _ _ _ h => h) (Or.inl ⟨by rfl, ?_⟩) (by assumption) ?_
      rotate_left
      · (intro w hSw; (try dsimp only at hSw); go_simp; try with_reducible rfl)
      try simp only [Act.put, List.setIfInBounds_toArray, List.set_cons_zero, List.set_cons_succ]
      refine wpAnyH_take (i := 15) (v := ?_) (by simp only [List.getElem?_toArray, List.getElem?_cons_succ, List.getElem?_cons_zero]; rfl) (by kernel_rfl) (by kernel_rfl) (by kernel_rfl) (fun _ _ _ h => h) (Or.inl ⟨by rfl, ?_⟩) (by assumption) ?_
      rotate_left
      · (intro w hSw; (try dsimp only at hSw); go_simp; try with_reducible rfl)
      try simp only [Act.put, List.setIfInBounds_toArray, List.set_cons_zero, List.set_cons_succ]
      refine wpAnyH_take (i := 16) (v := ?_) (by simp only [List.getElem?_toArray, List.getElem?_cons_succ, List.getElem?_cons_zero]; rfl) (by kernel_rfl) (by kernel_rfl) (by kernel_rfl) (fun _ _ _ h => h) (Or.inl ⟨by rfl, ?_⟩) (by assumption) ?_
      rotate_left
      · (intro w hSw; (try dsimp only at hSw); go_simp; try with_reducible rfl)
      try simp only [Act.put, List.setIfInBounds_toArray, List.set_cons_zero, List.set_cons_succ]
      refine wpAnyH_take (i := 17) (v := ?_) (by simp only [List.getElem?_toArray, List.getElem?_cons_succ, List.getElem?_cons_zero]; rfl) (by kernel_rfl) (by kernel_rfl) (by kernel_rfl) (fun _ _ _ h => h) (Or.inl ⟨by rfl, ?_⟩) (by assumption) ?_
      rotate_left
      · (intro w hSw; (try dsimp only at hSw); go_simp; try with_reducible rfl)
      try simp only [Act.put, List.setIfInBounds_toArray, List.set_cons_zero, List.set_cons_succ]
      refine wpAnyH_take (i := 19) (v := ?_) (by simp only [List.getElem?_toArray, List.getElem?_cons_succ, List.getElem?_cons_zero]; rfl) (by kernel_rfl) (by kernel_rfl) (by kernel_rfl) (fun _ _ _ h => h) (Or.inl ⟨by rfl, ?_⟩) (by assumption) ?_
      rotate_left
      · (intro w hSw; (try dsimp only at hSw); go_simp; try with_reducible rfl)
      try simp only [Act.put, List.setIfInBounds_toArray, List.set_cons_zero, List.set_cons_succ]
      refine wpAnyH_ready (rs := [18]) (by kernel_rfl) (by simp) ?_
      refine AllReadyH.cons (by simp only [List.getElem?_toArray, List.getElem?_cons_succ, List.getElem?_cons_zero]; rfl) (fun K hK => ?_) AllReadyH.nil
      go_simp
      go_at_call 12
      refine (copied_is MM.out _ hHeld.2.2.1).mono ?_
      rintro e v32 ⟨bD, dD, rfl, lD, -, k32⟩
      replace lA := (lA).below k32
      replace lB := (lB).below k32
      replace lC := (lC).below k32
      go_wp2_with fail
      refine hK.out _ _ (⟨bstep hHeld.1 k32, (hHeld.2.1).below k32, (hHeld.2.2.1).below k32, (hHeld.2.2.2.1).below k32, (hHeld.2.2.2.2.1).below k32, (hHeld.2.2.2.2.2.1).below k32, Msg.keepC hHeld.2.2.2.2.2.2.1 k32, Msg.keepC hHeld.2.2.2.2.2.2.2.1 k32, Msg.keepC hHeld.2.2.2.2.2.2.2.2.1 k32, Msg.keepC hHeld.2.2.2.2.2.2.2.2.2.1 k32, Msg.keepC hHeld.2.2.2.2.2.2.2.2.2.2.1 k32, Msg.keepC hHeld.2.2.2.2.2.2.2.2.2.2.2.1 k32, Msg.keepC hHeld.2.2.2.2.2.2.2.2.2.2.2.2.1 k32, Msg.keepC hHeld.2.2.2.2.2.2.2.2.2.2.2.2.2.1 k32, Msg.keepC hHeld.2.2.2.2.2.2.2.2.2.2.2.2.2.2.1 k32, Msg.keepC hHeld.2.2.2.2.2.2.2.2.2.2.2.2.2.2.2.1 k32, Msg.keepC hHeld.2.2.2.2.2.2.2.2.2.2.2.2.2.2.2.2.1 k32, Msg.keepC hHeld.2.2.2.2.2.2.2.2.2.2.2.2.2.2.2.2.2.1 k32, Msg.keepC hHeld.2.2.2.2.2.2.2.2.2.2.2.2.2.2.2.2.2.2.1 k32, Msg.keepC hHeld.2.2.2.2.2.2.2.2.2.2.2.2.2.2.2.2.2.2.2.1 k32, Msg.keepC hHeld.2.2.2.2.2.2.2.2.2.2.2.2.2.2.2.2.2.2.2.2.1 k32, Msg.keepC hHeld.2.2.2.2.2.2.2.2.2.2.2.2.2.2.2.2.2.2.2.2.2.1 k32, Msg.keepC hHeld.2.2.2.2.2.2.2.2.2.2.2.2.2.2.2.2.2.2.2.2.2.2.1 k32, Msg.keepC hHeld.2.2.2.2.2.2.2.2.2.2.2.2.2.2.2.2.2.2.2.2.2.2.2.1 k32, Msg.keepC hHeld.2.2.2.2.2.2.2.2.2.2.2.2.2.2.2.2.2.2.2.2.2.2.2.2.1 k32, Msg.keepC hHeld.2.2.2.2.2.2.2.2.2.2.2.2.2.2.2.2.2.2.2.2.2.2.2.2.2 k32⟩) (fun hHeld => ?_)
      clear hK K k32
      try simp only [Act.put, List.setIfInBounds_toArray, List.set_cons_zero, List.set_cons_succ]
      refine wpAnyH_ready (rs := [20]) (by kernel_rfl) (by simp) ?_
      refine AllReadyH.cons (by simp only [List.getElem?_toArray, List.getElem?_cons_succ, List.getElem?_cons_zero]; rfl) (fun K hK => ?_) AllReadyH.nil
      go_simp
      go_at_call 12
      refine (copied_is MM.out _ hHeld.2.2.1).mono ?_
      rintro e v33 ⟨bE, dE, rfl, lE, -, k33⟩
      replace lA := (lA).below k33
      replace lB := (lB).below k33
      replace lC := (lC).below k33
      replace lD := (lD).below k33
      go_wp2_with fail
      refine hK.out _ _ (⟨bstep hHeld.1 k33, (hHeld.2.1).below k33, (hHeld.2.2.1).below k33, (hHeld.2.2.2.1).below k33, (hHeld.2.2.2.2.1).below k33, (hHeld.2.2.2.2.2.1).below k33, Msg.keepC hHeld.2.2.2.2.2.2.1 k33, Msg.keepC hHeld.2.2.2.2.2.2.2.1 k33, Msg.keepC hHeld.2.2.2.2.2.2.2.2.1 k33, Msg.keepC hHeld.2.2.2.2.2.2.2.2.2.1 k33, Msg.keepC hHeld.2.2.2.2.2.2.2.2.2.2.1 k33, Msg.keepC hHeld.2.2.2.2.2.2.2.2.2.2.2.1 k33, Msg.keepC hHeld.2.2.2.2.2.2.2.2.2.2.2.2.1 k33, Msg.keepC hHeld.2.2.2.2.2.2.2.2.2.2.2.2.2.1 k33, Msg.keepC hHeld.2.2.2.2.2.2.2.2.2.2.2.2.2.2.1 k33, Msg.keepC hHeld.2.2.2.2.2.2.2.2.2.2.2.2.2.2.2.1 k33, Msg.keepC hHeld.2.2.2.2.2.2.2.2.2.2.2.2.2.2.2.2.1 k33, Msg.keepC hHeld.2.2.2.2.2.2.2.2.2.2.2.2.2.2.2.2.2.1 k33, Msg.keepC hHeld.2.2.2.2.2.2.2.2.2.2.2.2.2.2.2.2.2.2.1 k33, Msg.keepC hHeld.2.2.2.2.2.2.2.2.2.2.2.2.2.2.2.2.2.2.2.1 k33, Msg.keepC hHeld.2.2.2.2.2.2.2.2.2.2.2.2.2.2.2.2.2.2.2.2.1 k33, Msg.keepC hHeld.2.2.2.2.2.2.2.2.2.2.2.2.2.2.2.2.2.2.2.2.2.1 k33, Msg.keepC hHeld.2.2.2.2.2.2.2.2.2.2.2.2.2.2.2.2.2.2.2.2.2.2.1 k33, Msg.keepC hHeld.2.2.2.2.2.2.2.2.2.2.2.2.2.2.2.2.2.2.2.2.2.2.2.1 k33, Msg.keepC hHeld.2.2.2.2.2.2.2.2.2.2.2.2.2.2.2.2.2.2.2.2.2.2.2.2.1 k33, Msg.keepC hHeld.2.2.2.2.2.2.2.2.2.2.2.2.2.2.2.2.2.2.2.2.2.2.2.2.2 k33⟩) (fun hHeld => ?_)
      clear hK K k33
      try simp only [Act.put, List.setIfInBounds_toArray, List.set_cons_zero, List.set_cons_succ]
      refine wpAnyH_ready (rs := [21]) (by kernel_rfl) (by simp) ?_
      refine AllReadyH.cons (by simp only [List.getElem?_toArray, List.getElem?_cons_succ, List.getElem?_cons_zero]; rfl) (fun K hK => ?_) AllReadyH.nil
      go_simp
      go_at_call 15
      refine (Same_is true (by simp) _ lD lE mlen).mono ?_
      rintro e v34 ⟨rfl, k34⟩
      replace lA := (lA).below k34
      replace lB := (lB).below k34
      replace lC := (lC).below k34
      replace lD := (lD).below k34
      replace lE := (lE).below k34
      go_wp2_with fail
      refine hK.out _ _ (⟨bstep hHeld.1 k34, (hHeld.2.1).below k34, (hHeld.2.2.1).below k34, (hHeld.2.2.2.1).below k34, (hHeld.2.2.2.2.1).below k34, (hHeld.2.2.2.2.2.1).below k34, Msg.keepC hHeld.2.2.2.2.2.2.1 k34, Msg.keepC hHeld.2.2.2.2.2.2.2.1 k34, Msg.keepC hHeld.2.2.2.2.2.2.2.2.1 k34, Msg.keepC hHeld.2.2.2.2.2.2.2.2.2.1 k34, Msg.keepC hHeld.2.2.2.2.2.2.2.2.2.2.1 k34, Msg.keepC hHeld.2.2.2.2.2.2.2.2.2.2.2.1 k34, Msg.keepC hHeld.2.2.2.2.2.2.2.2.2.2.2.2.1 k34, Msg.keepC hHeld.2.2.2.2.2.2.2.2.2.2.2.2.2.1 k34, Msg.keepC hHeld.2.2.2.2.2.2.2.2.2.2.2.2.2.2.1 k34, Msg.keepC hHeld.2.2.2.2.2.2.2.2.2.2.2.2.2.2.2.1 k34, Msg.keepC hHeld.2.2.2.2.2.2.2.2.2.2.2.2.2.2.2.2.1 k34, Msg.keepC hHeld.2.2.2.2.2.2.2.2.2.2.2.2.2.2.2.2.2.1 k34, Msg.keepC hHeld.2.2.2.2.2.2.2.2.2.2.2.2.2.2.2.2.2.2.1 k34, Msg.keepC hHeld.2.2.2.2.2.2.2.2.2.2.2.2.2.2.2.2.2.2.2.1 k34, Msg.keepC hHeld.2.2.2.2.2.2.2.2.2.2.2.2.2.2.2.2.2.2.2.2.1 k34, Msg.keepC hHeld.2.2.2.2.2.2.2.2.2.2.2.2.2.2.2.2.2.2.2.2.2.1 k34, Msg.keepC hHeld.2.2.2.2.2.2.2.2.2.2.2.2.2.2.2.2.2.2.2.2.2.2.1 k34, Msg.keepC hHeld.2.2.2.2.2.2.2.2.2.2.2.2.2.2.2.2.2.2.2.2.2.2.2.1 k34, Msg.keepC hHeld.2.2.2.2.2.2.2.2.2.2.2.2.2.2.2.2.2.2.2.2.2.2.2.2.1 k34, Msg.keepC hHeld.2.2.2.2.2.2.2.2.2.2.2.2.2.2.2.2.2.2.2.2.2.2.2.2.2 k34⟩) (fun hHeld => ?_)
      clear hK K k34
      try simp only [Act.put, List.setIfInBounds_toArray, List.set_cons_zero, List.set_cons_succ]
      refine wpAnyH_take (i := 22) (v := ?_) (by simp only [List.getElem?_toArray, List.getElem?_cons_succ, List.getElem?_cons_zero]; rfl) (by kernel_rfl) (by kernel_rfl) (by kernel_rfl) (fun _ _ _ h => h) (Or.inl ⟨by rfl, ?_⟩) (by assumption) ?_
      rotate_left
      · (intro w hSw; (try dsimp only at hSw); go_simp; try with_reducible rfl)
      try simp only [Act.put, List.setIfInBounds_toArray, List.set_cons_zero, List.set_cons_succ]
      refine wpAnyH_take (i := 23) (v := ?_) (by simp only [List.getElem?_toArray, List.getElem?_cons_succ, List.getElem?_cons_zero]; rfl) (by kernel_rfl) (by kernel_rfl) (by kernel_rfl) (fun _ _ _ h => h) (Or.inl ⟨by rfl, ?_⟩) (by assumption) ?_
      rotate_left
      · (intro w hSw; (try dsimp only at hSw); go_simp; try with_reducible rfl)
      try simp only [Act.put, List.setIfInBounds_toArray, List.set_cons_zero, List.set_cons_succ]
      refine wpAnyH_ready (rs := [24]) (by kernel_rfl) (by simp) ?_
      refine AllReadyH.cons (by simp only [List.getElem?_toArray, List.getElem?_cons_succ, List.getElem?_cons_zero]; rfl) (fun K hK => ?_) AllReadyH.nil
      go_simp
      go_at_call 9
      refine (works_any _ hHeld.2.1).mono ?_
      rintro e v35 ⟨rfl, k35⟩
      replace lA := (lA).below k35
      replace lB := (lB).below k35
      replace lC := (lC).below k35
      replace lD := (lD).below k35
      replace lE := (lE).below k35
      go_wp2_with fail
      refine hK.out _ _ (⟨bstep hHeld.1 k35, (hHeld.2.1).below k35, (hHeld.2.2.1).below k35, (hHeld.2.2.2.1).below k35, (hHeld.2.2.2.2.1).below k35, (hHeld.2.2.2.2.2.1).below k35, Msg.keepC hHeld.2.2.2.2.2.2.1 k35, Msg.keepC hHeld.2.2.2.2.2.2.2.1 k35, Msg.keepC hHeld.2.2.2.2.2.2.2.2.1 k35, Msg.keepC hHeld.2.2.2.2.2.2.2.2.2.1 k35, Msg.keepC hHeld.2.2.2.2.2.2.2.2.2.2.1 k35, Msg.keepC hHeld.2.2.2.2.2.2.2.2.2.2.2.1 k35, Msg.keepC hHeld.2.2.2.2.2.2.2.2.2.2.2.2.1 k35, Msg.keepC hHeld.2.2.2.2.2.2.2.2.2.2.2.2.2.1 k35, Msg.keepC hHeld.2.2.2.2.2.2.2.2.2.2.2.2.2.2.1 k35, Msg.keepC hHeld.2.2.2.2.2.2.2.2.2.2.2.2.2.2.2.1 k35, Msg.keepC hHeld.2.2.2.2.2.2.2.2.2.2.2.2.2.2.2.2.1 k35, Msg.keepC hHeld.2.2.2.2.2.2.2.2.2.2.2.2.2.2.2.2.2.1 k35, Msg.keepC hHeld.2.2.2.2.2.2.2.2.2.2.2.2.2.2.2.2.2.2.1 k35, Msg.keepC hHeld.2.2.2.2.2.2.2.2.2.2.2.2.2.2.2.2.2.2.2.1 k35, Msg.keepC hHeld.2.2.2.2.2.2.2.2.2.2.2.2.2.2.2.2.2.2.2.2.1 k35, Msg.keepC hHeld.2.2.2.2.2.2.2.2.2.2.2.2.2.2.2.2.2.2.2.2.2.1 k35, Msg.keepC hHeld.2.2.2.2.2.2.2.2.2.2.2.2.2.2.2.2.2.2.2.2.2.2.1 k35, Msg.keepC hHeld.2.2.2.2.2.2.2.2.2.2.2.2.2.2.2.2.2.2.2.2.2.2.2.1 k35, Msg.keepC hHeld.2.2.2.2.2.2.2.2.2.2.2.2.2.2.2.2.2.2.2.2.2.2.2.2.1 k35, Msg.keepC hHeld.2.2.2.2.2.2.2.2.2.2.2.2.2.2.2.2.2.2.2.2.2.2.2.2.2 k35⟩) (fun hHeld => ?_)
      clear hK K k35
      try simp only [Act.put, List.setIfInBounds_toArray, List.set_cons_zero, List.set_cons_succ]
      refine wpAnyH_take (i := 25) (v := ?_) (by simp only [List.getElem?_toArray, List.getElem?_cons_succ, List.getElem?_cons_zero]; rfl) (by kernel_rfl) (by kernel_rfl) (by kernel_rfl) (fun _ _ _ h => h) (Or.inl ⟨by rfl, ?_⟩) (by assumption) ?_
      rotate_left
      · (intro w hSw; (try dsimp only at hSw); go_simp; try with_reducible rfl)
      try simp only [Act.put, List.setIfInBounds_toArray, List.set_cons_zero, List.set_cons_succ]
      refine wpAnyH_take (i := 26) (v := ?_) (by simp only [List.getElem?_toArray, List.getElem?_cons_succ, List.getElem?_cons_zero]; rfl) (by kernel_rfl) (by kernel_rfl) (by kernel_rfl) (fun _ _ _ h => h) (Or.inl ⟨by rfl, ?_⟩) (by assumption) ?_
      rotate_left
      · (intro w hSw; (try dsimp only at hSw); go_simp; try with_reducible rfl)
      try simp only [Act.put, List.setIfInBounds_toArray, List.set_cons_zero, List.set_cons_succ]
      refine wpAnyH_done (by kernel_rfl) ?_ _
      refine NoPanic.normal ?_
      clear hb tab lm lx bm bx x0 x1 x2 x3 x4 x5 x6 x7 x8 x9 y0 y1 y2 y3 y4 y5 y6 y7 y8 y9
      obtain ⟨hb, tab, lm, lx, bm, bx, x0, x1, x2, x3, x4, x5, x6, x7, x8, x9, y0, y1, y2, y3, y4, y5, y6, y7, y8, y9⟩ := hHeld
      replace tab := Lib.hid tab
      replace lm := Lib.hid lm
      replace lx := Lib.hid lx
      replace bm := Lib.hid bm
      replace bx := Lib.hid bx
      go_wp2
      go_ret
      exact ⟨rfl, hb⟩
  · skip
    have r2 : fitsB m = true := by unfold mayM at r1; simp only [Bool.and_eq_true] at r1; exact r1.1
    obtain ⟨T, hT⟩ : ∃ T, Frame.putL (bodyL m) = T := ⟨_, rfl⟩
    have hE : Hid (encR m = (T, 0)) := Lib.hid (by unfold encR; rw [if_pos r1, hT])
    replace r2 := Lib.hid r2
    replace hT := Lib.hid hT
    replace r1 := Lib.hid r1
    cases hq : decide (m = x)
    · replace hq := Lib.hid hq
      go_enter Tryd.func3, Tryd.ntmps3
      have x0 := bm.out 0 (.int .u8 (m.kind : Int)) rfl
      have x1 := bm.out 1 (.string ⟨m.src.toArray⟩) rfl
      have x2 := bm.out 2 (.string ⟨m.dst.toArray⟩) rfl
      have x3 := bm.out 3 (.string ⟨m.fr.toArray⟩) rfl
      have x4 := bm.out 4 (.int .u64 (m.seq : Int)) rfl
      have x5 := bm.out 5 (.slice a m.all.length c) rfl
      have x6 := bm.out 6 (.int .u64 (m.id : Int)) rfl
      have x7 := bm.out 7 (.int .i64 m.i) rfl
      have x8 := bm.out 8 (.int .i64 m.n) rfl
      have x9 := bm.out 9 (.string ⟨m.tx.toArray⟩) rfl
      have y0 := bx.out 0 (.int .u8 (x.kind : Int)) rfl
      have y1 := bx.out 1 (.string ⟨x.src.toArray⟩) rfl
      have y2 := bx.out 2 (.string ⟨x.dst.toArray⟩) rfl
      have y3 := bx.out 3 (.string ⟨x.fr.toArray⟩) rfl
      have y4 := bx.out 4 (.int .u64 (x.seq : Int)) rfl
      have y5 := bx.out 5 (.slice a' x.all.length c') rfl
      have y6 := bx.out 6 (.int .u64 (x.id : Int)) rfl
      have y7 := bx.out 7 (.int .i64 x.i) rfl
      have y8 := bx.out 8 (.int .i64 x.n) rfl
      have y9 := bx.out 9 (.string ⟨x.tx.toArray⟩) rfl
      go_wp2_with fail
      refine (heavy_is false v1.out WM.out _ lm.out).mono ?_
      rintro e v36 ⟨rfl, k36⟩
      replace tab := Lib.hid ((tab.out).below k36)
      replace lm := Lib.hid ((lm.out).below k36)
      replace lx := Lib.hid ((lx.out).below k36)
      replace bm := Lib.hid ((bm.out).below k36)
      replace bx := Lib.hid ((bx.out).below k36)
      replace x0 := (Msg.keepC x0 k36)
      replace x1 := (Msg.keepC x1 k36)
      replace x2 := (Msg.keepC x2 k36)
      replace x3 := (Msg.keepC x3 k36)
      replace x4 := (Msg.keepC x4 k36)
      replace x5 := (Msg.keepC x5 k36)
      replace x6 := (Msg.keepC x6 k36)
      replace x7 := (Msg.keepC x7 k36)
      replace x8 := (Msg.keepC x8 k36)
      replace x9 := (Msg.keepC x9 k36)
      replace y0 := (Msg.keepC y0 k36)
      replace y1 := (Msg.keepC y1 k36)
      replace y2 := (Msg.keepC y2 k36)
      replace y3 := (Msg.keepC y3 k36)
      replace y4 := (Msg.keepC y4 k36)
      replace y5 := (Msg.keepC y5 k36)
      replace y6 := (Msg.keepC y6 k36)
      replace y7 := (Msg.keepC y7 k36)
      replace y8 := (Msg.keepC y8 k36)
      replace y9 := (Msg.keepC y9 k36)
      replace hb := bstep hb k36
      clear k36
      go_wp2_with fail
      refine (heavy_is false v2.out WX.out _ lx.out).mono ?_
      rintro e v37 ⟨rfl, k37⟩
      replace tab := Lib.hid ((tab.out).below k37)
      replace lm := Lib.hid ((lm.out).below k37)
      replace lx := Lib.hid ((lx.out).below k37)
      replace bm := Lib.hid ((bm.out).below k37)
      replace bx := Lib.hid ((bx.out).below k37)
      replace x0 := (Msg.keepC x0 k37)
      replace x1 := (Msg.keepC x1 k37)
      replace x2 := (Msg.keepC x2 k37)
      replace x3 := (Msg.keepC x3 k37)
      replace x4 := (Msg.keepC x4 k37)
      replace x5 := (Msg.keepC x5 k37)
      replace x6 := (Msg.keepC x6 k37)
      replace x7 := (Msg.keepC x7 k37)
      replace x8 := (Msg.keepC x8 k37)
      replace x9 := (Msg.keepC x9 k37)
      replace y0 := (Msg.keepC y0 k37)
      replace y1 := (Msg.keepC y1 k37)
      replace y2 := (Msg.keepC y2 k37)
      replace y3 := (Msg.keepC y3 k37)
      replace y4 := (Msg.keepC y4 k37)
      replace y5 := (Msg.keepC y5 k37)
      replace y6 := (Msg.keepC y6 k37)
      replace y7 := (Msg.keepC y7 k37)
      replace y8 := (Msg.keepC y8 k37)
      replace y9 := (Msg.keepC y9 k37)
      replace hb := bstep hb k37
      clear k37
      go_wp2_with fail
      refine (RefMsg.may_of true r1.out MM.out BL.out _ lm.out).mono ?_
      rintro e v38 ⟨rfl, k38⟩
      replace tab := Lib.hid ((tab.out).below k38)
      replace lm := Lib.hid ((lm.out).below k38)
      replace lx := Lib.hid ((lx.out).below k38)
      replace bm := Lib.hid ((bm.out).below k38)
      replace bx := Lib.hid ((bx.out).below k38)
      replace x0 := (Msg.keepC x0 k38)
      replace x1 := (Msg.keepC x1 k38)
      replace x2 := (Msg.keepC x2 k38)
      replace x3 := (Msg.keepC x3 k38)
      replace x4 := (Msg.keepC x4 k38)
      replace x5 := (Msg.keepC x5 k38)
      replace x6 := (Msg.keepC x6 k38)
      replace x7 := (Msg.keepC x7 k38)
      replace x8 := (Msg.keepC x8 k38)
      replace x9 := (Msg.keepC x9 k38)
      replace y0 := (Msg.keepC y0 k38)
      replace y1 := (Msg.keepC y1 k38)
      replace y2 := (Msg.keepC y2 k38)
      replace y3 := (Msg.keepC y3 k38)
      replace y4 := (Msg.keepC y4 k38)
      replace y5 := (Msg.keepC y5 k38)
      replace y6 := (Msg.keepC y6 k38)
      replace y7 := (Msg.keepC y7 k38)
      replace y8 := (Msg.keepC y8 k38)
      replace y9 := (Msg.keepC y9 k38)
      replace hb := bstep hb k38
      clear k38
      go_wp2_with fail
      refine (copied_is MM.out _ lm.out).mono ?_
      rintro e v39 ⟨b39, d39, rfl, l39, -, k39⟩
      replace tab := Lib.hid ((tab.out).below k39)
      replace lm := Lib.hid ((lm.out).below k39)
      replace lx := Lib.hid ((lx.out).below k39)
      replace bm := Lib.hid ((bm.out).below k39)
      replace bx := Lib.hid ((bx.out).below k39)
      replace x0 := (Msg.keepC x0 k39)
      replace x1 := (Msg.keepC x1 k39)
      replace x2 := (Msg.keepC x2 k39)
      replace x3 := (Msg.keepC x3 k39)
      replace x4 := (Msg.keepC x4 k39)
      replace x5 := (Msg.keepC x5 k39)
      replace x6 := (Msg.keepC x6 k39)
      replace x7 := (Msg.keepC x7 k39)
      replace x8 := (Msg.keepC x8 k39)
      replace x9 := (Msg.keepC x9 k39)
      replace y0 := (Msg.keepC y0 k39)
      replace y1 := (Msg.keepC y1 k39)
      replace y2 := (Msg.keepC y2 k39)
      replace y3 := (Msg.keepC y3 k39)
      replace y4 := (Msg.keepC y4 k39)
      replace y5 := (Msg.keepC y5 k39)
      replace y6 := (Msg.keepC y6 k39)
      replace y7 := (Msg.keepC y7 k39)
      replace y8 := (Msg.keepC y8 k39)
      replace y9 := (Msg.keepC y9 k39)
      replace hb := bstep hb k39
      clear k39
      replace l39 := Lib.hid l39
      go_wp2_with fail
      refine (enc_is T 0 hE.out MM.out _ l39.out tab.out).mono ?_
      rintro e v40 ⟨rfl, k40⟩
      replace tab := Lib.hid ((tab.out).below k40)
      replace lm := Lib.hid ((lm.out).below k40)
      replace lx := Lib.hid ((lx.out).below k40)
      replace bm := Lib.hid ((bm.out).below k40)
      replace bx := Lib.hid ((bx.out).below k40)
      replace x0 := (Msg.keepC x0 k40)
      replace x1 := (Msg.keepC x1 k40)
      replace x2 := (Msg.keepC x2 k40)
      replace x3 := (Msg.keepC x3 k40)
      replace x4 := (Msg.keepC x4 k40)
      replace x5 := (Msg.keepC x5 k40)
      replace x6 := (Msg.keepC x6 k40)
      replace x7 := (Msg.keepC x7 k40)
      replace x8 := (Msg.keepC x8 k40)
      replace x9 := (Msg.keepC x9 k40)
      replace y0 := (Msg.keepC y0 k40)
      replace y1 := (Msg.keepC y1 k40)
      replace y2 := (Msg.keepC y2 k40)
      replace y3 := (Msg.keepC y3 k40)
      replace y4 := (Msg.keepC y4 k40)
      replace y5 := (Msg.keepC y5 k40)
      replace y6 := (Msg.keepC y6 k40)
      replace y7 := (Msg.keepC y7 k40)
      replace y8 := (Msg.keepC y8 k40)
      replace y9 := (Msg.keepC y9 k40)
      replace l39 := Lib.hid ((l39.out).below k40)
      replace hb := bstep hb k40
      clear k40
      clear l39
      go_wp2_with fail
      refine (RefMsg.encode_of T hT.out MM.out r2.out BL.out _ lm.out).mono ?_
      rintro e v41 ⟨rfl, k41⟩
      replace tab := Lib.hid ((tab.out).below k41)
      replace lm := Lib.hid ((lm.out).below k41)
      replace lx := Lib.hid ((lx.out).below k41)
      replace bm := Lib.hid ((bm.out).below k41)
      replace bx := Lib.hid ((bx.out).below k41)
      replace x0 := (Msg.keepC x0 k41)
      replace x1 := (Msg.keepC x1 k41)
      replace x2 := (Msg.keepC x2 k41)
      replace x3 := (Msg.keepC x3 k41)
      replace x4 := (Msg.keepC x4 k41)
      replace x5 := (Msg.keepC x5 k41)
      replace x6 := (Msg.keepC x6 k41)
      replace x7 := (Msg.keepC x7 k41)
      replace x8 := (Msg.keepC x8 k41)
      replace x9 := (Msg.keepC x9 k41)
      replace y0 := (Msg.keepC y0 k41)
      replace y1 := (Msg.keepC y1 k41)
      replace y2 := (Msg.keepC y2 k41)
      replace y3 := (Msg.keepC y3 k41)
      replace y4 := (Msg.keepC y4 k41)
      replace y5 := (Msg.keepC y5 k41)
      replace y6 := (Msg.keepC y6 k41)
      replace y7 := (Msg.keepC y7 k41)
      replace y8 := (Msg.keepC y8 k41)
      replace y9 := (Msg.keepC y9 k41)
      replace hb := bstep hb k41
      clear k41
      go_wp2_with fail
      refine wp_region_noPanic ?_
      refine wp_region_held_drew (S := (fun w' => Below w.heap.size w w' ∧ Crc.Tab w' ∧ Lies w' a m.all.length m.all ∧ Lies w' a' x.all.length x.all ∧ Box w' w.heap.size #[.int .u8 (m.kind : Int), .string ⟨m.src.toArray⟩, .string ⟨m.dst.toArray⟩, .string ⟨m.fr.toArray⟩, .int .u64 (m.seq : Int), .slice a m.all.length c, .int .u64 (m.id : Int), .int .i64 m.i, .int .i64 m.n, .string ⟨m.tx.toArray⟩] ∧ Box w' (w.heap.size + 1) #[.int .u8 (x.kind : Int), .string ⟨x.src.toArray⟩, .string ⟨x.dst.toArray⟩, .string ⟨x.fr.toArray⟩, .int .u64 (x.seq : Int), .slice a' x.all.length c', .int .u64 (x.id : Int), .int .i64 x.i, .int .i64 x.n, .string ⟨x.tx.toArray⟩] ∧ w'.cell? ⟨w.heap.size, 0, none⟩ = some (.int .u8 (m.kind : Int)) ∧ w'.cell? ⟨w.heap.size, 1, none⟩ = some (.string ⟨m.src.toArray⟩) ∧ w'.cell? ⟨w.heap.size, 2, none⟩ = some (.string ⟨m.dst.toArray⟩) ∧ w'.cell? ⟨w.heap.size, 3, none⟩ = some (.string ⟨m.fr.toArray⟩) ∧ w'.cell? ⟨w.heap.size, 4, none⟩ = some (.int .u64 (m.seq : Int)) ∧ w'.cell? ⟨w.heap.size, 5, none⟩ = some (.slice a m.all.length c) ∧ w'.cell? ⟨w.heap.size, 6, none⟩ = some (.int .u64 (m.id : Int)) ∧ w'.cell? ⟨w.heap.size, 7, none⟩ = some (.int .i64 m.i) ∧ w'.cell? ⟨w.heap.size, 8, none⟩ = some (.int .i64 m.n) ∧ w'.cell? ⟨w.heap.size, 9, none⟩ = some (.string ⟨m.tx.toArray⟩) ∧ w'.cell? ⟨w.heap.size + 1, 0, none⟩ = some (.int .u8 (x.kind : Int)) ∧ w'.cell? ⟨w.heap.size + 1, 1, none⟩ = some (.string ⟨x.src.toArray⟩) ∧ w'.cell? ⟨w.heap.size + 1, 2, none⟩ = some (.string ⟨x.dst.toArray⟩) ∧ w'.cell? ⟨w.heap.size + 1, 3, none⟩ = some (.string ⟨x.fr.toArray⟩) ∧ w'.cell? ⟨w.heap.size + 1, 4, none⟩ = some (.int .u64 (x.seq : Int)) ∧ w'.cell? ⟨w.heap.size + 1, 5, none⟩ = some (.slice a' x.all.length c') ∧ w'.cell? ⟨w.heap.size + 1, 6, none⟩ = some (.int .u64 (x.id : Int)) ∧ w'.cell? ⟨w.heap.size + 1, 7, none⟩ = some (.int .i64 x.i) ∧ w'.cell? ⟨w.heap.size + 1, 8, none⟩ = some (.int .i64 x.n) ∧ w'.cell? ⟨w.heap.size + 1, 9, none⟩ = some (.string ⟨x.tx.toArray⟩))) (by kernel_rfl) (⟨Below.drew hb, (tab.out).below (Below.drew (Below.refl _ _)), (lm.out).below (Below.drew (Below.refl _ _)), (lx.out).below (Below.drew (Below.refl _ _)), (bm.out).below (Below.drew (Below.refl _ _)), (bx.out).below (Below.drew (Below.refl _ _)), Msg.keepC x0 (Below.drew (Below.refl _ _)), Msg.keepC x1 (Below.drew (Below.refl _ _)), Msg.keepC x2 (Below.drew (Below.refl _ _)), Msg.keepC x3 (Below.drew (Below.refl _ _)), Msg.keepC x4 (Below.drew (Below.refl _ _)), Msg.keepC x5 (Below.drew (Below.refl _ _)), Msg.keepC x6 (Below.drew (Below.refl _ _)), Msg.keepC x7 (Below.drew (Below.refl _ _)), Msg.keepC x8 (Below.drew (Below.refl _ _)), Msg.keepC x9 (Below.drew (Below.refl _ _)), Msg.keepC y0 (Below.drew (Below.refl _ _)), Msg.keepC y1 (Below.drew (Below.refl _ _)), Msg.keepC y2 (Below.drew (Below.refl _ _)), Msg.keepC y3 (Below.drew (Below.refl _ _)), Msg.keepC y4 (Below.drew (Below.refl _ _)), Msg.keepC y5 (Below.drew (Below.refl _ _)), Msg.keepC y6 (Below.drew (Below.refl _ _)), Msg.keepC y7 (Below.drew (Below.refl _ _)), Msg.keepC y8 (Below.drew (Below.refl _ _)), Msg.keepC y9 (Below.drew (Below.refl _ _))⟩) (fun hHeld => ?_)
      revert hHeld
      generalize World.drew _ = wd
      intro hHeld
      refine wpAnyH_take (i := 0) (v := ?_) (by simp only [List.getElem?_toArray, List.getElem?_cons_zero]; rfl) (by kernel_rfl) (by kernel_rfl) (by kernel_rfl) (fun _ _ _ h => h) (Or.inl ⟨by rfl, ?_⟩) (by assumption) ?_
      rotate_left
      · (intro w hSw; (try dsimp only at hSw); go_simp; try with_reducible rfl)
      try simp only [Act.put, List.setIfInBounds_toArray, List.set_cons_zero, List.set_cons_succ]
      refine wpAnyH_take (i := 3) (v := ?_) (by simp only [List.getElem?_toArray, List.getElem?_cons_succ, List.getElem?_cons_zero]; rfl) (by kernel_rfl) (by kernel_rfl) (by kernel_rfl) (fun _ _ _ h => h) (Or.inl ⟨by rfl, ?_⟩) (by assumption) ?_
      rotate_left
      · (intro w hSw; (try dsimp only at hSw); go_simp; try with_reducible rfl)
      try simp only [Act.put, List.setIfInBounds_toArray, List.set_cons_zero, List.set_cons_succ]
      refine wpAnyH_ready (rs := [1]) (by kernel_rfl) (by simp) ?_
      refine AllReadyH.cons (by simp only [List.getElem?_toArray, List.getElem?_cons_succ, List.getElem?_cons_zero]; rfl) (fun K hK => ?_) AllReadyH.nil
      go_simp
      go_at_call 12
      refine (copied_is MM.out _ hHeld.2.2.1).mono ?_
      rintro e v42 ⟨bA, dA, rfl, lA, -, k42⟩
      go_wp2_with fail
      refine hK.out _ _ (⟨bstep hHeld.1 k42, (hHeld.2.1).below k42, (hHeld.2.2.1).below k42, (hHeld.2.2.2.1).below k42, (hHeld.2.2.2.2.1).below k42, (hHeld.2.2.2.2.2.1).below k42, Msg.keepC hHeld.2.2.2.2.2.2.1 k42, Msg.keepC hHeld.2.2.2.2.2.2.2.1 k42, Msg.keepC hHeld.2.2.2.2.2.2.2.2.1 k42, Msg.keepC hHeld.2.2.2.2.2.2.2.2.2.1 k42, Msg.keepC hHeld.2.2.2.2.2.2.2.2.2.2.1 k42, Msg.keepC hHeld.2.2.2.2.2.2.2.2.2.2.2.1 k42, Msg.keepC hHeld.2.2.2.2.2.2.2.2.2.2.2.2.1 k42, Msg.keepC hHeld.2.2.2.2.2.2.2.2.2.2.2.2.2.1 k42, Msg.keepC hHeld.2.2.2.2.2.2.2.2.2.2.2.2.2.2.1 k42, Msg.keepC hHeld.2.2.2.2.2.2.2.2.2.2.2.2.2.2.2.1 k42, Msg.keepC hHeld.2.2.2.2.2.2.2.2.2.2.2.2.2.2.2.2.1 k42, Msg.keepC hHeld.2.2.2.2.2.2.2.2.2.2.2.2.2.2.2.2.2.1 k42, Msg.keepC hHeld.2.2.2.2.2.2.2.2.2.2.2.2.2.2.2.2.2.2.1 k42, Msg.keepC hHeld.2.2.2.2.2.2.2.2.2.2.2.2.2.2.2.2.2.2.2.1 k42, Msg.keepC hHeld.2.2.2.2.2.2.2.2.2.2.2.2.2.2.2.2.2.2.2.2.1 k42, Msg.keepC hHeld.2.2.2.2.2.2.2.2.2.2.2.2.2.2.2.2.2.2.2.2.2.1 k42, Msg.keepC hHeld.2.2.2.2.2.2.2.2.2.2.2.2.2.2.2.2.2.2.2.2.2.2.1 k42, Msg.keepC hHeld.2.2.2.2.2.2.2.2.2.2.2.2.2.2.2.2.2.2.2.2.2.2.2.1 k42, Msg.keepC hHeld.2.2.2.2.2.2.2.2.2.2.2.2.2.2.2.2.2.2.2.2.2.2.2.2.1 k42, Msg.keepC hHeld.2.2.2.2.2.2.2.2.2.2.2.2.2.2.2.2.2.2.2.2.2.2.2.2.2 k42⟩) (fun hHeld => ?_)
      clear hK K k42
      try simp only [Act.put, List.setIfInBounds_toArray, List.set_cons_zero, List.set_cons_succ]
      refine wpAnyH_ready (rs := [2]) (by kernel_rfl) (by simp) ?_
      refine AllReadyH.cons (by simp only [List.getElem?_toArray, List.getElem?_cons_succ, List.getElem?_cons_zero]; rfl) (fun K hK => ?_) AllReadyH.nil
      go_simp
      go_at_call 14
      refine (may_eq true r1.out MM.out _ lA).mono ?_
      rintro e v43 ⟨rfl, k43⟩
      replace lA := (lA).below k43
      go_wp2_with fail
      refine hK.out _ _ (⟨bstep hHeld.1 k43, (hHeld.2.1).below k43, (hHeld.2.2.1).below k43, (hHeld.2.2.2.1).below k43, (hHeld.2.2.2.2.1).below k43, (hHeld.2.2.2.2.2.1).below k43, Msg.keepC hHeld.2.2.2.2.2.2.1 k43, Msg.keepC hHeld.2.2.2.2.2.2.2.1 k43, Msg.keepC hHeld.2.2.2.2.2.2.2.2.1 k43, Msg.keepC hHeld.2.2.2.2.2.2.2.2.2.1 k43, Msg.keepC hHeld.2.2.2.2.2.2.2.2.2.2.1 k43, Msg.keepC hHeld.2.2.2.2.2.2.2.2.2.2.2.1 k43, Msg.keepC hHeld.2.2.2.2.2.2.2.2.2.2.2.2.1 k43, Msg.keepC hHeld.2.2.2.2.2.2.2.2.2.2.2.2.2.1 k43, Msg.keepC hHeld.2.2.2.2.2.2.2.2.2.2.2.2.2.2.1 k43, Msg.keepC hHeld.2.2.2.2.2.2.2.2.2.2.2.2.2.2.2.1 k43, Msg.keepC hHeld.2.2.2.2.2.2.2.2.2.2.2.2.2.2.2.2.1 k43, Msg.keepC hHeld.2.2.2.2.2.2.2.2.2.2.2.2.2.2.2.2.2.1 k43, Msg.keepC hHeld.2.2.2.2.2.2.2.2.2.2.2.2.2.2.2.2.2.2.1 k43, Msg.keepC hHeld.2.2.2.2.2.2.2.2.2.2.2.2.2.2.2.2.2.2.2.1 k43, Msg.keepC hHeld.2.2.2.2.2.2.2.2.2.2.2.2.2.2.2.2.2.2.2.2.1 k43, Msg.keepC hHeld.2.2.2.2.2.2.2.2.2.2.2.2.2.2.2.2.2.2.2.2.2.1 k43, Msg.keepC hHeld.2.2.2.2.2.2.2.2.2.2.2.2.2.2.2.2.2.2.2.2.2.2.1 k43, Msg.keepC hHeld.2.2.2.2.2.2.2.2.2.2.2.2.2.2.2.2.2.2.2.2.2.2.2.1 k43, Msg.keepC hHeld.2.2.2.2.2.2.2.2.2.2.2.2.2.2.2.2.2.2.2.2.2.2.2.2.1 k43, Msg.keepC hHeld.2.2.2.2.2.2.2.2.2.2.2.2.2.2.2.2.2.2.2.2.2.2.2.2.2 k43⟩) (fun hHeld => ?_)
      clear hK K k43
      try simp only [Act.put, List.setIfInBounds_toArray, List.set_cons_zero, List.set_cons_succ]
      refine wpAnyH_take (i := 4) (v := ?_) (by simp only [List.getElem?_toArray, List.getElem?_cons_succ, List.getElem?_cons_zero]; rfl) (by kernel_rfl) (by kernel_rfl) (by kernel_rfl) (fun _ _ _ h => h) (Or.inl ⟨by rfl, ?_⟩) (by assumption) ?_
      rotate_left
      · (intro w hSw; (try dsimp only at hSw); go_simp; try with_reducible rfl)
      try simp only [Act.put, List.setIfInBounds_toArray, List.set_cons_zero, List.set_cons_succ]
      refine wpAnyH_take (i := 5) (v := ?_) (by simp only [List.getElem?_toArray, List.getElem?_cons_succ, List.getElem?_cons_zero]; rfl) (by kernel_rfl) (by kernel_rfl) (by kernel_rfl) (fun _ _ _ h => h) (Or.inl ⟨by rfl, ?_⟩) (by assumption) ?_
      rotate_left
      · (intro w hSw; (try dsimp only at hSw); go_simp; try with_reducible rfl)
      try simp only [Act.put, List.setIfInBounds_toArray, List.set_cons_zero, List.set_cons_succ]
      refine wpAnyH_take (i := 6) (v := ?_) (by simp only [List.getElem?_toArray, List.getElem?_cons_succ, List.getElem?_cons_zero]; rfl) (by kernel_rfl) (by kernel_rfl) (by kernel_rfl) (fun _ _ _ h => h) (Or.inl ⟨by rfl, ?_⟩) (by assumption) ?_
      rotate_left
      · (intro w hSw; (try dsimp only at hSw); go_simp; try with_reducible rfl)
      try simp only [Act.put, List.setIfInBounds_toArray, List.set_cons_zero, List.set_cons_succ]
      refine wpAnyH_take (i := 8) (v := ?_) (by simp only [List.getElem?_toArray, List.getElem?_cons_succ, List.getElem?_cons_zero]; rfl) (by kernel_rfl) (by kernel_rfl) (by kernel_rfl) (fun _ _ _ h => h) (Or.inl ⟨by rfl, ?_⟩) (by assumption) ?_
      rotate_left
      · (intro w hSw; (try dsimp only at hSw); go_simp; try with_reducible rfl)
      try simp only [Act.put, List.setIfInBounds_toArray, List.set_cons_zero, List.set_cons_succ]
      refine wpAnyH_take (i := 11) (v := ?_) (by simp only [List.getElem?_toArray, List.getElem?_cons_succ, List.getElem?_cons_zero]; rfl) (by kernel_rfl) (by kernel_rfl) (by kernel_rfl) (fun _ _ _ h => h) (Or.inl ⟨by rfl, ?_⟩) (by assumption) ?_
      rotate_left
      · (intro w hSw; (try dsimp only at hSw); go_simp; try with_reducible rfl)
      try simp only [Act.put, List.setIfInBounds_toArray, List.set_cons_zero, List.set_cons_succ]
      refine wpAnyH_take (i := 12) (v := ?_) (by simp only [List.getElem?_toArray, List.getElem?_cons_succ, List.getElem?_cons_zero]; rfl) (by kernel_rfl) (by kernel_rfl) (by kernel_rfl) (fun _ _ _ h => h) (Or.inl ⟨by rfl, ?_⟩) (by assumption) ?_
      rotate_left
      · (intro w hSw; (try dsimp only at hSw); go_simp; try with_reducible rfl)
      try simp only [Act.put, List.setIfInBounds_toArray, List.set_cons_zero, List.set_cons_succ]
      refine wpAnyH_ready (rs := [7]) (by kernel_rfl) (by simp) ?_
      refine AllReadyH.cons (by simp only [List.getElem?_toArray, List.getElem?_cons_succ, List.getElem?_cons_zero]; rfl) (fun K hK => ?_) AllReadyH.nil
      go_simp
      go_at_call 12
      refine (copied_is MM.out _ hHeld.2.2.1).mono ?_
      rintro e v44 ⟨bB, dB, rfl, lB, -, k44⟩
      replace lA := (lA).below k44
      go_wp2_with fail
      refine hK.out _ _ (⟨bstep hHeld.1 k44, (hHeld.2.1).below k44, (hHeld.2.2.1).below k44, (hHeld.2.2.2.1).below k44, (hHeld.2.2.2.2.1).below k44, (hHeld.2.2.2.2.2.1).below k44, Msg.keepC hHeld.2.2.2.2.2.2.1 k44, Msg.keepC hHeld.2.2.2.2.2.2.2.1 k44, Msg.keepC hHeld.2.2.2.2.2.2.2.2.1 k44, Msg.keepC hHeld.2.2.2.2.2.2.2.2.2.1 k44, Msg.keepC hHeld.2.2.2.2.2.2.2.2.2.2.1 k44, Msg.keepC hHeld.2.2.2.2.2.2.2.2.2.2.2.1 k44, Msg.keepC hHeld.2.2.2.2.2.2.2.2.2.2.2.2.1 k44, Msg.keepC hHeld.2.2.2.2.2.2.2.2.2.2.2.2.2.1 k44, Msg.keepC hHeld.2.2.2.2.2.2.2.2.2.2.2.2.2.2.1 k44, Msg.keepC hHeld.2.2.2.2.2.2.2.2.2.2.2.2.2.2.2.1 k44, Msg.keepC hHeld.2.2.2.2.2.2.2.2.2.2.2.2.2.2.2.2.1 k44, Msg.keepC hHeld.2.2.2.2.2.2.2.2.2.2.2.2.2.2.2.2.2.1 k44, Msg.keepC hHeld.2.2.2.2.2.2.2.2.2.2.2.2.2.2.2.2.2.2.1 k44, Msg.keepC hHeld.2.2.2.2.2.2.2.2.2.2.2.2.2.2.2.2.2.2.2.1 k44, Msg.keepC hHeld.2.2.2.2.2.2.2.2.2.2.2.2.2.2.2.2.2.2.2.2.1 k44, Msg.keepC hHeld.2.2.2.2.2.2.2.2.2.2.2.2.2.2.2.2.2.2.2.2.2.1 k44, Msg.keepC hHeld.2.2.2.2.2.2.2.2.2.2.2.2.2.2.2.2.2.2.2.2.2.2.1 k44, Msg.keepC hHeld.2.2.2.2.2.2.2.2.2.2.2.2.2.2.2.2.2.2.2.2.2.2.2.1 k44, Msg.keepC hHeld.2.2.2.2.2.2.2.2.2.2.2.2.2.2.2.2.2.2.2.2.2.2.2.2.1 k44, Msg.keepC hHeld.2.2.2.2.2.2.2.2.2.2.2.2.2.2.2.2.2.2.2.2.2.2.2.2.2 k44⟩) (fun hHeld => ?_)
      clear hK K k44
      try simp only [Act.put, List.setIfInBounds_toArray, List.set_cons_zero, List.set_cons_succ]
      refine wpAnyH_ready (rs := [9]) (by kernel_rfl) (by simp) ?_
      refine AllReadyH.cons (by simp only [List.getElem?_toArray, List.getElem?_cons_succ, List.getElem?_cons_zero]; rfl) (fun K hK => ?_) AllReadyH.nil
      go_simp
      go_at_call 12
      refine (copied_is MX.out _ hHeld.2.2.2.1).mono ?_
      rintro e v45 ⟨bC, dC, rfl, lC, -, k45⟩
      replace lA := (lA).below k45
      replace lB := (lB).below k45
      go_wp2_with fail
      refine hK.out _ _ (⟨bstep hHeld.1 k45, (hHeld.2.1).below k45, (hHeld.2.2.1).below k45, (hHeld.2.2.2.1).below k45, (hHeld.2.2.2.2.1).below k45, (hHeld.2.2.2.2.2.1).below k45, Msg.keepC hHeld.2.2.2.2.2.2.1 k45, Msg.keepC hHeld.2.2.2.2.2.2.2.1 k45, Msg.keepC hHeld.2.2.2.2.2.2.2.2.1 k45, Msg.keepC hHeld.2.2.2.2.2.2.2.2.2.1 k45, Msg.keepC hHeld.2.2.2.2.2.2.2.2.2.2.1 k45, Msg.keepC hHeld.2.2.2.2.2.2.2.2.2.2.2.1 k45, Msg.keepC hHeld.2.2.2.2.2.2.2.2.2.2.2.2.1 k45, Msg.keepC hHeld.2.2.2.2.2.2.2.2.2.2.2.2.2.1 k45, Msg.keepC hHeld.2.2.2.2.2.2.2.2.2.2.2.2.2.2.1 k45, Msg.keepC hHeld.2.2.2.2.2.2.2.2.2.2.2.2.2.2.2.1 k45, Msg.keepC hHeld.2.2.2.2.2.2.2.2.2.2.2.2.2.2.2.2.1 k45, Msg.keepC hHeld.2.2.2.2.2.2.2.2.2.2.2.2.2.2.2.2.2.1 k45, Msg.keepC hHeld.2.2.2.2.2.2.2.2.2.2.2.2.2.2.2.2.2.2.1 k45, Msg.keepC hHeld.2.2.2.2.2.2.2.2.2.2.2.2.2.2.2.2.2.2.2.1 k45, Msg.keepC hHeld.2.2.2.2.2.2.2.2.2.2.2.2.2.2.2.2.2.2.2.2.1 k45, Msg.keepC hHeld.2.2.2.2.2.2.2.2.2.2.2.2.2.2.2.2.2.2.2.2.2.1 k45, Msg.keepC hHeld.2.2.2.2.2.2.2.2.2.2.2.2.2.2.2.2.2.2.2.2.2.2.1 k45, Msg.keepC hHeld.2.2.2.2.2.2.2.2.2.2.2.2.2.2.2.2.2.2.2.2.2.2.2.1 k45, Msg.keepC hHeld.2.2.2.2.2.2.2.2.2.2.2.2.2.2.2.2.2.2.2.2.2.2.2.2.1 k45, Msg.keepC hHeld.2.2.2.2.2.2.2.2.2.2.2.2.2.2.2.2.2.2.2.2.2.2.2.2.2 k45⟩) (fun hHeld => ?_)
      clear hK K k45
      try simp only [Act.put, List.setIfInBounds_toArray, List.set_cons_zero, List.set_cons_succ]
      refine wpAnyH_ready (rs := [10]) (by kernel_rfl) (by simp) ?_
      refine AllReadyH.cons (by simp only [List.getElem?_toArray, List.getElem?_cons_succ, List.getElem?_cons_zero]; rfl) (fun K hK => ?_) AllReadyH.nil
      go_simp
      go_at_call 15
      refine (Same_is false hq.out _ lB lC mlen).mono ?_
      rintro e v46 ⟨rfl, k46⟩
      replace lA := (lA).below k46
      replace lB := (lB).below k46
      replace lC := (lC).below k46
      go_wp2_with fail
      refine hK.out _ _ (⟨bstep hHeld.1 k46, (hHeld.2.1).below k46, (hHeld.2.2.1).below k46, (hHeld.2.2.2.1).below k46, (hHeld.2.2.2.2.1).below k46, (hHeld.2.2.2.2.2.1).below k46, Msg.keepC hHeld.2.2.2.2.2.2.1 k46, Msg.keepC hHeld.2.2.2.2.2.2.2.1 k46, Msg.keepC hHeld.2.2.2.2.2.2.2.2.1 k46, Msg.keepC hHeld.2.2.2.2.2.2.2.2.2.1 k46, Msg.keepC hHeld.2.2.2.2.2.2.2.2.2.2.1 k46, Msg.keepC hHeld.2.2.2.2.2.2.2.2.2.2.2.1 k46, Msg.keepC hHeld.2.2.2.2.2.2.2.2.2.2.2.2.1 k46, Msg.keepC hHeld.2.2.2.2.2.2.2.2.2.2.2.2.2.1 k46, Msg.keepC hHeld.2.2.2.2.2.2.2.2.2.2.2.2.2.2.1 k46, Msg.keepC hHeld.2.2.2.2.2.2.2.2.2.2.2.2.2.2.2.1 k46, Msg.keepC hHeld.2.2.2.2.2.2.2.2.2.2.2.2.2.2.2.2.1 k46, Msg.keepC hHeld.2.2.2.2.2.2.2.2.2.2.2.2.2.2.2.2.2.1 k46, Msg.keepC hHeld.2.2.2.2.2.2.2.2.2.2.2.2.2.2.2.2.2.2.1 k46, Msg.keepC hHeld.2.2.2.2.2.2.2.2.2.2.2.2.2.2.2.2.2.2.2.1 k46, Msg.keepC hHeld.2.2.2.2.2.2.2.2.2.2.2.2.2.2.2.2.2.2.2.2.1 k46, Msg.keepC hHeld.2.2.2.2.2.2.2.2.2.2.2.2.2.2.2.2.2.2.2.2.2.1 k46, Msg.keepC hHeld.2.2.2.2.2.2.2.2.2.2.2.2.2.2.2.2.2.2.2.2.2.2.1 k46, Msg.keepC hHeld.2.2.2.2.2.2.2.2.2.2.2.2.2.2.2.2.2.2.2.2.2.2.2.1 k46, Msg.keepC hHeld.2.2.2.2.2.2.2.2.2.2.2.2.2.2.2.2.2.2.2.2.2.2.2.2.1 k46, Msg.keepC hHeld.2.2.2.2.2.2.2.2.2.2.2.2.2.2.2.2.2.2.2.2.2.2.2.2.2 k46⟩) (fun hHeld => ?_)
      clear hK K k46
      try simp only [Act.put, List.setIfInBounds_toArray, List.set_cons_zero, List.set_cons_succ]
      refine wpAnyH_ready (rs := [13]) (by kernel_rfl) (by simp) ?_
      refine AllReadyH.cons (by simp only [List.getElem?_toArray, List.getElem?_cons_succ, List.getElem?_cons_zero]; rfl) (fun K hK => ?_) AllReadyH.nil
      go_simp
      go_at_call 16
      refine (same_is false hq.out _ hHeld.2.2.1 hHeld.2.2.2.1 mlen).mono ?_
      rintro e v47 ⟨rfl, k47⟩
      replace lA := (lA).below k47
      replace lB := (lB).below k47
      replace lC := (lC).below k47
      go_wp2_with fail
      refine hK.out _ _ (⟨bstep hHeld.1 k47, (hHeld.2.1).below k47, (hHeld.2.2.1).below k47, (hHeld.2.2.2.1).below k47, (hHeld.2.2.2.2.1).below k47, (hHeld.2.2.2.2.2.1).below k47, Msg.keepC hHeld.2.2.2.2.2.2.1 k47, Msg.keepC hHeld.2.2.2.2.2.2.2.1 k47, Msg.keepC hHeld.2.2.2.2.2.2.2.2.1 k47, Msg.keepC hHeld.2.2.2.2.2.2.2.2.2.1 k47, Msg.keepC hHeld.2.2.2.2.2.2.2.2.2.2.1 k47, Msg.keepC hHeld.2.2.2.2.2.2.2.2.2.2.2.1 k47, Msg.keepC hHeld.2.2.2.2.2.2.2.2.2.2.2.2.1 k47, Msg.keepC hHeld.2.2.2.2.2.2.2.2.2.2.2.2.2.1 k47, Msg.keepC hHeld.2.2.2.2.2.2.2.2.2.2.2.2.2.2.1 k47, Msg.keepC hHeld.2.2.2.2.2.2.2.2.2.2.2.2.2.2.2.1 k47, Msg.keepC hHeld.2.2.2.2.2.2.2.2.2.2.2.2.2.2.2.2.1 k47, Msg.keepC hHeld.2.2.2.2.2.2.2.2.2.2.2.2.2.2.2.2.2.1 k47, Msg.keepC hHeld.2.2.2.2.2.2.2.2.2.2.2.2.2.2.2.2.2.2.1 k47, Msg.keepC hHeld.2.2.2.2.2.2.2.2.2.2.2.2.2.2.2.2.2.2.2.1 k47, Msg.keepC hHeld.2.2.2.2.2.2.2.2.2.2.2.2.2.2.2.2.2.2.2.2.1 k47, Msg.keepC hHeld.2.2.2.2.2.2.2.2.2.2.2.2.2.2.2.2.2.2.2.2.2.1 k47, Msg.keepC hHeld.2.2.2.2.2.2.2.2.2.2.2.2.2.2.2.2.2.2.2.2.2.2.1 k47, Msg.keepC hHeld.2.2.2.2.2.2.2.2.2.2.2.2.2.2.2.2.2.2.2.2.2.2.2.1 k47, Msg.keepC hHeld.2.2.2.2.2.2.2.2.2.2.2.2.2.2.2.2.2.2.2.2.2.2.2.2.1 k47, Msg.keepC hHeld.2.2.2.2.2.2.2.2.2.2.2.2.2.2.2.2.2.2.2.2.2.2.2.2.2 k47⟩) (fun hHeld => ?_)
      clear hK K k47
      try simp only [Act.put, List.setIfInBounds_toArray, List.set_cons_zero, List.set_cons_succ]
      refine wpAnyH_take (i := 14) (v := ?_) (by simp only [List.getElem?_toArray, List.getElem?_cons_succ, List.getElem?_cons_zero]; rfl) (by kernel_rfl) (by kernel_rfl) (by kernel_rfl) (fun _ _ _ h => h) (Or.inl ⟨by rfl, ?_⟩) (by assumption) ?_
      rotate_left
      · (intro w hSw; (try dsimp only at hSw); go_simp; try with_reducible rfl)
      try simp only [Act.put, List.setIfInBounds_toArray, List.set_cons_zero, List.set_cons_succ]
      refine wpAnyH_take (i := 15) (v := ?_) (by simp only [List.getElem?_toArray, List.getElem?_cons_succ, List.getElem?_cons_zero]; rfl) (by kernel_rfl) (by kernel_rfl) (by kernel_rfl) (fun _ _ _ h => h) (Or.inl ⟨by rfl, ?_⟩) (by assumption) ?_
      rotate_left
      · (intro w hSw; (try dsimp only at hSw); go_simp; try with_reducible rfl)
      try simp only [Act.put, List.setIfInBounds_toArray, List.set_cons_zero, List.set_cons_succ]
      refine wpAnyH_take (i := 16) (v := ?_) (by simp only [List.getElem?_toArray, List.getElem?_cons_succ, List.getElem?_cons_zero]; rfl) (by kernel_rfl) (by kernel_rfl) (by kernel_rfl) (fun _ _ _ h => h) (Or.inl ⟨by rfl, ?_⟩) (by assumption) ?_
      rotate_left
      · (intro w hSw; (try dsimp only at hSw); go_simp; try with_reducible rfl)
      try simp only [Act.put, List.setIfInBounds_toArray, List.set_cons_zero, List.set_cons_succ]
      refine wpAnyH_take (i := 17) (v := ?_) (by simp only [List.getElem?_toArray, List.getElem?_cons_succ, List.getElem?_cons_zero]; rfl) (by kernel_rfl) (by kernel_rfl) (by kernel_rfl) (fun _ _ _ h => h) (Or.inl ⟨by rfl, ?_⟩) (by assumption) ?_
      rotate_left
      · (intro w hSw; (try dsimp only at hSw); go_simp; try with_reducible rfl)
      try simp only [Act.put, List.setIfInBounds_toArray, List.set_cons_zero, List.set_cons_succ]
      refine wpAnyH_take (i := 19) (v := ?_) (by simp only [List.getElem?_toArray, List.getElem?_cons_succ, List.getElem?_cons_zero]; rfl) (by kernel_rfl) (by kernel_rfl) (by kernel_rfl) (fun _ _ _ h => h) (Or.inl ⟨by rfl, ?_⟩) (by assumption) ?_
      rotate_left
      · (intro w hSw; (try dsimp only at hSw); go_simp; try with_reducible rfl)
      try simp only [Act.put, List.setIfInBounds_toArray, List.set_cons_zero, List.set_cons_succ]
      refine wpAnyH_ready (rs := [18]) (by kernel_rfl) (by simp) ?_
      refine AllReadyH.cons (by simp only [List.getElem?_toArray, List.getElem?_cons_succ, List.getElem?_cons_zero]; rfl) (fun K hK => ?_) AllReadyH.nil
      go_simp
      go_at_call 12
      refine (copied_is MM.out _ hHeld.2.2.1).mono ?_
      rintro e v48 ⟨bD, dD, rfl, lD, -, k48⟩
      replace lA := (lA).below k48
      replace lB := (lB).below k48
      replace lC := (lC).below k48
      go_wp2_with fail
      refine hK.out _ _ (⟨bstep hHeld.1 k48, (hHeld.2.1).below k48, (hHeld.2.2.1).below k48, (hHeld.2.2.2.1).below k48, (hHeld.2.2.2.2.1).below k48, (hHeld.2.2.2.2.2.1).below k48, Msg.keepC hHeld.2.2.2.2.2.2.1 k48, Msg.keepC hHeld.2.2.2.2.2.2.2.1 k48, Msg.keepC hHeld.2.2.2.2.2.2.2.2.1 k48, Msg.keepC hHeld.2.2.2.2.2.2.2.2.2.1 k48, Msg.keepC hHeld.2.2.2.2.2.2.2.2.2.2.1 k48, Msg.keepC hHeld.2.2.2.2.2.2.2.2.2.2.2.1 k48, Msg.keepC hHeld.2.2.2.2.2.2.2.2.2.2.2.2.1 k48, Msg.keepC hHeld.2.2.2.2.2.2.2.2.2.2.2.2.2.1 k48, Msg.keepC hHeld.2.2.2.2.2.2.2.2.2.2.2.2.2.2.1 k48, Msg.keepC hHeld.2.2.2.2.2.2.2.2.2.2.2.2.2.2.2.1 k48, Msg.keepC hHeld.2.2.2.2.2.2.2.2.2.2.2.2.2.2.2.2.1 k48, Msg.keepC hHeld.2.2.2.2.2.2.2.2.2.2.2.2.2.2.2.2.2.1 k48, Msg.keepC hHeld.2.2.2.2.2.2.2.2.2.2.2.2.2.2.2.2.2.2.1 k48, Msg.keepC hHeld.2.2.2.2.2.2.2.2.2.2.2.2.2.2.2.2.2.2.2.1 k48, Msg.keepC hHeld.2.2.2.2.2.2.2.2.2.2.2.2.2.2.2.2.2.2.2.2.1 k48, Msg.keepC hHeld.2.2.2.2.2.2.2.2.2.2.2.2.2.2.2.2.2.2.2.2.2.1 k48, Msg.keepC hHeld.2.2.2.2.2.2.2.2.2.2.2.2.2.2.2.2.2.2.2.2.2.2.1 k48, Msg.keepC hHeld.2.2.2.2.2.2.2.2.2.2.2.2.2.2.2.2.2.2.2.2.2.2.2.1 k48, Msg.keepC hHeld.2.2.2.2.2.2.2.2.2.2.2.2.2.2.2.2.2.2.2.2.2.2.2.2.1 k48, Msg.keepC hHeld.2.2.2.2.2.2.2.2.2.2.2.2.2.2.2.2.2.2.2.2.2.2.2.2.2 k48⟩) (fun hHeld => ?_)
      clear hK K k48
      try simp only [Act.put, List.setIfInBounds_toArray, List.set_cons_zero, List.set_cons_succ]
      refine wpAnyH_ready (rs := [20]) (by kernel_rfl) (by simp) ?_
      refine AllReadyH.cons (by simp only [List.getElem?_toArray, List.getElem?_cons_succ, List.getElem?_cons_zero]; rfl) (fun K hK => ?_) AllReadyH.nil
      go_simp
      go_at_call 12
      refine (copied_is MM.out _ hHeld.2.2.1).mono ?_
      rintro e v49 ⟨bE, dE, rfl, lE, -, k49⟩
      replace lA := (lA).below k49
      replace lB := (lB).below k49
      replace lC := (lC).below k49
      replace lD := (lD).below k49
      go_wp2_with fail
      refine hK.out _ _ (⟨bstep hHeld.1 k49, (hHeld.2.1).below k49, (hHeld.2.2.1).below k49, (hHeld.2.2.2.1).below k49, (hHeld.2.2.2.2.1).below k49, (hHeld.2.2.2.2.2.1).below k49, Msg.keepC hHeld.2.2.2.2.2.2.1 k49, Msg.keepC hHeld.2.2.2.2.2.2.2.1 k49, Msg.keepC hHeld.2.2.2.2.2.2.2.2.1 k49, Msg.keepC hHeld.2.2.2.2.2.2.2.2.2.1 k49, Msg.keepC hHeld.2.2.2.2.2.2.2.2.2.2.1 k49, Msg.keepC hHeld.2.2.2.2.2.2.2.2.2.2.2.1 k49, Msg.keepC hHeld.2.2.2.2.2.2.2.2.2.2.2.2.1 k49, Msg.keepC hHeld.2.2.2.2.2.2.2.2.2.2.2.2.2.1 k49, Msg.keepC hHeld.2.2.2.2.2.2.2.2.2.2.2.2.2.2.1 k49, Msg.keepC hHeld.2.2.2.2.2.2.2.2.2.2.2.2.2.2.2.1 k49, Msg.keepC hHeld.2.2.2.2.2.2.2.2.2.2.2.2.2.2.2.2.1 k49, Msg.keepC hHeld.2.2.2.2.2.2.2.2.2.2.2.2.2.2.2.2.2.1 k49, Msg.keepC hHeld.2.2.2.2.2.2.2.2.2.2.2.2.2.2.2.2.2.2.1 k49, Msg.keepC hHeld.2.2.2.2.2.2.2.2.2.2.2.2.2.2.2.2.2.2.2.1 k49, Msg.keepC hHeld.2.2.2.2.2.2.2.2.2.2.2.2.2.2.2.2.2.2.2.2.1 k49, Msg.keepC hHeld.2.2.2.2.2.2.2.2.2.2.2.2.2.2.2.2.2.2.2.2.2.1 k49, Msg.keepC hHeld.2.2.2.2.2.2.2.2.2.2.2.2.2.2.2.2.2.2.2.2.2.2.1 k49, Msg.keepC hHeld.2.2.2.2.2.2.2.2.2.2.2.2.2.2.2.2.2.2.2.2.2.2.2.1 k49, Msg.keepC hHeld.2.2.2.2.2.2.2.2.2.2.2.2.2.2.2.2.2.2.2.2.2.2.2.2.1 k49, Msg.keepC hHeld.2.2.2.2.2.2.2.2.2.2.2.2.2.2.2.2.2.2.2.2.2.2.2.2.2 k49⟩) (fun hHeld => ?_)
      clear hK K k49
      try simp only [Act.put, List.setIfInBounds_toArray, List.set_cons_zero, List.set_cons_succ]
      refine wpAnyH_ready (rs := [21]) (by kernel_rfl) (by simp) ?_
      refine AllReadyH.cons (by simp only [List.getElem?_toArray, List.getElem?_cons_succ, List.getElem?_cons_zero]; rfl) (fun K hK => ?_) AllReadyH.nil
      go_simp
      go_at_call 15
      refine (Same_is true (by simp) _ lD lE mlen).mono ?_
      rintro e v50 ⟨rfl, k50⟩
      replace lA := (lA).below k50
      replace lB := (lB).below k50
      replace lC := (lC).below k50
      replace lD := (lD).below k50
      replace lE := (lE).below k50
      go_wp2_with fail
      refine hK.out _ _ (⟨bstep hHeld.1 k50, (hHeld.2.1).below k50, (hHeld.2.2.1).below k50, (hHeld.2.2.2.1).below k50, (hHeld.2.2.2.2.1).below k50, (hHeld.2.2.2.2.2.1).below k50, Msg.keepC hHeld.2.2.2.2.2.2.1 k50, Msg.keepC hHeld.2.2.2.2.2.2.2.1 k50, Msg.keepC hHeld.2.2.2.2.2.2.2.2.1 k50, Msg.keepC hHeld.2.2.2.2.2.2.2.2.2.1 k50, Msg.keepC hHeld.2.2.2.2.2.2.2.2.2.2.1 k50, Msg.keepC hHeld.2.2.2.2.2.2.2.2.2.2.2.1 k50, Msg.keepC hHeld.2.2.2.2.2.2.2.2.2.2.2.2.1 k50, Msg.keepC hHeld.2.2.2.2.2.2.2.2.2.2.2.2.2.1 k50, Msg.keepC hHeld.2.2.2.2.2.2.2.2.2.2.2.2.2.2.1 k50, Msg.keepC hHeld.2.2.2.2.2.2.2.2.2.2.2.2.2.2.2.1 k50, Msg.keepC hHeld.2.2.2.2.2.2.2.2.2.2.2.2.2.2.2.2.1 k50, Msg.keepC hHeld.2.2.2.2.2.2.2.2.2.2.2.2.2.2.2.2.2.1 k50, Msg.keepC hHeld.2.2.2.2.2.2.2.2.2.2.2.2.2.2.2.2.2.2.1 k50, Msg.keepC hHeld.2.2.2.2.2.2.2.2.2.2.2.2.2.2.2.2.2.2.2.1 k50, Msg.keepC hHeld.2.2.2.2.2.2.2.2.2.2.2.2.2.2.2.2.2.2.2.2.1 k50, Msg.keepC hHeld.2.2.2.2.2.2.2.2.2.2.2.2.2.2.2.2.2.2.2.2.2.1 k50, Msg.keepC hHeld.2.2.2.2.2.2.2.2.2.2.2.2.2.2.2.2.2.2.2.2.2.2.1 k50, Msg.keepC hHeld.2.2.2.2.2.2.2.2.2.2.2.2.2.2.2.2.2.2.2.2.2.2.2.1 k50, Msg.keepC hHeld.2.2.2.2.2.2.2.2.2.2.2.2.2.2.2.2.2.2.2.2.2.2.2.2.1 k50, Msg.keepC hHeld.2.2.2.2.2.2.2.2.2.2.2.2.2.2.2.2.2.2.2.2.2.2.2.2.2 k50⟩) (fun hHeld => ?_)
      clear hK K k50
      try simp only [Act.put, List.setIfInBounds_toArray, List.set_cons_zero, List.set_cons_succ]
      refine wpAnyH_take (i := 22) (v := ?_) (by simp only [List.getElem?_toArray, List.getElem?_cons_succ, List.getElem?_cons_zero]; rfl) (by kernel_rfl) (by kernel_rfl) (by kernel_rfl) (fun _ _ _ h => h) (Or.inl ⟨by rfl, ?_⟩) (by assumption) ?_
      rotate_left
      · (intro w hSw; (try dsimp only at hSw); go_simp; try with_reducible rfl)
      try simp only [Act.put, List.setIfInBounds_toArray, List.set_cons_zero, List.set_cons_succ]
      refine wpAnyH_take (i := 23) (v := ?_) (by simp only [List.getElem?_toArray, List.getElem?_cons_succ, List.getElem?_cons_zero]; rfl) (by kernel_rfl) (by kernel_rfl) (by kernel_rfl) (fun _ _ _ h => h) (Or.inl ⟨by rfl, ?_⟩) (by assumption) ?_
      rotate_left
      · (intro w hSw; (try dsimp only at hSw); go_simp; try with_reducible rfl)
      try simp only [Act.put, List.setIfInBounds_toArray, List.set_cons_zero, List.set_cons_succ]
      refine wpAnyH_ready (rs := [24]) (by kernel_rfl) (by simp) ?_
      refine AllReadyH.cons (by simp only [List.getElem?_toArray, List.getElem?_cons_succ, List.getElem?_cons_zero]; rfl) (fun K hK => ?_) AllReadyH.nil
      go_simp
      go_at_call 9
      refine (works_any _ hHeld.2.1).mono ?_
      rintro e v51 ⟨rfl, k51⟩
      replace lA := (lA).below k51
      replace lB := (lB).below k51
      replace lC := (lC).below k51
      replace lD := (lD).below k51
      replace lE := (lE).below k51
      go_wp2_with fail
      refine hK.out _ _ (⟨bstep hHeld.1 k51, (hHeld.2.1).below k51, (hHeld.2.2.1).below k51, (hHeld.2.2.2.1).below k51, (hHeld.2.2.2.2.1).below k51, (hHeld.2.2.2.2.2.1).below k51, Msg.keepC hHeld.2.2.2.2.2.2.1 k51, Msg.keepC hHeld.2.2.2.2.2.2.2.1 k51, Msg.keepC hHeld.2.2.2.2.2.2.2.2.1 k51, Msg.keepC hHeld.2.2.2.2.2.2.2.2.2.1 k51, Msg.keepC hHeld.2.2.2.2.2.2.2.2.2.2.1 k51, Msg.keepC hHeld.2.2.2.2.2.2.2.2.2.2.2.1 k51, Msg.keepC hHeld.2.2.2.2.2.2.2.2.2.2.2.2.1 k51, Msg.keepC hHeld.2.2.2.2.2.2.2.2.2.2.2.2.2.1 k51, Msg.keepC hHeld.2.2.2.2.2.2.2.2.2.2.2.2.2.2.1 k51, Msg.keepC hHeld.2.2.2.2.2.2.2.2.2.2.2.2.2.2.2.1 k51, Msg.keepC hHeld.2.2.2.2.2.2.2.2.2.2.2.2.2.2.2.2.1 k51, Msg.keepC hHeld.2.2.2.2.2.2.2.2.2.2.2.2.2.2.2.2.2.1 k51, Msg.keepC hHeld.2.2.2.2.2.2.2.2.2.2.2.2.2.2.2.2.2.2.1 k51, Msg.keepC hHeld.2.2.2.2.2.2.2.2.2.2.2.2.2.2.2.2.2.2.2.1 k51, Msg.keepC hHeld.2.2.2.2.2.2.2.2.2.2.2.2.2.2.2.2.2.2.2.2.1 k51, Msg.keepC hHeld.2.2.2.2.2.2.2.2.2.2.2.2.2.2.2.2.2.2.2.2.2.1 k51, Msg.keepC hHeld.2.2.2.2.2.2.2.2.2.2.2.2.2.2.2.2.2.2.2.2.2.2.1 k51, Msg.keepC hHeld.2.2.2.2.2.2.2.2.2.2.2.2.2.2.2.2.2.2.2.2.2.2.2.1 k51, Msg.keepC hHeld.2.2.2.2.2.2.2.2.2.2.2.2.2.2.2.2.2.2.2.2.2.2.2.2.1 k51, Msg.keepC hHeld.2.2.2.2.2.2.2.2.2.2.2.2.2.2.2.2.2.2.2.2.2.2.2.2.2 k51⟩) (fun hHeld => ?_)
      clear hK K k51
      try simp only [Act.put, List.setIfInBounds_toArray, List.set_cons_zero, List.set_cons_succ]
      refine wpAnyH_take (i := 25) (v := ?_) (by simp only [List.getElem?_toArray, List.getElem?_cons_succ, List.getElem?_cons_zero]; rfl) (by kernel_rfl) (by kernel_rfl) (by kernel_rfl) (fun _ _ _ h => h) (Or.inl ⟨by rfl, ?_⟩) (by assumption) ?_
      rotate_left
      · (intro w hSw; (try dsimp only at hSw); go_simp; try with_reducible rfl)
      try simp only [Act.put, List.setIfInBounds_toArray, List.set_cons_zero, List.set_cons_succ]
      refine wpAnyH_take (i := 26) (v := ?_) (by simp only [List.getElem?_toArray, List.getElem?_cons_succ, List.getElem?_cons_zero]; rfl) (by kernel_rfl) (by kernel_rfl) (by kernel_rfl) (fun _ _ _ h => h) (Or.inl ⟨by rfl, ?_⟩) (by assumption) ?_
      rotate_left
      · (intro w hSw; (try dsimp only at hSw); go_simp; try with_reducible rfl)
      try simp only [Act.put, List.setIfInBounds_toArray, List.set_cons_zero, List.set_cons_succ]
      refine wpAnyH_done (by kernel_rfl) ?_ _
      refine NoPanic.normal ?_
      clear hb tab lm lx bm bx x0 x1 x2 x3 x4 x5 x6 x7 x8 x9 y0 y1 y2 y3 y4 y5 y6 y7 y8 y9
      obtain ⟨hb, tab, lm, lx, bm, bx, x0, x1, x2, x3, x4, x5, x6, x7, x8, x9, y0, y1, y2, y3, y4, y5, y6, y7, y8, y9⟩ := hHeld
      replace tab := Lib.hid tab
      replace lm := Lib.hid lm
      replace lx := Lib.hid lx
      replace bm := Lib.hid bm
      replace bx := Lib.hid bx
      go_wp2
      go_ret
      exact ⟨rfl, hb⟩
    · replace hq := Lib.hid hq
      go_enter Tryd.func3, Tryd.ntmps3
      have x0 := bm.out 0 (.int .u8 (m.kind : Int)) rfl
      have x1 := bm.out 1 (.string ⟨m.src.toArray⟩) rfl
      have x2 := bm.out 2 (.string ⟨m.dst.toArray⟩) rfl
      have x3 := bm.out 3 (.string ⟨m.fr.toArray⟩) rfl
      have x4 := bm.out 4 (.int .u64 (m.seq : Int)) rfl
      have x5 := bm.out 5 (.slice a m.all.length c) rfl
      have x6 := bm.out 6 (.int .u64 (m.id : Int)) rfl
      have x7 := bm.out 7 (.int .i64 m.i) rfl
      have x8 := bm.out 8 (.int .i64 m.n) rfl
      have x9 := bm.out 9 (.string ⟨m.tx.toArray⟩) rfl
      have y0 := bx.out 0 (.int .u8 (x.kind : Int)) rfl
      have y1 := bx.out 1 (.string ⟨x.src.toArray⟩) rfl
      have y2 := bx.out 2 (.string ⟨x.dst.toArray⟩) rfl
      have y3 := bx.out 3 (.string ⟨x.fr.toArray⟩) rfl
      have y4 := bx.out 4 (.int .u64 (x.seq : Int)) rfl
      have y5 := bx.out 5 (.slice a' x.all.length c') rfl
      have y6 := bx.out 6 (.int .u64 (x.id : Int)) rfl
      have y7 := bx.out 7 (.int .i64 x.i) rfl
      have y8 := bx.out 8 (.int .i64 x.n) rfl
      have y9 := bx.out 9 (.string ⟨x.tx.toArray⟩) rfl
      go_wp2_with fail
      refine (heavy_is false v1.out WM.out _ lm.out).mono ?_
      rintro e v52 ⟨rfl, k52⟩
      replace tab := Lib.hid ((tab.out).below k52)
      replace lm := Lib.hid ((lm.out).below k52)
      replace lx := Lib.hid ((lx.out).below k52)
      replace bm := Lib.hid ((bm.out).below k52)
      replace bx := Lib.hid ((bx.out).below k52)
      replace x0 := (Msg.keepC x0 k52)
      replace x1 := (Msg.keepC x1 k52)
      replace x2 := (Msg.keepC x2 k52)
      replace x3 := (Msg.keepC x3 k52)
      replace x4 := (Msg.keepC x4 k52)
      replace x5 := (Msg.keepC x5 k52)
      replace x6 := (Msg.keepC x6 k52)
      replace x7 := (Msg.keepC x7 k52)
      replace x8 := (Msg.keepC x8 k52)
      replace x9 := (Msg.keepC x9 k52)
      replace y0 := (Msg.keepC y0 k52)
      replace y1 := (Msg.keepC y1 k52)
      replace y2 := (Msg.keepC y2 k52)
      replace y3 := (Msg.keepC y3 k52)
      replace y4 := (Msg.keepC y4 k52)
      replace y5 := (Msg.keepC y5 k52)
      replace y6 := (Msg.keepC y6 k52)
      replace y7 := (Msg.keepC y7 k52)
      replace y8 := (Msg.keepC y8 k52)
      replace y9 := (Msg.keepC y9 k52)
      replace hb := bstep hb k52
      clear k52
      go_wp2_with fail
      refine (heavy_is false v2.out WX.out _ lx.out).mono ?_
      rintro e v53 ⟨rfl, k53⟩
      replace tab := Lib.hid ((tab.out).below k53)
      replace lm := Lib.hid ((lm.out).below k53)
      replace lx := Lib.hid ((lx.out).below k53)
      replace bm := Lib.hid ((bm.out).below k53)
      replace bx := Lib.hid ((bx.out).below k53)
      replace x0 := (Msg.keepC x0 k53)
      replace x1 := (Msg.keepC x1 k53)
      replace x2 := (Msg.keepC x2 k53)
      replace x3 := (Msg.keepC x3 k53)
      replace x4 := (Msg.keepC x4 k53)
      replace x5 := (Msg.keepC x5 k53)
      replace x6 := (Msg.keepC x6 k53)
      replace x7 := (Msg.keepC x7 k53)
      replace x8 := (Msg.keepC x8 k53)
      replace x9 := (Msg.keepC x9 k53)
      replace y0 := (Msg.keepC y0 k53)
      replace y1 := (Msg.keepC y1 k53)
      replace y2 := (Msg.keepC y2 k53)
      replace y3 := (Msg.keepC y3 k53)
      replace y4 := (Msg.keepC y4 k53)
      replace y5 := (Msg.keepC y5 k53)
      replace y6 := (Msg.keepC y6 k53)
      replace y7 := (Msg.keepC y7 k53)
      replace y8 := (Msg.keepC y8 k53)
      replace y9 := (Msg.keepC y9 k53)
      replace hb := bstep hb k53
      clear k53
      go_wp2_with fail
      refine (RefMsg.may_of true r1.out MM.out BL.out _ lm.out).mono ?_
      rintro e v54 ⟨rfl, k54⟩
      replace tab := Lib.hid ((tab.out).below k54)
      replace lm := Lib.hid ((lm.out).below k54)
      replace lx := Lib.hid ((lx.out).below k54)
      replace bm := Lib.hid ((bm.out).below k54)
      replace bx := Lib.hid ((bx.out).below k54)
      replace x0 := (Msg.keepC x0 k54)
      replace x1 := (Msg.keepC x1 k54)
      replace x2 := (Msg.keepC x2 k54)
      replace x3 := (Msg.keepC x3 k54)
      replace x4 := (Msg.keepC x4 k54)
      replace x5 := (Msg.keepC x5 k54)
      replace x6 := (Msg.keepC x6 k54)
      replace x7 := (Msg.keepC x7 k54)
      replace x8 := (Msg.keepC x8 k54)
      replace x9 := (Msg.keepC x9 k54)
      replace y0 := (Msg.keepC y0 k54)
      replace y1 := (Msg.keepC y1 k54)
      replace y2 := (Msg.keepC y2 k54)
      replace y3 := (Msg.keepC y3 k54)
      replace y4 := (Msg.keepC y4 k54)
      replace y5 := (Msg.keepC y5 k54)
      replace y6 := (Msg.keepC y6 k54)
      replace y7 := (Msg.keepC y7 k54)
      replace y8 := (Msg.keepC y8 k54)
      replace y9 := (Msg.keepC y9 k54)
      replace hb := bstep hb k54
      clear k54
      go_wp2_with fail
      refine (copied_is MM.out _ lm.out).mono ?_
      rintro e v55 ⟨b55, d55, rfl, l55, -, k55⟩
      replace tab := Lib.hid ((tab.out).below k55)
      replace lm := Lib.hid ((lm.out).below k55)
      replace lx := Lib.hid ((lx.out).below k55)
      replace bm := Lib.hid ((bm.out).below k55)
      replace bx := Lib.hid ((bx.out).below k55)
      replace x0 := (Msg.keepC x0 k55)
      replace x1 := (Msg.keepC x1 k55)
      replace x2 := (Msg.keepC x2 k55)
      replace x3 := (Msg.keepC x3 k55)
      replace x4 := (Msg.keepC x4 k55)
      replace x5 := (Msg.keepC x5 k55)
      replace x6 := (Msg.keepC x6 k55)
      replace x7 := (Msg.keepC x7 k55)
      replace x8 := (Msg.keepC x8 k55)
      replace x9 := (Msg.keepC x9 k55)
      replace y0 := (Msg.keepC y0 k55)
      replace y1 := (Msg.keepC y1 k55)
      replace y2 := (Msg.keepC y2 k55)
      replace y3 := (Msg.keepC y3 k55)
      replace y4 := (Msg.keepC y4 k55)
      replace y5 := (Msg.keepC y5 k55)
      replace y6 := (Msg.keepC y6 k55)
      replace y7 := (Msg.keepC y7 k55)
      replace y8 := (Msg.keepC y8 k55)
      replace y9 := (Msg.keepC y9 k55)
      replace hb := bstep hb k55
      clear k55
      replace l55 := Lib.hid l55
      go_wp2_with fail
      refine (enc_is T 0 hE.out MM.out _ l55.out tab.out).mono ?_
      rintro e v56 ⟨rfl, k56⟩
      replace tab := Lib.hid ((tab.out).below k56)
      replace lm := Lib.hid ((lm.out).below k56)
      replace lx := Lib.hid ((lx.out).below k56)
      replace bm := Lib.hid ((bm.out).below k56)
      replace bx := Lib.hid ((bx.out).below k56)
      replace x0 := (Msg.keepC x0 k56)
      replace x1 := (Msg.keepC x1 k56)
      replace x2 := (Msg.keepC x2 k56)
      replace x3 := (Msg.keepC x3 k56)
      replace x4 := (Msg.keepC x4 k56)
      replace x5 := (Msg.keepC x5 k56)
      replace x6 := (Msg.keepC x6 k56)
      replace x7 := (Msg.keepC x7 k56)
      replace x8 := (Msg.keepC x8 k56)
      replace x9 := (Msg.keepC x9 k56)
      replace y0 := (Msg.keepC y0 k56)
      replace y1 := (Msg.keepC y1 k56)
      replace y2 := (Msg.keepC y2 k56)
      replace y3 := (Msg.keepC y3 k56)
      replace y4 := (Msg.keepC y4 k56)
      replace y5 := (Msg.keepC y5 k56)
      replace y6 := (Msg.keepC y6 k56)
      replace y7 := (Msg.keepC y7 k56)
      replace y8 := (Msg.keepC y8 k56)
      replace y9 := (Msg.keepC y9 k56)
      replace l55 := Lib.hid ((l55.out).below k56)
      replace hb := bstep hb k56
      clear k56
      clear l55
      go_wp2_with fail
      refine (RefMsg.encode_of T hT.out MM.out r2.out BL.out _ lm.out).mono ?_
      rintro e v57 ⟨rfl, k57⟩
      replace tab := Lib.hid ((tab.out).below k57)
      replace lm := Lib.hid ((lm.out).below k57)
      replace lx := Lib.hid ((lx.out).below k57)
      replace bm := Lib.hid ((bm.out).below k57)
      replace bx := Lib.hid ((bx.out).below k57)
      replace x0 := (Msg.keepC x0 k57)
      replace x1 := (Msg.keepC x1 k57)
      replace x2 := (Msg.keepC x2 k57)
      replace x3 := (Msg.keepC x3 k57)
      replace x4 := (Msg.keepC x4 k57)
      replace x5 := (Msg.keepC x5 k57)
      replace x6 := (Msg.keepC x6 k57)
      replace x7 := (Msg.keepC x7 k57)
      replace x8 := (Msg.keepC x8 k57)
      replace x9 := (Msg.keepC x9 k57)
      replace y0 := (Msg.keepC y0 k57)
      replace y1 := (Msg.keepC y1 k57)
      replace y2 := (Msg.keepC y2 k57)
      replace y3 := (Msg.keepC y3 k57)
      replace y4 := (Msg.keepC y4 k57)
      replace y5 := (Msg.keepC y5 k57)
      replace y6 := (Msg.keepC y6 k57)
      replace y7 := (Msg.keepC y7 k57)
      replace y8 := (Msg.keepC y8 k57)
      replace y9 := (Msg.keepC y9 k57)
      replace hb := bstep hb k57
      clear k57
      go_wp2_with fail
      refine wp_region_noPanic ?_
      refine wp_region_held_drew (S := (fun w' => Below w.heap.size w w' ∧ Crc.Tab w' ∧ Lies w' a m.all.length m.all ∧ Lies w' a' x.all.length x.all ∧ Box w' w.heap.size #[.int .u8 (m.kind : Int), .string ⟨m.src.toArray⟩, .string ⟨m.dst.toArray⟩, .string ⟨m.fr.toArray⟩, .int .u64 (m.seq : Int), .slice a m.all.length c, .int .u64 (m.id : Int), .int .i64 m.i, .int .i64 m.n, .string ⟨m.tx.toArray⟩] ∧ Box w' (w.heap.size + 1) #[.int .u8 (x.kind : Int), .string ⟨x.src.toArray⟩, .string ⟨x.dst.toArray⟩, .string ⟨x.fr.toArray⟩, .int .u64 (x.seq : Int), .slice a' x.all.length c', .int .u64 (x.id : Int), .int .i64 x.i, .int .i64 x.n, .string ⟨x.tx.toArray⟩] ∧ w'.cell? ⟨w.heap.size, 0, none⟩ = some (.int .u8 (m.kind : Int)) ∧ w'.cell? ⟨w.heap.size, 1, none⟩ = some (.string ⟨m.src.toArray⟩) ∧ w'.cell? ⟨w.heap.size, 2, none⟩ = some (.string ⟨m.dst.toArray⟩) ∧ w'.cell? ⟨w.heap.size, 3, none⟩ = some (.string ⟨m.fr.toArray⟩) ∧ w'.cell? ⟨w.heap.size, 4, none⟩ = some (.int .u64 (m.seq : Int)) ∧ w'.cell? ⟨w.heap.size, 5, none⟩ = some (.slice a m.all.length c) ∧ w'.cell? ⟨w.heap.size, 6, none⟩ = some (.int .u64 (m.id : Int)) ∧ w'.cell? ⟨w.heap.size, 7, none⟩ = some (.int .i64 m.i) ∧ w'.cell? ⟨w.heap.size, 8, none⟩ = some (.int .i64 m.n) ∧ w'.cell? ⟨w.heap.size, 9, none⟩ = some (.string ⟨m.tx.toArray⟩) ∧ w'.cell? ⟨w.heap.size + 1, 0, none⟩ = some (.int .u8 (x.kind : Int)) ∧ w'.cell? ⟨w.heap.size + 1, 1, none⟩ = some (.string ⟨x.src.toArray⟩) ∧ w'.cell? ⟨w.heap.size + 1, 2, none⟩ = some (.string ⟨x.dst.toArray⟩) ∧ w'.cell? ⟨w.heap.size + 1, 3, none⟩ = some (.string ⟨x.fr.toArray⟩) ∧ w'.cell? ⟨w.heap.size + 1, 4, none⟩ = some (.int .u64 (x.seq : Int)) ∧ w'.cell? ⟨w.heap.size + 1, 5, none⟩ = some (.slice a' x.all.length c') ∧ w'.cell? ⟨w.heap.size + 1, 6, none⟩ = some (.int .u64 (x.id : Int)) ∧ w'.cell? ⟨w.heap.size + 1, 7, none⟩ = some (.int .i64 x.i) ∧ w'.cell? ⟨w.heap.size + 1, 8, none⟩ = some (.int .i64 x.n) ∧ w'.cell? ⟨w.heap.size + 1, 9, none⟩ = some (.string ⟨x.tx.toArray⟩))) (by kernel_rfl) (⟨Below.drew hb, (tab.out).below (Below.drew (Below.refl _ _)), (lm.out).below (Below.drew (Below.refl _ _)), (lx.out).below (Below.drew (Below.refl _ _)), (bm.out).below (Below.drew (Below.refl _ _)), (bx.out).below (Below.drew (Below.refl _ _)), Msg.keepC x0 (Below.drew (Below.refl _ _)), Msg.keepC x1 (Below.drew (Below.refl _ _)), Msg.keepC x2 (Below.drew (Below.refl _ _)), Msg.keepC x3 (Below.drew (Below.refl _ _)), Msg.keepC x4 (Below.drew (Below.refl _ _)), Msg.keepC x5 (Below.drew (Below.refl _ _)), Msg.keepC x6 (Below.drew (Below.refl _ _)), Msg.keepC x7 (Below.drew (Below.refl _ _)), Msg.keepC x8 (Below.drew (Below.refl _ _)), Msg.keepC x9 (Below.drew (Below.refl _ _)), Msg.keepC y0 (Below.drew (Below.refl _ _)), Msg.keepC y1 (Below.drew (Below.refl _ _)), Msg.keepC y2 (Below.drew (Below.refl _ _)), Msg.keepC y3 (Below.drew (Below.refl _ _)), Msg.keepC y4 (Below.drew (Below.refl _ _)), Msg.keepC y5 (Below.drew (Below.refl _ _)), Msg.keepC y6 (Below.drew (Below.refl _ _)), Msg.keepC y7 (Below.drew (Below.refl _ _)), Msg.keepC y8 (Below.drew (Below.refl _ _)), Msg.keepC y9 (Below.drew (Below.refl _ _))⟩) (fun hHeld => ?_)
      revert hHeld
      generalize World.drew _ = wd
      intro hHeld
      refine wpAnyH_take (i := 0) (v := ?_) (by simp only [List.getElem?_toArray, List.getElem?_cons_zero]; rfl) (by kernel_rfl) (by kernel_rfl) (by kernel_rfl) (fun _ _ _ h => h) (Or.inl ⟨by rfl, ?_⟩) (by assumption) ?_
      rotate_left
      · (intro w hSw; (try dsimp only at hSw); go_simp; try with_reducible rfl)
      try simp only [Act.put, List.setIfInBounds_toArray, List.set_cons_zero, List.set_cons_succ]
      refine wpAnyH_take (i := 3) (v := ?_) (by simp only [List.getElem?_toArray, List.getElem?_cons_succ, List.getElem?_cons_zero]; rfl) (by kernel_rfl) (by kernel_rfl) (by kernel_rfl) (fun _ _ _ h => h) (Or.inl ⟨by rfl, ?_⟩) (by assumption) ?_
      rotate_left
      · (intro w hSw; (try dsimp only at hSw); go_simp; try with_reducible rfl)
      try simp only [Act.put, List.setIfInBounds_toArray, List.set_cons_zero, List.set_cons_succ]
      refine wpAnyH_ready (rs := [1]) (by kernel_rfl) (by simp) ?_
      refine AllReadyH.cons (by simp only [List.getElem?_toArray, List.getElem?_cons_succ, List.getElem?_cons_zero]; rfl) (fun K hK => ?_) AllReadyH.nil
      go_simp
      go_at_call 12
      refine (copied_is MM.out _ hHeld.2.2.1).mono ?_
      rintro e v58 ⟨bA, dA, rfl, lA, -, k58⟩
      go_wp2_with fail
      refine hK.out _ _ (⟨bstep hHeld.1 k58, (hHeld.2.1).below k58, (hHeld.2.2.1).below k58, (hHeld.2.2.2.1).below k58, (hHeld.2.2.2.2.1).below k58, (hHeld.2.2.2.2.2.1).below k58, Msg.keepC hHeld.2.2.2.2.2.2.1 k58, Msg.keepC hHeld.2.2.2.2.2.2.2.1 k58, Msg.keepC hHeld.2.2.2.2.2.2.2.2.1 k58, Msg.keepC hHeld.2.2.2.2.2.2.2.2.2.1 k58, Msg.keepC hHeld.2.2.2.2.2.2.2.2.2.2.1 k58, Msg.keepC hHeld.2.2.2.2.2.2.2.2.2.2.2.1 k58, Msg.keepC hHeld.2.2.2.2.2.2.2.2.2.2.2.2.1 k58, Msg.keepC hHeld.2.2.2.2.2.2.2.2.2.2.2.2.2.1 k58, Msg.keepC hHeld.2.2.2.2.2.2.2.2.2.2.2.2.2.2.1 k58, Msg.keepC hHeld.2.2.2.2.2.2.2.2.2.2.2.2.2.2.2.1 k58, Msg.keepC hHeld.2.2.2.2.2.2.2.2.2.2.2.2.2.2.2.2.1 k58, Msg.keepC hHeld.2.2.2.2.2.2.2.2.2.2.2.2.2.2.2.2.2.1 k58, Msg.keepC hHeld.2.2.2.2.2.2.2.2.2.2.2.2.2.2.2.2.2.2.1 k58, Msg.keepC hHeld.2.2.2.2.2.2.2.2.2.2.2.2.2.2.2.2.2.2.2.1 k58, Msg.keepC hHeld.2.2.2.2.2.2.2.2.2.2.2.2.2.2.2.2.2.2.2.2.1 k58, Msg.keepC hHeld.2.2.2.2.2.2.2.2.2.2.2.2.2.2.2.2.2.2.2.2.2.1 k58, Msg.keepC hHeld.2.2.2.2.2.2.2.2.2.2.2.2.2.2.2.2.2.2.2.2.2.2.1 k58, Msg.keepC hHeld.2.2.2.2.2.2.2.2.2.2.2.2.2.2.2.2.2.2.2.2.2.2.2.1 k58, Msg.keepC hHeld.2.2.2.2.2.2.2.2.2.2.2.2.2.2.2.2.2.2.2.2.2.2.2.2.1 k58, Msg.keepC hHeld.2.2.2.2.2.2.2.2.2.2.2.2.2.2.2.2.2.2.2.2.2.2.2.2.2 k58⟩) (fun hHeld => ?_)
      clear hK K k58
      try simp only [Act.put, List.setIfInBounds_toArray, List.set_cons_zero, List.set_cons_succ]
      refine wpAnyH_ready (rs := [2]) (by kernel_rfl) (by simp) ?_
      refine AllReadyH.cons (by simp only [List.getElem?_toArray, List.getElem?_cons_succ, List.getElem?_cons_zero]; rfl) (fun K hK => ?_) AllReadyH.nil
      go_simp
      go_at_call 14
      refine (may_eq true r1.out MM.out _ lA).mono ?_
      rintro e v59 ⟨rfl, k59⟩
      replace lA := (lA).below k59
      go_wp2_with fail
      refine hK.out _ _ (⟨bstep hHeld.1 k59, (hHeld.2.1).below k59, (hHeld.2.2.1).below k59, (hHeld.2.2.2.1).below k59, (hHeld.2.2.2.2.1).below k59, (hHeld.2.2.2.2.2.1).below k59, Msg.keepC hHeld.2.2.2.2.2.2.1 k59, Msg.keepC hHeld.2.2.2.2.2.2.2.1 k59, Msg.keepC hHeld.2.2.2.2.2.2.2.2.1 k59, Msg.keepC hHeld.2.2.2.2.2.2.2.2.2.1 k59, Msg.keepC hHeld.2.2.2.2.2.2.2.2.2.2.1 k59, Msg.keepC hHeld.2.2.2.2.2.2.2.2.2.2.2.1 k59, Msg.keepC hHeld.2.2.2.2.2.2.2.2.2.2.2.2.1 k59, Msg.keepC hHeld.2.2.2.2.2.2.2.2.2.2.2.2.2.1 k59, Msg.keepC hHeld.2.2.2.2.2.2.2.2.2.2.2.2.2.2.1 k59, Msg.keepC hHeld.2.2.2.2.2.2.2.2.2.2.2.2.2.2.2.1 k59, Msg.keepC hHeld.2.2.2.2.2.2.2.2.2.2.2.2.2.2.2.2.1 k59, Msg.keepC hHeld.2.2.2.2.2.2.2.2.2.2.2.2.2.2.2.2.2.1 k59, Msg.keepC hHeld.2.2.2.2.2.2.2.2.2.2.2.2.2.2.2.2.2.2.1 k59, Msg.keepC hHeld.2.2.2.2.2.2.2.2.2.2.2.2.2.2.2.2.2.2.2.1 k59, Msg.keepC hHeld.2.2.2.2.2.2.2.2.2.2.2.2.2.2.2.2.2.2.2.2.1 k59, Msg.keepC hHeld.2.2.2.2.2.2.2.2.2.2.2.2.2.2.2.2.2.2.2.2.2.1 k59, Msg.keepC hHeld.2.2.2.2.2.2.2.2.2.2.2.2.2.2.2.2.2.2.2.2.2.2.1 k59, Msg.keepC hHeld.2.2.2.2.2.2.2.2.2.2.2.2.2.2.2.2.2.2.2.2.2.2.2.1 k59, Msg.keepC hHeld.2.2.2.2.2.2.2.2.2.2.2.2.2.2.2.2.2.2.2.2.2.2.2.2.1 k59, Msg.keepC hHeld.2.2.2.2.2.2.2.2.2.2.2.2.2.2.2.2.2.2.2.2.2.2.2.2.2 k59⟩) (fun hHeld => ?_)
      clear hK K k59
      try simp only [Act.put, List.setIfInBounds_toArray, List.set_cons_zero, List.set_cons_succ]
      refine wpAnyH_take (i := 4) (v := ?_) (by simp only [List.getElem?_toArray, List.getElem?_cons_succ, List.getElem?_cons_zero]; rfl) (by kernel_rfl) (by kernel_rfl) (by kernel_rfl) (fun _ _ _ h => h) (Or.inl ⟨by rfl, ?_⟩) (by assumption) ?_
      rotate_left
      · (intro w hSw; (try dsimp only at hSw); go_simp; try with_reducible rfl)
      try simp only [Act.put, List.setIfInBounds_toArray, List.set_cons_zero, List.set_cons_succ]
      refine wpAnyH_take (i := 5) (v := ?_) (by simp only [List.getElem?_toArray, List.getElem?_cons_succ, List.getElem?_cons_zero]; rfl) (by kernel_rfl) (by kernel_rfl) (by kernel_rfl) (fun _ _ _ h => h) (Or.inl ⟨by rfl, ?_⟩) (by assumption) ?_
      rotate_left
      · (intro w hSw; (try dsimp only at hSw); go_simp; try with_reducible rfl)
      try simp only [Act.put, List.setIfInBounds_toArray, List.set_cons_zero, List.set_cons_succ]
      refine wpAnyH_take (i := 6) (v := ?_) (by simp only [List.getElem?_toArray, List.getElem?_cons_succ, List.getElem?_cons_zero]; rfl) (by kernel_rfl) (by kernel_rfl) (by kernel_rfl) (fun _ _ _ h => h) (Or.inl ⟨by rfl, ?_⟩) (by assumption) ?_
      rotate_left
      · (intro w hSw; (try dsimp only at hSw); go_simp; try with_reducible rfl)
      try simp only [Act.put, List.setIfInBounds_toArray, List.set_cons_zero, List.set_cons_succ]
      refine wpAnyH_take (i := 8) (v := ?_) (by simp only [List.getElem?_toArray, List.getElem?_cons_succ, List.getElem?_cons_zero]; rfl) (by kernel_rfl) (by kernel_rfl) (by kernel_rfl) (fun _ _ _ h => h) (Or.inl ⟨by rfl, ?_⟩) (by assumption) ?_
      rotate_left
      · (intro w hSw; (try dsimp only at hSw); go_simp; try with_reducible rfl)
      try simp only [Act.put, List.setIfInBounds_toArray, List.set_cons_zero, List.set_cons_succ]
      refine wpAnyH_take (i := 11) (v := ?_) (by simp only [List.getElem?_toArray, List.getElem?_cons_succ, List.getElem?_cons_zero]; rfl) (by kernel_rfl) (by kernel_rfl) (by kernel_rfl) (fun _ _ _ h => h) (Or.inl ⟨by rfl, ?_⟩) (by assumption) ?_
      rotate_left
      · (intro w hSw; (try dsimp only at hSw); go_simp; try with_reducible rfl)
      try simp only [Act.put, List.setIfInBounds_toArray, List.set_cons_zero, List.set_cons_succ]
      refine wpAnyH_take (i := 12) (v := ?_) (by simp only [List.getElem?_toArray, List.getElem?_cons_succ, List.getElem?_cons_zero]; rfl) (by kernel_rfl) (by kernel_rfl) (by kernel_rfl) (fun _ _ _ h => h) (Or.inl ⟨by rfl, ?_⟩) (by assumption) ?_
      rotate_left
      · (intro w hSw; (try dsimp only at hSw); go_simp; try with_reducible rfl)
      try simp only [Act.put, List.setIfInBounds_toArray, List.set_cons_zero, List.set_cons_succ]
      refine wpAnyH_ready (rs := [7]) (by kernel_rfl) (by simp) ?_
      refine AllReadyH.cons (by simp only [List.getElem?_toArray, List.getElem?_cons_succ, List.getElem?_cons_zero]; rfl) (fun K hK => ?_) AllReadyH.nil
      go_simp
      go_at_call 12
      refine (copied_is MM.out _ hHeld.2.2.1).mono ?_
      rintro e v60 ⟨bB, dB, rfl, lB, -, k60⟩
      replace lA := (lA).below k60
      go_wp2_with fail
      refine hK.out _ _ (⟨bstep hHeld.1 k60, (hHeld.2.1).below k60, (hHeld.2.2.1).below k60, (hHeld.2.2.2.1).below k60, (hHeld.2.2.2.2.1).below k60, (hHeld.2.2.2.2.2.1).below k60, Msg.keepC hHeld.2.2.2.2.2.2.1 k60, Msg.keepC hHeld.2.2.2.2.2.2.2.1 k60, Msg.keepC hHeld.2.2.2.2.2.2.2.2.1 k60, Msg.keepC hHeld.2.2.2.2.2.2.2.2.2.1 k60, Msg.keepC hHeld.2.2.2.2.2.2.2.2.2.2.1 k60, Msg.keepC hHeld.2.2.2.2.2.2.2.2.2.2.2.1 k60, Msg.keepC hHeld.2.2.2.2.2.2.2.2.2.2.2.2.1 k60, Msg.keepC hHeld.2.2.2.2.2.2.2.2.2.2.2.2.2.1 k60, Msg.keepC hHeld.2.2.2.2.2.2.2.2.2.2.2.2.2.2.1 k60, Msg.keepC hHeld.2.2.2.2.2.2.2.2.2.2.2.2.2.2.2.1 k60, Msg.keepC hHeld.2.2.2.2.2.2.2.2.2.2.2.2.2.2.2.2.1 k60, Msg.keepC hHeld.2.2.2.2.2.2.2.2.2.2.2.2.2.2.2.2.2.1 k60, Msg.keepC hHeld.2.2.2.2.2.2.2.2.2.2.2.2.2.2.2.2.2.2.1 k60, Msg.keepC hHeld.2.2.2.2.2.2.2.2.2.2.2.2.2.2.2.2.2.2.2.1 k60, Msg.keepC hHeld.2.2.2.2.2.2.2.2.2.2.2.2.2.2.2.2.2.2.2.2.1 k60, Msg.keepC hHeld.2.2.2.2.2.2.2.2.2.2.2.2.2.2.2.2.2.2.2.2.2.1 k60, Msg.keepC hHeld.2.2.2.2.2.2.2.2.2.2.2.2.2.2.2.2.2.2.2.2.2.2.1 k60, Msg.keepC hHeld.2.2.2.2.2.2.2.2.2.2.2.2.2.2.2.2.2.2.2.2.2.2.2.1 k60, Msg.keepC hHeld.2.2.2.2.2.2.2.2.2.2.2.2.2.2.2.2.2.2.2.2.2.2.2.2.1 k60, Msg.keepC hHeld.2.2.2.2.2.2.2.2.2.2.2.2.2.2.2.2.2.2.2.2.2.2.2.2.2 k60⟩) (fun hHeld => ?_)
      clear hK K k60
      try simp only [Act.put, List.setIfInBounds_toArray, List.set_cons_zero, List.set_cons_succ]
      refine wpAnyH_ready (rs := [9]) (by kernel_rfl) (by simp) ?_
      refine AllReadyH.cons (by simp only [List.getElem?_toArray, List.getElem?_cons_succ, List.getElem?_cons_zero]; rfl) (fun K hK => ?_) AllReadyH.nil
      go_simp
      go_at_call 12
      refine (copied_is MX.out _ hHeld.2.2.2.1).mono ?_
      rintro e v61 ⟨bC, dC, rfl, lC, -, k61⟩
      replace lA := (lA).below k61
      replace lB := (lB).below k61
      go_wp2_with fail
      refine hK.out _ _ (⟨bstep hHeld.1 k61, (hHeld.2.1).below k61, (hHeld.2.2.1).below k61, (hHeld.2.2.2.1).below k61, (hHeld.2.2.2.2.1).below k61, (hHeld.2.2.2.2.2.1).below k61, Msg.keepC hHeld.2.2.2.2.2.2.1 k61, Msg.keepC hHeld.2.2.2.2.2.2.2.1 k61, Msg.keepC hHeld.2.2.2.2.2.2.2.2.1 k61, Msg.keepC hHeld.2.2.2.2.2.2.2.2.2.1 k61, Msg.keepC hHeld.2.2.2.2.2.2.2.2.2.2.1 k61, Msg.keepC hHeld.2.2.2.2.2.2.2.2.2.2.2.1 k61, Msg.keepC hHeld.2.2.2.2.2.2.2.2.2.2.2.2.1 k61, Msg.keepC hHeld.2.2.2.2.2.2.2.2.2.2.2.2.2.1 k61, Msg.keepC hHeld.2.2.2.2.2.2.2.2.2.2.2.2.2.2.1 k61, Msg.keepC hHeld.2.2.2.2.2.2.2.2.2.2.2.2.2.2.2.1 k61, Msg.keepC hHeld.2.2.2.2.2.2.2.2.2.2.2.2.2.2.2.2.1 k61, Msg.keepC hHeld.2.2.2.2.2.2.2.2.2.2.2.2.2.2.2.2.2.1 k61, Msg.keepC hHeld.2.2.2.2.2.2.2.2.2.2.2.2.2.2.2.2.2.2.1 k61, Msg.keepC hHeld.2.2.2.2.2.2.2.2.2.2.2.2.2.2.2.2.2.2.2.1 k61, Msg.keepC hHeld.2.2.2.2.2.2.2.2.2.2.2.2.2.2.2.2.2.2.2.2.1 k61, Msg.keepC hHeld.2.2.2.2.2.2.2.2.2.2.2.2.2.2.2.2.2.2.2.2.2.1 k61, Msg.keepC hHeld.2.2.2.2.2.2.2.2.2.2.2.2.2.2.2.2.2.2.2.2.2.2.1 k61, Msg.keepC hHeld.2.2.2.2.2.2.2.2.2.2.2.2.2.2.2.2.2.2.2.2.2.2.2.1 k61, Msg.keepC hHeld.2.2.2.2.2.2.2.2.2.2.2.2.2.2.2.2.2.2.2.2.2.2.2.2.1 k61, Msg.keepC hHeld.2.2.2.2.2.2.2.2.2.2.2.2.2.2.2.2.2.2.2.2.2.2.2.2.2 k61⟩) (fun hHeld => ?_)
      clear hK K k61
      try simp only [Act.put, List.setIfInBounds_toArray, List.set_cons_zero, List.set_cons_succ]
      refine wpAnyH_ready (rs := [10]) (by kernel_rfl) (by simp) ?_
      refine AllReadyH.cons (by simp only [List.getElem?_toArray, List.getElem?_cons_succ, List.getElem?_cons_zero]; rfl) (fun K hK => ?_) AllReadyH.nil
      go_simp
      go_at_call 15
      refine (Same_is true hq.out _ lB lC mlen).mono ?_
      rintro e v62 ⟨rfl, k62⟩
      replace lA := (lA).below k62
      replace lB := (lB).below k62
      replace lC := (lC).below k62
      go_wp2_with fail
      refine hK.out _ _ (⟨bstep hHeld.1 k62, (hHeld.2.1).below k62, (hHeld.2.2.1).below k62, (hHeld.2.2.2.1).below k62, (hHeld.2.2.2.2.1).below k62, (hHeld.2.2.2.2.2.1).below k62, Msg.keepC hHeld.2.2.2.2.2.2.1 k62, Msg.keepC hHeld.2.2.2.2.2.2.2.1 k62, Msg.keepC hHeld.2.2.2.2.2.2.2.2.1 k62, Msg.keepC hHeld.2.2.2.2.2.2.2.2.2.1 k62, Msg.keepC hHeld.2.2.2.2.2.2.2.2.2.2.1 k62, Msg.keepC hHeld.2.2.2.2.2.2.2.2.2.2.2.1 k62, Msg.keepC hHeld.2.2.2.2.2.2.2.2.2.2.2.2.1 k62, Msg.keepC hHeld.2.2.2.2.2.2.2.2.2.2.2.2.2.1 k62, Msg.keepC hHeld.2.2.2.2.2.2.2.2.2.2.2.2.2.2.1 k62, Msg.keepC hHeld.2.2.2.2.2.2.2.2.2.2.2.2.2.2.2.1 k62, Msg.keepC hHeld.2.2.2.2.2.2.2.2.2.2.2.2.2.2.2.2.1 k62, Msg.keepC hHeld.2.2.2.2.2.2.2.2.2.2.2.2.2.2.2.2.2.1 k62, Msg.keepC hHeld.2.2.2.2.2.2.2.2.2.2.2.2.2.2.2.2.2.2.1 k62, Msg.keepC hHeld.2.2.2.2.2.2.2.2.2.2.2.2.2.2.2.2.2.2.2.1 k62, Msg.keepC hHeld.2.2.2.2.2.2.2.2.2.2.2.2.2.2.2.2.2.2.2.2.1 k62, Msg.keepC hHeld.2.2.2.2.2.2.2.2.2.2.2.2.2.2.2.2.2.2.2.2.2.1 k62, Msg.keepC hHeld.2.2.2.2.2.2.2.2.2.2.2.2.2.2.2.2.2.2.2.2.2.2.1 k62, Msg.keepC hHeld.2.2.2.2.2.2.2.2.2.2.2.2.2.2.2.2.2.2.2.2.2.2.2.1 k62, Msg.keepC hHeld.2.2.2.2.2.2.2.2.2.2.2.2.2.2.2.2.2.2.2.2.2.2.2.2.1 k62, Msg.keepC hHeld.2.2.2.2.2.2.2.2.2.2.2.2.2.2.2.2.2.2.2.2.2.2.2.2.2 k62⟩) (fun hHeld => ?_)
      clear hK K k62
      try simp only [Act.put, List.setIfInBounds_toArray, List.set_cons_zero, List.set_cons_succ]
      refine wpAnyH_ready (rs := [13]) (by kernel_rfl) (by simp) ?_
      refine AllReadyH.cons (by simp only [List.getElem?_toArray, List.getElem?_cons_succ, List.getElem?_cons_zero]; rfl) (fun K hK => ?_) AllReadyH.nil
      go_simp
      go_at_call 16
      refine (same_is true hq.out _ hHeld.2.2.1 hHeld.2.2.2.1 mlen).mono ?_
      rintro e v63 ⟨rfl, k63⟩
      replace lA := (lA).below k63
      replace lB := (lB).below k63
      replace lC := (lC).below k63
      go_wp2_with fail
      refine hK.out _ _ (⟨bstep hHeld.1 k63, (hHeld.2.1).below k63, (hHeld.2.2.1).below k63, (hHeld.2.2.2.1).below k63, (hHeld.2.2.2.2.1).below k63, (hHeld.2.2.2.2.2.1).below k63, Msg.keepC hHeld.2.2.2.2.2.2.1 k63, Msg.keepC hHeld.2.2.2.2.2.2.2.1 k63, Msg.keepC hHeld.2.2.2.2.2.2.2.2.1 k63, Msg.keepC hHeld.2.2.2.2.2.2.2.2.2.1 k63, Msg.keepC hHeld.2.2.2.2.2.2.2.2.2.2.1 k63, Msg.keepC hHeld.2.2.2.2.2.2.2.2.2.2.2.1 k63, Msg.keepC hHeld.2.2.2.2.2.2.2.2.2.2.2.2.1 k63, Msg.keepC hHeld.2.2.2.2.2.2.2.2.2.2.2.2.2.1 k63, Msg.keepC hHeld.2.2.2.2.2.2.2.2.2.2.2.2.2.2.1 k63, Msg.keepC hHeld.2.2.2.2.2.2.2.2.2.2.2.2.2.2.2.1 k63, Msg.keepC hHeld.2.2.2.2.2.2.2.2.2.2.2.2.2.2.2.2.1 k63, Msg.keepC hHeld.2.2.2.2.2.2.2.2.2.2.2.2.2.2.2.2.2.1 k63, Msg.keepC hHeld.2.2.2.2.2.2.2.2.2.2.2.2.2.2.2.2.2.2.1 k63, Msg.keepC hHeld.2.2.2.2.2.2.2.2.2.2.2.2.2.2.2.2.2.2.2.1 k63, Msg.keepC hHeld.2.2.2.2.2.2.2.2.2.2.2.2.2.2.2.2.2.2.2.2.1 k63, Msg.keepC hHeld.2.2.2.2.2.2.2.2.2.2.2.2.2.2.2.2.2.2.2.2.2.1 k63, Msg.keepC hHeld.2.2.2.2.2.2.2.2.2.2.2.2.2.2.2.2.2.2.2.2.2.2.1 k63, Msg.keepC hHeld.2.2.2.2.2.2.2.2.2.2.2.2.2.2.2.2.2.2.2.2.2.2.2.1 k63, Msg.keepC hHeld.2.2.2.2.2.2.2.2.2.2.2.2.2.2.2.2.2.2.2.2.2.2.2.2.1 k63, Msg.keepC hHeld.2.2.2.2.2.2.2.2.2.2.2.2.2.2.2.2.2.2.2.2.2.2.2.2.2 k63⟩) (fun hHeld => ?_)
      clear hK K k63
      try simp only [Act.put, List.setIfInBounds_toArray, List.set_cons_zero, List.set_cons_succ]
      refine wpAnyH_take (i := 14) (v := ?_) (by simp only [List.getElem?_toArray, List.getElem?_cons_succ, List.getElem?_cons_zero]; rfl) (by kernel_rfl) (by kernel_rfl) (by kernel_rfl) (fun _ _ _ h => h) (Or.inl ⟨by rfl, ?_⟩) (by assumption) ?_
      rotate_left
      · (intro w hSw; (try dsimp only at hSw); go_simp; try with_reducible rfl)
      try simp only [Act.put, List.setIfInBounds_toArray, List.set_cons_zero, List.set_cons_succ]
      refine wpAnyH_take (i := 15) (v := ?_) (by simp only [List.getElem?_toArray, List.getElem?_cons_succ, List.getElem?_cons_zero]; rfl) (by kernel_rfl) (by kernel_rfl) (by kernel_rfl) (fun _ _ _ h => h) (Or.inl ⟨by rfl, ?_⟩) (by assumption) ?_
      rotate_left
      · (intro w hSw; (try dsimp only at hSw); go_simp; try with_reducible rfl)
      try simp only [Act.put, List.setIfInBounds_toArray, List.set_cons_zero, List.set_cons_succ]
      refine wpAnyH_take (i := 16) (v := ?_) (by simp only [List.getElem?_toArray, List.getElem?_cons_succ, List.getElem?_cons_zero]; rfl) (by kernel_rfl) (by kernel_rfl) (by kernel_rfl) (fun _ _ _ h => h) (Or.inl ⟨by rfl, ?_⟩) (by assumption) ?_
      rotate_left
      · (intro w hSw; (try dsimp only at hSw); go_simp; try with_reducible rfl)
      try simp only [Act.put, List.setIfInBounds_toArray, List.set_cons_zero, List.set_cons_succ]
      refine wpAnyH_take (i := 17) (v := ?_) (by simp only [List.getElem?_toArray, List.getElem?_cons_succ, List.getElem?_cons_zero]; rfl) (by kernel_rfl) (by kernel_rfl) (by kernel_rfl) (fun _ _ _ h => h) (Or.inl ⟨by rfl, ?_⟩) (by assumption) ?_
      rotate_left
      · (intro w hSw; (try dsimp only at hSw); go_simp; try with_reducible rfl)
      try simp only [Act.put, List.setIfInBounds_toArray, List.set_cons_zero, List.set_cons_succ]
      refine wpAnyH_take (i := 19) (v := ?_) (by simp only [List.getElem?_toArray, List.getElem?_cons_succ, List.getElem?_cons_zero]; rfl) (by kernel_rfl) (by kernel_rfl) (by kernel_rfl) (fun _ _ _ h => h) (Or.inl ⟨by rfl, ?_⟩) (by assumption) ?_
      rotate_left
      · (intro w hSw; (try dsimp only at hSw); go_simp; try with_reducible rfl)
      try simp only [Act.put, List.setIfInBounds_toArray, List.set_cons_zero, List.set_cons_succ]
      refine wpAnyH_ready (rs := [18]) (by kernel_rfl) (by simp) ?_
      refine AllReadyH.cons (by simp only [List.getElem?_toArray, List.getElem?_cons_succ, List.getElem?_cons_zero]; rfl) (fun K hK => ?_) AllReadyH.nil
      go_simp
      go_at_call 12
      refine (copied_is MM.out _ hHeld.2.2.1).mono ?_
      rintro e v64 ⟨bD, dD, rfl, lD, -, k64⟩
      replace lA := (lA).below k64
      replace lB := (lB).below k64
      replace lC := (lC).below k64
      go_wp2_with fail
      refine hK.out _ _ (⟨bstep hHeld.1 k64, (hHeld.2.1).below k64, (hHeld.2.2.1).below k64, (hHeld.2.2.2.1).below k64, (hHeld.2.2.2.2.1).below k64, (hHeld.2.2.2.2.2.1).below k64, Msg.keepC hHeld.2.2.2.2.2.2.1 k64, Msg.keepC hHeld.2.2.2.2.2.2.2.1 k64, Msg.keepC hHeld.2.2.2.2.2.2.2.2.1 k64, Msg.keepC hHeld.2.2.2.2.2.2.2.2.2.1 k64, Msg.keepC hHeld.2.2.2.2.2.2.2.2.2.2.1 k64, Msg.keepC hHeld.2.2.2.2.2.2.2.2.2.2.2.1 k64, Msg.keepC hHeld.2.2.2.2.2.2.2.2.2.2.2.2.1 k64, Msg.keepC hHeld.2.2.2.2.2.2.2.2.2.2.2.2.2.1 k64, Msg.keepC hHeld.2.2.2.2.2.2.2.2.2.2.2.2.2.2.1 k64, Msg.keepC hHeld.2.2.2.2.2.2.2.2.2.2.2.2.2.2.2.1 k64, Msg.keepC hHeld.2.2.2.2.2.2.2.2.2.2.2.2.2.2.2.2.1 k64, Msg.keepC hHeld.2.2.2.2.2.2.2.2.2.2.2.2.2.2.2.2.2.1 k64, Msg.keepC hHeld.2.2.2.2.2.2.2.2.2.2.2.2.2.2.2.2.2.2.1 k64, Msg.keepC hHeld.2.2.2.2.2.2.2.2.2.2.2.2.2.2.2.2.2.2.2.1 k64, Msg.keepC hHeld.2.2.2.2.2.2.2.2.2.2.2.2.2.2.2.2.2.2.2.2.1 k64, Msg.keepC hHeld.2.2.2.2.2.2.2.2.2.2.2.2.2.2.2.2.2.2.2.2.2.1 k64, Msg.keepC hHeld.2.2.2.2.2.2.2.2.2.2.2.2.2.2.2.2.2.2.2.2.2.2.1 k64, Msg.keepC hHeld.2.2.2.2.2.2.2.2.2.2.2.2.2.2.2.2.2.2.2.2.2.2.2.1 k64, Msg.keepC hHeld.2.2.2.2.2.2.2.2.2.2.2.2.2.2.2.2.2.2.2.2.2.2.2.2.1 k64, Msg.keepC hHeld.2.2.2.2.2.2.2.2.2.2.2.2.2.2.2.2.2.2.2.2.2.2.2.2.2 k64⟩) (fun hHeld => ?_)
      clear hK K k64
      try simp only [Act.put, List.setIfInBounds_toArray, List.set_cons_zero, List.set_cons_succ]
      refine wpAnyH_ready (rs := [20]) (by kernel_rfl) (by simp) ?_
      refine AllReadyH.cons (by simp only [List.getElem?_toArray, List.getElem?_cons_succ, List.getElem?_cons_zero]; rfl) (fun K hK => ?_) AllReadyH.nil
      go_simp
      go_at_call 12
      refine (copied_is MM.out _ hHeld.2.2.1).mono ?_
      rintro e v65 ⟨bE, dE, rfl, lE, -, k65⟩
      replace lA := (lA).below k65
      replace lB := (lB).below k65
      replace lC := (lC).below k65
      replace lD := (lD).below k65
      go_wp2_with fail
      refine hK.out _ _ (⟨bstep hHeld.1 k65, (hHeld.2.1).below k65, (hHeld.2.2.1).below k65, (hHeld.2.2.2.1).below k65, (hHeld.2.2.2.2.1).below k65, (hHeld.2.2.2.2.2.1).below k65, Msg.keepC hHeld.2.2.2.2.2.2.1 k65, Msg.keepC hHeld.2.2.2.2.2.2.2.1 k65, Msg.keepC hHeld.2.2.2.2.2.2.2.2.1 k65, Msg.keepC hHeld.2.2.2.2.2.2.2.2.2.1 k65, Msg.keepC hHeld.2.2.2.2.2.2.2.2.2.2.1 k65, Msg.keepC hHeld.2.2.2.2.2.2.2.2.2.2.2.1 k65, Msg.keepC hHeld.2.2.2.2.2.2.2.2.2.2.2.2.1 k65, Msg.keepC hHeld.2.2.2.2.2.2.2.2.2.2.2.2.2.1 k65, Msg.keepC hHeld.2.2.2.2.2.2.2.2.2.2.2.2.2.2.1 k65, Msg.keepC hHeld.2.2.2.2.2.2.2.2.2.2.2.2.2.2.2.1 k65, Msg.keepC hHeld.2.2.2.2.2.2.2.2.2.2.2.2.2.2.2.2.1 k65, Msg.keepC hHeld.2.2.2.2.2.2.2.2.2.2.2.2.2.2.2.2.2.1 k65, Msg.keepC hHeld.2.2.2.2.2.2.2.2.2.2.2.2.2.2.2.2.2.2.1 k65, Msg.keepC hHeld.2.2.2.2.2.2.2.2.2.2.2.2.2.2.2.2.2.2.2.1 k65, Msg.keepC hHeld.2.2.2.2.2.2.2.2.2.2.2.2.2.2.2.2.2.2.2.2.1 k65, Msg.keepC hHeld.2.2.2.2.2.2.2.2.2.2.2.2.2.2.2.2.2.2.2.2.2.1 k65, Msg.keepC hHeld.2.2.2.2.2.2.2.2.2.2.2.2.2.2.2.2.2.2.2.2.2.2.1 k65, Msg.keepC hHeld.2.2.2.2.2.2.2.2.2.2.2.2.2.2.2.2.2.2.2.2.2.2.2.1 k65, Msg.keepC hHeld.2.2.2.2.2.2.2.2.2.2.2.2.2.2.2.2.2.2.2.2.2.2.2.2.1 k65, Msg.keepC hHeld.2.2.2.2.2.2.2.2.2.2.2.2.2.2.2.2.2.2.2.2.2.2.2.2.2 k65⟩) (fun hHeld => ?_)
      clear hK K k65
      try simp only [Act.put, List.setIfInBounds_toArray, List.set_cons_zero, List.set_cons_succ]
      refine wpAnyH_ready (rs := [21]) (by kernel_rfl) (by simp) ?_
      refine AllReadyH.cons (by simp only [List.getElem?_toArray, List.getElem?_cons_succ, List.getElem?_cons_zero]; rfl) (fun K hK => ?_) AllReadyH.nil
      go_simp
      go_at_call 15
      refine (Same_is true (by simp) _ lD lE mlen).mono ?_
      rintro e v66 ⟨rfl, k66⟩
      replace lA := (lA).below k66
      replace lB := (lB).below k66
      replace lC := (lC).below k66
      replace lD := (lD).below k66
      replace lE := (lE).below k66
      go_wp2_with fail
      refine hK.out _ _ (⟨bstep hHeld.1 k66, (hHeld.2.1).below k66, (hHeld.2.2.1).below k66, (hHeld.2.2.2.1).below k66, (hHeld.2.2.2.2.1).below k66, (hHeld.2.2.2.2.2.1).below k66, Msg.keepC hHeld.2.2.2.2.2.2.1 k66, Msg.keepC hHeld.2.2.2.2.2.2.2.1 k66, Msg.keepC hHeld.2.2.2.2.2.2.2.2.1 k66, Msg.keepC hHeld.2.2.2.2.2.2.2.2.2.1 k66, Msg.keepC hHeld.2.2.2.2.2.2.2.2.2.2.1 k66, Msg.keepC hHeld.2.2.2.2.2.2.2.2.2.2.2.1 k66, Msg.keepC hHeld.2.2.2.2.2.2.2.2.2.2.2.2.1 k66, Msg.keepC hHeld.2.2.2.2.2.2.2.2.2.2.2.2.2.1 k66, Msg.keepC hHeld.2.2.2.2.2.2.2.2.2.2.2.2.2.2.1 k66, Msg.keepC hHeld.2.2.2.2.2.2.2.2.2.2.2.2.2.2.2.1 k66, Msg.keepC hHeld.2.2.2.2.2.2.2.2.2.2.2.2.2.2.2.2.1 k66, Msg.keepC hHeld.2.2.2.2.2.2.2.2.2.2.2.2.2.2.2.2.2.1 k66, Msg.keepC hHeld.2.2.2.2.2.2.2.2.2.2.2.2.2.2.2.2.2.2.1 k66, Msg.keepC hHeld.2.2.2.2.2.2.2.2.2.2.2.2.2.2.2.2.2.2.2.1 k66, Msg.keepC hHeld.2.2.2.2.2.2.2.2.2.2.2.2.2.2.2.2.2.2.2.2.1 k66, Msg.keepC hHeld.2.2.2.2.2.2.2.2.2.2.2.2.2.2.2.2.2.2.2.2.2.1 k66, Msg.keepC hHeld.2.2.2.2.2.2.2.2.2.2.2.2.2.2.2.2.2.2.2.2.2.2.1 k66, Msg.keepC hHeld.2.2.2.2.2.2.2.2.2.2.2.2.2.2.2.2.2.2.2.2.2.2.2.1 k66, Msg.keepC hHeld.2.2.2.2.2.2.2.2.2.2.2.2.2.2.2.2.2.2.2.2.2.2.2.2.1 k66, Msg.keepC hHeld.2.2.2.2.2.2.2.2.2.2.2.2.2.2.2.2.2.2.2.2.2.2.2.2.2 k66⟩) (fun hHeld => ?_)
      clear hK K k66
      try simp only [Act.put, List.setIfInBounds_toArray, List.set_cons_zero, List.set_cons_succ]
      refine wpAnyH_take (i := 22) (v := ?_) (by simp only [List.getElem?_toArray, List.getElem?_cons_succ, List.getElem?_cons_zero]; rfl) (by kernel_rfl) (by kernel_rfl) (by kernel_rfl) (fun _ _ _ h => h) (Or.inl ⟨by rfl, ?_⟩) (by assumption) ?_
      rotate_left
      · (intro w hSw; (try dsimp only at hSw); go_simp; try with_reducible rfl)
      try simp only [Act.put, List.setIfInBounds_toArray, List.set_cons_zero, List.set_cons_succ]
      refine wpAnyH_take (i := 23) (v := ?_) (by simp only [List.getElem?_toArray, List.getElem?_cons_succ, List.getElem?_cons_zero]; rfl) (by kernel_rfl) (by kernel_rfl) (by kernel_rfl) (fun _ _ _ h => h) (Or.inl ⟨by rfl, ?_⟩) (by assumption) ?_
      rotate_left
      · (intro w hSw; (try dsimp only at hSw); go_simp; try with_reducible rfl)
      try simp only [Act.put, List.setIfInBounds_toArray, List.set_cons_zero, List.set_cons_succ]
      refine wpAnyH_ready (rs := [24]) (by kernel_rfl) (by simp) ?_
      refine AllReadyH.cons (by simp only [List.getElem?_toArray, List.getElem?_cons_succ, List.getElem?_cons_zero]; rfl) (fun K hK => ?_) AllReadyH.nil
      go_simp
      go_at_call 9
      refine (works_any _ hHeld.2.1).mono ?_
      rintro e v67 ⟨rfl, k67⟩
      replace lA := (lA).below k67
      replace lB := (lB).below k67
      replace lC := (lC).below k67
      replace lD := (lD).below k67
      replace lE := (lE).below k67
      go_wp2_with fail
      refine hK.out _ _ (⟨bstep hHeld.1 k67, (hHeld.2.1).below k67, (hHeld.2.2.1).below k67, (hHeld.2.2.2.1).below k67, (hHeld.2.2.2.2.1).below k67, (hHeld.2.2.2.2.2.1).below k67, Msg.keepC hHeld.2.2.2.2.2.2.1 k67, Msg.keepC hHeld.2.2.2.2.2.2.2.1 k67, Msg.keepC hHeld.2.2.2.2.2.2.2.2.1 k67, Msg.keepC hHeld.2.2.2.2.2.2.2.2.2.1 k67, Msg.keepC hHeld.2.2.2.2.2.2.2.2.2.2.1 k67, Msg.keepC hHeld.2.2.2.2.2.2.2.2.2.2.2.1 k67, Msg.keepC hHeld.2.2.2.2.2.2.2.2.2.2.2.2.1 k67, Msg.keepC hHeld.2.2.2.2.2.2.2.2.2.2.2.2.2.1 k67, Msg.keepC hHeld.2.2.2.2.2.2.2.2.2.2.2.2.2.2.1 k67, Msg.keepC hHeld.2.2.2.2.2.2.2.2.2.2.2.2.2.2.2.1 k67, Msg.keepC hHeld.2.2.2.2.2.2.2.2.2.2.2.2.2.2.2.2.1 k67, Msg.keepC hHeld.2.2.2.2.2.2.2.2.2.2.2.2.2.2.2.2.2.1 k67, Msg.keepC hHeld.2.2.2.2.2.2.2.2.2.2.2.2.2.2.2.2.2.2.1 k67, Msg.keepC hHeld.2.2.2.2.2.2.2.2.2.2.2.2.2.2.2.2.2.2.2.1 k67, Msg.keepC hHeld.2.2.2.2.2.2.2.2.2.2.2.2.2.2.2.2.2.2.2.2.1 k67, Msg.keepC hHeld.2.2.2.2.2.2.2.2.2.2.2.2.2.2.2.2.2.2.2.2.2.1 k67, Msg.keepC hHeld.2.2.2.2.2.2.2.2.2.2.2.2.2.2.2.2.2.2.2.2.2.2.1 k67, Msg.keepC hHeld.2.2.2.2.2.2.2.2.2.2.2.2.2.2.2.2.2.2.2.2.2.2.2.1 k67, Msg.keepC hHeld.2.2.2.2.2.2.2.2.2.2.2.2.2.2.2.2.2.2.2.2.2.2.2.2.1 k67, Msg.keepC hHeld.2.2.2.2.2.2.2.2.2.2.2.2.2.2.2.2.2.2.2.2.2.2.2.2.2 k67⟩) (fun hHeld => ?_)
      clear hK K k67
      try simp only [Act.put, List.setIfInBounds_toArray, List.set_cons_zero, List.set_cons_succ]
      refine wpAnyH_take (i := 25) (v := ?_) (by simp only [List.getElem?_toArray, List.getElem?_cons_succ, List.getElem?_cons_zero]; rfl) (by kernel_rfl) (by kernel_rfl) (by kernel_rfl) (fun _ _ _ h => h) (Or.inl ⟨by rfl, ?_⟩) (by assumption) ?_
      rotate_left
      · (intro w hSw; (try dsimp only at hSw); go_simp; try with_reducible rfl)
      try simp only [Act.put, List.setIfInBounds_toArray, List.set_cons_zero, List.set_cons_succ]
      refine wpAnyH_take (i := 26) (v := ?_) (by simp only [List.getElem?_toArray, List.getElem?_cons_succ, List.getElem?_cons_zero]; rfl) (by kernel_rfl) (by kernel_rfl) (by kernel_rfl) (fun _ _ _ h => h) (Or.inl ⟨by rfl, ?_⟩) (by assumption) ?_
      rotate_left
      · (intro w hSw; (try dsimp only at hSw); go_simp; try with_reducible rfl)
      try simp only [Act.put, List.setIfInBounds_toArray, List.set_cons_zero, List.set_cons_succ]
      refine wpAnyH_done (by kernel_rfl) ?_ _
      refine NoPanic.normal ?_
      clear hb tab lm lx bm bx x0 x1 x2 x3 x4 x5 x6 x7 x8 x9 y0 y1 y2 y3 y4 y5 y6 y7 y8 y9
      obtain ⟨hb, tab, lm, lx, bm, bx, x0, x1, x2, x3, x4, x5, x6, x7, x8, x9, y0, y1, y2, y3, y4, y5, y6, y7, y8, y9⟩ := hHeld
      replace tab := Lib.hid tab
      replace lm := Lib.hid lm
      replace lx := Lib.hid lx
      replace bm := Lib.hid bm
      replace bx := Lib.hid bx
      go_wp2
      go_ret
      exact ⟨rfl, hb⟩

end MsgTells
end Go.Proofs.YtcfimfoccbaepaaDoor
