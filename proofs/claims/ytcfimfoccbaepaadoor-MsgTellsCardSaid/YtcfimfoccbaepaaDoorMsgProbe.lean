/- the laws' probe in plain words. -/
import Derived.Test.YtcfimfoccbaepaaDoorMsgEq
namespace Go.Proofs.YtcfimfoccbaepaaDoor
namespace Msg
open Go.RowKit Go.Proofs.YtcfimfoccbaepaaDoor.Mark Go.Proofs.YtcfimfoccbaepaaDoor.Num Go.Proofs.YtcfimfoccbaepaaDoor.Wire

def probe : G := ⟨2, [49], [49, 46, 50], [], 1, [], 0, 0, 0, []⟩
theorem may_probe : mayM probe = true := by decide +kernel
theorem may_zero : mayM zeroG = false := by decide +kernel
theorem read_probe : readG (bodyL probe) = (probe, true) := by decide +kernel
theorem enc_probe : encR probe = (Frame.putL (bodyL probe), 0) := by unfold encR; rw [if_pos may_probe]
theorem len_probe : (bodyL probe).length ≤ 1048576 := by decide +kernel
theorem len_put : (Frame.putL (bodyL probe)).length ≤ 1000 := by rw [Frame.putL_length]; decide +kernel
theorem dec_probe : decG (Frame.putL (bodyL probe)) = (probe, 0) := by
  have h := Frame.cut_put (bodyL probe) [] len_probe
  rw [List.append_nil] at h
  unfold decG
  have := len_put
  rw [if_neg (by omega), h, if_neg (by simp)]
  simp only [read_probe, may_probe, and_self, if_true]
theorem dec_more : decG (Frame.putL (bodyL probe) ++ [120]) = (zeroG, 8) := by
  have h := Frame.cut_put (bodyL probe) [120] len_probe
  unfold decG
  have := len_put
  rw [if_neg (by rw [List.length_append, List.length_singleton]; omega), h, if_neg (by simp), if_neg (by simp)]
theorem probe_ok : (G.mk 2 [49] [49, 46, 50] [] 1 [] 0 0 0 []).Mod := by
  refine ⟨?_, by decide, by decide⟩
  constructor <;> first | (intro m hm; cases hm; done) | decide
theorem zero_ok : (G.mk 0 [] [] [] 0 [] 0 0 0 []).Mod := by
  refine ⟨?_, by decide, by decide⟩
  constructor <;> first | (intro m hm; cases hm; done) | decide
theorem enc_w (W : World) (h : Crc.Tab W) : Calls Tryd.prog 11 #[.agg #[.int .u8 2, .string ⟨#[49]⟩, .string ⟨#[49, 46, 50]⟩, .string ⟨#[]⟩, .int .u64 1, .slice none 0 0, .int .u64 0, .int .i64 0, .int .i64 0, .string ⟨#[]⟩]] W fun e w' => e = .returned (.tuple #[.string ⟨(Frame.putL (bodyL probe)).toArray⟩, .int .i64 0]) ∧ Below W.heap.size W w' := by
  have r := encode_any 2 [49] [49, 46, 50] [] 1 [] 0 0 0 [] none 0 W probe_ok (Lies.nil _ _) h
  rw [show (G.mk 2 [49] [49, 46, 50] [] 1 [] 0 0 0 []) = probe from rfl, enc_probe] at r
  exact r
theorem dec_w (W : World) (h : Crc.Tab W) : Calls Tryd.prog 17 #[.string ⟨(Frame.putL (bodyL probe)).toArray⟩] W fun e w' => ∃ a c, e = .returned (.tuple #[.agg #[.int .u8 2, .string ⟨#[49]⟩, .string ⟨#[49, 46, 50]⟩, .string ⟨#[]⟩, .int .u64 1, .slice a 0 c, .int .u64 0, .int .i64 0, .int .i64 0, .string ⟨#[]⟩], .int .i64 0]) ∧ Lies w' a ([] : List M).length [] ∧ Below W.heap.size W w' := by
  have r := decode_any (Frame.putL (bodyL probe)) W (by have := len_put; omega) h
  rw [dec_probe] at r
  exact r
theorem dec2_w (W : World) (h : Crc.Tab W) : Calls Tryd.prog 17 #[.string ⟨((Frame.putL (bodyL probe)) ++ [120]).toArray⟩] W fun e w' => ∃ a c, e = .returned (.tuple #[.agg #[.int .u8 0, .string ⟨#[]⟩, .string ⟨#[]⟩, .string ⟨#[]⟩, .int .u64 0, .slice a 0 c, .int .u64 0, .int .i64 0, .int .i64 0, .string ⟨#[]⟩], .int .i64 8]) ∧ Lies w' a ([] : List M).length [] ∧ Below W.heap.size W w' := by
  have r := decode_any ((Frame.putL (bodyL probe)) ++ [120]) W (by have := len_put; rw [List.length_append, List.length_singleton]; omega) h
  rw [dec_more] at r
  exact r
theorem same_w (W : World) (a : Option Addr) (c : Nat) (h : Lies W a ([] : List M).length []) : Calls Tryd.prog 15 #[.agg #[.int .u8 2, .string ⟨#[49]⟩, .string ⟨#[49, 46, 50]⟩, .string ⟨#[]⟩, .int .u64 1, .slice none 0 0, .int .u64 0, .int .i64 0, .int .i64 0, .string ⟨#[]⟩], .agg #[.int .u8 2, .string ⟨#[49]⟩, .string ⟨#[49, 46, 50]⟩, .string ⟨#[]⟩, .int .u64 1, .slice a 0 c, .int .u64 0, .int .i64 0, .int .i64 0, .string ⟨#[]⟩]] W fun e w' => e = .returned (.bool true) ∧ Below W.heap.size W w' := by
  have r := Same_any 2 [49] [49, 46, 50] [] 1 [] 0 0 0 [] none 0 2 [49] [49, 46, 50] [] 1 [] 0 0 0 [] a c W (Lies.nil _ _) h (by decide)
  rw [decide_eq_true rfl] at r
  exact r
theorem mayp_w (W : World) : Calls Tryd.prog 14 #[.agg #[.int .u8 2, .string ⟨#[49]⟩, .string ⟨#[49, 46, 50]⟩, .string ⟨#[]⟩, .int .u64 1, .slice none 0 0, .int .u64 0, .int .i64 0, .int .i64 0, .string ⟨#[]⟩]] W fun e w' => e = .returned (.bool true) ∧ Below W.heap.size W w' := by
  have r := may_any 2 [49] [49, 46, 50] [] 1 [] 0 0 0 [] none 0 W probe_ok (Lies.nil _ _)
  rw [show (G.mk 2 [49] [49, 46, 50] [] 1 [] 0 0 0 []) = probe from rfl, may_probe] at r
  exact r
theorem mayz_w (W : World) : Calls Tryd.prog 14 #[.agg #[.int .u8 0, .string ⟨#[]⟩, .string ⟨#[]⟩, .string ⟨#[]⟩, .int .u64 0, .slice none 0 0, .int .u64 0, .int .i64 0, .int .i64 0, .string ⟨#[]⟩]] W fun e w' => e = .returned (.bool false) ∧ Below W.heap.size W w' := by
  have r := may_any 0 [] [] [] 0 [] 0 0 0 [] none 0 W zero_ok (Lies.nil _ _)
  rw [show (G.mk 0 [] [] [] 0 [] 0 0 0 []) = zeroG from rfl, may_zero] at r
  exact r
theorem add_x (l : List UInt8) : (⟨l.toArray⟩ : ByteArray) ++ ⟨#[120]⟩ = ⟨(l ++ [120]).toArray⟩ := by
  rw [ByteArray.ext_iff]; simp

set_option maxRecDepth 100000 in
set_option maxHeartbeats 8000000 in
theorem works_any (w : World) (ht : Crc.Tab w) : Calls Tryd.prog 9 #[] w fun e w' => e = .returned (.bool true) ∧ Below w.heap.size w w' := by
  have hb := balloc (Below.refl w.heap.size w) (.cells #[.int .u8 2, .string ⟨#[49]⟩, .string ⟨#[49, 46, 50]⟩, .string ⟨#[]⟩, .int .u64 1, .slice none 0 0, .int .u64 0, .int .i64 0, .int .i64 0, .string ⟨#[]⟩] 27)
  have tab := Lib.hid (ht.below (balloc (Below.refl w.heap.size w) (.cells #[.int .u8 2, .string ⟨#[49]⟩, .string ⟨#[49, 46, 50]⟩, .string ⟨#[]⟩, .int .u64 1, .slice none 0 0, .int .u64 0, .int .i64 0, .int .i64 0, .string ⟨#[]⟩] 27)))
  have bx : Hid (Box (w.alloc (.cells #[.int .u8 2, .string ⟨#[49]⟩, .string ⟨#[49, 46, 50]⟩, .string ⟨#[]⟩, .int .u64 1, .slice none 0 0, .int .u64 0, .int .i64 0, .int .i64 0, .string ⟨#[]⟩] 27)) w.heap.size #[.int .u8 2, .string ⟨#[49]⟩, .string ⟨#[49, 46, 50]⟩, .string ⟨#[]⟩, .int .u64 1, .slice none 0 0, .int .u64 0, .int .i64 0, .int .i64 0, .string ⟨#[]⟩]) := Lib.hid (Box.new w _ _)
  clear ht
  go_enter Tryd.func9, Tryd.ntmps9
  go_wp2_with fail
  refine (enc_w _ tab.out).mono ?_
  rintro e v1 ⟨rfl, k1⟩
  replace tab := Lib.hid ((tab.out).below k1)
  replace bx := Lib.hid ((bx.out).below k1)
  replace hb := bstep hb k1
  clear k1
  go_wp2_with fail
  refine (dec_w _ tab.out).mono ?_
  rintro e v2 ⟨a1, c1, rfl, l1, k2⟩
  replace tab := Lib.hid ((tab.out).below k2)
  replace bx := Lib.hid ((bx.out).below k2)
  replace hb := bstep hb k2
  clear k2
  replace l1 := Lib.hid l1
  replace tab := Lib.hid ((tab.out).below (balloc (Below.refl _ _) (.cells #[.int .u8 2, .string ⟨#[49]⟩, .string ⟨#[49, 46, 50]⟩, .string ⟨#[]⟩, .int .u64 1, .slice a1 0 c1, .int .u64 0, .int .i64 0, .int .i64 0, .string ⟨#[]⟩] 27)))
  replace bx := Lib.hid ((bx.out).below (balloc (Below.refl _ _) (.cells #[.int .u8 2, .string ⟨#[49]⟩, .string ⟨#[49, 46, 50]⟩, .string ⟨#[]⟩, .int .u64 1, .slice a1 0 c1, .int .u64 0, .int .i64 0, .int .i64 0, .string ⟨#[]⟩] 27)))
  replace l1 := Lib.hid ((l1.out).below (balloc (Below.refl _ _) (.cells #[.int .u8 2, .string ⟨#[49]⟩, .string ⟨#[49, 46, 50]⟩, .string ⟨#[]⟩, .int .u64 1, .slice a1 0 c1, .int .u64 0, .int .i64 0, .int .i64 0, .string ⟨#[]⟩] 27)))
  replace hb := bstep hb (balloc (Below.refl _ _) (.cells #[.int .u8 2, .string ⟨#[49]⟩, .string ⟨#[49, 46, 50]⟩, .string ⟨#[]⟩, .int .u64 1, .slice a1 0 c1, .int .u64 0, .int .i64 0, .int .i64 0, .string ⟨#[]⟩] 27))
  have by2 : Hid (Box (v2.alloc (.cells #[.int .u8 2, .string ⟨#[49]⟩, .string ⟨#[49, 46, 50]⟩, .string ⟨#[]⟩, .int .u64 1, .slice a1 0 c1, .int .u64 0, .int .i64 0, .int .i64 0, .string ⟨#[]⟩] 27)) v2.heap.size #[.int .u8 2, .string ⟨#[49]⟩, .string ⟨#[49, 46, 50]⟩, .string ⟨#[]⟩, .int .u64 1, .slice a1 0 c1, .int .u64 0, .int .i64 0, .int .i64 0, .string ⟨#[]⟩]) := Lib.hid (Box.new v2 _ _)
  have hadd := add_x (Frame.putL (bodyL probe))
  go_wp2_with fail
  refine (dec2_w _ tab.out).mono ?_
  rintro e v3 ⟨a2, c2, rfl, -, k3⟩
  replace tab := Lib.hid ((tab.out).below k3)
  replace bx := Lib.hid ((bx.out).below k3)
  replace l1 := Lib.hid ((l1.out).below k3)
  replace by2 := Lib.hid ((by2.out).below k3)
  replace hb := bstep hb k3
  clear k3
  replace tab := Lib.hid ((tab.out).below (balloc (Below.refl _ _) (.cells #[.int .u8 0, .string ⟨#[]⟩, .string ⟨#[]⟩, .string ⟨#[]⟩, .int .u64 0, .slice a2 0 c2, .int .u64 0, .int .i64 0, .int .i64 0, .string ⟨#[]⟩] 27)))
  replace bx := Lib.hid ((bx.out).below (balloc (Below.refl _ _) (.cells #[.int .u8 0, .string ⟨#[]⟩, .string ⟨#[]⟩, .string ⟨#[]⟩, .int .u64 0, .slice a2 0 c2, .int .u64 0, .int .i64 0, .int .i64 0, .string ⟨#[]⟩] 27)))
  replace l1 := Lib.hid ((l1.out).below (balloc (Below.refl _ _) (.cells #[.int .u8 0, .string ⟨#[]⟩, .string ⟨#[]⟩, .string ⟨#[]⟩, .int .u64 0, .slice a2 0 c2, .int .u64 0, .int .i64 0, .int .i64 0, .string ⟨#[]⟩] 27)))
  replace by2 := Lib.hid ((by2.out).below (balloc (Below.refl _ _) (.cells #[.int .u8 0, .string ⟨#[]⟩, .string ⟨#[]⟩, .string ⟨#[]⟩, .int .u64 0, .slice a2 0 c2, .int .u64 0, .int .i64 0, .int .i64 0, .string ⟨#[]⟩] 27)))
  replace hb := bstep hb (balloc (Below.refl _ _) (.cells #[.int .u8 0, .string ⟨#[]⟩, .string ⟨#[]⟩, .string ⟨#[]⟩, .int .u64 0, .slice a2 0 c2, .int .u64 0, .int .i64 0, .int .i64 0, .string ⟨#[]⟩] 27))
  have x0 := bx.out 0 (.int .u8 2) rfl
  have x1 := bx.out 1 (.string ⟨#[49]⟩) rfl
  have x2 := bx.out 2 (.string ⟨#[49, 46, 50]⟩) rfl
  have x3 := bx.out 3 (.string ⟨#[]⟩) rfl
  have x4 := bx.out 4 (.int .u64 1) rfl
  have x5 := bx.out 5 (.slice none 0 0) rfl
  have x6 := bx.out 6 (.int .u64 0) rfl
  have x7 := bx.out 7 (.int .i64 0) rfl
  have x8 := bx.out 8 (.int .i64 0) rfl
  have x9 := bx.out 9 (.string ⟨#[]⟩) rfl
  have y0 := by2.out 0 (.int .u8 2) rfl
  have y1 := by2.out 1 (.string ⟨#[49]⟩) rfl
  have y2 := by2.out 2 (.string ⟨#[49, 46, 50]⟩) rfl
  have y3 := by2.out 3 (.string ⟨#[]⟩) rfl
  have y4 := by2.out 4 (.int .u64 1) rfl
  have y5 := by2.out 5 (.slice a1 0 c1) rfl
  have y6 := by2.out 6 (.int .u64 0) rfl
  have y7 := by2.out 7 (.int .i64 0) rfl
  have y8 := by2.out 8 (.int .i64 0) rfl
  have y9 := by2.out 9 (.string ⟨#[]⟩) rfl
  go_wp2_with fail
  refine (same_w _ _ _ l1.out).mono ?_
  rintro e v4 ⟨rfl, k4⟩
  replace tab := Lib.hid ((tab.out).below k4)
  replace bx := Lib.hid ((bx.out).below k4)
  replace l1 := Lib.hid ((l1.out).below k4)
  replace by2 := Lib.hid ((by2.out).below k4)
  replace x0 := (keepC x0 k4)
  replace x1 := (keepC x1 k4)
  replace x2 := (keepC x2 k4)
  replace x3 := (keepC x3 k4)
  replace x4 := (keepC x4 k4)
  replace x5 := (keepC x5 k4)
  replace x6 := (keepC x6 k4)
  replace x7 := (keepC x7 k4)
  replace x8 := (keepC x8 k4)
  replace x9 := (keepC x9 k4)
  replace y0 := (keepC y0 k4)
  replace y1 := (keepC y1 k4)
  replace y2 := (keepC y2 k4)
  replace y3 := (keepC y3 k4)
  replace y4 := (keepC y4 k4)
  replace y5 := (keepC y5 k4)
  replace y6 := (keepC y6 k4)
  replace y7 := (keepC y7 k4)
  replace y8 := (keepC y8 k4)
  replace y9 := (keepC y9 k4)
  replace hb := bstep hb k4
  clear k4
  go_wp2_with fail
  refine (mayp_w _).mono ?_
  rintro e v5 ⟨rfl, k5⟩
  replace tab := Lib.hid ((tab.out).below k5)
  replace bx := Lib.hid ((bx.out).below k5)
  replace l1 := Lib.hid ((l1.out).below k5)
  replace by2 := Lib.hid ((by2.out).below k5)
  replace x0 := (keepC x0 k5)
  replace x1 := (keepC x1 k5)
  replace x2 := (keepC x2 k5)
  replace x3 := (keepC x3 k5)
  replace x4 := (keepC x4 k5)
  replace x5 := (keepC x5 k5)
  replace x6 := (keepC x6 k5)
  replace x7 := (keepC x7 k5)
  replace x8 := (keepC x8 k5)
  replace x9 := (keepC x9 k5)
  replace y0 := (keepC y0 k5)
  replace y1 := (keepC y1 k5)
  replace y2 := (keepC y2 k5)
  replace y3 := (keepC y3 k5)
  replace y4 := (keepC y4 k5)
  replace y5 := (keepC y5 k5)
  replace y6 := (keepC y6 k5)
  replace y7 := (keepC y7 k5)
  replace y8 := (keepC y8 k5)
  replace y9 := (keepC y9 k5)
  replace hb := bstep hb k5
  clear k5
  go_wp2_with fail
  refine (mayz_w _).mono ?_
  rintro e v6 ⟨rfl, k6⟩
  replace tab := Lib.hid ((tab.out).below k6)
  replace bx := Lib.hid ((bx.out).below k6)
  replace l1 := Lib.hid ((l1.out).below k6)
  replace by2 := Lib.hid ((by2.out).below k6)
  replace x0 := (keepC x0 k6)
  replace x1 := (keepC x1 k6)
  replace x2 := (keepC x2 k6)
  replace x3 := (keepC x3 k6)
  replace x4 := (keepC x4 k6)
  replace x5 := (keepC x5 k6)
  replace x6 := (keepC x6 k6)
  replace x7 := (keepC x7 k6)
  replace x8 := (keepC x8 k6)
  replace x9 := (keepC x9 k6)
  replace y0 := (keepC y0 k6)
  replace y1 := (keepC y1 k6)
  replace y2 := (keepC y2 k6)
  replace y3 := (keepC y3 k6)
  replace y4 := (keepC y4 k6)
  replace y5 := (keepC y5 k6)
  replace y6 := (keepC y6 k6)
  replace y7 := (keepC y7 k6)
  replace y8 := (keepC y8 k6)
  replace y9 := (keepC y9 k6)
  replace hb := bstep hb k6
  clear k6
  go_wp2
  go_ret
  exact ⟨rfl, hb⟩

end Msg
end Go.Proofs.YtcfimfoccbaepaaDoor
