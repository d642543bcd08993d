/- the reference's shape, Text, Encode, May. -/
import Derived.Test.YtcfimfoccbaepaaDoorRefMsg
namespace Go.Proofs.YtcfimfoccbaepaaDoor
namespace RefMsg
open Go.RowKit Go.Proofs.YtcfimfoccbaepaaDoor.Mark Go.Proofs.YtcfimfoccbaepaaDoor.Num Go.Proofs.YtcfimfoccbaepaaDoor.Wire Go.Proofs.YtcfimfoccbaepaaDoor.Msg

theorem path_is {p : List UInt8} (r : Bool) (h : pathB p = r) (hp : p.length ≤ 1099511627776) (w : World) :
    Calls Tryd.prog 21 #[.string ⟨p.toArray⟩] w fun e w' => e = .returned (.bool r) ∧ Below w.heap.size w w' := by rw [← h]; exact path_any p w hp
theorem part_is {id : Nat} {i n : Int} {tx : List UInt8} (r : Bool) (h : mayPartB i n tx = r) (hp : tx.length ≤ 1099511627776) (w : World) :
    Calls Tryd.prog 35 #[.agg #[.int .u64 (id : Int), .int .i64 i, .int .i64 n, .string ⟨tx.toArray⟩]] w fun e w' => e = .returned (.bool r) ∧ Below w.heap.size w w' := by rw [← h]; exact part_any id i n tx w hp
theorem marks_is {L : List M} {a : Option Addr} {c : Nat} (r : List UInt8) (h : vecL L = r) (hr : r.length ≤ 1099511627776) (hn : L.length ≤ 1099511627776) (ho : ∀ m ∈ L, m.n ≤ 18446744073709551615) (w : World) (hL : Lies w a L.length L) :
    Calls Tryd.prog 33 #[.slice a L.length c] w fun e w' => e = .returned (.string ⟨r.toArray⟩) ∧ Below w.heap.size w w' := by rw [← h] at hr ⊢; exact marks_any L a c w hL hr hn ho
theorem num_w {z : Int} {n : Nat} (r : List UInt8) (h : upL n = r) (hz : z = (n : Int)) (hn : n ≤ 18446744073709551615) (w : World) :
    Calls Tryd.prog 31 #[.int .u64 z] w fun e w' => e = .returned (.string ⟨r.toArray⟩) ∧ Below w.heap.size w w' := by rw [hz]; exact num_is r h hn w

set_option maxRecDepth 100000 in
set_option maxHeartbeats 8000000 in
theorem shape_any (m : G) (a : Option Addr) (c : Nat) (w : World) (hf : m.fr.length ≤ 1099511627776) (hx : m.tx.length ≤ 1099511627776) :
    Calls Tryd.prog 23 #[.agg (m.cells a c)] w fun e w' => e = .returned (.bool (shapeB m)) ∧ Below w.heap.size w w' := by
  show Calls Tryd.prog 23 #[.agg #[.int .u8 (m.kind : Int), .string ⟨m.src.toArray⟩, .string ⟨m.dst.toArray⟩, .string ⟨m.fr.toArray⟩, .int .u64 (m.seq : Int), .slice a m.all.length c, .int .u64 (m.id : Int), .int .i64 m.i, .int .i64 m.n, .string ⟨m.tx.toArray⟩]] w fun e w' => e = .returned (.bool (shapeB m)) ∧ Below w.heap.size w w'
  have hb : Below w.heap.size w (w.alloc (.cells #[.int .u8 (m.kind : Int), .string ⟨m.src.toArray⟩, .string ⟨m.dst.toArray⟩, .string ⟨m.fr.toArray⟩, .int .u64 (m.seq : Int), .slice a m.all.length c, .int .u64 (m.id : Int), .int .i64 m.i, .int .i64 m.n, .string ⟨m.tx.toArray⟩] 27)) := balloc (Below.refl w.heap.size w) _
  have bm : Hid (Box (w.alloc (.cells #[.int .u8 (m.kind : Int), .string ⟨m.src.toArray⟩, .string ⟨m.dst.toArray⟩, .string ⟨m.fr.toArray⟩, .int .u64 (m.seq : Int), .slice a m.all.length c, .int .u64 (m.id : Int), .int .i64 m.i, .int .i64 m.n, .string ⟨m.tx.toArray⟩] 27)) w.heap.size #[.int .u8 (m.kind : Int), .string ⟨m.src.toArray⟩, .string ⟨m.dst.toArray⟩, .string ⟨m.fr.toArray⟩, .int .u64 (m.seq : Int), .slice a m.all.length c, .int .u64 (m.id : Int), .int .i64 m.i, .int .i64 m.n, .string ⟨m.tx.toArray⟩]) := Lib.hid (Box.new w _ _)
  have ep := fun W => eql_part m.id m.i m.n m.tx W
  obtain ⟨np, hnp⟩ : ∃ b, noPart m.id m.i m.n m.tx = b := ⟨_, rfl⟩
  obtain ⟨pb, hpb⟩ : ∃ b, pathB m.fr = b := ⟨_, rfl⟩
  obtain ⟨mp, hmp⟩ : ∃ b, mayPartB m.i m.n m.tx = b := ⟨_, rfl⟩
  rw [hnp] at ep
  by_cases k1 : m.kind = 1
  · skip
    have z1 : ((m.kind : Int) == 1) = true := by rw [beq_iff_eq]; omega
    have z2 : ((m.kind : Int) == 2) = false := by rw [beq_eq_false_iff_ne]; omega
    have z3 : ((m.kind : Int) == 3) = false := by rw [beq_eq_false_iff_ne]; omega
    have z4 : ((m.kind : Int) == 4) = false := by rw [beq_eq_false_iff_ne]; omega
    cases g0 : (m.fr == [])
    · skip
      have HV : Hid (shapeB m = false) := Lib.hid (by unfold shapeB; rw [if_pos k1]; simp [g0])
      replace k1 := Lib.hid k1
      replace hnp := Lib.hid hnp
      replace hpb := Lib.hid hpb
      replace hmp := Lib.hid hmp
      go_enter Tryd.func23, Tryd.ntmps23
      have x0 := bm.out 0 (.int .u8 (m.kind : Int)) rfl
      have x1 := bm.out 1 (.string ⟨m.src.toArray⟩) rfl
      have x2 := bm.out 2 (.string ⟨m.dst.toArray⟩) rfl
      have x3 := bm.out 3 (.string ⟨m.fr.toArray⟩) rfl
      have x4 := bm.out 4 (.int .u64 (m.seq : Int)) rfl
      have x5 := bm.out 5 (.slice a m.all.length c) rfl
      have x6 := bm.out 6 (.int .u64 (m.id : Int)) rfl
      have x7 := bm.out 7 (.int .i64 m.i) rfl
      have x8 := bm.out 8 (.int .i64 m.n) rfl
      have x9 := bm.out 9 (.string ⟨m.tx.toArray⟩) rfl
      go_wp2
      go_ret
      exact ⟨by rw [HV.out]; rfl, hb⟩
    · by_cases g1 : m.seq = 0
      rotate_left
      · skip
        have HV : Hid (shapeB m = false) := Lib.hid (by unfold shapeB; rw [if_pos k1]; simp [g1])
        have y1 : ((m.seq : Int) == 0) = false := by rw [beq_eq_false_iff_ne]; omega
        replace g1 := Lib.hid g1
        replace k1 := Lib.hid k1
        replace hnp := Lib.hid hnp
        replace hpb := Lib.hid hpb
        replace hmp := Lib.hid hmp
        go_enter Tryd.func23, Tryd.ntmps23
        have x0 := bm.out 0 (.int .u8 (m.kind : Int)) rfl
        have x1 := bm.out 1 (.string ⟨m.src.toArray⟩) rfl
        have x2 := bm.out 2 (.string ⟨m.dst.toArray⟩) rfl
        have x3 := bm.out 3 (.string ⟨m.fr.toArray⟩) rfl
        have x4 := bm.out 4 (.int .u64 (m.seq : Int)) rfl
        have x5 := bm.out 5 (.slice a m.all.length c) rfl
        have x6 := bm.out 6 (.int .u64 (m.id : Int)) rfl
        have x7 := bm.out 7 (.int .i64 m.i) rfl
        have x8 := bm.out 8 (.int .i64 m.n) rfl
        have x9 := bm.out 9 (.string ⟨m.tx.toArray⟩) rfl
        go_wp2
        go_ret
        exact ⟨by rw [HV.out]; rfl, hb⟩
      have HV : Hid (shapeB m = mp) := Lib.hid (by unfold shapeB; rw [if_pos k1]; simp [g0, g1, hmp])
      have y1 : ((m.seq : Int) == 0) = true := by rw [beq_iff_eq]; omega
      replace g1 := Lib.hid g1
      replace k1 := Lib.hid k1
      replace hnp := Lib.hid hnp
      replace hpb := Lib.hid hpb
      replace hmp := Lib.hid hmp
      go_enter Tryd.func23, Tryd.ntmps23
      have x0 := bm.out 0 (.int .u8 (m.kind : Int)) rfl
      have x1 := bm.out 1 (.string ⟨m.src.toArray⟩) rfl
      have x2 := bm.out 2 (.string ⟨m.dst.toArray⟩) rfl
      have x3 := bm.out 3 (.string ⟨m.fr.toArray⟩) rfl
      have x4 := bm.out 4 (.int .u64 (m.seq : Int)) rfl
      have x5 := bm.out 5 (.slice a m.all.length c) rfl
      have x6 := bm.out 6 (.int .u64 (m.id : Int)) rfl
      have x7 := bm.out 7 (.int .i64 m.i) rfl
      have x8 := bm.out 8 (.int .i64 m.n) rfl
      have x9 := bm.out 9 (.string ⟨m.tx.toArray⟩) rfl
      go_wp2_with fail
      refine (part_is mp hmp.out hx _).mono ?_
      rintro e v1 ⟨rfl, k1⟩
      replace x0 := (Msg.keepC x0 k1)
      replace x1 := (Msg.keepC x1 k1)
      replace x2 := (Msg.keepC x2 k1)
      replace x3 := (Msg.keepC x3 k1)
      replace x4 := (Msg.keepC x4 k1)
      replace x5 := (Msg.keepC x5 k1)
      replace x6 := (Msg.keepC x6 k1)
      replace x7 := (Msg.keepC x7 k1)
      replace x8 := (Msg.keepC x8 k1)
      replace x9 := (Msg.keepC x9 k1)
      replace hb := bstep hb k1
      clear k1
      go_wp2
      go_ret
      exact ⟨by rw [HV.out]; rfl, hb⟩
  by_cases k2 : m.kind = 2
  · skip
    have z1 : ((m.kind : Int) == 1) = false := by rw [beq_eq_false_iff_ne]; omega
    have z2 : ((m.kind : Int) == 2) = true := by rw [beq_iff_eq]; omega
    have z3 : ((m.kind : Int) == 3) = false := by rw [beq_eq_false_iff_ne]; omega
    have z4 : ((m.kind : Int) == 4) = false := by rw [beq_eq_false_iff_ne]; omega
    cases g0 : (m.fr == [])
    · skip
      have HV : Hid (shapeB m = false) := Lib.hid (by unfold shapeB; rw [if_neg k1, if_pos k2]; simp [g0])
      replace k1 := Lib.hid k1
      replace k2 := Lib.hid k2
      replace hnp := Lib.hid hnp
      replace hpb := Lib.hid hpb
      replace hmp := Lib.hid hmp
      go_enter Tryd.func23, Tryd.ntmps23
      have x0 := bm.out 0 (.int .u8 (m.kind : Int)) rfl
      have x1 := bm.out 1 (.string ⟨m.src.toArray⟩) rfl
      have x2 := bm.out 2 (.string ⟨m.dst.toArray⟩) rfl
      have x3 := bm.out 3 (.string ⟨m.fr.toArray⟩) rfl
      have x4 := bm.out 4 (.int .u64 (m.seq : Int)) rfl
      have x5 := bm.out 5 (.slice a m.all.length c) rfl
      have x6 := bm.out 6 (.int .u64 (m.id : Int)) rfl
      have x7 := bm.out 7 (.int .i64 m.i) rfl
      have x8 := bm.out 8 (.int .i64 m.n) rfl
      have x9 := bm.out 9 (.string ⟨m.tx.toArray⟩) rfl
      go_wp2
      go_ret
      exact ⟨by rw [HV.out]; rfl, hb⟩
    · by_cases g1 : m.all.length = 0
      rotate_left
      · skip
        have HV : Hid (shapeB m = false) := Lib.hid (by unfold shapeB; rw [if_neg k1, if_pos k2]; rw [decide_eq_false g1]; simp)
        have y1 : ((m.all.length : Int) == 0) = false := by rw [beq_eq_false_iff_ne]; omega
        replace g1 := Lib.hid g1
        replace k1 := Lib.hid k1
        replace k2 := Lib.hid k2
        replace hnp := Lib.hid hnp
        replace hpb := Lib.hid hpb
        replace hmp := Lib.hid hmp
        go_enter Tryd.func23, Tryd.ntmps23
        have x0 := bm.out 0 (.int .u8 (m.kind : Int)) rfl
        have x1 := bm.out 1 (.string ⟨m.src.toArray⟩) rfl
        have x2 := bm.out 2 (.string ⟨m.dst.toArray⟩) rfl
        have x3 := bm.out 3 (.string ⟨m.fr.toArray⟩) rfl
        have x4 := bm.out 4 (.int .u64 (m.seq : Int)) rfl
        have x5 := bm.out 5 (.slice a m.all.length c) rfl
        have x6 := bm.out 6 (.int .u64 (m.id : Int)) rfl
        have x7 := bm.out 7 (.int .i64 m.i) rfl
        have x8 := bm.out 8 (.int .i64 m.n) rfl
        have x9 := bm.out 9 (.string ⟨m.tx.toArray⟩) rfl
        go_wp2
        go_ret
        exact ⟨by rw [HV.out]; rfl, hb⟩
      have HV : Hid (shapeB m = np) := Lib.hid (by unfold shapeB; rw [if_neg k1, if_pos k2]; rw [decide_eq_true g1, g0, hnp]; simp)
      have y1 : ((m.all.length : Int) == 0) = true := by rw [beq_iff_eq]; omega
      replace g1 := Lib.hid g1
      replace k1 := Lib.hid k1
      replace k2 := Lib.hid k2
      replace hnp := Lib.hid hnp
      replace hpb := Lib.hid hpb
      replace hmp := Lib.hid hmp
      go_enter Tryd.func23, Tryd.ntmps23
      have x0 := bm.out 0 (.int .u8 (m.kind : Int)) rfl
      have x1 := bm.out 1 (.string ⟨m.src.toArray⟩) rfl
      have x2 := bm.out 2 (.string ⟨m.dst.toArray⟩) rfl
      have x3 := bm.out 3 (.string ⟨m.fr.toArray⟩) rfl
      have x4 := bm.out 4 (.int .u64 (m.seq : Int)) rfl
      have x5 := bm.out 5 (.slice a m.all.length c) rfl
      have x6 := bm.out 6 (.int .u64 (m.id : Int)) rfl
      have x7 := bm.out 7 (.int .i64 m.i) rfl
      have x8 := bm.out 8 (.int .i64 m.n) rfl
      have x9 := bm.out 9 (.string ⟨m.tx.toArray⟩) rfl
      go_wp2
      go_ret
      exact ⟨by rw [HV.out]; rfl, hb⟩
  by_cases k3 : m.kind = 3
  · skip
    have z1 : ((m.kind : Int) == 1) = false := by rw [beq_eq_false_iff_ne]; omega
    have z2 : ((m.kind : Int) == 2) = false := by rw [beq_eq_false_iff_ne]; omega
    have z3 : ((m.kind : Int) == 3) = true := by rw [beq_iff_eq]; omega
    have z4 : ((m.kind : Int) == 4) = false := by rw [beq_eq_false_iff_ne]; omega
    cases pb
    · skip
      have HV : Hid (shapeB m = false) := Lib.hid (by unfold shapeB; rw [if_neg k1, if_neg k2, if_pos k3]; rw [hpb]; simp)
      replace k1 := Lib.hid k1
      replace k2 := Lib.hid k2
      replace k3 := Lib.hid k3
      replace hnp := Lib.hid hnp
      replace hpb := Lib.hid hpb
      replace hmp := Lib.hid hmp
      go_enter Tryd.func23, Tryd.ntmps23
      have x0 := bm.out 0 (.int .u8 (m.kind : Int)) rfl
      have x1 := bm.out 1 (.string ⟨m.src.toArray⟩) rfl
      have x2 := bm.out 2 (.string ⟨m.dst.toArray⟩) rfl
      have x3 := bm.out 3 (.string ⟨m.fr.toArray⟩) rfl
      have x4 := bm.out 4 (.int .u64 (m.seq : Int)) rfl
      have x5 := bm.out 5 (.slice a m.all.length c) rfl
      have x6 := bm.out 6 (.int .u64 (m.id : Int)) rfl
      have x7 := bm.out 7 (.int .i64 m.i) rfl
      have x8 := bm.out 8 (.int .i64 m.n) rfl
      have x9 := bm.out 9 (.string ⟨m.tx.toArray⟩) rfl
      go_wp2_with fail
      refine (path_is false hpb.out hf _).mono ?_
      rintro e v2 ⟨rfl, k2⟩
      replace x0 := (Msg.keepC x0 k2)
      replace x1 := (Msg.keepC x1 k2)
      replace x2 := (Msg.keepC x2 k2)
      replace x3 := (Msg.keepC x3 k2)
      replace x4 := (Msg.keepC x4 k2)
      replace x5 := (Msg.keepC x5 k2)
      replace x6 := (Msg.keepC x6 k2)
      replace x7 := (Msg.keepC x7 k2)
      replace x8 := (Msg.keepC x8 k2)
      replace x9 := (Msg.keepC x9 k2)
      replace hb := bstep hb k2
      clear k2
      go_wp2
      go_ret
      exact ⟨by rw [HV.out]; rfl, hb⟩
    · by_cases g1 : m.all.length = 0
      rotate_left
      · skip
        have HV : Hid (shapeB m = false) := Lib.hid (by unfold shapeB; rw [if_neg k1, if_neg k2, if_pos k3]; rw [decide_eq_false g1]; simp)
        have y1 : ((m.all.length : Int) == 0) = false := by rw [beq_eq_false_iff_ne]; omega
        replace g1 := Lib.hid g1
        replace k1 := Lib.hid k1
        replace k2 := Lib.hid k2
        replace k3 := Lib.hid k3
        replace hnp := Lib.hid hnp
        replace hpb := Lib.hid hpb
        replace hmp := Lib.hid hmp
        go_enter Tryd.func23, Tryd.ntmps23
        have x0 := bm.out 0 (.int .u8 (m.kind : Int)) rfl
        have x1 := bm.out 1 (.string ⟨m.src.toArray⟩) rfl
        have x2 := bm.out 2 (.string ⟨m.dst.toArray⟩) rfl
        have x3 := bm.out 3 (.string ⟨m.fr.toArray⟩) rfl
        have x4 := bm.out 4 (.int .u64 (m.seq : Int)) rfl
        have x5 := bm.out 5 (.slice a m.all.length c) rfl
        have x6 := bm.out 6 (.int .u64 (m.id : Int)) rfl
        have x7 := bm.out 7 (.int .i64 m.i) rfl
        have x8 := bm.out 8 (.int .i64 m.n) rfl
        have x9 := bm.out 9 (.string ⟨m.tx.toArray⟩) rfl
        go_wp2_with fail
        refine (path_is true hpb.out hf _).mono ?_
        rintro e v3 ⟨rfl, k3⟩
        replace x0 := (Msg.keepC x0 k3)
        replace x1 := (Msg.keepC x1 k3)
        replace x2 := (Msg.keepC x2 k3)
        replace x3 := (Msg.keepC x3 k3)
        replace x4 := (Msg.keepC x4 k3)
        replace x5 := (Msg.keepC x5 k3)
        replace x6 := (Msg.keepC x6 k3)
        replace x7 := (Msg.keepC x7 k3)
        replace x8 := (Msg.keepC x8 k3)
        replace x9 := (Msg.keepC x9 k3)
        replace hb := bstep hb k3
        clear k3
        go_wp2
        go_ret
        exact ⟨by rw [HV.out]; rfl, hb⟩
      have HV : Hid (shapeB m = np) := Lib.hid (by unfold shapeB; rw [if_neg k1, if_neg k2, if_pos k3]; rw [decide_eq_true g1, hpb, hnp]; simp)
      have y1 : ((m.all.length : Int) == 0) = true := by rw [beq_iff_eq]; omega
      replace g1 := Lib.hid g1
      replace k1 := Lib.hid k1
      replace k2 := Lib.hid k2
      replace k3 := Lib.hid k3
      replace hnp := Lib.hid hnp
      replace hpb := Lib.hid hpb
      replace hmp := Lib.hid hmp
      go_enter Tryd.func23, Tryd.ntmps23
      have x0 := bm.out 0 (.int .u8 (m.kind : Int)) rfl
      have x1 := bm.out 1 (.string ⟨m.src.toArray⟩) rfl
      have x2 := bm.out 2 (.string ⟨m.dst.toArray⟩) rfl
      have x3 := bm.out 3 (.string ⟨m.fr.toArray⟩) rfl
      have x4 := bm.out 4 (.int .u64 (m.seq : Int)) rfl
      have x5 := bm.out 5 (.slice a m.all.length c) rfl
      have x6 := bm.out 6 (.int .u64 (m.id : Int)) rfl
      have x7 := bm.out 7 (.int .i64 m.i) rfl
      have x8 := bm.out 8 (.int .i64 m.n) rfl
      have x9 := bm.out 9 (.string ⟨m.tx.toArray⟩) rfl
      go_wp2_with fail
      refine (path_is true hpb.out hf _).mono ?_
      rintro e v4 ⟨rfl, k4⟩
      replace x0 := (Msg.keepC x0 k4)
      replace x1 := (Msg.keepC x1 k4)
      replace x2 := (Msg.keepC x2 k4)
      replace x3 := (Msg.keepC x3 k4)
      replace x4 := (Msg.keepC x4 k4)
      replace x5 := (Msg.keepC x5 k4)
      replace x6 := (Msg.keepC x6 k4)
      replace x7 := (Msg.keepC x7 k4)
      replace x8 := (Msg.keepC x8 k4)
      replace x9 := (Msg.keepC x9 k4)
      replace hb := bstep hb k4
      clear k4
      go_wp2
      go_ret
      exact ⟨by rw [HV.out]; rfl, hb⟩
  by_cases k4 : m.kind = 4
  · skip
    have z1 : ((m.kind : Int) == 1) = false := by rw [beq_eq_false_iff_ne]; omega
    have z2 : ((m.kind : Int) == 2) = false := by rw [beq_eq_false_iff_ne]; omega
    have z3 : ((m.kind : Int) == 3) = false := by rw [beq_eq_false_iff_ne]; omega
    have z4 : ((m.kind : Int) == 4) = true := by rw [beq_iff_eq]; omega
    cases g0 : (m.fr == [])
    · skip
      cases pb
      · skip
        have HV : Hid (shapeB m = false) := Lib.hid (by unfold shapeB; rw [if_neg k1, if_neg k2, if_neg k3, if_pos k4]; rw [g0, hpb]; simp)
        replace k1 := Lib.hid k1
        replace k2 := Lib.hid k2
        replace k3 := Lib.hid k3
        replace k4 := Lib.hid k4
        replace hnp := Lib.hid hnp
        replace hpb := Lib.hid hpb
        replace hmp := Lib.hid hmp
        go_enter Tryd.func23, Tryd.ntmps23
        have x0 := bm.out 0 (.int .u8 (m.kind : Int)) rfl
        have x1 := bm.out 1 (.string ⟨m.src.toArray⟩) rfl
        have x2 := bm.out 2 (.string ⟨m.dst.toArray⟩) rfl
        have x3 := bm.out 3 (.string ⟨m.fr.toArray⟩) rfl
        have x4 := bm.out 4 (.int .u64 (m.seq : Int)) rfl
        have x5 := bm.out 5 (.slice a m.all.length c) rfl
        have x6 := bm.out 6 (.int .u64 (m.id : Int)) rfl
        have x7 := bm.out 7 (.int .i64 m.i) rfl
        have x8 := bm.out 8 (.int .i64 m.n) rfl
        have x9 := bm.out 9 (.string ⟨m.tx.toArray⟩) rfl
        go_wp2_with fail
        refine (path_is false hpb.out hf _).mono ?_
        rintro e v5 ⟨rfl, k5⟩
        replace x0 := (Msg.keepC x0 k5)
        replace x1 := (Msg.keepC x1 k5)
        replace x2 := (Msg.keepC x2 k5)
        replace x3 := (Msg.keepC x3 k5)
        replace x4 := (Msg.keepC x4 k5)
        replace x5 := (Msg.keepC x5 k5)
        replace x6 := (Msg.keepC x6 k5)
        replace x7 := (Msg.keepC x7 k5)
        replace x8 := (Msg.keepC x8 k5)
        replace x9 := (Msg.keepC x9 k5)
        replace hb := bstep hb k5
        clear k5
        go_wp2
        go_ret
        exact ⟨by rw [HV.out]; rfl, hb⟩
      · skip
        have HV : Hid (shapeB m = np) := Lib.hid (by unfold shapeB; rw [if_neg k1, if_neg k2, if_neg k3, if_pos k4]; rw [g0, hpb, hnp]; simp)
        replace k1 := Lib.hid k1
        replace k2 := Lib.hid k2
        replace k3 := Lib.hid k3
        replace k4 := Lib.hid k4
        replace hnp := Lib.hid hnp
        replace hpb := Lib.hid hpb
        replace hmp := Lib.hid hmp
        go_enter Tryd.func23, Tryd.ntmps23
        have x0 := bm.out 0 (.int .u8 (m.kind : Int)) rfl
        have x1 := bm.out 1 (.string ⟨m.src.toArray⟩) rfl
        have x2 := bm.out 2 (.string ⟨m.dst.toArray⟩) rfl
        have x3 := bm.out 3 (.string ⟨m.fr.toArray⟩) rfl
        have x4 := bm.out 4 (.int .u64 (m.seq : Int)) rfl
        have x5 := bm.out 5 (.slice a m.all.length c) rfl
        have x6 := bm.out 6 (.int .u64 (m.id : Int)) rfl
        have x7 := bm.out 7 (.int .i64 m.i) rfl
        have x8 := bm.out 8 (.int .i64 m.n) rfl
        have x9 := bm.out 9 (.string ⟨m.tx.toArray⟩) rfl
        go_wp2_with fail
        refine (path_is true hpb.out hf _).mono ?_
        rintro e v6 ⟨rfl, k6⟩
        replace x0 := (Msg.keepC x0 k6)
        replace x1 := (Msg.keepC x1 k6)
        replace x2 := (Msg.keepC x2 k6)
        replace x3 := (Msg.keepC x3 k6)
        replace x4 := (Msg.keepC x4 k6)
        replace x5 := (Msg.keepC x5 k6)
        replace x6 := (Msg.keepC x6 k6)
        replace x7 := (Msg.keepC x7 k6)
        replace x8 := (Msg.keepC x8 k6)
        replace x9 := (Msg.keepC x9 k6)
        replace hb := bstep hb k6
        clear k6
        go_wp2
        go_ret
        exact ⟨by rw [HV.out]; rfl, hb⟩
    · skip
      have HV : Hid (shapeB m = np) := Lib.hid (by unfold shapeB; rw [if_neg k1, if_neg k2, if_neg k3, if_pos k4]; rw [g0, hnp]; simp)
      replace k1 := Lib.hid k1
      replace k2 := Lib.hid k2
      replace k3 := Lib.hid k3
      replace k4 := Lib.hid k4
      replace hnp := Lib.hid hnp
      replace hpb := Lib.hid hpb
      replace hmp := Lib.hid hmp
      go_enter Tryd.func23, Tryd.ntmps23
      have x0 := bm.out 0 (.int .u8 (m.kind : Int)) rfl
      have x1 := bm.out 1 (.string ⟨m.src.toArray⟩) rfl
      have x2 := bm.out 2 (.string ⟨m.dst.toArray⟩) rfl
      have x3 := bm.out 3 (.string ⟨m.fr.toArray⟩) rfl
      have x4 := bm.out 4 (.int .u64 (m.seq : Int)) rfl
      have x5 := bm.out 5 (.slice a m.all.length c) rfl
      have x6 := bm.out 6 (.int .u64 (m.id : Int)) rfl
      have x7 := bm.out 7 (.int .i64 m.i) rfl
      have x8 := bm.out 8 (.int .i64 m.n) rfl
      have x9 := bm.out 9 (.string ⟨m.tx.toArray⟩) rfl
      go_wp2
      go_ret
      exact ⟨by rw [HV.out]; rfl, hb⟩
  have z1 : ((m.kind : Int) == 1) = false := by rw [beq_eq_false_iff_ne]; omega
  have z2 : ((m.kind : Int) == 2) = false := by rw [beq_eq_false_iff_ne]; omega
  have z3 : ((m.kind : Int) == 3) = false := by rw [beq_eq_false_iff_ne]; omega
  have z4 : ((m.kind : Int) == 4) = false := by rw [beq_eq_false_iff_ne]; omega
  have HV : Hid (shapeB m = false) := Lib.hid (by unfold shapeB; rw [if_neg k1, if_neg k2, if_neg k3, if_neg k4])
  replace k1 := Lib.hid k1
  replace k2 := Lib.hid k2
  replace k3 := Lib.hid k3
  replace k4 := Lib.hid k4
  replace hnp := Lib.hid hnp
  replace hpb := Lib.hid hpb
  replace hmp := Lib.hid hmp
  go_enter Tryd.func23, Tryd.ntmps23
  have x0 := bm.out 0 (.int .u8 (m.kind : Int)) rfl
  have x1 := bm.out 1 (.string ⟨m.src.toArray⟩) rfl
  have x2 := bm.out 2 (.string ⟨m.dst.toArray⟩) rfl
  have x3 := bm.out 3 (.string ⟨m.fr.toArray⟩) rfl
  have x4 := bm.out 4 (.int .u64 (m.seq : Int)) rfl
  have x5 := bm.out 5 (.slice a m.all.length c) rfl
  have x6 := bm.out 6 (.int .u64 (m.id : Int)) rfl
  have x7 := bm.out 7 (.int .i64 m.i) rfl
  have x8 := bm.out 8 (.int .i64 m.n) rfl
  have x9 := bm.out 9 (.string ⟨m.tx.toArray⟩) rfl
  go_wp2
  go_ret
  exact ⟨by rw [HV.out]; rfl, hb⟩

set_option maxRecDepth 100000 in
set_option maxHeartbeats 16000000 in
theorem body_any (k : Nat) (src dst fr : List UInt8) (seq : Nat) (all : List M) (id i n : Nat) (tx : List UInt8) (a : Option Addr) (c : Nat) (w : World) (hok : (G.mk k src dst fr seq all id i n tx).Ok) (hL : Lies w a all.length all)
    (hbl : (bodyL ⟨k, src, dst, fr, seq, all, id, (i : Int), (n : Int), tx⟩).length ≤ 1099511627776) (hal : all.length ≤ 1099511627776) :
    Calls Tryd.prog 20 #[.agg #[.int .u8 (k : Int), .string ⟨src.toArray⟩, .string ⟨dst.toArray⟩, .string ⟨fr.toArray⟩, .int .u64 (seq : Int), .slice a all.length c, .int .u64 (id : Int), .int .i64 (i : Int), .int .i64 (n : Int), .string ⟨tx.toArray⟩]] w fun e w' => e = .returned (.string ⟨(bodyL ⟨k, src, dst, fr, seq, all, id, (i : Int), (n : Int), tx⟩).toArray⟩) ∧ Below w.heap.size w w' := by
  obtain ⟨ok0, ok1, ok2, ok3, ok4, ok5, ok6, ok7, ok8, ok9, ok10⟩ := hok
  simp only at ok0 ok1 ok2 ok3 ok4 ok5 ok6 ok7 ok8 ok9 ok10
  have hb : Below w.heap.size w (w.alloc (.cells #[.int .u8 (k : Int), .string ⟨src.toArray⟩, .string ⟨dst.toArray⟩, .string ⟨fr.toArray⟩, .int .u64 (seq : Int), .slice a all.length c, .int .u64 (id : Int), .int .i64 (i : Int), .int .i64 (n : Int), .string ⟨tx.toArray⟩] 27)) := balloc (Below.refl w.heap.size w) _
  have lA := Lib.hid (hL.below hb)
  have oA : Hid (∀ m ∈ all, m.n ≤ 18446744073709551615) := Lib.hid (fun m hm => (ok5 m hm).1)
  have bm : Hid (Box (w.alloc (.cells #[.int .u8 (k : Int), .string ⟨src.toArray⟩, .string ⟨dst.toArray⟩, .string ⟨fr.toArray⟩, .int .u64 (seq : Int), .slice a all.length c, .int .u64 (id : Int), .int .i64 (i : Int), .int .i64 (n : Int), .string ⟨tx.toArray⟩] 27)) w.heap.size #[.int .u8 (k : Int), .string ⟨src.toArray⟩, .string ⟨dst.toArray⟩, .string ⟨fr.toArray⟩, .int .u64 (seq : Int), .slice a all.length c, .int .u64 (id : Int), .int .i64 (i : Int), .int .i64 (n : Int), .string ⟨tx.toArray⟩]) := Lib.hid (Box.new w _ _)
  have hhd := Nat.le_trans (head_le ⟨k, src, dst, fr, seq, all, id, (i : Int), (n : Int), tx⟩) hbl
  clear hL ok5
  obtain ⟨p1, hp1⟩ : ∃ p, upL k = p := ⟨_, rfl⟩
  obtain ⟨p2, hp2⟩ : ∃ p, txtL src = p := ⟨_, rfl⟩
  obtain ⟨p3, hp3⟩ : ∃ p, txtL dst = p := ⟨_, rfl⟩
  obtain ⟨p12, h12⟩ : ∃ p, p1 ++ p2 = p := ⟨_, rfl⟩
  obtain ⟨H, hH⟩ : ∃ p, p12 ++ p3 = p := ⟨_, rfl⟩
  have hHv : headL ⟨k, src, dst, fr, seq, all, id, (i : Int), (n : Int), tx⟩ = H := by rw [← hH, ← h12, ← hp1, ← hp2, ← hp3, headL, List.append_assoc]
  rw [hHv] at hhd
  have l12 : p12.length = p1.length + p2.length := by rw [← h12, List.length_append]
  have lH : H.length = p12.length + p3.length := by rw [← hH, List.length_append]
  have b1 : ({ data := p1.toArray } : ByteArray) ++ { data := p2.toArray } = { data := p12.toArray } := by rw [← h12]; exact Str.mk_append_mk p1 p2
  have b2 : ({ data := p12.toArray } : ByteArray) ++ { data := p3.toArray } = { data := H.toArray } := by rw [← hH]; exact Str.mk_append_mk p12 p3
  have s1 := Str.size_mk p1
  have s2 := Str.size_mk p2
  have s3 := Str.size_mk p3
  have s4 := Str.size_mk p12
  have zH := Str.size_mk H
  have n1 : ¬ (9223372036854775807 < p1.length + p2.length) := by omega
  have n1b : ¬ (p1.length + p2.length > 9223372036854775807) := by omega
  have n2 : ¬ (9223372036854775807 < p12.length + p3.length) := by omega
  have n2b : ¬ (p12.length + p3.length > 9223372036854775807) := by omega
  have w8 : IntKind.u64.wrap (k : Int) = (k : Int) := by rw [IntKind.wrap_u64]; omega
  have wk : (k : Int) % 18446744073709551616 = (k : Int) := by omega
  have u1 : IntKind.u64.wrap (i : Int) = (i : Int) := by rw [IntKind.wrap_u64]; omega
  have u2 : IntKind.u64.wrap (n : Int) = (n : Int) := by rw [IntKind.wrap_u64]; omega
  have u3 : (i : Int) % 18446744073709551616 = (i : Int) := by omega
  have u4 : (n : Int) % 18446744073709551616 = (n : Int) := by omega
  have R1 := Lib.hid hp1
  have R2 := Lib.hid hp2
  have R3 := Lib.hid hp3
  have HHv := Lib.hid hHv
  have ck : k ≤ 18446744073709551615 := by omega
  clear hp1 hp2 hp3 h12 hH hHv
  by_cases k1 : k = 1
  · skip
    have zz1 : ((k : Int) == 1) = true := by rw [beq_iff_eq]; omega
    have zz2 : ((k : Int) == 2) = false := by rw [beq_eq_false_iff_ne]; omega
    have zz3 : ((k : Int) == 3) = false := by rw [beq_eq_false_iff_ne]; omega
    have zz4 : ((k : Int) == 4) = false := by rw [beq_eq_false_iff_ne]; omega
    obtain ⟨V, hV⟩ : ∃ p, vecL all = p := ⟨_, rfl⟩
    have zV := Str.size_mk V
    obtain ⟨I1, hI1⟩ : ∃ p, upL id = p := ⟨_, rfl⟩
    have zI1 := Str.size_mk I1
    obtain ⟨I2, hI2⟩ : ∃ p, upL i = p := ⟨_, rfl⟩
    have zI2 := Str.size_mk I2
    obtain ⟨I3, hI3⟩ : ∃ p, upL n = p := ⟨_, rfl⟩
    have zI3 := Str.size_mk I3
    obtain ⟨X, hX⟩ : ∃ p, txtL tx = p := ⟨_, rfl⟩
    have zX := Str.size_mk X
    obtain ⟨C0, hC0⟩ : ∃ p, H ++ V = p := ⟨_, rfl⟩
    have lC0 : C0.length = H.length + V.length := by rw [← hC0, List.length_append]
    have aC0 : (({ data := H.toArray } : ByteArray)) ++ { data := V.toArray } = { data := C0.toArray } := by rw [← hC0]; exact Str.mk_append_mk H V
    have zC0 := Str.size_mk C0
    obtain ⟨C1, hC1⟩ : ∃ p, C0 ++ I1 = p := ⟨_, rfl⟩
    have lC1 : C1.length = C0.length + I1.length := by rw [← hC1, List.length_append]
    have aC1 : (({ data := C0.toArray } : ByteArray)) ++ { data := I1.toArray } = { data := C1.toArray } := by rw [← hC1]; exact Str.mk_append_mk C0 I1
    have zC1 := Str.size_mk C1
    obtain ⟨C2, hC2⟩ : ∃ p, C1 ++ I2 = p := ⟨_, rfl⟩
    have lC2 : C2.length = C1.length + I2.length := by rw [← hC2, List.length_append]
    have aC2 : (({ data := C1.toArray } : ByteArray)) ++ { data := I2.toArray } = { data := C2.toArray } := by rw [← hC2]; exact Str.mk_append_mk C1 I2
    have zC2 := Str.size_mk C2
    obtain ⟨C3, hC3⟩ : ∃ p, C2 ++ I3 = p := ⟨_, rfl⟩
    have lC3 : C3.length = C2.length + I3.length := by rw [← hC3, List.length_append]
    have aC3 : (({ data := C2.toArray } : ByteArray)) ++ { data := I3.toArray } = { data := C3.toArray } := by rw [← hC3]; exact Str.mk_append_mk C2 I3
    have zC3 := Str.size_mk C3
    obtain ⟨C4, hC4⟩ : ∃ p, C3 ++ X = p := ⟨_, rfl⟩
    have lC4 : C4.length = C3.length + X.length := by rw [← hC4, List.length_append]
    have aC4 : (({ data := C3.toArray } : ByteArray)) ++ { data := X.toArray } = { data := C4.toArray } := by rw [← hC4]; exact Str.mk_append_mk C3 X
    have zC4 := Str.size_mk C4
    have HV : bodyL ⟨k, src, dst, fr, seq, all, id, (i : Int), (n : Int), tx⟩ = C4 := by
      unfold bodyL
      simp only [Int.toNat_natCast]
      rw [if_pos k1, HHv.out]
      rw [← hC4, ← hC3, ← hC2, ← hC1, ← hC0, ← hV, ← hI1, ← hI2, ← hI3, ← hX]
      simp only [List.append_assoc]
    rw [HV] at hbl
    replace HV := Lib.hid HV
    have nC0 : ¬ (9223372036854775807 < H.length + V.length) := by omega
    have mC0 : ¬ (H.length + V.length > 9223372036854775807) := by omega
    have nC1 : ¬ (9223372036854775807 < C0.length + I1.length) := by omega
    have mC1 : ¬ (C0.length + I1.length > 9223372036854775807) := by omega
    have nC2 : ¬ (9223372036854775807 < C1.length + I2.length) := by omega
    have mC2 : ¬ (C1.length + I2.length > 9223372036854775807) := by omega
    have nC3 : ¬ (9223372036854775807 < C2.length + I3.length) := by omega
    have mC3 : ¬ (C2.length + I3.length > 9223372036854775807) := by omega
    have nC4 : ¬ (9223372036854775807 < C3.length + X.length) := by omega
    have mC4 : ¬ (C3.length + X.length > 9223372036854775807) := by omega
    have jV : V.length ≤ 1099511627776 := by omega
    replace hV := Lib.hid hV
    replace hI1 := Lib.hid hI1
    replace hI2 := Lib.hid hI2
    replace hI3 := Lib.hid hI3
    replace hX := Lib.hid hX
    replace hC0 := Lib.hid hC0
    replace hC1 := Lib.hid hC1
    replace hC2 := Lib.hid hC2
    replace hC3 := Lib.hid hC3
    replace hC4 := Lib.hid hC4
    replace lC0 := Lib.hid lC0
    replace lC1 := Lib.hid lC1
    replace lC2 := Lib.hid lC2
    replace lC3 := Lib.hid lC3
    replace lC4 := Lib.hid lC4
    replace l12 := Lib.hid l12
    replace lH := Lib.hid lH
    replace k1 := Lib.hid k1
    go_enter Tryd.func20, Tryd.ntmps20
    have x0 := bm.out 0 (.int .u8 (k : Int)) rfl
    have x1 := bm.out 1 (.string ⟨src.toArray⟩) rfl
    have x2 := bm.out 2 (.string ⟨dst.toArray⟩) rfl
    have x3 := bm.out 3 (.string ⟨fr.toArray⟩) rfl
    have x4 := bm.out 4 (.int .u64 (seq : Int)) rfl
    have x5 := bm.out 5 (.slice a all.length c) rfl
    have x6 := bm.out 6 (.int .u64 (id : Int)) rfl
    have x7 := bm.out 7 (.int .i64 (i : Int)) rfl
    have x8 := bm.out 8 (.int .i64 (n : Int)) rfl
    have x9 := bm.out 9 (.string ⟨tx.toArray⟩) rfl
    clear bm
    go_wp2_with fail
    refine wp_region_noPanic ?_
    refine wp_region_held_drew (S := (fun w' => Below w.heap.size w w' ∧ Lies w' a all.length all ∧ w'.cell? ⟨w.heap.size, 0, none⟩ = some (.int .u8 (k : Int)) ∧ w'.cell? ⟨w.heap.size, 1, none⟩ = some (.string ⟨src.toArray⟩) ∧ w'.cell? ⟨w.heap.size, 2, none⟩ = some (.string ⟨dst.toArray⟩) ∧ w'.cell? ⟨w.heap.size, 3, none⟩ = some (.string ⟨fr.toArray⟩) ∧ w'.cell? ⟨w.heap.size, 4, none⟩ = some (.int .u64 (seq : Int)) ∧ w'.cell? ⟨w.heap.size, 5, none⟩ = some (.slice a all.length c) ∧ w'.cell? ⟨w.heap.size, 6, none⟩ = some (.int .u64 (id : Int)) ∧ w'.cell? ⟨w.heap.size, 7, none⟩ = some (.int .i64 (i : Int)) ∧ w'.cell? ⟨w.heap.size, 8, none⟩ = some (.int .i64 (n : Int)) ∧ w'.cell? ⟨w.heap.size, 9, none⟩ = some (.string ⟨tx.toArray⟩))) (by kernel_rfl) (⟨Below.drew hb, (lA.out).below (Below.drew (Below.refl _ _)), Msg.keepC x0 (Below.drew (Below.refl _ _)), Msg.keepC x1 (Below.drew (Below.refl _ _)), Msg.keepC x2 (Below.drew (Below.refl _ _)), Msg.keepC x3 (Below.drew (Below.refl _ _)), Msg.keepC x4 (Below.drew (Below.refl _ _)), Msg.keepC x5 (Below.drew (Below.refl _ _)), Msg.keepC x6 (Below.drew (Below.refl _ _)), Msg.keepC x7 (Below.drew (Below.refl _ _)), Msg.keepC x8 (Below.drew (Below.refl _ _)), Msg.keepC x9 (Below.drew (Below.refl _ _))⟩) (fun hHeld => ?_)
    refine wpAnyH_take (i := 0) (v := ?_) (by simp only [List.getElem?_toArray, List.getElem?_cons_zero]; rfl) (by kernel_rfl) (by kernel_rfl) (by kernel_rfl) (fun _ _ _ h => h) (Or.inl ⟨by rfl, ?_⟩) (by assumption) ?_
    rotate_left
    · (intro w hSw; (try dsimp only at hSw); go_simp; try with_reducible rfl)
    try simp only [Act.put, List.setIfInBounds_toArray, List.set_cons_zero, List.set_cons_succ]
    refine wpAnyH_take (i := 1) (v := ?_) (by simp only [List.getElem?_toArray, List.getElem?_cons_succ, List.getElem?_cons_zero]; rfl) (by kernel_rfl) (by kernel_rfl) (by kernel_rfl) (fun _ _ _ h => h) (Or.inl ⟨by rfl, ?_⟩) (by assumption) ?_
    rotate_left
    · (intro w hSw; (try dsimp only at hSw); go_simp; try with_reducible rfl)
    try simp only [Act.put, List.setIfInBounds_toArray, List.set_cons_zero, List.set_cons_succ]
    refine wpAnyH_take (i := 2) (v := ?_) (by simp only [List.getElem?_toArray, List.getElem?_cons_succ, List.getElem?_cons_zero]; rfl) (by kernel_rfl) (by kernel_rfl) (by kernel_rfl) (fun _ _ _ h => h) (Or.inl ⟨by rfl, ?_⟩) (by assumption) ?_
    rotate_left
    · (intro w hSw; (try dsimp only at hSw); go_simp; try with_reducible rfl)
    try simp only [Act.put, List.setIfInBounds_toArray, List.set_cons_zero, List.set_cons_succ]
    refine wpAnyH_take (i := 4) (v := ?_) (by simp only [List.getElem?_toArray, List.getElem?_cons_succ, List.getElem?_cons_zero]; rfl) (by kernel_rfl) (by kernel_rfl) (by kernel_rfl) (fun _ _ _ h => h) (Or.inl ⟨by rfl, ?_⟩) (by assumption) ?_
    rotate_left
    · (intro w hSw; (try dsimp only at hSw); go_simp; try with_reducible rfl)
    try simp only [Act.put, List.setIfInBounds_toArray, List.set_cons_zero, List.set_cons_succ]
    refine wpAnyH_take (i := 5) (v := ?_) (by simp only [List.getElem?_toArray, List.getElem?_cons_succ, List.getElem?_cons_zero]; rfl) (by kernel_rfl) (by kernel_rfl) (by kernel_rfl) (fun _ _ _ h => h) (Or.inl ⟨by rfl, ?_⟩) (by assumption) ?_
    rotate_left
    · (intro w hSw; (try dsimp only at hSw); go_simp; try with_reducible rfl)
    try simp only [Act.put, List.setIfInBounds_toArray, List.set_cons_zero, List.set_cons_succ]
    refine wpAnyH_take (i := 8) (v := ?_) (by simp only [List.getElem?_toArray, List.getElem?_cons_succ, List.getElem?_cons_zero]; rfl) (by kernel_rfl) (by kernel_rfl) (by kernel_rfl) (fun _ _ _ h => h) (Or.inl ⟨by rfl, ?_⟩) (by assumption) ?_
    rotate_left
    · (intro w hSw; (try dsimp only at hSw); go_simp; try with_reducible rfl)
    try simp only [Act.put, List.setIfInBounds_toArray, List.set_cons_zero, List.set_cons_succ]
    refine wpAnyH_take (i := 9) (v := ?_) (by simp only [List.getElem?_toArray, List.getElem?_cons_succ, List.getElem?_cons_zero]; rfl) (by kernel_rfl) (by kernel_rfl) (by kernel_rfl) (fun _ _ _ h => h) (Or.inl ⟨by rfl, ?_⟩) (by assumption) ?_
    rotate_left
    · (intro w hSw; (try dsimp only at hSw); go_simp; try with_reducible rfl)
    try simp only [Act.put, List.setIfInBounds_toArray, List.set_cons_zero, List.set_cons_succ]
    refine wpAnyH_ready (rs := [3]) (by kernel_rfl) (by simp) ?_
    refine AllReadyH.cons (by simp only [List.getElem?_toArray, List.getElem?_cons_succ, List.getElem?_cons_zero]; rfl) (fun K hK => ?_) AllReadyH.nil
    go_simp
    go_at_call 31
    refine (num_w p1 R1.out rfl ck _).mono ?_
    rintro e v7 ⟨rfl, k7⟩
    go_wp2_with fail
    refine hK.out _ _ (⟨bstep hHeld.1 k7, (hHeld.2.1).below k7, Msg.keepC hHeld.2.2.1 k7, Msg.keepC hHeld.2.2.2.1 k7, Msg.keepC hHeld.2.2.2.2.1 k7, Msg.keepC hHeld.2.2.2.2.2.1 k7, Msg.keepC hHeld.2.2.2.2.2.2.1 k7, Msg.keepC hHeld.2.2.2.2.2.2.2.1 k7, Msg.keepC hHeld.2.2.2.2.2.2.2.2.1 k7, Msg.keepC hHeld.2.2.2.2.2.2.2.2.2.1 k7, Msg.keepC hHeld.2.2.2.2.2.2.2.2.2.2.1 k7, Msg.keepC hHeld.2.2.2.2.2.2.2.2.2.2.2 k7⟩) (fun hHeld => ?_)
    clear hK K k7
    try simp only [Act.put, List.setIfInBounds_toArray, List.set_cons_zero, List.set_cons_succ]
    refine wpAnyH_ready (rs := [6]) (by kernel_rfl) (by simp) ?_
    refine AllReadyH.cons (by simp only [List.getElem?_toArray, List.getElem?_cons_succ, List.getElem?_cons_zero]; rfl) (fun K hK => ?_) AllReadyH.nil
    go_simp
    go_at_call 32
    refine (text_is p2 R2.out ok1 _).mono ?_
    rintro e v8 ⟨rfl, k8⟩
    go_wp2_with fail
    refine hK.out _ _ (⟨bstep hHeld.1 k8, (hHeld.2.1).below k8, Msg.keepC hHeld.2.2.1 k8, Msg.keepC hHeld.2.2.2.1 k8, Msg.keepC hHeld.2.2.2.2.1 k8, Msg.keepC hHeld.2.2.2.2.2.1 k8, Msg.keepC hHeld.2.2.2.2.2.2.1 k8, Msg.keepC hHeld.2.2.2.2.2.2.2.1 k8, Msg.keepC hHeld.2.2.2.2.2.2.2.2.1 k8, Msg.keepC hHeld.2.2.2.2.2.2.2.2.2.1 k8, Msg.keepC hHeld.2.2.2.2.2.2.2.2.2.2.1 k8, Msg.keepC hHeld.2.2.2.2.2.2.2.2.2.2.2 k8⟩) (fun hHeld => ?_)
    clear hK K k8
    try simp only [Act.put, List.setIfInBounds_toArray, List.set_cons_zero, List.set_cons_succ]
    refine wpAnyH_take (i := 7) (v := ?_) (by simp only [List.getElem?_toArray, List.getElem?_cons_succ, List.getElem?_cons_zero]; rfl) (by kernel_rfl) (by kernel_rfl) (by kernel_rfl) (fun _ _ _ h => h) (Or.inl ⟨by rfl, ?_⟩) (by assumption) ?_
    rotate_left
    · (intro w hSw; (try dsimp only at hSw); go_simp; try with_reducible rfl)
    try simp only [Act.put, List.setIfInBounds_toArray, List.set_cons_zero, List.set_cons_succ]
    refine wpAnyH_ready (rs := [10]) (by kernel_rfl) (by simp) ?_
    refine AllReadyH.cons (by simp only [List.getElem?_toArray, List.getElem?_cons_succ, List.getElem?_cons_zero]; rfl) (fun K hK => ?_) AllReadyH.nil
    go_simp
    go_at_call 32
    refine (text_is p3 R3.out ok2 _).mono ?_
    rintro e v9 ⟨rfl, k9⟩
    go_wp2_with fail
    refine hK.out _ _ (⟨bstep hHeld.1 k9, (hHeld.2.1).below k9, Msg.keepC hHeld.2.2.1 k9, Msg.keepC hHeld.2.2.2.1 k9, Msg.keepC hHeld.2.2.2.2.1 k9, Msg.keepC hHeld.2.2.2.2.2.1 k9, Msg.keepC hHeld.2.2.2.2.2.2.1 k9, Msg.keepC hHeld.2.2.2.2.2.2.2.1 k9, Msg.keepC hHeld.2.2.2.2.2.2.2.2.1 k9, Msg.keepC hHeld.2.2.2.2.2.2.2.2.2.1 k9, Msg.keepC hHeld.2.2.2.2.2.2.2.2.2.2.1 k9, Msg.keepC hHeld.2.2.2.2.2.2.2.2.2.2.2 k9⟩) (fun hHeld => ?_)
    clear hK K k9
    try simp only [Act.put, List.setIfInBounds_toArray, List.set_cons_zero, List.set_cons_succ]
    refine wpAnyH_take (i := 11) (v := ?_) (by simp only [List.getElem?_toArray, List.getElem?_cons_succ, List.getElem?_cons_zero]; rfl) (by kernel_rfl) (by kernel_rfl) (by kernel_rfl) (fun _ _ _ h => h) (Or.inl ⟨by rfl, ?_⟩) (by assumption) ?_
    rotate_left
    · (intro w hSw; (try dsimp only at hSw); go_simp; try with_reducible rfl)
    try simp only [Act.put, List.setIfInBounds_toArray, List.set_cons_zero, List.set_cons_succ]
    refine wpAnyH_take (i := 12) (v := ?_) (by simp only [List.getElem?_toArray, List.getElem?_cons_succ, List.getElem?_cons_zero]; rfl) (by kernel_rfl) (by kernel_rfl) (by kernel_rfl) (fun _ _ _ h => h) (Or.inl ⟨by rfl, ?_⟩) (by assumption) ?_
    rotate_left
    · (intro w hSw; (try dsimp only at hSw); go_simp; try with_reducible rfl)
    try simp only [Act.put, List.setIfInBounds_toArray, List.set_cons_zero, List.set_cons_succ]
    refine wpAnyH_done (by kernel_rfl) ?_ _
    refine NoPanic.normal ?_
    clear hb lA x0 x1 x2 x3 x4 x5 x6 x7 x8 x9
    obtain ⟨hb, lA, x0, x1, x2, x3, x4, x5, x6, x7, x8, x9⟩ := hHeld
    replace lA := Lib.hid lA
    go_wp2_with fail
    refine wp_region_noPanic ?_
    refine wp_region_held_drew (S := (fun w' => Below w.heap.size w w' ∧ Lies w' a all.length all ∧ w'.cell? ⟨w.heap.size, 0, none⟩ = some (.int .u8 (k : Int)) ∧ w'.cell? ⟨w.heap.size, 1, none⟩ = some (.string ⟨src.toArray⟩) ∧ w'.cell? ⟨w.heap.size, 2, none⟩ = some (.string ⟨dst.toArray⟩) ∧ w'.cell? ⟨w.heap.size, 3, none⟩ = some (.string ⟨fr.toArray⟩) ∧ w'.cell? ⟨w.heap.size, 4, none⟩ = some (.int .u64 (seq : Int)) ∧ w'.cell? ⟨w.heap.size, 5, none⟩ = some (.slice a all.length c) ∧ w'.cell? ⟨w.heap.size, 6, none⟩ = some (.int .u64 (id : Int)) ∧ w'.cell? ⟨w.heap.size, 7, none⟩ = some (.int .i64 (i : Int)) ∧ w'.cell? ⟨w.heap.size, 8, none⟩ = some (.int .i64 (n : Int)) ∧ w'.cell? ⟨w.heap.size, 9, none⟩ = some (.string ⟨tx.toArray⟩))) (by kernel_rfl) (⟨Below.drew hb, (lA.out).below (Below.drew (Below.refl _ _)), Msg.keepC x0 (Below.drew (Below.refl _ _)), Msg.keepC x1 (Below.drew (Below.refl _ _)), Msg.keepC x2 (Below.drew (Below.refl _ _)), Msg.keepC x3 (Below.drew (Below.refl _ _)), Msg.keepC x4 (Below.drew (Below.refl _ _)), Msg.keepC x5 (Below.drew (Below.refl _ _)), Msg.keepC x6 (Below.drew (Below.refl _ _)), Msg.keepC x7 (Below.drew (Below.refl _ _)), Msg.keepC x8 (Below.drew (Below.refl _ _)), Msg.keepC x9 (Below.drew (Below.refl _ _))⟩) (fun hHeld => ?_)
    refine wpAnyH_take (i := 0) (v := ?_) (by simp only [List.getElem?_toArray, List.getElem?_cons_zero]; rfl) (by kernel_rfl) (by kernel_rfl) (by kernel_rfl) (fun _ _ _ h => h) (Or.inl ⟨by rfl, ?_⟩) (by assumption) ?_
    rotate_left
    · (intro w hSw; (try dsimp only at hSw); go_simp; try with_reducible rfl)
    try simp only [Act.put, List.setIfInBounds_toArray, List.set_cons_zero, List.set_cons_succ]
    refine wpAnyH_take (i := 1) (v := ?_) (by simp only [List.getElem?_toArray, List.getElem?_cons_succ, List.getElem?_cons_zero]; rfl) (by kernel_rfl) (by kernel_rfl) (by kernel_rfl) (fun _ _ _ h => h) (Or.inl ⟨by rfl, ?_⟩) (by assumption) ?_
    rotate_left
    · (intro w hSw; (try dsimp only at hSw); go_simp; try with_reducible rfl)
    try simp only [Act.put, List.setIfInBounds_toArray, List.set_cons_zero, List.set_cons_succ]
    refine wpAnyH_take (i := 2) (v := ?_) (by simp only [List.getElem?_toArray, List.getElem?_cons_succ, List.getElem?_cons_zero]; rfl) (by kernel_rfl) (by kernel_rfl) (by kernel_rfl) (fun _ _ _ h => h) (Or.inl ⟨by rfl, ?_⟩) (by assumption) ?_
    rotate_left
    · (intro w hSw; (try dsimp only at hSw); go_simp; try with_reducible rfl)
    try simp only [Act.put, List.setIfInBounds_toArray, List.set_cons_zero, List.set_cons_succ]
    refine wpAnyH_take (i := 5) (v := ?_) (by simp only [List.getElem?_toArray, List.getElem?_cons_succ, List.getElem?_cons_zero]; rfl) (by kernel_rfl) (by kernel_rfl) (by kernel_rfl) (fun _ _ _ h => h) (Or.inl ⟨by rfl, ?_⟩) (by assumption) ?_
    rotate_left
    · (intro w hSw; (try dsimp only at hSw); go_simp; try with_reducible rfl)
    try simp only [Act.put, List.setIfInBounds_toArray, List.set_cons_zero, List.set_cons_succ]
    refine wpAnyH_take (i := 6) (v := ?_) (by simp only [List.getElem?_toArray, List.getElem?_cons_succ, List.getElem?_cons_zero]; rfl) (by kernel_rfl) (by kernel_rfl) (by kernel_rfl) (fun _ _ _ h => h) (Or.inl ⟨by rfl, ?_⟩) (by assumption) ?_
    rotate_left
    · (intro w hSw; (try dsimp only at hSw); go_simp; try with_reducible rfl)
    try simp only [Act.put, List.setIfInBounds_toArray, List.set_cons_zero, List.set_cons_succ]
    refine wpAnyH_take (i := 7) (v := ?_) (by simp only [List.getElem?_toArray, List.getElem?_cons_succ, List.getElem?_cons_zero]; rfl) (by kernel_rfl) (by kernel_rfl) (by kernel_rfl) (fun _ _ _ h => h) (Or.inl ⟨by rfl, ?_⟩) (by assumption) ?_
    rotate_left
    · (intro w hSw; (try dsimp only at hSw); go_simp; try with_reducible rfl)
    try simp only [Act.put, List.setIfInBounds_toArray, List.set_cons_zero, List.set_cons_succ]
    refine wpAnyH_take (i := 10) (v := ?_) (by simp only [List.getElem?_toArray, List.getElem?_cons_succ, List.getElem?_cons_zero]; rfl) (by kernel_rfl) (by kernel_rfl) (by kernel_rfl) (fun _ _ _ h => h) (Or.inl ⟨by rfl, ?_⟩) (by assumption) ?_
    rotate_left
    · (intro w hSw; (try dsimp only at hSw); go_simp; try with_reducible rfl)
    try simp only [Act.put, List.setIfInBounds_toArray, List.set_cons_zero, List.set_cons_succ]
    refine wpAnyH_take (i := 11) (v := ?_) (by simp only [List.getElem?_toArray, List.getElem?_cons_succ, List.getElem?_cons_zero]; rfl) (by kernel_rfl) (by kernel_rfl) (by kernel_rfl) (fun _ _ _ h => h) (Or.inl ⟨by rfl, ?_⟩) (by assumption) ?_
    rotate_left
    · (intro w hSw; (try dsimp only at hSw); go_simp; try with_reducible rfl)
    try simp only [Act.put, List.setIfInBounds_toArray, List.set_cons_zero, List.set_cons_succ]
    refine wpAnyH_take (i := 12) (v := ?_) (by simp only [List.getElem?_toArray, List.getElem?_cons_succ, List.getElem?_cons_zero]; rfl) (by kernel_rfl) (by kernel_rfl) (by kernel_rfl) (fun _ _ _ h => h) (Or.inl ⟨by rfl, ?_⟩) (by assumption) ?_
    rotate_left
    · (intro w hSw; (try dsimp only at hSw); go_simp; try with_reducible rfl)
    try simp only [Act.put, List.setIfInBounds_toArray, List.set_cons_zero, List.set_cons_succ]
    refine wpAnyH_take (i := 13) (v := ?_) (by simp only [List.getElem?_toArray, List.getElem?_cons_succ, List.getElem?_cons_zero]; rfl) (by kernel_rfl) (by kernel_rfl) (by kernel_rfl) (fun _ _ _ h => h) (Or.inl ⟨by rfl, ?_⟩) (by assumption) ?_
    rotate_left
    · (intro w hSw; (try dsimp only at hSw); go_simp; try with_reducible rfl)
    try simp only [Act.put, List.setIfInBounds_toArray, List.set_cons_zero, List.set_cons_succ]
    refine wpAnyH_take (i := 16) (v := ?_) (by simp only [List.getElem?_toArray, List.getElem?_cons_succ, List.getElem?_cons_zero]; rfl) (by kernel_rfl) (by kernel_rfl) (by kernel_rfl) (fun _ _ _ h => h) (Or.inl ⟨by rfl, ?_⟩) (by assumption) ?_
    rotate_left
    · (intro w hSw; (try dsimp only at hSw); go_simp; try with_reducible rfl)
    try simp only [Act.put, List.setIfInBounds_toArray, List.set_cons_zero, List.set_cons_succ]
    refine wpAnyH_take (i := 17) (v := ?_) (by simp only [List.getElem?_toArray, List.getElem?_cons_succ, List.getElem?_cons_zero]; rfl) (by kernel_rfl) (by kernel_rfl) (by kernel_rfl) (fun _ _ _ h => h) (Or.inl ⟨by rfl, ?_⟩) (by assumption) ?_
    rotate_left
    · (intro w hSw; (try dsimp only at hSw); go_simp; try with_reducible rfl)
    try simp only [Act.put, List.setIfInBounds_toArray, List.set_cons_zero, List.set_cons_succ]
    refine wpAnyH_take (i := 18) (v := ?_) (by simp only [List.getElem?_toArray, List.getElem?_cons_succ, List.getElem?_cons_zero]; rfl) (by kernel_rfl) (by kernel_rfl) (by kernel_rfl) (fun _ _ _ h => h) (Or.inl ⟨by rfl, ?_⟩) (by assumption) ?_
    rotate_left
    · (intro w hSw; (try dsimp only at hSw); go_simp; try with_reducible rfl)
    try simp only [Act.put, List.setIfInBounds_toArray, List.set_cons_zero, List.set_cons_succ]
    refine wpAnyH_take (i := 19) (v := ?_) (by simp only [List.getElem?_toArray, List.getElem?_cons_succ, List.getElem?_cons_zero]; rfl) (by kernel_rfl) (by kernel_rfl) (by kernel_rfl) (fun _ _ _ h => h) (Or.inl ⟨by rfl, ?_⟩) (by assumption) ?_
    rotate_left
    · (intro w hSw; (try dsimp only at hSw); go_simp; try with_reducible rfl)
    try simp only [Act.put, List.setIfInBounds_toArray, List.set_cons_zero, List.set_cons_succ]
    refine wpAnyH_take (i := 22) (v := ?_) (by simp only [List.getElem?_toArray, List.getElem?_cons_succ, List.getElem?_cons_zero]; rfl) (by kernel_rfl) (by kernel_rfl) (by kernel_rfl) (fun _ _ _ h => h) (Or.inl ⟨by rfl, ?_⟩) (by assumption) ?_
    rotate_left
    · (intro w hSw; (try dsimp only at hSw); go_simp; try with_reducible rfl)
    try simp only [Act.put, List.setIfInBounds_toArray, List.set_cons_zero, List.set_cons_succ]
    refine wpAnyH_take (i := 23) (v := ?_) (by simp only [List.getElem?_toArray, List.getElem?_cons_succ, List.getElem?_cons_zero]; rfl) (by kernel_rfl) (by kernel_rfl) (by kernel_rfl) (fun _ _ _ h => h) (Or.inl ⟨by rfl, ?_⟩) (by assumption) ?_
    rotate_left
    · (intro w hSw; (try dsimp only at hSw); go_simp; try with_reducible rfl)
    try simp only [Act.put, List.setIfInBounds_toArray, List.set_cons_zero, List.set_cons_succ]
    refine wpAnyH_take (i := 24) (v := ?_) (by simp only [List.getElem?_toArray, List.getElem?_cons_succ, List.getElem?_cons_zero]; rfl) (by kernel_rfl) (by kernel_rfl) (by kernel_rfl) (fun _ _ _ h => h) (Or.inl ⟨by rfl, ?_⟩) (by assumption) ?_
    rotate_left
    · (intro w hSw; (try dsimp only at hSw); go_simp; try with_reducible rfl)
    try simp only [Act.put, List.setIfInBounds_toArray, List.set_cons_zero, List.set_cons_succ]
    refine wpAnyH_ready (rs := [3]) (by kernel_rfl) (by simp) ?_
    refine AllReadyH.cons (by simp only [List.getElem?_toArray, List.getElem?_cons_succ, List.getElem?_cons_zero]; rfl) (fun K hK => ?_) AllReadyH.nil
    go_simp
    go_at_call 33
    refine (marks_is V hV.out jV hal oA.out _ hHeld.2.1).mono ?_
    rintro e v10 ⟨rfl, k10⟩
    go_wp2_with fail
    refine hK.out _ _ (⟨bstep hHeld.1 k10, (hHeld.2.1).below k10, Msg.keepC hHeld.2.2.1 k10, Msg.keepC hHeld.2.2.2.1 k10, Msg.keepC hHeld.2.2.2.2.1 k10, Msg.keepC hHeld.2.2.2.2.2.1 k10, Msg.keepC hHeld.2.2.2.2.2.2.1 k10, Msg.keepC hHeld.2.2.2.2.2.2.2.1 k10, Msg.keepC hHeld.2.2.2.2.2.2.2.2.1 k10, Msg.keepC hHeld.2.2.2.2.2.2.2.2.2.1 k10, Msg.keepC hHeld.2.2.2.2.2.2.2.2.2.2.1 k10, Msg.keepC hHeld.2.2.2.2.2.2.2.2.2.2.2 k10⟩) (fun hHeld => ?_)
    clear hK K k10
    try simp only [Act.put, List.setIfInBounds_toArray, List.set_cons_zero, List.set_cons_succ]
    refine wpAnyH_take (i := 4) (v := ?_) (by simp only [List.getElem?_toArray, List.getElem?_cons_succ, List.getElem?_cons_zero]; rfl) (by kernel_rfl) (by kernel_rfl) (by kernel_rfl) (fun _ _ _ h => h) (Or.inl ⟨by rfl, ?_⟩) (by assumption) ?_
    rotate_left
    · (intro w hSw; (try dsimp only at hSw); go_simp; try with_reducible rfl)
    try simp only [Act.put, List.setIfInBounds_toArray, List.set_cons_zero, List.set_cons_succ]
    refine wpAnyH_ready (rs := [8]) (by kernel_rfl) (by simp) ?_
    refine AllReadyH.cons (by simp only [List.getElem?_toArray, List.getElem?_cons_succ, List.getElem?_cons_zero]; rfl) (fun K hK => ?_) AllReadyH.nil
    go_simp
    go_at_call 31
    refine (num_w I1 hI1.out rfl ok7 _).mono ?_
    rintro e v11 ⟨rfl, k11⟩
    go_wp2_with fail
    refine hK.out _ _ (⟨bstep hHeld.1 k11, (hHeld.2.1).below k11, Msg.keepC hHeld.2.2.1 k11, Msg.keepC hHeld.2.2.2.1 k11, Msg.keepC hHeld.2.2.2.2.1 k11, Msg.keepC hHeld.2.2.2.2.2.1 k11, Msg.keepC hHeld.2.2.2.2.2.2.1 k11, Msg.keepC hHeld.2.2.2.2.2.2.2.1 k11, Msg.keepC hHeld.2.2.2.2.2.2.2.2.1 k11, Msg.keepC hHeld.2.2.2.2.2.2.2.2.2.1 k11, Msg.keepC hHeld.2.2.2.2.2.2.2.2.2.2.1 k11, Msg.keepC hHeld.2.2.2.2.2.2.2.2.2.2.2 k11⟩) (fun hHeld => ?_)
    clear hK K k11
    try simp only [Act.put, List.setIfInBounds_toArray, List.set_cons_zero, List.set_cons_succ]
    refine wpAnyH_take (i := 9) (v := ?_) (by simp only [List.getElem?_toArray, List.getElem?_cons_succ, List.getElem?_cons_zero]; rfl) (by kernel_rfl) (by kernel_rfl) (by kernel_rfl) (fun _ _ _ h => h) (Or.inl ⟨by rfl, ?_⟩) (by assumption) ?_
    rotate_left
    · (intro w hSw; (try dsimp only at hSw); go_simp; try with_reducible rfl)
    try simp only [Act.put, List.setIfInBounds_toArray, List.set_cons_zero, List.set_cons_succ]
    refine wpAnyH_ready (rs := [14]) (by kernel_rfl) (by simp) ?_
    refine AllReadyH.cons (by simp only [List.getElem?_toArray, List.getElem?_cons_succ, List.getElem?_cons_zero]; rfl) (fun K hK => ?_) AllReadyH.nil
    go_simp
    go_at_call 31
    refine (num_w I2 hI2.out rfl (by omega) _).mono ?_
    rintro e v12 ⟨rfl, k12⟩
    go_wp2_with fail
    refine hK.out _ _ (⟨bstep hHeld.1 k12, (hHeld.2.1).below k12, Msg.keepC hHeld.2.2.1 k12, Msg.keepC hHeld.2.2.2.1 k12, Msg.keepC hHeld.2.2.2.2.1 k12, Msg.keepC hHeld.2.2.2.2.2.1 k12, Msg.keepC hHeld.2.2.2.2.2.2.1 k12, Msg.keepC hHeld.2.2.2.2.2.2.2.1 k12, Msg.keepC hHeld.2.2.2.2.2.2.2.2.1 k12, Msg.keepC hHeld.2.2.2.2.2.2.2.2.2.1 k12, Msg.keepC hHeld.2.2.2.2.2.2.2.2.2.2.1 k12, Msg.keepC hHeld.2.2.2.2.2.2.2.2.2.2.2 k12⟩) (fun hHeld => ?_)
    clear hK K k12
    try simp only [Act.put, List.setIfInBounds_toArray, List.set_cons_zero, List.set_cons_succ]
    refine wpAnyH_take (i := 15) (v := ?_) (by simp only [List.getElem?_toArray, List.getElem?_cons_succ, List.getElem?_cons_zero]; rfl) (by kernel_rfl) (by kernel_rfl) (by kernel_rfl) (fun _ _ _ h => h) (Or.inl ⟨by rfl, ?_⟩) (by assumption) ?_
    rotate_left
    · (intro w hSw; (try dsimp only at hSw); go_simp; try with_reducible rfl)
    try simp only [Act.put, List.setIfInBounds_toArray, List.set_cons_zero, List.set_cons_succ]
    refine wpAnyH_ready (rs := [20]) (by kernel_rfl) (by simp) ?_
    refine AllReadyH.cons (by simp only [List.getElem?_toArray, List.getElem?_cons_succ, List.getElem?_cons_zero]; rfl) (fun K hK => ?_) AllReadyH.nil
    go_simp
    go_at_call 31
    refine (num_w I3 hI3.out rfl (by omega) _).mono ?_
    rintro e v13 ⟨rfl, k13⟩
    go_wp2_with fail
    refine hK.out _ _ (⟨bstep hHeld.1 k13, (hHeld.2.1).below k13, Msg.keepC hHeld.2.2.1 k13, Msg.keepC hHeld.2.2.2.1 k13, Msg.keepC hHeld.2.2.2.2.1 k13, Msg.keepC hHeld.2.2.2.2.2.1 k13, Msg.keepC hHeld.2.2.2.2.2.2.1 k13, Msg.keepC hHeld.2.2.2.2.2.2.2.1 k13, Msg.keepC hHeld.2.2.2.2.2.2.2.2.1 k13, Msg.keepC hHeld.2.2.2.2.2.2.2.2.2.1 k13, Msg.keepC hHeld.2.2.2.2.2.2.2.2.2.2.1 k13, Msg.keepC hHeld.2.2.2.2.2.2.2.2.2.2.2 k13⟩) (fun hHeld => ?_)
    clear hK K k13
    try simp only [Act.put, List.setIfInBounds_toArray, List.set_cons_zero, List.set_cons_succ]
    refine wpAnyH_take (i := 21) (v := ?_) (by simp only [List.getElem?_toArray, List.getElem?_cons_succ, List.getElem?_cons_zero]; rfl) (by kernel_rfl) (by kernel_rfl) (by kernel_rfl) (fun _ _ _ h => h) (Or.inl ⟨by rfl, ?_⟩) (by assumption) ?_
    rotate_left
    · (intro w hSw; (try dsimp only at hSw); go_simp; try with_reducible rfl)
    try simp only [Act.put, List.setIfInBounds_toArray, List.set_cons_zero, List.set_cons_succ]
    refine wpAnyH_ready (rs := [25]) (by kernel_rfl) (by simp) ?_
    refine AllReadyH.cons (by simp only [List.getElem?_toArray, List.getElem?_cons_succ, List.getElem?_cons_zero]; rfl) (fun K hK => ?_) AllReadyH.nil
    go_simp
    go_at_call 32
    refine (text_is X hX.out ok10 _).mono ?_
    rintro e v14 ⟨rfl, k14⟩
    go_wp2_with fail
    refine hK.out _ _ (⟨bstep hHeld.1 k14, (hHeld.2.1).below k14, Msg.keepC hHeld.2.2.1 k14, Msg.keepC hHeld.2.2.2.1 k14, Msg.keepC hHeld.2.2.2.2.1 k14, Msg.keepC hHeld.2.2.2.2.2.1 k14, Msg.keepC hHeld.2.2.2.2.2.2.1 k14, Msg.keepC hHeld.2.2.2.2.2.2.2.1 k14, Msg.keepC hHeld.2.2.2.2.2.2.2.2.1 k14, Msg.keepC hHeld.2.2.2.2.2.2.2.2.2.1 k14, Msg.keepC hHeld.2.2.2.2.2.2.2.2.2.2.1 k14, Msg.keepC hHeld.2.2.2.2.2.2.2.2.2.2.2 k14⟩) (fun hHeld => ?_)
    clear hK K k14
    try simp only [Act.put, List.setIfInBounds_toArray, List.set_cons_zero, List.set_cons_succ]
    refine wpAnyH_take (i := 26) (v := ?_) (by simp only [List.getElem?_toArray, List.getElem?_cons_succ, List.getElem?_cons_zero]; rfl) (by kernel_rfl) (by kernel_rfl) (by kernel_rfl) (fun _ _ _ h => h) (Or.inl ⟨by rfl, ?_⟩) (by assumption) ?_
    rotate_left
    · (intro w hSw; (try dsimp only at hSw); go_simp; try with_reducible rfl)
    try simp only [Act.put, List.setIfInBounds_toArray, List.set_cons_zero, List.set_cons_succ]
    refine wpAnyH_take (i := 27) (v := ?_) (by simp only [List.getElem?_toArray, List.getElem?_cons_succ, List.getElem?_cons_zero]; rfl) (by kernel_rfl) (by kernel_rfl) (by kernel_rfl) (fun _ _ _ h => h) (Or.inl ⟨by rfl, ?_⟩) (by assumption) ?_
    rotate_left
    · (intro w hSw; (try dsimp only at hSw); go_simp; try with_reducible rfl)
    try simp only [Act.put, List.setIfInBounds_toArray, List.set_cons_zero, List.set_cons_succ]
    refine wpAnyH_done (by kernel_rfl) ?_ _
    refine NoPanic.normal ?_
    clear hb lA x0 x1 x2 x3 x4 x5 x6 x7 x8 x9
    obtain ⟨hb, lA, x0, x1, x2, x3, x4, x5, x6, x7, x8, x9⟩ := hHeld
    replace lA := Lib.hid lA
    go_wp2
    go_ret
    exact ⟨by rw [HV.out]; rfl, hb⟩
  by_cases k2 : k = 2
  · skip
    have zz1 : ((k : Int) == 1) = false := by rw [beq_eq_false_iff_ne]; omega
    have zz2 : ((k : Int) == 2) = true := by rw [beq_iff_eq]; omega
    have zz3 : ((k : Int) == 3) = false := by rw [beq_eq_false_iff_ne]; omega
    have zz4 : ((k : Int) == 4) = false := by rw [beq_eq_false_iff_ne]; omega
    obtain ⟨Q, hQ⟩ : ∃ p, upL seq = p := ⟨_, rfl⟩
    have zQ := Str.size_mk Q
    obtain ⟨C0, hC0⟩ : ∃ p, H ++ Q = p := ⟨_, rfl⟩
    have lC0 : C0.length = H.length + Q.length := by rw [← hC0, List.length_append]
    have aC0 : (({ data := H.toArray } : ByteArray)) ++ { data := Q.toArray } = { data := C0.toArray } := by rw [← hC0]; exact Str.mk_append_mk H Q
    have zC0 := Str.size_mk C0
    have HV : bodyL ⟨k, src, dst, fr, seq, all, id, (i : Int), (n : Int), tx⟩ = C0 := by
      unfold bodyL
      simp only [Int.toNat_natCast]
      rw [if_neg k1, if_pos k2, HHv.out]
      rw [← hC0, ← hQ]
    rw [HV] at hbl
    replace HV := Lib.hid HV
    have nC0 : ¬ (9223372036854775807 < H.length + Q.length) := by omega
    have mC0 : ¬ (H.length + Q.length > 9223372036854775807) := by omega
    replace hQ := Lib.hid hQ
    replace hC0 := Lib.hid hC0
    replace lC0 := Lib.hid lC0
    replace l12 := Lib.hid l12
    replace lH := Lib.hid lH
    replace k1 := Lib.hid k1
    replace k2 := Lib.hid k2
    go_enter Tryd.func20, Tryd.ntmps20
    have x0 := bm.out 0 (.int .u8 (k : Int)) rfl
    have x1 := bm.out 1 (.string ⟨src.toArray⟩) rfl
    have x2 := bm.out 2 (.string ⟨dst.toArray⟩) rfl
    have x3 := bm.out 3 (.string ⟨fr.toArray⟩) rfl
    have x4 := bm.out 4 (.int .u64 (seq : Int)) rfl
    have x5 := bm.out 5 (.slice a all.length c) rfl
    have x6 := bm.out 6 (.int .u64 (id : Int)) rfl
    have x7 := bm.out 7 (.int .i64 (i : Int)) rfl
    have x8 := bm.out 8 (.int .i64 (n : Int)) rfl
    have x9 := bm.out 9 (.string ⟨tx.toArray⟩) rfl
    clear bm
    go_wp2_with fail
    refine wp_region_noPanic ?_
    refine wp_region_held_drew (S := (fun w' => Below w.heap.size w w' ∧ Lies w' a all.length all ∧ w'.cell? ⟨w.heap.size, 0, none⟩ = some (.int .u8 (k : Int)) ∧ w'.cell? ⟨w.heap.size, 1, none⟩ = some (.string ⟨src.toArray⟩) ∧ w'.cell? ⟨w.heap.size, 2, none⟩ = some (.string ⟨dst.toArray⟩) ∧ w'.cell? ⟨w.heap.size, 3, none⟩ = some (.string ⟨fr.toArray⟩) ∧ w'.cell? ⟨w.heap.size, 4, none⟩ = some (.int .u64 (seq : Int)) ∧ w'.cell? ⟨w.heap.size, 5, none⟩ = some (.slice a all.length c) ∧ w'.cell? ⟨w.heap.size, 6, none⟩ = some (.int .u64 (id : Int)) ∧ w'.cell? ⟨w.heap.size, 7, none⟩ = some (.int .i64 (i : Int)) ∧ w'.cell? ⟨w.heap.size, 8, none⟩ = some (.int .i64 (n : Int)) ∧ w'.cell? ⟨w.heap.size, 9, none⟩ = some (.string ⟨tx.toArray⟩))) (by kernel_rfl) (⟨Below.drew hb, (lA.out).below (Below.drew (Below.refl _ _)), Msg.keepC x0 (Below.drew (Below.refl _ _)), Msg.keepC x1 (Below.drew (Below.refl _ _)), Msg.keepC x2 (Below.drew (Below.refl _ _)), Msg.keepC x3 (Below.drew (Below.refl _ _)), Msg.keepC x4 (Below.drew (Below.refl _ _)), Msg.keepC x5 (Below.drew (Below.refl _ _)), Msg.keepC x6 (Below.drew (Below.refl _ _)), Msg.keepC x7 (Below.drew (Below.refl _ _)), Msg.keepC x8 (Below.drew (Below.refl _ _)), Msg.keepC x9 (Below.drew (Below.refl _ _))⟩) (fun hHeld => ?_)
    refine wpAnyH_take (i := 0) (v := ?_) (by simp only [List.getElem?_toArray, List.getElem?_cons_zero]; rfl) (by kernel_rfl) (by kernel_rfl) (by kernel_rfl) (fun _ _ _ h => h) (Or.inl ⟨by rfl, ?_⟩) (by assumption) ?_
    rotate_left
    · (intro w hSw; (try dsimp only at hSw); go_simp; try with_reducible rfl)
    try simp only [Act.put, List.setIfInBounds_toArray, List.set_cons_zero, List.set_cons_succ]
    refine wpAnyH_take (i := 1) (v := ?_) (by simp only [List.getElem?_toArray, List.getElem?_cons_succ, List.getElem?_cons_zero]; rfl) (by kernel_rfl) (by kernel_rfl) (by kernel_rfl) (fun _ _ _ h => h) (Or.inl ⟨by rfl, ?_⟩) (by assumption) ?_
    rotate_left
    · (intro w hSw; (try dsimp only at hSw); go_simp; try with_reducible rfl)
    try simp only [Act.put, List.setIfInBounds_toArray, List.set_cons_zero, List.set_cons_succ]
    refine wpAnyH_take (i := 2) (v := ?_) (by simp only [List.getElem?_toArray, List.getElem?_cons_succ, List.getElem?_cons_zero]; rfl) (by kernel_rfl) (by kernel_rfl) (by kernel_rfl) (fun _ _ _ h => h) (Or.inl ⟨by rfl, ?_⟩) (by assumption) ?_
    rotate_left
    · (intro w hSw; (try dsimp only at hSw); go_simp; try with_reducible rfl)
    try simp only [Act.put, List.setIfInBounds_toArray, List.set_cons_zero, List.set_cons_succ]
    refine wpAnyH_take (i := 4) (v := ?_) (by simp only [List.getElem?_toArray, List.getElem?_cons_succ, List.getElem?_cons_zero]; rfl) (by kernel_rfl) (by kernel_rfl) (by kernel_rfl) (fun _ _ _ h => h) (Or.inl ⟨by rfl, ?_⟩) (by assumption) ?_
    rotate_left
    · (intro w hSw; (try dsimp only at hSw); go_simp; try with_reducible rfl)
    try simp only [Act.put, List.setIfInBounds_toArray, List.set_cons_zero, List.set_cons_succ]
    refine wpAnyH_take (i := 5) (v := ?_) (by simp only [List.getElem?_toArray, List.getElem?_cons_succ, List.getElem?_cons_zero]; rfl) (by kernel_rfl) (by kernel_rfl) (by kernel_rfl) (fun _ _ _ h => h) (Or.inl ⟨by rfl, ?_⟩) (by assumption) ?_
    rotate_left
    · (intro w hSw; (try dsimp only at hSw); go_simp; try with_reducible rfl)
    try simp only [Act.put, List.setIfInBounds_toArray, List.set_cons_zero, List.set_cons_succ]
    refine wpAnyH_take (i := 8) (v := ?_) (by simp only [List.getElem?_toArray, List.getElem?_cons_succ, List.getElem?_cons_zero]; rfl) (by kernel_rfl) (by kernel_rfl) (by kernel_rfl) (fun _ _ _ h => h) (Or.inl ⟨by rfl, ?_⟩) (by assumption) ?_
    rotate_left
    · (intro w hSw; (try dsimp only at hSw); go_simp; try with_reducible rfl)
    try simp only [Act.put, List.setIfInBounds_toArray, List.set_cons_zero, List.set_cons_succ]
    refine wpAnyH_take (i := 9) (v := ?_) (by simp only [List.getElem?_toArray, List.getElem?_cons_succ, List.getElem?_cons_zero]; rfl) (by kernel_rfl) (by kernel_rfl) (by kernel_rfl) (fun _ _ _ h => h) (Or.inl ⟨by rfl, ?_⟩) (by assumption) ?_
    rotate_left
    · (intro w hSw; (try dsimp only at hSw); go_simp; try with_reducible rfl)
    try simp only [Act.put, List.setIfInBounds_toArray, List.set_cons_zero, List.set_cons_succ]
    refine wpAnyH_ready (rs := [3]) (by kernel_rfl) (by simp) ?_
    refine AllReadyH.cons (by simp only [List.getElem?_toArray, List.getElem?_cons_succ, List.getElem?_cons_zero]; rfl) (fun K hK => ?_) AllReadyH.nil
    go_simp
    go_at_call 31
    refine (num_w p1 R1.out rfl ck _).mono ?_
    rintro e v15 ⟨rfl, k15⟩
    go_wp2_with fail
    refine hK.out _ _ (⟨bstep hHeld.1 k15, (hHeld.2.1).below k15, Msg.keepC hHeld.2.2.1 k15, Msg.keepC hHeld.2.2.2.1 k15, Msg.keepC hHeld.2.2.2.2.1 k15, Msg.keepC hHeld.2.2.2.2.2.1 k15, Msg.keepC hHeld.2.2.2.2.2.2.1 k15, Msg.keepC hHeld.2.2.2.2.2.2.2.1 k15, Msg.keepC hHeld.2.2.2.2.2.2.2.2.1 k15, Msg.keepC hHeld.2.2.2.2.2.2.2.2.2.1 k15, Msg.keepC hHeld.2.2.2.2.2.2.2.2.2.2.1 k15, Msg.keepC hHeld.2.2.2.2.2.2.2.2.2.2.2 k15⟩) (fun hHeld => ?_)
    clear hK K k15
    try simp only [Act.put, List.setIfInBounds_toArray, List.set_cons_zero, List.set_cons_succ]
    refine wpAnyH_ready (rs := [6]) (by kernel_rfl) (by simp) ?_
    refine AllReadyH.cons (by simp only [List.getElem?_toArray, List.getElem?_cons_succ, List.getElem?_cons_zero]; rfl) (fun K hK => ?_) AllReadyH.nil
    go_simp
    go_at_call 32
    refine (text_is p2 R2.out ok1 _).mono ?_
    rintro e v16 ⟨rfl, k16⟩
    go_wp2_with fail
    refine hK.out _ _ (⟨bstep hHeld.1 k16, (hHeld.2.1).below k16, Msg.keepC hHeld.2.2.1 k16, Msg.keepC hHeld.2.2.2.1 k16, Msg.keepC hHeld.2.2.2.2.1 k16, Msg.keepC hHeld.2.2.2.2.2.1 k16, Msg.keepC hHeld.2.2.2.2.2.2.1 k16, Msg.keepC hHeld.2.2.2.2.2.2.2.1 k16, Msg.keepC hHeld.2.2.2.2.2.2.2.2.1 k16, Msg.keepC hHeld.2.2.2.2.2.2.2.2.2.1 k16, Msg.keepC hHeld.2.2.2.2.2.2.2.2.2.2.1 k16, Msg.keepC hHeld.2.2.2.2.2.2.2.2.2.2.2 k16⟩) (fun hHeld => ?_)
    clear hK K k16
    try simp only [Act.put, List.setIfInBounds_toArray, List.set_cons_zero, List.set_cons_succ]
    refine wpAnyH_take (i := 7) (v := ?_) (by simp only [List.getElem?_toArray, List.getElem?_cons_succ, List.getElem?_cons_zero]; rfl) (by kernel_rfl) (by kernel_rfl) (by kernel_rfl) (fun _ _ _ h => h) (Or.inl ⟨by rfl, ?_⟩) (by assumption) ?_
    rotate_left
    · (intro w hSw; (try dsimp only at hSw); go_simp; try with_reducible rfl)
    try simp only [Act.put, List.setIfInBounds_toArray, List.set_cons_zero, List.set_cons_succ]
    refine wpAnyH_ready (rs := [10]) (by kernel_rfl) (by simp) ?_
    refine AllReadyH.cons (by simp only [List.getElem?_toArray, List.getElem?_cons_succ, List.getElem?_cons_zero]; rfl) (fun K hK => ?_) AllReadyH.nil
    go_simp
    go_at_call 32
    refine (text_is p3 R3.out ok2 _).mono ?_
    rintro e v17 ⟨rfl, k17⟩
    go_wp2_with fail
    refine hK.out _ _ (⟨bstep hHeld.1 k17, (hHeld.2.1).below k17, Msg.keepC hHeld.2.2.1 k17, Msg.keepC hHeld.2.2.2.1 k17, Msg.keepC hHeld.2.2.2.2.1 k17, Msg.keepC hHeld.2.2.2.2.2.1 k17, Msg.keepC hHeld.2.2.2.2.2.2.1 k17, Msg.keepC hHeld.2.2.2.2.2.2.2.1 k17, Msg.keepC hHeld.2.2.2.2.2.2.2.2.1 k17, Msg.keepC hHeld.2.2.2.2.2.2.2.2.2.1 k17, Msg.keepC hHeld.2.2.2.2.2.2.2.2.2.2.1 k17, Msg.keepC hHeld.2.2.2.2.2.2.2.2.2.2.2 k17⟩) (fun hHeld => ?_)
    clear hK K k17
    try simp only [Act.put, List.setIfInBounds_toArray, List.set_cons_zero, List.set_cons_succ]
    refine wpAnyH_take (i := 11) (v := ?_) (by simp only [List.getElem?_toArray, List.getElem?_cons_succ, List.getElem?_cons_zero]; rfl) (by kernel_rfl) (by kernel_rfl) (by kernel_rfl) (fun _ _ _ h => h) (Or.inl ⟨by rfl, ?_⟩) (by assumption) ?_
    rotate_left
    · (intro w hSw; (try dsimp only at hSw); go_simp; try with_reducible rfl)
    try simp only [Act.put, List.setIfInBounds_toArray, List.set_cons_zero, List.set_cons_succ]
    refine wpAnyH_take (i := 12) (v := ?_) (by simp only [List.getElem?_toArray, List.getElem?_cons_succ, List.getElem?_cons_zero]; rfl) (by kernel_rfl) (by kernel_rfl) (by kernel_rfl) (fun _ _ _ h => h) (Or.inl ⟨by rfl, ?_⟩) (by assumption) ?_
    rotate_left
    · (intro w hSw; (try dsimp only at hSw); go_simp; try with_reducible rfl)
    try simp only [Act.put, List.setIfInBounds_toArray, List.set_cons_zero, List.set_cons_succ]
    refine wpAnyH_done (by kernel_rfl) ?_ _
    refine NoPanic.normal ?_
    clear hb lA x0 x1 x2 x3 x4 x5 x6 x7 x8 x9
    obtain ⟨hb, lA, x0, x1, x2, x3, x4, x5, x6, x7, x8, x9⟩ := hHeld
    replace lA := Lib.hid lA
    go_wp2_with fail
    refine (num_w Q hQ.out rfl ok4 _).mono ?_
    rintro e v18 ⟨rfl, k18⟩
    replace lA := Lib.hid ((lA.out).below k18)
    replace x0 := (Msg.keepC x0 k18)
    replace x1 := (Msg.keepC x1 k18)
    replace x2 := (Msg.keepC x2 k18)
    replace x3 := (Msg.keepC x3 k18)
    replace x4 := (Msg.keepC x4 k18)
    replace x5 := (Msg.keepC x5 k18)
    replace x6 := (Msg.keepC x6 k18)
    replace x7 := (Msg.keepC x7 k18)
    replace x8 := (Msg.keepC x8 k18)
    replace x9 := (Msg.keepC x9 k18)
    replace hb := bstep hb k18
    clear k18
    go_wp2
    go_ret
    exact ⟨by rw [HV.out]; rfl, hb⟩
  by_cases k3 : k = 3
  · skip
    have zz1 : ((k : Int) == 1) = false := by rw [beq_eq_false_iff_ne]; omega
    have zz2 : ((k : Int) == 2) = false := by rw [beq_eq_false_iff_ne]; omega
    have zz3 : ((k : Int) == 3) = true := by rw [beq_iff_eq]; omega
    have zz4 : ((k : Int) == 4) = false := by rw [beq_eq_false_iff_ne]; omega
    obtain ⟨Q, hQ⟩ : ∃ p, upL seq = p := ⟨_, rfl⟩
    have zQ := Str.size_mk Q
    obtain ⟨X, hX⟩ : ∃ p, txtL fr = p := ⟨_, rfl⟩
    have zX := Str.size_mk X
    obtain ⟨C0, hC0⟩ : ∃ p, H ++ Q = p := ⟨_, rfl⟩
    have lC0 : C0.length = H.length + Q.length := by rw [← hC0, List.length_append]
    have aC0 : (({ data := H.toArray } : ByteArray)) ++ { data := Q.toArray } = { data := C0.toArray } := by rw [← hC0]; exact Str.mk_append_mk H Q
    have zC0 := Str.size_mk C0
    obtain ⟨C1, hC1⟩ : ∃ p, C0 ++ X = p := ⟨_, rfl⟩
    have lC1 : C1.length = C0.length + X.length := by rw [← hC1, List.length_append]
    have aC1 : (({ data := C0.toArray } : ByteArray)) ++ { data := X.toArray } = { data := C1.toArray } := by rw [← hC1]; exact Str.mk_append_mk C0 X
    have zC1 := Str.size_mk C1
    have HV : bodyL ⟨k, src, dst, fr, seq, all, id, (i : Int), (n : Int), tx⟩ = C1 := by
      unfold bodyL
      simp only [Int.toNat_natCast]
      rw [if_neg k1, if_neg k2, if_pos k3, HHv.out]
      rw [← hC1, ← hC0, ← hQ, ← hX]
    rw [HV] at hbl
    replace HV := Lib.hid HV
    have nC0 : ¬ (9223372036854775807 < H.length + Q.length) := by omega
    have mC0 : ¬ (H.length + Q.length > 9223372036854775807) := by omega
    have nC1 : ¬ (9223372036854775807 < C0.length + X.length) := by omega
    have mC1 : ¬ (C0.length + X.length > 9223372036854775807) := by omega
    replace hQ := Lib.hid hQ
    replace hX := Lib.hid hX
    replace hC0 := Lib.hid hC0
    replace hC1 := Lib.hid hC1
    replace lC0 := Lib.hid lC0
    replace lC1 := Lib.hid lC1
    replace l12 := Lib.hid l12
    replace lH := Lib.hid lH
    replace k1 := Lib.hid k1
    replace k2 := Lib.hid k2
    replace k3 := Lib.hid k3
    go_enter Tryd.func20, Tryd.ntmps20
    have x0 := bm.out 0 (.int .u8 (k : Int)) rfl
    have x1 := bm.out 1 (.string ⟨src.toArray⟩) rfl
    have x2 := bm.out 2 (.string ⟨dst.toArray⟩) rfl
    have x3 := bm.out 3 (.string ⟨fr.toArray⟩) rfl
    have x4 := bm.out 4 (.int .u64 (seq : Int)) rfl
    have x5 := bm.out 5 (.slice a all.length c) rfl
    have x6 := bm.out 6 (.int .u64 (id : Int)) rfl
    have x7 := bm.out 7 (.int .i64 (i : Int)) rfl
    have x8 := bm.out 8 (.int .i64 (n : Int)) rfl
    have x9 := bm.out 9 (.string ⟨tx.toArray⟩) rfl
    clear bm
    go_wp2_with fail
    refine wp_region_noPanic ?_
    refine wp_region_held_drew (S := (fun w' => Below w.heap.size w w' ∧ Lies w' a all.length all ∧ w'.cell? ⟨w.heap.size, 0, none⟩ = some (.int .u8 (k : Int)) ∧ w'.cell? ⟨w.heap.size, 1, none⟩ = some (.string ⟨src.toArray⟩) ∧ w'.cell? ⟨w.heap.size, 2, none⟩ = some (.string ⟨dst.toArray⟩) ∧ w'.cell? ⟨w.heap.size, 3, none⟩ = some (.string ⟨fr.toArray⟩) ∧ w'.cell? ⟨w.heap.size, 4, none⟩ = some (.int .u64 (seq : Int)) ∧ w'.cell? ⟨w.heap.size, 5, none⟩ = some (.slice a all.length c) ∧ w'.cell? ⟨w.heap.size, 6, none⟩ = some (.int .u64 (id : Int)) ∧ w'.cell? ⟨w.heap.size, 7, none⟩ = some (.int .i64 (i : Int)) ∧ w'.cell? ⟨w.heap.size, 8, none⟩ = some (.int .i64 (n : Int)) ∧ w'.cell? ⟨w.heap.size, 9, none⟩ = some (.string ⟨tx.toArray⟩))) (by kernel_rfl) (⟨Below.drew hb, (lA.out).below (Below.drew (Below.refl _ _)), Msg.keepC x0 (Below.drew (Below.refl _ _)), Msg.keepC x1 (Below.drew (Below.refl _ _)), Msg.keepC x2 (Below.drew (Below.refl _ _)), Msg.keepC x3 (Below.drew (Below.refl _ _)), Msg.keepC x4 (Below.drew (Below.refl _ _)), Msg.keepC x5 (Below.drew (Below.refl _ _)), Msg.keepC x6 (Below.drew (Below.refl _ _)), Msg.keepC x7 (Below.drew (Below.refl _ _)), Msg.keepC x8 (Below.drew (Below.refl _ _)), Msg.keepC x9 (Below.drew (Below.refl _ _))⟩) (fun hHeld => ?_)
    refine wpAnyH_take (i := 0) (v := ?_) (by simp only [List.getElem?_toArray, List.getElem?_cons_zero]; rfl) (by kernel_rfl) (by kernel_rfl) (by kernel_rfl) (fun _ _ _ h => h) (Or.inl ⟨by rfl, ?_⟩) (by assumption) ?_
    rotate_left
    · (intro w hSw; (try dsimp only at hSw); go_simp; try with_reducible rfl)
    try simp only [Act.put, List.setIfInBounds_toArray, List.set_cons_zero, List.set_cons_succ]
    refine wpAnyH_take (i := 1) (v := ?_) (by simp only [List.getElem?_toArray, List.getElem?_cons_succ, List.getElem?_cons_zero]; rfl) (by kernel_rfl) (by kernel_rfl) (by kernel_rfl) (fun _ _ _ h => h) (Or.inl ⟨by rfl, ?_⟩) (by assumption) ?_
    rotate_left
    · (intro w hSw; (try dsimp only at hSw); go_simp; try with_reducible rfl)
    try simp only [Act.put, List.setIfInBounds_toArray, List.set_cons_zero, List.set_cons_succ]
    refine wpAnyH_take (i := 2) (v := ?_) (by simp only [List.getElem?_toArray, List.getElem?_cons_succ, List.getElem?_cons_zero]; rfl) (by kernel_rfl) (by kernel_rfl) (by kernel_rfl) (fun _ _ _ h => h) (Or.inl ⟨by rfl, ?_⟩) (by assumption) ?_
    rotate_left
    · (intro w hSw; (try dsimp only at hSw); go_simp; try with_reducible rfl)
    try simp only [Act.put, List.setIfInBounds_toArray, List.set_cons_zero, List.set_cons_succ]
    refine wpAnyH_take (i := 4) (v := ?_) (by simp only [List.getElem?_toArray, List.getElem?_cons_succ, List.getElem?_cons_zero]; rfl) (by kernel_rfl) (by kernel_rfl) (by kernel_rfl) (fun _ _ _ h => h) (Or.inl ⟨by rfl, ?_⟩) (by assumption) ?_
    rotate_left
    · (intro w hSw; (try dsimp only at hSw); go_simp; try with_reducible rfl)
    try simp only [Act.put, List.setIfInBounds_toArray, List.set_cons_zero, List.set_cons_succ]
    refine wpAnyH_take (i := 5) (v := ?_) (by simp only [List.getElem?_toArray, List.getElem?_cons_succ, List.getElem?_cons_zero]; rfl) (by kernel_rfl) (by kernel_rfl) (by kernel_rfl) (fun _ _ _ h => h) (Or.inl ⟨by rfl, ?_⟩) (by assumption) ?_
    rotate_left
    · (intro w hSw; (try dsimp only at hSw); go_simp; try with_reducible rfl)
    try simp only [Act.put, List.setIfInBounds_toArray, List.set_cons_zero, List.set_cons_succ]
    refine wpAnyH_take (i := 8) (v := ?_) (by simp only [List.getElem?_toArray, List.getElem?_cons_succ, List.getElem?_cons_zero]; rfl) (by kernel_rfl) (by kernel_rfl) (by kernel_rfl) (fun _ _ _ h => h) (Or.inl ⟨by rfl, ?_⟩) (by assumption) ?_
    rotate_left
    · (intro w hSw; (try dsimp only at hSw); go_simp; try with_reducible rfl)
    try simp only [Act.put, List.setIfInBounds_toArray, List.set_cons_zero, List.set_cons_succ]
    refine wpAnyH_take (i := 9) (v := ?_) (by simp only [List.getElem?_toArray, List.getElem?_cons_succ, List.getElem?_cons_zero]; rfl) (by kernel_rfl) (by kernel_rfl) (by kernel_rfl) (fun _ _ _ h => h) (Or.inl ⟨by rfl, ?_⟩) (by assumption) ?_
    rotate_left
    · (intro w hSw; (try dsimp only at hSw); go_simp; try with_reducible rfl)
    try simp only [Act.put, List.setIfInBounds_toArray, List.set_cons_zero, List.set_cons_succ]
    refine wpAnyH_ready (rs := [3]) (by kernel_rfl) (by simp) ?_
    refine AllReadyH.cons (by simp only [List.getElem?_toArray, List.getElem?_cons_succ, List.getElem?_cons_zero]; rfl) (fun K hK => ?_) AllReadyH.nil
    go_simp
    go_at_call 31
    refine (num_w p1 R1.out rfl ck _).mono ?_
    rintro e v19 ⟨rfl, k19⟩
    go_wp2_with fail
    refine hK.out _ _ (⟨bstep hHeld.1 k19, (hHeld.2.1).below k19, Msg.keepC hHeld.2.2.1 k19, Msg.keepC hHeld.2.2.2.1 k19, Msg.keepC hHeld.2.2.2.2.1 k19, Msg.keepC hHeld.2.2.2.2.2.1 k19, Msg.keepC hHeld.2.2.2.2.2.2.1 k19, Msg.keepC hHeld.2.2.2.2.2.2.2.1 k19, Msg.keepC hHeld.2.2.2.2.2.2.2.2.1 k19, Msg.keepC hHeld.2.2.2.2.2.2.2.2.2.1 k19, Msg.keepC hHeld.2.2.2.2.2.2.2.2.2.2.1 k19, Msg.keepC hHeld.2.2.2.2.2.2.2.2.2.2.2 k19⟩) (fun hHeld => ?_)
    clear hK K k19
    try simp only [Act.put, List.setIfInBounds_toArray, List.set_cons_zero, List.set_cons_succ]
    refine wpAnyH_ready (rs := [6]) (by kernel_rfl) (by simp) ?_
    refine AllReadyH.cons (by simp only [List.getElem?_toArray, List.getElem?_cons_succ, List.getElem?_cons_zero]; rfl) (fun K hK => ?_) AllReadyH.nil
    go_simp
    go_at_call 32
    refine (text_is p2 R2.out ok1 _).mono ?_
    rintro e v20 ⟨rfl, k20⟩
    go_wp2_with fail
    refine hK.out _ _ (⟨bstep hHeld.1 k20, (hHeld.2.1).below k20, Msg.keepC hHeld.2.2.1 k20, Msg.keepC hHeld.2.2.2.1 k20, Msg.keepC hHeld.2.2.2.2.1 k20, Msg.keepC hHeld.2.2.2.2.2.1 k20, Msg.keepC hHeld.2.2.2.2.2.2.1 k20, Msg.keepC hHeld.2.2.2.2.2.2.2.1 k20, Msg.keepC hHeld.2.2.2.2.2.2.2.2.1 k20, Msg.keepC hHeld.2.2.2.2.2.2.2.2.2.1 k20, Msg.keepC hHeld.2.2.2.2.2.2.2.2.2.2.1 k20, Msg.keepC hHeld.2.2.2.2.2.2.2.2.2.2.2 k20⟩) (fun hHeld => ?_)
    clear hK K k20
    try simp only [Act.put, List.setIfInBounds_toArray, List.set_cons_zero, List.set_cons_succ]
    refine wpAnyH_take (i := 7) (v := ?_) (by simp only [List.getElem?_toArray, List.getElem?_cons_succ, List.getElem?_cons_zero]; rfl) (by kernel_rfl) (by kernel_rfl) (by kernel_rfl) (fun _ _ _ h => h) (Or.inl ⟨by rfl, ?_⟩) (by assumption) ?_
    rotate_left
    · (intro w hSw; (try dsimp only at hSw); go_simp; try with_reducible rfl)
    try simp only [Act.put, List.setIfInBounds_toArray, List.set_cons_zero, List.set_cons_succ]
    refine wpAnyH_ready (rs := [10]) (by kernel_rfl) (by simp) ?_
    refine AllReadyH.cons (by simp only [List.getElem?_toArray, List.getElem?_cons_succ, List.getElem?_cons_zero]; rfl) (fun K hK => ?_) AllReadyH.nil
    go_simp
    go_at_call 32
    refine (text_is p3 R3.out ok2 _).mono ?_
    rintro e v21 ⟨rfl, k21⟩
    go_wp2_with fail
    refine hK.out _ _ (⟨bstep hHeld.1 k21, (hHeld.2.1).below k21, Msg.keepC hHeld.2.2.1 k21, Msg.keepC hHeld.2.2.2.1 k21, Msg.keepC hHeld.2.2.2.2.1 k21, Msg.keepC hHeld.2.2.2.2.2.1 k21, Msg.keepC hHeld.2.2.2.2.2.2.1 k21, Msg.keepC hHeld.2.2.2.2.2.2.2.1 k21, Msg.keepC hHeld.2.2.2.2.2.2.2.2.1 k21, Msg.keepC hHeld.2.2.2.2.2.2.2.2.2.1 k21, Msg.keepC hHeld.2.2.2.2.2.2.2.2.2.2.1 k21, Msg.keepC hHeld.2.2.2.2.2.2.2.2.2.2.2 k21⟩) (fun hHeld => ?_)
    clear hK K k21
    try simp only [Act.put, List.setIfInBounds_toArray, List.set_cons_zero, List.set_cons_succ]
    refine wpAnyH_take (i := 11) (v := ?_) (by simp only [List.getElem?_toArray, List.getElem?_cons_succ, List.getElem?_cons_zero]; rfl) (by kernel_rfl) (by kernel_rfl) (by kernel_rfl) (fun _ _ _ h => h) (Or.inl ⟨by rfl, ?_⟩) (by assumption) ?_
    rotate_left
    · (intro w hSw; (try dsimp only at hSw); go_simp; try with_reducible rfl)
    try simp only [Act.put, List.setIfInBounds_toArray, List.set_cons_zero, List.set_cons_succ]
    refine wpAnyH_take (i := 12) (v := ?_) (by simp only [List.getElem?_toArray, List.getElem?_cons_succ, List.getElem?_cons_zero]; rfl) (by kernel_rfl) (by kernel_rfl) (by kernel_rfl) (fun _ _ _ h => h) (Or.inl ⟨by rfl, ?_⟩) (by assumption) ?_
    rotate_left
    · (intro w hSw; (try dsimp only at hSw); go_simp; try with_reducible rfl)
    try simp only [Act.put, List.setIfInBounds_toArray, List.set_cons_zero, List.set_cons_succ]
    refine wpAnyH_done (by kernel_rfl) ?_ _
    refine NoPanic.normal ?_
    clear hb lA x0 x1 x2 x3 x4 x5 x6 x7 x8 x9
    obtain ⟨hb, lA, x0, x1, x2, x3, x4, x5, x6, x7, x8, x9⟩ := hHeld
    replace lA := Lib.hid lA
    go_wp2_with fail
    refine wp_region_noPanic ?_
    refine wp_region_held_drew (S := (fun w' => Below w.heap.size w w' ∧ Lies w' a all.length all ∧ w'.cell? ⟨w.heap.size, 0, none⟩ = some (.int .u8 (k : Int)) ∧ w'.cell? ⟨w.heap.size, 1, none⟩ = some (.string ⟨src.toArray⟩) ∧ w'.cell? ⟨w.heap.size, 2, none⟩ = some (.string ⟨dst.toArray⟩) ∧ w'.cell? ⟨w.heap.size, 3, none⟩ = some (.string ⟨fr.toArray⟩) ∧ w'.cell? ⟨w.heap.size, 4, none⟩ = some (.int .u64 (seq : Int)) ∧ w'.cell? ⟨w.heap.size, 5, none⟩ = some (.slice a all.length c) ∧ w'.cell? ⟨w.heap.size, 6, none⟩ = some (.int .u64 (id : Int)) ∧ w'.cell? ⟨w.heap.size, 7, none⟩ = some (.int .i64 (i : Int)) ∧ w'.cell? ⟨w.heap.size, 8, none⟩ = some (.int .i64 (n : Int)) ∧ w'.cell? ⟨w.heap.size, 9, none⟩ = some (.string ⟨tx.toArray⟩))) (by kernel_rfl) (⟨Below.drew hb, (lA.out).below (Below.drew (Below.refl _ _)), Msg.keepC x0 (Below.drew (Below.refl _ _)), Msg.keepC x1 (Below.drew (Below.refl _ _)), Msg.keepC x2 (Below.drew (Below.refl _ _)), Msg.keepC x3 (Below.drew (Below.refl _ _)), Msg.keepC x4 (Below.drew (Below.refl _ _)), Msg.keepC x5 (Below.drew (Below.refl _ _)), Msg.keepC x6 (Below.drew (Below.refl _ _)), Msg.keepC x7 (Below.drew (Below.refl _ _)), Msg.keepC x8 (Below.drew (Below.refl _ _)), Msg.keepC x9 (Below.drew (Below.refl _ _))⟩) (fun hHeld => ?_)
    refine wpAnyH_take (i := 0) (v := ?_) (by simp only [List.getElem?_toArray, List.getElem?_cons_zero]; rfl) (by kernel_rfl) (by kernel_rfl) (by kernel_rfl) (fun _ _ _ h => h) (Or.inl ⟨by rfl, ?_⟩) (by assumption) ?_
    rotate_left
    · (intro w hSw; (try dsimp only at hSw); go_simp; try with_reducible rfl)
    try simp only [Act.put, List.setIfInBounds_toArray, List.set_cons_zero, List.set_cons_succ]
    refine wpAnyH_take (i := 1) (v := ?_) (by simp only [List.getElem?_toArray, List.getElem?_cons_succ, List.getElem?_cons_zero]; rfl) (by kernel_rfl) (by kernel_rfl) (by kernel_rfl) (fun _ _ _ h => h) (Or.inl ⟨by rfl, ?_⟩) (by assumption) ?_
    rotate_left
    · (intro w hSw; (try dsimp only at hSw); go_simp; try with_reducible rfl)
    try simp only [Act.put, List.setIfInBounds_toArray, List.set_cons_zero, List.set_cons_succ]
    refine wpAnyH_take (i := 2) (v := ?_) (by simp only [List.getElem?_toArray, List.getElem?_cons_succ, List.getElem?_cons_zero]; rfl) (by kernel_rfl) (by kernel_rfl) (by kernel_rfl) (fun _ _ _ h => h) (Or.inl ⟨by rfl, ?_⟩) (by assumption) ?_
    rotate_left
    · (intro w hSw; (try dsimp only at hSw); go_simp; try with_reducible rfl)
    try simp only [Act.put, List.setIfInBounds_toArray, List.set_cons_zero, List.set_cons_succ]
    refine wpAnyH_take (i := 5) (v := ?_) (by simp only [List.getElem?_toArray, List.getElem?_cons_succ, List.getElem?_cons_zero]; rfl) (by kernel_rfl) (by kernel_rfl) (by kernel_rfl) (fun _ _ _ h => h) (Or.inl ⟨by rfl, ?_⟩) (by assumption) ?_
    rotate_left
    · (intro w hSw; (try dsimp only at hSw); go_simp; try with_reducible rfl)
    try simp only [Act.put, List.setIfInBounds_toArray, List.set_cons_zero, List.set_cons_succ]
    refine wpAnyH_take (i := 6) (v := ?_) (by simp only [List.getElem?_toArray, List.getElem?_cons_succ, List.getElem?_cons_zero]; rfl) (by kernel_rfl) (by kernel_rfl) (by kernel_rfl) (fun _ _ _ h => h) (Or.inl ⟨by rfl, ?_⟩) (by assumption) ?_
    rotate_left
    · (intro w hSw; (try dsimp only at hSw); go_simp; try with_reducible rfl)
    try simp only [Act.put, List.setIfInBounds_toArray, List.set_cons_zero, List.set_cons_succ]
    refine wpAnyH_ready (rs := [3]) (by kernel_rfl) (by simp) ?_
    refine AllReadyH.cons (by simp only [List.getElem?_toArray, List.getElem?_cons_succ, List.getElem?_cons_zero]; rfl) (fun K hK => ?_) AllReadyH.nil
    go_simp
    go_at_call 31
    refine (num_w Q hQ.out rfl ok4 _).mono ?_
    rintro e v22 ⟨rfl, k22⟩
    go_wp2_with fail
    refine hK.out _ _ (⟨bstep hHeld.1 k22, (hHeld.2.1).below k22, Msg.keepC hHeld.2.2.1 k22, Msg.keepC hHeld.2.2.2.1 k22, Msg.keepC hHeld.2.2.2.2.1 k22, Msg.keepC hHeld.2.2.2.2.2.1 k22, Msg.keepC hHeld.2.2.2.2.2.2.1 k22, Msg.keepC hHeld.2.2.2.2.2.2.2.1 k22, Msg.keepC hHeld.2.2.2.2.2.2.2.2.1 k22, Msg.keepC hHeld.2.2.2.2.2.2.2.2.2.1 k22, Msg.keepC hHeld.2.2.2.2.2.2.2.2.2.2.1 k22, Msg.keepC hHeld.2.2.2.2.2.2.2.2.2.2.2 k22⟩) (fun hHeld => ?_)
    clear hK K k22
    try simp only [Act.put, List.setIfInBounds_toArray, List.set_cons_zero, List.set_cons_succ]
    refine wpAnyH_take (i := 4) (v := ?_) (by simp only [List.getElem?_toArray, List.getElem?_cons_succ, List.getElem?_cons_zero]; rfl) (by kernel_rfl) (by kernel_rfl) (by kernel_rfl) (fun _ _ _ h => h) (Or.inl ⟨by rfl, ?_⟩) (by assumption) ?_
    rotate_left
    · (intro w hSw; (try dsimp only at hSw); go_simp; try with_reducible rfl)
    try simp only [Act.put, List.setIfInBounds_toArray, List.set_cons_zero, List.set_cons_succ]
    refine wpAnyH_ready (rs := [7]) (by kernel_rfl) (by simp) ?_
    refine AllReadyH.cons (by simp only [List.getElem?_toArray, List.getElem?_cons_succ, List.getElem?_cons_zero]; rfl) (fun K hK => ?_) AllReadyH.nil
    go_simp
    go_at_call 32
    refine (text_is X hX.out ok3 _).mono ?_
    rintro e v23 ⟨rfl, k23⟩
    go_wp2_with fail
    refine hK.out _ _ (⟨bstep hHeld.1 k23, (hHeld.2.1).below k23, Msg.keepC hHeld.2.2.1 k23, Msg.keepC hHeld.2.2.2.1 k23, Msg.keepC hHeld.2.2.2.2.1 k23, Msg.keepC hHeld.2.2.2.2.2.1 k23, Msg.keepC hHeld.2.2.2.2.2.2.1 k23, Msg.keepC hHeld.2.2.2.2.2.2.2.1 k23, Msg.keepC hHeld.2.2.2.2.2.2.2.2.1 k23, Msg.keepC hHeld.2.2.2.2.2.2.2.2.2.1 k23, Msg.keepC hHeld.2.2.2.2.2.2.2.2.2.2.1 k23, Msg.keepC hHeld.2.2.2.2.2.2.2.2.2.2.2 k23⟩) (fun hHeld => ?_)
    clear hK K k23
    try simp only [Act.put, List.setIfInBounds_toArray, List.set_cons_zero, List.set_cons_succ]
    refine wpAnyH_take (i := 8) (v := ?_) (by simp only [List.getElem?_toArray, List.getElem?_cons_succ, List.getElem?_cons_zero]; rfl) (by kernel_rfl) (by kernel_rfl) (by kernel_rfl) (fun _ _ _ h => h) (Or.inl ⟨by rfl, ?_⟩) (by assumption) ?_
    rotate_left
    · (intro w hSw; (try dsimp only at hSw); go_simp; try with_reducible rfl)
    try simp only [Act.put, List.setIfInBounds_toArray, List.set_cons_zero, List.set_cons_succ]
    refine wpAnyH_take (i := 9) (v := ?_) (by simp only [List.getElem?_toArray, List.getElem?_cons_succ, List.getElem?_cons_zero]; rfl) (by kernel_rfl) (by kernel_rfl) (by kernel_rfl) (fun _ _ _ h => h) (Or.inl ⟨by rfl, ?_⟩) (by assumption) ?_
    rotate_left
    · (intro w hSw; (try dsimp only at hSw); go_simp; try with_reducible rfl)
    try simp only [Act.put, List.setIfInBounds_toArray, List.set_cons_zero, List.set_cons_succ]
    refine wpAnyH_done (by kernel_rfl) ?_ _
    refine NoPanic.normal ?_
    clear hb lA x0 x1 x2 x3 x4 x5 x6 x7 x8 x9
    obtain ⟨hb, lA, x0, x1, x2, x3, x4, x5, x6, x7, x8, x9⟩ := hHeld
    replace lA := Lib.hid lA
    go_wp2
    go_ret
    exact ⟨by rw [HV.out]; rfl, hb⟩
  by_cases k4 : k = 4
  · skip
    have zz1 : ((k : Int) == 1) = false := by rw [beq_eq_false_iff_ne]; omega
    have zz2 : ((k : Int) == 2) = false := by rw [beq_eq_false_iff_ne]; omega
    have zz3 : ((k : Int) == 3) = false := by rw [beq_eq_false_iff_ne]; omega
    have zz4 : ((k : Int) == 4) = true := by rw [beq_iff_eq]; omega
    obtain ⟨Q, hQ⟩ : ∃ p, upL seq = p := ⟨_, rfl⟩
    have zQ := Str.size_mk Q
    obtain ⟨X, hX⟩ : ∃ p, txtL fr = p := ⟨_, rfl⟩
    have zX := Str.size_mk X
    obtain ⟨V, hV⟩ : ∃ p, vecL all = p := ⟨_, rfl⟩
    have zV := Str.size_mk V
    obtain ⟨C0, hC0⟩ : ∃ p, H ++ Q = p := ⟨_, rfl⟩
    have lC0 : C0.length = H.length + Q.length := by rw [← hC0, List.length_append]
    have aC0 : (({ data := H.toArray } : ByteArray)) ++ { data := Q.toArray } = { data := C0.toArray } := by rw [← hC0]; exact Str.mk_append_mk H Q
    have zC0 := Str.size_mk C0
    obtain ⟨C1, hC1⟩ : ∃ p, C0 ++ X = p := ⟨_, rfl⟩
    have lC1 : C1.length = C0.length + X.length := by rw [← hC1, List.length_append]
    have aC1 : (({ data := C0.toArray } : ByteArray)) ++ { data := X.toArray } = { data := C1.toArray } := by rw [← hC1]; exact Str.mk_append_mk C0 X
    have zC1 := Str.size_mk C1
    obtain ⟨C2, hC2⟩ : ∃ p, C1 ++ V = p := ⟨_, rfl⟩
    have lC2 : C2.length = C1.length + V.length := by rw [← hC2, List.length_append]
    have aC2 : (({ data := C1.toArray } : ByteArray)) ++ { data := V.toArray } = { data := C2.toArray } := by rw [← hC2]; exact Str.mk_append_mk C1 V
    have zC2 := Str.size_mk C2
    have HV : bodyL ⟨k, src, dst, fr, seq, all, id, (i : Int), (n : Int), tx⟩ = C2 := by
      unfold bodyL
      simp only [Int.toNat_natCast]
      rw [if_neg k1, if_neg k2, if_neg k3, if_pos k4, HHv.out]
      rw [← hC2, ← hC1, ← hC0, ← hQ, ← hX, ← hV]
    rw [HV] at hbl
    replace HV := Lib.hid HV
    have nC0 : ¬ (9223372036854775807 < H.length + Q.length) := by omega
    have mC0 : ¬ (H.length + Q.length > 9223372036854775807) := by omega
    have nC1 : ¬ (9223372036854775807 < C0.length + X.length) := by omega
    have mC1 : ¬ (C0.length + X.length > 9223372036854775807) := by omega
    have nC2 : ¬ (9223372036854775807 < C1.length + V.length) := by omega
    have mC2 : ¬ (C1.length + V.length > 9223372036854775807) := by omega
    have jV : V.length ≤ 1099511627776 := by omega
    replace hQ := Lib.hid hQ
    replace hX := Lib.hid hX
    replace hV := Lib.hid hV
    replace hC0 := Lib.hid hC0
    replace hC1 := Lib.hid hC1
    replace hC2 := Lib.hid hC2
    replace lC0 := Lib.hid lC0
    replace lC1 := Lib.hid lC1
    replace lC2 := Lib.hid lC2
    replace l12 := Lib.hid l12
    replace lH := Lib.hid lH
    replace k1 := Lib.hid k1
    replace k2 := Lib.hid k2
    replace k3 := Lib.hid k3
    replace k4 := Lib.hid k4
    go_enter Tryd.func20, Tryd.ntmps20
    have x0 := bm.out 0 (.int .u8 (k : Int)) rfl
    have x1 := bm.out 1 (.string ⟨src.toArray⟩) rfl
    have x2 := bm.out 2 (.string ⟨dst.toArray⟩) rfl
    have x3 := bm.out 3 (.string ⟨fr.toArray⟩) rfl
    have x4 := bm.out 4 (.int .u64 (seq : Int)) rfl
    have x5 := bm.out 5 (.slice a all.length c) rfl
    have x6 := bm.out 6 (.int .u64 (id : Int)) rfl
    have x7 := bm.out 7 (.int .i64 (i : Int)) rfl
    have x8 := bm.out 8 (.int .i64 (n : Int)) rfl
    have x9 := bm.out 9 (.string ⟨tx.toArray⟩) rfl
    clear bm
    go_wp2_with fail
    refine wp_region_noPanic ?_
    refine wp_region_held_drew (S := (fun w' => Below w.heap.size w w' ∧ Lies w' a all.length all ∧ w'.cell? ⟨w.heap.size, 0, none⟩ = some (.int .u8 (k : Int)) ∧ w'.cell? ⟨w.heap.size, 1, none⟩ = some (.string ⟨src.toArray⟩) ∧ w'.cell? ⟨w.heap.size, 2, none⟩ = some (.string ⟨dst.toArray⟩) ∧ w'.cell? ⟨w.heap.size, 3, none⟩ = some (.string ⟨fr.toArray⟩) ∧ w'.cell? ⟨w.heap.size, 4, none⟩ = some (.int .u64 (seq : Int)) ∧ w'.cell? ⟨w.heap.size, 5, none⟩ = some (.slice a all.length c) ∧ w'.cell? ⟨w.heap.size, 6, none⟩ = some (.int .u64 (id : Int)) ∧ w'.cell? ⟨w.heap.size, 7, none⟩ = some (.int .i64 (i : Int)) ∧ w'.cell? ⟨w.heap.size, 8, none⟩ = some (.int .i64 (n : Int)) ∧ w'.cell? ⟨w.heap.size, 9, none⟩ = some (.string ⟨tx.toArray⟩))) (by kernel_rfl) (⟨Below.drew hb, (lA.out).below (Below.drew (Below.refl _ _)), Msg.keepC x0 (Below.drew (Below.refl _ _)), Msg.keepC x1 (Below.drew (Below.refl _ _)), Msg.keepC x2 (Below.drew (Below.refl _ _)), Msg.keepC x3 (Below.drew (Below.refl _ _)), Msg.keepC x4 (Below.drew (Below.refl _ _)), Msg.keepC x5 (Below.drew (Below.refl _ _)), Msg.keepC x6 (Below.drew (Below.refl _ _)), Msg.keepC x7 (Below.drew (Below.refl _ _)), Msg.keepC x8 (Below.drew (Below.refl _ _)), Msg.keepC x9 (Below.drew (Below.refl _ _))⟩) (fun hHeld => ?_)
    refine wpAnyH_take (i := 0) (v := ?_) (by simp only [List.getElem?_toArray, List.getElem?_cons_zero]; rfl) (by kernel_rfl) (by kernel_rfl) (by kernel_rfl) (fun _ _ _ h => h) (Or.inl ⟨by rfl, ?_⟩) (by assumption) ?_
    rotate_left
    · (intro w hSw; (try dsimp only at hSw); go_simp; try with_reducible rfl)
    try simp only [Act.put, List.setIfInBounds_toArray, List.set_cons_zero, List.set_cons_succ]
    refine wpAnyH_take (i := 1) (v := ?_) (by simp only [List.getElem?_toArray, List.getElem?_cons_succ, List.getElem?_cons_zero]; rfl) (by kernel_rfl) (by kernel_rfl) (by kernel_rfl) (fun _ _ _ h => h) (Or.inl ⟨by rfl, ?_⟩) (by assumption) ?_
    rotate_left
    · (intro w hSw; (try dsimp only at hSw); go_simp; try with_reducible rfl)
    try simp only [Act.put, List.setIfInBounds_toArray, List.set_cons_zero, List.set_cons_succ]
    refine wpAnyH_take (i := 2) (v := ?_) (by simp only [List.getElem?_toArray, List.getElem?_cons_succ, List.getElem?_cons_zero]; rfl) (by kernel_rfl) (by kernel_rfl) (by kernel_rfl) (fun _ _ _ h => h) (Or.inl ⟨by rfl, ?_⟩) (by assumption) ?_
    rotate_left
    · (intro w hSw; (try dsimp only at hSw); go_simp; try with_reducible rfl)
    try simp only [Act.put, List.setIfInBounds_toArray, List.set_cons_zero, List.set_cons_succ]
    refine wpAnyH_take (i := 4) (v := ?_) (by simp only [List.getElem?_toArray, List.getElem?_cons_succ, List.getElem?_cons_zero]; rfl) (by kernel_rfl) (by kernel_rfl) (by kernel_rfl) (fun _ _ _ h => h) (Or.inl ⟨by rfl, ?_⟩) (by assumption) ?_
    rotate_left
    · (intro w hSw; (try dsimp only at hSw); go_simp; try with_reducible rfl)
    try simp only [Act.put, List.setIfInBounds_toArray, List.set_cons_zero, List.set_cons_succ]
    refine wpAnyH_take (i := 5) (v := ?_) (by simp only [List.getElem?_toArray, List.getElem?_cons_succ, List.getElem?_cons_zero]; rfl) (by kernel_rfl) (by kernel_rfl) (by kernel_rfl) (fun _ _ _ h => h) (Or.inl ⟨by rfl, ?_⟩) (by assumption) ?_
    rotate_left
    · (intro w hSw; (try dsimp only at hSw); go_simp; try with_reducible rfl)
    try simp only [Act.put, List.setIfInBounds_toArray, List.set_cons_zero, List.set_cons_succ]
    refine wpAnyH_take (i := 8) (v := ?_) (by simp only [List.getElem?_toArray, List.getElem?_cons_succ, List.getElem?_cons_zero]; rfl) (by kernel_rfl) (by kernel_rfl) (by kernel_rfl) (fun _ _ _ h => h) (Or.inl ⟨by rfl, ?_⟩) (by assumption) ?_
    rotate_left
    · (intro w hSw; (try dsimp only at hSw); go_simp; try with_reducible rfl)
    try simp only [Act.put, List.setIfInBounds_toArray, List.set_cons_zero, List.set_cons_succ]
    refine wpAnyH_take (i := 9) (v := ?_) (by simp only [List.getElem?_toArray, List.getElem?_cons_succ, List.getElem?_cons_zero]; rfl) (by kernel_rfl) (by kernel_rfl) (by kernel_rfl) (fun _ _ _ h => h) (Or.inl ⟨by rfl, ?_⟩) (by assumption) ?_
    rotate_left
    · (intro w hSw; (try dsimp only at hSw); go_simp; try with_reducible rfl)
    try simp only [Act.put, List.setIfInBounds_toArray, List.set_cons_zero, List.set_cons_succ]
    refine wpAnyH_ready (rs := [3]) (by kernel_rfl) (by simp) ?_
    refine AllReadyH.cons (by simp only [List.getElem?_toArray, List.getElem?_cons_succ, List.getElem?_cons_zero]; rfl) (fun K hK => ?_) AllReadyH.nil
    go_simp
    go_at_call 31
    refine (num_w p1 R1.out rfl ck _).mono ?_
    rintro e v24 ⟨rfl, k24⟩
    go_wp2_with fail
    refine hK.out _ _ (⟨bstep hHeld.1 k24, (hHeld.2.1).below k24, Msg.keepC hHeld.2.2.1 k24, Msg.keepC hHeld.2.2.2.1 k24, Msg.keepC hHeld.2.2.2.2.1 k24, Msg.keepC hHeld.2.2.2.2.2.1 k24, Msg.keepC hHeld.2.2.2.2.2.2.1 k24, Msg.keepC hHeld.2.2.2.2.2.2.2.1 k24, Msg.keepC hHeld.2.2.2.2.2.2.2.2.1 k24, Msg.keepC hHeld.2.2.2.2.2.2.2.2.2.1 k24, Msg.keepC hHeld.2.2.2.2.2.2.2.2.2.2.1 k24, Msg.keepC hHeld.2.2.2.2.2.2.2.2.2.2.2 k24⟩) (fun hHeld => ?_)
    clear hK K k24
    try simp only [Act.put, List.setIfInBounds_toArray, List.set_cons_zero, List.set_cons_succ]
    refine wpAnyH_ready (rs := [6]) (by kernel_rfl) (by simp) ?_
    refine AllReadyH.cons (by simp only [List.getElem?_toArray, List.getElem?_cons_succ, List.getElem?_cons_zero]; rfl) (fun K hK => ?_) AllReadyH.nil
    go_simp
    go_at_call 32
    refine (text_is p2 R2.out ok1 _).mono ?_
    rintro e v25 ⟨rfl, k25⟩
    go_wp2_with fail
    refine hK.out _ _ (⟨bstep hHeld.1 k25, (hHeld.2.1).below k25, Msg.keepC hHeld.2.2.1 k25, Msg.keepC hHeld.2.2.2.1 k25, Msg.keepC hHeld.2.2.2.2.1 k25, Msg.keepC hHeld.2.2.2.2.2.1 k25, Msg.keepC hHeld.2.2.2.2.2.2.1 k25, Msg.keepC hHeld.2.2.2.2.2.2.2.1 k25, Msg.keepC hHeld.2.2.2.2.2.2.2.2.1 k25, Msg.keepC hHeld.2.2.2.2.2.2.2.2.2.1 k25, Msg.keepC hHeld.2.2.2.2.2.2.2.2.2.2.1 k25, Msg.keepC hHeld.2.2.2.2.2.2.2.2.2.2.2 k25⟩) (fun hHeld => ?_)
    clear hK K k25
    try simp only [Act.put, List.setIfInBounds_toArray, List.set_cons_zero, List.set_cons_succ]
    refine wpAnyH_take (i := 7) (v := ?_) (by simp only [List.getElem?_toArray, List.getElem?_cons_succ, List.getElem?_cons_zero]; rfl) (by kernel_rfl) (by kernel_rfl) (by kernel_rfl) (fun _ _ _ h => h) (Or.inl ⟨by rfl, ?_⟩) (by assumption) ?_
    rotate_left
    · (intro w hSw; (try dsimp only at hSw); go_simp; try with_reducible rfl)
    try simp only [Act.put, List.setIfInBounds_toArray, List.set_cons_zero, List.set_cons_succ]
    refine wpAnyH_ready (rs := [10]) (by kernel_rfl) (by simp) ?_
    refine AllReadyH.cons (by simp only [List.getElem?_toArray, List.getElem?_cons_succ, List.getElem?_cons_zero]; rfl) (fun K hK => ?_) AllReadyH.nil
    go_simp
    go_at_call 32
    refine (text_is p3 R3.out ok2 _).mono ?_
    rintro e v26 ⟨rfl, k26⟩
    go_wp2_with fail
    refine hK.out _ _ (⟨bstep hHeld.1 k26, (hHeld.2.1).below k26, Msg.keepC hHeld.2.2.1 k26, Msg.keepC hHeld.2.2.2.1 k26, Msg.keepC hHeld.2.2.2.2.1 k26, Msg.keepC hHeld.2.2.2.2.2.1 k26, Msg.keepC hHeld.2.2.2.2.2.2.1 k26, Msg.keepC hHeld.2.2.2.2.2.2.2.1 k26, Msg.keepC hHeld.2.2.2.2.2.2.2.2.1 k26, Msg.keepC hHeld.2.2.2.2.2.2.2.2.2.1 k26, Msg.keepC hHeld.2.2.2.2.2.2.2.2.2.2.1 k26, Msg.keepC hHeld.2.2.2.2.2.2.2.2.2.2.2 k26⟩) (fun hHeld => ?_)
    clear hK K k26
    try simp only [Act.put, List.setIfInBounds_toArray, List.set_cons_zero, List.set_cons_succ]
    refine wpAnyH_take (i := 11) (v := ?_) (by simp only [List.getElem?_toArray, List.getElem?_cons_succ, List.getElem?_cons_zero]; rfl) (by kernel_rfl) (by kernel_rfl) (by kernel_rfl) (fun _ _ _ h => h) (Or.inl ⟨by rfl, ?_⟩) (by assumption) ?_
    rotate_left
    · (intro w hSw; (try dsimp only at hSw); go_simp; try with_reducible rfl)
    try simp only [Act.put, List.setIfInBounds_toArray, List.set_cons_zero, List.set_cons_succ]
    refine wpAnyH_take (i := 12) (v := ?_) (by simp only [List.getElem?_toArray, List.getElem?_cons_succ, List.getElem?_cons_zero]; rfl) (by kernel_rfl) (by kernel_rfl) (by kernel_rfl) (fun _ _ _ h => h) (Or.inl ⟨by rfl, ?_⟩) (by assumption) ?_
    rotate_left
    · (intro w hSw; (try dsimp only at hSw); go_simp; try with_reducible rfl)
    try simp only [Act.put, List.setIfInBounds_toArray, List.set_cons_zero, List.set_cons_succ]
    refine wpAnyH_done (by kernel_rfl) ?_ _
    refine NoPanic.normal ?_
    clear hb lA x0 x1 x2 x3 x4 x5 x6 x7 x8 x9
    obtain ⟨hb, lA, x0, x1, x2, x3, x4, x5, x6, x7, x8, x9⟩ := hHeld
    replace lA := Lib.hid lA
    go_wp2_with fail
    refine wp_region_noPanic ?_
    refine wp_region_held_drew (S := (fun w' => Below w.heap.size w w' ∧ Lies w' a all.length all ∧ w'.cell? ⟨w.heap.size, 0, none⟩ = some (.int .u8 (k : Int)) ∧ w'.cell? ⟨w.heap.size, 1, none⟩ = some (.string ⟨src.toArray⟩) ∧ w'.cell? ⟨w.heap.size, 2, none⟩ = some (.string ⟨dst.toArray⟩) ∧ w'.cell? ⟨w.heap.size, 3, none⟩ = some (.string ⟨fr.toArray⟩) ∧ w'.cell? ⟨w.heap.size, 4, none⟩ = some (.int .u64 (seq : Int)) ∧ w'.cell? ⟨w.heap.size, 5, none⟩ = some (.slice a all.length c) ∧ w'.cell? ⟨w.heap.size, 6, none⟩ = some (.int .u64 (id : Int)) ∧ w'.cell? ⟨w.heap.size, 7, none⟩ = some (.int .i64 (i : Int)) ∧ w'.cell? ⟨w.heap.size, 8, none⟩ = some (.int .i64 (n : Int)) ∧ w'.cell? ⟨w.heap.size, 9, none⟩ = some (.string ⟨tx.toArray⟩))) (by kernel_rfl) (⟨Below.drew hb, (lA.out).below (Below.drew (Below.refl _ _)), Msg.keepC x0 (Below.drew (Below.refl _ _)), Msg.keepC x1 (Below.drew (Below.refl _ _)), Msg.keepC x2 (Below.drew (Below.refl _ _)), Msg.keepC x3 (Below.drew (Below.refl _ _)), Msg.keepC x4 (Below.drew (Below.refl _ _)), Msg.keepC x5 (Below.drew (Below.refl _ _)), Msg.keepC x6 (Below.drew (Below.refl _ _)), Msg.keepC x7 (Below.drew (Below.refl _ _)), Msg.keepC x8 (Below.drew (Below.refl _ _)), Msg.keepC x9 (Below.drew (Below.refl _ _))⟩) (fun hHeld => ?_)
    refine wpAnyH_take (i := 0) (v := ?_) (by simp only [List.getElem?_toArray, List.getElem?_cons_zero]; rfl) (by kernel_rfl) (by kernel_rfl) (by kernel_rfl) (fun _ _ _ h => h) (Or.inl ⟨by rfl, ?_⟩) (by assumption) ?_
    rotate_left
    · (intro w hSw; (try dsimp only at hSw); go_simp; try with_reducible rfl)
    try simp only [Act.put, List.setIfInBounds_toArray, List.set_cons_zero, List.set_cons_succ]
    refine wpAnyH_take (i := 1) (v := ?_) (by simp only [List.getElem?_toArray, List.getElem?_cons_succ, List.getElem?_cons_zero]; rfl) (by kernel_rfl) (by kernel_rfl) (by kernel_rfl) (fun _ _ _ h => h) (Or.inl ⟨by rfl, ?_⟩) (by assumption) ?_
    rotate_left
    · (intro w hSw; (try dsimp only at hSw); go_simp; try with_reducible rfl)
    try simp only [Act.put, List.setIfInBounds_toArray, List.set_cons_zero, List.set_cons_succ]
    refine wpAnyH_take (i := 2) (v := ?_) (by simp only [List.getElem?_toArray, List.getElem?_cons_succ, List.getElem?_cons_zero]; rfl) (by kernel_rfl) (by kernel_rfl) (by kernel_rfl) (fun _ _ _ h => h) (Or.inl ⟨by rfl, ?_⟩) (by assumption) ?_
    rotate_left
    · (intro w hSw; (try dsimp only at hSw); go_simp; try with_reducible rfl)
    try simp only [Act.put, List.setIfInBounds_toArray, List.set_cons_zero, List.set_cons_succ]
    refine wpAnyH_take (i := 5) (v := ?_) (by simp only [List.getElem?_toArray, List.getElem?_cons_succ, List.getElem?_cons_zero]; rfl) (by kernel_rfl) (by kernel_rfl) (by kernel_rfl) (fun _ _ _ h => h) (Or.inl ⟨by rfl, ?_⟩) (by assumption) ?_
    rotate_left
    · (intro w hSw; (try dsimp only at hSw); go_simp; try with_reducible rfl)
    try simp only [Act.put, List.setIfInBounds_toArray, List.set_cons_zero, List.set_cons_succ]
    refine wpAnyH_take (i := 6) (v := ?_) (by simp only [List.getElem?_toArray, List.getElem?_cons_succ, List.getElem?_cons_zero]; rfl) (by kernel_rfl) (by kernel_rfl) (by kernel_rfl) (fun _ _ _ h => h) (Or.inl ⟨by rfl, ?_⟩) (by assumption) ?_
    rotate_left
    · (intro w hSw; (try dsimp only at hSw); go_simp; try with_reducible rfl)
    try simp only [Act.put, List.setIfInBounds_toArray, List.set_cons_zero, List.set_cons_succ]
    refine wpAnyH_take (i := 9) (v := ?_) (by simp only [List.getElem?_toArray, List.getElem?_cons_succ, List.getElem?_cons_zero]; rfl) (by kernel_rfl) (by kernel_rfl) (by kernel_rfl) (fun _ _ _ h => h) (Or.inl ⟨by rfl, ?_⟩) (by assumption) ?_
    rotate_left
    · (intro w hSw; (try dsimp only at hSw); go_simp; try with_reducible rfl)
    try simp only [Act.put, List.setIfInBounds_toArray, List.set_cons_zero, List.set_cons_succ]
    refine wpAnyH_take (i := 10) (v := ?_) (by simp only [List.getElem?_toArray, List.getElem?_cons_succ, List.getElem?_cons_zero]; rfl) (by kernel_rfl) (by kernel_rfl) (by kernel_rfl) (fun _ _ _ h => h) (Or.inl ⟨by rfl, ?_⟩) (by assumption) ?_
    rotate_left
    · (intro w hSw; (try dsimp only at hSw); go_simp; try with_reducible rfl)
    try simp only [Act.put, List.setIfInBounds_toArray, List.set_cons_zero, List.set_cons_succ]
    refine wpAnyH_ready (rs := [3]) (by kernel_rfl) (by simp) ?_
    refine AllReadyH.cons (by simp only [List.getElem?_toArray, List.getElem?_cons_succ, List.getElem?_cons_zero]; rfl) (fun K hK => ?_) AllReadyH.nil
    go_simp
    go_at_call 31
    refine (num_w Q hQ.out rfl ok4 _).mono ?_
    rintro e v27 ⟨rfl, k27⟩
    go_wp2_with fail
    refine hK.out _ _ (⟨bstep hHeld.1 k27, (hHeld.2.1).below k27, Msg.keepC hHeld.2.2.1 k27, Msg.keepC hHeld.2.2.2.1 k27, Msg.keepC hHeld.2.2.2.2.1 k27, Msg.keepC hHeld.2.2.2.2.2.1 k27, Msg.keepC hHeld.2.2.2.2.2.2.1 k27, Msg.keepC hHeld.2.2.2.2.2.2.2.1 k27, Msg.keepC hHeld.2.2.2.2.2.2.2.2.1 k27, Msg.keepC hHeld.2.2.2.2.2.2.2.2.2.1 k27, Msg.keepC hHeld.2.2.2.2.2.2.2.2.2.2.1 k27, Msg.keepC hHeld.2.2.2.2.2.2.2.2.2.2.2 k27⟩) (fun hHeld => ?_)
    clear hK K k27
    try simp only [Act.put, List.setIfInBounds_toArray, List.set_cons_zero, List.set_cons_succ]
    refine wpAnyH_take (i := 4) (v := ?_) (by simp only [List.getElem?_toArray, List.getElem?_cons_succ, List.getElem?_cons_zero]; rfl) (by kernel_rfl) (by kernel_rfl) (by kernel_rfl) (fun _ _ _ h => h) (Or.inl ⟨by rfl, ?_⟩) (by assumption) ?_
    rotate_left
    · (intro w hSw; (try dsimp only at hSw); go_simp; try with_reducible rfl)
    try simp only [Act.put, List.setIfInBounds_toArray, List.set_cons_zero, List.set_cons_succ]
    refine wpAnyH_ready (rs := [7]) (by kernel_rfl) (by simp) ?_
    refine AllReadyH.cons (by simp only [List.getElem?_toArray, List.getElem?_cons_succ, List.getElem?_cons_zero]; rfl) (fun K hK => ?_) AllReadyH.nil
    go_simp
    go_at_call 32
    refine (text_is X hX.out ok3 _).mono ?_
    rintro e v28 ⟨rfl, k28⟩
    go_wp2_with fail
    refine hK.out _ _ (⟨bstep hHeld.1 k28, (hHeld.2.1).below k28, Msg.keepC hHeld.2.2.1 k28, Msg.keepC hHeld.2.2.2.1 k28, Msg.keepC hHeld.2.2.2.2.1 k28, Msg.keepC hHeld.2.2.2.2.2.1 k28, Msg.keepC hHeld.2.2.2.2.2.2.1 k28, Msg.keepC hHeld.2.2.2.2.2.2.2.1 k28, Msg.keepC hHeld.2.2.2.2.2.2.2.2.1 k28, Msg.keepC hHeld.2.2.2.2.2.2.2.2.2.1 k28, Msg.keepC hHeld.2.2.2.2.2.2.2.2.2.2.1 k28, Msg.keepC hHeld.2.2.2.2.2.2.2.2.2.2.2 k28⟩) (fun hHeld => ?_)
    clear hK K k28
    try simp only [Act.put, List.setIfInBounds_toArray, List.set_cons_zero, List.set_cons_succ]
    refine wpAnyH_take (i := 8) (v := ?_) (by simp only [List.getElem?_toArray, List.getElem?_cons_succ, List.getElem?_cons_zero]; rfl) (by kernel_rfl) (by kernel_rfl) (by kernel_rfl) (fun _ _ _ h => h) (Or.inl ⟨by rfl, ?_⟩) (by assumption) ?_
    rotate_left
    · (intro w hSw; (try dsimp only at hSw); go_simp; try with_reducible rfl)
    try simp only [Act.put, List.setIfInBounds_toArray, List.set_cons_zero, List.set_cons_succ]
    refine wpAnyH_ready (rs := [11]) (by kernel_rfl) (by simp) ?_
    refine AllReadyH.cons (by simp only [List.getElem?_toArray, List.getElem?_cons_succ, List.getElem?_cons_zero]; rfl) (fun K hK => ?_) AllReadyH.nil
    go_simp
    go_at_call 33
    refine (marks_is V hV.out jV hal oA.out _ hHeld.2.1).mono ?_
    rintro e v29 ⟨rfl, k29⟩
    go_wp2_with fail
    refine hK.out _ _ (⟨bstep hHeld.1 k29, (hHeld.2.1).below k29, Msg.keepC hHeld.2.2.1 k29, Msg.keepC hHeld.2.2.2.1 k29, Msg.keepC hHeld.2.2.2.2.1 k29, Msg.keepC hHeld.2.2.2.2.2.1 k29, Msg.keepC hHeld.2.2.2.2.2.2.1 k29, Msg.keepC hHeld.2.2.2.2.2.2.2.1 k29, Msg.keepC hHeld.2.2.2.2.2.2.2.2.1 k29, Msg.keepC hHeld.2.2.2.2.2.2.2.2.2.1 k29, Msg.keepC hHeld.2.2.2.2.2.2.2.2.2.2.1 k29, Msg.keepC hHeld.2.2.2.2.2.2.2.2.2.2.2 k29⟩) (fun hHeld => ?_)
    clear hK K k29
    try simp only [Act.put, List.setIfInBounds_toArray, List.set_cons_zero, List.set_cons_succ]
    refine wpAnyH_take (i := 12) (v := ?_) (by simp only [List.getElem?_toArray, List.getElem?_cons_succ, List.getElem?_cons_zero]; rfl) (by kernel_rfl) (by kernel_rfl) (by kernel_rfl) (fun _ _ _ h => h) (Or.inl ⟨by rfl, ?_⟩) (by assumption) ?_
    rotate_left
    · (intro w hSw; (try dsimp only at hSw); go_simp; try with_reducible rfl)
    try simp only [Act.put, List.setIfInBounds_toArray, List.set_cons_zero, List.set_cons_succ]
    refine wpAnyH_take (i := 13) (v := ?_) (by simp only [List.getElem?_toArray, List.getElem?_cons_succ, List.getElem?_cons_zero]; rfl) (by kernel_rfl) (by kernel_rfl) (by kernel_rfl) (fun _ _ _ h => h) (Or.inl ⟨by rfl, ?_⟩) (by assumption) ?_
    rotate_left
    · (intro w hSw; (try dsimp only at hSw); go_simp; try with_reducible rfl)
    try simp only [Act.put, List.setIfInBounds_toArray, List.set_cons_zero, List.set_cons_succ]
    refine wpAnyH_done (by kernel_rfl) ?_ _
    refine NoPanic.normal ?_
    clear hb lA x0 x1 x2 x3 x4 x5 x6 x7 x8 x9
    obtain ⟨hb, lA, x0, x1, x2, x3, x4, x5, x6, x7, x8, x9⟩ := hHeld
    replace lA := Lib.hid lA
    go_wp2
    go_ret
    exact ⟨by rw [HV.out]; rfl, hb⟩
  have zz1 : ((k : Int) == 1) = false := by rw [beq_eq_false_iff_ne]; omega
  have zz2 : ((k : Int) == 2) = false := by rw [beq_eq_false_iff_ne]; omega
  have zz3 : ((k : Int) == 3) = false := by rw [beq_eq_false_iff_ne]; omega
  have zz4 : ((k : Int) == 4) = false := by rw [beq_eq_false_iff_ne]; omega
  have HV : bodyL ⟨k, src, dst, fr, seq, all, id, (i : Int), (n : Int), tx⟩ = H := by
    unfold bodyL
    simp only [Int.toNat_natCast]
    rw [if_neg k1, if_neg k2, if_neg k3, if_neg k4, HHv.out]
  rw [HV] at hbl
  replace HV := Lib.hid HV
  replace l12 := Lib.hid l12
  replace lH := Lib.hid lH
  replace k1 := Lib.hid k1
  replace k2 := Lib.hid k2
  replace k3 := Lib.hid k3
  replace k4 := Lib.hid k4
  go_enter Tryd.func20, Tryd.ntmps20
  have x0 := bm.out 0 (.int .u8 (k : Int)) rfl
  have x1 := bm.out 1 (.string ⟨src.toArray⟩) rfl
  have x2 := bm.out 2 (.string ⟨dst.toArray⟩) rfl
  have x3 := bm.out 3 (.string ⟨fr.toArray⟩) rfl
  have x4 := bm.out 4 (.int .u64 (seq : Int)) rfl
  have x5 := bm.out 5 (.slice a all.length c) rfl
  have x6 := bm.out 6 (.int .u64 (id : Int)) rfl
  have x7 := bm.out 7 (.int .i64 (i : Int)) rfl
  have x8 := bm.out 8 (.int .i64 (n : Int)) rfl
  have x9 := bm.out 9 (.string ⟨tx.toArray⟩) rfl
  clear bm
  go_wp2_with fail
  refine wp_region_noPanic ?_
  refine wp_region_held_drew (S := (fun w' => Below w.heap.size w w' ∧ Lies w' a all.length all ∧ w'.cell? ⟨w.heap.size, 0, none⟩ = some (.int .u8 (k : Int)) ∧ w'.cell? ⟨w.heap.size, 1, none⟩ = some (.string ⟨src.toArray⟩) ∧ w'.cell? ⟨w.heap.size, 2, none⟩ = some (.string ⟨dst.toArray⟩) ∧ w'.cell? ⟨w.heap.size, 3, none⟩ = some (.string ⟨fr.toArray⟩) ∧ w'.cell? ⟨w.heap.size, 4, none⟩ = some (.int .u64 (seq : Int)) ∧ w'.cell? ⟨w.heap.size, 5, none⟩ = some (.slice a all.length c) ∧ w'.cell? ⟨w.heap.size, 6, none⟩ = some (.int .u64 (id : Int)) ∧ w'.cell? ⟨w.heap.size, 7, none⟩ = some (.int .i64 (i : Int)) ∧ w'.cell? ⟨w.heap.size, 8, none⟩ = some (.int .i64 (n : Int)) ∧ w'.cell? ⟨w.heap.size, 9, none⟩ = some (.string ⟨tx.toArray⟩))) (by kernel_rfl) (⟨Below.drew hb, (lA.out).below (Below.drew (Below.refl _ _)), Msg.keepC x0 (Below.drew (Below.refl _ _)), Msg.keepC x1 (Below.drew (Below.refl _ _)), Msg.keepC x2 (Below.drew (Below.refl _ _)), Msg.keepC x3 (Below.drew (Below.refl _ _)), Msg.keepC x4 (Below.drew (Below.refl _ _)), Msg.keepC x5 (Below.drew (Below.refl _ _)), Msg.keepC x6 (Below.drew (Below.refl _ _)), Msg.keepC x7 (Below.drew (Below.refl _ _)), Msg.keepC x8 (Below.drew (Below.refl _ _)), Msg.keepC x9 (Below.drew (Below.refl _ _))⟩) (fun hHeld => ?_)
  refine wpAnyH_take (i := 0) (v := ?_) (by simp only [List.getElem?_toArray, List.getElem?_cons_zero]; rfl) (by kernel_rfl) (by kernel_rfl) (by kernel_rfl) (fun _ _ _ h => h) (Or.inl ⟨by rfl, ?_⟩) (by assumption) ?_
  rotate_left
  · (intro w hSw; (try dsimp only at hSw); go_simp; try with_reducible rfl)
  try simp only [Act.put, List.setIfInBounds_toArray, List.set_cons_zero, List.set_cons_succ]
  refine wpAnyH_take (i := 1) (v := ?_) (by simp only [List.getElem?_toArray, List.getElem?_cons_succ, List.getElem?_cons_zero]; rfl) (by kernel_rfl) (by kernel_rfl) (by kernel_rfl) (fun _ _ _ h => h) (Or.inl ⟨by rfl, ?_⟩) (by assumption) ?_
  rotate_left
  · (intro w hSw; (try dsimp only at hSw); go_simp; try with_reducible rfl)
  try simp only [Act.put, List.setIfInBounds_toArray, List.set_cons_zero, List.set_cons_succ]
  refine wpAnyH_take (i := 2) (v := ?_) (by simp only [List.getElem?_toArray, List.getElem?_cons_succ, List.getElem?_cons_zero]; rfl) (by kernel_rfl) (by kernel_rfl) (by kernel_rfl) (fun _ _ _ h => h) (Or.inl ⟨by rfl, ?_⟩) (by assumption) ?_
  rotate_left
  · (intro w hSw; (try dsimp only at hSw); go_simp; try with_reducible rfl)
  try simp only [Act.put, List.setIfInBounds_toArray, List.set_cons_zero, List.set_cons_succ]
  refine wpAnyH_take (i := 4) (v := ?_) (by simp only [List.getElem?_toArray, List.getElem?_cons_succ, List.getElem?_cons_zero]; rfl) (by kernel_rfl) (by kernel_rfl) (by kernel_rfl) (fun _ _ _ h => h) (Or.inl ⟨by rfl, ?_⟩) (by assumption) ?_
  rotate_left
  · (intro w hSw; (try dsimp only at hSw); go_simp; try with_reducible rfl)
  try simp only [Act.put, List.setIfInBounds_toArray, List.set_cons_zero, List.set_cons_succ]
  refine wpAnyH_take (i := 5) (v := ?_) (by simp only [List.getElem?_toArray, List.getElem?_cons_succ, List.getElem?_cons_zero]; rfl) (by kernel_rfl) (by kernel_rfl) (by kernel_rfl) (fun _ _ _ h => h) (Or.inl ⟨by rfl, ?_⟩) (by assumption) ?_
  rotate_left
  · (intro w hSw; (try dsimp only at hSw); go_simp; try with_reducible rfl)
  try simp only [Act.put, List.setIfInBounds_toArray, List.set_cons_zero, List.set_cons_succ]
  refine wpAnyH_take (i := 8) (v := ?_) (by simp only [List.getElem?_toArray, List.getElem?_cons_succ, List.getElem?_cons_zero]; rfl) (by kernel_rfl) (by kernel_rfl) (by kernel_rfl) (fun _ _ _ h => h) (Or.inl ⟨by rfl, ?_⟩) (by assumption) ?_
  rotate_left
  · (intro w hSw; (try dsimp only at hSw); go_simp; try with_reducible rfl)
  try simp only [Act.put, List.setIfInBounds_toArray, List.set_cons_zero, List.set_cons_succ]
  refine wpAnyH_take (i := 9) (v := ?_) (by simp only [List.getElem?_toArray, List.getElem?_cons_succ, List.getElem?_cons_zero]; rfl) (by kernel_rfl) (by kernel_rfl) (by kernel_rfl) (fun _ _ _ h => h) (Or.inl ⟨by rfl, ?_⟩) (by assumption) ?_
  rotate_left
  · (intro w hSw; (try dsimp only at hSw); go_simp; try with_reducible rfl)
  try simp only [Act.put, List.setIfInBounds_toArray, List.set_cons_zero, List.set_cons_succ]
  refine wpAnyH_ready (rs := [3]) (by kernel_rfl) (by simp) ?_
  refine AllReadyH.cons (by simp only [List.getElem?_toArray, List.getElem?_cons_succ, List.getElem?_cons_zero]; rfl) (fun K hK => ?_) AllReadyH.nil
  go_simp
  go_at_call 31
  refine (num_w p1 R1.out rfl ck _).mono ?_
  rintro e v30 ⟨rfl, k30⟩
  go_wp2_with fail
  refine hK.out _ _ (⟨bstep hHeld.1 k30, (hHeld.2.1).below k30, Msg.keepC hHeld.2.2.1 k30, Msg.keepC hHeld.2.2.2.1 k30, Msg.keepC hHeld.2.2.2.2.1 k30, Msg.keepC hHeld.2.2.2.2.2.1 k30, Msg.keepC hHeld.2.2.2.2.2.2.1 k30, Msg.keepC hHeld.2.2.2.2.2.2.2.1 k30, Msg.keepC hHeld.2.2.2.2.2.2.2.2.1 k30, Msg.keepC hHeld.2.2.2.2.2.2.2.2.2.1 k30, Msg.keepC hHeld.2.2.2.2.2.2.2.2.2.2.1 k30, Msg.keepC hHeld.2.2.2.2.2.2.2.2.2.2.2 k30⟩) (fun hHeld => ?_)
  clear hK K k30
  try simp only [Act.put, List.setIfInBounds_toArray, List.set_cons_zero, List.set_cons_succ]
  refine wpAnyH_ready (rs := [6]) (by kernel_rfl) (by simp) ?_
  refine AllReadyH.cons (by simp only [List.getElem?_toArray, List.getElem?_cons_succ, List.getElem?_cons_zero]; rfl) (fun K hK => ?_) AllReadyH.nil
  go_simp
  go_at_call 32
  refine (text_is p2 R2.out ok1 _).mono ?_
  rintro e v31 ⟨rfl, k31⟩
  go_wp2_with fail
  refine hK.out _ _ (⟨bstep hHeld.1 k31, (hHeld.2.1).below k31, Msg.keepC hHeld.2.2.1 k31, Msg.keepC hHeld.2.2.2.1 k31, Msg.keepC hHeld.2.2.2.2.1 k31, Msg.keepC hHeld.2.2.2.2.2.1 k31, Msg.keepC hHeld.2.2.2.2.2.2.1 k31, Msg.keepC hHeld.2.2.2.2.2.2.2.1 k31, Msg.keepC hHeld.2.2.2.2.2.2.2.2.1 k31, Msg.keepC hHeld.2.2.2.2.2.2.2.2.2.1 k31, Msg.keepC hHeld.2.2.2.2.2.2.2.2.2.2.1 k31, Msg.keepC hHeld.2.2.2.2.2.2.2.2.2.2.2 k31⟩) (fun hHeld => ?_)
  clear hK K k31
  try simp only [Act.put, List.setIfInBounds_toArray, List.set_cons_zero, List.set_cons_succ]
  refine wpAnyH_take (i := 7) (v := ?_) (by simp only [List.getElem?_toArray, List.getElem?_cons_succ, List.getElem?_cons_zero]; rfl) (by kernel_rfl) (by kernel_rfl) (by kernel_rfl) (fun _ _ _ h => h) (Or.inl ⟨by rfl, ?_⟩) (by assumption) ?_
  rotate_left
  · (intro w hSw; (try dsimp only at hSw); go_simp; try with_reducible rfl)
  try simp only [Act.put, List.setIfInBounds_toArray, List.set_cons_zero, List.set_cons_succ]
  refine wpAnyH_ready (rs := [10]) (by kernel_rfl) (by simp) ?_
  refine AllReadyH.cons (by simp only [List.getElem?_toArray, List.getElem?_cons_succ, List.getElem?_cons_zero]; rfl) (fun K hK => ?_) AllReadyH.nil
  go_simp
  go_at_call 32
  refine (text_is p3 R3.out ok2 _).mono ?_
  rintro e v32 ⟨rfl, k32⟩
  go_wp2_with fail
  refine hK.out _ _ (⟨bstep hHeld.1 k32, (hHeld.2.1).below k32, Msg.keepC hHeld.2.2.1 k32, Msg.keepC hHeld.2.2.2.1 k32, Msg.keepC hHeld.2.2.2.2.1 k32, Msg.keepC hHeld.2.2.2.2.2.1 k32, Msg.keepC hHeld.2.2.2.2.2.2.1 k32, Msg.keepC hHeld.2.2.2.2.2.2.2.1 k32, Msg.keepC hHeld.2.2.2.2.2.2.2.2.1 k32, Msg.keepC hHeld.2.2.2.2.2.2.2.2.2.1 k32, Msg.keepC hHeld.2.2.2.2.2.2.2.2.2.2.1 k32, Msg.keepC hHeld.2.2.2.2.2.2.2.2.2.2.2 k32⟩) (fun hHeld => ?_)
  clear hK K k32
  try simp only [Act.put, List.setIfInBounds_toArray, List.set_cons_zero, List.set_cons_succ]
  refine wpAnyH_take (i := 11) (v := ?_) (by simp only [List.getElem?_toArray, List.getElem?_cons_succ, List.getElem?_cons_zero]; rfl) (by kernel_rfl) (by kernel_rfl) (by kernel_rfl) (fun _ _ _ h => h) (Or.inl ⟨by rfl, ?_⟩) (by assumption) ?_
  rotate_left
  · (intro w hSw; (try dsimp only at hSw); go_simp; try with_reducible rfl)
  try simp only [Act.put, List.setIfInBounds_toArray, List.set_cons_zero, List.set_cons_succ]
  refine wpAnyH_take (i := 12) (v := ?_) (by simp only [List.getElem?_toArray, List.getElem?_cons_succ, List.getElem?_cons_zero]; rfl) (by kernel_rfl) (by kernel_rfl) (by kernel_rfl) (fun _ _ _ h => h) (Or.inl ⟨by rfl, ?_⟩) (by assumption) ?_
  rotate_left
  · (intro w hSw; (try dsimp only at hSw); go_simp; try with_reducible rfl)
  try simp only [Act.put, List.setIfInBounds_toArray, List.set_cons_zero, List.set_cons_succ]
  refine wpAnyH_done (by kernel_rfl) ?_ _
  refine NoPanic.normal ?_
  clear hb lA x0 x1 x2 x3 x4 x5 x6 x7 x8 x9
  obtain ⟨hb, lA, x0, x1, x2, x3, x4, x5, x6, x7, x8, x9⟩ := hHeld
  replace lA := Lib.hid lA
  go_wp2
  go_ret
  exact ⟨by rw [HV.out]; rfl, hb⟩

theorem text_of {m : G} {a : Option Addr} {c : Nat} (r : List UInt8) (h : bodyL m = r) (hm : m.Mod) (hf : fitsB m = true) (hbl : (bodyL m).length ≤ 1048576) (w : World) (hL : Lies w a m.all.length m.all) :
    Calls Tryd.prog 20 #[.agg (m.cells a c)] w fun e w' => e = .returned (.string ⟨r.toArray⟩) ∧ Below w.heap.size w w' := by
  obtain ⟨h1, h2⟩ := fits_nat hf
  have hl := hm.len
  subst h
  obtain ⟨k, src, dst, fr, seq, all, id, i, n, tx⟩ := m
  simp only at h1 h2 hl
  obtain ⟨i, rfl⟩ := Int.eq_ofNat_of_zero_le h1
  obtain ⟨n, rfl⟩ := Int.eq_ofNat_of_zero_le h2
  exact body_any k src dst fr seq all id i n tx a c w hm.ok hL (by omega) (by omega)
theorem body_light {m : G} (h : heavyB m = false) : (bodyL m).length ≤ 1048576 := by
  obtain ⟨h1, h2⟩ := light h
  have hb := body_length m
  have : sumP m.all ≤ sumH m.all := by
    unfold sumP sumH
    induction m.all with
    | nil => simp
    | cons x l ih => simp only [List.map_cons, List.sum_cons]; omega
  omega
theorem ref_may_is {L : List M} {a : Option Addr} {c : Nat} {w : World} (v : Bool) (h : Dots.mayL L = v) (hL : Lies w a L.length L) (hn : L.length ≤ 1099511627776) (hok : Mark.Ok L) :
    Calls Tryd.prog 22 #[.slice a L.length c] w fun e w' => e = .returned (.bool v) ∧ Below w.heap.size w w' := by rw [← h]; exact RefDots.may_any L a _ c w hL hn hok
theorem shape_is {m : G} {a : Option Addr} {c : Nat} (r : Bool) (h : shapeB m = r) (hf : m.fr.length ≤ 1099511627776) (hx : m.tx.length ≤ 1099511627776) (w : World) :
    Calls Tryd.prog 23 #[.agg (m.cells a c)] w fun e w' => e = .returned (.bool r) ∧ Below w.heap.size w w' := by rw [← h]; exact shape_any m a c w hf hx

set_option maxRecDepth 100000 in
set_option maxHeartbeats 4000000 in
theorem encode_of {m : G} {a : Option Addr} {c : Nat} (r : List UInt8) (h : Frame.putL (bodyL m) = r) (hm : m.Mod) (hf : fitsB m = true) (hbl : (bodyL m).length ≤ 1048576) (w : World) (hL : Lies w a m.all.length m.all) :
    Calls Tryd.prog 13 #[.agg (m.cells a c)] w fun e w' => e = .returned (.string ⟨r.toArray⟩) ∧ Below w.heap.size w w' := by
  show Calls Tryd.prog 13 #[.agg #[.int .u8 (m.kind : Int), .string ⟨m.src.toArray⟩, .string ⟨m.dst.toArray⟩, .string ⟨m.fr.toArray⟩, .int .u64 (m.seq : Int), .slice a m.all.length c, .int .u64 (m.id : Int), .int .i64 m.i, .int .i64 m.n, .string ⟨m.tx.toArray⟩]] w fun e w' => e = .returned (.string ⟨r.toArray⟩) ∧ Below w.heap.size w w'
  have hb : Below w.heap.size w (w.alloc (.cells #[.int .u8 (m.kind : Int), .string ⟨m.src.toArray⟩, .string ⟨m.dst.toArray⟩, .string ⟨m.fr.toArray⟩, .int .u64 (m.seq : Int), .slice a m.all.length c, .int .u64 (m.id : Int), .int .i64 m.i, .int .i64 m.n, .string ⟨m.tx.toArray⟩] 27)) := balloc (Below.refl w.heap.size w) _
  have bm : Hid (Box (w.alloc (.cells #[.int .u8 (m.kind : Int), .string ⟨m.src.toArray⟩, .string ⟨m.dst.toArray⟩, .string ⟨m.fr.toArray⟩, .int .u64 (m.seq : Int), .slice a m.all.length c, .int .u64 (m.id : Int), .int .i64 m.i, .int .i64 m.n, .string ⟨m.tx.toArray⟩] 27)) w.heap.size #[.int .u8 (m.kind : Int), .string ⟨m.src.toArray⟩, .string ⟨m.dst.toArray⟩, .string ⟨m.fr.toArray⟩, .int .u64 (m.seq : Int), .slice a m.all.length c, .int .u64 (m.id : Int), .int .i64 m.i, .int .i64 m.n, .string ⟨m.tx.toArray⟩]) := Lib.hid (Box.new w _ _)
  have lA := Lib.hid (hL.below hb)
  have HM := Lib.hid hm
  have HF := Lib.hid hf
  have HBL := Lib.hid hbl
  obtain ⟨t, ht⟩ : ∃ t, bodyL m = t := ⟨_, rfl⟩
  rw [ht] at h hbl
  have CP : Hid (∀ W, Calls Tryd.prog 25 #[.string ⟨t.toArray⟩] W fun e w' => e = .returned (.string ⟨r.toArray⟩) ∧ Below W.heap.size W w') := Lib.hid (fun W => by rw [← h]; exact RefFrame.put_any t W hbl)
  replace ht := Lib.hid ht
  clear hL hm hf h hbl
  go_enter Tryd.func13, Tryd.ntmps13
  have x0 := bm.out 0 (.int .u8 (m.kind : Int)) rfl
  have x1 := bm.out 1 (.string ⟨m.src.toArray⟩) rfl
  have x2 := bm.out 2 (.string ⟨m.dst.toArray⟩) rfl
  have x3 := bm.out 3 (.string ⟨m.fr.toArray⟩) rfl
  have x4 := bm.out 4 (.int .u64 (m.seq : Int)) rfl
  have x5 := bm.out 5 (.slice a m.all.length c) rfl
  have x6 := bm.out 6 (.int .u64 (m.id : Int)) rfl
  have x7 := bm.out 7 (.int .i64 m.i) rfl
  have x8 := bm.out 8 (.int .i64 m.n) rfl
  have x9 := bm.out 9 (.string ⟨m.tx.toArray⟩) rfl
  go_wp2_with fail
  refine (text_of t ht.out HM.out HF.out HBL.out _ lA.out).mono ?_
  rintro e v33 ⟨rfl, k33⟩
  replace lA := Lib.hid ((lA.out).below k33)
  replace x0 := (Msg.keepC x0 k33)
  replace x1 := (Msg.keepC x1 k33)
  replace x2 := (Msg.keepC x2 k33)
  replace x3 := (Msg.keepC x3 k33)
  replace x4 := (Msg.keepC x4 k33)
  replace x5 := (Msg.keepC x5 k33)
  replace x6 := (Msg.keepC x6 k33)
  replace x7 := (Msg.keepC x7 k33)
  replace x8 := (Msg.keepC x8 k33)
  replace x9 := (Msg.keepC x9 k33)
  replace hb := bstep hb k33
  clear k33
  go_wp2_with fail
  refine (CP.out _).mono ?_
  rintro e v34 ⟨rfl, k34⟩
  replace lA := Lib.hid ((lA.out).below k34)
  replace x0 := (Msg.keepC x0 k34)
  replace x1 := (Msg.keepC x1 k34)
  replace x2 := (Msg.keepC x2 k34)
  replace x3 := (Msg.keepC x3 k34)
  replace x4 := (Msg.keepC x4 k34)
  replace x5 := (Msg.keepC x5 k34)
  replace x6 := (Msg.keepC x6 k34)
  replace x7 := (Msg.keepC x7 k34)
  replace x8 := (Msg.keepC x8 k34)
  replace x9 := (Msg.keepC x9 k34)
  replace hb := bstep hb k34
  clear k34
  go_wp2
  go_ret
  exact ⟨rfl, hb⟩
theorem fits_false {m : G} (h : fitsB m = false) : mayM m = false := by unfold mayM; rw [h]; rfl
set_option maxRecDepth 100000 in
set_option maxHeartbeats 8000000 in
theorem may_of {m : G} {a : Option Addr} {c : Nat} (r : Bool) (h : mayM m = r) (hm : m.Mod) (hbl : (bodyL m).length ≤ 1048576) (w : World) (hL : Lies w a m.all.length m.all) :
    Calls Tryd.prog 10 #[.agg (m.cells a c)] w fun e w' => e = .returned (.bool r) ∧ Below w.heap.size w w' := by
  show Calls Tryd.prog 10 #[.agg #[.int .u8 (m.kind : Int), .string ⟨m.src.toArray⟩, .string ⟨m.dst.toArray⟩, .string ⟨m.fr.toArray⟩, .int .u64 (m.seq : Int), .slice a m.all.length c, .int .u64 (m.id : Int), .int .i64 m.i, .int .i64 m.n, .string ⟨m.tx.toArray⟩]] w fun e w' => e = .returned (.bool r) ∧ Below w.heap.size w w'
  subst h
  have hb : Below w.heap.size w (w.alloc (.cells #[.int .u8 (m.kind : Int), .string ⟨m.src.toArray⟩, .string ⟨m.dst.toArray⟩, .string ⟨m.fr.toArray⟩, .int .u64 (m.seq : Int), .slice a m.all.length c, .int .u64 (m.id : Int), .int .i64 m.i, .int .i64 m.n, .string ⟨m.tx.toArray⟩] 27)) := balloc (Below.refl w.heap.size w) _
  have bm : Hid (Box (w.alloc (.cells #[.int .u8 (m.kind : Int), .string ⟨m.src.toArray⟩, .string ⟨m.dst.toArray⟩, .string ⟨m.fr.toArray⟩, .int .u64 (m.seq : Int), .slice a m.all.length c, .int .u64 (m.id : Int), .int .i64 m.i, .int .i64 m.n, .string ⟨m.tx.toArray⟩] 27)) w.heap.size #[.int .u8 (m.kind : Int), .string ⟨m.src.toArray⟩, .string ⟨m.dst.toArray⟩, .string ⟨m.fr.toArray⟩, .int .u64 (m.seq : Int), .slice a m.all.length c, .int .u64 (m.id : Int), .int .i64 m.i, .int .i64 m.n, .string ⟨m.tx.toArray⟩]) := Lib.hid (Box.new w _ _)
  have lA := Lib.hid (hL.below hb)
  have o1 := hm.ok.src
  have o2 := hm.ok.dst
  have o3 := hm.ok.fr
  have o4 := hm.ok.tx
  have o5 := hm.ok.len
  have HO := Lib.hid hm.ok.all
  have HM := Lib.hid hm
  have HBL := Lib.hid hbl
  clear hL hm hbl
  cases q1 : pathB m.src
  · skip
    have HV : Hid (mayM m = false) := Lib.hid (fits_false (by unfold fitsB; rw [q1]; simp))
    replace q1 := Lib.hid q1
    go_enter Tryd.func10, Tryd.ntmps10
    have x0 := bm.out 0 (.int .u8 (m.kind : Int)) rfl
    have x1 := bm.out 1 (.string ⟨m.src.toArray⟩) rfl
    have x2 := bm.out 2 (.string ⟨m.dst.toArray⟩) rfl
    have x3 := bm.out 3 (.string ⟨m.fr.toArray⟩) rfl
    have x4 := bm.out 4 (.int .u64 (m.seq : Int)) rfl
    have x5 := bm.out 5 (.slice a m.all.length c) rfl
    have x6 := bm.out 6 (.int .u64 (m.id : Int)) rfl
    have x7 := bm.out 7 (.int .i64 m.i) rfl
    have x8 := bm.out 8 (.int .i64 m.n) rfl
    have x9 := bm.out 9 (.string ⟨m.tx.toArray⟩) rfl
    go_wp2_with fail
    refine (path_is false q1.out o1 _).mono ?_
    rintro e v35 ⟨rfl, k35⟩
    replace lA := Lib.hid ((lA.out).below k35)
    replace x0 := (Msg.keepC x0 k35)
    replace x1 := (Msg.keepC x1 k35)
    replace x2 := (Msg.keepC x2 k35)
    replace x3 := (Msg.keepC x3 k35)
    replace x4 := (Msg.keepC x4 k35)
    replace x5 := (Msg.keepC x5 k35)
    replace x6 := (Msg.keepC x6 k35)
    replace x7 := (Msg.keepC x7 k35)
    replace x8 := (Msg.keepC x8 k35)
    replace x9 := (Msg.keepC x9 k35)
    replace hb := bstep hb k35
    clear k35
    go_wp2
    go_ret
    exact ⟨by rw [HV.out]; rfl, hb⟩
  cases q2 : pathB m.dst
  · skip
    have HV : Hid (mayM m = false) := Lib.hid (fits_false (by unfold fitsB; rw [q1, q2]; simp))
    replace q1 := Lib.hid q1
    replace q2 := Lib.hid q2
    go_enter Tryd.func10, Tryd.ntmps10
    have x0 := bm.out 0 (.int .u8 (m.kind : Int)) rfl
    have x1 := bm.out 1 (.string ⟨m.src.toArray⟩) rfl
    have x2 := bm.out 2 (.string ⟨m.dst.toArray⟩) rfl
    have x3 := bm.out 3 (.string ⟨m.fr.toArray⟩) rfl
    have x4 := bm.out 4 (.int .u64 (m.seq : Int)) rfl
    have x5 := bm.out 5 (.slice a m.all.length c) rfl
    have x6 := bm.out 6 (.int .u64 (m.id : Int)) rfl
    have x7 := bm.out 7 (.int .i64 m.i) rfl
    have x8 := bm.out 8 (.int .i64 m.n) rfl
    have x9 := bm.out 9 (.string ⟨m.tx.toArray⟩) rfl
    go_wp2_with fail
    refine (path_is true q1.out o1 _).mono ?_
    rintro e v36 ⟨rfl, k36⟩
    replace lA := Lib.hid ((lA.out).below k36)
    replace x0 := (Msg.keepC x0 k36)
    replace x1 := (Msg.keepC x1 k36)
    replace x2 := (Msg.keepC x2 k36)
    replace x3 := (Msg.keepC x3 k36)
    replace x4 := (Msg.keepC x4 k36)
    replace x5 := (Msg.keepC x5 k36)
    replace x6 := (Msg.keepC x6 k36)
    replace x7 := (Msg.keepC x7 k36)
    replace x8 := (Msg.keepC x8 k36)
    replace x9 := (Msg.keepC x9 k36)
    replace hb := bstep hb k36
    clear k36
    go_wp2_with fail
    refine (path_is false q2.out o2 _).mono ?_
    rintro e v37 ⟨rfl, k37⟩
    replace lA := Lib.hid ((lA.out).below k37)
    replace x0 := (Msg.keepC x0 k37)
    replace x1 := (Msg.keepC x1 k37)
    replace x2 := (Msg.keepC x2 k37)
    replace x3 := (Msg.keepC x3 k37)
    replace x4 := (Msg.keepC x4 k37)
    replace x5 := (Msg.keepC x5 k37)
    replace x6 := (Msg.keepC x6 k37)
    replace x7 := (Msg.keepC x7 k37)
    replace x8 := (Msg.keepC x8 k37)
    replace x9 := (Msg.keepC x9 k37)
    replace hb := bstep hb k37
    clear k37
    go_wp2
    go_ret
    exact ⟨by rw [HV.out]; rfl, hb⟩
  by_cases q3 : m.seq ≤ 281474976710656
  rotate_left
  · skip
    have HV : Hid (mayM m = false) := Lib.hid (fits_false (by unfold fitsB; rw [q1, q2, decide_eq_false q3]; simp))
    have d1 : decide ((m.seq : Int) > 281474976710656) = true := decide_eq_true (by omega)
    have d2 : decide ((281474976710656 : Int) < (m.seq : Int)) = true := decide_eq_true (by omega)
    replace q1 := Lib.hid q1
    replace q2 := Lib.hid q2
    clear q3
    go_enter Tryd.func10, Tryd.ntmps10
    have x0 := bm.out 0 (.int .u8 (m.kind : Int)) rfl
    have x1 := bm.out 1 (.string ⟨m.src.toArray⟩) rfl
    have x2 := bm.out 2 (.string ⟨m.dst.toArray⟩) rfl
    have x3 := bm.out 3 (.string ⟨m.fr.toArray⟩) rfl
    have x4 := bm.out 4 (.int .u64 (m.seq : Int)) rfl
    have x5 := bm.out 5 (.slice a m.all.length c) rfl
    have x6 := bm.out 6 (.int .u64 (m.id : Int)) rfl
    have x7 := bm.out 7 (.int .i64 m.i) rfl
    have x8 := bm.out 8 (.int .i64 m.n) rfl
    have x9 := bm.out 9 (.string ⟨m.tx.toArray⟩) rfl
    go_wp2_with fail
    refine (path_is true q1.out o1 _).mono ?_
    rintro e v38 ⟨rfl, k38⟩
    replace lA := Lib.hid ((lA.out).below k38)
    replace x0 := (Msg.keepC x0 k38)
    replace x1 := (Msg.keepC x1 k38)
    replace x2 := (Msg.keepC x2 k38)
    replace x3 := (Msg.keepC x3 k38)
    replace x4 := (Msg.keepC x4 k38)
    replace x5 := (Msg.keepC x5 k38)
    replace x6 := (Msg.keepC x6 k38)
    replace x7 := (Msg.keepC x7 k38)
    replace x8 := (Msg.keepC x8 k38)
    replace x9 := (Msg.keepC x9 k38)
    replace hb := bstep hb k38
    clear k38
    go_wp2_with fail
    refine (path_is true q2.out o2 _).mono ?_
    rintro e v39 ⟨rfl, k39⟩
    replace lA := Lib.hid ((lA.out).below k39)
    replace x0 := (Msg.keepC x0 k39)
    replace x1 := (Msg.keepC x1 k39)
    replace x2 := (Msg.keepC x2 k39)
    replace x3 := (Msg.keepC x3 k39)
    replace x4 := (Msg.keepC x4 k39)
    replace x5 := (Msg.keepC x5 k39)
    replace x6 := (Msg.keepC x6 k39)
    replace x7 := (Msg.keepC x7 k39)
    replace x8 := (Msg.keepC x8 k39)
    replace x9 := (Msg.keepC x9 k39)
    replace hb := bstep hb k39
    clear k39
    go_wp2
    go_ret
    exact ⟨by rw [HV.out]; rfl, hb⟩
  have d1 : decide ((m.seq : Int) > 281474976710656) = false := decide_eq_false (by omega)
  have d2 : decide ((281474976710656 : Int) < (m.seq : Int)) = false := decide_eq_false (by omega)
  cases q4 : Dots.mayL m.all
  · skip
    have HV : Hid (mayM m = false) := Lib.hid (fits_false (by unfold fitsB; rw [q1, q2, decide_eq_true q3, q4]; simp))
    replace q1 := Lib.hid q1
    replace q2 := Lib.hid q2
    replace q3 := Lib.hid q3
    replace q4 := Lib.hid q4
    go_enter Tryd.func10, Tryd.ntmps10
    have x0 := bm.out 0 (.int .u8 (m.kind : Int)) rfl
    have x1 := bm.out 1 (.string ⟨m.src.toArray⟩) rfl
    have x2 := bm.out 2 (.string ⟨m.dst.toArray⟩) rfl
    have x3 := bm.out 3 (.string ⟨m.fr.toArray⟩) rfl
    have x4 := bm.out 4 (.int .u64 (m.seq : Int)) rfl
    have x5 := bm.out 5 (.slice a m.all.length c) rfl
    have x6 := bm.out 6 (.int .u64 (m.id : Int)) rfl
    have x7 := bm.out 7 (.int .i64 m.i) rfl
    have x8 := bm.out 8 (.int .i64 m.n) rfl
    have x9 := bm.out 9 (.string ⟨m.tx.toArray⟩) rfl
    go_wp2_with fail
    refine (path_is true q1.out o1 _).mono ?_
    rintro e v40 ⟨rfl, k40⟩
    replace lA := Lib.hid ((lA.out).below k40)
    replace x0 := (Msg.keepC x0 k40)
    replace x1 := (Msg.keepC x1 k40)
    replace x2 := (Msg.keepC x2 k40)
    replace x3 := (Msg.keepC x3 k40)
    replace x4 := (Msg.keepC x4 k40)
    replace x5 := (Msg.keepC x5 k40)
    replace x6 := (Msg.keepC x6 k40)
    replace x7 := (Msg.keepC x7 k40)
    replace x8 := (Msg.keepC x8 k40)
    replace x9 := (Msg.keepC x9 k40)
    replace hb := bstep hb k40
    clear k40
    go_wp2_with fail
    refine (path_is true q2.out o2 _).mono ?_
    rintro e v41 ⟨rfl, k41⟩
    replace lA := Lib.hid ((lA.out).below k41)
    replace x0 := (Msg.keepC x0 k41)
    replace x1 := (Msg.keepC x1 k41)
    replace x2 := (Msg.keepC x2 k41)
    replace x3 := (Msg.keepC x3 k41)
    replace x4 := (Msg.keepC x4 k41)
    replace x5 := (Msg.keepC x5 k41)
    replace x6 := (Msg.keepC x6 k41)
    replace x7 := (Msg.keepC x7 k41)
    replace x8 := (Msg.keepC x8 k41)
    replace x9 := (Msg.keepC x9 k41)
    replace hb := bstep hb k41
    clear k41
    go_wp2_with fail
    refine (ref_may_is false q4.out lA.out o5 HO.out).mono ?_
    rintro e v42 ⟨rfl, k42⟩
    replace lA := Lib.hid ((lA.out).below k42)
    replace x0 := (Msg.keepC x0 k42)
    replace x1 := (Msg.keepC x1 k42)
    replace x2 := (Msg.keepC x2 k42)
    replace x3 := (Msg.keepC x3 k42)
    replace x4 := (Msg.keepC x4 k42)
    replace x5 := (Msg.keepC x5 k42)
    replace x6 := (Msg.keepC x6 k42)
    replace x7 := (Msg.keepC x7 k42)
    replace x8 := (Msg.keepC x8 k42)
    replace x9 := (Msg.keepC x9 k42)
    replace hb := bstep hb k42
    clear k42
    go_wp2
    go_ret
    exact ⟨by rw [HV.out]; rfl, hb⟩
  cases q5 : shapeB m
  · skip
    have HV : Hid (mayM m = false) := Lib.hid (fits_false (by unfold fitsB; rw [q1, q2, decide_eq_true q3, q4, q5]; simp))
    replace q1 := Lib.hid q1
    replace q2 := Lib.hid q2
    replace q3 := Lib.hid q3
    replace q4 := Lib.hid q4
    replace q5 := Lib.hid q5
    go_enter Tryd.func10, Tryd.ntmps10
    have x0 := bm.out 0 (.int .u8 (m.kind : Int)) rfl
    have x1 := bm.out 1 (.string ⟨m.src.toArray⟩) rfl
    have x2 := bm.out 2 (.string ⟨m.dst.toArray⟩) rfl
    have x3 := bm.out 3 (.string ⟨m.fr.toArray⟩) rfl
    have x4 := bm.out 4 (.int .u64 (m.seq : Int)) rfl
    have x5 := bm.out 5 (.slice a m.all.length c) rfl
    have x6 := bm.out 6 (.int .u64 (m.id : Int)) rfl
    have x7 := bm.out 7 (.int .i64 m.i) rfl
    have x8 := bm.out 8 (.int .i64 m.n) rfl
    have x9 := bm.out 9 (.string ⟨m.tx.toArray⟩) rfl
    go_wp2_with fail
    refine (path_is true q1.out o1 _).mono ?_
    rintro e v43 ⟨rfl, k43⟩
    replace lA := Lib.hid ((lA.out).below k43)
    replace x0 := (Msg.keepC x0 k43)
    replace x1 := (Msg.keepC x1 k43)
    replace x2 := (Msg.keepC x2 k43)
    replace x3 := (Msg.keepC x3 k43)
    replace x4 := (Msg.keepC x4 k43)
    replace x5 := (Msg.keepC x5 k43)
    replace x6 := (Msg.keepC x6 k43)
    replace x7 := (Msg.keepC x7 k43)
    replace x8 := (Msg.keepC x8 k43)
    replace x9 := (Msg.keepC x9 k43)
    replace hb := bstep hb k43
    clear k43
    go_wp2_with fail
    refine (path_is true q2.out o2 _).mono ?_
    rintro e v44 ⟨rfl, k44⟩
    replace lA := Lib.hid ((lA.out).below k44)
    replace x0 := (Msg.keepC x0 k44)
    replace x1 := (Msg.keepC x1 k44)
    replace x2 := (Msg.keepC x2 k44)
    replace x3 := (Msg.keepC x3 k44)
    replace x4 := (Msg.keepC x4 k44)
    replace x5 := (Msg.keepC x5 k44)
    replace x6 := (Msg.keepC x6 k44)
    replace x7 := (Msg.keepC x7 k44)
    replace x8 := (Msg.keepC x8 k44)
    replace x9 := (Msg.keepC x9 k44)
    replace hb := bstep hb k44
    clear k44
    go_wp2_with fail
    refine (ref_may_is true q4.out lA.out o5 HO.out).mono ?_
    rintro e v45 ⟨rfl, k45⟩
    replace lA := Lib.hid ((lA.out).below k45)
    replace x0 := (Msg.keepC x0 k45)
    replace x1 := (Msg.keepC x1 k45)
    replace x2 := (Msg.keepC x2 k45)
    replace x3 := (Msg.keepC x3 k45)
    replace x4 := (Msg.keepC x4 k45)
    replace x5 := (Msg.keepC x5 k45)
    replace x6 := (Msg.keepC x6 k45)
    replace x7 := (Msg.keepC x7 k45)
    replace x8 := (Msg.keepC x8 k45)
    replace x9 := (Msg.keepC x9 k45)
    replace hb := bstep hb k45
    clear k45
    go_wp2_with fail
    refine (shape_is (m := m) false q5.out o3 o4 _).mono ?_
    rintro e v46 ⟨rfl, k46⟩
    replace lA := Lib.hid ((lA.out).below k46)
    replace x0 := (Msg.keepC x0 k46)
    replace x1 := (Msg.keepC x1 k46)
    replace x2 := (Msg.keepC x2 k46)
    replace x3 := (Msg.keepC x3 k46)
    replace x4 := (Msg.keepC x4 k46)
    replace x5 := (Msg.keepC x5 k46)
    replace x6 := (Msg.keepC x6 k46)
    replace x7 := (Msg.keepC x7 k46)
    replace x8 := (Msg.keepC x8 k46)
    replace x9 := (Msg.keepC x9 k46)
    replace hb := bstep hb k46
    clear k46
    go_wp2
    go_ret
    exact ⟨by rw [HV.out]; rfl, hb⟩
  have HF : Hid (fitsB m = true) := Lib.hid (by unfold fitsB; rw [q1, q2, decide_eq_true q3, q4, q5]; rfl)
  obtain ⟨R, hR⟩ : ∃ R, Frame.putL (bodyL m) = R := ⟨_, rfl⟩
  have zR := Str.size_mk R
  have HV : Hid (mayM m = decide ((R.length : Int) ≤ 16384)) := Lib.hid (by
    unfold mayM
    rw [HF.out, Bool.true_and, ← hR, Frame.putL_length]
    congr 1
    exact propext ⟨fun h => by omega, fun h => by omega⟩)
  obtain ⟨rr, hrr⟩ : ∃ b, decide ((R.length : Int) ≤ 16384) = b := ⟨_, rfl⟩
  rw [hrr] at HV
  replace hR := Lib.hid hR
  replace q1 := Lib.hid q1
  replace q2 := Lib.hid q2
  replace q3 := Lib.hid q3
  replace q4 := Lib.hid q4
  replace q5 := Lib.hid q5
  go_enter Tryd.func10, Tryd.ntmps10
  have x0 := bm.out 0 (.int .u8 (m.kind : Int)) rfl
  have x1 := bm.out 1 (.string ⟨m.src.toArray⟩) rfl
  have x2 := bm.out 2 (.string ⟨m.dst.toArray⟩) rfl
  have x3 := bm.out 3 (.string ⟨m.fr.toArray⟩) rfl
  have x4 := bm.out 4 (.int .u64 (m.seq : Int)) rfl
  have x5 := bm.out 5 (.slice a m.all.length c) rfl
  have x6 := bm.out 6 (.int .u64 (m.id : Int)) rfl
  have x7 := bm.out 7 (.int .i64 m.i) rfl
  have x8 := bm.out 8 (.int .i64 m.n) rfl
  have x9 := bm.out 9 (.string ⟨m.tx.toArray⟩) rfl
  go_wp2_with fail
  refine (path_is true q1.out o1 _).mono ?_
  rintro e v47 ⟨rfl, k47⟩
  replace lA := Lib.hid ((lA.out).below k47)
  replace x0 := (Msg.keepC x0 k47)
  replace x1 := (Msg.keepC x1 k47)
  replace x2 := (Msg.keepC x2 k47)
  replace x3 := (Msg.keepC x3 k47)
  replace x4 := (Msg.keepC x4 k47)
  replace x5 := (Msg.keepC x5 k47)
  replace x6 := (Msg.keepC x6 k47)
  replace x7 := (Msg.keepC x7 k47)
  replace x8 := (Msg.keepC x8 k47)
  replace x9 := (Msg.keepC x9 k47)
  replace hb := bstep hb k47
  clear k47
  go_wp2_with fail
  refine (path_is true q2.out o2 _).mono ?_
  rintro e v48 ⟨rfl, k48⟩
  replace lA := Lib.hid ((lA.out).below k48)
  replace x0 := (Msg.keepC x0 k48)
  replace x1 := (Msg.keepC x1 k48)
  replace x2 := (Msg.keepC x2 k48)
  replace x3 := (Msg.keepC x3 k48)
  replace x4 := (Msg.keepC x4 k48)
  replace x5 := (Msg.keepC x5 k48)
  replace x6 := (Msg.keepC x6 k48)
  replace x7 := (Msg.keepC x7 k48)
  replace x8 := (Msg.keepC x8 k48)
  replace x9 := (Msg.keepC x9 k48)
  replace hb := bstep hb k48
  clear k48
  go_wp2_with fail
  refine (ref_may_is true q4.out lA.out o5 HO.out).mono ?_
  rintro e v49 ⟨rfl, k49⟩
  replace lA := Lib.hid ((lA.out).below k49)
  replace x0 := (Msg.keepC x0 k49)
  replace x1 := (Msg.keepC x1 k49)
  replace x2 := (Msg.keepC x2 k49)
  replace x3 := (Msg.keepC x3 k49)
  replace x4 := (Msg.keepC x4 k49)
  replace x5 := (Msg.keepC x5 k49)
  replace x6 := (Msg.keepC x6 k49)
  replace x7 := (Msg.keepC x7 k49)
  replace x8 := (Msg.keepC x8 k49)
  replace x9 := (Msg.keepC x9 k49)
  replace hb := bstep hb k49
  clear k49
  go_wp2_with fail
  refine (shape_is (m := m) true q5.out o3 o4 _).mono ?_
  rintro e v50 ⟨rfl, k50⟩
  replace lA := Lib.hid ((lA.out).below k50)
  replace x0 := (Msg.keepC x0 k50)
  replace x1 := (Msg.keepC x1 k50)
  replace x2 := (Msg.keepC x2 k50)
  replace x3 := (Msg.keepC x3 k50)
  replace x4 := (Msg.keepC x4 k50)
  replace x5 := (Msg.keepC x5 k50)
  replace x6 := (Msg.keepC x6 k50)
  replace x7 := (Msg.keepC x7 k50)
  replace x8 := (Msg.keepC x8 k50)
  replace x9 := (Msg.keepC x9 k50)
  replace hb := bstep hb k50
  clear k50
  go_wp2_with fail
  refine (encode_of R hR.out HM.out HF.out HBL.out _ lA.out).mono ?_
  rintro e v51 ⟨rfl, k51⟩
  replace lA := Lib.hid ((lA.out).below k51)
  replace x0 := (Msg.keepC x0 k51)
  replace x1 := (Msg.keepC x1 k51)
  replace x2 := (Msg.keepC x2 k51)
  replace x3 := (Msg.keepC x3 k51)
  replace x4 := (Msg.keepC x4 k51)
  replace x5 := (Msg.keepC x5 k51)
  replace x6 := (Msg.keepC x6 k51)
  replace x7 := (Msg.keepC x7 k51)
  replace x8 := (Msg.keepC x8 k51)
  replace x9 := (Msg.keepC x9 k51)
  replace hb := bstep hb k51
  clear k51
  go_wp2
  go_ret
  exact ⟨by rw [HV.out]; rfl, hb⟩

end RefMsg
end Go.Proofs.YtcfimfoccbaepaaDoor
