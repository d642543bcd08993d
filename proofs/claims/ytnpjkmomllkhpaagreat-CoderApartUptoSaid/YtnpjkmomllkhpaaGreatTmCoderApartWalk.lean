/- CoderApart: the walk. -/
import Derived.Test.YtnpjkmomllkhpaaGreatTmCoderAlive
import Derived.Test.YtnpjkmomllkhpaaGreatTmCoderIn
namespace Go.Proofs.YtnpjkmomllkhpaaGreat
namespace CoderApart
open Go.RowKit Go.Proofs.YtnpjkmomllkhpaaGreat.Mark Go.Proofs.YtnpjkmomllkhpaaGreat.Num Go.Proofs.YtnpjkmomllkhpaaGreat.Wire Go.Proofs.YtnpjkmomllkhpaaGreat.Bag Go.Proofs.YtnpjkmomllkhpaaGreat.Coder Go.Proofs.YtnpjkmomllkhpaaGreat.Taker Go.Proofs.YtnpjkmomllkhpaaGreat.CoderLaw
theorem beq_of {p q : List UInt8} {r : Bool} (h : (p == q) = r) : (p != q) = !r := by show (!(p == q)) = !r; rw [h]
theorem outS_len (q : Bool) (l : List UInt8) : (outS q l).length ≤ l.length := by
  unfold outS
  split
  · exact Nat.le_refl _
  · exact Nat.zero_le _
set_option maxRecDepth 100000 in
set_option maxHeartbeats 40000000 in
theorem walk (x0 : Coder.RE) (x1 : Coder.RE) (B2 : List Mark.M) (s2 : Option Addr) (c2 : Nat) (x2 : Coder.RS) (B3 : List Mark.M) (s3 : Option Addr) (c3 : Nat) (x3 : Coder.RS) (x4 : Coder.O) (x5 : Coder.O) (w : World) (w0 : x0.Ok) (l0 : Coder.InnerE w x0) (w1 : x1.Ok) (l1 : Coder.InnerE w x1) (w2 : CoderLaw.DSz B2 x2) (l2 : Coder.InnerD w s2 B2 x2) (w3 : CoderLaw.DSz B3 x3) (l3 : Coder.InnerD w s3 B3 x3) (w4 : x4.Ok) (w5 : x5.Ok) :
    Calls Tryz.prog 3 #[.agg #[.string ⟨x0.k.toArray⟩, .slice x0.sa x0.s.length x0.sc, .slice x0.ca x0.c.length x0.cc, .slice x0.ia x0.j.length x0.ic, .int .u64 (x0.l.s : Int), .string ⟨x0.l.t.toArray⟩, .bool x0.l.g], .agg #[.string ⟨x1.k.toArray⟩, .slice x1.sa x1.s.length x1.sc, .slice x1.ca x1.c.length x1.cc, .slice x1.ia x1.j.length x1.ic, .int .u64 (x1.l.s : Int), .string ⟨x1.l.t.toArray⟩, .bool x1.l.g], .agg #[.slice s2 B2.length c2, .slice x2.aa x2.a.length x2.ac, .slice x2.ea x2.e.length x2.ec, .slice x2.pa x2.p.length x2.pc], .agg #[.slice s3 B3.length c3, .slice x3.aa x3.a.length x3.ac, .slice x3.ea x3.e.length x3.ec, .slice x3.pa x3.p.length x3.pc], .agg #[.int .u8 (x4.d : Int), .string ⟨x4.k.toArray⟩, .int .i64 x4.n, .string ⟨x4.t.toArray⟩], .agg #[.int .u8 (x5.d : Int), .string ⟨x5.k.toArray⟩, .int .i64 x5.n, .string ⟨x5.t.toArray⟩]] w fun e w' => e = .returned (.bool true) ∧ Below w.heap.size w w' := by
  have hk4 := w4.k
  have hk5 := w5.k
  have ht4 := w4.t
  have ht5 := w5.t
  have hb2 := w2.b
  have hb3 := w3.b
  have W0 := Lib.hid w0
  have W1 := Lib.hid w1
  have W2 := Lib.hid w2
  have W3 := Lib.hid w3
  have W4 := Lib.hid w4
  have W5 := Lib.hid w5
  replace l0 := Lib.hid l0
  replace l1 := Lib.hid l1
  replace l2 := Lib.hid l2
  replace l3 := Lib.hid l3
  clear w0 w1 w2 w3 w4 w5
  have z4 := Str.size_mk x4.k
  have z5 := Str.size_mk x5.k
  have y4 := Str.size_mk x4.t
  have y5 := Str.size_mk x5.t
  go_enter Tryz.func3, Tryz.ntmps3
  go_upto_region 1 with (fail)
  obtain ⟨W, hW⟩ : ∃ v, v = ((((((w.alloc (.cells #[.string ⟨x0.k.toArray⟩, .slice x0.sa x0.s.length x0.sc, .slice x0.ca x0.c.length x0.cc, .slice x0.ia x0.j.length x0.ic, .int .u64 (x0.l.s : Int), .string ⟨x0.l.t.toArray⟩, .bool x0.l.g] 29)).alloc (.cells #[.string ⟨x1.k.toArray⟩, .slice x1.sa x1.s.length x1.sc, .slice x1.ca x1.c.length x1.cc, .slice x1.ia x1.j.length x1.ic, .int .u64 (x1.l.s : Int), .string ⟨x1.l.t.toArray⟩, .bool x1.l.g] 29)).alloc (.cells #[.slice s2 B2.length c2, .slice x2.aa x2.a.length x2.ac, .slice x2.ea x2.e.length x2.ec, .slice x2.pa x2.p.length x2.pc] 35)).alloc (.cells #[.slice s3 B3.length c3, .slice x3.aa x3.a.length x3.ac, .slice x3.ea x3.e.length x3.ec, .slice x3.pa x3.p.length x3.pc] 35)).alloc (.cells #[.int .u8 (x4.d : Int), .string ⟨x4.k.toArray⟩, .int .i64 x4.n, .string ⟨x4.t.toArray⟩] 37)).alloc (.cells #[.int .u8 (x5.d : Int), .string ⟨x5.k.toArray⟩, .int .i64 x5.n, .string ⟨x5.t.toArray⟩] 37)) := ⟨_, rfl⟩
  rw [← hW]
  have G0 : Box W (w.heap.size) [.string ⟨x0.k.toArray⟩, .slice x0.sa x0.s.length x0.sc, .slice x0.ca x0.c.length x0.cc, .slice x0.ia x0.j.length x0.ic, .int .u64 (x0.l.s : Int), .string ⟨x0.l.t.toArray⟩, .bool x0.l.g] := by
    rw [hW]
    have q := Box.new w [.string ⟨x0.k.toArray⟩, .slice x0.sa x0.s.length x0.sc, .slice x0.ca x0.c.length x0.cc, .slice x0.ia x0.j.length x0.ic, .int .u64 (x0.l.s : Int), .string ⟨x0.l.t.toArray⟩, .bool x0.l.g] 29 (by simp)
    try simp only [World.size_alloc] at q
    exact (((((q).alloc _).alloc _).alloc _).alloc _).alloc _
  have G1 : Box W (w.heap.size + 1) [.string ⟨x1.k.toArray⟩, .slice x1.sa x1.s.length x1.sc, .slice x1.ca x1.c.length x1.cc, .slice x1.ia x1.j.length x1.ic, .int .u64 (x1.l.s : Int), .string ⟨x1.l.t.toArray⟩, .bool x1.l.g] := by
    rw [hW]
    have q := Box.new (w.alloc (.cells #[.string ⟨x0.k.toArray⟩, .slice x0.sa x0.s.length x0.sc, .slice x0.ca x0.c.length x0.cc, .slice x0.ia x0.j.length x0.ic, .int .u64 (x0.l.s : Int), .string ⟨x0.l.t.toArray⟩, .bool x0.l.g] 29)) [.string ⟨x1.k.toArray⟩, .slice x1.sa x1.s.length x1.sc, .slice x1.ca x1.c.length x1.cc, .slice x1.ia x1.j.length x1.ic, .int .u64 (x1.l.s : Int), .string ⟨x1.l.t.toArray⟩, .bool x1.l.g] 29 (by simp)
    try simp only [World.size_alloc] at q
    exact ((((q).alloc _).alloc _).alloc _).alloc _
  have G2 : Box W (w.heap.size + 2) [.slice s2 B2.length c2, .slice x2.aa x2.a.length x2.ac, .slice x2.ea x2.e.length x2.ec, .slice x2.pa x2.p.length x2.pc] := by
    rw [hW]
    have q := Box.new ((w.alloc (.cells #[.string ⟨x0.k.toArray⟩, .slice x0.sa x0.s.length x0.sc, .slice x0.ca x0.c.length x0.cc, .slice x0.ia x0.j.length x0.ic, .int .u64 (x0.l.s : Int), .string ⟨x0.l.t.toArray⟩, .bool x0.l.g] 29)).alloc (.cells #[.string ⟨x1.k.toArray⟩, .slice x1.sa x1.s.length x1.sc, .slice x1.ca x1.c.length x1.cc, .slice x1.ia x1.j.length x1.ic, .int .u64 (x1.l.s : Int), .string ⟨x1.l.t.toArray⟩, .bool x1.l.g] 29)) [.slice s2 B2.length c2, .slice x2.aa x2.a.length x2.ac, .slice x2.ea x2.e.length x2.ec, .slice x2.pa x2.p.length x2.pc] 35 (by simp)
    try simp only [World.size_alloc] at q
    exact (((q).alloc _).alloc _).alloc _
  have G3 : Box W (w.heap.size + 3) [.slice s3 B3.length c3, .slice x3.aa x3.a.length x3.ac, .slice x3.ea x3.e.length x3.ec, .slice x3.pa x3.p.length x3.pc] := by
    rw [hW]
    have q := Box.new (((w.alloc (.cells #[.string ⟨x0.k.toArray⟩, .slice x0.sa x0.s.length x0.sc, .slice x0.ca x0.c.length x0.cc, .slice x0.ia x0.j.length x0.ic, .int .u64 (x0.l.s : Int), .string ⟨x0.l.t.toArray⟩, .bool x0.l.g] 29)).alloc (.cells #[.string ⟨x1.k.toArray⟩, .slice x1.sa x1.s.length x1.sc, .slice x1.ca x1.c.length x1.cc, .slice x1.ia x1.j.length x1.ic, .int .u64 (x1.l.s : Int), .string ⟨x1.l.t.toArray⟩, .bool x1.l.g] 29)).alloc (.cells #[.slice s2 B2.length c2, .slice x2.aa x2.a.length x2.ac, .slice x2.ea x2.e.length x2.ec, .slice x2.pa x2.p.length x2.pc] 35)) [.slice s3 B3.length c3, .slice x3.aa x3.a.length x3.ac, .slice x3.ea x3.e.length x3.ec, .slice x3.pa x3.p.length x3.pc] 35 (by simp)
    try simp only [World.size_alloc] at q
    exact ((q).alloc _).alloc _
  have G4 : Box W (w.heap.size + 4) [.int .u8 (x4.d : Int), .string ⟨x4.k.toArray⟩, .int .i64 x4.n, .string ⟨x4.t.toArray⟩] := by
    rw [hW]
    have q := Box.new ((((w.alloc (.cells #[.string ⟨x0.k.toArray⟩, .slice x0.sa x0.s.length x0.sc, .slice x0.ca x0.c.length x0.cc, .slice x0.ia x0.j.length x0.ic, .int .u64 (x0.l.s : Int), .string ⟨x0.l.t.toArray⟩, .bool x0.l.g] 29)).alloc (.cells #[.string ⟨x1.k.toArray⟩, .slice x1.sa x1.s.length x1.sc, .slice x1.ca x1.c.length x1.cc, .slice x1.ia x1.j.length x1.ic, .int .u64 (x1.l.s : Int), .string ⟨x1.l.t.toArray⟩, .bool x1.l.g] 29)).alloc (.cells #[.slice s2 B2.length c2, .slice x2.aa x2.a.length x2.ac, .slice x2.ea x2.e.length x2.ec, .slice x2.pa x2.p.length x2.pc] 35)).alloc (.cells #[.slice s3 B3.length c3, .slice x3.aa x3.a.length x3.ac, .slice x3.ea x3.e.length x3.ec, .slice x3.pa x3.p.length x3.pc] 35)) [.int .u8 (x4.d : Int), .string ⟨x4.k.toArray⟩, .int .i64 x4.n, .string ⟨x4.t.toArray⟩] 37 (by simp)
    try simp only [World.size_alloc] at q
    exact (q).alloc _
  have G5 : Box W (w.heap.size + 5) [.int .u8 (x5.d : Int), .string ⟨x5.k.toArray⟩, .int .i64 x5.n, .string ⟨x5.t.toArray⟩] := by
    rw [hW]
    have q := Box.new (((((w.alloc (.cells #[.string ⟨x0.k.toArray⟩, .slice x0.sa x0.s.length x0.sc, .slice x0.ca x0.c.length x0.cc, .slice x0.ia x0.j.length x0.ic, .int .u64 (x0.l.s : Int), .string ⟨x0.l.t.toArray⟩, .bool x0.l.g] 29)).alloc (.cells #[.string ⟨x1.k.toArray⟩, .slice x1.sa x1.s.length x1.sc, .slice x1.ca x1.c.length x1.cc, .slice x1.ia x1.j.length x1.ic, .int .u64 (x1.l.s : Int), .string ⟨x1.l.t.toArray⟩, .bool x1.l.g] 29)).alloc (.cells #[.slice s2 B2.length c2, .slice x2.aa x2.a.length x2.ac, .slice x2.ea x2.e.length x2.ec, .slice x2.pa x2.p.length x2.pc] 35)).alloc (.cells #[.slice s3 B3.length c3, .slice x3.aa x3.a.length x3.ac, .slice x3.ea x3.e.length x3.ec, .slice x3.pa x3.p.length x3.pc] 35)).alloc (.cells #[.int .u8 (x4.d : Int), .string ⟨x4.k.toArray⟩, .int .i64 x4.n, .string ⟨x4.t.toArray⟩] 37)) [.int .u8 (x5.d : Int), .string ⟨x5.k.toArray⟩, .int .i64 x5.n, .string ⟨x5.t.toArray⟩] 37 (by simp)
    try simp only [World.size_alloc] at q
    exact q
  have hb : Below w.heap.size w W := by rw [hW]; exact balloc (balloc (balloc (balloc (balloc (balloc (Below.refl _ _) _) _) _) _) _) _
  obtain ⟨b5, hb5'⟩ : ∃ v, v = w.heap.size + 1 + 1 + 1 + 1 + 1 := ⟨_, rfl⟩
  replace G5 : Box W b5 [.int .u8 (x5.d : Int), .string ⟨x5.k.toArray⟩, .int .i64 x5.n, .string ⟨x5.t.toArray⟩] := by rw [hb5']; exact G5
  rw [← hb5']
  replace G5 := Lib.hid G5
  obtain ⟨b4, hb4'⟩ : ∃ v, v = w.heap.size + 1 + 1 + 1 + 1 := ⟨_, rfl⟩
  replace G4 : Box W b4 [.int .u8 (x4.d : Int), .string ⟨x4.k.toArray⟩, .int .i64 x4.n, .string ⟨x4.t.toArray⟩] := by rw [hb4']; exact G4
  rw [← hb4']
  replace G4 := Lib.hid G4
  obtain ⟨b3, hb3'⟩ : ∃ v, v = w.heap.size + 1 + 1 + 1 := ⟨_, rfl⟩
  replace G3 : Box W b3 [.slice s3 B3.length c3, .slice x3.aa x3.a.length x3.ac, .slice x3.ea x3.e.length x3.ec, .slice x3.pa x3.p.length x3.pc] := by rw [hb3']; exact G3
  rw [← hb3']
  replace G3 := Lib.hid G3
  obtain ⟨b2, hb2'⟩ : ∃ v, v = w.heap.size + 1 + 1 := ⟨_, rfl⟩
  replace G2 : Box W b2 [.slice s2 B2.length c2, .slice x2.aa x2.a.length x2.ac, .slice x2.ea x2.e.length x2.ec, .slice x2.pa x2.p.length x2.pc] := by rw [hb2']; exact G2
  rw [← hb2']
  replace G2 := Lib.hid G2
  obtain ⟨b1, hb1'⟩ : ∃ v, v = w.heap.size + 1 := ⟨_, rfl⟩
  replace G1 : Box W b1 [.string ⟨x1.k.toArray⟩, .slice x1.sa x1.s.length x1.sc, .slice x1.ca x1.c.length x1.cc, .slice x1.ia x1.j.length x1.ic, .int .u64 (x1.l.s : Int), .string ⟨x1.l.t.toArray⟩, .bool x1.l.g] := by rw [hb1']; exact G1
  rw [← hb1']
  replace G1 := Lib.hid G1
  obtain ⟨b0, hb0'⟩ : ∃ v, v = w.heap.size := ⟨_, rfl⟩
  replace G0 : Box W b0 [.string ⟨x0.k.toArray⟩, .slice x0.sa x0.s.length x0.sc, .slice x0.ca x0.c.length x0.cc, .slice x0.ia x0.j.length x0.ic, .int .u64 (x0.l.s : Int), .string ⟨x0.l.t.toArray⟩, .bool x0.l.g] := by rw [hb0']; exact G0
  rw [← hb0']
  replace G0 := Lib.hid G0
  clear hW hb0' hb1' hb2' hb3' hb4' hb5'
  replace l0 := Lib.hid (l0.out.below hb)
  replace l1 := Lib.hid (l1.out.below hb)
  replace l2 := Lib.hid (l2.out.below hb)
  replace l3 := Lib.hid (l3.out.below hb)
  have u0_0 := G0.out.at 0 _ rfl
  have u0_1 := G0.out.at 1 _ rfl
  have u0_2 := G0.out.at 2 _ rfl
  have u0_3 := G0.out.at 3 _ rfl
  have u0_4 := G0.out.at 4 _ rfl
  have u0_5 := G0.out.at 5 _ rfl
  have u0_6 := G0.out.at 6 _ rfl
  go_wp2_with fail
  refine (largeE_any x0 _ l0.out W0.out).mono ?_
  rintro e v1 ⟨z, rfl, hz, k1⟩
  replace G0 := Lib.hid ((G0.out).below k1)
  replace G1 := Lib.hid ((G1.out).below k1)
  replace G2 := Lib.hid ((G2.out).below k1)
  replace G3 := Lib.hid ((G3.out).below k1)
  replace G4 := Lib.hid ((G4.out).below k1)
  replace G5 := Lib.hid ((G5.out).below k1)
  replace l0 := Lib.hid ((l0.out).below k1)
  replace l1 := Lib.hid ((l1.out).below k1)
  replace l2 := Lib.hid ((l2.out).below k1)
  replace l3 := Lib.hid ((l3.out).below k1)
  replace hb := bstep hb k1
  clear k1
  clear u0_0 u0_1 u0_2 u0_3 u0_4 u0_5 u0_6
  have HZ0 := Lib.hid hz
  clear hz
  cases z
  rotate_left
  · skip
    go_wp2_with fail
    refine (alive_any _).mono ?_
    rintro e v2 ⟨rfl, k2⟩
    replace hb := bstep hb k2
    clear k2
    go_wp2
    go_ret
    exact ⟨rfl, hb⟩
  replace HZ0 : Hid x0.Few := Lib.hid (by first | exact HZ0.out rfl | exact HZ0.out trivial | exact HZ0.out)
  have u1_0 := G1.out.at 0 _ rfl
  have u1_1 := G1.out.at 1 _ rfl
  have u1_2 := G1.out.at 2 _ rfl
  have u1_3 := G1.out.at 3 _ rfl
  have u1_4 := G1.out.at 4 _ rfl
  have u1_5 := G1.out.at 5 _ rfl
  have u1_6 := G1.out.at 6 _ rfl
  go_wp2_with fail
  refine (largeE_any x1 _ l1.out W1.out).mono ?_
  rintro e v3 ⟨z, rfl, hz, k3⟩
  replace G0 := Lib.hid ((G0.out).below k3)
  replace G1 := Lib.hid ((G1.out).below k3)
  replace G2 := Lib.hid ((G2.out).below k3)
  replace G3 := Lib.hid ((G3.out).below k3)
  replace G4 := Lib.hid ((G4.out).below k3)
  replace G5 := Lib.hid ((G5.out).below k3)
  replace l0 := Lib.hid ((l0.out).below k3)
  replace l1 := Lib.hid ((l1.out).below k3)
  replace l2 := Lib.hid ((l2.out).below k3)
  replace l3 := Lib.hid ((l3.out).below k3)
  replace hb := bstep hb k3
  clear k3
  clear u1_0 u1_1 u1_2 u1_3 u1_4 u1_5 u1_6
  have HZ1 := Lib.hid hz
  clear hz
  cases z
  rotate_left
  · skip
    go_wp2_with fail
    refine (alive_any _).mono ?_
    rintro e v4 ⟨rfl, k4⟩
    replace hb := bstep hb k4
    clear k4
    go_wp2
    go_ret
    exact ⟨rfl, hb⟩
  replace HZ1 : Hid x1.Few := Lib.hid (by first | exact HZ1.out rfl | exact HZ1.out trivial | exact HZ1.out)
  have u2_0 := G2.out.at 0 _ rfl
  have u2_1 := G2.out.at 1 _ rfl
  have u2_2 := G2.out.at 2 _ rfl
  have u2_3 := G2.out.at 3 _ rfl
  go_wp2_with fail
  refine (largeS_any x2 _ l2.out.2 W2.out.x).mono ?_
  rintro e v5 ⟨z, rfl, hz, k5⟩
  replace G0 := Lib.hid ((G0.out).below k5)
  replace G1 := Lib.hid ((G1.out).below k5)
  replace G2 := Lib.hid ((G2.out).below k5)
  replace G3 := Lib.hid ((G3.out).below k5)
  replace G4 := Lib.hid ((G4.out).below k5)
  replace G5 := Lib.hid ((G5.out).below k5)
  replace l0 := Lib.hid ((l0.out).below k5)
  replace l1 := Lib.hid ((l1.out).below k5)
  replace l2 := Lib.hid ((l2.out).below k5)
  replace l3 := Lib.hid ((l3.out).below k5)
  replace hb := bstep hb k5
  clear k5
  clear u2_0 u2_1 u2_2 u2_3
  have HZ2 := Lib.hid hz
  clear hz
  cases z
  rotate_left
  · skip
    go_wp2_with fail
    refine (alive_any _).mono ?_
    rintro e v6 ⟨rfl, k6⟩
    replace hb := bstep hb k6
    clear k6
    go_wp2
    go_ret
    exact ⟨rfl, hb⟩
  replace HZ2 : Hid x2.Few := Lib.hid (by first | exact HZ2.out rfl | exact HZ2.out trivial | exact HZ2.out)
  have u3_0 := G3.out.at 0 _ rfl
  have u3_1 := G3.out.at 1 _ rfl
  have u3_2 := G3.out.at 2 _ rfl
  have u3_3 := G3.out.at 3 _ rfl
  go_wp2_with fail
  refine (largeS_any x3 _ l3.out.2 W3.out.x).mono ?_
  rintro e v7 ⟨z, rfl, hz, k7⟩
  replace G0 := Lib.hid ((G0.out).below k7)
  replace G1 := Lib.hid ((G1.out).below k7)
  replace G2 := Lib.hid ((G2.out).below k7)
  replace G3 := Lib.hid ((G3.out).below k7)
  replace G4 := Lib.hid ((G4.out).below k7)
  replace G5 := Lib.hid ((G5.out).below k7)
  replace l0 := Lib.hid ((l0.out).below k7)
  replace l1 := Lib.hid ((l1.out).below k7)
  replace l2 := Lib.hid ((l2.out).below k7)
  replace l3 := Lib.hid ((l3.out).below k7)
  replace hb := bstep hb k7
  clear k7
  clear u3_0 u3_1 u3_2 u3_3
  have HZ3 := Lib.hid hz
  clear hz
  cases z
  rotate_left
  · skip
    go_wp2_with fail
    refine (alive_any _).mono ?_
    rintro e v8 ⟨rfl, k8⟩
    replace hb := bstep hb k8
    clear k8
    go_wp2
    go_ret
    exact ⟨rfl, hb⟩
  replace HZ3 : Hid x3.Few := Lib.hid (by first | exact HZ3.out rfl | exact HZ3.out trivial | exact HZ3.out)
  by_cases f2 : 60 < B2.length
  · have d1 : decide ((60 : Int) < (B2.length : Int)) = true := decide_eq_true (by omega)
    clear f2
    have u2_0 := G2.out.at 0 _ rfl
    have u2_1 := G2.out.at 1 _ rfl
    have u2_2 := G2.out.at 2 _ rfl
    have u2_3 := G2.out.at 3 _ rfl
    have u3_0 := G3.out.at 0 _ rfl
    have u3_1 := G3.out.at 1 _ rfl
    have u3_2 := G3.out.at 2 _ rfl
    have u3_3 := G3.out.at 3 _ rfl
    go_wp2_with fail
    refine (alive_any _).mono ?_
    rintro e v9 ⟨rfl, k9⟩
    replace hb := bstep hb k9
    clear k9
    go_wp2
    go_ret
    exact ⟨rfl, hb⟩
  have d2 : decide ((60 : Int) < (B2.length : Int)) = false := decide_eq_false (by omega)
  have F2 : Hid (B2.length ≤ 60) := Lib.hid (by omega)
  clear f2
  by_cases f3 : 60 < B3.length
  · have d1 : decide ((60 : Int) < (B3.length : Int)) = true := decide_eq_true (by omega)
    clear f3
    have u2_0 := G2.out.at 0 _ rfl
    have u2_1 := G2.out.at 1 _ rfl
    have u2_2 := G2.out.at 2 _ rfl
    have u2_3 := G2.out.at 3 _ rfl
    have u3_0 := G3.out.at 0 _ rfl
    have u3_1 := G3.out.at 1 _ rfl
    have u3_2 := G3.out.at 2 _ rfl
    have u3_3 := G3.out.at 3 _ rfl
    go_wp2_with fail
    refine (alive_any _).mono ?_
    rintro e v10 ⟨rfl, k10⟩
    replace hb := bstep hb k10
    clear k10
    go_wp2
    go_ret
    exact ⟨rfl, hb⟩
  have d3 : decide ((60 : Int) < (B3.length : Int)) = false := decide_eq_false (by omega)
  have F3 : Hid (B3.length ≤ 60) := Lib.hid (by omega)
  clear f3
  by_cases fk : 1024 < x4.k.length + x5.k.length
  · have d1 : decide ((1024 : Int) < (x4.k.length : Int) + (x5.k.length : Int)) = true := decide_eq_true (by omega)
    have d1n : decide (1024 < x4.k.length + x5.k.length) = true := decide_eq_true fk
    clear fk
    have u2_0 := G2.out.at 0 _ rfl
    have u2_1 := G2.out.at 1 _ rfl
    have u2_2 := G2.out.at 2 _ rfl
    have u2_3 := G2.out.at 3 _ rfl
    have u3_0 := G3.out.at 0 _ rfl
    have u3_1 := G3.out.at 1 _ rfl
    have u3_2 := G3.out.at 2 _ rfl
    have u3_3 := G3.out.at 3 _ rfl
    have u4_0 := G4.out.at 0 _ rfl
    have u4_1 := G4.out.at 1 _ rfl
    have u4_2 := G4.out.at 2 _ rfl
    have u4_3 := G4.out.at 3 _ rfl
    have u5_0 := G5.out.at 0 _ rfl
    have u5_1 := G5.out.at 1 _ rfl
    have u5_2 := G5.out.at 2 _ rfl
    have u5_3 := G5.out.at 3 _ rfl
    go_wp2_with fail
    refine (alive_any _).mono ?_
    rintro e v11 ⟨rfl, k11⟩
    replace hb := bstep hb k11
    clear k11
    go_wp2
    go_ret
    exact ⟨rfl, hb⟩
  have dk : decide ((1024 : Int) < (x4.k.length : Int) + (x5.k.length : Int)) = false := decide_eq_false (by omega)
  have dkn : decide (1024 < x4.k.length + x5.k.length) = false := decide_eq_false fk
  clear fk
  by_cases ft : 8192 < x4.t.length + x5.t.length
  · have d1 : decide ((8192 : Int) < (x4.t.length : Int) + (x5.t.length : Int)) = true := decide_eq_true (by omega)
    have d1n : decide (8192 < x4.t.length + x5.t.length) = true := decide_eq_true ft
    clear ft
    have u2_0 := G2.out.at 0 _ rfl
    have u2_1 := G2.out.at 1 _ rfl
    have u2_2 := G2.out.at 2 _ rfl
    have u2_3 := G2.out.at 3 _ rfl
    have u3_0 := G3.out.at 0 _ rfl
    have u3_1 := G3.out.at 1 _ rfl
    have u3_2 := G3.out.at 2 _ rfl
    have u3_3 := G3.out.at 3 _ rfl
    have u4_0 := G4.out.at 0 _ rfl
    have u4_1 := G4.out.at 1 _ rfl
    have u4_2 := G4.out.at 2 _ rfl
    have u4_3 := G4.out.at 3 _ rfl
    have u5_0 := G5.out.at 0 _ rfl
    have u5_1 := G5.out.at 1 _ rfl
    have u5_2 := G5.out.at 2 _ rfl
    have u5_3 := G5.out.at 3 _ rfl
    go_wp2_with fail
    refine (alive_any _).mono ?_
    rintro e v12 ⟨rfl, k12⟩
    replace hb := bstep hb k12
    clear k12
    go_wp2
    go_ret
    exact ⟨rfl, hb⟩
  have dt : decide ((8192 : Int) < (x4.t.length : Int) + (x5.t.length : Int)) = false := decide_eq_false (by omega)
  have dtn : decide (8192 < x4.t.length + x5.t.length) = false := decide_eq_false ft
  clear ft
  obtain ⟨q0, hq0⟩ : ∃ q, q = mayE x0.e := ⟨_, rfl⟩
  obtain ⟨p0, hp0⟩ : ∃ p, p = outS q0 (fE x0) := ⟨_, rfl⟩
  obtain ⟨e0, he0⟩ : ∃ e, e = outE q0 := ⟨_, rfl⟩
  have zp0 := Str.size_mk p0
  have hl0 : p0.length ≤ 274877906944 := by rw [hp0]; exact Nat.le_trans (outS_len _ _) (fe_few W0.out HZ0.out)
  have C0 := Lib.hid (fun W (h : InnerE W x0) => (by rw [hp0, he0, hq0]; exact giveEntry x0 W h W0.out (fine_few W0.out HZ0.out) (Nat.le_trans (fe_few W0.out HZ0.out) (by decide)) : Calls Tryz.prog 7 #[.agg #[.string ⟨x0.k.toArray⟩, .slice x0.sa x0.s.length x0.sc, .slice x0.ca x0.c.length x0.cc, .slice x0.ia x0.j.length x0.ic, .int .u64 (x0.l.s : Int), .string ⟨x0.l.t.toArray⟩, .bool x0.l.g]] W fun e W' => e = .returned (.tuple #[.string ⟨p0.toArray⟩, .int .i64 e0]) ∧ Below W.heap.size W W'))
  have Q0 := Lib.hid hq0
  have P0 := Lib.hid hp0
  have E0 := Lib.hid he0
  clear hq0 hp0 he0
  obtain ⟨q1, hq1⟩ : ∃ q, q = mayE x1.e := ⟨_, rfl⟩
  obtain ⟨p1, hp1⟩ : ∃ p, p = outS q1 (fE x1) := ⟨_, rfl⟩
  obtain ⟨e1, he1⟩ : ∃ e, e = outE q1 := ⟨_, rfl⟩
  have zp1 := Str.size_mk p1
  have hl1 : p1.length ≤ 274877906944 := by rw [hp1]; exact Nat.le_trans (outS_len _ _) (fe_few W1.out HZ1.out)
  have C1 := Lib.hid (fun W (h : InnerE W x1) => (by rw [hp1, he1, hq1]; exact giveEntry x1 W h W1.out (fine_few W1.out HZ1.out) (Nat.le_trans (fe_few W1.out HZ1.out) (by decide)) : Calls Tryz.prog 7 #[.agg #[.string ⟨x1.k.toArray⟩, .slice x1.sa x1.s.length x1.sc, .slice x1.ca x1.c.length x1.cc, .slice x1.ia x1.j.length x1.ic, .int .u64 (x1.l.s : Int), .string ⟨x1.l.t.toArray⟩, .bool x1.l.g]] W fun e W' => e = .returned (.tuple #[.string ⟨p1.toArray⟩, .int .i64 e1]) ∧ Below W.heap.size W W'))
  have Q1 := Lib.hid hq1
  have P1 := Lib.hid hp1
  have E1 := Lib.hid he1
  clear hq1 hp1 he1
  have u2_0 := G2.out.at 0 _ rfl
  have u2_1 := G2.out.at 1 _ rfl
  have u2_2 := G2.out.at 2 _ rfl
  have u2_3 := G2.out.at 3 _ rfl
  have u3_0 := G3.out.at 0 _ rfl
  have u3_1 := G3.out.at 1 _ rfl
  have u3_2 := G3.out.at 2 _ rfl
  have u3_3 := G3.out.at 3 _ rfl
  have u4_0 := G4.out.at 0 _ rfl
  have u4_1 := G4.out.at 1 _ rfl
  have u4_2 := G4.out.at 2 _ rfl
  have u4_3 := G4.out.at 3 _ rfl
  have u5_0 := G5.out.at 0 _ rfl
  have u5_1 := G5.out.at 1 _ rfl
  have u5_2 := G5.out.at 2 _ rfl
  have u5_3 := G5.out.at 3 _ rfl
  have u0_0 := G0.out.at 0 _ rfl
  have u0_1 := G0.out.at 1 _ rfl
  have u0_2 := G0.out.at 2 _ rfl
  have u0_3 := G0.out.at 3 _ rfl
  have u0_4 := G0.out.at 4 _ rfl
  have u0_5 := G0.out.at 5 _ rfl
  have u0_6 := G0.out.at 6 _ rfl
  go_wp2_with fail
  refine (C0.out _ l0.out).mono ?_
  rintro e v13 ⟨rfl, k13⟩
  replace G0 := Lib.hid ((G0.out).below k13)
  replace G1 := Lib.hid ((G1.out).below k13)
  replace G2 := Lib.hid ((G2.out).below k13)
  replace G3 := Lib.hid ((G3.out).below k13)
  replace G4 := Lib.hid ((G4.out).below k13)
  replace G5 := Lib.hid ((G5.out).below k13)
  replace l0 := Lib.hid ((l0.out).below k13)
  replace l1 := Lib.hid ((l1.out).below k13)
  replace l2 := Lib.hid ((l2.out).below k13)
  replace l3 := Lib.hid ((l3.out).below k13)
  replace hb := bstep hb k13
  clear k13
  clear u0_0 u0_1 u0_2 u0_3 u0_4 u0_5 u0_6
  clear u2_0 u2_1 u2_2 u2_3 u3_0 u3_1 u3_2 u3_3 u4_0 u4_1 u4_2 u4_3 u5_0 u5_1 u5_2 u5_3
  have u1_0 := G1.out.at 0 _ rfl
  have u1_1 := G1.out.at 1 _ rfl
  have u1_2 := G1.out.at 2 _ rfl
  have u1_3 := G1.out.at 3 _ rfl
  have u1_4 := G1.out.at 4 _ rfl
  have u1_5 := G1.out.at 5 _ rfl
  have u1_6 := G1.out.at 6 _ rfl
  go_wp2_with fail
  refine (C1.out _ l1.out).mono ?_
  rintro e v14 ⟨rfl, k14⟩
  replace G0 := Lib.hid ((G0.out).below k14)
  replace G1 := Lib.hid ((G1.out).below k14)
  replace G2 := Lib.hid ((G2.out).below k14)
  replace G3 := Lib.hid ((G3.out).below k14)
  replace G4 := Lib.hid ((G4.out).below k14)
  replace G5 := Lib.hid ((G5.out).below k14)
  replace l0 := Lib.hid ((l0.out).below k14)
  replace l1 := Lib.hid ((l1.out).below k14)
  replace l2 := Lib.hid ((l2.out).below k14)
  replace l3 := Lib.hid ((l3.out).below k14)
  replace hb := bstep hb k14
  clear k14
  clear u1_0 u1_1 u1_2 u1_3 u1_4 u1_5 u1_6
  clear C0 C1
  go_upto_region 5 with (fail)
  go_cut [114] (fun zv wx => zv = .bool false ∧ Below w.heap.size w wx ∧ Box wx b0 [.string ⟨x0.k.toArray⟩, .slice x0.sa x0.s.length x0.sc, .slice x0.ca x0.c.length x0.cc, .slice x0.ia x0.j.length x0.ic, .int .u64 (x0.l.s : Int), .string ⟨x0.l.t.toArray⟩, .bool x0.l.g] ∧ Box wx b1 [.string ⟨x1.k.toArray⟩, .slice x1.sa x1.s.length x1.sc, .slice x1.ca x1.c.length x1.cc, .slice x1.ia x1.j.length x1.ic, .int .u64 (x1.l.s : Int), .string ⟨x1.l.t.toArray⟩, .bool x1.l.g] ∧ Box wx b2 [.slice s2 B2.length c2, .slice x2.aa x2.a.length x2.ac, .slice x2.ea x2.e.length x2.ec, .slice x2.pa x2.p.length x2.pc] ∧ Box wx b3 [.slice s3 B3.length c3, .slice x3.aa x3.a.length x3.ac, .slice x3.ea x3.e.length x3.ec, .slice x3.pa x3.p.length x3.pc] ∧ Box wx b4 [.int .u8 (x4.d : Int), .string ⟨x4.k.toArray⟩, .int .i64 x4.n, .string ⟨x4.t.toArray⟩] ∧ Box wx b5 [.int .u8 (x5.d : Int), .string ⟨x5.k.toArray⟩, .int .i64 x5.n, .string ⟨x5.t.toArray⟩] ∧ InnerE wx x0 ∧ InnerE wx x1 ∧ InnerD wx s2 B2 x2 ∧ InnerD wx s3 B3 x3)
  case first =>
    cases q0
    · have da : (e0 == 0) = false := by rw [E0.out]; rfl
      go_wp2_with fail
      go_meet
      exact ⟨rfl, hb, G0.out, G1.out, G2.out, G3.out, G4.out, G5.out, l0.out, l1.out, l2.out, l3.out⟩
    have da : (e0 == 0) = true := by rw [E0.out]; rfl
    cases q1
    · have db : (e1 == 0) = false := by rw [E1.out]; rfl
      go_wp2_with fail
      go_meet
      exact ⟨rfl, hb, G0.out, G1.out, G2.out, G3.out, G4.out, G5.out, l0.out, l1.out, l2.out, l3.out⟩
    have db : (e1 == 0) = true := by rw [E1.out]; rfl
    have hp0 : p0 = fE x0 := P0.out
    have hp1 : p1 = fE x1 := P1.out
    obtain ⟨r, hr⟩ : ∃ r, r = decide (x0.e = x1.e) := ⟨_, rfl⟩
    have HE : (p0 == p1) = r := by rw [hp0, hp1, hr]; exact same_en W0.out W1.out Q0.out.symm Q1.out.symm
    have HN := beq_of HE
    have HF : Hid (p1.take p0.length = p0 → p0 = p1) := Lib.hid (by rw [hp0, hp1]; exact first_en W0.out W1.out Q0.out.symm Q1.out.symm)
    have SM := Lib.hid (fun W (h0 : InnerE W x0) (h1 : InnerE W x1) => (by rw [hr]; exact sameE_any x0 x1 W h0 h1 W0.out W1.out : Calls Tryz.prog 8 #[.agg #[.string ⟨x0.k.toArray⟩, .slice x0.sa x0.s.length x0.sc, .slice x0.ca x0.c.length x0.cc, .slice x0.ia x0.j.length x0.ic, .int .u64 (x0.l.s : Int), .string ⟨x0.l.t.toArray⟩, .bool x0.l.g], .agg #[.string ⟨x1.k.toArray⟩, .slice x1.sa x1.s.length x1.sc, .slice x1.ca x1.c.length x1.cc, .slice x1.ia x1.j.length x1.ic, .int .u64 (x1.l.s : Int), .string ⟨x1.l.t.toArray⟩, .bool x1.l.g]] W fun e W' => e = .returned (.bool r) ∧ Below W.heap.size W W'))
    clear hp0 hp1 hr
    cases r
    · skip
      have u0_0 := G0.out.at 0 _ rfl
      have u0_1 := G0.out.at 1 _ rfl
      have u0_2 := G0.out.at 2 _ rfl
      have u0_3 := G0.out.at 3 _ rfl
      have u0_4 := G0.out.at 4 _ rfl
      have u0_5 := G0.out.at 5 _ rfl
      have u0_6 := G0.out.at 6 _ rfl
      have u1_0 := G1.out.at 0 _ rfl
      have u1_1 := G1.out.at 1 _ rfl
      have u1_2 := G1.out.at 2 _ rfl
      have u1_3 := G1.out.at 3 _ rfl
      have u1_4 := G1.out.at 4 _ rfl
      have u1_5 := G1.out.at 5 _ rfl
      have u1_6 := G1.out.at 6 _ rfl
      go_wp2_with fail
      refine (SM.out _ l0.out l1.out).mono ?_
      rintro e v15 ⟨rfl, k15⟩
      replace G0 := Lib.hid ((G0.out).below k15)
      replace G1 := Lib.hid ((G1.out).below k15)
      replace G2 := Lib.hid ((G2.out).below k15)
      replace G3 := Lib.hid ((G3.out).below k15)
      replace G4 := Lib.hid ((G4.out).below k15)
      replace G5 := Lib.hid ((G5.out).below k15)
      replace l0 := Lib.hid ((l0.out).below k15)
      replace l1 := Lib.hid ((l1.out).below k15)
      replace l2 := Lib.hid ((l2.out).below k15)
      replace l3 := Lib.hid ((l3.out).below k15)
      replace hb := bstep hb k15
      clear k15
      clear u0_0 u0_1 u0_2 u0_3 u0_4 u0_5 u0_6 u1_0 u1_1 u1_2 u1_3 u1_4 u1_5 u1_6
      have sl := slice_to p1 0 p0.length
      rw [List.drop_zero, Nat.sub_zero] at sl
      have hne : (p1.take p0.length == p0) = false := by
        rw [beq_eq_false_iff_ne]
        intro h
        have := HF.out h
        rw [this] at HE
        simp at HE
      by_cases hle : p0.length ≤ p1.length
      · have dl : decide ((p0.length : Int) ≤ (p1.length : Int)) = true := decide_eq_true (by omega)
        have dln : decide (p0.length ≤ p1.length) = true := decide_eq_true hle
        go_wp2_with fail
        go_meet
        exact ⟨rfl, hb, G0.out, G1.out, G2.out, G3.out, G4.out, G5.out, l0.out, l1.out, l2.out, l3.out⟩
      · have dl : decide ((p0.length : Int) ≤ (p1.length : Int)) = false := decide_eq_false (by omega)
        have dln : decide (p0.length ≤ p1.length) = false := decide_eq_false hle
        go_wp2_with fail
        go_meet
        exact ⟨rfl, hb, G0.out, G1.out, G2.out, G3.out, G4.out, G5.out, l0.out, l1.out, l2.out, l3.out⟩
    · skip
      have u0_0 := G0.out.at 0 _ rfl
      have u0_1 := G0.out.at 1 _ rfl
      have u0_2 := G0.out.at 2 _ rfl
      have u0_3 := G0.out.at 3 _ rfl
      have u0_4 := G0.out.at 4 _ rfl
      have u0_5 := G0.out.at 5 _ rfl
      have u0_6 := G0.out.at 6 _ rfl
      have u1_0 := G1.out.at 0 _ rfl
      have u1_1 := G1.out.at 1 _ rfl
      have u1_2 := G1.out.at 2 _ rfl
      have u1_3 := G1.out.at 3 _ rfl
      have u1_4 := G1.out.at 4 _ rfl
      have u1_5 := G1.out.at 5 _ rfl
      have u1_6 := G1.out.at 6 _ rfl
      go_wp2_with fail
      refine (SM.out _ l0.out l1.out).mono ?_
      rintro e v16 ⟨rfl, k16⟩
      replace G0 := Lib.hid ((G0.out).below k16)
      replace G1 := Lib.hid ((G1.out).below k16)
      replace G2 := Lib.hid ((G2.out).below k16)
      replace G3 := Lib.hid ((G3.out).below k16)
      replace G4 := Lib.hid ((G4.out).below k16)
      replace G5 := Lib.hid ((G5.out).below k16)
      replace l0 := Lib.hid ((l0.out).below k16)
      replace l1 := Lib.hid ((l1.out).below k16)
      replace l2 := Lib.hid ((l2.out).below k16)
      replace l3 := Lib.hid ((l3.out).below k16)
      replace hb := bstep hb k16
      clear k16
      clear u0_0 u0_1 u0_2 u0_3 u0_4 u0_5 u0_6 u1_0 u1_1 u1_2 u1_3 u1_4 u1_5 u1_6
      go_wp2_with fail
      go_meet
      exact ⟨rfl, hb, G0.out, G1.out, G2.out, G3.out, G4.out, G5.out, l0.out, l1.out, l2.out, l3.out⟩
  clear hb G0 G1 G2 G3 G4 G5 l0 l1 l2 l3
  obtain ⟨rfl, hb, G0, G1, G2, G3, G4, G5, l0, l1, l2, l3⟩ := hcut
  replace G0 := Lib.hid G0
  replace G1 := Lib.hid G1
  replace G2 := Lib.hid G2
  replace G3 := Lib.hid G3
  replace G4 := Lib.hid G4
  replace G5 := Lib.hid G5
  replace l0 := Lib.hid l0
  replace l1 := Lib.hid l1
  replace l2 := Lib.hid l2
  replace l3 := Lib.hid l3
  clear Q0 Q1 P0 P1 E0 E1 zp0 zp1 hl0 hl1
  obtain ⟨q2, hq2⟩ : ∃ q, q = mayD B2 x2.s := ⟨_, rfl⟩
  obtain ⟨p2, hp2⟩ : ∃ p, p = outS q2 (fD B2 x2) := ⟨_, rfl⟩
  obtain ⟨e2, he2⟩ : ∃ e, e = outE q2 := ⟨_, rfl⟩
  have C2 := Lib.hid (fun W (h : InnerD W s2 B2 x2) => (by rw [hp2, he2, hq2]; exact giveDelta s2 c2 B2 x2 W h (d_few W2.out HZ2.out) (fd_few W2.out HZ2.out F2.out) : Calls Tryz.prog 9 #[.agg #[.slice s2 B2.length c2, .slice x2.aa x2.a.length x2.ac, .slice x2.ea x2.e.length x2.ec, .slice x2.pa x2.p.length x2.pc]] W fun e W' => e = .returned (.tuple #[.string ⟨p2.toArray⟩, .int .i64 e2]) ∧ Below W.heap.size W W'))
  have Q2 := Lib.hid hq2
  have P2 := Lib.hid hp2
  have E2 := Lib.hid he2
  clear hq2 hp2 he2
  obtain ⟨q3, hq3⟩ : ∃ q, q = mayD B3 x3.s := ⟨_, rfl⟩
  obtain ⟨p3, hp3⟩ : ∃ p, p = outS q3 (fD B3 x3) := ⟨_, rfl⟩
  obtain ⟨e3, he3⟩ : ∃ e, e = outE q3 := ⟨_, rfl⟩
  have C3 := Lib.hid (fun W (h : InnerD W s3 B3 x3) => (by rw [hp3, he3, hq3]; exact giveDelta s3 c3 B3 x3 W h (d_few W3.out HZ3.out) (fd_few W3.out HZ3.out F3.out) : Calls Tryz.prog 9 #[.agg #[.slice s3 B3.length c3, .slice x3.aa x3.a.length x3.ac, .slice x3.ea x3.e.length x3.ec, .slice x3.pa x3.p.length x3.pc]] W fun e W' => e = .returned (.tuple #[.string ⟨p3.toArray⟩, .int .i64 e3]) ∧ Below W.heap.size W W'))
  have Q3 := Lib.hid hq3
  have P3 := Lib.hid hp3
  have E3 := Lib.hid he3
  clear hq3 hp3 he3
  have u2_0 := G2.out.at 0 _ rfl
  have u2_1 := G2.out.at 1 _ rfl
  have u2_2 := G2.out.at 2 _ rfl
  have u2_3 := G2.out.at 3 _ rfl
  go_wp2_with fail
  refine (C2.out _ l2.out).mono ?_
  rintro e v17 ⟨rfl, k17⟩
  replace G0 := Lib.hid ((G0.out).below k17)
  replace G1 := Lib.hid ((G1.out).below k17)
  replace G2 := Lib.hid ((G2.out).below k17)
  replace G3 := Lib.hid ((G3.out).below k17)
  replace G4 := Lib.hid ((G4.out).below k17)
  replace G5 := Lib.hid ((G5.out).below k17)
  replace l0 := Lib.hid ((l0.out).below k17)
  replace l1 := Lib.hid ((l1.out).below k17)
  replace l2 := Lib.hid ((l2.out).below k17)
  replace l3 := Lib.hid ((l3.out).below k17)
  replace hb := bstep hb k17
  clear k17
  clear u2_0 u2_1 u2_2 u2_3
  have u3_0 := G3.out.at 0 _ rfl
  have u3_1 := G3.out.at 1 _ rfl
  have u3_2 := G3.out.at 2 _ rfl
  have u3_3 := G3.out.at 3 _ rfl
  go_wp2_with fail
  refine (C3.out _ l3.out).mono ?_
  rintro e v18 ⟨rfl, k18⟩
  replace G0 := Lib.hid ((G0.out).below k18)
  replace G1 := Lib.hid ((G1.out).below k18)
  replace G2 := Lib.hid ((G2.out).below k18)
  replace G3 := Lib.hid ((G3.out).below k18)
  replace G4 := Lib.hid ((G4.out).below k18)
  replace G5 := Lib.hid ((G5.out).below k18)
  replace l0 := Lib.hid ((l0.out).below k18)
  replace l1 := Lib.hid ((l1.out).below k18)
  replace l2 := Lib.hid ((l2.out).below k18)
  replace l3 := Lib.hid ((l3.out).below k18)
  replace hb := bstep hb k18
  clear k18
  clear u3_0 u3_1 u3_2 u3_3
  clear C2 C3
  go_upto_region 9 with (fail)
  go_cut [148] (fun zv wx => zv = .bool false ∧ Below w.heap.size w wx ∧ Box wx b0 [.string ⟨x0.k.toArray⟩, .slice x0.sa x0.s.length x0.sc, .slice x0.ca x0.c.length x0.cc, .slice x0.ia x0.j.length x0.ic, .int .u64 (x0.l.s : Int), .string ⟨x0.l.t.toArray⟩, .bool x0.l.g] ∧ Box wx b1 [.string ⟨x1.k.toArray⟩, .slice x1.sa x1.s.length x1.sc, .slice x1.ca x1.c.length x1.cc, .slice x1.ia x1.j.length x1.ic, .int .u64 (x1.l.s : Int), .string ⟨x1.l.t.toArray⟩, .bool x1.l.g] ∧ Box wx b2 [.slice s2 B2.length c2, .slice x2.aa x2.a.length x2.ac, .slice x2.ea x2.e.length x2.ec, .slice x2.pa x2.p.length x2.pc] ∧ Box wx b3 [.slice s3 B3.length c3, .slice x3.aa x3.a.length x3.ac, .slice x3.ea x3.e.length x3.ec, .slice x3.pa x3.p.length x3.pc] ∧ Box wx b4 [.int .u8 (x4.d : Int), .string ⟨x4.k.toArray⟩, .int .i64 x4.n, .string ⟨x4.t.toArray⟩] ∧ Box wx b5 [.int .u8 (x5.d : Int), .string ⟨x5.k.toArray⟩, .int .i64 x5.n, .string ⟨x5.t.toArray⟩] ∧ InnerE wx x0 ∧ InnerE wx x1 ∧ InnerD wx s2 B2 x2 ∧ InnerD wx s3 B3 x3)
  case first =>
    cases q2
    · have da : (e2 == 0) = false := by rw [E2.out]; rfl
      go_wp2_with fail
      go_meet
      exact ⟨rfl, hb, G0.out, G1.out, G2.out, G3.out, G4.out, G5.out, l0.out, l1.out, l2.out, l3.out⟩
    have da : (e2 == 0) = true := by rw [E2.out]; rfl
    cases q3
    · have db : (e3 == 0) = false := by rw [E3.out]; rfl
      go_wp2_with fail
      go_meet
      exact ⟨rfl, hb, G0.out, G1.out, G2.out, G3.out, G4.out, G5.out, l0.out, l1.out, l2.out, l3.out⟩
    have db : (e3 == 0) = true := by rw [E3.out]; rfl
    have hp0 : p2 = fD B2 x2 := P2.out
    have hp1 : p3 = fD B3 x3 := P3.out
    obtain ⟨r, hr⟩ : ∃ r, r = decide (B2 = B3) := ⟨_, rfl⟩
    obtain ⟨t, ht⟩ : ∃ r, r = decide (x2.s = x3.s) := ⟨_, rfl⟩
    have HE : (p2 == p3) = (r && t) := by rw [hp0, hp1, hr, ht]; exact same_dl W2.out W3.out Q2.out.symm Q3.out.symm
    have S1 := Lib.hid (fun W (h0 : InnerD W s2 B2 x2) (h1 : InnerD W s3 B3 x3) => (by rw [hr]; exact RefDots.same_any B2 B3 s2 s3 B2.length B3.length c2 c3 W h0.1 h1.1 (by omega) (by omega) : Calls Tryz.prog 10 #[.slice s2 B2.length c2, .slice s3 B3.length c3] W fun e W' => e = .returned (.bool r) ∧ Below W.heap.size W W'))
    have S2 := Lib.hid (fun W (h0 : InnerD W s2 B2 x2) (h1 : InnerD W s3 B3 x3) => (by rw [ht]; exact sameS_any x2 x3 W h0.2 h1.2 (ok_few W2.out.x HZ2.out) (ok_few W3.out.x HZ3.out) : Calls Tryz.prog 11 #[.agg #[.slice x2.aa x2.a.length x2.ac, .slice x2.ea x2.e.length x2.ec, .slice x2.pa x2.p.length x2.pc], .agg #[.slice x3.aa x3.a.length x3.ac, .slice x3.ea x3.e.length x3.ec, .slice x3.pa x3.p.length x3.pc]] W fun e W' => e = .returned (.bool t) ∧ Below W.heap.size W W'))
    clear hp0 hp1 hr ht
    have u2_0 := G2.out.at 0 _ rfl
    have u2_1 := G2.out.at 1 _ rfl
    have u2_2 := G2.out.at 2 _ rfl
    have u2_3 := G2.out.at 3 _ rfl
    have u3_0 := G3.out.at 0 _ rfl
    have u3_1 := G3.out.at 1 _ rfl
    have u3_2 := G3.out.at 2 _ rfl
    have u3_3 := G3.out.at 3 _ rfl
    go_wp2_with fail
    refine (S1.out _ l2.out l3.out).mono ?_
    rintro e v19 ⟨rfl, k19⟩
    replace G0 := Lib.hid ((G0.out).below k19)
    replace G1 := Lib.hid ((G1.out).below k19)
    replace G2 := Lib.hid ((G2.out).below k19)
    replace G3 := Lib.hid ((G3.out).below k19)
    replace G4 := Lib.hid ((G4.out).below k19)
    replace G5 := Lib.hid ((G5.out).below k19)
    replace l0 := Lib.hid ((l0.out).below k19)
    replace l1 := Lib.hid ((l1.out).below k19)
    replace l2 := Lib.hid ((l2.out).below k19)
    replace l3 := Lib.hid ((l3.out).below k19)
    replace hb := bstep hb k19
    clear k19
    clear u2_0 u2_1 u2_2 u2_3 u3_0 u3_1 u3_2 u3_3
    cases r
    · replace HE : (p2 == p3) = false := HE
      go_wp2_with fail
      go_meet
      exact ⟨rfl, hb, G0.out, G1.out, G2.out, G3.out, G4.out, G5.out, l0.out, l1.out, l2.out, l3.out⟩
    · replace HE : (p2 == p3) = t := by rw [HE]; rfl
      have u2_0 := G2.out.at 0 _ rfl
      have u2_1 := G2.out.at 1 _ rfl
      have u2_2 := G2.out.at 2 _ rfl
      have u2_3 := G2.out.at 3 _ rfl
      have u3_0 := G3.out.at 0 _ rfl
      have u3_1 := G3.out.at 1 _ rfl
      have u3_2 := G3.out.at 2 _ rfl
      have u3_3 := G3.out.at 3 _ rfl
      go_wp2_with fail
      refine (S2.out _ l2.out l3.out).mono ?_
      rintro e v20 ⟨rfl, k20⟩
      replace G0 := Lib.hid ((G0.out).below k20)
      replace G1 := Lib.hid ((G1.out).below k20)
      replace G2 := Lib.hid ((G2.out).below k20)
      replace G3 := Lib.hid ((G3.out).below k20)
      replace G4 := Lib.hid ((G4.out).below k20)
      replace G5 := Lib.hid ((G5.out).below k20)
      replace l0 := Lib.hid ((l0.out).below k20)
      replace l1 := Lib.hid ((l1.out).below k20)
      replace l2 := Lib.hid ((l2.out).below k20)
      replace l3 := Lib.hid ((l3.out).below k20)
      replace hb := bstep hb k20
      clear k20
      clear u2_0 u2_1 u2_2 u2_3 u3_0 u3_1 u3_2 u3_3
      cases t
      · skip
        go_wp2_with fail
        go_meet
        exact ⟨rfl, hb, G0.out, G1.out, G2.out, G3.out, G4.out, G5.out, l0.out, l1.out, l2.out, l3.out⟩
      · skip
        go_wp2_with fail
        go_meet
        exact ⟨rfl, hb, G0.out, G1.out, G2.out, G3.out, G4.out, G5.out, l0.out, l1.out, l2.out, l3.out⟩
  clear hb G0 G1 G2 G3 G4 G5 l0 l1 l2 l3
  obtain ⟨rfl, hb, G0, G1, G2, G3, G4, G5, l0, l1, l2, l3⟩ := hcut
  replace G0 := Lib.hid G0
  replace G1 := Lib.hid G1
  replace G2 := Lib.hid G2
  replace G3 := Lib.hid G3
  replace G4 := Lib.hid G4
  replace G5 := Lib.hid G5
  replace l0 := Lib.hid l0
  replace l1 := Lib.hid l1
  replace l2 := Lib.hid l2
  replace l3 := Lib.hid l3
  clear Q2 Q3 P2 P3 E2 E3
  obtain ⟨q4, hq4⟩ : ∃ q, q = mayO x4 := ⟨_, rfl⟩
  obtain ⟨p4, hp4⟩ : ∃ p, p = outS q4 (opb x4) := ⟨_, rfl⟩
  obtain ⟨e4, he4⟩ : ∃ e, e = outE q4 := ⟨_, rfl⟩
  have C4 := Lib.hid (fun W => (by rw [hp4, he4, hq4]; exact giveOp x4 W W4.out : Calls Tryz.prog 12 #[.agg #[.int .u8 (x4.d : Int), .string ⟨x4.k.toArray⟩, .int .i64 x4.n, .string ⟨x4.t.toArray⟩]] W fun e W' => e = .returned (.tuple #[.string ⟨p4.toArray⟩, .int .i64 e4]) ∧ Below W.heap.size W W'))
  have Q4 := Lib.hid hq4
  have P4 := Lib.hid hp4
  have E4 := Lib.hid he4
  clear hq4 hp4 he4
  obtain ⟨q5, hq5⟩ : ∃ q, q = mayO x5 := ⟨_, rfl⟩
  obtain ⟨p5, hp5⟩ : ∃ p, p = outS q5 (opb x5) := ⟨_, rfl⟩
  obtain ⟨e5, he5⟩ : ∃ e, e = outE q5 := ⟨_, rfl⟩
  have C5 := Lib.hid (fun W => (by rw [hp5, he5, hq5]; exact giveOp x5 W W5.out : Calls Tryz.prog 12 #[.agg #[.int .u8 (x5.d : Int), .string ⟨x5.k.toArray⟩, .int .i64 x5.n, .string ⟨x5.t.toArray⟩]] W fun e W' => e = .returned (.tuple #[.string ⟨p5.toArray⟩, .int .i64 e5]) ∧ Below W.heap.size W W'))
  have Q5 := Lib.hid hq5
  have P5 := Lib.hid hp5
  have E5 := Lib.hid he5
  clear hq5 hp5 he5
  have u4_0 := G4.out.at 0 _ rfl
  have u4_1 := G4.out.at 1 _ rfl
  have u4_2 := G4.out.at 2 _ rfl
  have u4_3 := G4.out.at 3 _ rfl
  go_wp2_with fail
  refine (C4.out _).mono ?_
  rintro e v21 ⟨rfl, k21⟩
  replace G0 := Lib.hid ((G0.out).below k21)
  replace G1 := Lib.hid ((G1.out).below k21)
  replace G2 := Lib.hid ((G2.out).below k21)
  replace G3 := Lib.hid ((G3.out).below k21)
  replace G4 := Lib.hid ((G4.out).below k21)
  replace G5 := Lib.hid ((G5.out).below k21)
  replace l0 := Lib.hid ((l0.out).below k21)
  replace l1 := Lib.hid ((l1.out).below k21)
  replace l2 := Lib.hid ((l2.out).below k21)
  replace l3 := Lib.hid ((l3.out).below k21)
  replace hb := bstep hb k21
  clear k21
  clear u4_0 u4_1 u4_2 u4_3
  have u5_0 := G5.out.at 0 _ rfl
  have u5_1 := G5.out.at 1 _ rfl
  have u5_2 := G5.out.at 2 _ rfl
  have u5_3 := G5.out.at 3 _ rfl
  go_wp2_with fail
  refine (C5.out _).mono ?_
  rintro e v22 ⟨rfl, k22⟩
  replace G0 := Lib.hid ((G0.out).below k22)
  replace G1 := Lib.hid ((G1.out).below k22)
  replace G2 := Lib.hid ((G2.out).below k22)
  replace G3 := Lib.hid ((G3.out).below k22)
  replace G4 := Lib.hid ((G4.out).below k22)
  replace G5 := Lib.hid ((G5.out).below k22)
  replace l0 := Lib.hid ((l0.out).below k22)
  replace l1 := Lib.hid ((l1.out).below k22)
  replace l2 := Lib.hid ((l2.out).below k22)
  replace l3 := Lib.hid ((l3.out).below k22)
  replace hb := bstep hb k22
  clear k22
  clear u5_0 u5_1 u5_2 u5_3
  clear C4 C5
  cases q4
  · have da : (e4 != 0) = true := by rw [E4.out]; rfl
    go_wp2_with fail
    refine (alive_any _).mono ?_
    rintro e v23 ⟨rfl, k23⟩
    replace hb := bstep hb k23
    clear k23
    go_wp2
    go_ret
    exact ⟨rfl, hb⟩
  have da : (e4 != 0) = false := by rw [E4.out]; rfl
  cases q5
  · have db : (e5 != 0) = true := by rw [E5.out]; rfl
    go_wp2_with fail
    refine (alive_any _).mono ?_
    rintro e v24 ⟨rfl, k24⟩
    replace hb := bstep hb k24
    clear k24
    go_wp2
    go_ret
    exact ⟨rfl, hb⟩
  have db : (e5 != 0) = false := by rw [E5.out]; rfl
  have hp4 : p4 = opb x4 := P4.out
  have hp5 : p5 = opb x5 := P5.out
  obtain ⟨r, hr⟩ : ∃ r, r = decide (x4 = x5) := ⟨_, rfl⟩
  have HE : (p4 == p5) = r := by
    rw [hp4, hp5, hr, Bool.eq_iff_iff, beq_iff_eq, decide_eq_true_eq]
    exact ⟨fun h => op_inj (fo_of W4.out) (fo_of W5.out) h, fun h => by rw [h]⟩
  have EO : ∀ W, (binOp .eql 37 (.agg #[.int .u8 (x4.d : Int), .string ⟨x4.k.toArray⟩, .int .i64 x4.n, .string ⟨x4.t.toArray⟩]) (.agg #[.int .u8 (x5.d : Int), .string ⟨x5.k.toArray⟩, .int .i64 x5.n, .string ⟨x5.t.toArray⟩])).run Tryz.prog W = .ok (.bool r) W := by rw [hr]; exact fun W => eql_op x4 x5 W
  clear hp4 hp5 hr
  have u4_0 := G4.out.at 0 _ rfl
  have u4_1 := G4.out.at 1 _ rfl
  have u4_2 := G4.out.at 2 _ rfl
  have u4_3 := G4.out.at 3 _ rfl
  have u5_0 := G5.out.at 0 _ rfl
  have u5_1 := G5.out.at 1 _ rfl
  have u5_2 := G5.out.at 2 _ rfl
  have u5_3 := G5.out.at 3 _ rfl
  cases r
  · skip
    go_wp2_with fail
    refine (alive_any _).mono ?_
    rintro e v25 ⟨rfl, k25⟩
    replace hb := bstep hb k25
    clear k25
    go_wp2
    go_ret
    exact ⟨rfl, hb⟩
  · skip
    go_wp2_with fail
    refine (alive_any _).mono ?_
    rintro e v26 ⟨rfl, k26⟩
    replace hb := bstep hb k26
    clear k26
    go_wp2
    go_ret
    exact ⟨rfl, hb⟩
end CoderApart
end Go.Proofs.YtnpjkmomllkhpaaGreat
