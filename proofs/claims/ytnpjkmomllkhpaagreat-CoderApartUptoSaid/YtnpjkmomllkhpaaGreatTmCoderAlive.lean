/- the law's alive. -/
import Derived.Test.YtnpjkmomllkhpaaGreatTmCoderWhole
import Derived.Test.YtnpjkmomllkhpaaGreatTmCoderGive
import Derived.Test.YtnpjkmomllkhpaaGreatTmCodC
namespace Go.Proofs.YtnpjkmomllkhpaaGreat
namespace CoderLaw
open Go.RowKit Go.Proofs.YtnpjkmomllkhpaaGreat.Mark Go.Proofs.YtnpjkmomllkhpaaGreat.Num Go.Proofs.YtnpjkmomllkhpaaGreat.Wire Go.Proofs.YtnpjkmomllkhpaaGreat.Bag Go.Proofs.YtnpjkmomllkhpaaGreat.Coder Go.Proofs.YtnpjkmomllkhpaaGreat.Taker
theorem _root_.Go.Proofs.YtnpjkmomllkhpaaGreat.Coder.O.ext' {a b : O} (h1 : a.d = b.d) (h2 : a.k = b.k) (h3 : a.n = b.n) (h4 : a.t = b.t) : a = b := by cases a; cases b; simp_all
instance : DecidableEq O := fun a b => if h : a.d = b.d ∧ a.k = b.k ∧ a.n = b.n ∧ a.t = b.t then .isTrue (O.ext' h.1 h.2.1 h.2.2.1 h.2.2.2) else .isFalse fun e => h (by rw [e]; exact ⟨rfl, rfl, rfl, rfl⟩)
theorem eql_of_op (m k : O) (w : World) : (Op.equalIn 10000 37 (.agg #[.int .u8 (m.d : Int), .string ⟨m.k.toArray⟩, .int .i64 m.n, .string ⟨m.t.toArray⟩]) (.agg #[.int .u8 (k.d : Int), .string ⟨k.k.toArray⟩, .int .i64 k.n, .string ⟨k.t.toArray⟩])).run Tryz.prog w = .ok ((m.d : Int) == (k.d : Int) && (m.k == k.k && (m.n == k.n && m.t == k.t))) w := by
  have hS : Tryz.prog.underlying 37 = some (.struct (Tryz.prog.fieldsOf 37)) := by kernel_rfl
  rw [show (10000 : Nat) = 9999 + 1 from rfl, run_equalIn_agg w 9999 37 _ _ hS (by kernel_rfl)]
  simp only [Program.fieldsOf, Tryz.underlying37]
  have u1 := Tryz.underlying9
  have u2 := Tryz.underlying5
  have u3 := Tryz.underlying2
  go_simp
  by_cases h1 : (m.d : Int) = (k.d : Int) <;> by_cases h2 : m.k = k.k <;> by_cases h3 : m.n = k.n <;> by_cases h4 : m.t = k.t <;> simp [h1, h2, h3, h4]
theorem eqO_iff (m k : O) : ((m.d : Int) == (k.d : Int) && (m.k == k.k && (m.n == k.n && m.t == k.t))) = decide (m = k) := by
  obtain ⟨d, p, n, b⟩ := m
  obtain ⟨d', p', n', b'⟩ := k
  rw [Bool.eq_iff_iff]
  simp only [Bool.and_eq_true, beq_iff_eq, decide_eq_true_eq, O.mk.injEq]
  constructor
  · rintro ⟨h1, h2, h3, h4⟩; exact ⟨by omega, h2, h3, h4⟩
  · rintro ⟨h1, h2, h3, h4⟩; exact ⟨by omega, h2, h3, h4⟩
theorem eql_op (m k : O) (w : World) : (binOp .eql 37 (.agg #[.int .u8 (m.d : Int), .string ⟨m.k.toArray⟩, .int .i64 m.n, .string ⟨m.t.toArray⟩]) (.agg #[.int .u8 (k.d : Int), .string ⟨k.k.toArray⟩, .int .i64 k.n, .string ⟨k.t.toArray⟩])).run Tryz.prog w = .ok (.bool (decide (m = k))) w := by
  rw [run_eql_struct, eql_of_op, eqO_iff]; rfl
/-- The entry that is written. -/
def e1 : Coder.E := ⟨[35, 110], [⟨[49], 1⟩], [⟨[49], 2, 0⟩], [], Cl.zero⟩
def x1 (m c : Nat) : RE := ⟨[35, 110], some ⟨m, 0, none⟩, 1, [⟨[49], 1⟩], some ⟨c, 0, none⟩, 1, [⟨[49], 2, 0⟩], none, 0, [], Cl.zero⟩
def s1 : List UInt8 := [2, 35, 110, 1, 1, 49, 1, 1, 1, 49, 2, 0]
def o1 : O := ⟨1, [35, 110], -3, []⟩
theorem e1_may : mayE e1 = true := by decide +kernel
theorem e1_bytes : en e1 = s1 := by decide +kernel
theorem e1_read : entryS s1 0 = (e1, [], 0) := by decide +kernel
theorem e1_more : entryS (s1 ++ [120]) 0 = (e1, [120], 0) := by decide +kernel
theorem e0_may : mayE RE.zero.e = false := by decide +kernel
theorem o1_may : mayO o1 = true := by decide +kernel
theorem o1_read : opS (opb o1) 0 = (o1, [], 0) := by decide +kernel
theorem o1_len : (opb o1).length ≤ 65536 := by decide +kernel
theorem fit1 (m c : Nat) : FitE (x1 m c).e where
  k := by show 2 ≤ _; decide
  s := ⟨by show 1 ≤ _; decide, fun y hy => by rw [List.mem_singleton.1 hy]; exact ⟨by show 1 ≤ _; decide, by show 1 ≤ _; decide⟩⟩
  c := ⟨by show 1 ≤ _; decide, fun y hy => by rw [List.mem_singleton.1 hy]; exact ⟨by show 1 ≤ _; decide, by show 2 ≤ _; decide, by show 0 ≤ _; decide⟩⟩
  i := ⟨by show 0 ≤ _; decide, fun y hy => by cases hy⟩
  l := ⟨by show 0 ≤ _; decide, by show 0 ≤ _; decide⟩
theorem fit0 : FitE RE.zero.e := ⟨by decide, ⟨by decide, fun m hm => by cases hm⟩, ⟨by decide, fun m hm => by cases hm⟩, ⟨by decide, fun m hm => by cases hm⟩, ⟨by decide, by decide⟩⟩
theorem alive_entry (m c : Nat) (w : World) (h : InnerE w (x1 m c)) :
    Calls Tryz.prog 7 #[.agg #[.string ⟨#[35, 110]⟩, .slice (some ⟨m, 0, none⟩) 1 1, .slice (some ⟨c, 0, none⟩) 1 1, .slice none 0 0, .int .u64 0, .string ⟨#[]⟩, .bool false]] w fun e w' => e = .returned (.tuple #[.string ⟨#[2, 35, 110, 1, 1, 49, 1, 1, 1, 49, 2, 0]⟩, .int .i64 0]) ∧ Below w.heap.size w w' := by
  have hs : fE (x1 m c) = s1 := e1_bytes
  have q := giveEntry (x1 m c) w h (fit1 m c).ok (fit1 m c).fine (by rw [hs]; decide)
  rw [show mayE (x1 m c).e = true from e1_may, hs] at q
  exact q
theorem alive_none (w : World) :
    Calls Tryz.prog 7 #[.agg #[.string ⟨#[]⟩, .slice none 0 0, .slice none 0 0, .slice none 0 0, .int .u64 0, .string ⟨#[]⟩, .bool false]] w fun e w' => e = .returned (.tuple #[.string ⟨#[]⟩, .int .i64 2]) ∧ Below w.heap.size w w' := by
  have q := giveEntry RE.zero w (own_zero w 0).inner ok_zero fit0.fine (by decide +kernel)
  rw [e0_may] at q
  exact q
theorem alive_read (w : World) :
    Calls Tryz.prog 16 #[.string ⟨#[2, 35, 110, 1, 1, 49, 1, 1, 1, 49, 2, 0]⟩] w fun e w' => ∃ x : RE, e = .returned (.tuple #[.agg #[.string ⟨x.k.toArray⟩, .slice x.sa x.s.length x.sc, .slice x.ca x.c.length x.cc, .slice x.ia x.j.length x.ic, .int .u64 (x.l.s : Int), .string ⟨x.l.t.toArray⟩, .bool x.l.g], .int .i64 0]) ∧ x.e = e1 ∧ InnerE w' x ∧ x.Ok ∧ Below w.heap.size w w' := by
  refine (read_entry s1 w (by decide) e1 [] 0 e1_read).mono ?_
  rintro e w' ⟨x, rfl, hx, hi, ho, hb⟩
  rw [show okS [] 0 (mayE e1) = true by rw [e1_may]; decide] at hx ⊢
  exact ⟨x, rfl, hx, hi.inner, ho, hb⟩
theorem alive_more (w : World) :
    Calls Tryz.prog 16 #[.string ⟨#[2, 35, 110, 1, 1, 49, 1, 1, 1, 49, 2, 0, 120]⟩] w fun e w' => ∃ x : RE, e = .returned (.tuple #[.agg #[.string ⟨x.k.toArray⟩, .slice x.sa x.s.length x.sc, .slice x.ca x.c.length x.cc, .slice x.ia x.j.length x.ic, .int .u64 (x.l.s : Int), .string ⟨x.l.t.toArray⟩, .bool x.l.g], .int .i64 8]) ∧ Below w.heap.size w w' := by
  refine (read_entry (s1 ++ [120]) w (by decide) e1 [120] 0 e1_more).mono ?_
  rintro e w' ⟨x, rfl, hx, hi, ho, hb⟩
  rw [show okS [120] 0 (mayE e1) = false by unfold okS; rw [e1_may]; decide]
  exact ⟨x, rfl, hb⟩
theorem alive_op (w : World) :
    Calls Tryz.prog 12 #[.agg #[.int .u8 1, .string ⟨#[35, 110]⟩, .int .i64 (-3), .string ⟨#[]⟩]] w fun e w' => e = .returned (.tuple #[.string ⟨(opb o1).toArray⟩, .int .i64 0]) ∧ Below w.heap.size w w' := by
  have q := giveOp o1 w ⟨by decide, by decide, by decide, by decide⟩
  rw [o1_may] at q
  exact q
theorem alive_back (w : World) :
    Calls Tryz.prog 17 #[.string ⟨(opb o1).toArray⟩] w fun e w' => e = .returned (.tuple #[.agg #[.int .u8 1, .string ⟨#[35, 110]⟩, .int .i64 (-3), .string ⟨#[]⟩], .int .i64 0]) ∧ Below w.heap.size w w' := by
  refine (read_op (opb o1) w o1_len o1 [] 0 o1_read).mono ?_
  rintro e w' ⟨x, rfl, hx, hb⟩
  rw [show okS [] 0 (mayO o1) = true by rw [o1_may]; decide] at hx ⊢
  rw [hx]
  exact ⟨rfl, hb⟩
theorem inner1 (w : World) (T : TypeId) (vs : Array Value) : InnerE (((w.alloc (.cells #[.string ⟨#[49]⟩, .int .u64 1] 54)).alloc (.cells #[.string ⟨#[49]⟩, .int .u64 2, .int .u64 0] 56)).alloc (.cells vs T)) (x1 w.heap.size (w.heap.size + 1)) := by
  refine ⟨?_, ?_, ⟨Row.Lies.nil _ _, fun y hy => by cases hy⟩⟩
  · refine Mark.Lies.below (w := (w.alloc (.cells #[.string ⟨#[49]⟩, .int .u64 1] 54))) ?_ (balloc (balloc (Below.refl _ _) _) _)
    exact mark_of (Row.lies_new (E := dE) w ⟨[49], 1⟩ 54)
  · refine Row.Lies.below (w := ((w.alloc (.cells #[.string ⟨#[49]⟩, .int .u64 1] 54)).alloc (.cells #[.string ⟨#[49]⟩, .int .u64 2, .int .u64 0] 56))) ?_ (balloc (Below.refl _ _) _)
    have q := Row.lies_new (E := cE) (w.alloc (.cells #[.string ⟨#[49]⟩, .int .u64 1] 54)) ⟨[49], 2, 0⟩ 56
    rw [World.size_alloc] at q
    exact q
set_option maxRecDepth 100000 in
set_option maxHeartbeats 8000000 in
theorem alive_any (w : World) : Calls Tryz.prog 6 #[] w fun e w' => e = .returned (.bool true) ∧ Below w.heap.size w w' := by
  go_enter Tryz.func6, Tryz.ntmps6
  go_upto_region 2 with (fail)
  obtain ⟨W, hW⟩ : ∃ v, v = ((w.alloc (.cells #[.string ⟨#[49]⟩, .int .u64 1] 54)).alloc (.cells #[.string ⟨#[49]⟩, .int .u64 2, .int .u64 0] 56)).alloc (.cells #[.string ⟨#[35, 110]⟩, .slice (some ⟨w.heap.size, 0, none⟩) 1 1, .slice (some ⟨(w.heap.size + 1), 0, none⟩) 1 1, .slice none 0 0, .int .u64 0, .string ⟨#[]⟩, .bool false] 29) := ⟨_, rfl⟩
  rw [← hW]
  have IX : InnerE W (x1 w.heap.size (w.heap.size + 1)) := by rw [hW]; exact inner1 w _ _
  have BE : Box W (w.heap.size + 2) [.string ⟨#[35, 110]⟩, .slice (some ⟨w.heap.size, 0, none⟩) 1 1, .slice (some ⟨(w.heap.size + 1), 0, none⟩) 1 1, .slice none 0 0, .int .u64 0, .string ⟨#[]⟩, .bool false] := by
    rw [hW]
    have q := Box.new ((w.alloc (.cells #[.string ⟨#[49]⟩, .int .u64 1] 54)).alloc (.cells #[.string ⟨#[49]⟩, .int .u64 2, .int .u64 0] 56)) [.string ⟨#[35, 110]⟩, .slice (some ⟨w.heap.size, 0, none⟩) 1 1, .slice (some ⟨(w.heap.size + 1), 0, none⟩) 1 1, .slice none 0 0, .int .u64 0, .string ⟨#[]⟩, .bool false] 29 (by simp)
    simp only [World.size_alloc] at q
    exact q
  have hb : Below w.heap.size w W := by rw [hW]; exact balloc (balloc (balloc (Below.refl _ _) _) _) _
  obtain ⟨eb, heb⟩ : ∃ v, v = w.heap.size + 1 + 1 := ⟨_, rfl⟩
  replace BE : Box W eb [.string ⟨#[35, 110]⟩, .slice (some ⟨w.heap.size, 0, none⟩) 1 1, .slice (some ⟨(w.heap.size + 1), 0, none⟩) 1 1, .slice none 0 0, .int .u64 0, .string ⟨#[]⟩, .bool false] := by rw [heb]; exact BE
  rw [← heb]
  obtain ⟨cb, hcb⟩ : ∃ v, v = w.heap.size + 1 := ⟨_, rfl⟩
  rw [← hcb] at IX BE ⊢
  obtain ⟨mb, hmb⟩ : ∃ v, v = w.heap.size := ⟨_, rfl⟩
  replace IX : InnerE W (x1 mb cb) := by rw [hmb]; exact IX
  replace BE : Box W eb [.string ⟨#[35, 110]⟩, .slice (some ⟨mb, 0, none⟩) 1 1, .slice (some ⟨cb, 0, none⟩) 1 1, .slice none 0 0, .int .u64 0, .string ⟨#[]⟩, .bool false] := by rw [hmb]; exact BE
  have hG : w.heap.size ≤ W.heap.size := hb.size
  replace IX := Lib.hid IX
  replace BE := Lib.hid BE
  clear hW heb hcb hG hmb
  have AX : (({ data := #[2, 35, 110, 1, 1, 49, 1, 1, 1, 49, 2, 0] } : ByteArray)) ++ { data := #[120] } = { data := #[2, 35, 110, 1, 1, 49, 1, 1, 1, 49, 2, 0, 120] } := rfl
  obtain ⟨t, ht⟩ : ∃ t, t = opb o1 := ⟨_, rfl⟩
  have AO := Lib.hid (fun W => (by rw [ht]; exact alive_op W : Calls Tryz.prog 12 #[.agg #[.int .u8 1, .string ⟨#[35, 110]⟩, .int .i64 (-3), .string ⟨#[]⟩]] W fun e W' => e = .returned (.tuple #[.string ⟨t.toArray⟩, .int .i64 0]) ∧ Below W.heap.size W W'))
  have AB := Lib.hid (fun W => (by rw [ht]; exact alive_back W : Calls Tryz.prog 17 #[.string ⟨t.toArray⟩] W fun e W' => e = .returned (.tuple #[.agg #[.int .u8 1, .string ⟨#[35, 110]⟩, .int .i64 (-3), .string ⟨#[]⟩], .int .i64 0]) ∧ Below W.heap.size W W'))
  have EO : ∀ W, (binOp .eql 37 (.agg #[.int .u8 1, .string ⟨#[35, 110]⟩, .int .i64 (-3), .string ⟨#[]⟩]) (.agg #[.int .u8 1, .string ⟨#[35, 110]⟩, .int .i64 (-3), .string ⟨#[]⟩])).run Tryz.prog W = .ok (.bool true) W := by
    intro W
    have q := eql_op o1 o1 W
    rw [decide_eq_true (rfl : o1 = o1)] at q
    exact q
  clear ht
  have c0 := BE.out.at 0 _ rfl
  have c1 := BE.out.at 1 _ rfl
  have c2 := BE.out.at 2 _ rfl
  have c3 := BE.out.at 3 _ rfl
  have c4 := BE.out.at 4 _ rfl
  have c5 := BE.out.at 5 _ rfl
  have c6 := BE.out.at 6 _ rfl
  go_wp2_with fail
  refine (alive_entry mb cb _ IX.out).mono ?_
  rintro e v1 ⟨rfl, k1⟩
  replace IX := Lib.hid ((IX.out).below k1)
  replace BE := Lib.hid ((BE.out).below k1)
  replace hb := bstep hb k1
  clear k1
  clear c0 c1 c2 c3 c4 c5 c6
  go_wp2_with fail
  refine (alive_read _).mono ?_
  rintro e v2 ⟨x, rfl, hx, hi, ho, k2⟩
  replace IX := Lib.hid ((IX.out).below k2)
  replace BE := Lib.hid ((BE.out).below k2)
  replace hb := bstep hb k2
  clear k2
  have HX := Lib.hid hx
  have OX := Lib.hid ho
  have IR := Lib.hid hi
  clear hx ho hi
  go_upto_region 4 with (fail)
  obtain ⟨W4, hW4⟩ : ∃ v, v = v2.alloc (.cells #[.string ⟨x.k.toArray⟩, .slice x.sa x.s.length x.sc, .slice x.ca x.c.length x.cc, .slice x.ia x.j.length x.ic, .int .u64 (x.l.s : Int), .string ⟨x.l.t.toArray⟩, .bool x.l.g] 29) := ⟨_, rfl⟩
  rw [← hW4]
  have BR : Box W4 v2.heap.size [.string ⟨x.k.toArray⟩, .slice x.sa x.s.length x.sc, .slice x.ca x.c.length x.cc, .slice x.ia x.j.length x.ic, .int .u64 (x.l.s : Int), .string ⟨x.l.t.toArray⟩, .bool x.l.g] := by rw [hW4]; exact Box.new v2 [.string ⟨x.k.toArray⟩, .slice x.sa x.s.length x.sc, .slice x.ca x.c.length x.cc, .slice x.ia x.j.length x.ic, .int .u64 (x.l.s : Int), .string ⟨x.l.t.toArray⟩, .bool x.l.g] 29 (by simp)
  have kk : Below v2.heap.size v2 W4 := by rw [hW4]; exact balloc (Below.refl _ _) _
  obtain ⟨rb, hrb⟩ : ∃ v, v = v2.heap.size := ⟨_, rfl⟩
  rw [← hrb] at BR ⊢
  replace BR := Lib.hid BR
  replace IX := Lib.hid ((IX.out).below kk)
  replace BE := Lib.hid ((BE.out).below kk)
  replace IR := Lib.hid ((IR.out).below kk)
  replace hb := bstep hb kk
  clear kk hW4 hrb
  have SM := Lib.hid (fun W (h1 : InnerE W x) (h2 : InnerE W (x1 mb cb)) => (by
    have q := sameE_any x (x1 mb cb) W h1 h2 OX.out (fit1 mb cb).ok
    rw [decide_eq_true (show x.e = (x1 mb cb).e from HX.out)] at q
    exact q : Calls Tryz.prog 8 #[.agg #[.string ⟨x.k.toArray⟩, .slice x.sa x.s.length x.sc, .slice x.ca x.c.length x.cc, .slice x.ia x.j.length x.ic, .int .u64 (x.l.s : Int), .string ⟨x.l.t.toArray⟩, .bool x.l.g], .agg #[.string ⟨#[35, 110]⟩, .slice (some ⟨mb, 0, none⟩) 1 1, .slice (some ⟨cb, 0, none⟩) 1 1, .slice none 0 0, .int .u64 0, .string ⟨#[]⟩, .bool false]] W fun e W' => e = .returned (.bool true) ∧ Below W.heap.size W W'))
  go_wp2_with fail
  refine (alive_more _).mono ?_
  rintro e v3 ⟨x2, rfl, k3⟩
  replace IX := Lib.hid ((IX.out).below k3)
  replace BE := Lib.hid ((BE.out).below k3)
  replace IR := Lib.hid ((IR.out).below k3)
  replace BR := Lib.hid ((BR.out).below k3)
  replace hb := bstep hb k3
  clear k3
  go_upto_region 5 with (fail)
  obtain ⟨W5, hW5⟩ : ∃ v, v = v3.alloc (.cells #[.string ⟨x2.k.toArray⟩, .slice x2.sa x2.s.length x2.sc, .slice x2.ca x2.c.length x2.cc, .slice x2.ia x2.j.length x2.ic, .int .u64 (x2.l.s : Int), .string ⟨x2.l.t.toArray⟩, .bool x2.l.g] 29) := ⟨_, rfl⟩
  rw [← hW5]
  have BS : Box W5 v3.heap.size [.string ⟨x2.k.toArray⟩, .slice x2.sa x2.s.length x2.sc, .slice x2.ca x2.c.length x2.cc, .slice x2.ia x2.j.length x2.ic, .int .u64 (x2.l.s : Int), .string ⟨x2.l.t.toArray⟩, .bool x2.l.g] := by rw [hW5]; exact Box.new v3 [.string ⟨x2.k.toArray⟩, .slice x2.sa x2.s.length x2.sc, .slice x2.ca x2.c.length x2.cc, .slice x2.ia x2.j.length x2.ic, .int .u64 (x2.l.s : Int), .string ⟨x2.l.t.toArray⟩, .bool x2.l.g] 29 (by simp)
  have kk : Below v3.heap.size v3 W5 := by rw [hW5]; exact balloc (Below.refl _ _) _
  obtain ⟨rs, hrs⟩ : ∃ v, v = v3.heap.size := ⟨_, rfl⟩
  rw [← hrs] at BS ⊢
  replace BS := Lib.hid BS
  replace IX := Lib.hid ((IX.out).below kk)
  replace BE := Lib.hid ((BE.out).below kk)
  replace IR := Lib.hid ((IR.out).below kk)
  replace BR := Lib.hid ((BR.out).below kk)
  replace hb := bstep hb kk
  clear kk hW5 hrs
  clear BS
  go_wp2_with fail
  refine (alive_none _).mono ?_
  rintro e v4 ⟨rfl, k4⟩
  replace IX := Lib.hid ((IX.out).below k4)
  replace BE := Lib.hid ((BE.out).below k4)
  replace IR := Lib.hid ((IR.out).below k4)
  replace BR := Lib.hid ((BR.out).below k4)
  replace hb := bstep hb k4
  clear k4
  go_upto_region 7 with (fail)
  obtain ⟨W7, hW7⟩ : ∃ v, v = v4.alloc (.cells #[.int .u8 1, .string ⟨#[35, 110]⟩, .int .i64 (-3), .string ⟨#[]⟩] 37) := ⟨_, rfl⟩
  rw [← hW7]
  have BO : Box W7 v4.heap.size [.int .u8 1, .string ⟨#[35, 110]⟩, .int .i64 (-3), .string ⟨#[]⟩] := by rw [hW7]; exact Box.new v4 [.int .u8 1, .string ⟨#[35, 110]⟩, .int .i64 (-3), .string ⟨#[]⟩] 37 (by simp)
  have kk : Below v4.heap.size v4 W7 := by rw [hW7]; exact balloc (Below.refl _ _) _
  obtain ⟨ob, hob⟩ : ∃ v, v = v4.heap.size := ⟨_, rfl⟩
  rw [← hob] at BO ⊢
  replace BO := Lib.hid BO
  replace IX := Lib.hid ((IX.out).below kk)
  replace BE := Lib.hid ((BE.out).below kk)
  replace IR := Lib.hid ((IR.out).below kk)
  replace BR := Lib.hid ((BR.out).below kk)
  replace hb := bstep hb kk
  clear kk hW7 hob
  have c0 := BO.out.at 0 _ rfl
  have c1 := BO.out.at 1 _ rfl
  have c2 := BO.out.at 2 _ rfl
  have c3 := BO.out.at 3 _ rfl
  go_wp2_with fail
  refine (AO.out _).mono ?_
  rintro e v5 ⟨rfl, k5⟩
  replace IX := Lib.hid ((IX.out).below k5)
  replace BE := Lib.hid ((BE.out).below k5)
  replace IR := Lib.hid ((IR.out).below k5)
  replace BR := Lib.hid ((BR.out).below k5)
  replace BO := Lib.hid ((BO.out).below k5)
  replace hb := bstep hb k5
  clear k5
  clear c0 c1 c2 c3
  go_wp2_with fail
  refine (AB.out _).mono ?_
  rintro e v6 ⟨rfl, k6⟩
  replace IX := Lib.hid ((IX.out).below k6)
  replace BE := Lib.hid ((BE.out).below k6)
  replace IR := Lib.hid ((IR.out).below k6)
  replace BR := Lib.hid ((BR.out).below k6)
  replace BO := Lib.hid ((BO.out).below k6)
  replace hb := bstep hb k6
  clear k6
  go_upto_region 9 with (fail)
  obtain ⟨W9, hW9⟩ : ∃ v, v = v6.alloc (.cells #[.int .u8 1, .string ⟨#[35, 110]⟩, .int .i64 (-3), .string ⟨#[]⟩] 37) := ⟨_, rfl⟩
  rw [← hW9]
  have BP : Box W9 v6.heap.size [.int .u8 1, .string ⟨#[35, 110]⟩, .int .i64 (-3), .string ⟨#[]⟩] := by rw [hW9]; exact Box.new v6 [.int .u8 1, .string ⟨#[35, 110]⟩, .int .i64 (-3), .string ⟨#[]⟩] 37 (by simp)
  have kk : Below v6.heap.size v6 W9 := by rw [hW9]; exact balloc (Below.refl _ _) _
  obtain ⟨pb, hpb⟩ : ∃ v, v = v6.heap.size := ⟨_, rfl⟩
  rw [← hpb] at BP ⊢
  replace BP := Lib.hid BP
  replace IX := Lib.hid ((IX.out).below kk)
  replace BE := Lib.hid ((BE.out).below kk)
  replace IR := Lib.hid ((IR.out).below kk)
  replace BR := Lib.hid ((BR.out).below kk)
  replace BO := Lib.hid ((BO.out).below kk)
  replace hb := bstep hb kk
  clear kk hW9 hpb
  have c0 := BE.out.at 0 _ rfl
  have c1 := BE.out.at 1 _ rfl
  have c2 := BE.out.at 2 _ rfl
  have c3 := BE.out.at 3 _ rfl
  have c4 := BE.out.at 4 _ rfl
  have c5 := BE.out.at 5 _ rfl
  have c6 := BE.out.at 6 _ rfl
  have f0 := BR.out.at 0 _ rfl
  have f1 := BR.out.at 1 _ rfl
  have f2 := BR.out.at 2 _ rfl
  have f3 := BR.out.at 3 _ rfl
  have f4 := BR.out.at 4 _ rfl
  have f5 := BR.out.at 5 _ rfl
  have f6 := BR.out.at 6 _ rfl
  go_wp2_with fail
  refine (SM.out _ IR.out IX.out).mono ?_
  rintro e v7 ⟨rfl, k7⟩
  replace IX := Lib.hid ((IX.out).below k7)
  replace BE := Lib.hid ((BE.out).below k7)
  replace IR := Lib.hid ((IR.out).below k7)
  replace BR := Lib.hid ((BR.out).below k7)
  replace BO := Lib.hid ((BO.out).below k7)
  replace BP := Lib.hid ((BP.out).below k7)
  replace hb := bstep hb k7
  clear k7
  clear c0 c1 c2 c3 c4 c5 c6
  clear f0 f1 f2 f3 f4 f5 f6
  have c0 := BO.out.at 0 _ rfl
  have c1 := BO.out.at 1 _ rfl
  have c2 := BO.out.at 2 _ rfl
  have c3 := BO.out.at 3 _ rfl
  have f0 := BP.out.at 0 _ rfl
  have f1 := BP.out.at 1 _ rfl
  have f2 := BP.out.at 2 _ rfl
  have f3 := BP.out.at 3 _ rfl
  go_wp2
  go_ret
  exact ⟨rfl, hb⟩
end CoderLaw
end Go.Proofs.YtnpjkmomllkhpaaGreat
