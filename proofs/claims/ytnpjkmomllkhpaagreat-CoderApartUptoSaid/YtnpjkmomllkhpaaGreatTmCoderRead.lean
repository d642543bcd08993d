/- coder: readers of cells, updates, items, entries. -/
import Derived.Test.YtnpjkmomllkhpaaGreatTmCoderMany
import Derived.Test.YtnpjkmomllkhpaaGreatTmCoderEntry
namespace Go.Proofs.YtnpjkmomllkhpaaGreat
namespace Taker
open Go.RowKit Go.Proofs.YtnpjkmomllkhpaaGreat.Mark Go.Proofs.YtnpjkmomllkhpaaGreat.Num Go.Proofs.YtnpjkmomllkhpaaGreat.Wire Go.Proofs.YtnpjkmomllkhpaaGreat.Bag Go.Proofs.YtnpjkmomllkhpaaGreat.Coder
theorem own_ne {w : World} {B1 B2 : Nat} {t1 t2 : TypeId} {k1 k2 n1 n2 : Nat} {v1 v2 : Value} {x1 x2 : List Value} (h1 : w.ownsRow B1 t1 k1 v1 n1 x1) (h2 : w.ownsRow B2 t2 k2 v2 n2 x2) (hne : t1 ≠ t2) : v1.ownBlock = none ∨ v1.ownBlock ≠ v2.ownBlock := by
  rcases h1.2 with ⟨rfl, _⟩ | ⟨g1, c1, u1, rfl, _, hg1, _⟩
  · exact .inl rfl
  · refine .inr fun e => ?_
    rcases h2.2 with ⟨rfl, _⟩ | ⟨g2, c2, u2, rfl, _, hg2, _⟩
    · cases e
    · have e : g1 = g2 := by simpa [Value.ownBlock] using e
      subst e
      rw [hg1] at hg2
      simp only [Option.some.injEq, Obj.cells.injEq] at hg2
      exact hne hg2.2.1
/-- Marks, counts, dots, items that a reader made. -/
def OwnM (w : World) (B : Nat) (a : Option Addr) (c : Nat) (L : List M) : Prop := Row.Own dE 54 w B (.slice a L.length c) L
def OwnD (w : World) (B : Nat) (a : Option Addr) (c : Nat) (L : List M) : Prop := Row.Own dE 96 w B (.slice a L.length c) L
def OwnC (w : World) (B : Nat) (a : Option Addr) (c : Nat) (L : List C) : Prop := Row.Own cE 56 w B (.slice a L.length c) L
def OwnI (w : World) (B : Nat) (a : Option Addr) (c : Nat) (L : List RI) : Prop := Row.Own iE 74 w B (.slice a L.length c) L ∧ ∀ y ∈ L, OwnD w B y.a y.c y.d
variable {w w' : World} {B B' b : Nat} {a : Option Addr} {c : Nat}
theorem OwnM.but {L : List M} (h : OwnM w B a c L) (k : But b w w') (hb : b < B) : OwnM w' B a c L := own_but h k hb
theorem OwnD.but {L : List M} (h : OwnD w B a c L) (k : But b w w') (hb : b < B) : OwnD w' B a c L := own_but h k hb
theorem OwnC.but {L : List C} (h : OwnC w B a c L) (k : But b w w') (hb : b < B) : OwnC w' B a c L := own_but h k hb
theorem OwnI.but {L : List RI} (h : OwnI w B a c L) (k : But b w w') (hb : b < B) : OwnI w' B a c L := ⟨own_but h.1 k hb, fun y hy => (h.2 y hy).but k hb⟩
theorem OwnM.base {L : List M} (h : OwnM w B a c L) (hB : B' ≤ B) : OwnM w B' a c L := Row.Own.base h hB
theorem OwnD.base {L : List M} (h : OwnD w B a c L) (hB : B' ≤ B) : OwnD w B' a c L := Row.Own.base h hB
theorem OwnC.base {L : List C} (h : OwnC w B a c L) (hB : B' ≤ B) : OwnC w B' a c L := Row.Own.base h hB
theorem OwnI.base {L : List RI} (h : OwnI w B a c L) (hB : B' ≤ B) : OwnI w B' a c L := ⟨Row.Own.base h.1 hB, fun y hy => (h.2 y hy).base hB⟩
theorem lies_of {α : Type} {E : Row.Enc α} {te : TypeId} {L : List α} (h : Row.Own E te w B (.slice a L.length c) L) : Row.Lies E w a L.length L := by
  obtain ⟨a', c', e, -, -, hl, -⟩ := h.lies
  simp only [Value.slice.injEq, true_and] at e
  obtain ⟨rfl, rfl⟩ := e
  exact hl
theorem mark_of {n : Nat} {L : List M} (h : Row.Lies dE w a n L) : Mark.Lies w a n L := by
  refine ⟨h.1, fun hn => ?_⟩
  obtain ⟨b, o, e, hc⟩ := h.2 hn
  exact ⟨b, o, e, fun j hj => ⟨hc j hj 0 _ rfl, hc j hj 1 _ rfl⟩⟩
theorem OwnM.lies {L : List M} (h : OwnM w B a c L) : Mark.Lies w a L.length L := mark_of (lies_of h)
theorem OwnI.inner {x : RE} (h : OwnI w B x.ia x.ic x.j) : InnerI w x := ⟨lies_of h.1, fun y hy => lies_of (h.2 y hy)⟩
/-- An entry that a reader made. -/
structure OwnE (w : World) (B : Nat) (x : RE) : Prop where
  s : OwnM w B x.sa x.sc x.s
  c : OwnC w B x.ca x.cc x.c
  i : OwnI w B x.ia x.ic x.j
theorem OwnE.but {x : RE} (h : OwnE w B x) (k : But b w w') (hb : b < B) : OwnE w' B x := ⟨h.s.but k hb, h.c.but k hb, h.i.but k hb⟩
theorem OwnE.base {x : RE} (h : OwnE w B x) (hB : B' ≤ B) : OwnE w B' x := ⟨h.s.base hB, h.c.base hB, h.i.base hB⟩
theorem OwnE.inner {x : RE} (h : OwnE w B x) : InnerE w x := ⟨h.s.lies, lies_of h.c, h.i.inner⟩
theorem OwnM.nil (w : World) (B : Nat) : OwnM w B none 0 [] := Row.Own.nil w B
theorem OwnC.nil (w : World) (B : Nat) : OwnC w B none 0 [] := Row.Own.nil w B
theorem OwnI.nil (w : World) (B : Nat) : OwnI w B none 0 [] := ⟨Row.Own.nil w B, fun y hy => by cases hy⟩
theorem kept_by {α β : Type} {E : Row.Enc α} {F : Row.Enc β} {te tf : TypeId} {v u : Value} {L : List α} {K : List β} (h : Row.Own E te w B v L) (ho : Row.Own F tf w B' u K) (hg : w.grownBy w' u.ownBlock) (hne : te ≠ tf) : Row.Own E te w' B v L := World.ownsRow.kept h hg (own_ne h ho hne)
def cellS (l : List UInt8) (E : Int) : Cl × List UInt8 × Int := bindR (natS l E) fun x0 l0 E0 => bindR (wordS l0 E0) fun x1 l1 E1 => bindR (truthS l1 E1) fun x2 l2 E2 => ((⟨x0, x1, x2⟩ : Cl), l2, E2)
set_option maxRecDepth 100000 in
set_option maxHeartbeats 4000000 in
theorem cell_any (b : Nat) (l : List UInt8) (E : Int) (w : World) (h : Rd w b l E) (x : Cl) (l' : List UInt8) (E' : Int) (hn : cellS l E = (x, l', E')) :
    Calls Tryz.prog 66 #[.agg #[.pointer (some ⟨b, 0, none⟩)]] w fun e w' => e = .returned (.agg #[.int .u64 (x.s : Int), .string ⟨x.t.toArray⟩, .bool x.g]) ∧ Rd w' b l' E' ∧ But b w w' := by
  have hlt := h.lt
  obtain ⟨x0, l0, E0, q0⟩ : ∃ x y z, natS l E = (x, y, z) := ⟨_, _, _, rfl⟩
  obtain ⟨x1, l1, E1, q1⟩ : ∃ x y z, wordS l0 E0 = (x, y, z) := ⟨_, _, _, rfl⟩
  obtain ⟨x2, l2, E2, q2⟩ : ∃ x y z, truthS l1 E1 = (x, y, z) := ⟨_, _, _, rfl⟩
  simp only [cellS, bindR, q0, q1, q2, Prod.mk.injEq] at hn
  obtain ⟨rfl, rfl, rfl⟩ := hn
  replace q0 := Lib.hid q0
  replace q1 := Lib.hid q1
  replace q2 := Lib.hid q2
  go_enter Tryz.func66, Tryz.ntmps66
  go_upto_region 1 with (fail)
  obtain ⟨W, hW⟩ : ∃ v, v = (w.alloc (.cells #[.pointer (some ⟨b, 0, none⟩)] 80)).alloc (.cells #[.int .u64 0, .string ⟨#[]⟩, .bool false] 27) := ⟨_, rfl⟩
  rw [← hW]
  have PB : Box W w.heap.size [.pointer (some ⟨b, 0, none⟩)] := by rw [hW]; exact (Box.new w [.pointer (some ⟨b, 0, none⟩)] 80 (by simp)).alloc _
  have SB : Box W (w.heap.size + 1) [.int .u64 0, .string ⟨#[]⟩, .bool false] := by
    rw [hW]
    have q := Box.new (w.alloc (.cells #[.pointer (some ⟨b, 0, none⟩)] 80)) [.int .u64 0, .string ⟨#[]⟩, .bool false] 27 (by simp)
    rw [World.size_alloc] at q
    exact q
  have R : Rd W b l E := by rw [hW]; exact (h.alloc _).alloc _
  have K : But b w W := by rw [hW]; exact ((But.refl b w).alloc _).alloc _
  obtain ⟨br, hbr⟩ : ∃ v, v = w.heap.size + 1 := ⟨_, rfl⟩
  rw [← hbr] at SB ⊢
  obtain ⟨bp, hbp⟩ : ∃ v, v = w.heap.size := ⟨_, rfl⟩
  rw [← hbp] at PB ⊢
  have n1 : bp ≠ b := by omega
  have n2 : br ≠ b := by omega
  have n3 : br ≠ bp := by omega
  have n4 : w.heap.size ≤ br := by omega
  have n5 : w.heap.size ≤ bp := by omega
  have N1 := Lib.hid n1
  have N2 := Lib.hid n2
  have N3 := Lib.hid n3
  have N4 := Lib.hid n4
  have N5 := Lib.hid n5
  have N6 : Hid (b < br + 1) := Lib.hid (by omega)
  have N7 : Hid (w.heap.size ≤ br + 1) := Lib.hid (by omega)
  replace PB := Lib.hid PB
  replace SB := Lib.hid SB
  replace R := Lib.hid R
  replace K := Lib.hid K
  clear hW hbp hbr n1 n2 n3 n4 n5 h hlt
  have p0 := PB.out.at 0 _ rfl
  go_wp2_with fail
  refine (nat_any b _ _ _ R.out _ _ _ q0.out).mono ?_
  rintro e w1 ⟨rfl, R1, k1⟩
  replace PB := Lib.hid (PB.out.but k1 N1.out)
  replace SB := Lib.hid (SB.out.but k1 N2.out)
  replace K := Lib.hid (K.out.trans k1)
  replace R := Lib.hid R1
  clear k1 R1
  replace p0 := PB.out.at 0 _ rfl
  have c0 := SB.out.at 0 _ rfl
  have z0 := SB.out.2.2 0
  go_upto_region 2 with (fail)
  obtain ⟨w2, hw2⟩ : ∃ v, v = (w1.setCell ⟨br, 0, none⟩ (.int .u64 (x0 : Nat))) := ⟨_, rfl⟩
  rw [← hw2]
  clear p0 c0 z0
  replace PB := Lib.hid (show Box w2 bp [.pointer (some ⟨b, 0, none⟩)] by rw [hw2]; exact (PB.out.put N3.out 0 _))
  replace SB := Lib.hid (show Box w2 br [.int .u64 (x0 : Nat), .string ⟨#[]⟩, .bool false] by rw [hw2]; exact (SB.out.set 0 _ (by simp) rfl))
  replace R := Lib.hid (by rw [hw2]; exact (rd_put R.out N2.out 0 _) : Rd w2 b _ _)
  replace K := Lib.hid (show But b w w2 by rw [hw2]; exact (K.out.put ⟨br, 0, none⟩ N4.out _))
  clear hw2
  have p0 := PB.out.at 0 _ rfl
  go_wp2_with fail
  refine (word_any b _ _ _ R.out _ _ _ q1.out).mono ?_
  rintro e w1 ⟨rfl, R1, k1⟩
  replace PB := Lib.hid (PB.out.but k1 N1.out)
  replace SB := Lib.hid (SB.out.but k1 N2.out)
  replace K := Lib.hid (K.out.trans k1)
  replace R := Lib.hid R1
  clear k1 R1
  replace p0 := PB.out.at 0 _ rfl
  have c1 := SB.out.at 1 _ rfl
  have z1 := SB.out.2.2 1
  go_upto_region 3 with (fail)
  obtain ⟨w2, hw2⟩ : ∃ v, v = (w1.setCell ⟨br, 1, none⟩ (.string ⟨x1.toArray⟩)) := ⟨_, rfl⟩
  rw [← hw2]
  clear p0 c1 z1
  replace PB := Lib.hid (show Box w2 bp [.pointer (some ⟨b, 0, none⟩)] by rw [hw2]; exact (PB.out.put N3.out 1 _))
  replace SB := Lib.hid (show Box w2 br [.int .u64 (x0 : Nat), .string ⟨x1.toArray⟩, .bool false] by rw [hw2]; exact (SB.out.set 1 _ (by simp) rfl))
  replace R := Lib.hid (by rw [hw2]; exact (rd_put R.out N2.out 1 _) : Rd w2 b _ _)
  replace K := Lib.hid (show But b w w2 by rw [hw2]; exact (K.out.put ⟨br, 1, none⟩ N4.out _))
  clear hw2
  have p0 := PB.out.at 0 _ rfl
  go_wp2_with fail
  refine (bool_any b _ _ _ R.out _ _ _ q2.out).mono ?_
  rintro e w1 ⟨rfl, R1, k1⟩
  replace PB := Lib.hid (PB.out.but k1 N1.out)
  replace SB := Lib.hid (SB.out.but k1 N2.out)
  replace K := Lib.hid (K.out.trans k1)
  replace R := Lib.hid R1
  clear k1 R1
  replace p0 := PB.out.at 0 _ rfl
  have c2 := SB.out.at 2 _ rfl
  have z2 := SB.out.2.2 2
  go_upto_region 4 with (fail)
  obtain ⟨w2, hw2⟩ : ∃ v, v = (w1.setCell ⟨br, 2, none⟩ (.bool x2)) := ⟨_, rfl⟩
  rw [← hw2]
  clear p0 c2 z2
  replace PB := Lib.hid (show Box w2 bp [.pointer (some ⟨b, 0, none⟩)] by rw [hw2]; exact (PB.out.put N3.out 2 _))
  replace SB := Lib.hid (show Box w2 br [.int .u64 (x0 : Nat), .string ⟨x1.toArray⟩, .bool x2] by rw [hw2]; exact (SB.out.set 2 _ (by simp) rfl))
  replace R := Lib.hid (by rw [hw2]; exact (rd_put R.out N2.out 2 _) : Rd w2 b _ _)
  replace K := Lib.hid (show But b w w2 by rw [hw2]; exact (K.out.put ⟨br, 2, none⟩ N4.out _))
  clear hw2
  have c0 := SB.out.at 0 _ rfl
  have z0 := SB.out.2.2 0
  have c1 := SB.out.at 1 _ rfl
  have z1 := SB.out.2.2 1
  have c2 := SB.out.at 2 _ rfl
  have z2 := SB.out.2.2 2
  go_wp2
  refine bodyPost_ret (v := .agg #[.int .u64 (x0 : Nat), .string ⟨x1.toArray⟩, .bool x2]) (by simp [results, Tryz.results66, go_sem, c0, c1, c2]) rfl ?_
  exact ⟨rfl, (rd_put (rd_put (rd_put R.out N2.out 0 _) N2.out 1 _) N2.out 2 _), (((K.out.put ⟨br, 0, none⟩ N4.out _).put ⟨br, 1, none⟩ N4.out _).put ⟨br, 2, none⟩ N4.out _)⟩
def opS (l : List UInt8) (E : Int) : O × List UInt8 × Int := bindR (smallS l E) fun x0 l0 E0 => bindR (wordS l0 E0) fun x1 l1 E1 => bindR (natS l1 E1) fun x2 l2 E2 => bindR (wordS l2 E2) fun x3 l3 E3 => ((⟨x0, x1, back (x2 : Nat), x3⟩ : O), l3, E3)
set_option maxRecDepth 100000 in
set_option maxHeartbeats 4000000 in
theorem op_any (b : Nat) (l : List UInt8) (E : Int) (w : World) (h : Rd w b l E) (x : O) (l' : List UInt8) (E' : Int) (hn : opS l E = (x, l', E')) :
    Calls Tryz.prog 33 #[.agg #[.pointer (some ⟨b, 0, none⟩)]] w fun e w' => e = .returned (.agg #[.int .u8 (x.d : Int), .string ⟨x.k.toArray⟩, .int .i64 x.n, .string ⟨x.t.toArray⟩]) ∧ Rd w' b l' E' ∧ But b w w' := by
  have hlt := h.lt
  obtain ⟨x0, l0, E0, q0⟩ : ∃ x y z, smallS l E = (x, y, z) := ⟨_, _, _, rfl⟩
  obtain ⟨x1, l1, E1, q1⟩ : ∃ x y z, wordS l0 E0 = (x, y, z) := ⟨_, _, _, rfl⟩
  obtain ⟨x2, l2, E2, q2⟩ : ∃ x y z, natS l1 E1 = (x, y, z) := ⟨_, _, _, rfl⟩
  obtain ⟨x3, l3, E3, q3⟩ : ∃ x y z, wordS l2 E2 = (x, y, z) := ⟨_, _, _, rfl⟩
  simp only [opS, bindR, q0, q1, q2, q3, Prod.mk.injEq] at hn
  obtain ⟨rfl, rfl, rfl⟩ := hn
  have hx2 : x2 ≤ 18446744073709551615 := by have := (nat_of (by decide) q2).2; omega
  replace q0 := Lib.hid q0
  replace q1 := Lib.hid q1
  replace q2 := Lib.hid q2
  replace q3 := Lib.hid q3
  go_enter Tryz.func33, Tryz.ntmps33
  go_upto_region 1 with (fail)
  obtain ⟨W, hW⟩ : ∃ v, v = (w.alloc (.cells #[.pointer (some ⟨b, 0, none⟩)] 80)).alloc (.cells #[.int .u8 0, .string ⟨#[]⟩, .int .i64 0, .string ⟨#[]⟩] 37) := ⟨_, rfl⟩
  rw [← hW]
  have PB : Box W w.heap.size [.pointer (some ⟨b, 0, none⟩)] := by rw [hW]; exact (Box.new w [.pointer (some ⟨b, 0, none⟩)] 80 (by simp)).alloc _
  have SB : Box W (w.heap.size + 1) [.int .u8 0, .string ⟨#[]⟩, .int .i64 0, .string ⟨#[]⟩] := by
    rw [hW]
    have q := Box.new (w.alloc (.cells #[.pointer (some ⟨b, 0, none⟩)] 80)) [.int .u8 0, .string ⟨#[]⟩, .int .i64 0, .string ⟨#[]⟩] 37 (by simp)
    rw [World.size_alloc] at q
    exact q
  have R : Rd W b l E := by rw [hW]; exact (h.alloc _).alloc _
  have K : But b w W := by rw [hW]; exact ((But.refl b w).alloc _).alloc _
  obtain ⟨br, hbr⟩ : ∃ v, v = w.heap.size + 1 := ⟨_, rfl⟩
  rw [← hbr] at SB ⊢
  obtain ⟨bp, hbp⟩ : ∃ v, v = w.heap.size := ⟨_, rfl⟩
  rw [← hbp] at PB ⊢
  have n1 : bp ≠ b := by omega
  have n2 : br ≠ b := by omega
  have n3 : br ≠ bp := by omega
  have n4 : w.heap.size ≤ br := by omega
  have n5 : w.heap.size ≤ bp := by omega
  have N1 := Lib.hid n1
  have N2 := Lib.hid n2
  have N3 := Lib.hid n3
  have N4 := Lib.hid n4
  have N5 := Lib.hid n5
  have N6 : Hid (b < br + 1) := Lib.hid (by omega)
  have N7 : Hid (w.heap.size ≤ br + 1) := Lib.hid (by omega)
  replace PB := Lib.hid PB
  replace SB := Lib.hid SB
  replace R := Lib.hid R
  replace K := Lib.hid K
  clear hW hbp hbr n1 n2 n3 n4 n5 h hlt
  have p0 := PB.out.at 0 _ rfl
  go_wp2_with fail
  refine (small_any b _ _ _ R.out _ _ _ q0.out).mono ?_
  rintro e w1 ⟨rfl, R1, k1⟩
  replace PB := Lib.hid (PB.out.but k1 N1.out)
  replace SB := Lib.hid (SB.out.but k1 N2.out)
  replace K := Lib.hid (K.out.trans k1)
  replace R := Lib.hid R1
  clear k1 R1
  replace p0 := PB.out.at 0 _ rfl
  have c0 := SB.out.at 0 _ rfl
  have z0 := SB.out.2.2 0
  go_upto_region 2 with (fail)
  obtain ⟨w2, hw2⟩ : ∃ v, v = (w1.setCell ⟨br, 0, none⟩ (.int .u8 (x0 : Nat))) := ⟨_, rfl⟩
  rw [← hw2]
  clear p0 c0 z0
  replace PB := Lib.hid (show Box w2 bp [.pointer (some ⟨b, 0, none⟩)] by rw [hw2]; exact (PB.out.put N3.out 0 _))
  replace SB := Lib.hid (show Box w2 br [.int .u8 (x0 : Nat), .string ⟨#[]⟩, .int .i64 0, .string ⟨#[]⟩] by rw [hw2]; exact (SB.out.set 0 _ (by simp) rfl))
  replace R := Lib.hid (by rw [hw2]; exact (rd_put R.out N2.out 0 _) : Rd w2 b _ _)
  replace K := Lib.hid (show But b w w2 by rw [hw2]; exact (K.out.put ⟨br, 0, none⟩ N4.out _))
  clear hw2
  have p0 := PB.out.at 0 _ rfl
  go_wp2_with fail
  refine (word_any b _ _ _ R.out _ _ _ q1.out).mono ?_
  rintro e w1 ⟨rfl, R1, k1⟩
  replace PB := Lib.hid (PB.out.but k1 N1.out)
  replace SB := Lib.hid (SB.out.but k1 N2.out)
  replace K := Lib.hid (K.out.trans k1)
  replace R := Lib.hid R1
  clear k1 R1
  replace p0 := PB.out.at 0 _ rfl
  have c1 := SB.out.at 1 _ rfl
  have z1 := SB.out.2.2 1
  go_upto_region 3 with (fail)
  obtain ⟨w2, hw2⟩ : ∃ v, v = (w1.setCell ⟨br, 1, none⟩ (.string ⟨x1.toArray⟩)) := ⟨_, rfl⟩
  rw [← hw2]
  clear p0 c1 z1
  replace PB := Lib.hid (show Box w2 bp [.pointer (some ⟨b, 0, none⟩)] by rw [hw2]; exact (PB.out.put N3.out 1 _))
  replace SB := Lib.hid (show Box w2 br [.int .u8 (x0 : Nat), .string ⟨x1.toArray⟩, .int .i64 0, .string ⟨#[]⟩] by rw [hw2]; exact (SB.out.set 1 _ (by simp) rfl))
  replace R := Lib.hid (by rw [hw2]; exact (rd_put R.out N2.out 1 _) : Rd w2 b _ _)
  replace K := Lib.hid (show But b w w2 by rw [hw2]; exact (K.out.put ⟨br, 1, none⟩ N4.out _))
  clear hw2
  have p0 := PB.out.at 0 _ rfl
  go_wp2_with fail
  refine (nat_any b _ _ _ R.out _ _ _ q2.out).mono ?_
  rintro e w1 ⟨rfl, R1, k1⟩
  replace PB := Lib.hid (PB.out.but k1 N1.out)
  replace SB := Lib.hid (SB.out.but k1 N2.out)
  replace K := Lib.hid (K.out.trans k1)
  replace R := Lib.hid R1
  clear k1 R1
  go_wp2_with fail
  refine (back_any _ _ (by omega) (by omega)).mono ?_
  rintro e wz ⟨rfl, rfl⟩
  replace p0 := PB.out.at 0 _ rfl
  have c2 := SB.out.at 2 _ rfl
  have z2 := SB.out.2.2 2
  go_upto_region 4 with (fail)
  obtain ⟨w2, hw2⟩ : ∃ v, v = (w1.setCell ⟨br, 2, none⟩ (.int .i64 (back (x2 : Nat)))) := ⟨_, rfl⟩
  rw [← hw2]
  clear p0 c2 z2
  replace PB := Lib.hid (show Box w2 bp [.pointer (some ⟨b, 0, none⟩)] by rw [hw2]; exact (PB.out.put N3.out 2 _))
  replace SB := Lib.hid (show Box w2 br [.int .u8 (x0 : Nat), .string ⟨x1.toArray⟩, .int .i64 (back (x2 : Nat)), .string ⟨#[]⟩] by rw [hw2]; exact (SB.out.set 2 _ (by simp) rfl))
  replace R := Lib.hid (by rw [hw2]; exact (rd_put R.out N2.out 2 _) : Rd w2 b _ _)
  replace K := Lib.hid (show But b w w2 by rw [hw2]; exact (K.out.put ⟨br, 2, none⟩ N4.out _))
  clear hw2
  have p0 := PB.out.at 0 _ rfl
  go_wp2_with fail
  refine (word_any b _ _ _ R.out _ _ _ q3.out).mono ?_
  rintro e w1 ⟨rfl, R1, k1⟩
  replace PB := Lib.hid (PB.out.but k1 N1.out)
  replace SB := Lib.hid (SB.out.but k1 N2.out)
  replace K := Lib.hid (K.out.trans k1)
  replace R := Lib.hid R1
  clear k1 R1
  replace p0 := PB.out.at 0 _ rfl
  have c3 := SB.out.at 3 _ rfl
  have z3 := SB.out.2.2 3
  go_upto_region 5 with (fail)
  obtain ⟨w2, hw2⟩ : ∃ v, v = (w1.setCell ⟨br, 3, none⟩ (.string ⟨x3.toArray⟩)) := ⟨_, rfl⟩
  rw [← hw2]
  clear p0 c3 z3
  replace PB := Lib.hid (show Box w2 bp [.pointer (some ⟨b, 0, none⟩)] by rw [hw2]; exact (PB.out.put N3.out 3 _))
  replace SB := Lib.hid (show Box w2 br [.int .u8 (x0 : Nat), .string ⟨x1.toArray⟩, .int .i64 (back (x2 : Nat)), .string ⟨x3.toArray⟩] by rw [hw2]; exact (SB.out.set 3 _ (by simp) rfl))
  replace R := Lib.hid (by rw [hw2]; exact (rd_put R.out N2.out 3 _) : Rd w2 b _ _)
  replace K := Lib.hid (show But b w w2 by rw [hw2]; exact (K.out.put ⟨br, 3, none⟩ N4.out _))
  clear hw2
  have c0 := SB.out.at 0 _ rfl
  have z0 := SB.out.2.2 0
  have c1 := SB.out.at 1 _ rfl
  have z1 := SB.out.2.2 1
  have c2 := SB.out.at 2 _ rfl
  have z2 := SB.out.2.2 2
  have c3 := SB.out.at 3 _ rfl
  have z3 := SB.out.2.2 3
  go_wp2
  refine bodyPost_ret (v := .agg #[.int .u8 (x0 : Nat), .string ⟨x1.toArray⟩, .int .i64 (back (x2 : Nat)), .string ⟨x3.toArray⟩]) (by simp [results, Tryz.results33, go_sem, c0, c1, c2, c3]) rfl ?_
  exact ⟨rfl, (rd_put (rd_put (rd_put (rd_put R.out N2.out 0 _) N2.out 1 _) N2.out 2 _) N2.out 3 _), ((((K.out.put ⟨br, 0, none⟩ N4.out _).put ⟨br, 1, none⟩ N4.out _).put ⟨br, 2, none⟩ N4.out _).put ⟨br, 3, none⟩ N4.out _)⟩
def itemS (l : List UInt8) (E : Int) : It × List UInt8 × Int := bindR (wordS l E) fun x0 l0 E0 => bindR (manyS dotS l0 E0) fun x1 l1 E1 => ((⟨x0, x1⟩ : It), l1, E1)
theorem item_eats : Eats itemS := word_eats.bind fun _ => (many_eats dot_eats).keeps.bind fun _ => keeps_pure _
set_option maxRecDepth 100000 in
set_option maxHeartbeats 4000000 in
theorem item_any (b : Nat) (l : List UInt8) (E : Int) (w : World) (h : Rd w b l E) (hz : l.length ≤ 1048576) (y : It) (l' : List UInt8) (E' : Int) (hn : itemS l E = (y, l', E')) :
    Calls Tryz.prog 65 #[.agg #[.pointer (some ⟨b, 0, none⟩)]] w fun e w' => ∃ x : RI, e = .returned (.agg #[.string ⟨x.t.toArray⟩, .slice x.a x.d.length x.c]) ∧ x.it = y ∧ OwnD w' w.heap.size x.a x.c x.d ∧ Rd w' b l' E' ∧ But b w w' := by
  have hlt := h.lt
  obtain ⟨x0, l0, E0, q0⟩ : ∃ x y z, wordS l E = (x, y, z) := ⟨_, _, _, rfl⟩
  obtain ⟨x1, l1, E1, q1⟩ : ∃ x y z, manyS dotS l0 E0 = (x, y, z) := ⟨_, _, _, rfl⟩
  simp only [itemS, bindR, q0, q1, Prod.mk.injEq] at hn
  obtain ⟨rfl, rfl, rfl⟩ := hn
  have hz0 : Hid (l0.length ≤ 1048576) := Lib.hid (by have := word_eats.keeps.len q0; omega)
  replace q0 := Lib.hid q0
  replace q1 := Lib.hid q1
  clear hz
  go_enter Tryz.func65, Tryz.ntmps65
  go_upto_region 1 with (fail)
  obtain ⟨W, hW⟩ : ∃ v, v = (w.alloc (.cells #[.pointer (some ⟨b, 0, none⟩)] 80)).alloc (.cells #[.string ⟨#[]⟩, .slice none 0 0] 74) := ⟨_, rfl⟩
  rw [← hW]
  have PB : Box W w.heap.size [.pointer (some ⟨b, 0, none⟩)] := by rw [hW]; exact (Box.new w [.pointer (some ⟨b, 0, none⟩)] 80 (by simp)).alloc _
  have SB : Box W (w.heap.size + 1) [.string ⟨#[]⟩, .slice none 0 0] := by
    rw [hW]
    have q := Box.new (w.alloc (.cells #[.pointer (some ⟨b, 0, none⟩)] 80)) [.string ⟨#[]⟩, .slice none 0 0] 74 (by simp)
    rw [World.size_alloc] at q
    exact q
  have R : Rd W b l E := by rw [hW]; exact (h.alloc _).alloc _
  have K : But b w W := by rw [hW]; exact ((But.refl b w).alloc _).alloc _
  obtain ⟨br, hbr⟩ : ∃ v, v = w.heap.size + 1 := ⟨_, rfl⟩
  rw [← hbr] at SB ⊢
  obtain ⟨bp, hbp⟩ : ∃ v, v = w.heap.size := ⟨_, rfl⟩
  rw [← hbp] at PB ⊢
  have n1 : bp ≠ b := by omega
  have n2 : br ≠ b := by omega
  have n3 : br ≠ bp := by omega
  have n4 : w.heap.size ≤ br := by omega
  have n5 : w.heap.size ≤ bp := by omega
  have N1 := Lib.hid n1
  have N2 := Lib.hid n2
  have N3 := Lib.hid n3
  have N4 := Lib.hid n4
  have N5 := Lib.hid n5
  have N6 : Hid (b < br + 1) := Lib.hid (by omega)
  have N7 : Hid (w.heap.size ≤ br + 1) := Lib.hid (by omega)
  replace PB := Lib.hid PB
  replace SB := Lib.hid SB
  replace R := Lib.hid R
  replace K := Lib.hid K
  clear hW hbp hbr n1 n2 n3 n4 n5 h hlt
  have p0 := PB.out.at 0 _ rfl
  go_wp2_with fail
  refine (word_any b _ _ _ R.out _ _ _ q0.out).mono ?_
  rintro e w1 ⟨rfl, R1, k1⟩
  replace PB := Lib.hid (PB.out.but k1 N1.out)
  replace SB := Lib.hid (SB.out.but k1 N2.out)
  replace K := Lib.hid (K.out.trans k1)
  replace R := Lib.hid R1
  clear k1 R1
  replace p0 := PB.out.at 0 _ rfl
  have c0 := SB.out.at 0 _ rfl
  have z0 := SB.out.2.2 0
  go_upto_region 2 with (fail)
  obtain ⟨w2, hw2⟩ : ∃ v, v = (w1.setCell ⟨br, 0, none⟩ (.string ⟨x0.toArray⟩)) := ⟨_, rfl⟩
  rw [← hw2]
  clear p0 c0 z0
  replace PB := Lib.hid (show Box w2 bp [.pointer (some ⟨b, 0, none⟩)] by rw [hw2]; exact (PB.out.put N3.out 0 _))
  replace SB := Lib.hid (show Box w2 br [.string ⟨x0.toArray⟩, .slice none 0 0] by rw [hw2]; exact (SB.out.set 0 _ (by simp) rfl))
  replace R := Lib.hid (by rw [hw2]; exact (rd_put R.out N2.out 0 _) : Rd w2 b _ _)
  replace K := Lib.hid (show But b w w2 by rw [hw2]; exact (K.out.put ⟨br, 0, none⟩ N4.out _))
  clear hw2
  have p0 := PB.out.at 0 _ rfl
  go_wp2_with fail
  refine (many_dot b _ _ _ R.out hz0.out _ _ _ q1.out).mono ?_
  rintro e w1 ⟨v, rfl, o1, R1, k1⟩
  replace o1 := o1.base SB.out.1
  obtain ⟨a1, u1, rfl, -, -, -, -⟩ := o1.lies
  have O1 : Hid (OwnD w1 (br + 1) a1 u1 x1) := Lib.hid o1
  clear o1
  replace PB := Lib.hid (PB.out.but k1 N1.out)
  replace SB := Lib.hid (SB.out.but k1 N2.out)
  replace K := Lib.hid (K.out.trans k1)
  replace R := Lib.hid R1
  clear k1 R1
  replace p0 := PB.out.at 0 _ rfl
  have c1 := SB.out.at 1 _ rfl
  have z1 := SB.out.2.2 1
  go_upto_region 3 with (fail)
  obtain ⟨w2, hw2⟩ : ∃ v, v = (w1.setCell ⟨br, 1, none⟩ (.slice a1 x1.length u1)) := ⟨_, rfl⟩
  rw [← hw2]
  clear p0 c1 z1
  replace PB := Lib.hid (show Box w2 bp [.pointer (some ⟨b, 0, none⟩)] by rw [hw2]; exact (PB.out.put N3.out 1 _))
  replace SB := Lib.hid (show Box w2 br [.string ⟨x0.toArray⟩, .slice a1 x1.length u1] by rw [hw2]; exact (SB.out.set 1 _ (by simp) rfl))
  replace R := Lib.hid (by rw [hw2]; exact (rd_put R.out N2.out 1 _) : Rd w2 b _ _)
  replace K := Lib.hid (show But b w w2 by rw [hw2]; exact (K.out.put ⟨br, 1, none⟩ N4.out _))
  have ks : But br w1 w2 := by rw [hw2]; exact ((But.refl br w1).set ⟨br, 1, none⟩ rfl _)
  replace O1 := Lib.hid (O1.out.but ks (Nat.lt_succ_self br))
  clear ks
  clear hw2
  have c0 := SB.out.at 0 _ rfl
  have z0 := SB.out.2.2 0
  have c1 := SB.out.at 1 _ rfl
  have z1 := SB.out.2.2 1
  go_wp2
  refine bodyPost_ret (v := .agg #[.string ⟨x0.toArray⟩, .slice a1 x1.length u1]) (by simp [results, Tryz.results65, go_sem, c0, c1]) rfl ?_
  exact ⟨⟨x0, a1, u1, x1⟩, rfl, rfl, (O1.out.but (((But.refl br w2).set ⟨br, 0, none⟩ rfl _).set ⟨br, 1, none⟩ rfl _) (Nat.lt_succ_self br)).base N7.out, (rd_put (rd_put R.out N2.out 0 _) N2.out 1 _), ((K.out.put ⟨br, 0, none⟩ N4.out _).put ⟨br, 1, none⟩ N4.out _)⟩
theorem OwnD.kept {F : Type} {E2 : Row.Enc F} {tf : TypeId} {u : Value} {K : List F} {L : List M} (h : OwnD w B a c L) (ho : Row.Own E2 tf w B' u K) (hg : w.grownBy w' u.ownBlock) (hne : 96 ≠ tf) : OwnD w' B a c L := kept_by h ho hg hne
set_option maxRecDepth 100000 in
set_option maxHeartbeats 4000000 in
theorem many_item (b : Nat) (l : List UInt8) (E : Int) (w : World) (h : Rd w b l E) (hz : l.length ≤ 1048576) (xs : List (It)) (l' : List UInt8) (E' : Int) (hn : manyS itemS l E = (xs, l', E')) :
    Calls Tryz.prog 64 #[.agg #[.pointer (some ⟨b, 0, none⟩)], .func (.func 65) #[] #[]] w fun e w' => ∃ (v : Value) (L : List RI), e = .returned v ∧ L.map RI.it = xs ∧ Row.Own iE 74 w' w.heap.size v L ∧ (∀ z ∈ L, OwnD w' w.heap.size z.a z.c z.d) ∧ Rd w' b l' E' ∧ But b w w' := by
  have hlt := h.lt
  obtain ⟨n, l1, E1, q0⟩ : ∃ x y z, natS l E = (x, y, z) := ⟨_, _, _, rfl⟩
  simp only [manyS, bindR, q0] at hn
  have hq := nat_of (by decide) q0
  have hn0 : n ≤ 18446744073709551615 := by have := hq.2; omega
  have Q0 := Lib.hid hq.1
  have HL0 : Hid (E1 = 0 → ([] : List RI).length + l1.length ≤ l.length) := Lib.hid (fun e => by
    have := nat_eats.keeps.len q0
    simpa using this)
  have HN0 : Hid (bindR (loopS itemS n l1 E1) (fun ys l2 E2 => (([] : List RI).map RI.it ++ ys, l2, E2)) = (xs, l', E')) := Lib.hid (by rw [← hn]; rfl)
  clear hn hq q0
  go_enter Tryz.func64, Tryz.ntmps64
  go_upto_region 2 with (fail)
  obtain ⟨W, hW⟩ : ∃ v, v = w.alloc (.cells #[.pointer (some ⟨b, 0, none⟩)] 80) := ⟨_, rfl⟩
  rw [← hW]
  have PB : Box W w.heap.size [.pointer (some ⟨b, 0, none⟩)] := by rw [hW]; exact Box.new w [.pointer (some ⟨b, 0, none⟩)] 80 (by simp)
  have R : Rd W b l E := by rw [hW]; exact h.alloc _
  have K : But b w W := by rw [hW]; exact (But.refl b w).alloc _
  obtain ⟨bp, hbp⟩ : ∃ v, v = w.heap.size := ⟨_, rfl⟩
  rw [← hbp] at PB ⊢
  have n1 : bp ≠ b := by omega
  have N1 := Lib.hid n1
  have NB : Hid (b < bp + 1 ∧ w.heap.size ≤ bp + 1 ∧ bp = w.heap.size) := Lib.hid (by omega)
  replace PB := Lib.hid PB
  replace R := Lib.hid R
  replace K := Lib.hid K
  have HZ := Lib.hid hz
  clear hW hbp n1 h hlt hz
  have p0 := PB.out.at 0 _ rfl
  go_wp2_with fail
  refine (num_any b _ _ 18446744073709551615 _ R.out _ _ _ Q0.out).mono ?_
  rintro e w1 ⟨rfl, R1, k1⟩
  replace PB := Lib.hid (PB.out.but k1 N1.out)
  replace K := Lib.hid (K.out.trans k1)
  replace R := Lib.hid R1
  clear k1 R1 p0
  have O0 : Hid (Row.Own iE 74 w1 (bp + 1) (.slice none 0 0) ([] : List RI)) := Lib.hid (Row.Own.nil _ _)
  have I0 : Hid (∀ z ∈ ([] : List RI), OwnD w1 (bp + 1) z.a z.c z.d) := Lib.hid (fun z hz => by cases hz)
  go_wp2_with fail
  go_loopw [5, 6] (fun lv nv wr => ∃ (n : Nat) (v : Value) (ys : List RI) (l1 : List UInt8) (E1 : Int), lv = v ∧ nv = .int .u64 (n : Nat) ∧ n ≤ 18446744073709551615 ∧ Hid (Row.Own iE 74 wr (bp + 1) v ys) ∧ Hid (∀ z ∈ ys, OwnD wr (bp + 1) z.a z.c z.d) ∧ Hid (Rd wr b l1 E1) ∧ Hid (But b w wr) ∧ Hid (Box wr bp [.pointer (some ⟨b, 0, none⟩)]) ∧ Hid (bindR (loopS itemS n l1 E1) (fun zs l2 E2 => (ys.map RI.it ++ zs, l2, E2)) = (xs, l', E')) ∧ Hid (E1 = 0 → ys.length + l1.length ≤ l.length)) (fun _ nv _ => (intOf nv).toNat)
  case atStart => exact ⟨n, _, [], l1, E1, rfl, rfl, hn0, O0, I0, R, K, PB, HN0, HL0⟩
  case round =>
    clear O0 I0 R K PB HN0 HL0 Q0 hn0
    obtain ⟨n, v, ys, l1, E1, rfl, rfl, hn0, O, I, R, K, PB, HN, HL⟩ := hrel
    have p0 := PB.out.at 0 _ rfl
    by_cases hz0 : n = 0
    · have d1 : decide ((0 : Int) < (n : Int)) = false := decide_eq_false (by omega)
      have d2 : decide (0 < n) = false := decide_eq_false (by omega)
      have HE : Hid ((ys.map RI.it, l1, E1) = (xs, l', E')) := Lib.hid (by rw [← HN.out, hz0]; show _ = (ys.map RI.it ++ [], l1, E1); rw [List.append_nil])
      clear hz0 HN
      go_wp2
      go_ret
      have he := HE.out
      simp only [Prod.mk.injEq] at he
      obtain ⟨rfl, rfl, rfl⟩ := he
      exact ⟨_, ys, rfl, rfl, O.out.base (by have := NB.out; omega), fun z hz => (I.out z hz).base (by have := NB.out; omega), R.out, K.out⟩
    obtain ⟨m, hm⟩ : ∃ m, n = m + 1 := ⟨n - 1, by omega⟩
    have d1 : decide ((0 : Int) < (n : Int)) = true := decide_eq_true (by omega)
    have d2 : decide (0 < n) = true := decide_eq_true (by omega)
    have w1 : IntKind.u64.wrap ((n : Int) - 1) = (m : Int) := by rw [IntKind.wrap_u64]; omega
    have HM := Lib.hid hm
    clear hm hz0
    go_wp2_with fail
    refine (err_any b _ _ _ R.out).mono ?_
    rintro e w2 ⟨rfl, rfl⟩
    by_cases hE : E1 = 0
    rotate_left
    · have d3 : (E1 == 0) = false := by rw [beq_eq_false_iff_ne]; exact hE
      have HE : Hid ((ys.map RI.it, l1, E1) = (xs, l', E')) := Lib.hid (by rw [← HN.out, loopS_err _ _ _ hE]; show _ = (ys.map RI.it ++ [], l1, E1); rw [List.append_nil])
      clear hE HN
      go_wp2
      go_ret
      have he := HE.out
      simp only [Prod.mk.injEq] at he
      obtain ⟨rfl, rfl, rfl⟩ := he
      exact ⟨_, ys, rfl, rfl, O.out.base (by have := NB.out; omega), fun z hz => (I.out z hz).base (by have := NB.out; omega), R.out, K.out⟩
    subst hE
    obtain ⟨y, l2, E2, qx⟩ : ∃ x y z, itemS l1 0 = (x, y, z) := ⟨_, _, _, rfl⟩
    have HLY : Hid (ys.length ≤ 1048576 ∧ l1.length ≤ 1048576) := Lib.hid (by have := HL.out rfl; have := HZ.out; omega)
    have HL2 : Hid (E2 = 0 → ys.length + 1 + l2.length ≤ l.length) := Lib.hid (fun e => by
      have h1 := item_eats.less l1 (by rw [qx]; exact e)
      have h2 := HL.out rfl
      rw [qx] at h1
      simp only at h1
      omega)
    have HN2 : Hid (bindR (loopS itemS m l2 E2) (fun zs l2 E2 => (ys.map RI.it ++ y :: zs, l2, E2)) = (xs, l', E')) := Lib.hid (by
      rw [← HN.out, HM.out]
      show _ = bindR (if (0 : Int) ≠ 0 then _ else bindR (itemS l1 0) fun x l1 E1 => bindR (loopS itemS m l1 E1) fun xs l2 E2 => (x :: xs, l2, E2)) _
      rw [if_neg (by simp), qx]
      simp only [bindR])
    have QX := Lib.hid qx
    clear qx HN HL
    go_wp2_with fail
    refine (item_any b _ _ _ R.out HLY.out.2 _ _ _ QX.out).mono ?_
    rintro e w3 ⟨x, rfl, hx, ox, R1, k1⟩
    have HN3 : Hid (bindR (loopS itemS m l2 E2) (fun zs l2 E2 => ((ys ++ [x]).map RI.it ++ zs, l2, E2)) = (xs, l', E')) := Lib.hid (by
      rw [← HN2.out, ← hx]
      simp only [List.map_append, List.map_cons, List.map_nil, List.append_assoc, List.singleton_append])
    replace O := Lib.hid (own_but O.out k1 NB.out.1)
    replace I := Lib.hid (fun z hz => (I.out z hz).but k1 NB.out.1)
    have IX : Hid (OwnD w3 (bp + 1) x.a x.c x.d) := Lib.hid (ox.base PB.out.1)
    replace PB := Lib.hid (PB.out.but k1 N1.out)
    replace K := Lib.hid (K.out.trans k1)
    replace R := Lib.hid R1
    clear k1 R1 p0 HN2 hx ox
    have HB3 : Hid (bp + 1 ≤ w3.heap.size) := Lib.hid PB.out.1
    go_wp2_with (at_builtin; refine Row.wpList_app typI rfl _ _ rfl (bp + 1) _ ys rfl (O.out.alloc _) _ 1 1 [x] rfl (Row.lies_new (E := iE) _ x _) (by have := HLY.out; omega) (by have := HB3.out; rw [World.size_alloc]; omega) ?_; intro v9 w9 o9 g9 k9)
    replace I : Hid (∀ z ∈ ys ++ [x], OwnD w9 (bp + 1) z.a z.c z.d) := Lib.hid (fun z hz => by
      have q : OwnD w3 (bp + 1) z.a z.c z.d := by
        rcases List.mem_append.1 hz with hz | hz
        · exact I.out z hz
        · rw [List.mem_singleton.1 hz]; exact IX.out
      exact (fun q ho g => OwnD.kept q ho g (by decide)) (q.but ((But.refl b w3).alloc _) NB.out.1) (O.out.alloc _) g9)
    replace k9 := ((Below.refl (bp + 1) w3).alloc HB3.out _).trans k9
    replace R := Lib.hid (R.out.below k9 NB.out.1)
    replace PB := Lib.hid (PB.out.low k9 (by omega))
    replace K := Lib.hid (but_then K.out k9 NB.out.2.1)
    replace O := Lib.hid o9
    clear k9 g9 o9 IX
    go_roundw
    case rel => exact ⟨m, v9, ys ++ [x], l2, E2, rfl, by go_num, by have := HM.out; omega, O, I, R, K, PB, HN3, Lib.hid (fun e => by have := HL2.out e; simp only [List.length_append, List.length_singleton]; omega)⟩
    case measure => simp [intOf]; have := HM.out; omega
def entryS (l : List UInt8) (E : Int) : Coder.E × List UInt8 × Int := bindR (wordS l E) fun k l0 E0 => bindR (manyS markS l0 E0) fun s l1 E1 =>
  if kd k = 1 then bindR (manyS countS l1 E1) fun c l2 E2 => ((⟨k, s, c, [], Cl.zero⟩ : Coder.E), l2, E2)
  else if kd k = 2 then bindR (manyS itemS l1 E1) fun i l2 E2 => ((⟨k, s, [], i, Cl.zero⟩ : Coder.E), l2, E2)
  else if kd k = 3 then bindR (cellS l1 E1) fun c l2 E2 => ((⟨k, s, [], [], c⟩ : Coder.E), l2, E2)
  else ((⟨k, s, [], [], Cl.zero⟩ : Coder.E), l1, if E1 ≠ 0 then E1 else 8)
theorem cell_eats : Eats cellS := nat_eats.bind fun _ => word_eats.keeps.bind fun _ => truth_eats.keeps.bind fun _ => keeps_pure _
theorem entry_eats : Eats entryS := word_eats.bind fun k => (many_eats mark_eats).keeps.bind fun s => by
  by_cases k1 : kd k = 1
  · simp only [if_pos k1]
    exact (many_eats count_eats).keeps.bind fun _ => keeps_pure _
  by_cases k2 : kd k = 2
  · simp only [if_neg k1, if_pos k2]
    exact (many_eats item_eats).keeps.bind fun _ => keeps_pure _
  by_cases k3 : kd k = 3
  · simp only [if_neg k1, if_neg k2, if_pos k3]
    exact cell_eats.keeps.bind fun _ => keeps_pure _
  · simp only [if_neg k1, if_neg k2, if_neg k3]
    exact ⟨fun l E hE => by show (l, if E ≠ 0 then E else 8) = (l, E); rw [if_pos hE], fun l => Nat.le_refl _⟩
theorem word_len {l t l' : List UInt8} {E E' : Int} (h : wordS l E = (t, l', E')) : t.length ≤ 65536 := by
  unfold wordS textS at h
  split at h
  · simp only [Prod.mk.injEq] at h; rw [← h.1]; simp
  simp only [Prod.mk.injEq] at h
  rw [← h.1]
  unfold textT
  split
  · simp
  split
  · simp
  split
  · simp
  · rename_i q _
    show ((l.drop _).take _).length ≤ 65536
    rw [List.length_take]
    omega
set_option maxRecDepth 100000 in
set_option maxHeartbeats 8000000 in
theorem entry_any (b : Nat) (l : List UInt8) (E : Int) (w : World) (h : Rd w b l E) (hz : l.length ≤ 1048576) (y : Coder.E) (l' : List UInt8) (E' : Int) (hn : entryS l E = (y, l', E')) :
    Calls Tryz.prog 31 #[.agg #[.pointer (some ⟨b, 0, none⟩)]] w fun e w' => ∃ x : RE, e = .returned (.agg #[.string ⟨x.k.toArray⟩, .slice x.sa x.s.length x.sc, .slice x.ca x.c.length x.cc, .slice x.ia x.j.length x.ic, .int .u64 (x.l.s : Int), .string ⟨x.l.t.toArray⟩, .bool x.l.g]) ∧ x.e = y ∧ OwnE w' w.heap.size x ∧ Rd w' b l' E' ∧ But b w w' := by
  have hlt := h.lt
  obtain ⟨x0, l0, E0, q0⟩ : ∃ x y z, wordS l E = (x, y, z) := ⟨_, _, _, rfl⟩
  obtain ⟨x1, l1, E1, q1⟩ : ∃ x y z, manyS markS l0 E0 = (x, y, z) := ⟨_, _, _, rfl⟩
  simp only [entryS, bindR, q0, q1] at hn
  have hz0 : Hid (l0.length ≤ 1048576) := Lib.hid (by have := word_eats.keeps.len q0; omega)
  have hz1 : Hid (l1.length ≤ 1048576) := Lib.hid (by have := (many_eats mark_eats).keeps.len q1; have := hz0.out; omega)
  have hx0 := word_len q0
  have KD := Lib.hid (fun W => kind_k x0 W (by omega))
  obtain ⟨q, hq⟩ : ∃ q, q = kd x0 := ⟨_, rfl⟩
  rw [← hq] at KD hn
  replace q0 := Lib.hid q0
  replace q1 := Lib.hid q1
  replace hn := Lib.hid hn
  clear hz hx0 hq
  go_enter Tryz.func31, Tryz.ntmps31
  go_upto_region 1 with (fail)
  obtain ⟨W, hW⟩ : ∃ v, v = (w.alloc (.cells #[.pointer (some ⟨b, 0, none⟩)] 80)).alloc (.cells #[.string ⟨#[]⟩, .slice none 0 0, .slice none 0 0, .slice none 0 0, .int .u64 0, .string ⟨#[]⟩, .bool false] 29) := ⟨_, rfl⟩
  rw [← hW]
  have PB : Box W w.heap.size [.pointer (some ⟨b, 0, none⟩)] := by rw [hW]; exact (Box.new w [.pointer (some ⟨b, 0, none⟩)] 80 (by simp)).alloc _
  have SB : Box W (w.heap.size + 1) [.string ⟨#[]⟩, .slice none 0 0, .slice none 0 0, .slice none 0 0, .int .u64 0, .string ⟨#[]⟩, .bool false] := by
    rw [hW]
    have q := Box.new (w.alloc (.cells #[.pointer (some ⟨b, 0, none⟩)] 80)) [.string ⟨#[]⟩, .slice none 0 0, .slice none 0 0, .slice none 0 0, .int .u64 0, .string ⟨#[]⟩, .bool false] 29 (by simp)
    rw [World.size_alloc] at q
    exact q
  have R : Rd W b l E := by rw [hW]; exact (h.alloc _).alloc _
  have K : But b w W := by rw [hW]; exact ((But.refl b w).alloc _).alloc _
  obtain ⟨br, hbr⟩ : ∃ v, v = w.heap.size + 1 := ⟨_, rfl⟩
  rw [← hbr] at SB ⊢
  obtain ⟨bp, hbp⟩ : ∃ v, v = w.heap.size := ⟨_, rfl⟩
  rw [← hbp] at PB ⊢
  have n1 : bp ≠ b := by omega
  have n2 : br ≠ b := by omega
  have n3 : br ≠ bp := by omega
  have n4 : w.heap.size ≤ br := by omega
  have n5 : w.heap.size ≤ bp := by omega
  have N1 := Lib.hid n1
  have N2 := Lib.hid n2
  have N3 := Lib.hid n3
  have N4 := Lib.hid n4
  have N5 := Lib.hid n5
  have N6 : Hid (b < br + 1) := Lib.hid (by omega)
  have N7 : Hid (w.heap.size ≤ br + 1) := Lib.hid (by omega)
  replace PB := Lib.hid PB
  replace SB := Lib.hid SB
  replace R := Lib.hid R
  replace K := Lib.hid K
  clear hW hbp hbr n1 n2 n3 n4 n5 h hlt
  have p0 := PB.out.at 0 _ rfl
  go_wp2_with fail
  refine (word_any b _ _ _ R.out _ _ _ q0.out).mono ?_
  rintro e w1 ⟨rfl, R1, k1⟩
  replace PB := Lib.hid (PB.out.but k1 N1.out)
  replace SB := Lib.hid (SB.out.but k1 N2.out)
  replace K := Lib.hid (K.out.trans k1)
  replace R := Lib.hid R1
  clear k1 R1
  replace p0 := PB.out.at 0 _ rfl
  have c0 := SB.out.at 0 _ rfl
  have z0 := SB.out.2.2 0
  go_upto_region 2 with (fail)
  obtain ⟨w2, hw2⟩ : ∃ v, v = (w1.setCell ⟨br, 0, none⟩ (.string ⟨x0.toArray⟩)) := ⟨_, rfl⟩
  rw [← hw2]
  clear p0 c0 z0
  replace PB := Lib.hid (show Box w2 bp [.pointer (some ⟨b, 0, none⟩)] by rw [hw2]; exact (PB.out.put N3.out 0 _))
  replace SB := Lib.hid (show Box w2 br [.string ⟨x0.toArray⟩, .slice none 0 0, .slice none 0 0, .slice none 0 0, .int .u64 0, .string ⟨#[]⟩, .bool false] by rw [hw2]; exact (SB.out.set 0 _ (by simp) rfl))
  replace R := Lib.hid (by rw [hw2]; exact (rd_put R.out N2.out 0 _) : Rd w2 b _ _)
  replace K := Lib.hid (show But b w w2 by rw [hw2]; exact (K.out.put ⟨br, 0, none⟩ N4.out _))
  clear hw2
  have p0 := PB.out.at 0 _ rfl
  go_wp2_with fail
  refine (many_mark b _ _ _ R.out hz0.out _ _ _ q1.out).mono ?_
  rintro e w1 ⟨v, rfl, o1, R1, k1⟩
  replace o1 := o1.base SB.out.1
  obtain ⟨a1, u1, rfl, -, -, -, -⟩ := o1.lies
  have O1 : Hid (OwnM w1 (br + 1) a1 u1 x1) := Lib.hid o1
  clear o1
  replace PB := Lib.hid (PB.out.but k1 N1.out)
  replace SB := Lib.hid (SB.out.but k1 N2.out)
  replace K := Lib.hid (K.out.trans k1)
  replace R := Lib.hid R1
  clear k1 R1
  replace p0 := PB.out.at 0 _ rfl
  have c1 := SB.out.at 1 _ rfl
  have z1 := SB.out.2.2 1
  go_upto_region 3 with (fail)
  obtain ⟨w2, hw2⟩ : ∃ v, v = (w1.setCell ⟨br, 1, none⟩ (.slice a1 x1.length u1)) := ⟨_, rfl⟩
  rw [← hw2]
  clear p0 c1 z1
  replace PB := Lib.hid (show Box w2 bp [.pointer (some ⟨b, 0, none⟩)] by rw [hw2]; exact (PB.out.put N3.out 1 _))
  replace SB := Lib.hid (show Box w2 br [.string ⟨x0.toArray⟩, .slice a1 x1.length u1, .slice none 0 0, .slice none 0 0, .int .u64 0, .string ⟨#[]⟩, .bool false] by rw [hw2]; exact (SB.out.set 1 _ (by simp) rfl))
  replace R := Lib.hid (by rw [hw2]; exact (rd_put R.out N2.out 1 _) : Rd w2 b _ _)
  replace K := Lib.hid (show But b w w2 by rw [hw2]; exact (K.out.put ⟨br, 1, none⟩ N4.out _))
  have ks : But br w1 w2 := by rw [hw2]; exact ((But.refl br w1).set ⟨br, 1, none⟩ rfl _)
  replace O1 := Lib.hid (O1.out.but ks (Nat.lt_succ_self br))
  clear ks
  clear hw2
  have c0 := SB.out.at 0 _ rfl
  go_wp2_with fail
  refine (KD.out _).mono ?_
  rintro e w3 ⟨rfl, k3⟩
  replace R := Lib.hid (R.out.below k3 R.out.lt)
  replace PB := Lib.hid (PB.out.below k3)
  replace SB := Lib.hid (SB.out.below k3)
  replace O1 := Lib.hid (O1.out.but (But.of k3) N6.out)
  replace K := Lib.hid (K.out.trans (But.of k3))
  clear k3 c0
  by_cases k1 : q = 1
  · skip
    have zz1 : ((q : Int) == 1) = true := by rw [beq_iff_eq]; omega
    obtain ⟨x2, l2, E2, q2⟩ : ∃ x y z, manyS countS l1 E1 = (x, y, z) := ⟨_, _, _, rfl⟩
    have hn2 := hn.out
    simp only [if_pos k1, q2, Prod.mk.injEq] at hn2
    obtain ⟨rfl, rfl, rfl⟩ := hn2
    replace q2 := Lib.hid q2
    clear hn k1
    have p0 := PB.out.at 0 _ rfl
    go_wp2_with fail
    refine (many_count b _ _ _ R.out hz1.out _ _ _ q2.out).mono ?_
    rintro e w1 ⟨v, rfl, o1, R1, k1⟩
    replace o1 := o1.base SB.out.1
    obtain ⟨a2, u2, rfl, -, -, -, -⟩ := o1.lies
    have O2 : Hid (OwnC w1 (br + 1) a2 u2 x2) := Lib.hid o1
    clear o1
    replace PB := Lib.hid (PB.out.but k1 N1.out)
    replace SB := Lib.hid (SB.out.but k1 N2.out)
    replace K := Lib.hid (K.out.trans k1)
    replace R := Lib.hid R1
    replace O1 := Lib.hid (O1.out.but k1 N6.out)
    clear k1 R1
    replace p0 := PB.out.at 0 _ rfl
    have c2 := SB.out.at 2 _ rfl
    have z2 := SB.out.2.2 2
    go_upto_region 11 with (fail)
    obtain ⟨w2, hw2⟩ : ∃ v, v = (w1.setCell ⟨br, 2, none⟩ (.slice a2 x2.length u2)) := ⟨_, rfl⟩
    rw [← hw2]
    clear p0 c2 z2
    replace PB := Lib.hid (show Box w2 bp [.pointer (some ⟨b, 0, none⟩)] by rw [hw2]; exact (PB.out.put N3.out 2 _))
    replace SB := Lib.hid (show Box w2 br [.string ⟨x0.toArray⟩, .slice a1 x1.length u1, .slice a2 x2.length u2, .slice none 0 0, .int .u64 0, .string ⟨#[]⟩, .bool false] by rw [hw2]; exact (SB.out.set 2 _ (by simp) rfl))
    replace R := Lib.hid (by rw [hw2]; exact (rd_put R.out N2.out 2 _) : Rd w2 b _ _)
    replace K := Lib.hid (show But b w w2 by rw [hw2]; exact (K.out.put ⟨br, 2, none⟩ N4.out _))
    have ks : But br w1 w2 := by rw [hw2]; exact ((But.refl br w1).set ⟨br, 2, none⟩ rfl _)
    replace O1 := Lib.hid (O1.out.but ks (Nat.lt_succ_self br))
    replace O2 := Lib.hid (O2.out.but ks (Nat.lt_succ_self br))
    clear ks
    clear hw2
    have c0 := SB.out.at 0 _ rfl
    have z0 := SB.out.2.2 0
    have c1 := SB.out.at 1 _ rfl
    have z1 := SB.out.2.2 1
    have c2 := SB.out.at 2 _ rfl
    have z2 := SB.out.2.2 2
    have c3 := SB.out.at 3 _ rfl
    have z3 := SB.out.2.2 3
    have c4 := SB.out.at 4 _ rfl
    have z4 := SB.out.2.2 4
    have c5 := SB.out.at 5 _ rfl
    have z5 := SB.out.2.2 5
    have c6 := SB.out.at 6 _ rfl
    have z6 := SB.out.2.2 6
    go_wp2
    refine bodyPost_ret (v := .agg #[.string ⟨x0.toArray⟩, .slice a1 x1.length u1, .slice a2 x2.length u2, .slice none 0 0, .int .u64 0, .string ⟨#[]⟩, .bool false]) (by simp [results, Tryz.results31, go_sem, c0, c1, c2, c3, c4, c5, c6]) rfl ?_
    exact ⟨⟨x0, a1, u1, x1, a2, u2, x2, none, 0, [], Cl.zero⟩, rfl, rfl, OwnE.base (OwnE.but (b := br) (B := br + 1) ⟨O1.out, O2.out, OwnI.nil _ _⟩ ((((((((But.refl br w2).set ⟨br, 0, none⟩ rfl _).set ⟨br, 1, none⟩ rfl _).set ⟨br, 2, none⟩ rfl _).set ⟨br, 3, none⟩ rfl _).set ⟨br, 4, none⟩ rfl _).set ⟨br, 5, none⟩ rfl _).set ⟨br, 6, none⟩ rfl _) (Nat.lt_succ_self br)) N7.out, (rd_put (rd_put (rd_put (rd_put (rd_put (rd_put (rd_put R.out N2.out 0 _) N2.out 1 _) N2.out 2 _) N2.out 3 _) N2.out 4 _) N2.out 5 _) N2.out 6 _), (((((((K.out.put ⟨br, 0, none⟩ N4.out _).put ⟨br, 1, none⟩ N4.out _).put ⟨br, 2, none⟩ N4.out _).put ⟨br, 3, none⟩ N4.out _).put ⟨br, 4, none⟩ N4.out _).put ⟨br, 5, none⟩ N4.out _).put ⟨br, 6, none⟩ N4.out _)⟩
  by_cases k2 : q = 2
  · skip
    have zz1 : ((q : Int) == 1) = false := by rw [beq_eq_false_iff_ne]; omega
    have zz2 : ((q : Int) == 2) = true := by rw [beq_iff_eq]; omega
    obtain ⟨x2, l2, E2, q2⟩ : ∃ x y z, manyS itemS l1 E1 = (x, y, z) := ⟨_, _, _, rfl⟩
    have hn2 := hn.out
    simp only [if_neg k1, if_pos k2, q2, Prod.mk.injEq] at hn2
    obtain ⟨rfl, rfl, rfl⟩ := hn2
    replace q2 := Lib.hid q2
    clear hn k1 k2
    clear hz0
    have p0 := PB.out.at 0 _ rfl
    go_wp2_with fail
    refine (many_item b _ _ _ R.out hz1.out _ _ _ q2.out).mono ?_
    rintro e w1 ⟨v, L, rfl, hL, o1, oi, R1, k1⟩
    replace o1 := o1.base SB.out.1
    obtain ⟨a2, u2, rfl, -, -, -, -⟩ := o1.lies
    have HL := Lib.hid hL
    have O2 : Hid (OwnI w1 (br + 1) a2 u2 L) := Lib.hid ⟨o1, fun y hy => (oi y hy).base SB.out.1⟩
    clear o1 oi hL
    replace PB := Lib.hid (PB.out.but k1 N1.out)
    replace SB := Lib.hid (SB.out.but k1 N2.out)
    replace K := Lib.hid (K.out.trans k1)
    replace R := Lib.hid R1
    replace O1 := Lib.hid (O1.out.but k1 N6.out)
    clear k1 R1
    replace p0 := PB.out.at 0 _ rfl
    have c3 := SB.out.at 3 _ rfl
    have z3 := SB.out.2.2 3
    go_upto_region 11 with (fail)
    obtain ⟨w2, hw2⟩ : ∃ v, v = (w1.setCell ⟨br, 3, none⟩ (.slice a2 L.length u2)) := ⟨_, rfl⟩
    rw [← hw2]
    clear p0 c3 z3
    replace PB := Lib.hid (show Box w2 bp [.pointer (some ⟨b, 0, none⟩)] by rw [hw2]; exact (PB.out.put N3.out 3 _))
    replace SB := Lib.hid (show Box w2 br [.string ⟨x0.toArray⟩, .slice a1 x1.length u1, .slice none 0 0, .slice a2 L.length u2, .int .u64 0, .string ⟨#[]⟩, .bool false] by rw [hw2]; exact (SB.out.set 3 _ (by simp) rfl))
    replace R := Lib.hid (by rw [hw2]; exact (rd_put R.out N2.out 3 _) : Rd w2 b _ _)
    replace K := Lib.hid (show But b w w2 by rw [hw2]; exact (K.out.put ⟨br, 3, none⟩ N4.out _))
    have ks : But br w1 w2 := by rw [hw2]; exact ((But.refl br w1).set ⟨br, 3, none⟩ rfl _)
    replace O1 := Lib.hid (O1.out.but ks (Nat.lt_succ_self br))
    replace O2 := Lib.hid (O2.out.but ks (Nat.lt_succ_self br))
    clear ks
    clear hw2
    have c0 := SB.out.at 0 _ rfl
    have z0 := SB.out.2.2 0
    have c1 := SB.out.at 1 _ rfl
    have z1 := SB.out.2.2 1
    have c2 := SB.out.at 2 _ rfl
    have z2 := SB.out.2.2 2
    have c3 := SB.out.at 3 _ rfl
    have z3 := SB.out.2.2 3
    have c4 := SB.out.at 4 _ rfl
    have z4 := SB.out.2.2 4
    have c5 := SB.out.at 5 _ rfl
    have z5 := SB.out.2.2 5
    have c6 := SB.out.at 6 _ rfl
    have z6 := SB.out.2.2 6
    go_wp2
    refine bodyPost_ret (v := .agg #[.string ⟨x0.toArray⟩, .slice a1 x1.length u1, .slice none 0 0, .slice a2 L.length u2, .int .u64 0, .string ⟨#[]⟩, .bool false]) (by simp [results, Tryz.results31, go_sem, c0, c1, c2, c3, c4, c5, c6]) rfl ?_
    exact ⟨⟨x0, a1, u1, x1, none, 0, [], a2, u2, L, Cl.zero⟩, rfl, by rw [← HL.out]; rfl, OwnE.base (OwnE.but (b := br) (B := br + 1) ⟨O1.out, OwnC.nil _ _, O2.out⟩ ((((((((But.refl br w2).set ⟨br, 0, none⟩ rfl _).set ⟨br, 1, none⟩ rfl _).set ⟨br, 2, none⟩ rfl _).set ⟨br, 3, none⟩ rfl _).set ⟨br, 4, none⟩ rfl _).set ⟨br, 5, none⟩ rfl _).set ⟨br, 6, none⟩ rfl _) (Nat.lt_succ_self br)) N7.out, (rd_put (rd_put (rd_put (rd_put (rd_put (rd_put (rd_put R.out N2.out 0 _) N2.out 1 _) N2.out 2 _) N2.out 3 _) N2.out 4 _) N2.out 5 _) N2.out 6 _), (((((((K.out.put ⟨br, 0, none⟩ N4.out _).put ⟨br, 1, none⟩ N4.out _).put ⟨br, 2, none⟩ N4.out _).put ⟨br, 3, none⟩ N4.out _).put ⟨br, 4, none⟩ N4.out _).put ⟨br, 5, none⟩ N4.out _).put ⟨br, 6, none⟩ N4.out _)⟩
  by_cases k3 : q = 3
  · skip
    have zz1 : ((q : Int) == 1) = false := by rw [beq_eq_false_iff_ne]; omega
    have zz2 : ((q : Int) == 2) = false := by rw [beq_eq_false_iff_ne]; omega
    have zz3 : ((q : Int) == 3) = true := by rw [beq_iff_eq]; omega
    obtain ⟨x2, l2, E2, q2⟩ : ∃ x y z, cellS l1 E1 = (x, y, z) := ⟨_, _, _, rfl⟩
    have hn2 := hn.out
    simp only [if_neg k1, if_neg k2, if_pos k3, q2, Prod.mk.injEq] at hn2
    obtain ⟨rfl, rfl, rfl⟩ := hn2
    replace q2 := Lib.hid q2
    clear hn k1 k2 k3
    have p0 := PB.out.at 0 _ rfl
    go_wp2_with fail
    refine (cell_any b _ _ _ R.out _ _ _ q2.out).mono ?_
    rintro e w1 ⟨rfl, R1, k1⟩
    replace PB := Lib.hid (PB.out.but k1 N1.out)
    replace SB := Lib.hid (SB.out.but k1 N2.out)
    replace K := Lib.hid (K.out.trans k1)
    replace R := Lib.hid R1
    replace O1 := Lib.hid (O1.out.but k1 N6.out)
    clear k1 R1
    replace p0 := PB.out.at 0 _ rfl
    have c4 := SB.out.at 4 _ rfl
    have z4 := SB.out.2.2 4
    have c5 := SB.out.at 5 _ rfl
    have z5 := SB.out.2.2 5
    have c6 := SB.out.at 6 _ rfl
    have z6 := SB.out.2.2 6
    go_upto_region 11 with (fail)
    obtain ⟨w2, hw2⟩ : ∃ v, v = (((w1.setCell ⟨br, 4, none⟩ (.int .u64 (x2.s : Int))).setCell ⟨br, 5, none⟩ (.string ⟨x2.t.toArray⟩)).setCell ⟨br, 6, none⟩ (.bool x2.g)) := ⟨_, rfl⟩
    rw [← hw2]
    clear p0 c4 z4 c5 z5 c6 z6
    replace PB := Lib.hid (show Box w2 bp [.pointer (some ⟨b, 0, none⟩)] by rw [hw2]; exact (((PB.out.put N3.out 4 _).put N3.out 5 _).put N3.out 6 _))
    replace SB := Lib.hid (show Box w2 br [.string ⟨x0.toArray⟩, .slice a1 x1.length u1, .slice none 0 0, .slice none 0 0, .int .u64 (x2.s : Int), .string ⟨x2.t.toArray⟩, .bool x2.g] by rw [hw2]; exact (((SB.out.set 4 _ (by simp) rfl).set 5 _ (by simp) rfl).set 6 _ (by simp) rfl))
    replace R := Lib.hid (by rw [hw2]; exact (rd_put (rd_put (rd_put R.out N2.out 4 _) N2.out 5 _) N2.out 6 _) : Rd w2 b _ _)
    replace K := Lib.hid (show But b w w2 by rw [hw2]; exact (((K.out.put ⟨br, 4, none⟩ N4.out _).put ⟨br, 5, none⟩ N4.out _).put ⟨br, 6, none⟩ N4.out _))
    have ks : But br w1 w2 := by rw [hw2]; exact ((((But.refl br w1).set ⟨br, 4, none⟩ rfl _).set ⟨br, 5, none⟩ rfl _).set ⟨br, 6, none⟩ rfl _)
    replace O1 := Lib.hid (O1.out.but ks (Nat.lt_succ_self br))
    clear ks
    clear hw2
    have c0 := SB.out.at 0 _ rfl
    have z0 := SB.out.2.2 0
    have c1 := SB.out.at 1 _ rfl
    have z1 := SB.out.2.2 1
    have c2 := SB.out.at 2 _ rfl
    have z2 := SB.out.2.2 2
    have c3 := SB.out.at 3 _ rfl
    have z3 := SB.out.2.2 3
    have c4 := SB.out.at 4 _ rfl
    have z4 := SB.out.2.2 4
    have c5 := SB.out.at 5 _ rfl
    have z5 := SB.out.2.2 5
    have c6 := SB.out.at 6 _ rfl
    have z6 := SB.out.2.2 6
    go_wp2
    refine bodyPost_ret (v := .agg #[.string ⟨x0.toArray⟩, .slice a1 x1.length u1, .slice none 0 0, .slice none 0 0, .int .u64 (x2.s : Int), .string ⟨x2.t.toArray⟩, .bool x2.g]) (by simp [results, Tryz.results31, go_sem, c0, c1, c2, c3, c4, c5, c6]) rfl ?_
    exact ⟨⟨x0, a1, u1, x1, none, 0, [], none, 0, [], x2⟩, rfl, rfl, OwnE.base (OwnE.but (b := br) (B := br + 1) ⟨O1.out, OwnC.nil _ _, OwnI.nil _ _⟩ ((((((((But.refl br w2).set ⟨br, 0, none⟩ rfl _).set ⟨br, 1, none⟩ rfl _).set ⟨br, 2, none⟩ rfl _).set ⟨br, 3, none⟩ rfl _).set ⟨br, 4, none⟩ rfl _).set ⟨br, 5, none⟩ rfl _).set ⟨br, 6, none⟩ rfl _) (Nat.lt_succ_self br)) N7.out, (rd_put (rd_put (rd_put (rd_put (rd_put (rd_put (rd_put R.out N2.out 0 _) N2.out 1 _) N2.out 2 _) N2.out 3 _) N2.out 4 _) N2.out 5 _) N2.out 6 _), (((((((K.out.put ⟨br, 0, none⟩ N4.out _).put ⟨br, 1, none⟩ N4.out _).put ⟨br, 2, none⟩ N4.out _).put ⟨br, 3, none⟩ N4.out _).put ⟨br, 4, none⟩ N4.out _).put ⟨br, 5, none⟩ N4.out _).put ⟨br, 6, none⟩ N4.out _)⟩
  have zz1 : ((q : Int) == 1) = false := by rw [beq_eq_false_iff_ne]; omega
  have zz2 : ((q : Int) == 2) = false := by rw [beq_eq_false_iff_ne]; omega
  have zz3 : ((q : Int) == 3) = false := by rw [beq_eq_false_iff_ne]; omega
  have hn2 := hn.out
  simp only [if_neg k1, if_neg k2, if_neg k3, Prod.mk.injEq] at hn2
  obtain ⟨rfl, rfl, hE⟩ := hn2
  replace hE := Lib.hid hE
  clear hn k1 k2 k3 KD
  have p0 := PB.out.at 0 _ rfl
  go_wp2_with fail
  refine (fail_any b _ _ 8 _ R.out _ hE.out.symm).mono ?_
  rintro e w2 ⟨rfl, R1, k1⟩
  clear p0
  replace PB := Lib.hid (PB.out.but k1 N1.out)
  replace SB := Lib.hid (SB.out.but k1 N2.out)
  replace K := Lib.hid (K.out.trans k1)
  replace R := Lib.hid R1
  replace O1 := Lib.hid (O1.out.but k1 N6.out)
  clear k1 R1
  go_upto_region 11 with (fail)
  have c0 := SB.out.at 0 _ rfl
  have z0 := SB.out.2.2 0
  have c1 := SB.out.at 1 _ rfl
  have z1 := SB.out.2.2 1
  have c2 := SB.out.at 2 _ rfl
  have z2 := SB.out.2.2 2
  have c3 := SB.out.at 3 _ rfl
  have z3 := SB.out.2.2 3
  have c4 := SB.out.at 4 _ rfl
  have z4 := SB.out.2.2 4
  have c5 := SB.out.at 5 _ rfl
  have z5 := SB.out.2.2 5
  have c6 := SB.out.at 6 _ rfl
  have z6 := SB.out.2.2 6
  go_wp2
  refine bodyPost_ret (v := .agg #[.string ⟨x0.toArray⟩, .slice a1 x1.length u1, .slice none 0 0, .slice none 0 0, .int .u64 0, .string ⟨#[]⟩, .bool false]) (by simp [results, Tryz.results31, go_sem, c0, c1, c2, c3, c4, c5, c6]) rfl ?_
  exact ⟨⟨x0, a1, u1, x1, none, 0, [], none, 0, [], Cl.zero⟩, rfl, rfl, OwnE.base (OwnE.but (b := br) (B := br + 1) ⟨O1.out, OwnC.nil _ _, OwnI.nil _ _⟩ ((((((((But.refl br w2).set ⟨br, 0, none⟩ rfl _).set ⟨br, 1, none⟩ rfl _).set ⟨br, 2, none⟩ rfl _).set ⟨br, 3, none⟩ rfl _).set ⟨br, 4, none⟩ rfl _).set ⟨br, 5, none⟩ rfl _).set ⟨br, 6, none⟩ rfl _) (Nat.lt_succ_self br)) N7.out, (rd_put (rd_put (rd_put (rd_put (rd_put (rd_put (rd_put R.out N2.out 0 _) N2.out 1 _) N2.out 2 _) N2.out 3 _) N2.out 4 _) N2.out 5 _) N2.out 6 _), (((((((K.out.put ⟨br, 0, none⟩ N4.out _).put ⟨br, 1, none⟩ N4.out _).put ⟨br, 2, none⟩ N4.out _).put ⟨br, 3, none⟩ N4.out _).put ⟨br, 4, none⟩ N4.out _).put ⟨br, 5, none⟩ N4.out _).put ⟨br, 6, none⟩ N4.out _)⟩
end Taker
end Go.Proofs.YtnpjkmomllkhpaaGreat
