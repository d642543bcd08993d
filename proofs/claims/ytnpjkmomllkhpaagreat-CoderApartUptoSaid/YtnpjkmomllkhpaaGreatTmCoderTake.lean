/- coder: readers of words, numbers, marks, dots, counts, cells, updates. -/
import Derived.Test.YtnpjkmomllkhpaaGreatTmWireA
import Derived.Test.YtnpjkmomllkhpaaGreatTmCodA
import Derived.Test.YtnpjkmomllkhpaaGreatTmNumA
namespace Go.Proofs.YtnpjkmomllkhpaaGreat
namespace Taker
open Go.RowKit Go.Proofs.YtnpjkmomllkhpaaGreat.Mark Go.Proofs.YtnpjkmomllkhpaaGreat.Num Go.Proofs.YtnpjkmomllkhpaaGreat.Wire Go.Proofs.YtnpjkmomllkhpaaGreat.Bag Go.Proofs.YtnpjkmomllkhpaaGreat.Coder
/-- A block's cells. -/
def Box (w : World) (b : Nat) (vs : List Value) : Prop := b < w.heap.size ∧ (∀ j v, vs[j]? = some v → w.cell? ⟨b, j, none⟩ = some v) ∧ ∀ j, w.frozen? ⟨b, j, none⟩ = false
theorem Box.at {w : World} {b : Nat} {vs : List Value} (h : Box w b vs) (j : Nat) (v : Value) (e : vs[j]? = some v) : w.cell? ⟨b, j, none⟩ = some v := h.2.1 j v e
theorem Box.new (w : World) (vs : List Value) (T : TypeId) (_h : vs ≠ []) : Box (w.alloc (.cells vs.toArray T)) w.heap.size vs := by
  refine ⟨by rw [World.size_alloc]; omega, fun j v hv => ?_, fun j => World.frozen?_alloc_at _ _ _ _ rfl⟩
  rw [World.cell?_alloc_at _ _ _ j rfl, List.getElem?_toArray]
  exact hv
theorem Box.below {w w' : World} {b : Nat} {vs : List Value} (h : Box w b vs) (k : Below w.heap.size w w') : Box w' b vs :=
  ⟨Nat.lt_of_lt_of_le h.1 k.size, fun j v hv => (k.cell (p := ⟨b, j, none⟩) h.1).trans (h.2.1 j v hv), fun j => (k.frozen (p := ⟨b, j, none⟩) h.1).trans (h.2.2 j)⟩
theorem Box.alloc {w : World} {b : Nat} {vs : List Value} (h : Box w b vs) (o : Obj) : Box (w.alloc o) b vs := h.below (balloc (Below.refl _ _) o)
theorem Box.but {w w' : World} {b c : Nat} {vs : List Value} (h : Box w b vs) (k : But c w w') (hb : b ≠ c) : Box w' b vs :=
  ⟨Nat.lt_of_lt_of_le h.1 k.size, fun j v hv => (k.cell (p := ⟨b, j, none⟩) h.1 hb).trans (h.2.1 j v hv), fun j => (k.frozen (p := ⟨b, j, none⟩) h.1 hb).trans (h.2.2 j)⟩
theorem Box.put {w : World} {b c : Nat} {vs : List Value} (h : Box w b vs) (hc : c ≠ b) (i : Nat) (u : Value) : Box (w.setCell ⟨c, i, none⟩ u) b vs :=
  ⟨by rw [World.size_setCell]; exact h.1, fun j v hv => by rw [World.cell?_setCell_other _ _ _ _ (fun q => hc (congrArg Addr.block q))]; exact h.2.1 j v hv, fun j => by rw [World.frozen?_setCell]; exact h.2.2 j⟩
theorem Box.set {w : World} {b : Nat} {vs : List Value} (h : Box w b vs) (i : Nat) (u : Value) (hi : i < vs.length) {vs' : List Value} (hv : vs' = vs.set i u) : Box (w.setCell ⟨b, i, none⟩ u) b vs' := by
  subst hv
  refine ⟨by rw [World.size_setCell]; exact h.1, fun j v hv => ?_, fun j => by rw [World.frozen?_setCell]; exact h.2.2 j⟩
  by_cases e : i = j
  · subst e
    rw [List.getElem?_set_self hi] at hv
    rw [← hv]
    exact World.cell?_setCell_same _ _ _ (h.2.1 i _ (List.getElem?_eq_getElem hi))
  · rw [List.getElem?_set_ne e] at hv
    rw [World.cell?_setCell_other _ _ _ _ (fun q => e (congrArg Addr.off q))]
    exact h.2.1 j v hv
theorem rd_put {w : World} {b c : Nat} {l : List UInt8} {E : Int} (h : Rd w b l E) (hc : c ≠ b) (i : Nat) (u : Value) : Rd (w.setCell ⟨c, i, none⟩ u) b l E := by
  obtain ⟨h1, h2, h3, h4, h5, h6⟩ := h
  exact ⟨by rw [World.cell?_setCell_other _ _ _ _ (fun q => hc (congrArg Addr.block q))]; exact h1, by rw [World.cell?_setCell_other _ _ _ _ (fun q => hc (congrArg Addr.block q))]; exact h2, by rw [World.cell?_setCell_other _ _ _ _ (fun q => hc (congrArg Addr.block q))]; exact h3, by rw [World.frozen?_setCell]; exact h4, by rw [World.frozen?_setCell]; exact h5, h6⟩
/-- One thing behind the other. -/
def bindR {α β : Type} (p : α × List UInt8 × Int) (f : α → List UInt8 → Int → β × List UInt8 × Int) : β × List UInt8 × Int := f p.1 p.2.1 p.2.2
def wordS (l : List UInt8) (E : Int) : List UInt8 × List UInt8 × Int := textS 65536 l E
def natS (l : List UInt8) (E : Int) : Nat × List UInt8 × Int := ((numS 18446744073709551615 l E).1.toNat, (numS 18446744073709551615 l E).2)
def smallS (l : List UInt8) (E : Int) : Nat × List UInt8 × Int := ((numS 255 l E).1.toNat, (numS 255 l E).2)
def truthS (l : List UInt8) (E : Int) : Bool × List UInt8 × Int := boolS l E
theorem nat_of {most : Int} (h0 : 0 ≤ most) {l l' : List UInt8} {E E' : Int} {n : Nat} (h : ((numS most l E).1.toNat, (numS most l E).2) = (n, l', E')) : numS most l E = ((n : Int), l', E') ∧ (n : Int) ≤ most := by
  obtain ⟨m, p, q, e⟩ : ∃ m p q, numS most l E = (m, p, q) := ⟨_, _, _, rfl⟩
  have hb := numS_le e h0
  rw [e] at h ⊢
  simp only [Prod.mk.injEq] at h
  obtain ⟨h1, h2, h3⟩ := h
  subst h2; subst h3
  have : (n : Int) = m := by omega
  exact ⟨by rw [this], by omega⟩
set_option maxHeartbeats 1000000 in
theorem word_any (b : Nat) (l : List UInt8) (E : Int) (w : World) (h : Rd w b l E) (x : List UInt8) (l' : List UInt8) (E' : Int) (hn : wordS l E = (x, l', E')) :
    Calls Tryz.prog 59 #[.agg #[.pointer (some ⟨b, 0, none⟩)]] w fun e w' => e = .returned (.string ⟨x.toArray⟩) ∧ Rd w' b l' E' ∧ But b w w' := by
  have C := Lib.hid (text_any b l E 65536 (by decide) (by decide) (w.alloc (.cells #[.pointer (some ⟨b, 0, none⟩)] 80)) (h.alloc _) x l' E' hn)
  have K := Lib.hid ((But.refl b w).alloc (.cells #[.pointer (some ⟨b, 0, none⟩)] 80))
  go_enter Tryz.func59, Tryz.ntmps59
  go_wp2_with fail
  refine C.out.mono ?_
  rintro e w1 ⟨rfl, r, k⟩
  replace K := Lib.hid (K.out.trans k)
  clear k
  go_wp2
  go_ret
  exact ⟨rfl, r, K.out⟩
set_option maxHeartbeats 1000000 in
theorem nat_any (b : Nat) (l : List UInt8) (E : Int) (w : World) (h : Rd w b l E) (x : Nat) (l' : List UInt8) (E' : Int) (hn : natS l E = (x, l', E')) :
    Calls Tryz.prog 70 #[.agg #[.pointer (some ⟨b, 0, none⟩)]] w fun e w' => e = .returned (.int .u64 (x : Nat)) ∧ Rd w' b l' E' ∧ But b w w' := by
  have C := Lib.hid (num_any b l E 18446744073709551615 (w.alloc (.cells #[.pointer (some ⟨b, 0, none⟩)] 80)) (h.alloc _) (x : Int) l' E' (nat_of (by decide) hn).1)
  have K := Lib.hid ((But.refl b w).alloc (.cells #[.pointer (some ⟨b, 0, none⟩)] 80))
  go_enter Tryz.func70, Tryz.ntmps70
  go_wp2_with fail
  refine C.out.mono ?_
  rintro e w1 ⟨rfl, r, k⟩
  replace K := Lib.hid (K.out.trans k)
  clear k
  go_wp2
  go_ret
  exact ⟨rfl, r, K.out⟩
set_option maxHeartbeats 1000000 in
theorem small_any (b : Nat) (l : List UInt8) (E : Int) (w : World) (h : Rd w b l E) (x : Nat) (l' : List UInt8) (E' : Int) (hn : smallS l E = (x, l', E')) :
    Calls Tryz.prog 68 #[.agg #[.pointer (some ⟨b, 0, none⟩)]] w fun e w' => e = .returned (.int .u8 (x : Nat)) ∧ Rd w' b l' E' ∧ But b w w' := by
  have C := Lib.hid (num_any b l E 255 (w.alloc (.cells #[.pointer (some ⟨b, 0, none⟩)] 80)) (h.alloc _) (x : Int) l' E' (nat_of (by decide) hn).1)
  have K := Lib.hid ((But.refl b w).alloc (.cells #[.pointer (some ⟨b, 0, none⟩)] 80))
  have w8 : IntKind.u8.wrap (x : Int) = (x : Int) := by have := (nat_of (by decide) hn).2; rw [IntKind.wrap_u8]; omega
  clear hn
  go_enter Tryz.func68, Tryz.ntmps68
  go_wp2_with fail
  refine C.out.mono ?_
  rintro e w1 ⟨rfl, r, k⟩
  replace K := Lib.hid (K.out.trans k)
  clear k
  go_wp2
  go_ret
  exact ⟨rfl, r, K.out⟩
def markS (l : List UInt8) (E : Int) : M × List UInt8 × Int := bindR (wordS l E) fun x0 l0 E0 => bindR (natS l0 E0) fun x1 l1 E1 => ((⟨x0, x1⟩ : M), l1, E1)
set_option maxRecDepth 100000 in
set_option maxHeartbeats 4000000 in
theorem mark_any (b : Nat) (l : List UInt8) (E : Int) (w : World) (h : Rd w b l E) (x : M) (l' : List UInt8) (E' : Int) (hn : markS l E = (x, l', E')) :
    Calls Tryz.prog 61 #[.agg #[.pointer (some ⟨b, 0, none⟩)]] w fun e w' => e = .returned (.agg #[.string ⟨x.p.toArray⟩, .int .u64 (x.n : Int)]) ∧ Rd w' b l' E' ∧ But b w w' := by
  have hlt := h.lt
  obtain ⟨x0, l0, E0, q0⟩ : ∃ x y z, wordS l E = (x, y, z) := ⟨_, _, _, rfl⟩
  obtain ⟨x1, l1, E1, q1⟩ : ∃ x y z, natS l0 E0 = (x, y, z) := ⟨_, _, _, rfl⟩
  simp only [markS, bindR, q0, q1, Prod.mk.injEq] at hn
  obtain ⟨rfl, rfl, rfl⟩ := hn
  replace q0 := Lib.hid q0
  replace q1 := Lib.hid q1
  go_enter Tryz.func61, Tryz.ntmps61
  go_upto_region 1 with (fail)
  obtain ⟨W, hW⟩ : ∃ v, v = (w.alloc (.cells #[.pointer (some ⟨b, 0, none⟩)] 80)).alloc (.cells #[.string ⟨#[]⟩, .int .u64 0] 54) := ⟨_, rfl⟩
  rw [← hW]
  have PB : Box W w.heap.size [.pointer (some ⟨b, 0, none⟩)] := by rw [hW]; exact (Box.new w [.pointer (some ⟨b, 0, none⟩)] 80 (by simp)).alloc _
  have SB : Box W (w.heap.size + 1) [.string ⟨#[]⟩, .int .u64 0] := by
    rw [hW]
    have q := Box.new (w.alloc (.cells #[.pointer (some ⟨b, 0, none⟩)] 80)) [.string ⟨#[]⟩, .int .u64 0] 54 (by simp)
    rw [World.size_alloc] at q
    exact q
  have R : Rd W b l E := by rw [hW]; exact (h.alloc _).alloc _
  have K : But b w W := by rw [hW]; exact ((But.refl b w).alloc _).alloc _
  obtain ⟨br, hbr⟩ : ∃ v, v = w.heap.size + 1 := ⟨_, rfl⟩
  rw [← hbr] at SB ⊢
  obtain ⟨bp, hbp⟩ : ∃ v, v = w.heap.size := ⟨_, rfl⟩
  rw [← hbp] at PB ⊢
  have n1 : bp ≠ b := by omega
  have n2 : br ≠ b := by omega
  have n3 : br ≠ bp := by omega
  have n4 : w.heap.size ≤ br := by omega
  have n5 : w.heap.size ≤ bp := by omega
  have N1 := Lib.hid n1
  have N2 := Lib.hid n2
  have N3 := Lib.hid n3
  have N4 := Lib.hid n4
  have N5 := Lib.hid n5
  have N6 : Hid (b < br + 1) := Lib.hid (by omega)
  have N7 : Hid (w.heap.size ≤ br + 1) := Lib.hid (by omega)
  replace PB := Lib.hid PB
  replace SB := Lib.hid SB
  replace R := Lib.hid R
  replace K := Lib.hid K
  clear hW hbp hbr n1 n2 n3 n4 n5 h hlt
  have p0 := PB.out.at 0 _ rfl
  go_wp2_with fail
  refine (word_any b _ _ _ R.out _ _ _ q0.out).mono ?_
  rintro e w1 ⟨rfl, R1, k1⟩
  replace PB := Lib.hid (PB.out.but k1 N1.out)
  replace SB := Lib.hid (SB.out.but k1 N2.out)
  replace K := Lib.hid (K.out.trans k1)
  replace R := Lib.hid R1
  clear k1 R1
  replace p0 := PB.out.at 0 _ rfl
  have c0 := SB.out.at 0 _ rfl
  have z0 := SB.out.2.2 0
  go_upto_region 2 with (fail)
  obtain ⟨w2, hw2⟩ : ∃ v, v = (w1.setCell ⟨br, 0, none⟩ (.string ⟨x0.toArray⟩)) := ⟨_, rfl⟩
  rw [← hw2]
  clear p0 c0 z0
  replace PB := Lib.hid (show Box w2 bp [.pointer (some ⟨b, 0, none⟩)] by rw [hw2]; exact (PB.out.put N3.out 0 _))
  replace SB := Lib.hid (show Box w2 br [.string ⟨x0.toArray⟩, .int .u64 0] by rw [hw2]; exact (SB.out.set 0 _ (by simp) rfl))
  replace R := Lib.hid (by rw [hw2]; exact (rd_put R.out N2.out 0 _) : Rd w2 b _ _)
  replace K := Lib.hid (show But b w w2 by rw [hw2]; exact (K.out.put ⟨br, 0, none⟩ N4.out _))
  clear hw2
  have p0 := PB.out.at 0 _ rfl
  go_wp2_with fail
  refine (nat_any b _ _ _ R.out _ _ _ q1.out).mono ?_
  rintro e w1 ⟨rfl, R1, k1⟩
  replace PB := Lib.hid (PB.out.but k1 N1.out)
  replace SB := Lib.hid (SB.out.but k1 N2.out)
  replace K := Lib.hid (K.out.trans k1)
  replace R := Lib.hid R1
  clear k1 R1
  replace p0 := PB.out.at 0 _ rfl
  have c1 := SB.out.at 1 _ rfl
  have z1 := SB.out.2.2 1
  go_upto_region 3 with (fail)
  obtain ⟨w2, hw2⟩ : ∃ v, v = (w1.setCell ⟨br, 1, none⟩ (.int .u64 (x1 : Nat))) := ⟨_, rfl⟩
  rw [← hw2]
  clear p0 c1 z1
  replace PB := Lib.hid (show Box w2 bp [.pointer (some ⟨b, 0, none⟩)] by rw [hw2]; exact (PB.out.put N3.out 1 _))
  replace SB := Lib.hid (show Box w2 br [.string ⟨x0.toArray⟩, .int .u64 (x1 : Nat)] by rw [hw2]; exact (SB.out.set 1 _ (by simp) rfl))
  replace R := Lib.hid (by rw [hw2]; exact (rd_put R.out N2.out 1 _) : Rd w2 b _ _)
  replace K := Lib.hid (show But b w w2 by rw [hw2]; exact (K.out.put ⟨br, 1, none⟩ N4.out _))
  clear hw2
  have c0 := SB.out.at 0 _ rfl
  have z0 := SB.out.2.2 0
  have c1 := SB.out.at 1 _ rfl
  have z1 := SB.out.2.2 1
  go_wp2
  refine bodyPost_ret (v := .agg #[.string ⟨x0.toArray⟩, .int .u64 (x1 : Nat)]) (by simp [results, Tryz.results61, go_sem, c0, c1]) rfl ?_
  exact ⟨rfl, (rd_put (rd_put R.out N2.out 0 _) N2.out 1 _), ((K.out.put ⟨br, 0, none⟩ N4.out _).put ⟨br, 1, none⟩ N4.out _)⟩
def dotS (l : List UInt8) (E : Int) : M × List UInt8 × Int := bindR (wordS l E) fun x0 l0 E0 => bindR (natS l0 E0) fun x1 l1 E1 => ((⟨x0, x1⟩ : M), l1, E1)
set_option maxRecDepth 100000 in
set_option maxHeartbeats 4000000 in
theorem dot_any (b : Nat) (l : List UInt8) (E : Int) (w : World) (h : Rd w b l E) (x : M) (l' : List UInt8) (E' : Int) (hn : dotS l E = (x, l', E')) :
    Calls Tryz.prog 93 #[.agg #[.pointer (some ⟨b, 0, none⟩)]] w fun e w' => e = .returned (.agg #[.string ⟨x.p.toArray⟩, .int .u64 (x.n : Int)]) ∧ Rd w' b l' E' ∧ But b w w' := by
  have hlt := h.lt
  obtain ⟨x0, l0, E0, q0⟩ : ∃ x y z, wordS l E = (x, y, z) := ⟨_, _, _, rfl⟩
  obtain ⟨x1, l1, E1, q1⟩ : ∃ x y z, natS l0 E0 = (x, y, z) := ⟨_, _, _, rfl⟩
  simp only [dotS, bindR, q0, q1, Prod.mk.injEq] at hn
  obtain ⟨rfl, rfl, rfl⟩ := hn
  replace q0 := Lib.hid q0
  replace q1 := Lib.hid q1
  go_enter Tryz.func93, Tryz.ntmps93
  go_upto_region 1 with (fail)
  obtain ⟨W, hW⟩ : ∃ v, v = (w.alloc (.cells #[.pointer (some ⟨b, 0, none⟩)] 80)).alloc (.cells #[.string ⟨#[]⟩, .int .u64 0] 96) := ⟨_, rfl⟩
  rw [← hW]
  have PB : Box W w.heap.size [.pointer (some ⟨b, 0, none⟩)] := by rw [hW]; exact (Box.new w [.pointer (some ⟨b, 0, none⟩)] 80 (by simp)).alloc _
  have SB : Box W (w.heap.size + 1) [.string ⟨#[]⟩, .int .u64 0] := by
    rw [hW]
    have q := Box.new (w.alloc (.cells #[.pointer (some ⟨b, 0, none⟩)] 80)) [.string ⟨#[]⟩, .int .u64 0] 96 (by simp)
    rw [World.size_alloc] at q
    exact q
  have R : Rd W b l E := by rw [hW]; exact (h.alloc _).alloc _
  have K : But b w W := by rw [hW]; exact ((But.refl b w).alloc _).alloc _
  obtain ⟨br, hbr⟩ : ∃ v, v = w.heap.size + 1 := ⟨_, rfl⟩
  rw [← hbr] at SB ⊢
  obtain ⟨bp, hbp⟩ : ∃ v, v = w.heap.size := ⟨_, rfl⟩
  rw [← hbp] at PB ⊢
  have n1 : bp ≠ b := by omega
  have n2 : br ≠ b := by omega
  have n3 : br ≠ bp := by omega
  have n4 : w.heap.size ≤ br := by omega
  have n5 : w.heap.size ≤ bp := by omega
  have N1 := Lib.hid n1
  have N2 := Lib.hid n2
  have N3 := Lib.hid n3
  have N4 := Lib.hid n4
  have N5 := Lib.hid n5
  have N6 : Hid (b < br + 1) := Lib.hid (by omega)
  have N7 : Hid (w.heap.size ≤ br + 1) := Lib.hid (by omega)
  replace PB := Lib.hid PB
  replace SB := Lib.hid SB
  replace R := Lib.hid R
  replace K := Lib.hid K
  clear hW hbp hbr n1 n2 n3 n4 n5 h hlt
  have p0 := PB.out.at 0 _ rfl
  go_wp2_with fail
  refine (word_any b _ _ _ R.out _ _ _ q0.out).mono ?_
  rintro e w1 ⟨rfl, R1, k1⟩
  replace PB := Lib.hid (PB.out.but k1 N1.out)
  replace SB := Lib.hid (SB.out.but k1 N2.out)
  replace K := Lib.hid (K.out.trans k1)
  replace R := Lib.hid R1
  clear k1 R1
  replace p0 := PB.out.at 0 _ rfl
  have c0 := SB.out.at 0 _ rfl
  have z0 := SB.out.2.2 0
  go_upto_region 2 with (fail)
  obtain ⟨w2, hw2⟩ : ∃ v, v = (w1.setCell ⟨br, 0, none⟩ (.string ⟨x0.toArray⟩)) := ⟨_, rfl⟩
  rw [← hw2]
  clear p0 c0 z0
  replace PB := Lib.hid (show Box w2 bp [.pointer (some ⟨b, 0, none⟩)] by rw [hw2]; exact (PB.out.put N3.out 0 _))
  replace SB := Lib.hid (show Box w2 br [.string ⟨x0.toArray⟩, .int .u64 0] by rw [hw2]; exact (SB.out.set 0 _ (by simp) rfl))
  replace R := Lib.hid (by rw [hw2]; exact (rd_put R.out N2.out 0 _) : Rd w2 b _ _)
  replace K := Lib.hid (show But b w w2 by rw [hw2]; exact (K.out.put ⟨br, 0, none⟩ N4.out _))
  clear hw2
  have p0 := PB.out.at 0 _ rfl
  go_wp2_with fail
  refine (nat_any b _ _ _ R.out _ _ _ q1.out).mono ?_
  rintro e w1 ⟨rfl, R1, k1⟩
  replace PB := Lib.hid (PB.out.but k1 N1.out)
  replace SB := Lib.hid (SB.out.but k1 N2.out)
  replace K := Lib.hid (K.out.trans k1)
  replace R := Lib.hid R1
  clear k1 R1
  replace p0 := PB.out.at 0 _ rfl
  have c1 := SB.out.at 1 _ rfl
  have z1 := SB.out.2.2 1
  go_upto_region 3 with (fail)
  obtain ⟨w2, hw2⟩ : ∃ v, v = (w1.setCell ⟨br, 1, none⟩ (.int .u64 (x1 : Nat))) := ⟨_, rfl⟩
  rw [← hw2]
  clear p0 c1 z1
  replace PB := Lib.hid (show Box w2 bp [.pointer (some ⟨b, 0, none⟩)] by rw [hw2]; exact (PB.out.put N3.out 1 _))
  replace SB := Lib.hid (show Box w2 br [.string ⟨x0.toArray⟩, .int .u64 (x1 : Nat)] by rw [hw2]; exact (SB.out.set 1 _ (by simp) rfl))
  replace R := Lib.hid (by rw [hw2]; exact (rd_put R.out N2.out 1 _) : Rd w2 b _ _)
  replace K := Lib.hid (show But b w w2 by rw [hw2]; exact (K.out.put ⟨br, 1, none⟩ N4.out _))
  clear hw2
  have c0 := SB.out.at 0 _ rfl
  have z0 := SB.out.2.2 0
  have c1 := SB.out.at 1 _ rfl
  have z1 := SB.out.2.2 1
  go_wp2
  refine bodyPost_ret (v := .agg #[.string ⟨x0.toArray⟩, .int .u64 (x1 : Nat)]) (by simp [results, Tryz.results93, go_sem, c0, c1]) rfl ?_
  exact ⟨rfl, (rd_put (rd_put R.out N2.out 0 _) N2.out 1 _), ((K.out.put ⟨br, 0, none⟩ N4.out _).put ⟨br, 1, none⟩ N4.out _)⟩
def countS (l : List UInt8) (E : Int) : C × List UInt8 × Int := bindR (wordS l E) fun x0 l0 E0 => bindR (natS l0 E0) fun x1 l1 E1 => bindR (natS l1 E1) fun x2 l2 E2 => ((⟨x0, x1, x2⟩ : C), l2, E2)
set_option maxRecDepth 100000 in
set_option maxHeartbeats 4000000 in
theorem count_any (b : Nat) (l : List UInt8) (E : Int) (w : World) (h : Rd w b l E) (x : C) (l' : List UInt8) (E' : Int) (hn : countS l E = (x, l', E')) :
    Calls Tryz.prog 63 #[.agg #[.pointer (some ⟨b, 0, none⟩)]] w fun e w' => e = .returned (.agg #[.string ⟨x.p.toArray⟩, .int .u64 (x.a : Int), .int .u64 (x.b : Int)]) ∧ Rd w' b l' E' ∧ But b w w' := by
  have hlt := h.lt
  obtain ⟨x0, l0, E0, q0⟩ : ∃ x y z, wordS l E = (x, y, z) := ⟨_, _, _, rfl⟩
  obtain ⟨x1, l1, E1, q1⟩ : ∃ x y z, natS l0 E0 = (x, y, z) := ⟨_, _, _, rfl⟩
  obtain ⟨x2, l2, E2, q2⟩ : ∃ x y z, natS l1 E1 = (x, y, z) := ⟨_, _, _, rfl⟩
  simp only [countS, bindR, q0, q1, q2, Prod.mk.injEq] at hn
  obtain ⟨rfl, rfl, rfl⟩ := hn
  replace q0 := Lib.hid q0
  replace q1 := Lib.hid q1
  replace q2 := Lib.hid q2
  go_enter Tryz.func63, Tryz.ntmps63
  go_upto_region 1 with (fail)
  obtain ⟨W, hW⟩ : ∃ v, v = (w.alloc (.cells #[.pointer (some ⟨b, 0, none⟩)] 80)).alloc (.cells #[.string ⟨#[]⟩, .int .u64 0, .int .u64 0] 56) := ⟨_, rfl⟩
  rw [← hW]
  have PB : Box W w.heap.size [.pointer (some ⟨b, 0, none⟩)] := by rw [hW]; exact (Box.new w [.pointer (some ⟨b, 0, none⟩)] 80 (by simp)).alloc _
  have SB : Box W (w.heap.size + 1) [.string ⟨#[]⟩, .int .u64 0, .int .u64 0] := by
    rw [hW]
    have q := Box.new (w.alloc (.cells #[.pointer (some ⟨b, 0, none⟩)] 80)) [.string ⟨#[]⟩, .int .u64 0, .int .u64 0] 56 (by simp)
    rw [World.size_alloc] at q
    exact q
  have R : Rd W b l E := by rw [hW]; exact (h.alloc _).alloc _
  have K : But b w W := by rw [hW]; exact ((But.refl b w).alloc _).alloc _
  obtain ⟨br, hbr⟩ : ∃ v, v = w.heap.size + 1 := ⟨_, rfl⟩
  rw [← hbr] at SB ⊢
  obtain ⟨bp, hbp⟩ : ∃ v, v = w.heap.size := ⟨_, rfl⟩
  rw [← hbp] at PB ⊢
  have n1 : bp ≠ b := by omega
  have n2 : br ≠ b := by omega
  have n3 : br ≠ bp := by omega
  have n4 : w.heap.size ≤ br := by omega
  have n5 : w.heap.size ≤ bp := by omega
  have N1 := Lib.hid n1
  have N2 := Lib.hid n2
  have N3 := Lib.hid n3
  have N4 := Lib.hid n4
  have N5 := Lib.hid n5
  have N6 : Hid (b < br + 1) := Lib.hid (by omega)
  have N7 : Hid (w.heap.size ≤ br + 1) := Lib.hid (by omega)
  replace PB := Lib.hid PB
  replace SB := Lib.hid SB
  replace R := Lib.hid R
  replace K := Lib.hid K
  clear hW hbp hbr n1 n2 n3 n4 n5 h hlt
  have p0 := PB.out.at 0 _ rfl
  go_wp2_with fail
  refine (word_any b _ _ _ R.out _ _ _ q0.out).mono ?_
  rintro e w1 ⟨rfl, R1, k1⟩
  replace PB := Lib.hid (PB.out.but k1 N1.out)
  replace SB := Lib.hid (SB.out.but k1 N2.out)
  replace K := Lib.hid (K.out.trans k1)
  replace R := Lib.hid R1
  clear k1 R1
  replace p0 := PB.out.at 0 _ rfl
  have c0 := SB.out.at 0 _ rfl
  have z0 := SB.out.2.2 0
  go_upto_region 2 with (fail)
  obtain ⟨w2, hw2⟩ : ∃ v, v = (w1.setCell ⟨br, 0, none⟩ (.string ⟨x0.toArray⟩)) := ⟨_, rfl⟩
  rw [← hw2]
  clear p0 c0 z0
  replace PB := Lib.hid (show Box w2 bp [.pointer (some ⟨b, 0, none⟩)] by rw [hw2]; exact (PB.out.put N3.out 0 _))
  replace SB := Lib.hid (show Box w2 br [.string ⟨x0.toArray⟩, .int .u64 0, .int .u64 0] by rw [hw2]; exact (SB.out.set 0 _ (by simp) rfl))
  replace R := Lib.hid (by rw [hw2]; exact (rd_put R.out N2.out 0 _) : Rd w2 b _ _)
  replace K := Lib.hid (show But b w w2 by rw [hw2]; exact (K.out.put ⟨br, 0, none⟩ N4.out _))
  clear hw2
  have p0 := PB.out.at 0 _ rfl
  go_wp2_with fail
  refine (nat_any b _ _ _ R.out _ _ _ q1.out).mono ?_
  rintro e w1 ⟨rfl, R1, k1⟩
  replace PB := Lib.hid (PB.out.but k1 N1.out)
  replace SB := Lib.hid (SB.out.but k1 N2.out)
  replace K := Lib.hid (K.out.trans k1)
  replace R := Lib.hid R1
  clear k1 R1
  replace p0 := PB.out.at 0 _ rfl
  have c1 := SB.out.at 1 _ rfl
  have z1 := SB.out.2.2 1
  go_upto_region 3 with (fail)
  obtain ⟨w2, hw2⟩ : ∃ v, v = (w1.setCell ⟨br, 1, none⟩ (.int .u64 (x1 : Nat))) := ⟨_, rfl⟩
  rw [← hw2]
  clear p0 c1 z1
  replace PB := Lib.hid (show Box w2 bp [.pointer (some ⟨b, 0, none⟩)] by rw [hw2]; exact (PB.out.put N3.out 1 _))
  replace SB := Lib.hid (show Box w2 br [.string ⟨x0.toArray⟩, .int .u64 (x1 : Nat), .int .u64 0] by rw [hw2]; exact (SB.out.set 1 _ (by simp) rfl))
  replace R := Lib.hid (by rw [hw2]; exact (rd_put R.out N2.out 1 _) : Rd w2 b _ _)
  replace K := Lib.hid (show But b w w2 by rw [hw2]; exact (K.out.put ⟨br, 1, none⟩ N4.out _))
  clear hw2
  have p0 := PB.out.at 0 _ rfl
  go_wp2_with fail
  refine (nat_any b _ _ _ R.out _ _ _ q2.out).mono ?_
  rintro e w1 ⟨rfl, R1, k1⟩
  replace PB := Lib.hid (PB.out.but k1 N1.out)
  replace SB := Lib.hid (SB.out.but k1 N2.out)
  replace K := Lib.hid (K.out.trans k1)
  replace R := Lib.hid R1
  clear k1 R1
  replace p0 := PB.out.at 0 _ rfl
  have c2 := SB.out.at 2 _ rfl
  have z2 := SB.out.2.2 2
  go_upto_region 4 with (fail)
  obtain ⟨w2, hw2⟩ : ∃ v, v = (w1.setCell ⟨br, 2, none⟩ (.int .u64 (x2 : Nat))) := ⟨_, rfl⟩
  rw [← hw2]
  clear p0 c2 z2
  replace PB := Lib.hid (show Box w2 bp [.pointer (some ⟨b, 0, none⟩)] by rw [hw2]; exact (PB.out.put N3.out 2 _))
  replace SB := Lib.hid (show Box w2 br [.string ⟨x0.toArray⟩, .int .u64 (x1 : Nat), .int .u64 (x2 : Nat)] by rw [hw2]; exact (SB.out.set 2 _ (by simp) rfl))
  replace R := Lib.hid (by rw [hw2]; exact (rd_put R.out N2.out 2 _) : Rd w2 b _ _)
  replace K := Lib.hid (show But b w w2 by rw [hw2]; exact (K.out.put ⟨br, 2, none⟩ N4.out _))
  clear hw2
  have c0 := SB.out.at 0 _ rfl
  have z0 := SB.out.2.2 0
  have c1 := SB.out.at 1 _ rfl
  have z1 := SB.out.2.2 1
  have c2 := SB.out.at 2 _ rfl
  have z2 := SB.out.2.2 2
  go_wp2
  refine bodyPost_ret (v := .agg #[.string ⟨x0.toArray⟩, .int .u64 (x1 : Nat), .int .u64 (x2 : Nat)]) (by simp [results, Tryz.results63, go_sem, c0, c1, c2]) rfl ?_
  exact ⟨rfl, (rd_put (rd_put (rd_put R.out N2.out 0 _) N2.out 1 _) N2.out 2 _), (((K.out.put ⟨br, 0, none⟩ N4.out _).put ⟨br, 1, none⟩ N4.out _).put ⟨br, 2, none⟩ N4.out _)⟩
end Taker
end Go.Proofs.YtnpjkmomllkhpaaGreat
