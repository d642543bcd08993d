/- coder: whole; ReadEntry, ReadOp. -/
import Derived.Test.YtnpjkmomllkhpaaGreatTmCoderRead
import Derived.Test.YtnpjkmomllkhpaaGreatTmCoderEMay
import Derived.Test.YtnpjkmomllkhpaaGreatTmCodB
namespace Go.Proofs.YtnpjkmomllkhpaaGreat
namespace Taker
open Go.RowKit Go.Proofs.YtnpjkmomllkhpaaGreat.Mark Go.Proofs.YtnpjkmomllkhpaaGreat.Num Go.Proofs.YtnpjkmomllkhpaaGreat.Wire Go.Proofs.YtnpjkmomllkhpaaGreat.Bag Go.Proofs.YtnpjkmomllkhpaaGreat.Coder
theorem loop_all {α : Type} {each : List UInt8 → Int → α × List UInt8 × Int} {P : α → Prop} (hP : ∀ l E x l' E', each l E = (x, l', E') → P x) : ∀ (n : Nat) (l : List UInt8) (E : Int), ∀ x ∈ (loopS each n l E).1, P x
  | 0, _, _, x, hx => by cases hx
  | n + 1, l, E, x, hx => by
    have e : loopS each (n + 1) l E = if E ≠ 0 then ([], l, E) else bindR (each l E) fun x l1 E1 => bindR (loopS each n l1 E1) fun xs l2 E2 => (x :: xs, l2, E2) := rfl
    rw [e] at hx
    split at hx
    · cases hx
    · unfold bindR at hx
      simp only at hx
      rcases List.mem_cons.1 hx with rfl | hx
      · exact hP _ _ _ _ _ rfl
      · exact loop_all hP n _ _ x hx
theorem many_all {α : Type} {each : List UInt8 → Int → α × List UInt8 × Int} {P : α → Prop} (hP : ∀ l E x l' E', each l E = (x, l', E') → P x) {l l' : List UInt8} {E E' : Int} {xs : List α} (h : manyS each l E = (xs, l', E')) : ∀ x ∈ xs, P x := by
  have e : xs = (manyS each l E).1 := by rw [h]
  rw [e]
  exact loop_all hP _ _ _
theorem loop_len {α : Type} {each : List UInt8 → Int → α × List UInt8 × Int} (h : Eats each) : ∀ (n : Nat) (l : List UInt8) (E : Int), (loopS each n l E).1.length ≤ l.length + 1
  | 0, _, _ => Nat.zero_le _
  | n + 1, l, E => by
    have e : loopS each (n + 1) l E = if E ≠ 0 then ([], l, E) else bindR (each l E) fun x l1 E1 => bindR (loopS each n l1 E1) fun xs l2 E2 => (x :: xs, l2, E2) := rfl
    rw [e]
    split
    · exact Nat.zero_le _
    · rename_i hE
      obtain rfl : E = 0 := by omega
      unfold bindR
      show (_ :: (loopS each n (each l 0).2.1 (each l 0).2.2).1).length ≤ _
      rw [List.length_cons]
      by_cases e1 : (each l 0).2.2 = 0
      · have h1 := h.less l e1
        have h2 := loop_len h n (each l 0).2.1 (each l 0).2.2
        omega
      · rw [loopS_err _ _ _ e1]
        show 0 + 1 ≤ _
        omega
theorem many_len {α : Type} {each : List UInt8 → Int → α × List UInt8 × Int} (h : Eats each) {l l' : List UInt8} {E E' : Int} {xs : List α} (e : manyS each l E = (xs, l', E')) : xs.length ≤ l.length + 1 := by
  have e1 : xs = (manyS each l E).1 := by rw [e]
  rw [e1]
  have h1 := loop_len h (natS l E).1 (natS l E).2.1 (natS l E).2.2
  have h2 := nat_eats.keeps.len (l := l) (E := E) (x := (natS l E).1) (l' := (natS l E).2.1) (E' := (natS l E).2.2) rfl
  show (loopS each (natS l E).1 (natS l E).2.1 (natS l E).2.2).1.length ≤ _
  omega
theorem nat_le {l l' : List UInt8} {E E' : Int} {n : Nat} (h : natS l E = (n, l', E')) : n ≤ 18446744073709551615 := by
  have := (nat_of (by decide) h).2
  omega
theorem small_le {l l' : List UInt8} {E E' : Int} {n : Nat} (h : smallS l E = (n, l', E')) : n ≤ 255 := by
  have := (nat_of (by decide) h).2
  omega
/-- Of a size. -/
def FitM (m : M) : Prop := m.p.length ≤ 65536 ∧ m.n ≤ 18446744073709551615
def FitC (c : C) : Prop := c.p.length ≤ 65536 ∧ c.a ≤ 18446744073709551615 ∧ c.b ≤ 18446744073709551615
def FitI (x : It) : Prop := x.t.length ≤ 65536 ∧ x.d.length ≤ 65537 ∧ ∀ m ∈ x.d, FitM m
structure FitE (y : Coder.E) : Prop where
  k : y.k.length ≤ 65536
  s : y.s.length ≤ 65537 ∧ ∀ m ∈ y.s, FitM m
  c : y.c.length ≤ 65537 ∧ ∀ m ∈ y.c, FitC m
  i : y.i.length ≤ 65537 ∧ ∀ m ∈ y.i, FitI m
  l : y.l.t.length ≤ 65536 ∧ y.l.s ≤ 18446744073709551615
theorem mark_fit {l l' : List UInt8} {E E' : Int} {m : M} (h : markS l E = (m, l', E')) : FitM m := by
  obtain ⟨x0, l0, E0, q0⟩ : ∃ x y z, wordS l E = (x, y, z) := ⟨_, _, _, rfl⟩
  obtain ⟨x1, l1, E1, q1⟩ : ∃ x y z, natS l0 E0 = (x, y, z) := ⟨_, _, _, rfl⟩
  simp only [markS, bindR, q0, q1, Prod.mk.injEq] at h
  rw [← h.1]
  exact ⟨word_len q0, nat_le q1⟩
theorem dot_fit {l l' : List UInt8} {E E' : Int} {m : M} (h : dotS l E = (m, l', E')) : FitM m := by
  obtain ⟨x0, l0, E0, q0⟩ : ∃ x y z, wordS l E = (x, y, z) := ⟨_, _, _, rfl⟩
  obtain ⟨x1, l1, E1, q1⟩ : ∃ x y z, natS l0 E0 = (x, y, z) := ⟨_, _, _, rfl⟩
  simp only [dotS, bindR, q0, q1, Prod.mk.injEq] at h
  rw [← h.1]
  exact ⟨word_len q0, nat_le q1⟩
theorem count_fit {l l' : List UInt8} {E E' : Int} {m : C} (h : countS l E = (m, l', E')) : FitC m := by
  obtain ⟨x0, l0, E0, q0⟩ : ∃ x y z, wordS l E = (x, y, z) := ⟨_, _, _, rfl⟩
  obtain ⟨x1, l1, E1, q1⟩ : ∃ x y z, natS l0 E0 = (x, y, z) := ⟨_, _, _, rfl⟩
  obtain ⟨x2, l2, E2, q2⟩ : ∃ x y z, natS l1 E1 = (x, y, z) := ⟨_, _, _, rfl⟩
  simp only [countS, bindR, q0, q1, q2, Prod.mk.injEq] at h
  rw [← h.1]
  exact ⟨word_len q0, nat_le q1, nat_le q2⟩
theorem item_fit {l l' : List UInt8} {E E' : Int} {m : It} (hz : l.length ≤ 65536) (h : itemS l E = (m, l', E')) : FitI m := by
  obtain ⟨x0, l0, E0, q0⟩ : ∃ x y z, wordS l E = (x, y, z) := ⟨_, _, _, rfl⟩
  obtain ⟨x1, l1, E1, q1⟩ : ∃ x y z, manyS dotS l0 E0 = (x, y, z) := ⟨_, _, _, rfl⟩
  simp only [itemS, bindR, q0, q1, Prod.mk.injEq] at h
  rw [← h.1]
  have h1 := word_eats.keeps.len q0
  have h2 := many_len dot_eats q1
  exact ⟨word_len q0, by show x1.length ≤ _; omega, many_all (P := FitM) (fun _ _ _ _ _ e => dot_fit e) q1⟩
theorem loop_fit {each : List UInt8 → Int → It × List UInt8 × Int} (h : Eats each) (hP : ∀ l E x l' E', l.length ≤ 65536 → each l E = (x, l', E') → FitI x) : ∀ (n : Nat) (l : List UInt8) (E : Int), l.length ≤ 65536 → ∀ x ∈ (loopS each n l E).1, FitI x
  | 0, _, _, _, x, hx => by cases hx
  | n + 1, l, E, hl, x, hx => by
    have e : loopS each (n + 1) l E = if E ≠ 0 then ([], l, E) else bindR (each l E) fun x l1 E1 => bindR (loopS each n l1 E1) fun xs l2 E2 => (x :: xs, l2, E2) := rfl
    rw [e] at hx
    split at hx
    · cases hx
    · unfold bindR at hx
      simp only at hx
      rcases List.mem_cons.1 hx with rfl | hx
      · exact hP _ _ _ _ _ hl rfl
      · refine loop_fit h hP n _ _ ?_ x hx
        exact Nat.le_trans (h.keeps.len (l := l) (E := E) (x := (each l E).1) (l' := (each l E).2.1) (E' := (each l E).2.2) rfl) hl
theorem entry_fit {l l' : List UInt8} {E E' : Int} {y : Coder.E} (hz : l.length ≤ 65536) (h : entryS l E = (y, l', E')) : FitE y := by
  obtain ⟨x0, l0, E0, q0⟩ : ∃ x y z, wordS l E = (x, y, z) := ⟨_, _, _, rfl⟩
  obtain ⟨x1, l1, E1, q1⟩ : ∃ x y z, manyS markS l0 E0 = (x, y, z) := ⟨_, _, _, rfl⟩
  simp only [entryS, bindR, q0, q1] at h
  have h0 := word_len q0
  have h1 := word_eats.keeps.len q0
  have h2 := many_len mark_eats q1
  have h3 := (many_eats mark_eats).keeps.len q1
  have hs : x1.length ≤ 65537 ∧ ∀ m ∈ x1, FitM m := ⟨by omega, many_all (P := FitM) (fun _ _ _ _ _ e => mark_fit e) q1⟩
  have nc : ([] : List C).length ≤ 65537 ∧ ∀ m ∈ ([] : List C), FitC m := ⟨by decide, fun m hm => by cases hm⟩
  have ni : ([] : List It).length ≤ 65537 ∧ ∀ m ∈ ([] : List It), FitI m := ⟨by decide, fun m hm => by cases hm⟩
  have nl : Cl.zero.t.length ≤ 65536 ∧ Cl.zero.s ≤ 18446744073709551615 := ⟨by decide, by decide⟩
  by_cases k1 : kd x0 = 1
  · obtain ⟨x2, l2, E2, q2⟩ : ∃ x y z, manyS countS l1 E1 = (x, y, z) := ⟨_, _, _, rfl⟩
    simp only [if_pos k1, q2, Prod.mk.injEq] at h
    have h4 := many_len count_eats q2
    rw [← h.1]
    exact ⟨h0, hs, ⟨by show x2.length ≤ _; omega, many_all (P := FitC) (fun _ _ _ _ _ e => count_fit e) q2⟩, ni, nl⟩
  by_cases k2 : kd x0 = 2
  · obtain ⟨x2, l2, E2, q2⟩ : ∃ x y z, manyS itemS l1 E1 = (x, y, z) := ⟨_, _, _, rfl⟩
    simp only [if_neg k1, if_pos k2, q2, Prod.mk.injEq] at h
    have h4 := many_len item_eats q2
    rw [← h.1]
    refine ⟨h0, hs, nc, ⟨by show x2.length ≤ _; omega, ?_⟩, nl⟩
    have e : x2 = (loopS itemS (natS l1 E1).1 (natS l1 E1).2.1 (natS l1 E1).2.2).1 := by show x2 = (manyS itemS l1 E1).1; rw [q2]
    show ∀ m ∈ x2, FitI m
    rw [e]
    refine loop_fit item_eats (fun _ _ _ _ _ hl e => item_fit hl e) _ _ _ ?_
    have := nat_eats.keeps.len (l := l1) (E := E1) (x := (natS l1 E1).1) (l' := (natS l1 E1).2.1) (E' := (natS l1 E1).2.2) rfl
    omega
  by_cases k3 : kd x0 = 3
  · obtain ⟨x2, l2, E2, q2⟩ : ∃ x y z, cellS l1 E1 = (x, y, z) := ⟨_, _, _, rfl⟩
    simp only [if_neg k1, if_neg k2, if_pos k3, q2, Prod.mk.injEq] at h
    rw [← h.1]
    refine ⟨h0, hs, nc, ni, ?_⟩
    obtain ⟨y0, m0, F0, p0⟩ : ∃ x y z, natS l1 E1 = (x, y, z) := ⟨_, _, _, rfl⟩
    obtain ⟨y1, m1, F1, p1⟩ : ∃ x y z, wordS m0 F0 = (x, y, z) := ⟨_, _, _, rfl⟩
    simp only [cellS, bindR, p0, p1, Prod.mk.injEq] at q2
    show x2.t.length ≤ _ ∧ x2.s ≤ _
    rw [← q2.1]
    exact ⟨word_len p1, nat_le p0⟩
  · simp only [if_neg k1, if_neg k2, if_neg k3, Prod.mk.injEq] at h
    rw [← h.1]
    exact ⟨h0, hs, nc, ni, nl⟩
theorem mk_len {m : M} (h : FitM m) : (mk m).length ≤ 65556 := by
  unfold mk
  rw [List.length_append]
  have h1 := tx_len m.p
  have h2 := up_len m.n
  have h3 := h.1
  omega
theorem flat_len {α : Type} (f : α → List UInt8) (N : Nat) : ∀ (L : List α), (∀ x ∈ L, (f x).length ≤ N) → (L.flatMap f).length ≤ L.length * N
  | [], _ => by simp
  | x :: L, h => by
    rw [List.flatMap_cons, List.length_append, List.length_cons, Nat.add_mul]
    have h1 := h x (List.mem_cons_self ..)
    have h2 := flat_len f N L fun y hy => h y (List.mem_cons_of_mem _ hy)
    omega
theorem lst_len {α : Type} (f : α → List UInt8) (N : Nat) (L : List α) (h : ∀ x ∈ L, (f x).length ≤ N) : (lst f L).length ≤ 10 + L.length * N := by
  unfold lst
  rw [List.length_append]
  have h1 := up_len L.length
  have h2 := flat_len f N L h
  omega
theorem itb_len {x : It} (h : FitI x) : (itb x).length ≤ 70368744177664 := by
  unfold itb
  rw [List.length_append]
  have h1 := tx_len x.t
  have h2 := lst_len mk 65556 x.d fun m hm => mk_len (h.2.2 m hm)
  have h3 := h.1
  have h4 : x.d.length * 65556 ≤ 65537 * 65556 := Nat.mul_le_mul_right _ h.2.1
  omega
theorem FitE.ok {x : RE} (h : FitE x.e) : x.Ok where
  k := by have := h.k; show x.k.length ≤ _; have e : x.e.k = x.k := rfl; rw [e] at this; omega
  s := by have := h.s.1; have e : x.e.s = x.s := rfl; rw [e] at this; omega
  sm m hm := by have := h.s.2 m hm; exact ⟨by have := this.1; omega, this.2⟩
  c := by have := h.c.1; have e : x.e.c = x.c := rfl; rw [e] at this; omega
  cm m hm := by have := h.c.2 m hm; exact ⟨by have := this.1; omega, this.2.1, this.2.2⟩
  j := by have := h.i.1; have e : x.e.i.length = x.j.length := List.length_map ..; rw [e] at this; omega
  jm y hy := by
    have := h.i.2 y.it (List.mem_map.2 ⟨y, hy, rfl⟩)
    have hl := itb_len this
    obtain ⟨h1, h2, h3⟩ := this
    have e1 : y.it.t = y.t := rfl
    have e2 : y.it.d = y.d := rfl
    rw [e1] at h1
    rw [e2] at h2 h3
    exact ⟨by omega, by omega, fun m hm => ⟨by have := (h3 m hm).1; omega, (h3 m hm).2⟩, hl⟩
  t := by have := h.l.1; have e : x.e.l = x.l := rfl; rw [e] at this; omega
  g := h.l.2
theorem pls_len (L : List It) (N : Nat) (h : ∀ x ∈ L, x.d.length ≤ N) : (pls L).length ≤ L.length * N := by
  unfold pls
  induction L with
  | nil => simp
  | cons x L ih =>
    rw [List.flatMap_cons, List.length_append, onT_len, List.length_cons, Nat.add_mul]
    have h1 := h x (List.mem_cons_self ..)
    have h2 := ih fun y hy => h y (List.mem_cons_of_mem _ hy)
    omega
theorem FitE.fine {y : Coder.E} (h : FitE y) : Bag.Fine y.i where
  items := by have := h.i.1; omega
  few := by
    have h1 := pls_len y.i 65537 fun x hx => (h.i.2 x hx).2.1
    have h2 : y.i.length * 65537 ≤ 65537 * 65537 := Nat.mul_le_mul_right _ h.i.1
    omega
  fine p hp := by
    obtain ⟨x, hx, e, hm⟩ := (mem_pls y.i p.t p.m).1 hp
    obtain ⟨h1, h2, h3⟩ := h.i.2 x hx
    have h4 := h3 p.m hm
    have : 65536 ≤ maxLen := by decide
    exact ⟨by rw [← e]; omega, by have := h4.1; omega, h4.2⟩
/-- Nothing. -/
def RE.zero : RE := ⟨[], none, 0, [], none, 0, [], none, 0, [], Cl.zero⟩
theorem own_zero (w : World) (B : Nat) : OwnE w B RE.zero := ⟨OwnM.nil _ _, OwnC.nil _ _, OwnI.nil _ _⟩
def errS (b : Bool) : Int := if b = true then 0 else 8
def pickS {α : Type} (b : Bool) (y z : α) : α := if b = true then y else z
theorem ok_zero : RE.zero.Ok := FitE.ok (x := RE.zero) ⟨by decide, ⟨by decide, fun m hm => by cases hm⟩, ⟨by decide, fun m hm => by cases hm⟩, ⟨by decide, fun m hm => by cases hm⟩, ⟨by decide, by decide⟩⟩
/-- What is read, if it may be. -/
def okS (l : List UInt8) (E : Int) (m : Bool) : Bool := decide (endS l E = 0) && m
set_option maxRecDepth 100000 in
set_option maxHeartbeats 8000000 in
theorem whole_entry (s : List UInt8) (w : World) (hz : s.length ≤ 65536) (y : Coder.E) (l' : List UInt8) (E' : Int) (hn : entryS s 0 = (y, l', E')) :
    Calls Tryz.prog 30 #[.string ⟨s.toArray⟩, .func (.func 31) #[] #[], .func (.func 19) #[] #[]] w fun e w' => ∃ x : RE, e = .returned (.tuple #[.agg #[.string ⟨x.k.toArray⟩, .slice x.sa x.s.length x.sc, .slice x.ca x.c.length x.cc, .slice x.ia x.j.length x.ic, .int .u64 (x.l.s : Int), .string ⟨x.l.t.toArray⟩, .bool x.l.g], .int .i64 (errS (okS l' E' (mayE y)))]) ∧ x.e = pickS (okS l' E' (mayE y)) y RE.zero.e ∧ OwnE w' w.heap.size x ∧ x.Ok ∧ Below w.heap.size w w' := by
  have hl : s.length ≤ maxLen := by have : 65536 ≤ maxLen := by decide
                                    omega
  have HFY := Lib.hid (entry_fit hz hn)
  obtain ⟨ok, hok⟩ : ∃ z, z = okS l' E' (mayE y) := ⟨_, rfl⟩
  rw [← hok]
  replace hok := Lib.hid hok
  have HN := Lib.hid hn
  clear hn
  go_enter Tryz.func30, Tryz.ntmps30
  go_upto_region 2 with (fail)
  obtain ⟨W, hW⟩ : ∃ v, v = (w.alloc (.cells #[.string ⟨#[]⟩, .slice none 0 0, .slice none 0 0, .slice none 0 0, .int .u64 0, .string ⟨#[]⟩, .bool false] 29)).alloc (.cells #[.string ⟨#[]⟩, .slice none 0 0, .slice none 0 0, .slice none 0 0, .int .u64 0, .string ⟨#[]⟩, .bool false] 29) := ⟨_, rfl⟩
  rw [← hW]
  have B8 : Box W (w.heap.size + 1) [.string ⟨#[]⟩, .slice none 0 0, .slice none 0 0, .slice none 0 0, .int .u64 0, .string ⟨#[]⟩, .bool false] := by
    rw [hW]
    have q := Box.new (w.alloc (.cells #[.string ⟨#[]⟩, .slice none 0 0, .slice none 0 0, .slice none 0 0, .int .u64 0, .string ⟨#[]⟩, .bool false] 29)) [.string ⟨#[]⟩, .slice none 0 0, .slice none 0 0, .slice none 0 0, .int .u64 0, .string ⟨#[]⟩, .bool false] 29 (by simp)
    rw [World.size_alloc] at q
    exact q
  have B6 : Box W w.heap.size [.string ⟨#[]⟩, .slice none 0 0, .slice none 0 0, .slice none 0 0, .int .u64 0, .string ⟨#[]⟩, .bool false] := by rw [hW]; exact (Box.new w [.string ⟨#[]⟩, .slice none 0 0, .slice none 0 0, .slice none 0 0, .int .u64 0, .string ⟨#[]⟩, .bool false] 29 (by simp)).alloc _
  have hb : Below w.heap.size w W := by rw [hW]; exact balloc (balloc (Below.refl _ _) _) _
  have hs : W.heap.size = w.heap.size + 2 := by rw [hW]; simp
  obtain ⟨r8, h8⟩ : ∃ v, v = w.heap.size + 1 := ⟨_, rfl⟩
  rw [← h8] at B8 ⊢
  obtain ⟨r6, h6⟩ : ∃ v, v = w.heap.size := ⟨_, rfl⟩
  rw [← h6] at B6 ⊢
  replace hs := Lib.hid hs
  replace h8 := Lib.hid h8
  replace h6 := Lib.hid h6
  clear hW
  replace B8 := Lib.hid B8
  replace B6 := Lib.hid B6
  go_wp2_with fail
  refine (new_any s W hl).mono ?_
  rintro e w1 ⟨rfl, R, k1⟩
  obtain ⟨b, hbb⟩ : ∃ v, v = W.heap.size := ⟨_, rfl⟩
  rw [← hbb] at R k1 ⊢
  have hb1 := R.lt
  replace B8 := Lib.hid (B8.out.below (by rw [← hbb]; exact k1))
  replace B6 := Lib.hid (B6.out.below (by rw [← hbb]; exact k1))
  replace hb : Below w.heap.size w w1 := bstep hb (by rw [← hbb]; exact k1)
  replace hbb := Lib.hid hbb
  replace hb1 := Lib.hid hb1
  clear k1
  go_upto_region 3 with (fail)
  obtain ⟨w2, hw2⟩ : ∃ v, v = w1.alloc (.cells #[.pointer (some ⟨b, 0, none⟩)] 80) := ⟨_, rfl⟩
  rw [← hw2]
  have B9 : Box w2 w1.heap.size [.pointer (some ⟨b, 0, none⟩)] := by rw [hw2]; exact Box.new w1 [.pointer (some ⟨b, 0, none⟩)] 80 (by simp)
  obtain ⟨r9, h9⟩ : ∃ v, v = w1.heap.size := ⟨_, rfl⟩
  rw [← h9] at B9 ⊢
  have s2 : w2.heap.size = r9 + 1 := by rw [hw2, h9]; simp
  replace R : Rd w2 b s 0 := by rw [hw2]; exact R.alloc _
  replace B8 := Lib.hid (show Box w2 r8 _ by rw [hw2]; exact B8.out.alloc _)
  replace B6 := Lib.hid (show Box w2 r6 _ by rw [hw2]; exact B6.out.alloc _)
  replace hb : Below w.heap.size w w2 := by rw [hw2]; exact balloc hb _
  have n1 : r6 ≠ b ∧ r8 ≠ b ∧ r9 ≠ b ∧ b < r9 ∧ r6 < r9 ∧ w.heap.size ≤ b ∧ w.heap.size ≤ r6 ∧ w.heap.size ≤ w2.heap.size ∧ r8 ≠ r6 ∧ r6 < w2.heap.size ∧ b < w2.heap.size := by have := hs.out; have := h8.out; have := h6.out; have := hbb.out; have := hb1.out; omega
  have NN := Lib.hid n1
  clear n1 hbb h6 h8 h9 hs hb1 hw2
  have p0 := B9.at 0 _ rfl
  go_wp2_with fail
  refine (entry_any b _ _ _ R (by omega) _ _ _ HN.out).mono ?_
  rintro e w3 ⟨x, rfl, hx, ox, R1, k1⟩
  replace B8 := Lib.hid (B8.out.but k1 NN.out.2.1)
  replace B6 := Lib.hid (B6.out.but k1 NN.out.1)
  replace B9 := B9.but k1 NN.out.2.2.1
  replace hb := But.below hb k1 NN.out.2.2.2.2.2.1 NN.out.2.2.2.2.2.2.2.1
  have s3 := k1.size
  clear p0 k1
  have FX : Hid (FitE x.e) := Lib.hid (by rw [hx]; exact HFY.out)
  have HX := Lib.hid hx
  clear hx R
  go_upto_region 4 with (fail)
  obtain ⟨w4, hw4⟩ : ∃ v, v = w3.alloc (.cells #[.string ⟨x.k.toArray⟩, .slice x.sa x.s.length x.sc, .slice x.ca x.c.length x.cc, .slice x.ia x.j.length x.ic, .int .u64 (x.l.s : Int), .string ⟨x.l.t.toArray⟩, .bool x.l.g] 29) := ⟨_, rfl⟩
  rw [← hw4]
  have BX : Box w4 w3.heap.size [.string ⟨x.k.toArray⟩, .slice x.sa x.s.length x.sc, .slice x.ca x.c.length x.cc, .slice x.ia x.j.length x.ic, .int .u64 (x.l.s : Int), .string ⟨x.l.t.toArray⟩, .bool x.l.g] := by rw [hw4]; exact Box.new w3 [.string ⟨x.k.toArray⟩, .slice x.sa x.s.length x.sc, .slice x.ca x.c.length x.cc, .slice x.ia x.j.length x.ic, .int .u64 (x.l.s : Int), .string ⟨x.l.t.toArray⟩, .bool x.l.g] 29 (by simp)
  obtain ⟨rx, hrx⟩ : ∃ v, v = w3.heap.size := ⟨_, rfl⟩
  rw [← hrx] at BX ⊢
  have R := (by rw [hw4]; exact R1.alloc _ : Rd w4 b _ _)
  replace B8 := Lib.hid (show Box w4 r8 _ by rw [hw4]; exact B8.out.alloc _)
  replace B6 := Lib.hid (show Box w4 r6 _ by rw [hw4]; exact B6.out.alloc _)
  replace B9 := (show Box w4 r9 _ by rw [hw4]; exact B9.alloc _)
  replace hb : Below w.heap.size w w4 := by rw [hw4]; exact balloc hb _
  replace ox : OwnE w4 w2.heap.size x := by rw [hw4]; exact ox.but ((But.refl b w3).alloc _) NN.out.2.2.2.2.2.2.2.2.2.2
  have N2 : Hid (rx ≠ b ∧ w.heap.size ≤ w4.heap.size) := Lib.hid (by have := NN.out; have : w4.heap.size = w3.heap.size + 1 := (by rw [hw4]; simp); omega)
  clear hrx hw4 R1 s3 s2
  have p0 := B9.at 0 _ rfl
  obtain ⟨E2, hE2⟩ : ∃ z, endS l' E' = z := ⟨_, rfl⟩
  have HE2 := Lib.hid hE2
  clear hE2
  go_wp2_with fail
  refine (end_any b _ _ _ R _ HE2.out).mono ?_
  rintro e w5 ⟨rfl, R1, k1⟩
  clear p0
  replace B8 := Lib.hid (B8.out.but k1 NN.out.2.1)
  replace B6 := Lib.hid (B6.out.but k1 NN.out.1)
  replace BX := Lib.hid (BX.but k1 N2.out.1)
  replace hb := But.below hb k1 NN.out.2.2.2.2.2.1 N2.out.2
  replace ox := Lib.hid (ox.but k1 NN.out.2.2.2.2.2.2.2.2.2.2)
  clear k1 R1 B9 R
  by_cases hE : E2 = 0
  rotate_left
  · have d1 : (E2 == 0) = false := by rw [beq_eq_false_iff_ne]; exact hE
    have d2 : (E2 != 0) = true := by rw [bne_iff_ne]; exact hE
    have HO : Hid (ok = false) := Lib.hid (by rw [hok.out]; unfold okS; rw [HE2.out, decide_eq_false hE]; rfl)
    have c0 := B8.out.at 0 _ rfl
    have z0 := B6.out.2.2 0
    have y0 := B6.out.at 0 _ rfl
    have c1 := B8.out.at 1 _ rfl
    have z1 := B6.out.2.2 1
    have y1 := B6.out.at 1 _ rfl
    have c2 := B8.out.at 2 _ rfl
    have z2 := B6.out.2.2 2
    have y2 := B6.out.at 2 _ rfl
    have c3 := B8.out.at 3 _ rfl
    have z3 := B6.out.2.2 3
    have y3 := B6.out.at 3 _ rfl
    have c4 := B8.out.at 4 _ rfl
    have z4 := B6.out.2.2 4
    have y4 := B6.out.at 4 _ rfl
    have c5 := B8.out.at 5 _ rfl
    have z5 := B6.out.2.2 5
    have y5 := B6.out.at 5 _ rfl
    have c6 := B8.out.at 6 _ rfl
    have z6 := B6.out.2.2 6
    have y6 := B6.out.at 6 _ rfl
    go_wp2
    refine bodyPost_ret (v := .tuple #[.agg #[.string ⟨#[]⟩, .slice none 0 0, .slice none 0 0, .slice none 0 0, .int .u64 0, .string ⟨#[]⟩, .bool false], .int .i64 8]) (by simp [results, Tryz.results30, go_sem, y0, y1, y2, y3, y4, y5, y6]) rfl ?_
    rw [HO.out]
    exact ⟨RE.zero, rfl, rfl, own_zero _ _, ok_zero, (bset (bset (bset (bset (bset (bset (bset hb NN.out.2.2.2.2.2.2.1 _) NN.out.2.2.2.2.2.2.1 _) NN.out.2.2.2.2.2.2.1 _) NN.out.2.2.2.2.2.2.1 _) NN.out.2.2.2.2.2.2.1 _) NN.out.2.2.2.2.2.2.1 _) NN.out.2.2.2.2.2.2.1 _)⟩
  subst hE
  obtain ⟨q, hq⟩ : ∃ q, q = mayE y := ⟨_, rfl⟩
  have HQ := Lib.hid hq
  clear hq
  have x0 := BX.out.at 0 _ rfl
  have x1 := BX.out.at 1 _ rfl
  have x2 := BX.out.at 2 _ rfl
  have x3 := BX.out.at 3 _ rfl
  have x4 := BX.out.at 4 _ rfl
  have x5 := BX.out.at 5 _ rfl
  have x6 := BX.out.at 6 _ rfl
  go_wp2_with fail
  refine (mayE_any x _ ox.out.inner FX.out.ok FX.out.fine).mono ?_
  rintro e w6 ⟨rfl, k1⟩
  rw [HX.out, ← HQ.out]
  clear x0 x1 x2 x3 x4 x5 x6
  replace B8 := Lib.hid (B8.out.below k1)
  replace B6 := Lib.hid (B6.out.below k1)
  replace BX := Lib.hid (BX.out.below k1)
  replace hb := bstep hb k1
  replace ox := Lib.hid (ox.out.but (But.of k1) NN.out.2.2.2.2.2.2.2.2.2.2)
  clear k1
  cases q
  · skip
    have HO : Hid (ok = false) := Lib.hid (by rw [hok.out]; unfold okS; rw [← HQ.out, Bool.and_false])
    have c0 := B8.out.at 0 _ rfl
    have z0 := B6.out.2.2 0
    have y0 := B6.out.at 0 _ rfl
    have c1 := B8.out.at 1 _ rfl
    have z1 := B6.out.2.2 1
    have y1 := B6.out.at 1 _ rfl
    have c2 := B8.out.at 2 _ rfl
    have z2 := B6.out.2.2 2
    have y2 := B6.out.at 2 _ rfl
    have c3 := B8.out.at 3 _ rfl
    have z3 := B6.out.2.2 3
    have y3 := B6.out.at 3 _ rfl
    have c4 := B8.out.at 4 _ rfl
    have z4 := B6.out.2.2 4
    have y4 := B6.out.at 4 _ rfl
    have c5 := B8.out.at 5 _ rfl
    have z5 := B6.out.2.2 5
    have y5 := B6.out.at 5 _ rfl
    have c6 := B8.out.at 6 _ rfl
    have z6 := B6.out.2.2 6
    have y6 := B6.out.at 6 _ rfl
    go_wp2
    refine bodyPost_ret (v := .tuple #[.agg #[.string ⟨#[]⟩, .slice none 0 0, .slice none 0 0, .slice none 0 0, .int .u64 0, .string ⟨#[]⟩, .bool false], .int .i64 8]) (by simp [results, Tryz.results30, go_sem, y0, y1, y2, y3, y4, y5, y6]) rfl ?_
    rw [HO.out]
    exact ⟨RE.zero, rfl, rfl, own_zero _ _, ok_zero, (bset (bset (bset (bset (bset (bset (bset hb NN.out.2.2.2.2.2.2.1 _) NN.out.2.2.2.2.2.2.1 _) NN.out.2.2.2.2.2.2.1 _) NN.out.2.2.2.2.2.2.1 _) NN.out.2.2.2.2.2.2.1 _) NN.out.2.2.2.2.2.2.1 _) NN.out.2.2.2.2.2.2.1 _)⟩
  have HO : Hid (ok = true) := Lib.hid (by rw [hok.out]; unfold okS; rw [HE2.out, ← HQ.out]; rfl)
  have c0 := BX.out.at 0 _ rfl
  have z0 := B6.out.2.2 0
  have y0 := B6.out.at 0 _ rfl
  have c1 := BX.out.at 1 _ rfl
  have z1 := B6.out.2.2 1
  have y1 := B6.out.at 1 _ rfl
  have c2 := BX.out.at 2 _ rfl
  have z2 := B6.out.2.2 2
  have y2 := B6.out.at 2 _ rfl
  have c3 := BX.out.at 3 _ rfl
  have z3 := B6.out.2.2 3
  have y3 := B6.out.at 3 _ rfl
  have c4 := BX.out.at 4 _ rfl
  have z4 := B6.out.2.2 4
  have y4 := B6.out.at 4 _ rfl
  have c5 := BX.out.at 5 _ rfl
  have z5 := B6.out.2.2 5
  have y5 := B6.out.at 5 _ rfl
  have c6 := BX.out.at 6 _ rfl
  have z6 := B6.out.2.2 6
  have y6 := B6.out.at 6 _ rfl
  go_wp2
  refine bodyPost_ret (v := .tuple #[.agg #[.string ⟨x.k.toArray⟩, .slice x.sa x.s.length x.sc, .slice x.ca x.c.length x.cc, .slice x.ia x.j.length x.ic, .int .u64 (x.l.s : Int), .string ⟨x.l.t.toArray⟩, .bool x.l.g], .int .i64 0]) (by simp [results, Tryz.results30, go_sem, y0, y1, y2, y3, y4, y5, y6]) rfl ?_
  rw [HO.out]
  exact ⟨x, rfl, HX.out, (ox.out.but ((((((((But.refl r6 w6).set ⟨r6, 0, none⟩ rfl _).set ⟨r6, 1, none⟩ rfl _).set ⟨r6, 2, none⟩ rfl _).set ⟨r6, 3, none⟩ rfl _).set ⟨r6, 4, none⟩ rfl _).set ⟨r6, 5, none⟩ rfl _).set ⟨r6, 6, none⟩ rfl _) NN.out.2.2.2.2.2.2.2.2.2.1).base NN.out.2.2.2.2.2.2.2.1, FX.out.ok, (bset (bset (bset (bset (bset (bset (bset hb NN.out.2.2.2.2.2.2.1 _) NN.out.2.2.2.2.2.2.1 _) NN.out.2.2.2.2.2.2.1 _) NN.out.2.2.2.2.2.2.1 _) NN.out.2.2.2.2.2.2.1 _) NN.out.2.2.2.2.2.2.1 _) NN.out.2.2.2.2.2.2.1 _)⟩
set_option maxRecDepth 100000 in
set_option maxHeartbeats 8000000 in
theorem read_entry (s : List UInt8) (w : World) (hz : s.length ≤ 65536) (y : Coder.E) (l' : List UInt8) (E' : Int) (hn : entryS s 0 = (y, l', E')) :
    Calls Tryz.prog 16 #[.string ⟨s.toArray⟩] w fun e w' => ∃ x : RE, e = .returned (.tuple #[.agg #[.string ⟨x.k.toArray⟩, .slice x.sa x.s.length x.sc, .slice x.ca x.c.length x.cc, .slice x.ia x.j.length x.ic, .int .u64 (x.l.s : Int), .string ⟨x.l.t.toArray⟩, .bool x.l.g], .int .i64 (errS (okS l' E' (mayE y)))]) ∧ x.e = pickS (okS l' E' (mayE y)) y RE.zero.e ∧ OwnE w' w.heap.size x ∧ x.Ok ∧ Below w.heap.size w w' := by
  have HZ := Lib.hid hz
  have HN := Lib.hid hn
  obtain ⟨ok, hok⟩ : ∃ z, z = (okS l' E' (mayE y)) := ⟨_, rfl⟩
  rw [← hok]
  have HOK := Lib.hid hok
  clear hz hn hok
  go_enter Tryz.func16, Tryz.ntmps16
  go_upto_region 1 with (fail)
  obtain ⟨W, hW⟩ : ∃ v, v = w.alloc (.cells #[.string ⟨#[]⟩, .slice none 0 0, .slice none 0 0, .slice none 0 0, .int .u64 0, .string ⟨#[]⟩, .bool false] 29) := ⟨_, rfl⟩
  rw [← hW]
  have B6 : Box W w.heap.size [.string ⟨#[]⟩, .slice none 0 0, .slice none 0 0, .slice none 0 0, .int .u64 0, .string ⟨#[]⟩, .bool false] := by rw [hW]; exact Box.new w [.string ⟨#[]⟩, .slice none 0 0, .slice none 0 0, .slice none 0 0, .int .u64 0, .string ⟨#[]⟩, .bool false] 29 (by simp)
  have hb : Below w.heap.size w W := by rw [hW]; exact balloc (Below.refl _ _) _
  have hs : W.heap.size = w.heap.size + 1 := by rw [hW]; simp
  obtain ⟨r6, h6⟩ : ∃ v, v = w.heap.size := ⟨_, rfl⟩
  rw [← h6] at B6 ⊢
  have NN : Hid (w.heap.size ≤ r6 ∧ r6 < W.heap.size ∧ w.heap.size ≤ W.heap.size) := Lib.hid (by omega)
  clear h6 hW hs
  go_wp2_with fail
  refine (whole_entry s _ HZ.out _ _ _ HN.out).mono ?_
  rintro e w1 ⟨x, rfl, hx, hi, ho, k1⟩
  rw [← HOK.out] at hx ⊢
  replace B6 := B6.below k1
  replace hb := bstep hb k1
  clear k1
  have HI := Lib.hid hi
  have HO := Lib.hid ho
  clear hi ho
  have HX := Lib.hid hx
  clear hx
  have z0 := B6.2.2 0
  have y0 := B6.at 0 _ rfl
  have z1 := B6.2.2 1
  have y1 := B6.at 1 _ rfl
  have z2 := B6.2.2 2
  have y2 := B6.at 2 _ rfl
  have z3 := B6.2.2 3
  have y3 := B6.at 3 _ rfl
  have z4 := B6.2.2 4
  have y4 := B6.at 4 _ rfl
  have z5 := B6.2.2 5
  have y5 := B6.at 5 _ rfl
  have z6 := B6.2.2 6
  have y6 := B6.at 6 _ rfl
  go_wp2
  refine bodyPost_ret (v := .tuple #[.agg #[.string ⟨x.k.toArray⟩, .slice x.sa x.s.length x.sc, .slice x.ca x.c.length x.cc, .slice x.ia x.j.length x.ic, .int .u64 (x.l.s : Int), .string ⟨x.l.t.toArray⟩, .bool x.l.g], .int .i64 (errS ok)]) (by simp [results, Tryz.results16, go_sem, y0, y1, y2, y3, y4, y5, y6]) rfl ?_
  exact ⟨x, rfl, HX.out, (HI.out.but ((((((((But.refl r6 w1).set ⟨r6, 0, none⟩ rfl _).set ⟨r6, 1, none⟩ rfl _).set ⟨r6, 2, none⟩ rfl _).set ⟨r6, 3, none⟩ rfl _).set ⟨r6, 4, none⟩ rfl _).set ⟨r6, 5, none⟩ rfl _).set ⟨r6, 6, none⟩ rfl _) NN.out.2.1).base NN.out.2.2, HO.out, (bset (bset (bset (bset (bset (bset (bset hb NN.out.1 _) NN.out.1 _) NN.out.1 _) NN.out.1 _) NN.out.1 _) NN.out.1 _) NN.out.1 _)⟩
set_option maxRecDepth 100000 in
set_option maxHeartbeats 8000000 in
theorem whole_op (s : List UInt8) (w : World) (hz : s.length ≤ 65536) (y : O) (l' : List UInt8) (E' : Int) (hn : opS s 0 = (y, l', E')) :
    Calls Tryz.prog 32 #[.string ⟨s.toArray⟩, .func (.func 33) #[] #[], .func (.func 28) #[] #[]] w fun e w' => ∃ x : O, e = .returned (.tuple #[.agg #[.int .u8 (x.d : Int), .string ⟨x.k.toArray⟩, .int .i64 x.n, .string ⟨x.t.toArray⟩], .int .i64 (errS (okS l' E' (mayO y)))]) ∧ x = pickS (okS l' E' (mayO y)) y ⟨0, [], 0, []⟩ ∧ Below w.heap.size w w' := by
  have hl : s.length ≤ maxLen := by have : 65536 ≤ maxLen := by decide
                                    omega
  have HFY : Hid (y.k.length ≤ 1048576) := Lib.hid (by
    obtain ⟨x0, l0, E0, q0⟩ : ∃ x y z, smallS s 0 = (x, y, z) := ⟨_, _, _, rfl⟩
    obtain ⟨x1, l1, E1, q1⟩ : ∃ x y z, wordS l0 E0 = (x, y, z) := ⟨_, _, _, rfl⟩
    simp only [opS, bindR, q0, q1, Prod.mk.injEq] at hn
    rw [← hn.1]
    have := word_len q1
    show x1.length ≤ _
    omega)
  obtain ⟨ok, hok⟩ : ∃ z, z = okS l' E' (mayO y) := ⟨_, rfl⟩
  rw [← hok]
  replace hok := Lib.hid hok
  have HN := Lib.hid hn
  clear hn
  go_enter Tryz.func32, Tryz.ntmps32
  go_upto_region 2 with (fail)
  obtain ⟨W, hW⟩ : ∃ v, v = (w.alloc (.cells #[.int .u8 0, .string ⟨#[]⟩, .int .i64 0, .string ⟨#[]⟩] 37)).alloc (.cells #[.int .u8 0, .string ⟨#[]⟩, .int .i64 0, .string ⟨#[]⟩] 37) := ⟨_, rfl⟩
  rw [← hW]
  have B8 : Box W (w.heap.size + 1) [.int .u8 0, .string ⟨#[]⟩, .int .i64 0, .string ⟨#[]⟩] := by
    rw [hW]
    have q := Box.new (w.alloc (.cells #[.int .u8 0, .string ⟨#[]⟩, .int .i64 0, .string ⟨#[]⟩] 37)) [.int .u8 0, .string ⟨#[]⟩, .int .i64 0, .string ⟨#[]⟩] 37 (by simp)
    rw [World.size_alloc] at q
    exact q
  have B6 : Box W w.heap.size [.int .u8 0, .string ⟨#[]⟩, .int .i64 0, .string ⟨#[]⟩] := by rw [hW]; exact (Box.new w [.int .u8 0, .string ⟨#[]⟩, .int .i64 0, .string ⟨#[]⟩] 37 (by simp)).alloc _
  have hb : Below w.heap.size w W := by rw [hW]; exact balloc (balloc (Below.refl _ _) _) _
  have hs : W.heap.size = w.heap.size + 2 := by rw [hW]; simp
  obtain ⟨r8, h8⟩ : ∃ v, v = w.heap.size + 1 := ⟨_, rfl⟩
  rw [← h8] at B8 ⊢
  obtain ⟨r6, h6⟩ : ∃ v, v = w.heap.size := ⟨_, rfl⟩
  rw [← h6] at B6 ⊢
  replace hs := Lib.hid hs
  replace h8 := Lib.hid h8
  replace h6 := Lib.hid h6
  clear hW
  replace B8 := Lib.hid B8
  replace B6 := Lib.hid B6
  go_wp2_with fail
  refine (new_any s W hl).mono ?_
  rintro e w1 ⟨rfl, R, k1⟩
  obtain ⟨b, hbb⟩ : ∃ v, v = W.heap.size := ⟨_, rfl⟩
  rw [← hbb] at R k1 ⊢
  have hb1 := R.lt
  replace B8 := Lib.hid (B8.out.below (by rw [← hbb]; exact k1))
  replace B6 := Lib.hid (B6.out.below (by rw [← hbb]; exact k1))
  replace hb : Below w.heap.size w w1 := bstep hb (by rw [← hbb]; exact k1)
  replace hbb := Lib.hid hbb
  replace hb1 := Lib.hid hb1
  clear k1
  go_upto_region 3 with (fail)
  obtain ⟨w2, hw2⟩ : ∃ v, v = w1.alloc (.cells #[.pointer (some ⟨b, 0, none⟩)] 80) := ⟨_, rfl⟩
  rw [← hw2]
  have B9 : Box w2 w1.heap.size [.pointer (some ⟨b, 0, none⟩)] := by rw [hw2]; exact Box.new w1 [.pointer (some ⟨b, 0, none⟩)] 80 (by simp)
  obtain ⟨r9, h9⟩ : ∃ v, v = w1.heap.size := ⟨_, rfl⟩
  rw [← h9] at B9 ⊢
  have s2 : w2.heap.size = r9 + 1 := by rw [hw2, h9]; simp
  replace R : Rd w2 b s 0 := by rw [hw2]; exact R.alloc _
  replace B8 := Lib.hid (show Box w2 r8 _ by rw [hw2]; exact B8.out.alloc _)
  replace B6 := Lib.hid (show Box w2 r6 _ by rw [hw2]; exact B6.out.alloc _)
  replace hb : Below w.heap.size w w2 := by rw [hw2]; exact balloc hb _
  have n1 : r6 ≠ b ∧ r8 ≠ b ∧ r9 ≠ b ∧ b < r9 ∧ r6 < r9 ∧ w.heap.size ≤ b ∧ w.heap.size ≤ r6 ∧ w.heap.size ≤ w2.heap.size ∧ r8 ≠ r6 ∧ r6 < w2.heap.size ∧ b < w2.heap.size := by have := hs.out; have := h8.out; have := h6.out; have := hbb.out; have := hb1.out; omega
  have NN := Lib.hid n1
  clear n1 hbb h6 h8 h9 hs hb1 hw2
  have p0 := B9.at 0 _ rfl
  go_wp2_with fail
  refine (op_any b _ _ _ R _ _ _ HN.out).mono ?_
  rintro e w3 ⟨rfl, R1, k1⟩
  obtain ⟨x, hx⟩ : ∃ x, x = y := ⟨_, rfl⟩
  rw [← hx]
  replace B8 := Lib.hid (B8.out.but k1 NN.out.2.1)
  replace B6 := Lib.hid (B6.out.but k1 NN.out.1)
  replace B9 := B9.but k1 NN.out.2.2.1
  replace hb := But.below hb k1 NN.out.2.2.2.2.2.1 NN.out.2.2.2.2.2.2.2.1
  have s3 := k1.size
  clear p0 k1
  have HX := Lib.hid hx
  clear hx R
  go_upto_region 4 with (fail)
  obtain ⟨w4, hw4⟩ : ∃ v, v = w3.alloc (.cells #[.int .u8 (x.d : Int), .string ⟨x.k.toArray⟩, .int .i64 x.n, .string ⟨x.t.toArray⟩] 37) := ⟨_, rfl⟩
  rw [← hw4]
  have BX : Box w4 w3.heap.size [.int .u8 (x.d : Int), .string ⟨x.k.toArray⟩, .int .i64 x.n, .string ⟨x.t.toArray⟩] := by rw [hw4]; exact Box.new w3 [.int .u8 (x.d : Int), .string ⟨x.k.toArray⟩, .int .i64 x.n, .string ⟨x.t.toArray⟩] 37 (by simp)
  obtain ⟨rx, hrx⟩ : ∃ v, v = w3.heap.size := ⟨_, rfl⟩
  rw [← hrx] at BX ⊢
  have R := (by rw [hw4]; exact R1.alloc _ : Rd w4 b _ _)
  replace B8 := Lib.hid (show Box w4 r8 _ by rw [hw4]; exact B8.out.alloc _)
  replace B6 := Lib.hid (show Box w4 r6 _ by rw [hw4]; exact B6.out.alloc _)
  replace B9 := (show Box w4 r9 _ by rw [hw4]; exact B9.alloc _)
  replace hb : Below w.heap.size w w4 := by rw [hw4]; exact balloc hb _
  have N2 : Hid (rx ≠ b ∧ w.heap.size ≤ w4.heap.size) := Lib.hid (by have := NN.out; have : w4.heap.size = w3.heap.size + 1 := (by rw [hw4]; simp); omega)
  clear hrx hw4 R1 s3 s2
  have p0 := B9.at 0 _ rfl
  obtain ⟨E2, hE2⟩ : ∃ z, endS l' E' = z := ⟨_, rfl⟩
  have HE2 := Lib.hid hE2
  clear hE2
  go_wp2_with fail
  refine (end_any b _ _ _ R _ HE2.out).mono ?_
  rintro e w5 ⟨rfl, R1, k1⟩
  clear p0
  replace B8 := Lib.hid (B8.out.but k1 NN.out.2.1)
  replace B6 := Lib.hid (B6.out.but k1 NN.out.1)
  replace BX := Lib.hid (BX.but k1 N2.out.1)
  replace hb := But.below hb k1 NN.out.2.2.2.2.2.1 N2.out.2
  clear k1 R1 B9 R
  by_cases hE : E2 = 0
  rotate_left
  · have d1 : (E2 == 0) = false := by rw [beq_eq_false_iff_ne]; exact hE
    have d2 : (E2 != 0) = true := by rw [bne_iff_ne]; exact hE
    have HO : Hid (ok = false) := Lib.hid (by rw [hok.out]; unfold okS; rw [HE2.out, decide_eq_false hE]; rfl)
    have c0 := B8.out.at 0 _ rfl
    have z0 := B6.out.2.2 0
    have y0 := B6.out.at 0 _ rfl
    have c1 := B8.out.at 1 _ rfl
    have z1 := B6.out.2.2 1
    have y1 := B6.out.at 1 _ rfl
    have c2 := B8.out.at 2 _ rfl
    have z2 := B6.out.2.2 2
    have y2 := B6.out.at 2 _ rfl
    have c3 := B8.out.at 3 _ rfl
    have z3 := B6.out.2.2 3
    have y3 := B6.out.at 3 _ rfl
    go_wp2
    refine bodyPost_ret (v := .tuple #[.agg #[.int .u8 0, .string ⟨#[]⟩, .int .i64 0, .string ⟨#[]⟩], .int .i64 8]) (by simp [results, Tryz.results32, go_sem, y0, y1, y2, y3]) rfl ?_
    rw [HO.out]
    exact ⟨⟨0, [], 0, []⟩, rfl, rfl, (bset (bset (bset (bset hb NN.out.2.2.2.2.2.2.1 _) NN.out.2.2.2.2.2.2.1 _) NN.out.2.2.2.2.2.2.1 _) NN.out.2.2.2.2.2.2.1 _)⟩
  subst hE
  obtain ⟨q, hq⟩ : ∃ q, q = mayO y := ⟨_, rfl⟩
  have HQ := Lib.hid hq
  clear hq
  have x0 := BX.out.at 0 _ rfl
  have x1 := BX.out.at 1 _ rfl
  have x2 := BX.out.at 2 _ rfl
  have x3 := BX.out.at 3 _ rfl
  go_wp2_with fail
  refine (mayO_any x.d x.k x.n x.t _ (by rw [HX.out]; exact HFY.out)).mono ?_
  rintro e w6 ⟨rfl, k1⟩
  have he : mayO ⟨x.d, x.k, x.n, x.t⟩ = q := by rw [HQ.out, ← HX.out]
  rw [he]
  clear he
  clear x0 x1 x2 x3
  replace B8 := Lib.hid (B8.out.below k1)
  replace B6 := Lib.hid (B6.out.below k1)
  replace BX := Lib.hid (BX.out.below k1)
  replace hb := bstep hb k1
  clear k1
  cases q
  · skip
    have HO : Hid (ok = false) := Lib.hid (by rw [hok.out]; unfold okS; rw [← HQ.out, Bool.and_false])
    have c0 := B8.out.at 0 _ rfl
    have z0 := B6.out.2.2 0
    have y0 := B6.out.at 0 _ rfl
    have c1 := B8.out.at 1 _ rfl
    have z1 := B6.out.2.2 1
    have y1 := B6.out.at 1 _ rfl
    have c2 := B8.out.at 2 _ rfl
    have z2 := B6.out.2.2 2
    have y2 := B6.out.at 2 _ rfl
    have c3 := B8.out.at 3 _ rfl
    have z3 := B6.out.2.2 3
    have y3 := B6.out.at 3 _ rfl
    go_wp2
    refine bodyPost_ret (v := .tuple #[.agg #[.int .u8 0, .string ⟨#[]⟩, .int .i64 0, .string ⟨#[]⟩], .int .i64 8]) (by simp [results, Tryz.results32, go_sem, y0, y1, y2, y3]) rfl ?_
    rw [HO.out]
    exact ⟨⟨0, [], 0, []⟩, rfl, rfl, (bset (bset (bset (bset hb NN.out.2.2.2.2.2.2.1 _) NN.out.2.2.2.2.2.2.1 _) NN.out.2.2.2.2.2.2.1 _) NN.out.2.2.2.2.2.2.1 _)⟩
  have HO : Hid (ok = true) := Lib.hid (by rw [hok.out]; unfold okS; rw [HE2.out, ← HQ.out]; rfl)
  have c0 := BX.out.at 0 _ rfl
  have z0 := B6.out.2.2 0
  have y0 := B6.out.at 0 _ rfl
  have c1 := BX.out.at 1 _ rfl
  have z1 := B6.out.2.2 1
  have y1 := B6.out.at 1 _ rfl
  have c2 := BX.out.at 2 _ rfl
  have z2 := B6.out.2.2 2
  have y2 := B6.out.at 2 _ rfl
  have c3 := BX.out.at 3 _ rfl
  have z3 := B6.out.2.2 3
  have y3 := B6.out.at 3 _ rfl
  go_wp2
  refine bodyPost_ret (v := .tuple #[.agg #[.int .u8 (x.d : Int), .string ⟨x.k.toArray⟩, .int .i64 x.n, .string ⟨x.t.toArray⟩], .int .i64 0]) (by simp [results, Tryz.results32, go_sem, y0, y1, y2, y3]) rfl ?_
  rw [HO.out]
  exact ⟨x, rfl, HX.out, (bset (bset (bset (bset hb NN.out.2.2.2.2.2.2.1 _) NN.out.2.2.2.2.2.2.1 _) NN.out.2.2.2.2.2.2.1 _) NN.out.2.2.2.2.2.2.1 _)⟩
set_option maxRecDepth 100000 in
set_option maxHeartbeats 8000000 in
theorem read_op (s : List UInt8) (w : World) (hz : s.length ≤ 65536) (y : O) (l' : List UInt8) (E' : Int) (hn : opS s 0 = (y, l', E')) :
    Calls Tryz.prog 17 #[.string ⟨s.toArray⟩] w fun e w' => ∃ x : O, e = .returned (.tuple #[.agg #[.int .u8 (x.d : Int), .string ⟨x.k.toArray⟩, .int .i64 x.n, .string ⟨x.t.toArray⟩], .int .i64 (errS (okS l' E' (mayO y)))]) ∧ x = pickS (okS l' E' (mayO y)) y ⟨0, [], 0, []⟩ ∧ Below w.heap.size w w' := by
  have HZ := Lib.hid hz
  have HN := Lib.hid hn
  obtain ⟨ok, hok⟩ : ∃ z, z = (okS l' E' (mayO y)) := ⟨_, rfl⟩
  rw [← hok]
  have HOK := Lib.hid hok
  clear hz hn hok
  go_enter Tryz.func17, Tryz.ntmps17
  go_upto_region 1 with (fail)
  obtain ⟨W, hW⟩ : ∃ v, v = w.alloc (.cells #[.int .u8 0, .string ⟨#[]⟩, .int .i64 0, .string ⟨#[]⟩] 37) := ⟨_, rfl⟩
  rw [← hW]
  have B6 : Box W w.heap.size [.int .u8 0, .string ⟨#[]⟩, .int .i64 0, .string ⟨#[]⟩] := by rw [hW]; exact Box.new w [.int .u8 0, .string ⟨#[]⟩, .int .i64 0, .string ⟨#[]⟩] 37 (by simp)
  have hb : Below w.heap.size w W := by rw [hW]; exact balloc (Below.refl _ _) _
  have hs : W.heap.size = w.heap.size + 1 := by rw [hW]; simp
  obtain ⟨r6, h6⟩ : ∃ v, v = w.heap.size := ⟨_, rfl⟩
  rw [← h6] at B6 ⊢
  have NN : Hid (w.heap.size ≤ r6 ∧ r6 < W.heap.size ∧ w.heap.size ≤ W.heap.size) := Lib.hid (by omega)
  clear h6 hW hs
  go_wp2_with fail
  refine (whole_op s _ HZ.out _ _ _ HN.out).mono ?_
  rintro e w1 ⟨x, rfl, hx, k1⟩
  rw [← HOK.out] at hx ⊢
  replace B6 := B6.below k1
  replace hb := bstep hb k1
  clear k1
  have HX := Lib.hid hx
  clear hx
  have z0 := B6.2.2 0
  have y0 := B6.at 0 _ rfl
  have z1 := B6.2.2 1
  have y1 := B6.at 1 _ rfl
  have z2 := B6.2.2 2
  have y2 := B6.at 2 _ rfl
  have z3 := B6.2.2 3
  have y3 := B6.at 3 _ rfl
  go_wp2
  refine bodyPost_ret (v := .tuple #[.agg #[.int .u8 (x.d : Int), .string ⟨x.k.toArray⟩, .int .i64 x.n, .string ⟨x.t.toArray⟩], .int .i64 (errS ok)]) (by simp [results, Tryz.results17, go_sem, y0, y1, y2, y3]) rfl ?_
  exact ⟨x, rfl, HX.out, (bset (bset (bset (bset hb NN.out.1 _) NN.out.1 _) NN.out.1 _) NN.out.1 _)⟩
end Taker
end Go.Proofs.YtnpjkmomllkhpaaGreat
