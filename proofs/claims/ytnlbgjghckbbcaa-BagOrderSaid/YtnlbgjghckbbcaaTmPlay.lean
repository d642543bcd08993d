/- Merged texts: BagPlay, BagEvents. -/
import Derived.Test.YtnlbgjghckbbcaaTmBagD
import Derived.Laws.AppendOwn
import Derived.Test.YtnlbgjghckbbcaaTmBagA
namespace Go.Proofs.Ytnlbgjghckbbcaa
namespace BagLaw
open Go.RowKit Go.Proofs.Ytnlbgjghckbbcaa.Mark Go.Proofs.Ytnlbgjghckbbcaa.Dots Go.Proofs.Ytnlbgjghckbbcaa.Bag
/-- Truths, one behind the other. -/
def bE : Row.Enc Bool := ⟨1, by decide, fun b => [.bool b], fun _ => rfl, fun x v hv => by
  simp only [List.mem_cons, List.not_mem_nil, or_false] at hv
  rw [hv]; rfl⟩
/-- A replica: its bag, its vector, what it knows. -/
structure Rp where
  la : Option Addr
  lc : Nat
  R : List It
  va : Option Addr
  vc : Nat
  V : List M
  ka : Option Addr
  kc : Nat
  K : List Bool
def Rp.lv (x : Rp) : Value := .slice x.la x.R.length x.lc
def Rp.vv (x : Rp) : Value := .slice x.va x.V.length x.vc
def Rp.kv (x : Rp) : Value := .slice x.ka x.K.length x.kc
def Rp.cells (x : Rp) : List Value := [x.lv, x.vv, x.kv]
def Rp.withL (x : Rp) (a : Option Addr) (c : Nat) (R : List It) : Rp := ⟨a, c, R, x.va, x.vc, x.V, x.ka, x.kc, x.K⟩
def Rp.withV (x : Rp) (a : Option Addr) (c : Nat) (V : List M) : Rp := ⟨x.la, x.lc, x.R, a, c, V, x.ka, x.kc, x.K⟩
def Rp.withK (x : Rp) (K : List Bool) : Rp := ⟨x.la, x.lc, x.R, x.va, x.vc, x.V, x.ka, x.kc, K⟩
def Rp.moved (x : Rp) (a : Option Addr) (c : Nat) (K : List Bool) : Rp := ⟨x.la, x.lc, x.R, x.va, x.vc, x.V, a, c, K⟩
def rE : Row.Enc Rp := ⟨3, by decide, Rp.cells, fun _ => rfl, fun x v hv => by
  simp only [Rp.cells, List.mem_cons, List.not_mem_nil, or_false] at hv
  rcases hv with rfl | rfl | rfl <;> rfl⟩
/-- An event. -/
structure Er where
  t : List UInt8
  p : List UInt8
  n : Nat
  sa : Option Addr
  sc : Nat
  seen : List Bool
def Er.sv (x : Er) : Value := .slice x.sa x.seen.length x.sc
def Er.cells (x : Er) : List Value := [.string ⟨x.t.toArray⟩, .string ⟨x.p.toArray⟩, .int .u64 (x.n : Int), x.sv]
def eE : Row.Enc Er := ⟨4, by decide, Er.cells, fun _ => rfl, fun x v hv => by
  simp only [Er.cells, List.mem_cons, List.not_mem_nil, or_false] at hv
  rcases hv with rfl | rfl | rfl | rfl <;> rfl⟩
abbrev OwnB (w : World) (B : Nat) (v : Value) (K : List Bool) : Prop := Row.Own bE 4 w B v K
abbrev OwnR (w : World) (B : Nat) (v : Value) (L : List Rp) : Prop := Row.Own rE 56 w B v L
abbrev OwnE (w : World) (B : Nat) (v : Value) (L : List Er) : Prop := Row.Own eE 86 w B v L
theorem typB : Row.Typ Try.prog bE 54 4 (.bool false) 1 := ⟨Try.underlying54, Row.info_of (by kernel_rfl), rfl, by decide⟩
theorem typE : Row.Typ Try.prog eE 49 86 (.agg #[.string ⟨#[]⟩, .string ⟨#[]⟩, .int .u64 0, .slice none 0 0]) 64 := ⟨Try.underlying49, Row.info_of (by kernel_rfl), rfl, by decide⟩
/-- Rows of unlike types lie apart. -/
theorem own_ne {w : World} {B1 B2 : Nat} {t1 t2 : TypeId} {k1 k2 n1 n2 : Nat} {v1 v2 : Value} {x1 x2 : List Value} (h1 : w.ownsRow B1 t1 k1 v1 n1 x1) (h2 : w.ownsRow B2 t2 k2 v2 n2 x2) (hne : t1 ≠ t2) : v1.ownBlock = none ∨ v1.ownBlock ≠ v2.ownBlock := by
  rcases h1.2 with ⟨rfl, _⟩ | ⟨g1, c1, u1, rfl, _, hg1, _⟩
  · exact .inl rfl
  · refine .inr fun e => ?_
    rcases h2.2 with ⟨rfl, _⟩ | ⟨g2, c2, u2, rfl, _, hg2, _⟩
    · cases e
    · have e : g1 = g2 := by simpa [Value.ownBlock] using e
      subst e
      rw [hg1] at hg2
      simp only [Option.some.injEq, Obj.cells.injEq] at hg2
      exact hne hg2.2.1
theorem ne_ap {a b : Option Nat} (h : a = none ∨ a ≠ b) : b = none ∨ b ≠ a := by
  cases b with
  | none => exact .inl rfl
  | some k =>
    rcases h with rfl | h
    · exact .inr (by simp)
    · exact .inr h.symm
theorem flat_set {α : Type} (E : Row.Enc α) : ∀ (L : List α) (k c : Nat) (u : Value) (x' : α) (hk : k < L.length), c < E.k → E.cells x' = (E.cells L[k]).set c u → (Row.flat E L).set (k * E.k + c) u = Row.flat E (L.set k x')
  | x :: L, 0, c, u, x', _, hc, h => by
    rw [Row.flat_cons, List.set_cons_zero, Row.flat_cons, Nat.zero_mul, Nat.zero_add, List.set_append_left _ _ (by rw [E.len]; exact hc), h]
    rfl
  | x :: L, k + 1, c, u, x', hk, hc, h => by
    rw [Row.flat_cons, List.set_cons_succ, Row.flat_cons, List.set_append_right _ _ (by rw [E.len, Nat.add_mul]; omega), E.len, show (k + 1) * E.k + c - E.k = k * E.k + c by rw [Nat.add_mul]; omega]
    rw [flat_set E L k c u x' (by simpa using hk) hc h]
variable {w w' : World} {B : Nat}
theorem _root_.Go.Proofs.Ytnlbgjghckbbcaa.Bag.Had.kept {a : Option Addr} {n c : Nat} {R : List It} (h : Had w B a n c R) {B2 : Nat} {t2 : TypeId} {k2 n2 : Nat} {v2 : Value} {x2 : List Value} (ho : w.ownsRow B2 t2 k2 v2 n2 x2) (hg : w.grownBy w' v2.ownBlock) (h1 : 42 ≠ t2) (h2 : 31 ≠ t2) : Had w' B a n c R := by
  obtain ⟨hl, J, rfl, hJ, hD⟩ := h
  have hJ' : OwnI w' B (.slice a n c) J := World.ownsRow.kept hJ hg (own_ne hJ ho h1)
  have hD' : ∀ y ∈ J, OwnD w' B y.v y.d := fun y hy => World.ownsRow.kept (hD y hy) hg (own_ne (hD y hy) ho h2)
  obtain ⟨a', c', e, -, -, hl', -⟩ := Row.Own.lies hJ'
  simp only [Value.slice.injEq] at e
  obtain ⟨rfl, rfl, rfl⟩ := e
  exact ⟨⟨J, rfl, hl', fun y hy => own_inner (hD' y hy)⟩, J, rfl, hJ', hD'⟩
/-- Replicas and events in memory; o: whose knowledge stands aside. -/
structure Play (o : Option Nat) (w : World) (B rb : Nat) (av : Value) (Ls : List Rp) (Es : List Er) : Prop where
  row : OwnR w B (.slice (some ⟨rb, 0, none⟩) Ls.length Ls.length) Ls
  bag : ∀ x ∈ Ls, Had w B x.la x.R.length x.lc x.R
  vec : ∀ x ∈ Ls, Mark.Own w B x.vv x.V
  knew : ∀ j (hj : j < Ls.length), some j ≠ o → OwnB w B Ls[j].kv Ls[j].K
  apart : ∀ i j (hi : i < Ls.length) (hj : j < Ls.length), i ≠ j → Ls[i].kv.ownBlock = none ∨ Ls[i].kv.ownBlock ≠ Ls[j].kv.ownBlock
  evs : OwnE w B av Es
  seen : ∀ e ∈ Es, OwnB w B e.sv e.seen
  free : ∀ e ∈ Es, ∀ x ∈ Ls, e.sv.ownBlock = none ∨ e.sv.ownBlock ≠ x.kv.ownBlock
variable {o : Option Nat} {rb : Nat} {av : Value} {Ls : List Rp} {Es : List Er}
theorem Play.below (h : Play o w B rb av Ls Es) (k : Below w.heap.size w w') : Play o w' B rb av Ls Es :=
  ⟨Row.Own.below h.row k, fun x hx => (h.bag x hx).below k, fun x hx => (h.vec x hx).kept (grown_of k) (Classical.em _), fun j hj e => Row.Own.below (h.knew j hj e) k, h.apart, Row.Own.below h.evs k, fun e he => Row.Own.below (h.seen e he) k, h.free⟩
theorem Play.aside (h : Play none w B rb av Ls Es) (k : Nat) : Play (some k) w B rb av Ls Es :=
  ⟨h.row, h.bag, h.vec, fun j hj _ => h.knew j hj (by simp), h.apart, h.evs, h.seen, h.free⟩
theorem Play.own (h : Play o w B rb av Ls Es) : ∃ cur, w.heap[rb]? = some (.cells cur 56 (0, 0)) ∧ B ≤ rb := by
  rcases h.row.2 with ⟨e, _⟩ | ⟨g, c, cur, e, hB, hg, _⟩
  · simp at e
  · simp only [Value.slice.injEq, Option.some.injEq, Addr.mk.injEq, and_true] at e
    obtain ⟨rfl, -⟩ := e
    exact ⟨cur, hg, hB⟩
/-- A replica's cells. -/
theorem Play.cells (h : Play o w B rb av Ls Es) {k : Nat} (hk : k < Ls.length) : w.cell? ⟨rb, k * 3, none⟩ = some Ls[k].lv ∧ w.cell? ⟨rb, k * 3 + 1, none⟩ = some Ls[k].vv ∧ w.cell? ⟨rb, k * 3 + 2, none⟩ = some Ls[k].kv := by
  have hr : w.ownsRow B 56 3 (.slice (some ⟨rb, 0, none⟩) Ls.length Ls.length) Ls.length (Row.flat rE Ls) := h.row
  have key : ∀ c (hc : c < 3), w.cell? ⟨rb, k * 3 + c, none⟩ = (Ls[k].cells)[c]? := fun c hc => by
    rw [hr.cellAt _ (by omega)]
    exact Row.flat_get rE Ls k hk c hc
  exact ⟨key 0 (by decide), key 1 (by decide), key 2 (by decide)⟩
theorem Play.frozen (h : Play o w B rb av Ls Es) (j : Nat) : w.frozen? ⟨rb, j, none⟩ = false := World.ownsRow.frozenAt (show w.ownsRow B 56 3 (.slice (some ⟨rb, 0, none⟩) Ls.length Ls.length) Ls.length (Row.flat rE Ls) from h.row) j
theorem vec_kept {v : Value} {V : List M} (h : Mark.Own w B v V) {B2 : Nat} {t2 : TypeId} {k2 n2 : Nat} {v2 : Value} {x2 : List Value} (ho : w.ownsRow B2 t2 k2 v2 n2 x2) (hg : w.grownBy w' v2.ownBlock) (h1 : 62 ≠ t2) : Mark.Own w' B v V := World.ownsRow.kept h hg (own_ne h ho h1)
theorem row_kept {α : Type} {E : Row.Enc α} {te : TypeId} {v : Value} {L : List α} (h : Row.Own E te w B v L) {B2 : Nat} {t2 : TypeId} {k2 n2 : Nat} {v2 : Value} {x2 : List Value} (ho : w.ownsRow B2 t2 k2 v2 n2 x2) (hg : w.grownBy w' v2.ownBlock) (h1 : te ≠ t2) : Row.Own E te w' B v L := World.ownsRow.kept h hg (own_ne h ho h1)
/-- A replica's cell is stored. -/
theorem Play.put (h : Play o w B rb av Ls Es) {k c : Nat} (hk : k < Ls.length) (hc : c < 3) {u : Value} {x' : Rp} (hx : x'.cells = (Ls[k]).cells.set c u) (o' : Option Nat) (hoo : ∀ j, j ≠ k → some j ≠ o' → some j ≠ o)
    (hb : Had w B x'.la x'.R.length x'.lc x'.R) (hv : Mark.Own w B x'.vv x'.V) (hkn : some k ≠ o' → OwnB w B x'.kv x'.K) (hap : ∀ j (hj : j < Ls.length), j ≠ k → x'.kv.ownBlock = none ∨ x'.kv.ownBlock ≠ Ls[j].kv.ownBlock) (hfr : ∀ e ∈ Es, e.sv.ownBlock = none ∨ e.sv.ownBlock ≠ x'.kv.ownBlock) :
    Play o' (w.setCell ⟨rb, k * 3 + c, none⟩ u) B rb av (Ls.set k x') Es ∧ w.grownBy (w.setCell ⟨rb, k * 3 + c, none⟩ u) (some rb) := by
  have hr : w.ownsRow B 56 3 (.slice (some ⟨rb, 0, none⟩) Ls.length Ls.length) Ls.length (Row.flat rE Ls) := h.row
  obtain ⟨s1, s2⟩ := World.ownsRow.stored hr (k * 3 + c) u
  have hfs : (Row.flat rE Ls).set (k * 3 + c) u = Row.flat rE (Ls.set k x') := flat_set rE Ls k c u x' hk hc hx
  rw [hfs] at s1
  have hg : w.grownBy (w.setCell ⟨rb, k * 3 + c, none⟩ u) (Value.ownBlock (.slice (some ⟨rb, 0, none⟩) Ls.length Ls.length)) := s2
  have hmem : ∀ x ∈ Ls.set k x', x = x' ∨ x ∈ Ls := fun x hx => (List.mem_or_eq_of_mem_set hx).symm
  refine ⟨⟨?_, fun x hx => ?_, fun x hx => ?_, fun j hj e => ?_, fun i j hi hj e => ?_, row_kept h.evs hr hg (by decide), fun e he => row_kept (h.seen e he) hr hg (by decide), fun e he x hx => ?_⟩, s2⟩
  · unfold OwnR Row.Own
    rw [List.length_set]
    exact s1
  · rcases hmem x hx with rfl | hx
    · exact hb.kept hr hg (by decide) (by decide)
    · exact (h.bag x hx).kept hr hg (by decide) (by decide)
  · rcases hmem x hx with rfl | hx
    · exact vec_kept hv hr hg (by decide)
    · exact vec_kept (h.vec x hx) hr hg (by decide)
  · rw [List.length_set] at hj
    rw [List.getElem_set]
    split
    · rename_i ek
      subst ek
      exact row_kept (hkn e) hr hg (by decide)
    · rename_i ek
      exact row_kept (h.knew j hj (hoo j (fun e' => ek e'.symm) e)) hr hg (by decide)
  · rw [List.length_set] at hi hj
    rw [List.getElem_set, List.getElem_set]
    by_cases hik : k = i
    · subst hik
      rw [if_pos rfl, if_neg e]
      exact hap j hj (fun e' => e e'.symm)
    · rw [if_neg hik]
      by_cases hjk : k = j
      · subst hjk
        rw [if_pos rfl]
        exact ne_ap (hap i hi e)
      · rw [if_neg hjk]
        exact h.apart i j hi hj e
  · rcases hmem x hx with rfl | hx
    · exact hfr e he
    · exact h.free e he x hx
theorem Play.fr (h : Play o w B rb av Ls Es) {k : Nat} (hk : k < Ls.length) : (∀ j (hj : j < Ls.length), j ≠ k → Ls[k].kv.ownBlock = none ∨ Ls[k].kv.ownBlock ≠ Ls[j].kv.ownBlock) ∧ ∀ e ∈ Es, e.sv.ownBlock = none ∨ e.sv.ownBlock ≠ Ls[k].kv.ownBlock :=
  ⟨fun j hj e => h.apart k j hk hj (fun e' => e e'.symm), fun e he => h.free e he _ (List.getElem_mem hk)⟩
theorem Play.setL (h : Play none w B rb av Ls Es) {k : Nat} (hk : k < Ls.length) {a : Option Addr} {c : Nat} {R : List It} (hb : Had w B a R.length c R) :
    Play none (w.setCell ⟨rb, k * 3, none⟩ (.slice a R.length c)) B rb av (Ls.set k (Ls[k].withL a c R)) Es ∧ w.grownBy (w.setCell ⟨rb, k * 3, none⟩ (.slice a R.length c)) (some rb) :=
  h.put (c := 0) (x' := Ls[k].withL a c R) hk (by decide) rfl none (fun _ _ e => e) hb (h.vec Ls[k] (List.getElem_mem hk)) (fun e => h.knew k hk e) (h.fr hk).1 (h.fr hk).2
theorem Play.setV (h : Play none w B rb av Ls Es) {k : Nat} (hk : k < Ls.length) {a : Option Addr} {c : Nat} {V : List M} (hv : Mark.Own w B (.slice a V.length c) V) :
    Play none (w.setCell ⟨rb, k * 3 + 1, none⟩ (.slice a V.length c)) B rb av (Ls.set k (Ls[k].withV a c V)) Es ∧ w.grownBy (w.setCell ⟨rb, k * 3 + 1, none⟩ (.slice a V.length c)) (some rb) :=
  h.put (c := 1) (x' := Ls[k].withV a c V) hk (by decide) rfl none (fun _ _ e => e) (h.bag Ls[k] (List.getElem_mem hk)) hv (fun e => h.knew k hk e) (h.fr hk).1 (h.fr hk).2
/-- What a replica knows has changed in its row, or has moved: all else stands. -/
theorem Play.stand (h : Play none w B rb av Ls Es) {k : Nat} (hk : k < Ls.length) (hg : w.grownBy w' Ls[k].kv.ownBlock) : Play (some k) w' B rb av Ls Es := by
  have hr : OwnB w B Ls[k].kv Ls[k].K := h.knew k hk (by simp)
  exact ⟨row_kept h.row hr hg (by decide), fun x hx => (h.bag x hx).kept hr hg (by decide) (by decide), fun x hx => vec_kept (h.vec x hx) hr hg (by decide),
    fun j hj e => World.ownsRow.kept (h.knew j hj (by simp)) hg (h.apart j k hj hk (fun e' => e (by rw [e']))), h.apart, row_kept h.evs hr hg (by decide), fun e he => World.ownsRow.kept (h.seen e he) hg (h.free e he _ (List.getElem_mem hk)), h.free⟩
theorem flat_same {α : Type} (E : Row.Enc α) : ∀ (L : List α) (k : Nat) (x' : α) (hk : k < L.length), E.cells x' = E.cells L[k] → Row.flat E (L.set k x') = Row.flat E L
  | x :: L, 0, x', _, h => by rw [List.set_cons_zero, Row.flat_cons, Row.flat_cons, h]; rfl
  | x :: L, k + 1, x', hk, h => by rw [List.set_cons_succ, Row.flat_cons, Row.flat_cons, flat_same E L k x' (by simpa using hk) h]
/-- What a replica knows was set in place. -/
theorem Play.mend {k : Nat} (h : Play (some k) w B rb av Ls Es) (hk : k < Ls.length) {K : List Bool} (hK : K.length = Ls[k].K.length) (ho : OwnB w B Ls[k].kv K) : Play none w B rb av (Ls.set k (Ls[k].withK K)) Es := by
  have hkv : Rp.kv (Ls[k].withK K) = Ls[k].kv := by unfold Rp.kv Rp.withK; simp only; rw [hK]
  have hmem : ∀ x ∈ Ls.set k (Ls[k].withK K), x = (Ls[k].withK K) ∨ x ∈ Ls := fun x hx => (List.mem_or_eq_of_mem_set hx).symm
  have hcell : Rp.cells (Ls[k].withK K) = Ls[k].cells := by show [Ls[k].lv, Ls[k].vv, Rp.kv (Ls[k].withK K)] = _; rw [hkv]; rfl
  refine ⟨?_, fun x hx => ?_, fun x hx => ?_, fun j hj e => ?_, fun i j hi hj e => ?_, h.evs, h.seen, fun e he x hx => ?_⟩
  · unfold OwnR Row.Own
    rw [List.length_set, flat_same rE Ls k _ hk hcell]
    exact h.row
  · rcases hmem x hx with rfl | hx
    · exact h.bag Ls[k] (List.getElem_mem hk)
    · exact h.bag x hx
  · rcases hmem x hx with rfl | hx
    · exact h.vec Ls[k] (List.getElem_mem hk)
    · exact h.vec x hx
  · rw [List.length_set] at hj
    rw [List.getElem_set]
    split
    · rw [hkv]; exact ho
    · rename_i ek
      exact h.knew j hj (by simpa using fun e' => ek e'.symm)
  · rw [List.length_set] at hi hj
    have key : ∀ i (hi : i < Ls.length), ((Ls.set k (Ls[k].withK K))[i]'(by rw [List.length_set]; exact hi)).kv = Ls[i].kv := fun i hi => by
      rw [List.getElem_set]
      split
      · rename_i ek; subst ek; exact hkv
      · rfl
    rw [key i hi, key j hj]
    exact h.apart i j hi hj e
  · rcases hmem x hx with rfl | hx
    · rw [hkv]; exact h.free e he _ (List.getElem_mem hk)
    · exact h.free e he x hx
/-- What a replica knows has moved. -/
theorem Play.move (h : Play none w B rb av Ls Es) {k : Nat} (hk : k < Ls.length) (hg : w.grownBy w' Ls[k].kv.ownBlock) {a : Option Addr} {c : Nat} {K : List Bool} (ho : OwnB w' B (.slice a K.length c) K) (hbk : (Value.slice a K.length c).ownBlock = Ls[k].kv.ownBlock ∨ (Value.slice a K.length c).ownBlock = some w.heap.size) :
    Play none (w'.setCell ⟨rb, k * 3 + 2, none⟩ (.slice a K.length c)) B rb av (Ls.set k (Ls[k].moved a c K)) Es ∧ w'.grownBy (w'.setCell ⟨rb, k * 3 + 2, none⟩ (.slice a K.length c)) (some rb) := by
  have hs := h.stand hk hg
  refine hs.put (c := 2) hk (by decide) (x' := (Ls[k].moved a c K)) rfl none (fun j e _ => by simpa using e) (hs.bag Ls[k] (List.getElem_mem hk)) (hs.vec Ls[k] (List.getElem_mem hk)) (fun _ => ho) (fun j hj e => ?_) (fun e he => ?_)
  · show (Value.slice a K.length c).ownBlock = none ∨ (Value.slice a K.length c).ownBlock ≠ _
    rcases hbk with hb | hb
    · rw [hb]; exact (h.fr hk).1 j hj e
    · rw [hb]
      refine .inr fun e' => ?_
      have := (Row.Own.lt (h.knew j hj (by simp)) _ e'.symm).2
      omega
  · show e.sv.ownBlock = none ∨ e.sv.ownBlock ≠ (Value.slice a K.length c).ownBlock
    rcases hbk with hb | hb
    · rw [hb]; exact (h.fr hk).2 e he
    · rw [hb]
      refine .inr fun e' => ?_
      have := (Row.Own.lt (h.seen e he) _ e').2
      omega
theorem set_get {Ls : List Rp} {k : Nat} {x : Rp} (hk : k < (Ls.set k x).length) : (Ls.set k x)[k] = x := by simp
theorem set_same {α : Type} (f : Rp → α) {Ls : List Rp} {k j : Nat} {x : Rp} (hk : k < Ls.length) (hj : j < Ls.length) (hj' : j < (Ls.set k x).length) (h : f x = f Ls[k]) : f (Ls.set k x)[j] = f Ls[j] := by
  rw [List.getElem_set]
  split
  · rename_i e; subst e; exact h
  · rfl
/-- A row of truths. -/
theorem ptrB {a : Option Addr} {n c : Nat} {K : List Bool} (h : OwnB w B (.slice a n c) K) (hn : 0 < n) : ∃ g, a = some ⟨g, 0, none⟩ ∧ n = K.length ∧ (∀ i (hi : i < K.length), w.cell? ⟨g, i, none⟩ = some (.bool K[i])) ∧ (∀ j, w.frozen? ⟨g, j, none⟩ = false) ∧ B ≤ g ∧ g < w.heap.size := by
  rcases h.2 with ⟨e, _⟩ | ⟨g, c', cur, e, hB, hg, _⟩
  · simp only [Value.slice.injEq] at e
    omega
  · have hr : w.ownsRow B 4 1 (.slice (some ⟨g, 0, none⟩) K.length c') K.length (Row.flat bE K) := by rw [← e]; exact h
    simp only [Value.slice.injEq] at e
    obtain ⟨rfl, rfl, rfl⟩ := e
    refine ⟨g, rfl, rfl, fun i hi => ?_, fun j => World.ownsRow.frozenAt hr j, hB, (Array.getElem?_eq_some_iff.1 hg).1⟩
    rw [hr.cellAt i (by omega)]
    have := Row.flat_get bE K i hi 0 (by decide)
    rw [show i * bE.k + 0 = i from Nat.mul_one i] at this
    rw [this]; rfl
/-- One truth of what a replica knows is set. -/
theorem Play.setB {L2 : List Rp} {k : Nat} {Kc : List Bool} (hk : k < L2.length) (h : Play none w B rb av (L2.set k (L2[k].withK Kc)) Es) {g : Nat} (hga : L2[k].ka = some ⟨g, 0, none⟩) {i : Nat} (hi : i < Kc.length) (b : Bool) :
    Play none (w.setCell ⟨g, i, none⟩ (.bool b)) B rb av (L2.set k (L2[k].withK (Kc.set i b))) Es ∧ w.grownBy (w.setCell ⟨g, i, none⟩ (.bool b)) (some g) := by
  have hk' : k < (L2.set k (L2[k].withK Kc)).length := by rw [List.length_set]; exact hk
  have hat : (L2.set k (L2[k].withK Kc))[k] = L2[k].withK Kc := set_get hk'
  have hkv : (L2[k].withK Kc).kv = .slice (some ⟨g, 0, none⟩) Kc.length L2[k].kc := by unfold Rp.kv Rp.withK; simp only; rw [hga]
  have ho := h.knew k hk' (by simp)
  rw [hat, hkv] at ho
  have hr : w.ownsRow B 4 1 (.slice (some ⟨g, 0, none⟩) Kc.length L2[k].kc) Kc.length (Row.flat bE Kc) := ho
  obtain ⟨s1, s2⟩ := World.ownsRow.stored hr i (.bool b)
  have hfs : (Row.flat bE Kc).set (i * 1 + 0) (.bool b) = Row.flat bE (Kc.set i b) := flat_set bE Kc i 0 (.bool b) b hi (by decide) rfl
  rw [Nat.mul_one, Nat.add_zero] at hfs
  rw [hfs] at s1
  have hst := h.stand hk' (w' := w.setCell ⟨g, i, none⟩ (.bool b)) (by rw [hat, hkv]; exact s2)
  have hm := hst.mend hk' (K := Kc.set i b) (by rw [hat]; show (Kc.set i b).length = Kc.length; rw [List.length_set]) (by rw [hat, hkv]; unfold OwnB Row.Own; rw [List.length_set]; exact s1)
  rw [hat, List.set_set] at hm
  exact ⟨hm, s2⟩
/-- An event more. -/
theorem Play.event (h : Play none w B rb av Ls Es) {av' : Value} {e : Er} (ho : OwnE w' B av' (Es ++ [e])) (hg : w.grownBy w' av.ownBlock) (hs : OwnB w B e.sv e.seen) (hf : ∀ x ∈ Ls, e.sv.ownBlock = none ∨ e.sv.ownBlock ≠ x.kv.ownBlock) : Play none w' B rb av' Ls (Es ++ [e]) := by
  have hr := h.evs
  refine ⟨row_kept h.row hr hg (by decide), fun x hx => (h.bag x hx).kept hr hg (by decide) (by decide), fun x hx => vec_kept (h.vec x hx) hr hg (by decide), fun j hj e => row_kept (h.knew j hj e) hr hg (by decide), h.apart, ho, fun y hy => ?_, fun y hy x hx => ?_⟩
  · rcases List.mem_append.1 hy with hy | hy
    · exact row_kept (h.seen y hy) hr hg (by decide)
    · rw [List.mem_singleton.1 hy]; exact row_kept hs hr hg (by decide)
  · rcases List.mem_append.1 hy with hy | hy
    · exact h.free y hy x hx
    · rw [List.mem_singleton.1 hy]; exact hf x hx
/-- Where an append's row lies. -/
theorem app_block {P : Program} {w : World} {base : Nat} {t ty e : TypeId} {i : TypeInfo} {z : Value} {size : Nat} (ht : P.underlying t = some (.slice e)) (hi : P.info? e = some i) (hz : i.zero = some z) (hsize : i.size = size)
    {v : Value} {n : Nat} {xs : List Value} (hown : w.ownsRow base e size v n xs) {a : Addr} {m c : Nat} {news : List Value} (hl : news.length = m * size) (hnews : ∀ j u, news[j]? = some u → w.cell? (a.add j) = some u) (h1 : ∀ u ∈ news, u.oneCell' = true)
    (hm : 0 < m) (h63 : n + m ≤ 1099511627776) (hbytes : (n + m) * i.bytes ≤ 140737488355328) {v' : Value} {w' : World} (hr : (Builtin.append_ #[t, t] ty #[v, .slice (some a) m c]).run P w = .ok v' w') : v'.ownBlock = v.ownBlock ∨ v'.ownBlock = some w.heap.size := by
  subst hsize
  rcases hown.2 with ⟨rfl, rfl⟩ | ⟨g, cap, cur, rfl, hbg, hg, hnc, hcm, hcs, htake⟩
  · have h := run_append_nil (P := P) w t ty e i z ht hi hz a m c news hl hnews hm (by omega) (by have hb := hbytes; simp only [Nat.zero_add] at hb; omega)
    rw [h] at hr
    simp only [Result.ok.injEq] at hr
    rw [← hr.1]
    exact .inr rfl
  · by_cases hroom : n + m ≤ cap
    · have h := run_append_room (P := P) w t ty e i ht hi g n cap cur hg a m c news hl hnews h1 hroom (by rw [hl, hcs, ← Nat.add_mul]; exact Nat.mul_le_mul_right _ hroom)
      rw [h] at hr
      simp only [Result.ok.injEq] at hr
      rw [← hr.1]
      exact .inl rfl
    · have h := run_append_grow (P := P) w t ty e i z ht hi hz ⟨g, 0, none⟩ n cap xs hown.1 (hown.cells (g := g) rfl) a m c news hl hnews (by omega) (by omega) (growslice_fits (by omega) hbytes)
      rw [h] at hr
      simp only [Result.ok.injEq] at hr
      rw [← hr.1]
      exact .inr rfl
/-- Records that lie anywhere, appended to a call's own row; and where the row lies then. -/
theorem wpList_push {α : Type} {E : Row.Enc α} {P : Program} {ts te : TypeId} {z : Value} {bytes : Nat} (T : Row.Typ P E ts te z bytes) {ops : Array Oper} {rest : List Oper} {o : Oper} {a : Act} {w : World} {Q : Exit → Act → World → Prop} (hgd : o.guard = none) (s x : Operand)
    (ho : o.op = .call { callee := .builtin .append, args := #[s, x], argTypes := #[ts, ts] }) (B : Nat) (v : Value) (L : List α) (hs : a.eval s = v) (hown : Row.Own E te w B v L)
    (q : Addr) (nx cx : Nat) (K : List α) (hx : a.eval x = .slice (some q) nx cx) (hK : Row.Lies E w (some q) nx K) (h0 : 0 < nx)
    (hlen : L.length + nx ≤ 1099511627776) (hbase : B ≤ w.heap.size)
    (h : ∀ v' w', Row.Own E te w' B v' (L ++ K) → w.grownBy w' v.ownBlock → Below B w w' → (v'.ownBlock = v.ownBlock ∨ v'.ownBlock = some w.heap.size) → wpList P ops Q rest (a.put o.dst v') w') : wpList P ops Q (o :: rest) a w := by
  obtain ⟨i0, hi, hz0, hz1, hz2⟩ := T.info
  have hnews : ∀ j u, (Row.flat E K)[j]? = some u → w.cell? (q.add j) = some u := fun j u hu => by
    obtain ⟨b, off, e, _⟩ := hK.2 h0
    obtain rfl : q = ⟨b, off, none⟩ := Option.some.inj e
    exact Row.Lies.at hK j u hu
  have hl : (Row.flat E K).length = nx * E.k := by rw [Row.flat_length, hK.1]
  have hby : (L.length + nx) * bytes ≤ 140737488355328 := Nat.le_trans (Nat.mul_le_mul hlen T.small) (by decide)
  obtain ⟨v', w', hr, h2, h3, -⟩ := run_append_own (P := P) w B ts o.type te i0 z E.k bytes T.und hi hz0 hz1 hz2 T.zsize E.pos v L.length (Row.flat E L) hown q nx cx (Row.flat E K) hl hnews (Row.flat_one E K) (by unfold maxLen; omega) hby hbase
  have h4 := app_block (P := P) T.und hi hz0 hz1 hown hl hnews (Row.flat_one E K) h0 hlen (by rw [hz2]; exact hby) hr
  refine wpList_plain hgd fun k hk => ?_
  unfold Oper.wp
  simp only [execOp, ho, resolve, invoke, builtin, Sem.run_bind, Sem.run_pure, Result.andThen_ok, List.map_toArray, List.map_cons, List.map_nil, hs, hx, hr]
  refine hk _ _ (h v' w' ?_ h3 (Below.grown (Below.refl B w) h3 hbase (fun k e => (Row.Own.lt hown k e).1)) h4)
  unfold Row.Own
  rw [Row.flat_append, List.length_append, ← hK.1]
  exact h2
/-- A block of another kind is written; the events' row is not it. -/
theorem Play.other (h : Play none w B rb av Ls Es) {B2 : Nat} {k2 n2 : Nat} {v2 : Value} {x2 : List Value} (ho : w.ownsRow B2 86 k2 v2 n2 x2) (hg : w.grownBy w' v2.ownBlock) (hne : av.ownBlock = none ∨ av.ownBlock ≠ v2.ownBlock) : Play none w' B rb av Ls Es :=
  ⟨row_kept h.row ho hg (by decide), fun x hx => (h.bag x hx).kept ho hg (by decide) (by decide), fun x hx => vec_kept (h.vec x hx) ho hg (by decide), fun j hj e => row_kept (h.knew j hj e) ho hg (by decide), h.apart, World.ownsRow.kept h.evs hg hne, fun e he => row_kept (h.seen e he) ho hg (by decide), h.free⟩
/-- An event in a block of its own. -/
theorem own_event (w : World) (x : Er) (B : Nat) (hB : B ≤ w.heap.size) : OwnE (w.alloc (.cells x.cells.toArray 86)) B (.slice (some ⟨w.heap.size, 0, none⟩) 1 1) [x] :=
  Row.own_of (cur := x.cells.toArray) hB (by unfold World.alloc; simp) rfl (Nat.le_refl _) (by decide) rfl rfl
theorem event_cells {g : Nat} {x : Er} (h : OwnE w B (.slice (some ⟨g, 0, none⟩) 1 1) [x]) : w.cell? ⟨g, 0, none⟩ = some (.string ⟨x.t.toArray⟩) ∧ w.cell? ⟨g, 1, none⟩ = some (.string ⟨x.p.toArray⟩) ∧ w.cell? ⟨g, 2, none⟩ = some (.int .u64 (x.n : Int)) ∧ w.cell? ⟨g, 3, none⟩ = some x.sv ∧ ∀ j, w.frozen? ⟨g, j, none⟩ = false := by
  have hr : w.ownsRow B 86 4 (.slice (some ⟨g, 0, none⟩) 1 1) 1 (Row.flat eE [x]) := h
  have key : ∀ c (hc : c < 4), w.cell? ⟨g, c, none⟩ = (x.cells)[c]? := fun c hc => by
    rw [hr.cellAt _ (by omega)]
    have := Row.flat_get eE [x] 0 (by simp) c hc
    rw [Nat.zero_mul, Nat.zero_add] at this
    exact this
  exact ⟨key 0 (by decide), key 1 (by decide), key 2 (by decide), key 3 (by decide), fun j => World.ownsRow.frozenAt hr j⟩
/-- An event's number is set. -/
theorem event_set {g : Nat} {x : Er} (h : OwnE w B (.slice (some ⟨g, 0, none⟩) 1 1) [x]) (n : Nat) : OwnE (w.setCell ⟨g, 2, none⟩ (.int .u64 (n : Int))) B (.slice (some ⟨g, 0, none⟩) 1 1) [⟨x.t, x.p, n, x.sa, x.sc, x.seen⟩] ∧ w.grownBy (w.setCell ⟨g, 2, none⟩ (.int .u64 (n : Int))) (some g) := by
  have hr : w.ownsRow B 86 4 (.slice (some ⟨g, 0, none⟩) 1 1) 1 (Row.flat eE [x]) := h
  obtain ⟨s1, s2⟩ := World.ownsRow.stored hr 2 (.int .u64 (n : Int))
  exact ⟨s1, s2⟩
/-- An append of truths in a region that draws. -/
theorem step_seen {P : Program} {ts te : TypeId} {z : Value} {bytes : Nat} (T : Row.Typ P bE ts te z bytes) {ops : Array Oper} {o : Oper} {a : Act} {w : World} {K0 : Act → World → Prop} {Q : Exit → Act → World → Prop} {F : Prop} (hgd : o.guard = none) (s x : Operand)
    (ho : o.op = .call { callee := .builtin .append, args := #[s, x], argTypes := #[ts, ts] }) (B : Nat) (v : Value) (hs : a.eval s = v) (hown : Row.Own bE te w B v [])
    (q : Option Addr) (nx cx : Nat) (K : List Bool) (hx : a.eval x = .slice q nx cx) (hK : Row.Lies bE w q nx K)
    (hlen : nx ≤ 1099511627776) (hbase : B ≤ w.heap.size)
    (h : ∀ v' w', Row.Own bE te w' B v' K → w.grownBy w' v.ownBlock → Below B w w' → K0 (a.put o.dst v') w') : if Region.wanted o (yielded ops a.tmps) = true then Oper.wp P o a w K0 Q else F := by
  cases q with
  | some q =>
    exact Row.step_app T hgd s x ho B v [] hs hown q nx cx K hx hK (by simpa using hlen) hbase (fun v' w' h1 h2 h3 => h v' w' h1 h2 h3)
  | none =>
    have hw : Region.wanted o (yielded ops a.tmps) = true := by simp [Region.wanted, hgd]
    rw [if_pos hw]
    obtain ⟨i0, hi, hz0, hz1, hz2⟩ := T.info
    have hn0 : nx = 0 := by
      rcases Nat.eq_zero_or_pos nx with h | h
      · exact h
      · obtain ⟨_, _, e, _⟩ := hK.2 h; cases e
    have hl0 : K = [] := List.length_eq_zero_iff.1 (by rw [← hK.1]; exact hn0)
    subst hl0
    subst hn0
    have hrun : (Builtin.append_ #[ts, ts] o.type #[v, .slice none 0 cx]).run P w = .ok v w := by
      rcases hown.2 with ⟨rfl, _⟩ | ⟨g, cap, cur, rfl, _, _, hnc, _⟩
      · simp [Builtin.append_, run_underlying T.und, sizeOf, typeInfo, hi, Builtin.lenOf, Builtin.firstCells]
      · simp [Builtin.append_, run_underlying T.und, sizeOf, typeInfo, hi, Builtin.lenOf, Builtin.firstCells, storeCells]
    unfold Oper.wp
    simp [execOp, ho, resolve, invoke, builtin, hs, hx, hrun, Result.andThen]
    exact h v w hown (World.grownBy.refl _ _) (Below.refl _ _)
theorem own_empty (w : World) : OwnB (w.alloc (.cells #[] 4)) w.heap.size (.slice (some ⟨w.heap.size, 0, none⟩) 0 0) [] :=
  Row.own_of (cur := #[]) (Nat.le_refl _) (by unfold World.alloc; simp) rfl (Nat.le_refl _) (by decide) rfl rfl
theorem own_empty' (w : World) {g B : Nat} (hg : g = w.heap.size) (hB : B ≤ w.heap.size) : OwnB (w.alloc (.cells #[] 4)) B (.slice (some ⟨g, 0, none⟩) 0 0) [] := by
  subst hg
  exact Row.Own.base (own_empty w) hB
theorem own_event' (w : World) (x : Er) {g B : Nat} (hg : g = w.heap.size) (hB : B ≤ w.heap.size) : OwnE (w.alloc (.cells x.cells.toArray 86)) B (.slice (some ⟨g, 0, none⟩) 1 1) [x] := by
  subst hg
  exact own_event w x B hB
/-- An event's cells are all set. -/
theorem event_store {g : Nat} {z : Er} (h : OwnE w B (.slice (some ⟨g, 0, none⟩) 1 1) [z]) (x : Er) :
    OwnE ((((w.setCell ⟨g, 0, none⟩ (.string ⟨x.t.toArray⟩)).setCell ⟨g, 1, none⟩ (.string ⟨x.p.toArray⟩)).setCell ⟨g, 2, none⟩ (.int .u64 (x.n : Int))).setCell ⟨g, 3, none⟩ x.sv) B (.slice (some ⟨g, 0, none⟩) 1 1) [x] ∧
    w.grownBy ((((w.setCell ⟨g, 0, none⟩ (.string ⟨x.t.toArray⟩)).setCell ⟨g, 1, none⟩ (.string ⟨x.p.toArray⟩)).setCell ⟨g, 2, none⟩ (.int .u64 (x.n : Int))).setCell ⟨g, 3, none⟩ x.sv) (some g) := by
  have hr : w.ownsRow B 86 4 (.slice (some ⟨g, 0, none⟩) 1 1) 1 (Row.flat eE [z]) := h
  obtain ⟨s0, g0⟩ := World.ownsRow.stored hr 0 (.string ⟨x.t.toArray⟩)
  obtain ⟨s1, g1⟩ := World.ownsRow.stored s0 1 (.string ⟨x.p.toArray⟩)
  obtain ⟨s2, g2⟩ := World.ownsRow.stored s1 2 (.int .u64 (x.n : Int))
  obtain ⟨s3, g3⟩ := World.ownsRow.stored s2 3 x.sv
  exact ⟨s3, gtrans (gtrans (gtrans g0 g1) g2) g3⟩
end BagLaw
end Go.Proofs.Ytnlbgjghckbbcaa

namespace Go.Proofs.Ytnlbgjghckbbcaa
namespace BagEv
open Go.RowKit Go.Proofs.Ytnlbgjghckbbcaa.Mark Go.Proofs.Ytnlbgjghckbbcaa.Dots Go.Proofs.Ytnlbgjghckbbcaa.Bag
/-- A put or a take: of which text, by whom, its number, which ones its replica had seen. -/
structure Ev where
  t : List UInt8
  r : Nat
  n : Nat
  put : Bool
  seen : List Bool
def Kn (K : List Bool) (j : Nat) : Prop := K[j]? = some true
theorem Kn.lt {K : List Bool} {j : Nat} (h : Kn K j) : j < K.length := (List.getElem?_eq_some_iff.1 h).1
def or (A B : List Bool) : List Bool := List.zipWith (· || ·) A B
theorem kn_or {A B : List Bool} (h : A.length = B.length) (j : Nat) : Kn (or A B) j ↔ Kn A j ∨ Kn B j := by
  unfold Kn or
  rw [List.getElem?_zipWith]
  by_cases hj : j < A.length
  · rw [List.getElem?_eq_getElem hj, List.getElem?_eq_getElem (by omega)]
    simp
  · rw [List.getElem?_eq_none (by omega), List.getElem?_eq_none (by omega)]
    simp
theorem or_len {A B : List Bool} (h : A.length = B.length) : (or A B).length = A.length := by unfold or; rw [List.length_zipWith]; omega
theorem kn_snoc (K : List Bool) (b : Bool) (j : Nat) : Kn (K ++ [b]) j ↔ Kn K j ∨ (j = K.length ∧ b = true) := by
  unfold Kn
  rcases Nat.lt_trichotomy j K.length with h | h | h
  · rw [List.getElem?_append_left h]
    constructor
    · exact .inl
    · rintro (k | ⟨k, _⟩)
      · exact k
      · omega
  · subst h
    rw [List.getElem?_append_right (Nat.le_refl _), List.getElem?_eq_none (Nat.le_refl _)]
    simp
  · rw [List.getElem?_append_right (by omega), List.getElem?_eq_none (by simp; omega), List.getElem?_eq_none (by omega)]
    simp; omega
/-- What is known at one place: all that was seen by what is known; of each replica the first ones. -/
structure Good (es : List Ev) (K : List Bool) (v : Nat → Nat) : Prop where
  len : K.length = es.length
  shut : ∀ (j : Nat) (e : Ev), es[j]? = some e → Kn K j → ∀ i, Kn e.seen i → Kn K i
  first : ∀ (j : Nat) (e : Ev), es[j]? = some e → (Kn K j ↔ e.n ≤ v e.r)
  made : ∀ r, 1 ≤ v r → ∃ (j : Nat) (e : Ev), es[j]? = some e ∧ e.r = r
/-- A dot's place. -/
def path (r : Nat) : List UInt8 := [1, UInt8.ofNat (r + 1)]
def dot (r n : Nat) : M := ⟨path r, n⟩
/-- Whom no take, no other put, has seen. -/
def Live (es : List Ev) (K : List Bool) (t : List UInt8) (m : M) : Prop :=
  ∃ (j : Nat) (e : Ev), es[j]? = some e ∧ Kn K j ∧ e.put = true ∧ e.t = t ∧ m = dot e.r e.n ∧ ∀ (i : Nat) (f : Ev), es[i]? = some f → Kn K i → f.t = t → ¬ Kn f.seen j
/-- Events, each behind those that were seen. -/
structure Past (es : List Ev) (N : Nat) : Prop where
  seen : ∀ (j : Nat) (e : Ev), es[j]? = some e → e.seen.length = j
  one : ∀ (j : Nat) (e : Ev), es[j]? = some e → 1 ≤ e.n
  who : ∀ (j : Nat) (e : Ev), es[j]? = some e → e.r < N
  nums : ∀ (i j : Nat) (e f : Ev), es[i]? = some e → es[j]? = some f → e.r = f.r → e.n = f.n → i = j
theorem path_inj {r q : Nat} (hr : r < 200) (hq : q < 200) (h : path r = path q) : r = q := by
  unfold path at h
  simp only [List.cons.injEq, and_true, true_and] at h
  have := congrArg UInt8.toNat h
  simp at this
  omega
theorem path_ne (r : Nat) : path r ≠ [] := by unfold path; simp
variable {es : List Ev} {N : Nat} {A B : List Bool} {va vb : Nat → Nat}
theorem Good.or (a : Good es A va) (b : Good es B vb) : Good es (or A B) (fun r => max (va r) (vb r)) where
  len := by rw [or_len (by rw [a.len, b.len])]; exact a.len
  shut j e he hj i hi := by
    have hl : A.length = B.length := by rw [a.len, b.len]
    rw [kn_or hl] at hj ⊢
    rcases hj with h | h
    · exact .inl (a.shut j e he h i hi)
    · exact .inr (b.shut j e he h i hi)
  first j e he := by
    rw [kn_or (by rw [a.len, b.len]), a.first j e he, b.first j e he]
    omega
  made r hr := by
    rcases Nat.le_total (va r) (vb r) with h | h
    · exact b.made r (by omega)
    · exact a.made r (by omega)
/-- Does a vector have the dot of an event? -/
theorem Good.has (a : Good es A va) {j : Nat} {e : Ev} (he : es[j]? = some e) : (e.n ≤ va e.r) ↔ Kn A j := (a.first j e he).symm
/-- What two bags are together. -/
theorem live_or (hP : Past es N) (hN : N ≤ 200) (a : Good es A va) (b : Good es B vb) (ha hb : M → Prop) (hha : ∀ r n, r < N → 1 ≤ n → (ha (dot r n) ↔ n ≤ va r)) (hhb : ∀ r n, r < N → 1 ≤ n → (hb (dot r n) ↔ n ≤ vb r)) (t : List UInt8) (m : M) :
    (Live es A t m ∧ (Live es B t m ∨ ¬ hb m)) ∨ (Live es B t m ∧ (Live es A t m ∨ ¬ ha m)) ↔ Live es (or A B) t m := by
  have hl : A.length = B.length := by rw [a.len, b.len]
  -- one place, one event
  have uniq : ∀ {X Y : List Bool} {j e}, es[j]? = some e → m = dot e.r e.n → Live es Y t m → Kn Y j ∧ ∀ (i : Nat) (f : Ev), es[i]? = some f → Kn Y i → f.t = t → ¬ Kn f.seen j := by
    rintro X Y j e he hm ⟨i, f, hf, hk, _, _, hm', hd⟩
    rw [hm] at hm'
    unfold dot at hm'
    simp only [M.mk.injEq] at hm'
    have hr := path_inj (Nat.lt_of_lt_of_le (hP.who _ _ he) hN) (Nat.lt_of_lt_of_le (hP.who _ _ hf) hN) hm'.1
    have hij := hP.nums j i e f he hf hr hm'.2
    subst hij
    exact ⟨hk, hd⟩
  have half : ∀ {X Y : List Bool} {vx vy : Nat → Nat} (hy : M → Prop), Good es X vx → Good es Y vy → (∀ r n, r < N → 1 ≤ n → (hy (dot r n) ↔ n ≤ vy r)) → (∀ j, Kn X j ∨ Kn Y j ↔ Kn (or A B) j) → Live es X t m → (Live es Y t m ∨ ¬ hy m) → Live es (or A B) t m := by
    intro X Y vx vy hy gx gy hhy hor ⟨j, e, he, hk, hp, ht, hm, hd⟩ hother
    refine ⟨j, e, he, (hor j).1 (.inl hk), hp, ht, hm, fun i f hf hi hft hs => ?_⟩
    rcases (hor i).2 hi with hx | hyi
    · exact hd i f hf hx hft hs
    · rcases hother with h | h
      · exact (uniq (X := X) he hm h).2 i f hf hyi hft hs
      · refine h ?_
        rw [hm, hhy _ _ (hP.who _ _ he) (hP.one _ _ he), gy.has he]
        exact gy.shut i f hf hyi j hs
  constructor
  · rintro (⟨h1, h2⟩ | ⟨h1, h2⟩)
    · exact half hb a b hhb (fun j => (kn_or hl j).symm) h1 h2
    · exact half ha b a hha (fun j => by rw [kn_or hl]; exact Or.comm) h1 h2
  · rintro ⟨j, e, he, hk, hp, ht, hm, hd⟩
    have part : ∀ {X Y : List Bool} {vx vy : Nat → Nat} (hy : M → Prop), Good es X vx → Good es Y vy → (∀ r n, r < N → 1 ≤ n → (hy (dot r n) ↔ n ≤ vy r)) → (∀ j, Kn X j ∨ Kn Y j ↔ Kn (or A B) j) → Kn X j → Live es X t m ∧ (Live es Y t m ∨ ¬ hy m) := by
      intro X Y vx vy hy gx gy hhy hor hx
      refine ⟨⟨j, e, he, hx, hp, ht, hm, fun i f hf hi => hd i f hf ((hor i).1 (.inl hi))⟩, ?_⟩
      by_cases hyj : Kn Y j
      · exact .inl ⟨j, e, he, hyj, hp, ht, hm, fun i f hf hi => hd i f hf ((hor i).1 (.inr hi))⟩
      · refine .inr fun h => hyj ?_
        rw [hm, hhy _ _ (hP.who _ _ he) (hP.one _ _ he), gy.has he] at h
        exact h
    rcases (kn_or hl j).1 hk with h | h
    · exact .inl (part hb a b hhb (fun j => (kn_or hl j).symm) h)
    · exact .inr (part ha b a hha (fun j => by rw [kn_or hl]; exact Or.comm) h)
-- a deed
theorem get_snoc {es : List Ev} {e f : Ev} {j : Nat} : (es ++ [e])[j]? = some f ↔ es[j]? = some f ∨ (j = es.length ∧ f = e) := by
  rcases Nat.lt_trichotomy j es.length with h | h | h
  · rw [List.getElem?_append_left h]
    constructor
    · exact .inl
    · rintro (k | ⟨k, _⟩)
      · exact k
      · omega
  · subst h
    rw [List.getElem?_append_right (Nat.le_refl _), List.getElem?_eq_none (Nat.le_refl _)]
    simp [eq_comm]
  · rw [List.getElem?_append_right (by omega), List.getElem?_eq_none (by simp; omega), List.getElem?_eq_none (by omega)]
    simp; omega
theorem get_lt {es : List Ev} {f : Ev} {j : Nat} (h : es[j]? = some f) : j < es.length := (List.getElem?_eq_some_iff.1 h).1
/-- The replicas of a play: the events; of each: what it knows, its vector. -/
structure Inv (N : Nat) (es : List Ev) (K : Nat → List Bool) (v : Nat → Nat → Nat) : Prop where
  past : Past es N
  good : ∀ k, k < N → Good es (K k) (v k)
  own : ∀ (j : Nat) (e : Ev), es[j]? = some e → e.n ≤ v e.r e.r
  most : ∀ k r, k < N → r < N → v k r ≤ v r r
  small : ∀ k r, v k r ≤ es.length
  out : ∀ k r, N ≤ r → v k r = 0
def ev (K : Nat → List Bool) (v : Nat → Nat → Nat) (t : List UInt8) (r : Nat) (p : Bool) : Ev := ⟨t, r, v r r + 1, p, K r⟩
def K1 (K : Nat → List Bool) (r : Nat) : Nat → List Bool := fun k => K k ++ [k == r]
def v1 (v : Nat → Nat → Nat) (r : Nat) : Nat → Nat → Nat := fun k q => if k = r ∧ q = r then v r r + 1 else v k q
variable {K : Nat → List Bool} {v : Nat → Nat → Nat}
theorem inv_nil (N : Nat) : Inv N [] (fun _ => []) (fun _ _ => 0) where
  past := ⟨fun j e h => by simp at h, fun j e h => by simp at h, fun j e h => by simp at h, fun i j e f h => by simp at h⟩
  good k _ := ⟨rfl, fun j e h => by simp at h, fun j e h => by simp at h, fun r h => absurd h (by omega)⟩
  own j e h := by simp at h
  most _ _ _ _ := Nat.le_refl _
  small _ _ := Nat.le_refl _
  out _ _ _ := rfl
theorem inv_deed (h : Inv N es K v) (t : List UInt8) {r : Nat} (hr : r < N) (p : Bool) : Inv N (es ++ [ev K v t r p]) (K1 K r) (v1 v r) where
  past := by
    refine ⟨fun j e he => ?_, fun j e he => ?_, fun j e he => ?_, fun i j e f he hf h1 h2 => ?_⟩
    · rcases get_snoc.1 he with he | ⟨rfl, rfl⟩
      · exact h.past.seen j e he
      · exact (h.good r hr).len
    · rcases get_snoc.1 he with he | ⟨rfl, rfl⟩
      · exact h.past.one j e he
      · exact Nat.succ_le_succ (Nat.zero_le _)
    · rcases get_snoc.1 he with he | ⟨rfl, rfl⟩
      · exact h.past.who j e he
      · exact hr
    · rcases get_snoc.1 he with he | ⟨rfl, rfl⟩ <;> rcases get_snoc.1 hf with hf | ⟨rfl, rfl⟩
      · exact h.past.nums i j e f he hf h1 h2
      · have := h.own i e he
        have h1' : e.r = r := h1
        have h2' : e.n = v r r + 1 := h2
        rw [h1', h2'] at this; omega
      · have := h.own j f hf
        have h1' : r = f.r := h1
        have h2' : v r r + 1 = f.n := h2
        rw [← h1', ← h2'] at this; omega
      · rfl
  good k hk := by
    have g := h.good k hk
    have gr := h.good r hr
    refine ⟨by unfold K1; simp [g.len], fun j e he hj i hi => ?_, fun j e he => ?_, fun q hq => ?_⟩
    · unfold K1 at hj ⊢
      rw [kn_snoc] at hj ⊢
      rcases get_snoc.1 he with he | ⟨rfl, rfl⟩
      · rcases hj with hj | ⟨hj, _⟩
        · exact .inl (g.shut j e he hj i hi)
        · have := get_lt he; rw [g.len] at hj; omega
      · rcases hj with hj | ⟨_, hj⟩
        · have := hj.lt; rw [g.len] at this; omega
        · have hkr : k = r := by simpa using hj
          subst hkr
          exact .inl hi
    · unfold K1
      rw [kn_snoc]
      rcases get_snoc.1 he with he' | ⟨rfl, rfl⟩
      · have hlt := get_lt he'
        have ho' := h.own j e he'
        have h1 : (Kn (K k) j ∨ j = (K k).length ∧ (k == r) = true) ↔ Kn (K k) j := by
          rw [g.len]
          constructor
          · rintro (a | ⟨a, _⟩)
            · exact a
            · omega
          · exact .inl
        rw [h1, g.first j e he']
        unfold v1
        split
        · rename_i c
          obtain ⟨rfl, c2⟩ := c
          rw [c2] at ho' ⊢
          omega
        · rfl
      · rw [g.len]
        have h1 : ¬ Kn (K k) es.length := fun a => by have := a.lt; rw [g.len] at this; omega
        constructor
        · rintro (a | ⟨_, a⟩)
          · exact absurd a h1
          · have hkr : k = r := by simpa using a
            subst hkr
            unfold v1 ev
            simp
        · intro a
          refine .inr ⟨rfl, ?_⟩
          unfold v1 ev at a
          simp only at a
          split at a
          · rename_i c; simp [c.1]
          · have := h.most k r hk hr
            omega
    · unfold v1 at hq
      split at hq
      · rename_i c
        exact ⟨es.length, ev K v t r p, get_snoc.2 (.inr ⟨rfl, rfl⟩), c.2.symm⟩
      · obtain ⟨j, e, he, e2⟩ := g.made q hq
        exact ⟨j, e, get_snoc.2 (.inl he), e2⟩
  own j e he := by
    unfold v1
    rcases get_snoc.1 he with he | ⟨rfl, rfl⟩
    · have := h.own j e he
      split
      · rename_i c; rw [c.1] at this; omega
      · exact this
    · unfold ev; simp
  most k q hk hq := by
    unfold v1
    have := h.most k q hk hq
    by_cases c : q = r
    · subst c
      by_cases c2 : k = q
      · subst c2; simp
      · rw [if_neg (fun h => c2 h.1), if_pos ⟨rfl, rfl⟩]; omega
    · rw [if_neg (fun h => c h.2), if_neg (fun h => c h.2)]; exact this
  small k q := by
    unfold v1
    rw [List.length_append, List.length_singleton]
    have := h.small k q
    have := h.small r r
    split <;> omega
  out k q hq := by
    unfold v1
    rw [if_neg (fun c => by omega)]
    exact h.out k q hq
def K3 (K : Nat → List Bool) (k o : Nat) : Nat → List Bool := fun i => if i = k then or (K k) (K o) else K i
def v3 (v : Nat → Nat → Nat) (k o : Nat) : Nat → Nat → Nat := fun i q => if i = k then max (v k q) (v o q) else v i q
theorem inv_join (h : Inv N es K v) {k o : Nat} (hk : k < N) (ho : o < N) : Inv N es (K3 K k o) (v3 v k o) where
  past := h.past
  good i hi := by
    unfold K3 v3
    by_cases c : i = k
    · simp only [c, if_true]; exact (h.good k hk).or (h.good o ho)
    · simp only [c, if_false]; exact h.good i hi
  own j e he := by
    unfold v3
    have := h.own j e he
    split
    · rename_i c; rw [c] at this ⊢; omega
    · exact this
  most i q hi hq := by
    unfold v3
    have h1 := h.most i q hi hq
    have h2 := h.most k q hk hq
    have h3 := h.most o q ho hq
    by_cases c2 : q = k
    · subst c2
      rw [if_pos rfl]
      split <;> omega
    · rw [if_neg c2]
      split <;> omega
  small i q := by
    unfold v3
    have := h.small i q
    have := h.small k q
    have := h.small o q
    split <;> omega
  out i q hq := by
    unfold v3
    rw [h.out k q hq, h.out o q hq, h.out i q hq]
    simp
-- what the deeds make of the live ones
theorem live_other (h : Inv N es K v) (t : List UInt8) {r : Nat} (p : Bool) {k : Nat} (hk : k < N) (hkr : k ≠ r) (t' : List UInt8) (m : M) : Live (es ++ [ev K v t r p]) (K1 K r k) t' m ↔ Live es (K k) t' m := by
  have g := h.good k hk
  have hb : (k == r) = false := by simpa using hkr
  have hkn : ∀ j, Kn (K1 K r k) j ↔ Kn (K k) j := fun j => by
    unfold K1
    rw [kn_snoc, hb]
    simp
  constructor
  · rintro ⟨j, e, he, hj, h1, h2, h3, h4⟩
    rw [hkn] at hj
    have hjl := hj.lt
    rw [g.len] at hjl
    rcases get_snoc.1 he with he | ⟨rfl, _⟩
    · exact ⟨j, e, he, hj, h1, h2, h3, fun i f hf hi => h4 i f (get_snoc.2 (.inl hf)) ((hkn i).2 hi)⟩
    · omega
  · rintro ⟨j, e, he, hj, h1, h2, h3, h4⟩
    refine ⟨j, e, get_snoc.2 (.inl he), (hkn j).2 hj, h1, h2, h3, fun i f hf hi => ?_⟩
    rw [hkn] at hi
    have hil := hi.lt
    rw [g.len] at hil
    rcases get_snoc.1 hf with hf | ⟨rfl, _⟩
    · exact h4 i f hf hi
    · omega
theorem live_own (h : Inv N es K v) (t : List UInt8) {r : Nat} (hr : r < N) (p : Bool) (t' : List UInt8) (m : M) :
    Live (es ++ [ev K v t r p]) (K1 K r r) t' m ↔ (t' ≠ t ∧ Live es (K r) t' m) ∨ (p = true ∧ t' = t ∧ m = dot r (v r r + 1)) := by
  have g := h.good r hr
  have hkn : ∀ j, Kn (K1 K r r) j ↔ Kn (K r) j ∨ j = es.length := fun j => by
    unfold K1
    rw [kn_snoc, g.len]
    simp
  constructor
  · rintro ⟨j, e, he, hj, h1, h2, h3, h4⟩
    rcases get_snoc.1 he with he | ⟨rfl, rfl⟩
    · have hlt := get_lt he
      have hjk : Kn (K r) j := by
        rcases (hkn j).1 hj with a | a
        · exact a
        · omega
      refine .inl ⟨fun c => ?_, j, e, he, hjk, h1, h2, h3, fun i f hf hi => h4 i f (get_snoc.2 (.inl hf)) ((hkn i).2 (.inl hi))⟩
      exact h4 es.length (ev K v t r p) (get_snoc.2 (.inr ⟨rfl, rfl⟩)) ((hkn _).2 (.inr rfl)) c.symm hjk
    · exact .inr ⟨h1, h2.symm, h3⟩
  · rintro (⟨hne, j, e, he, hj, h1, h2, h3, h4⟩ | ⟨hp, rfl, rfl⟩)
    · refine ⟨j, e, get_snoc.2 (.inl he), (hkn j).2 (.inl hj), h1, h2, h3, fun i f hf hi ft => ?_⟩
      rcases get_snoc.1 hf with hf | ⟨rfl, rfl⟩
      · have hlt := get_lt hf
        refine h4 i f hf ?_ ft
        rcases (hkn i).1 hi with a | a
        · exact a
        · omega
      · exact absurd ft.symm hne
    · refine ⟨es.length, ev K v t' r p, get_snoc.2 (.inr ⟨rfl, rfl⟩), (hkn _).2 (.inr rfl), hp, rfl, rfl, fun i f hf hi ft hs => ?_⟩
      have hsl := hs.lt
      rcases get_snoc.1 hf with hf | ⟨rfl, rfl⟩
      · have := h.past.seen i f hf
        have := get_lt hf
        omega
      · have : (ev K v t' r p).seen.length = es.length := g.len
        omega
/-- Is a text there? -/
def There (es : List Ev) (K : List Bool) (t : List UInt8) : Prop := ∃ m, Live es K t m
/-- What the law's model reckons. -/
def Model (es : List Ev) (K : List Bool) (t : List UInt8) : Prop :=
  ∃ (j : Nat) (e : Ev), es[j]? = some e ∧ Kn K j ∧ e.put = true ∧ e.t = t ∧ ∀ (i : Nat) (f : Ev), es[i]? = some f → j < i → Kn K i → f.t = t → ¬ Kn f.seen j
theorem model_iff (h : Past es N) (K : List Bool) (t : List UInt8) : Model es K t ↔ There es K t := by
  constructor
  · rintro ⟨j, e, he, h1, h2, h3, h4⟩
    refine ⟨_, j, e, he, h1, h2, h3, rfl, fun i f hf hi ft hs => ?_⟩
    have := hs.lt
    rw [h.seen i f hf] at this
    exact h4 i f hf this hi ft hs
  · rintro ⟨m, j, e, he, h1, h2, h3, _, h4⟩
    exact ⟨j, e, he, h1, h2, h3, fun i f hf _ hi ft hs => h4 i f hf hi ft hs⟩
end BagEv
end Go.Proofs.Ytnlbgjghckbbcaa
