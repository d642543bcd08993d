/- Merged texts: CoderPlain, CoderMays. -/
import Derived.Test.YtnpjkmomllkhpaaGreatTmNumA
import Derived.Test.YtnpjkmomllkhpaaGreatTmTextA
import Derived.Test.YtnpjkmomllkhpaaGreatTmBagA
import Derived.Test.YtnpjkmomllkhpaaGreatTmDotA
import Derived.Test.YtnpjkmomllkhpaaGreatTmDotOf
import Derived.Test.YtnpjkmomllkhpaaGreatTmBagMay
namespace Go.Proofs.YtnpjkmomllkhpaaGreat
namespace Coder
open Go.Proofs.YtnpjkmomllkhpaaGreat.Num Go.Proofs.YtnpjkmomllkhpaaGreat.Mark Go.Proofs.YtnpjkmomllkhpaaGreat.Bag
def tx (l : List UInt8) : List UInt8 := upL l.length ++ l
def tb (b : Bool) : List UInt8 := [if b then 1 else 0]
def lst {α : Type} (f : α → List UInt8) (L : List α) : List UInt8 := upL L.length ++ L.flatMap f
/-- A path's count. -/
structure C where
  p : List UInt8
  a : Nat
  b : Nat
/-- A cell. -/
structure Cl where
  s : Nat
  t : List UInt8
  g : Bool
def Cl.zero : Cl := ⟨0, [], false⟩
/-- An entry. -/
structure E where
  k : List UInt8
  s : List M
  c : List C
  i : List It
  l : Cl
/-- A state. -/
structure S where
  a : List M
  e : List E
  p : List (List UInt8)
/-- An update. -/
structure O where
  d : Nat
  k : List UInt8
  n : Int
  t : List UInt8
def kd (k : List UInt8) : Nat := Text.kind (Text.runes k)
def mk (m : M) : List UInt8 := tx m.p ++ upL m.n
def ct (c : C) : List UInt8 := tx c.p ++ (upL c.a ++ upL c.b)
def itb (x : It) : List UInt8 := tx x.t ++ lst mk x.d
def cl (c : Cl) : List UInt8 := upL c.s ++ tx c.t ++ tb c.g
def body (e : E) : List UInt8 := if kd e.k = 1 then lst ct e.c else if kd e.k = 2 then lst itb e.i else if kd e.k = 3 then cl e.l else []
def en (e : E) : List UInt8 := (tx e.k ++ lst mk e.s) ++ body e
def stb (s : S) : List UInt8 := lst mk s.a ++ lst en s.e ++ lst tx s.p
def dl (b : List M) (s : S) : List UInt8 := lst mk b ++ stb s
def opb (o : O) : List UInt8 := upL o.d ++ tx o.k ++ upL (turn o.n).toNat ++ tx o.t

/-- What is written is told apart, whatever stands behind. -/
def Sp {α : Type} (f : α → List UInt8) (P : α → Prop) : Prop := ∀ x y, P x → P y → ∀ r t, f x ++ r = f y ++ t → x = y ∧ r = t
theorem sp_up : Sp upL (· < 18446744073709551616) := by
  intro n m hn hm r t h
  have h1 := rd_upL n hn r
  have h2 := rd_upL m hm t
  rw [h, h2] at h1
  simp only [Prod.mk.injEq] at h1
  obtain ⟨h3, _, _⟩ := h1
  subst h3
  exact ⟨rfl, List.append_cancel_left h⟩
theorem sp_tx : Sp tx (·.length < 18446744073709551616) := by
  intro x y hx hy r t h
  unfold tx at h
  rw [List.append_assoc, List.append_assoc] at h
  obtain ⟨e1, e2⟩ := sp_up _ _ hx hy _ _ h
  have := List.append_inj e2 e1
  exact this
theorem sp_tb : Sp tb (fun _ => True) := by
  intro x y _ _ r t h
  unfold tb at h
  simp only [List.cons_append, List.nil_append, List.cons.injEq] at h
  refine ⟨?_, h.2⟩
  have h1 := h.1
  cases x <;> cases y <;> first | rfl | exact absurd h1 (by decide)
theorem sp_each {α : Type} {f : α → List UInt8} {P : α → Prop} (h : Sp f P) : ∀ (L K : List α), L.length = K.length → (∀ x ∈ L, P x) → (∀ x ∈ K, P x) → ∀ r t, L.flatMap f ++ r = K.flatMap f ++ t → L = K ∧ r = t
  | [], [], _, _, _, r, t, e => ⟨rfl, e⟩
  | [], _ :: _, hl, _, _, _, _, _ => by simp at hl
  | _ :: _, [], hl, _, _, _, _, _ => by simp at hl
  | x :: L, y :: K, hl, hL, hK, r, t, e => by
    rw [List.flatMap_cons, List.flatMap_cons, List.append_assoc, List.append_assoc] at e
    obtain ⟨e1, e2⟩ := h x y (hL x (List.mem_cons_self ..)) (hK y (List.mem_cons_self ..)) _ _ e
    obtain ⟨e3, e4⟩ := sp_each h L K (by simpa using hl) (fun z hz => hL z (List.mem_cons_of_mem _ hz)) (fun z hz => hK z (List.mem_cons_of_mem _ hz)) r t e2
    exact ⟨by rw [e1, e3], e4⟩
def All {α : Type} (P : α → Prop) (L : List α) : Prop := L.length < 18446744073709551616 ∧ ∀ x ∈ L, P x
theorem sp_lst {α : Type} {f : α → List UInt8} {P : α → Prop} (h : Sp f P) : Sp (lst f) (All P) := by
  intro L K hL hK r t e
  unfold lst at e
  rw [List.append_assoc, List.append_assoc] at e
  obtain ⟨e1, e2⟩ := sp_up _ _ hL.1 hK.1 _ _ e
  exact sp_each h L K e1 hL.2 hK.2 r t e2
def FM (m : M) : Prop := m.p.length < 18446744073709551616 ∧ m.n < 18446744073709551616
def FC (c : C) : Prop := c.p.length < 18446744073709551616 ∧ c.a < 18446744073709551616 ∧ c.b < 18446744073709551616
def FI (x : It) : Prop := x.t.length < 18446744073709551616 ∧ All FM x.d
def FL (c : Cl) : Prop := c.s < 18446744073709551616 ∧ c.t.length < 18446744073709551616
theorem sp_mk : Sp mk FM := by
  intro x y hx hy r t h
  unfold mk at h
  rw [List.append_assoc, List.append_assoc] at h
  obtain ⟨e1, h⟩ := sp_tx _ _ hx.1 hy.1 _ _ h
  obtain ⟨e2, h⟩ := sp_up _ _ hx.2 hy.2 _ _ h
  exact ⟨M.ext' e1 e2, h⟩
theorem sp_ct : Sp ct FC := by
  intro x y hx hy r t h
  unfold ct at h
  rw [List.append_assoc, List.append_assoc, List.append_assoc, List.append_assoc] at h
  obtain ⟨e1, h⟩ := sp_tx _ _ hx.1 hy.1 _ _ h
  obtain ⟨e2, h⟩ := sp_up _ _ hx.2.1 hy.2.1 _ _ h
  obtain ⟨e3, h⟩ := sp_up _ _ hx.2.2 hy.2.2 _ _ h
  refine ⟨?_, h⟩
  cases x; cases y; simp_all
theorem sp_it : Sp itb FI := by
  intro x y hx hy r t h
  unfold itb at h
  rw [List.append_assoc, List.append_assoc] at h
  obtain ⟨e1, h⟩ := sp_tx _ _ hx.1 hy.1 _ _ h
  obtain ⟨e2, h⟩ := sp_lst sp_mk _ _ hx.2 hy.2 _ _ h
  refine ⟨?_, h⟩
  cases x; cases y; simp_all
theorem sp_cl : Sp cl FL := by
  intro x y hx hy r t h
  unfold cl at h
  rw [List.append_assoc, List.append_assoc, List.append_assoc, List.append_assoc] at h
  obtain ⟨e1, h⟩ := sp_up _ _ hx.1 hy.1 _ _ h
  obtain ⟨e2, h⟩ := sp_tx _ _ hx.2 hy.2 _ _ h
  obtain ⟨e3, h⟩ := sp_tb _ _ trivial trivial _ _ h
  refine ⟨?_, h⟩
  cases x; cases y; simp_all
/-- What an entry is that may be written: sizes, and nothing but what its kind has. -/
structure FE (e : E) : Prop where
  k : e.k.length < 18446744073709551616
  s : All FM e.s
  c : All FC e.c
  i : All FI e.i
  l : FL e.l
  k1 : kd e.k = 1 → e.i = [] ∧ e.l = Cl.zero
  k2 : kd e.k = 2 → e.c = [] ∧ e.l = Cl.zero
  k3 : kd e.k = 3 → e.c = [] ∧ e.i = []
  is : kd e.k = 1 ∨ kd e.k = 2 ∨ kd e.k = 3
theorem E.ext' {a b : E} (h1 : a.k = b.k) (h2 : a.s = b.s) (h3 : a.c = b.c) (h4 : a.i = b.i) (h5 : a.l = b.l) : a = b := by cases a; cases b; simp_all
theorem sp_en : Sp en FE := by
  intro x y hx hy r t h
  unfold en at h
  rw [List.append_assoc, List.append_assoc, List.append_assoc, List.append_assoc] at h
  obtain ⟨e1, h⟩ := sp_tx _ _ hx.k hy.k _ _ h
  obtain ⟨e2, h⟩ := sp_lst sp_mk _ _ hx.s hy.s _ _ h
  unfold body at h
  rw [← e1] at h
  have y1 := hy.k1
  have y2 := hy.k2
  have y3 := hy.k3
  rw [← e1] at y1 y2 y3
  rcases hx.is with k | k | k
  · rw [if_pos k, if_pos k] at h
    obtain ⟨e3, h⟩ := sp_lst sp_ct _ _ hx.c hy.c _ _ h
    exact ⟨E.ext' e1 e2 e3 ((hx.k1 k).1.trans (y1 k).1.symm) ((hx.k1 k).2.trans (y1 k).2.symm), h⟩
  · have n1 : ¬ kd x.k = 1 := by omega
    rw [if_neg n1, if_neg n1, if_pos k, if_pos k] at h
    obtain ⟨e3, h⟩ := sp_lst sp_it _ _ hx.i hy.i _ _ h
    exact ⟨E.ext' e1 e2 ((hx.k2 k).1.trans (y2 k).1.symm) e3 ((hx.k2 k).2.trans (y2 k).2.symm), h⟩
  · have n1 : ¬ kd x.k = 1 := by omega
    have n2 : ¬ kd x.k = 2 := by omega
    rw [if_neg n1, if_neg n1, if_neg n2, if_neg n2, if_pos k, if_pos k] at h
    obtain ⟨e3, h⟩ := sp_cl _ _ hx.l hy.l _ _ h
    exact ⟨E.ext' e1 e2 ((hx.k3 k).1.trans (y3 k).1.symm) ((hx.k3 k).2.trans (y3 k).2.symm) e3, h⟩
structure FS (s : S) : Prop where
  a : All FM s.a
  e : All FE s.e
  p : All (fun l : List UInt8 => l.length < 18446744073709551616) s.p
theorem sp_st : Sp stb FS := by
  intro x y hx hy r t h
  unfold stb at h
  rw [List.append_assoc, List.append_assoc, List.append_assoc, List.append_assoc] at h
  obtain ⟨e1, h⟩ := sp_lst sp_mk _ _ hx.a hy.a _ _ h
  obtain ⟨e2, h⟩ := sp_lst sp_en _ _ hx.e hy.e _ _ h
  obtain ⟨e3, h⟩ := sp_lst sp_tx _ _ hx.p hy.p _ _ h
  refine ⟨?_, h⟩
  cases x; cases y; simp_all
theorem dl_inj {b c : List M} {x y : S} (hb : All FM b) (hc : All FM c) (hx : FS x) (hy : FS y) (h : dl b x = dl c y) : b = c ∧ x = y := by
  unfold dl at h
  obtain ⟨e1, h⟩ := sp_lst sp_mk _ _ hb hc _ _ h
  obtain ⟨e2, _⟩ := sp_st _ _ hx hy [] [] (by rw [List.append_nil, List.append_nil]; exact h)
  exact ⟨e1, e2⟩
structure FO (o : O) : Prop where
  d : o.d < 18446744073709551616
  k : o.k.length < 18446744073709551616
  n : -9223372036854775808 ≤ o.n ∧ o.n ≤ 9223372036854775807
  t : o.t.length < 18446744073709551616
theorem sp_op : Sp opb FO := by
  intro x y hx hy r t h
  unfold opb at h
  rw [List.append_assoc, List.append_assoc, List.append_assoc, List.append_assoc, List.append_assoc, List.append_assoc] at h
  obtain ⟨e1, h⟩ := sp_up _ _ hx.d hy.d _ _ h
  obtain ⟨e2, h⟩ := sp_tx _ _ hx.k hy.k _ _ h
  have bx := turn_bound x.n hx.n.1 hx.n.2
  have by' := turn_bound y.n hy.n.1 hy.n.2
  obtain ⟨e3, h⟩ := sp_up _ _ (by omega) (by omega) _ _ h
  obtain ⟨e4, h⟩ := sp_tx _ _ hx.t hy.t _ _ h
  have e5 : x.n = y.n := by
    have : turn x.n = turn y.n := by omega
    rw [← back_turn x.n, ← back_turn y.n, this]
  refine ⟨?_, h⟩
  cases x; cases y; simp_all
/-- One's bytes are the beginning of another's: both are one. -/
theorem en_first {x y : E} (hx : FE x) (hy : FE y) {r : List UInt8} (h : en y = en x ++ r) : x = y := by
  refine (sp_en x y hx hy r [] ?_).1
  rw [List.append_nil, h]
theorem en_inj {x y : E} (hx : FE x) (hy : FE y) (h : en x = en y) : x = y := en_first (r := []) hx hy (by rw [List.append_nil, h])
theorem op_inj {x y : O} (hx : FO x) (hy : FO y) (h : opb x = opb y) : x = y := (sp_op x y hx hy [] [] (by rw [List.append_nil, List.append_nil, h])).1
end Coder
end Go.Proofs.YtnpjkmomllkhpaaGreat

namespace Go.Proofs.YtnpjkmomllkhpaaGreat
namespace Coder
open Go.Proofs.YtnpjkmomllkhpaaGreat.Num Go.Proofs.YtnpjkmomllkhpaaGreat.Mark Go.Proofs.YtnpjkmomllkhpaaGreat.Bag Go.Proofs.YtnpjkmomllkhpaaGreat.Dots
/-- Is the text not behind the one before it? -/
def befT (o : Option (List UInt8)) (t : List UInt8) : Bool := match o with | none => false | some p => !(decide (TL p t))
def mayCt : Option (List UInt8) → List C → Bool
  | _, [] => true
  | o, c :: l => (!((decide (c.a = 0) && decide (c.b = 0)) || befT o c.p)) && mayCt (some c.p) l
def seenC (s : List M) (l : List C) : Bool := l.all fun c => decide (c.p = []) || !decide (ofL s c.p = 0)
def seenI (s : List M) (l : List It) : Bool := l.all fun x => x.d.all fun m => hasL s m.p m.n
def zeroL (c : Cl) : Bool := decide (c.s = 0) && (decide (c.t = []) && !c.g)
def mayCl (c : Cl) : Bool := if c.s = 0 then !c.g && decide (c.t = []) else decide (c.s ≤ 281474976710656) && decide (c.t.length ≤ 4096) && !(c.g && !decide (c.t = []))
def kinds (e : E) : Bool :=
  if kd e.k = 1 then mayCt none e.c && (seenC e.s e.c && (decide (e.i.length = 0) && zeroL e.l))
  else if kd e.k = 2 then mayB e.i && (seenI e.s e.i && (decide (e.c.length = 0) && zeroL e.l))
  else if kd e.k = 3 then mayCl e.l && (decide (e.c.length = 0) && decide (e.i.length = 0))
  else false
def mayE (e : E) : Bool := mayL e.s && (!decide (e.s.length = 0) && kinds e)
def covB (L K : List M) : Bool := K.all fun m => decide (ofL K m.p ≤ ofL L m.p)
def mayEs (s : List M) : Option (List UInt8) → List E → Bool
  | _, [] => true
  | o, e :: l => (mayE e && (!befT o e.k && covB s e.s)) && mayEs s (some e.k) l
def mayPr (s : List M) : Option (List UInt8) → List (List UInt8) → Bool
  | _, [] => true
  | o, p :: l => (!decide (p = []) && (!befT o p && decide (ofL s p = 0))) && mayPr s (some p) l
def mayS (x : S) : Bool := mayL x.a && (mayEs x.a none x.e && mayPr x.a none x.p)
def mayD (b : List M) (x : S) : Bool := mayL b && mayS x
def mayO (o : O) : Bool := decide (1 ≤ o.d) && (decide (o.d ≤ 5) && (!decide (kd o.k = 0) && decide (o.t.length ≤ 4096)))
/-- What came in is of a size. -/
structure WE (e : E) : Prop where
  k : e.k.length < 18446744073709551616
  s : All FM e.s
  c : All FC e.c
  i : All FI e.i
  l : FL e.l
structure WS (s : S) : Prop where
  a : All FM s.a
  e : All WE s.e
  p : All (fun l : List UInt8 => l.length < 18446744073709551616) s.p
theorem zeroL_is {c : Cl} (h : zeroL c = true) : c = Cl.zero := by
  unfold zeroL at h
  simp only [Bool.and_eq_true, decide_eq_true_eq, Bool.not_eq_true'] at h
  obtain ⟨h1, h2, h3⟩ := h
  cases c
  simp only at h1 h2 h3
  subst h1; subst h2; subst h3
  rfl
theorem fe_of_may {e : E} (w : WE e) (h : mayE e = true) : FE e := by
  unfold mayE at h
  simp only [Bool.and_eq_true] at h
  obtain ⟨_, _, h⟩ := h
  unfold kinds at h
  have L0 : ∀ {α : Type} {l : List α}, l.length = 0 → l = [] := fun h => List.length_eq_zero_iff.1 h
  refine ⟨w.k, w.s, w.c, w.i, w.l, fun k => ?_, fun k => ?_, fun k => ?_, ?_⟩
  · rw [if_pos k] at h
    simp only [Bool.and_eq_true, decide_eq_true_eq] at h
    exact ⟨L0 h.2.2.1, zeroL_is h.2.2.2⟩
  · rw [if_neg (by omega), if_pos k] at h
    simp only [Bool.and_eq_true, decide_eq_true_eq] at h
    exact ⟨L0 h.2.2.1, zeroL_is h.2.2.2⟩
  · rw [if_neg (by omega), if_neg (by omega), if_pos k] at h
    simp only [Bool.and_eq_true, decide_eq_true_eq] at h
    exact ⟨L0 h.2.1, L0 h.2.2⟩
  · by_cases k1 : kd e.k = 1
    · exact .inl k1
    by_cases k2 : kd e.k = 2
    · exact .inr (.inl k2)
    by_cases k3 : kd e.k = 3
    · exact .inr (.inr k3)
    rw [if_neg k1, if_neg k2, if_neg k3] at h
    cases h
theorem es_of_may {s : List M} : ∀ {l : List E} {o : Option (List UInt8)}, mayEs s o l = true → ∀ e ∈ l, mayE e = true
  | [], _, _, e, he => by cases he
  | x :: l, o, h, e, he => by
    unfold mayEs at h
    simp only [Bool.and_eq_true] at h
    rcases List.mem_cons.1 he with rfl | he
    · exact h.1.1
    · exact es_of_may h.2 e he
theorem fs_of_may {x : S} (w : WS x) (h : mayS x = true) : FS x := by
  unfold mayS at h
  simp only [Bool.and_eq_true] at h
  exact ⟨w.a, ⟨w.e.1, fun e he => fe_of_may (w.e.2 e he) (es_of_may h.2.1 e he)⟩, w.p⟩
theorem mostL_none (f : M → Bool) (L : List M) (h : ∀ m ∈ L, f m = false) : mostL f L = 0 := by
  unfold mostL
  induction L with
  | nil => rfl
  | cons m L ih =>
    rw [List.foldl_cons, h m (List.mem_cons_self ..)]
    exact ih fun x hx => h x (List.mem_cons_of_mem _ hx)
theorem cov_iff (L K : List M) : (∀ q, ofL K q ≤ ofL L q) ↔ covB L K = true := by
  unfold covB
  rw [List.all_eq_true]
  refine ⟨fun h m _ => decide_eq_true (h m.p), fun h q => ?_⟩
  by_cases hq : ∃ m ∈ K, m.p = q
  · obtain ⟨m, hm, rfl⟩ := hq
    exact of_decide_eq_true (h m hm)
  · have : ofL K q = 0 := by
      refine mostL_none _ _ fun m hm => ?_
      unfold isQ
      exact decide_eq_false fun hp => hq ⟨m, hm, hp.1⟩
    omega
end Coder
end Go.Proofs.YtnpjkmomllkhpaaGreat
