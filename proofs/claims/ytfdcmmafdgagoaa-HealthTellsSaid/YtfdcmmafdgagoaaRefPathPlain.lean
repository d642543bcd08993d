
/- The document's Read, in plain Lean: figures with their bounds. -/
import Derived.Test.YtfdcmmafdgagoaaRefPathNum
namespace Go.Proofs.Ytfdcmmafdgagoaa
namespace RefPath
open Go.RowKit Go.Proofs.Ytfdcmmafdgagoaa.Path

/-- A figure's number, as long as it is not too great on the way. -/
def seg : List UInt8 → Nat → Option Nat
  | [], n => some n
  | c :: r, n => if c.toNat < 48 ∨ 57 < c.toNat ∨ 1073741824 < n then none else seg r (10 * n + (c.toNat - 48))
theorem seg_cons (c : UInt8) (r : List UInt8) (n : Nat) : seg (c :: r) n = if c.toNat < 48 ∨ 57 < c.toNat ∨ 1073741824 < n then none else seg r (10 * n + (c.toNat - 48)) := rfl
theorem dec_le : ∀ (r : List UInt8) (n x : Nat), dec r n = some x → n ≤ x
  | [], n, x, h => by rw [dec] at h; have := Option.some.inj h; omega
  | c :: r, n, x, h => by
    rw [dec_cons] at h
    split at h
    · cases h
    · have := dec_le r _ x h; omega
theorem seg_dec : ∀ (r : List UInt8) (n x : Nat), dec r n = some x → x ≤ 1073741824 → seg r n = some x
  | [], n, x, h, _ => h
  | c :: r, n, x, h, hx => by
    have hn := dec_le _ _ _ h
    rw [dec_cons] at h
    split at h
    · cases h
    · rename_i hc
      rw [seg_cons, if_neg (by omega)]
      exact seg_dec r _ x h hx
/-- A figure's number is that which Read finds, where that is written so. -/
theorem num1_of {f : List UInt8} {x : Nat} (h1 : 1 ≤ x) (h2 : x ≤ 1073741824) (h3 : Lib.decDigits x = f) : num1 f = x := by
  rw [← h3]; exact num1_digits x h1 h2
theorem num1_none {f : List UInt8} (h : ∀ x, seg f 0 = some x → 1 ≤ x → x ≤ 1073741824 → Lib.decDigits x ≠ f) : num1 f = 0 := by
  rcases Nat.eq_zero_or_pos (num1 f) with h0 | h0
  · exact h0
  · exfalso
    have hf := digits_num1 f (by omega)
    have hle := num1_le f
    have hd := dec_digits (num1 f)
    rw [← hf] at hd
    exact h (num1 f) (seg_dec f 0 _ hd hle) (by omega) hle hf.symm
theorem cutD_split : ∀ l : List UInt8, (∀ c ∈ (cutD l).1, c ≠ 46) ∧ (((cutD l).2.2 = true ∧ l = (cutD l).1 ++ 46 :: (cutD l).2.1) ∨ ((cutD l).2.2 = false ∧ l = (cutD l).1))
  | [] => ⟨fun c h => (by cases h), .inr ⟨rfl, rfl⟩⟩
  | c :: r => by
    rw [cutD_cons]
    by_cases h : c = 46
    · rw [if_pos h]; exact ⟨fun c h => (by cases h), .inl ⟨rfl, by rw [h]; rfl⟩⟩
    · rw [if_neg h]
      obtain ⟨h1, h2⟩ := cutD_split r
      refine ⟨fun x hx => ?_, ?_⟩
      · rcases List.mem_cons.1 hx with rfl | hx
        · exact h
        · exact h1 x hx
      · rcases h2 with ⟨e1, e2⟩ | ⟨e1, e2⟩
        · exact .inl ⟨e1, congrArg (c :: ·) e2⟩
        · exact .inr ⟨e1, congrArg (c :: ·) e2⟩

/-- What is known between two figures: dn are read, F are still to come. -/
def Mid (p : List UInt8) (dn : List Nat) (F : List (List UInt8)) : Prop := figs p = dn.map Lib.decDigits ++ F ∧ ∀ x ∈ dn, 1 ≤ x ∧ x ≤ 1073741824
theorem Mid.next {p : List UInt8} {dn : List Nat} {f : List UInt8} {F : List (List UInt8)} {x : Nat} (h : Mid p dn (f :: F)) (h1 : 1 ≤ x) (h2 : x ≤ 1073741824) (h3 : Lib.decDigits x = f) : Mid p (dn ++ [x]) F := by
  refine ⟨by rw [h.1, List.map_append, List.append_assoc, ← h3]; rfl, fun y hy => ?_⟩
  rcases List.mem_append.1 hy with hy | hy
  · exact h.2 y hy
  · simp at hy; omega
theorem ys_dn (dn : List Nat) (F : List (List UInt8)) (h : ∀ x ∈ dn, 1 ≤ x ∧ x ≤ 1073741824) : ys (dn.map Lib.decDigits ++ F) = dn ++ ys F := by
  induction dn with
  | nil => rfl
  | cons x r ih =>
    have hx := h x (List.mem_cons_self ..)
    rw [List.map_cons, List.cons_append, ys, num1_digits x hx.1 hx.2, if_neg (by omega), ih (fun y hy => h y (List.mem_cons_of_mem _ hy))]; rfl
theorem Mid.bad {p : List UInt8} {dn : List Nat} {f : List UInt8} {F : List (List UInt8)} (h : Mid p dn (f :: F)) (h0 : num1 f = 0) : parse p = [] := by
  rw [parse, if_neg]
  rintro ⟨h1, _⟩
  refine h1 0 ?_ rfl
  rw [h.1, ys_dn dn _ h.2, ys, h0]; simp
theorem Mid.all {p : List UInt8} {dn : List Nat} (h : Mid p dn []) : parse p = if dn.length ≤ 8 ∧ dn.getD 0 0 = 1 then dn else [] := by
  have hy : ys (figs p) = dn := by rw [h.1, ys_dn dn _ h.2, ys, List.append_nil]
  rw [parse, hy]
  by_cases hc : dn.length ≤ 8 ∧ dn.getD 0 0 = 1
  · rw [if_pos hc, if_pos ⟨fun x hx => by have := h.2 x hx; omega, hc⟩]
  · rw [if_neg hc, if_neg (fun e => hc e.2)]
theorem Mid.ne {p : List UInt8} {dn : List Nat} (h : Mid p dn []) : dn ≠ [] := by
  intro e
  have := h.1
  rw [e] at this
  exact figs_ne p this

/-- Numbers that lie in block g. -/
def Ints (W : World) (g : Nat) (l : List Nat) : Prop := ∀ j, j < l.length → W.cell? ⟨g, j, none⟩ = some (.int .i64 ((l.getD j 0 : Nat) : Int))
theorem Ints.below {W W' : World} {g : Nat} {l : List Nat} (h : Ints W g l) (k : Below W.heap.size W W') : Ints W' g l := fun j hj =>
  (k.cell (p := ⟨g, j, none⟩) (World.block_lt_of_cell? _ _ (h j hj))).trans (h j hj)
def ints (l : List Nat) : List Value := l.map fun x => .int .i64 ((x : Nat) : Int)
theorem ints_snoc (l : List Nat) (x : Nat) : ints l ++ [.int .i64 ((x : Nat) : Int)] = ints (l ++ [x]) := by simp [ints]
theorem ints_of_own {W : World} {B : Nat} {t : TypeId} {v : Value} {l : List Nat} (h : W.ownsRow B t 1 v l.length (ints l)) (hl : l ≠ []) : ∃ g c, v = .slice (some ⟨g, 0, none⟩) l.length c ∧ l.length ≤ c ∧ Ints W g l := by
  rcases h.2 with ⟨rfl, hc⟩ | ⟨g, cap, cur, rfl, _, _, hle, _⟩
  · exact absurd (List.length_eq_zero_iff.1 hc) hl
  · refine ⟨g, cap, rfl, hle, fun j hj => ?_⟩
    have := h.cells (g := g) rfl j (.int .i64 ((l.getD j 0 : Nat) : Int)) (by simp [ints, hj])
    cases j with
    | zero => simpa [Addr.add] using this
    | succ j => simpa [Addr.add] using this
/-- What Read hands back. -/
def ReadPost (p : List UInt8) (w : World) (e : Ending) (w' : World) : Prop :=
  ∃ (a : Option Addr) (n c : Nat) (b : Bool), e = .returned (.tuple #[.slice a n c, .bool b]) ∧ b = decide (parse p ≠ []) ∧ (parse p ≠ [] → n = (parse p).length ∧ n ≤ c ∧ ∃ g, a = some ⟨g, 0, none⟩ ∧ Ints w' g (parse p)) ∧ Below w.heap.size w w'
theorem read_bad {p : List UInt8} {w w' : World} (h : parse p = []) (hb : Below w.heap.size w w') : ReadPost p w (.returned (.tuple #[.slice none 0 0, .bool false])) w' :=
  ⟨none, 0, 0, false, rfl, by rw [h]; rfl, fun e => absurd h e, hb⟩
theorem read_all {p : List UInt8} {w w' : World} {dn : List Nat} {g c : Nat} (h : Mid p dn []) (r : Ints w' g dn) (hle : dn.length ≤ c) (hb : Below w.heap.size w w') (b : Bool) (hbv : b = decide (dn.length ≤ 8 ∧ dn.getD 0 0 = 1)) :
    ReadPost p w (.returned (.tuple #[.slice (some ⟨g, 0, none⟩) dn.length c, .bool b])) w' := by
  have ha := h.all
  refine ⟨_, _, c, b, rfl, ?_, fun e => ?_, hb⟩
  · rw [hbv]
    by_cases hc : dn.length ≤ 8 ∧ dn.getD 0 0 = 1
    · rw [if_pos hc] at ha
      rw [ha, decide_eq_true hc, decide_eq_true h.ne]
    · rw [if_neg hc] at ha
      rw [ha, decide_eq_false hc]; rfl
  · by_cases hc : dn.length ≤ 8 ∧ dn.getD 0 0 = 1
    · rw [if_pos hc] at ha
      rw [ha]; exact ⟨rfl, hle, g, rfl, r⟩
    · rw [if_neg hc] at ha
      exact absurd ha e

end RefPath
end Go.Proofs.Ytfdcmmafdgagoaa
