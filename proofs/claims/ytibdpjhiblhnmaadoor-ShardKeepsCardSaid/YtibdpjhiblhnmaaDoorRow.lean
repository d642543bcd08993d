
/- Slices of records of one-cell fields: how they lie, what came in, what a call owns. -/
import Derived.Test.YtibdpjhiblhnmaaDoorTrod
import Derived.Laws.AppendOwn
import Derived.Laws.OwnMore
import Derived.OwnWalk
import Derived.Tactics
namespace Go.Proofs.YtibdpjhiblhnmaaDoor
namespace Row
open Go.RowKit

/-- append of a nil source, to nil. -/
theorem wpList_nil {P : Program} {w : World} {ops : Array Oper} {rest : List Oper} {o : Oper} {a : Act} {Q : Exit → Act → World → Prop} (hgd : o.guard = none) (s x : Operand) (t e : TypeId)
    (ho : o.op = .call { callee := .builtin .append, args := #[s, x], argTypes := #[t, t] }) (i : TypeInfo) (ht : P.underlying t = some (.slice e)) (hi : P.info? e = some i) (c : Nat)
    (hs : a.eval s = .slice none 0 0) (hx : a.eval x = .slice none 0 c) (h : wpList P ops Q rest (a.put o.dst (.slice none 0 0)) w) : wpList P ops Q (o :: rest) a w := by
  refine wpList_plain hgd fun K hK => ?_
  have hrun : (Builtin.append_ #[t, t] o.type #[.slice none 0 0, .slice none 0 c]).run P w = .ok (.slice none 0 0) w := by simp [Builtin.append_, run_underlying ht, sizeOf, typeInfo, hi, Builtin.lenOf, Builtin.firstCells]
  unfold Oper.wp
  simp [execOp, ho, resolve, invoke, builtin, hs, hx, hrun, Result.andThen]
  exact hK _ _ h
/-- How a record lies: its cells. -/
structure Enc (α : Type) where
  k : Nat
  pos : 0 < k
  cells : α → List Value
  len : ∀ x, (cells x).length = k
  one : ∀ x, ∀ v ∈ cells x, v.oneCell' = true
variable {α : Type} (E : Enc α)

def flat (L : List α) : List Value := L.flatMap E.cells
theorem flat_nil : flat E [] = [] := rfl
theorem flat_cons (x : α) (L : List α) : flat E (x :: L) = E.cells x ++ flat E L := rfl
theorem flat_append (L K : List α) : flat E (L ++ K) = flat E L ++ flat E K := by simp [flat]
theorem flat_length : ∀ L : List α, (flat E L).length = L.length * E.k
  | [] => by simp [flat]
  | x :: L => by rw [flat_cons, List.length_append, E.len, flat_length L, List.length_cons, Nat.add_mul]; omega
theorem flat_get : ∀ (L : List α) (j : Nat) (h : j < L.length) (i : Nat), i < E.k → (flat E L)[j * E.k + i]? = (E.cells L[j])[i]?
  | x :: L, 0, _, i, hi => by
    rw [flat_cons, Nat.zero_mul, Nat.zero_add, List.getElem?_append_left (by rw [E.len]; exact hi)]; rfl
  | x :: L, j + 1, h, i, hi => by
    have hl : j < L.length := by simpa using h
    rw [flat_cons, List.getElem?_append_right (by rw [E.len, Nat.add_mul]; omega), E.len]
    rw [show (j + 1) * E.k + i - E.k = j * E.k + i by rw [Nat.add_mul]; omega]
    exact flat_get L j hl i hi
theorem flat_one (L : List α) : ∀ u ∈ flat E L, u.oneCell' = true := by
  intro u hu
  obtain ⟨x, _, h⟩ := List.mem_flatMap.1 hu
  exact E.one x u h
theorem flat_take (K : List α) (i : Nat) : flat E (K.take i) = (flat E K).take (i * E.k) := by
  induction K generalizing i with
  | nil => simp [flat]
  | cons x K ih =>
    cases i with
    | zero => simp [flat]
    | succ i =>
      have h1 : (E.cells x).take ((i + 1) * E.k) = E.cells x := List.take_of_length_le (by rw [E.len, Nat.add_mul]; omega)
      rw [List.take_succ_cons, flat_cons, flat_cons, ih, List.take_append, h1, E.len, show (i + 1) * E.k - E.k = i * E.k by rw [Nat.add_mul]; omega]

/-- A slice's elements, each in its cells. -/
def Lies (w : World) (a : Option Addr) (n : Nat) (L : List α) : Prop :=
  n = L.length ∧ (0 < n → ∃ b off, a = some ⟨b, off, none⟩ ∧ ∀ j (h : j < L.length) i u, (E.cells L[j])[i]? = some u → w.cell? ⟨b, off + j * E.k + i, none⟩ = some u)
variable {E}
theorem Lies.nil (w : World) (a : Option Addr) : Lies E w a 0 [] := ⟨rfl, fun h => absurd h (by omega)⟩
theorem Lies.below {w w' : World} {a : Option Addr} {n : Nat} {L : List α} (h : Lies E w a n L) (k : Below w.heap.size w w') : Lies E w' a n L := by
  refine ⟨h.1, fun hn => ?_⟩
  obtain ⟨b, off, e, hc⟩ := h.2 hn
  exact ⟨b, off, e, fun j hj i u hu => by
    have hv := hc j hj i u hu
    exact (World.cell?_of_block (k.block _ (World.block_lt_of_cell? _ _ hv))).trans hv⟩
/-- The same cells as a plain row of values. -/
theorem Lies.at {w : World} {b off n : Nat} {L : List α} (h : Lies E w (some ⟨b, off, none⟩) n L) : ∀ j u, (flat E L)[j]? = some u → w.cell? ((⟨b, off, none⟩ : Addr).add j) = some u := by
  intro j u hu
  have hj : j < L.length * E.k := by rw [← flat_length]; exact (List.getElem?_eq_some_iff.1 hu).1
  have hk := E.pos
  have hl : j / E.k < L.length := (Nat.div_lt_iff_lt_mul hk).2 hj
  obtain ⟨b', off', e, hc⟩ := h.2 (by rw [h.1]; exact Nat.lt_of_le_of_lt (Nat.zero_le _) hl)
  simp only [Option.some.injEq, Addr.mk.injEq, and_true] at e
  obtain ⟨rfl, rfl⟩ := e
  rw [Go.WideShapes.add_plain]
  have hg := flat_get E L (j / E.k) hl (j % E.k) (Nat.mod_lt _ hk)
  have e2 : j / E.k * E.k + j % E.k = j := by rw [Nat.mul_comm]; exact Nat.div_add_mod j E.k
  rw [e2, hu] at hg
  have := hc (j / E.k) hl (j % E.k) u hg.symm
  rw [Nat.add_assoc, e2] at this
  exact this
theorem lies_own {w : World} {B : Nat} {t : TypeId} {v : Value} {L : List α} (h : w.ownsRow B t E.k v L.length (flat E L)) :
    ∃ a c, v = .slice a L.length c ∧ L.length ≤ c ∧ c ≤ maxLen ∧ Lies E w a L.length L ∧ (∀ q, a = some q → B ≤ q.block) := by
  have h0 := h
  rcases h.2 with ⟨rfl, hc⟩ | ⟨g, cap, cur, rfl, hB, _, hle, hmx, _⟩
  · have : L = [] := List.length_eq_zero_iff.1 hc
    subst this
    exact ⟨none, 0, rfl, Nat.le_refl _, Nat.zero_le _, Lies.nil _ _, fun q e => by cases e⟩
  · refine ⟨_, cap, rfl, hle, hmx, ⟨rfl, fun _ => ⟨g, 0, rfl, fun j hj i u hu => ?_⟩⟩, fun q e => by cases e; exact hB⟩
    have hi : i < E.k := by rw [← E.len L[j]]; exact (List.getElem?_eq_some_iff.1 hu).1
    have hb : j * E.k + i < L.length * E.k := by
      have : (j + 1) * E.k ≤ L.length * E.k := Nat.mul_le_mul_right _ hj
      rw [Nat.add_mul] at this; omega
    rw [Nat.zero_add]
    exact (h0.cellAt (j * E.k + i) hb).trans ((flat_get E L j hj i hi).trans hu)

section
variable {H : Type} {enc : TypeId × Value → H} {P : Program} {w : World} {base : Nat} {spare : Nat → Bool} {held : Bool} {cs : List Value}
/-- Records that came in. -/
theorem rows_in {ts te : TypeId} {Was : α → Prop} (hs : P.underlying ts = some (.slice te)) (hC : P.cellsOf te = E.k) (hB : Nat.ble 1 (P.bytesOf te) = true) (hel : ∀ cs, Tr enc P w base spare held te cs → ∃ x, cs = E.cells x ∧ Was x)
    (h : Tr enc P w base spare held ts cs) : ∃ a c L, cs = [.slice a L.length c] ∧ Lies E w a L.length L ∧ (∀ x ∈ L, Was x) ∧ L.length ≤ 140737488351232 ∧ (a = none → c = 0) := by
  obtain ⟨a, len, cap, rfl, hz, _, _, hnil, hi⟩ := Tr.slice hs h
  have hlen : len ≤ 140737488351232 := by
    have := Nat.mul_le_mul_left len (Nat.le_of_ble_eq_true hB)
    omega
  by_cases h0 : 0 < len
  · cases a with
    | none => exact absurd (hnil rfl).1 (by omega)
    | some y =>
      have hi := hi y rfl
      obtain ⟨cs0, hc0, _⟩ := hi 0 h0
      obtain ⟨b, off, rfl, _⟩ := spot_none (by rw [hC]; exact E.pos) hc0
      have key : ∀ q, q ≤ len → ∃ L : List α, L.length = q ∧ (∀ m ∈ L, Was m) ∧ ∀ j (hj : j < L.length) i u, (E.cells L[j])[i]? = some u → w.cell? ⟨b, off + j * E.k + i, none⟩ = some u := by
        intro q
        induction q with
        | zero => intro _; exact ⟨[], rfl, fun m hm => (by cases hm), fun j hj => absurd hj (Nat.not_lt_zero j)⟩
        | succ q ih =>
          intro hk
          obtain ⟨L, hl, hok, hL⟩ := ih (by omega)
          obtain ⟨cs', hc, ht⟩ := hi q (by omega)
          rw [hC] at hc
          obtain ⟨m, rfl, hm⟩ := hel _ ht
          obtain ⟨_, hat⟩ := cells_at hc
          refine ⟨L ++ [m], by simp [hl], fun x hx => ?_, fun j hj i u hu => ?_⟩
          · rcases List.mem_append.1 hx with hx | hx
            · exact hok x hx
            · simp at hx; subst hx; exact hm
          · by_cases hjk : j < L.length
            · rw [List.getElem_append_left hjk] at hu; exact hL j hjk i u hu
            · have : j = q := by simp at hj; omega
              subst this
              rw [List.getElem_append_right (by omega)] at hu
              have hz : j - L.length = 0 := by omega
              simp only [hz, List.getElem_cons_zero] at hu
              have hik : i < E.k := by rw [← E.len m]; exact (List.getElem?_eq_some_iff.1 hu).1
              have e1 := hat i hik
              rw [Go.WideShapes.add_plain, Go.WideShapes.add_plain] at e1
              exact e1.trans hu
      obtain ⟨L, rfl, hok, hL⟩ := key len (Nat.le_refl _)
      exact ⟨_, cap, L, rfl, ⟨rfl, fun _ => ⟨b, off, rfl, hL⟩⟩, hok, hlen, fun h => by cases h⟩
  · obtain rfl : len = 0 := by omega
    exact ⟨a, cap, [], rfl, Lies.nil _ _, fun m hm => (by cases hm), Nat.zero_le _, fun h => (hnil h).2⟩
end
end Row
end Go.Proofs.YtibdpjhiblhnmaaDoor
