
/- Marks that came in. -/
import Derived.Test.YtcbnkncgacbniaaMark
import Derived.Test.YtcbnkncgacbniaaTrod
import Derived.Laws.OwnMore
import Derived.Tactics
namespace Go.Proofs.Ytcbnkncgacbniaa
namespace Mark
open Go.RowKit

theorem c_str : Try.prog.cellsOf 9 = 1 := by kernel_rfl
theorem c_u64 : Try.prog.cellsOf 26 = 1 := by kernel_rfl
theorem c_int : Try.prog.cellsOf 3 = 1 := by kernel_rfl
theorem c_mark : Try.prog.cellsOf 55 = 2 := by kernel_rfl
theorem c_marks : Try.prog.cellsOf 25 = 1 := by kernel_rfl

section
variable {H : Type} {enc : TypeId × Value → H} {w : World} {base : Nat} {spare : Nat → Bool} {held : Bool} {cs : List Value}

/-- append of a nil source, to nil. -/
theorem wpList_nil {P : Program} {w : World} {ops : Array Oper} {rest : List Oper} {o : Oper} {a : Act} {Q : Exit → Act → World → Prop} (hgd : o.guard = none) (s x : Operand) (t e : TypeId)
    (ho : o.op = .call { callee := .builtin .append, args := #[s, x], argTypes := #[t, t] }) (i : TypeInfo) (ht : P.underlying t = some (.slice e)) (hi : P.info? e = some i) (c : Nat)
    (hs : a.eval s = .slice none 0 0) (hx : a.eval x = .slice none 0 c) (h : wpList P ops Q rest (a.put o.dst (.slice none 0 0)) w) : wpList P ops Q (o :: rest) a w := by
  refine wpList_plain hgd fun K hK => ?_
  have hrun : (Builtin.append_ #[t, t] o.type #[.slice none 0 0, .slice none 0 c]).run P w = .ok (.slice none 0 0) w := by simp [Builtin.append_, run_underlying ht, sizeOf, typeInfo, hi, Builtin.lenOf, Builtin.firstCells]
  unfold Oper.wp
  simp [execOp, ho, resolve, invoke, builtin, hs, hx, hrun, Result.andThen]
  exact hK _ _ h
/-- What a mark that came in is. -/
def M.Was (k : M) : Prop := k.n ≤ 18446744073709551615 ∧ k.p.length ≤ 140737488351232
theorem mark_in (h : Tr enc Try.prog w base spare held 55 cs) : ∃ m : M, cs = m.cells ∧ m.Was := by
  have hl := (Tr.struct Try.underlying55 h).1.trans c_mark
  have h0 := Tr.field Try.underlying55 h 0 _ rfl rfl rfl c_str
  have h1 := Tr.field Try.underlying55 h 1 _ rfl rfl rfl c_u64
  match cs, hl with
  | [x, y], _ =>
    obtain ⟨l, e0, hl⟩ := Tr.str Try.underlying9 h0
    obtain ⟨n, e1, hn⟩ := Tr.int Try.underlying26 h1
    obtain rfl : x = _ := List.head_eq_of_cons_eq e0
    obtain rfl : y = _ := List.head_eq_of_cons_eq e1
    obtain ⟨n0, n1⟩ := bounds_u64 hn
    obtain ⟨n, rfl⟩ := Int.eq_ofNat_of_zero_le n0
    exact ⟨⟨l, n⟩, rfl, by show n ≤ _; omega, hl⟩
theorem marks_in (h : Tr enc Try.prog w base spare held 25 cs) : ∃ a c L, cs = [.slice a L.length c] ∧ Lies w a L.length L ∧ (∀ k ∈ L, k.Was) ∧ L.length ≤ 140737488351232 := by
  obtain ⟨a, len, cap, rfl, hz, _, _, hnil, hi⟩ := Tr.slice Try.underlying25 h
  have hlen : len ≤ 140737488351232 := by
    have : 1 ≤ Try.prog.bytesOf 55 := Nat.le_of_ble_eq_true (by kernel_rfl)
    have := Nat.mul_le_mul_left len this
    omega
  by_cases h0 : 0 < len
  · cases a with
    | none => exact absurd (hnil rfl).1 (by omega)
    | some y =>
      have hi := hi y rfl
      obtain ⟨cs0, hc0, _⟩ := hi 0 h0
      obtain ⟨b, off, rfl, _⟩ := spot_none (by rw [c_mark]; omega) hc0
      have key : ∀ k, k ≤ len → ∃ L : List M, L.length = k ∧ (∀ m ∈ L, m.Was) ∧ ∀ j (hj : j < L.length), w.cell? ⟨b, off + j * 2, none⟩ = some (.string ⟨(L[j]).p.toArray⟩) ∧ w.cell? ⟨b, off + j * 2 + 1, none⟩ = some (.int .u64 ((L[j]).n : Int)) := by
        intro k
        induction k with
        | zero => intro _; exact ⟨[], rfl, fun m hm => (by cases hm), fun j hj => absurd hj (Nat.not_lt_zero j)⟩
        | succ k ih =>
          intro hk
          obtain ⟨L, hl, hok, hL⟩ := ih (by omega)
          obtain ⟨cs', hc, ht⟩ := hi k (by omega)
          rw [c_mark] at hc
          obtain ⟨m, rfl, hm⟩ := mark_in ht
          obtain ⟨_, hat⟩ := cells_at hc
          have e1 := hat 0 (by omega)
          have e2 := hat 1 (by omega)
          rw [Go.WideShapes.add_plain, Go.WideShapes.add_plain] at e1 e2
          refine ⟨L ++ [m], by simp [hl], fun x hx => ?_, fun j hj => ?_⟩
          · rcases List.mem_append.1 hx with hx | hx
            · exact hok x hx
            · simp at hx; subst hx; exact hm
          · by_cases hjk : j < L.length
            · rw [List.getElem_append_left hjk]; exact hL j hjk
            · have : j = k := by simp at hj; omega
              subst this
              rw [List.getElem_append_right (by omega)]
              have hz : j - L.length = 0 := by omega
              simp only [hz, List.getElem_cons_zero]
              exact ⟨e1, e2⟩
      obtain ⟨L, rfl, hok, hL⟩ := key len (Nat.le_refl _)
      exact ⟨_, cap, L, rfl, ⟨rfl, fun _ => ⟨b, off, rfl, hL⟩⟩, hok, hlen⟩
  · obtain rfl : len = 0 := by omega
    exact ⟨a, cap, [], rfl, Lies.nil _ _, fun m hm => (by cases hm), by decide⟩
end
end Mark
end Go.Proofs.Ytcbnkncgacbniaa
