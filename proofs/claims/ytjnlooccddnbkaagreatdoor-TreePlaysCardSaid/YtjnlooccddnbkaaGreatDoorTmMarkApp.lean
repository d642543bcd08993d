/- Marks appended to an own row, as a run, and where the new row lies. -/
import Derived.Test.YtjnlooccddnbkaaGreatDoorTmMark
import Derived.Test.YtjnlooccddnbkaaGreatDoorTmRefSha0
import Derived.OwnWalkIn
import Derived.RangeFuncBox
namespace Go.Proofs.YtjnlooccddnbkaaGreatDoor
namespace Mark
open Go.RowKit
theorem run_app {W : World} {B : Nat} {v : Value} {L K : List M} {a : Option Addr} {n c : Nat} (ho : Own W B v L) (hl : Lies W a n K) (hs : L.length + n ≤ 1099511627776) (hB : B ≤ W.heap.size) (ty : TypeId) :
    ∃ a' c' W', (Builtin.append_ #[23, 23] ty #[v, .slice a n c]).run Tryz.prog W = .ok (.slice a' (L ++ K).length c') W' ∧ Own W' B (.slice a' (L ++ K).length c') (L ++ K) ∧ W.grownBy W' v.ownBlock ∧
      ((Value.slice a' (L ++ K).length c').ownBlock = v.ownBlock ∨ (Value.slice a' (L ++ K).length c').ownBlock = some W.heap.size) := by
  obtain ⟨i0, hi, hz0, hz1, hz2⟩ := info_parts info_mark
  have hu := Tryz.underlying23
  have key : ∃ v' W', (Builtin.append_ #[23, 23] ty #[v, .slice a n c]).run Tryz.prog W = .ok v' W' ∧ Own W' B v' (L ++ K) ∧ W.grownBy W' v.ownBlock ∧ (v'.ownBlock = v.ownBlock ∨ v'.ownBlock = some W.heap.size) := by
    cases a with
    | none =>
      have hn0 : n = 0 := by
        rcases Nat.eq_zero_or_pos n with h | h
        · exact h
        · obtain ⟨_, _, e, _⟩ := hl.2 h; cases e
      have hk0 : K = [] := List.length_eq_zero_iff.1 (by rw [← hl.1]; exact hn0)
      subst hk0
      subst hn0
      refine ⟨v, W, ?_, by rw [List.append_nil]; exact ho, World.grownBy.refl _ _, .inl rfl⟩
      rcases ho.2 with ⟨rfl, _⟩ | ⟨g, cap, cur, rfl, _, _, hnc, _⟩
      · simp [Builtin.append_, run_underlying hu, sizeOf, typeInfo, hi, Builtin.lenOf, Builtin.firstCells]
      · simp [Builtin.append_, run_underlying hu, sizeOf, typeInfo, hi, Builtin.lenOf, Builtin.firstCells, hnc, storeCells]
    | some q =>
      have hnews : ∀ j u, (flat K)[j]? = some u → W.cell? (q.add j) = some u := fun j u hu => by
        have hj : j < K.length * 2 := by rw [← flat_length]; exact (List.getElem?_eq_some_iff.1 hu).1
        obtain ⟨b, off, e, _⟩ := hl.2 (by have := hl.1; omega)
        obtain rfl : q = ⟨b, off, none⟩ := Option.some.inj e
        exact hl.at j u hu
      obtain ⟨v', W', hr, h2, h3, h4⟩ := Ones.run_app_place (P := Tryz.prog) (w := W) B 23 ty 68 i0 (.agg #[.string ⟨#[]⟩, .int .u64 0]) 2 24 hu hi hz0 hz1 hz2 rfl (by decide) v L.length (flat L) ho q n c (flat K) (by rw [flat_length, hl.1]) hnews (flat_one K) (by unfold maxLen; omega) (by omega) hB
      refine ⟨v', W', hr, ?_, h3, h4⟩
      unfold Own
      rw [flat_append, List.length_append, ← hl.1]
      exact h2
  obtain ⟨v', W', hr, h2, h3, h4⟩ := key
  obtain ⟨a', c', rfl, -⟩ := h2.lies
  exact ⟨a', c', W', hr, h2, h3, h4⟩
theorem own_lt {W : World} {B : Nat} {v : Value} {L : List M} (h : Own W B v L) {k : Nat} (e : v.ownBlock = some k) : B ≤ k ∧ k < W.heap.size := World.ownsRow.lt h k e
/-- An own row's variable, in a box, behind an append. -/
theorem box_app {W W9 : World} {B bx : Nat} {t : TypeId} {v v' : Value} {L L' : List M} (hb : Boxed W bx t v) (ho : Own W B v L) (hg : W.grownBy W9 v.ownBlock) (ho9 : Own W9 B v' L') (hte : t ≠ 68) (hbB : B ≤ bx) (hB : B ≤ W.heap.size) :
    Boxed W9 bx t v ∧ Boxed (W9.setCell ⟨bx, 0, none⟩ v') bx t v' ∧ Own (W9.setCell ⟨bx, 0, none⟩ v') B v' L' ∧ KeepsOthers W (W9.setCell ⟨bx, 0, none⟩ v') ∧ Below B W (W9.setCell ⟨bx, 0, none⟩ v') := by
  have b9 := hb.kept hg (Boxed.not_row hb hte ho)
  have hne : v'.ownBlock = none ∨ v'.ownBlock ≠ some bx := .inr (fun e => Boxed.not_row b9 hte ho9 e.symm)
  refine ⟨b9, b9.set v', World.ownsRow.kept ho9 (grownBy_setCell' W9 bx v') hne, ?_, ?_⟩
  · refine KeepsOthers.trans ⟨hg.size, fun k o hk hc => ?_⟩ (KeepsOthers.setCell _ _ _)
    have hkr : some k ≠ v.ownBlock := fun e => by
      rcases ho.2 with ⟨rfl, _⟩ | ⟨g, cap, cur, rfl, _, hgh, _⟩
      · cases e
      · simp only [Value.ownBlock, Option.some.injEq] at e
        rw [e, hgh] at hk
        cases hk; cases hc
    rw [hg.block k (Array.getElem?_eq_some_iff.1 hk).1 hkr]; exact hk
  · exact ((Below.refl B W).grown hg hB (fun k e => (own_lt ho e).1)).setCell (p := ⟨bx, 0, none⟩) hbB v'
/-- An append whose run is known, within a fence. -/
theorem wpListIn_app_run {F : Fence} {n : Nat} {P : Program} {w : World} {ops : Array Oper} {rest : List Oper} {o : Oper} {a : Act} {Q : Exit → Act → World → Prop} (hg : o.guard = none) (s x : Operand) (t : TypeId)
    (hop : o.op = Op.call { callee := Callee.builtin Builtin.append, args := #[s, x], argTypes := #[t, t] }) (v u v' : Value) (w' : World) (hs : a.eval s = v) (hx : a.eval x = u)
    (hrun : (Builtin.append_ #[t, t] o.type #[v, u]).run P w = .ok v' w') (hK : wpListIn F n P ops Q rest (a.put o.dst v') w') : wpListIn F n P ops Q (o :: rest) a w := by
  refine wpListIn_plain hg fun K hK' => ?_
  unfold Oper.wpIn
  refine ⟨?_, ?_⟩
  · simp [Oper.about, hop, resolve, Target.leads, Sem.run_pure]
  · rw [Oper.semAt_plain F _ _ (by rw [hop]; intro c hc'; cases hc')]
    simp [execOp, hop, resolve, invoke, builtin, hs, hx, hrun, Result.andThen]
    exact hK' _ _ hK
end Mark
end Go.Proofs.YtjnlooccddnbkaaGreatDoor
