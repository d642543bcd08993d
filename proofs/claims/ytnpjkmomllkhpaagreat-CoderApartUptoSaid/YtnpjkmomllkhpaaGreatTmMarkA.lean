/- Merged texts: Mark, MarkOwn. -/
import Derived.Test.YtnpjkmomllkhpaaGreatTmBase
import Derived.Test.YtnpjkmomllkhpaaGreatTmStr
import Derived.Laws.AppendOwn
import Derived.Laws.OwnMore
import Derived.Lib.Hide
import Derived.Test.YtnpjkmomllkhpaaGreatProg
import Derived.Lib.SliceRun
import Derived.OwnWalk
namespace Go.Proofs.YtnpjkmomllkhpaaGreat
namespace Mark
open Go.RowKit

structure M where
  p : List UInt8
  n : Nat
instance : Inhabited M := ⟨⟨[], 0⟩⟩
theorem M.ext' {a b : M} (h : a.p = b.p) (k : a.n = b.n) : a = b := by cases a; cases b; simp_all
def M.cells (m : M) : List Value := [.string ⟨m.p.toArray⟩, .int .u64 (m.n : Int)]
def M.agg (m : M) : Value := .agg #[.string ⟨m.p.toArray⟩, .int .u64 (m.n : Int)]
def flat (L : List M) : List Value := L.flatMap M.cells
theorem flat_nil : flat [] = [] := rfl
theorem flat_cons (m : M) (L : List M) : flat (m :: L) = .string ⟨m.p.toArray⟩ :: .int .u64 (m.n : Int) :: flat L := rfl
theorem flat_append (L K : List M) : flat (L ++ K) = flat L ++ flat K := by simp [flat]
theorem flat_snoc (L : List M) (m : M) : flat L ++ [.string ⟨m.p.toArray⟩, .int .u64 (m.n : Int)] = flat (L ++ [m]) := by rw [flat_append]; rfl
theorem flat_length : ∀ L : List M, (flat L).length = L.length * 2
  | [] => rfl
  | m :: L => by rw [flat_cons, List.length_cons, List.length_cons, flat_length L, List.length_cons]; omega
theorem flat_get : ∀ (L : List M) (j : Nat) (h : j < L.length), (flat L)[j * 2]? = some (.string ⟨(L[j]).p.toArray⟩) ∧ (flat L)[j * 2 + 1]? = some (.int .u64 ((L[j]).n : Int))
  | [], j, h => absurd h (by simp)
  | m :: L, 0, h => ⟨rfl, rfl⟩
  | m :: L, j + 1, h => by
    have := flat_get L j (by simpa using h)
    rw [flat_cons, show (j + 1) * 2 = j * 2 + 1 + 1 by omega]
    simpa using this
theorem flat_one : ∀ (L : List M), ∀ u ∈ flat L, u.oneCell' = true
  | [], u, h => by cases h
  | m :: L, u, h => by
    rw [flat_cons] at h
    rcases List.mem_cons.1 h with rfl | h
    · rfl
    rcases List.mem_cons.1 h with rfl | h
    · rfl
    · exact flat_one L u h

/-- A slice's elements, each in its two cells. -/
def Lies (w : World) (a : Option Addr) (n : Nat) (L : List M) : Prop :=
  n = L.length ∧ (0 < n → ∃ b off, a = some ⟨b, off, none⟩ ∧ ∀ j (h : j < L.length), w.cell? ⟨b, off + j * 2, none⟩ = some (.string ⟨(L[j]).p.toArray⟩) ∧ w.cell? ⟨b, off + j * 2 + 1, none⟩ = some (.int .u64 ((L[j]).n : Int)))
theorem Lies.nil (w : World) (a : Option Addr) : Lies w a 0 [] := ⟨rfl, fun h => absurd h (by omega)⟩
theorem Lies.mono {w w' : World} {a : Option Addr} {n : Nat} {L : List M} (h : Lies w a n L) (k : ∀ p v, w.cell? p = some v → (∀ q, a = some q → q.block = p.block) → w'.cell? p = some v) : Lies w' a n L := by
  refine ⟨h.1, fun hn => ?_⟩
  obtain ⟨b, off, rfl, hc⟩ := h.2 hn
  exact ⟨b, off, rfl, fun j hj => ⟨k _ _ (hc j hj).1 (fun q e => by cases e; rfl), k _ _ (hc j hj).2 (fun q e => by cases e; rfl)⟩⟩
theorem Lies.below {w w' : World} {a : Option Addr} {n : Nat} {L : List M} (h : Lies w a n L) (k : Below w.heap.size w w') : Lies w' a n L :=
  h.mono fun p _ hv _ => (World.cell?_of_block (k.block p.block (World.block_lt_of_cell? _ _ hv))).trans hv
/-- .. that lies in the call's own row. -/
theorem lies_own {w : World} {B : Nat} {t : TypeId} {v : Value} {L : List M} (h : w.ownsRow B t 2 v L.length (flat L)) :
    ∃ a c, v = .slice a L.length c ∧ L.length ≤ c ∧ c ≤ maxLen ∧ Lies w a L.length L ∧ (∀ q, a = some q → B ≤ q.block) := by
  have h0 := h
  rcases h.2 with ⟨rfl, hc⟩ | ⟨g, cap, cur, rfl, hB, _, hle, hmx, _⟩
  · have : L = [] := List.length_eq_zero_iff.1 hc
    subst this
    exact ⟨none, 0, rfl, Nat.le_refl _, Nat.zero_le _, Lies.nil _ _, fun q e => by cases e⟩
  · refine ⟨_, cap, rfl, hle, hmx, ⟨rfl, fun _ => ⟨g, 0, rfl, fun j hj => ?_⟩⟩, fun q e => by cases e; exact hB⟩
    have hg := flat_get L j hj
    rw [Nat.zero_add]
    exact ⟨(h0.cellAt (j * 2) (by omega)).trans hg.1, (h0.cellAt (j * 2 + 1) (by omega)).trans hg.2⟩
/-- Numbers and texts that can be. -/
def Ok (L : List M) : Prop := ∀ m ∈ L, m.n ≤ 18446744073709551615 ∧ m.p.length ≤ 9223372036854775807
theorem recs_lies {w : World} {a : Option Addr} {len : Nat} (h : Recs w [.str, .int .u64] a len) : ∃ L, Lies w a len L ∧ Ok L := by
  obtain ⟨hm, hc⟩ := h
  by_cases h0 : 0 < len
  · obtain ⟨b, off, rfl, _, hi⟩ := hc h0
    have key : ∀ k, k ≤ len → ∃ L : List M, L.length = k ∧ Ok L ∧ ∀ j (hj : j < L.length), w.cell? ⟨b, off + j * 2, none⟩ = some (.string ⟨(L[j]).p.toArray⟩) ∧ w.cell? ⟨b, off + j * 2 + 1, none⟩ = some (.int .u64 ((L[j]).n : Int)) := by
      intro k
      induction k with
      | zero => intro _; exact ⟨[], rfl, fun m hm => (by cases hm), fun j hj => absurd hj (Nat.not_lt_zero j)⟩
      | succ k ih =>
        intro hk
        obtain ⟨L, hl, hok, hL⟩ := ih (by omega)
        obtain ⟨v1, e1, s, rfl, hs⟩ := hi k (by omega) 0 _ rfl
        obtain ⟨v2, e2, n, rfl, hn⟩ := hi k (by omega) 1 _ rfl
        obtain ⟨n0, n1⟩ := bounds_u64 hn
        obtain ⟨n, rfl⟩ := Int.eq_ofNat_of_zero_le n0
        have hsl := Str.mk_toList s
        have hsz := Str.size_eq s
        unfold maxLen at hs
        refine ⟨L ++ [⟨s.data.toList, n⟩], by simp [hl], fun m hm => ?_, fun j hj => ?_⟩
        · rcases List.mem_append.1 hm with hm | hm
          · exact hok m hm
          · simp at hm; subst hm; exact ⟨by show n ≤ _; omega, by show s.data.toList.length ≤ _; omega⟩
        · by_cases hjk : j < L.length
          · rw [List.getElem_append_left hjk]; exact hL j hjk
          · have : j = k := by simp at hj; omega
            subst this
            rw [List.getElem_append_right (by omega)]
            have hz : j - L.length = 0 := by omega
            simp only [hz, List.getElem_cons_zero]
            rw [hsl]
            exact ⟨e1, e2⟩
    obtain ⟨L, hl, hok, hL⟩ := key len (Nat.le_refl _)
    exact ⟨L, ⟨hl.symm, fun _ => ⟨b, off, rfl, hL⟩⟩, hok⟩
  · obtain rfl : len = 0 := by omega
    exact ⟨[], Lies.nil _ _, fun m hm => (by cases hm)⟩

theorem info_mark : (Tryz.prog.info? 54).map (fun i => (i.zero, i.size, i.bytes)) = some (some (.agg #[.string ⟨#[]⟩, .int .u64 0]), 2, 24) := by kernel_rfl

end Mark
end Go.Proofs.YtnpjkmomllkhpaaGreat

namespace Go.Proofs.YtnpjkmomllkhpaaGreat
namespace Mark
open Go.RowKit

theorem gtrans {a b c : World} {r : Option Nat} (h : a.grownBy b r) (k : b.grownBy c r) : a.grownBy c r :=
  ⟨k.os.trans h.os, k.tape.trans h.tape, k.output.trans h.output, Nat.le_trans h.size k.size, fun i hi hne => (k.block i (Nat.lt_of_lt_of_le hi h.size) hne).trans (h.block i hi hne)⟩
theorem grown_of {A B : World} (h : Below A.heap.size A B) : A.grownBy B none := ⟨h.os, h.tape, h.output, h.size, fun k hk _ => h.block k hk⟩

theorem flat_set : ∀ (K : List M) (i : Nat) (m : M), i < K.length → flat (K.set i m) = ((flat K).set (i * 2) (.string ⟨m.p.toArray⟩)).set (i * 2 + 1) (.int .u64 (m.n : Int))
  | [], i, m, h => absurd h (by simp)
  | x :: K, 0, m, _ => rfl
  | x :: K, i + 1, m, h => by
    rw [List.set_cons_succ, flat_cons, flat_cons, flat_set K i m (by simpa using h), show (i + 1) * 2 = i * 2 + 1 + 1 by omega]
    rfl
theorem flat_take : ∀ (K : List M) (i : Nat), flat (K.take i) = (flat K).take (i * 2)
  | [], i => by simp [flat_nil]
  | x :: K, 0 => by simp [flat_nil]
  | x :: K, i + 1 => by
    rw [List.take_succ_cons, flat_cons, flat_cons, flat_take K i, show (i + 1) * 2 = i * 2 + 1 + 1 by omega]; rfl

section
variable {w : World} {B : Nat} {T : TypeId} {g n cap : Nat}
theorem own_set {K : List M} {i : Nat} (m : M) (h : w.ownsRow B T 2 (.slice (some ⟨g, 0, none⟩) n cap) n (flat K)) (hK : K.length = n) (hi : i < n) :
    ((w.setCell ⟨g, i * 2, none⟩ (.string ⟨m.p.toArray⟩)).setCell ⟨g, i * 2 + 1, none⟩ (.int .u64 (m.n : Int))).ownsRow B T 2 (.slice (some ⟨g, 0, none⟩) n cap) n (flat (K.set i m)) ∧
    w.grownBy ((w.setCell ⟨g, i * 2, none⟩ (.string ⟨m.p.toArray⟩)).setCell ⟨g, i * 2 + 1, none⟩ (.int .u64 (m.n : Int))) (some g) := by
  obtain ⟨h1, g1⟩ := h.stored (i * 2) (.string ⟨m.p.toArray⟩)
  obtain ⟨h2, g2⟩ := h1.stored (i * 2 + 1) (.int .u64 (m.n : Int))
  rw [flat_set K i m (by omega)]
  exact ⟨h2, gtrans g1 g2⟩
theorem own_cells : ∀ (vs : List Value) (o : Nat) (w : World) (xs : List Value), w.ownsRow B T 2 (.slice (some ⟨g, 0, none⟩) n cap) n xs →
    ∃ ys, (w.setCells g o vs).ownsRow B T 2 (.slice (some ⟨g, 0, none⟩) n cap) n ys ∧ ys.take o = xs.take o ∧ w.grownBy (w.setCells g o vs) (some g)
  | [], o, w, xs, h => ⟨xs, h, rfl, World.grownBy.refl _ _⟩
  | v :: vs, o, w, xs, h => by
    obtain ⟨h1, g1⟩ := h.stored o v
    obtain ⟨ys, h2, e2, g2⟩ := own_cells vs (o + 1) _ _ h1
    refine ⟨ys, h2, ?_, gtrans g1 g2⟩
    have := congrArg (List.take o) e2
    rw [List.take_take, List.take_take, Nat.min_eq_left (by omega)] at this
    rw [this, List.take_set_of_le (Nat.le_refl _)]
theorem own_cut {xs : List Value} {i : Nat} (h : w.ownsRow B T 2 (.slice (some ⟨g, 0, none⟩) n cap) n xs) (hi : i ≤ n) : w.ownsRow B T 2 (.slice (some ⟨g, 0, none⟩) i cap) i (xs.take (i * 2)) := by
  rcases h.2 with ⟨h', _⟩ | ⟨g', cap', cur, h', hb, hg, hnc, hcm, hcs, htake⟩
  · simp at h'
  · simp only [Value.slice.injEq, Option.some.injEq, Addr.mk.injEq, and_true, true_and] at h'
    obtain ⟨rfl, rfl⟩ := h'
    refine ⟨by rw [List.length_take, h.1]; omega, .inr ⟨g, cap, cur, rfl, hb, hg, by omega, hcm, hcs, ?_⟩⟩
    rw [← htake, List.take_take, Nat.min_eq_left (by omega)]
theorem own_cap {xs : List Value} (h : w.ownsRow B T 2 (.slice (some ⟨g, 0, none⟩) n cap) n xs) : n ≤ cap ∧ cap ≤ maxLen ∧ B ≤ g := by
  rcases h.2 with ⟨h', _⟩ | ⟨g', cap', cur, h', hb, hg, hnc, hcm, hcs, htake⟩
  · simp at h'
  · simp only [Value.slice.injEq, Option.some.injEq, Addr.mk.injEq, and_true, true_and] at h'
    obtain ⟨rfl, rfl⟩ := h'
    exact ⟨hnc, hcm, hb⟩
theorem own_isSome {xs : List Value} (h : w.ownsRow B T 2 (.slice (some ⟨g, 0, none⟩) n cap) n xs) (j : Nat) (hj : j < n * 2) : (w.cell? ⟨g, j, none⟩).isSome = true ∧ w.frozen? ⟨g, j, none⟩ = false := by
  refine ⟨?_, h.frozenAt j⟩
  rw [h.cellAt j hj, List.getElem?_eq_getElem (by rw [h.1]; exact hj)]; rfl
end

/-- 'clear' on a slice of marks: some cells of its own. -/
theorem run_clear {w : World} {B : Nat} {T0 g n cap i m c : Nat} {xs : List Value} (h : w.ownsRow B T0 2 (.slice (some ⟨g, 0, none⟩) n cap) n xs) (hi : i < n) (hm : m = n - i) (ty : TypeId) :
    ∃ vs, (Builtin.clear_ #[22] ty #[.slice (some ⟨g, i * 2, none⟩) m c]).run Tryz.prog w = .ok (.tuple #[]) (w.setCells g (i * 2) vs) := by
  have hv : ∀ w, (zeroValue 54).run Tryz.prog w = .ok (.agg #[.string ⟨#[]⟩, .int .u64 0]) w := fun _ => by kernel_rfl
  obtain ⟨vs, hvs⟩ : ∃ vs, vs = (Builtin.zeroCells (Value.agg #[.string ⟨#[]⟩, .int .u64 0]).cells m).toList := ⟨_, rfl⟩
  have hlen : vs.length = m * 2 := by rw [hvs]; simp [Builtin.zeroCells, Value.cells]
  have h1 : ∀ v ∈ vs, v.oneCell' = true := by
    intro v hv'
    rw [hvs] at hv'
    simp only [Builtin.zeroCells, Value.cells, Array.toList_map, List.mem_map] at hv'
    obtain ⟨j, _, rfl⟩ := hv'
    have hj : j % 2 < 2 := Nat.mod_lt _ (by decide)
    have : j % 2 = 0 ∨ j % 2 = 1 := by omega
    rcases this with e | e <;> simp [e, Value.oneCell']
  have hst := run_storeCells_cells (P := Tryz.prog) g (i * 2) vs 0 w (fun j hj => by
      have := (own_isSome h (i * 2 + j) (by omega)).1
      simpa [Nat.add_assoc] using this) (fun j hj => by
      have := (own_isSome h (i * 2 + j) (by omega)).2
      simpa [Nat.add_assoc] using this) h1
  simp only [Nat.add_zero] at hst
  refine ⟨vs, ?_⟩
  obtain ⟨k, rfl⟩ : ∃ k, m = k + 1 := ⟨m - 1, by omega⟩
  simp only [Value.cells] at hvs
  simp [Builtin.clear_, run_underlying Tryz.underlying22, hv, Value.cells, ← hvs, hst]
theorem run_clear0 (a : Option Addr) (c : Nat) (ty : TypeId) (w : World) : (Builtin.clear_ #[22] ty #[.slice a 0 c]).run Tryz.prog w = .ok (.tuple #[]) w := by
  cases a <;> simp [Builtin.clear_, run_underlying Tryz.underlying22]

/-- A row of marks that a call owns. -/
def Own (w : World) (B : Nat) (v : Value) (L : List M) : Prop := w.ownsRow B 54 2 v L.length (flat L)
theorem Own.lies {w : World} {B : Nat} {v : Value} {L : List M} (h : Own w B v L) : ∃ a c, v = .slice a L.length c ∧ L.length ≤ c ∧ c ≤ maxLen ∧ Lies w a L.length L ∧ (∀ q, a = some q → B ≤ q.block) := lies_own h
theorem Own.below {w w' : World} {B : Nat} {v : Value} {L : List M} (h : Own w B v L) (k : Below w.heap.size w w') : Own w' B v L := World.ownsRow.kept h (grown_of k) (Classical.em _)
theorem Own.alloc {w : World} {B : Nat} {v : Value} {L : List M} (h : Own w B v L) (o : Obj) : Own (w.alloc o) B v L := World.ownsRow.alloc h o
theorem Own.drew {w : World} {B : Nat} {v : Value} {L : List M} (h : Own w B v L) : Own w.drew B v L := h.below (Below.drew (Below.refl _ _))
theorem Own.base {w : World} {B B' : Nat} {v : Value} {L : List M} (h : Own w B v L) (hB : B' ≤ B) : Own w B' v L := by
  refine ⟨h.1, ?_⟩
  rcases h.2 with h | ⟨g, cap, cur, e, hb, r⟩
  · exact .inl h
  · exact .inr ⟨g, cap, cur, e, Nat.le_trans hB hb, r⟩
theorem Own.nil (w : World) (B : Nat) : Own w B (.slice none 0 0) [] := World.ownsRow_nil _ _ _ _
/-- A row that is not empty: where it lies. -/
theorem Own.some {w : World} {B : Nat} {v : Value} {L : List M} (h : Own w B v L) (hL : L ≠ []) : ∃ g cap, v = .slice (some ⟨g, 0, none⟩) L.length cap ∧ L.length ≤ cap ∧ cap ≤ maxLen ∧ B ≤ g := by
  rcases h.2 with ⟨_, h0⟩ | ⟨g, cap, cur, e, hb, _, hn, hm, _⟩
  · exact absurd (List.length_eq_zero_iff.1 h0) hL
  · exact ⟨g, cap, e, hn, hm, hb⟩

end Mark
end Go.Proofs.YtnpjkmomllkhpaaGreat
