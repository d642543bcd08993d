
/- Marks: slices of structs of a text and a number: their cells; vectors in plain Lean. -/
import Derived.Test.YtcbnkncgacbniaaFrame
import Derived.Test.YtcbnkncgacbniaaStr
import Derived.Test.YtcbnkncgacbniaaRecs
import Derived.Laws.AppendOwn
import Derived.Laws.OwnMore
import Derived.Lib.Hide
import Derived.Test.YtcbnkncgacbniaaProg
namespace Go.Proofs.Ytcbnkncgacbniaa
namespace Mark
open Go.RowKit

structure M where
  p : List UInt8
  n : Nat
instance : Inhabited M := ⟨⟨[], 0⟩⟩
theorem M.ext' {a b : M} (h : a.p = b.p) (k : a.n = b.n) : a = b := by cases a; cases b; simp_all
def M.cells (m : M) : List Value := [.string ⟨m.p.toArray⟩, .int .u64 (m.n : Int)]
def M.agg (m : M) : Value := .agg #[.string ⟨m.p.toArray⟩, .int .u64 (m.n : Int)]
def flat (L : List M) : List Value := L.flatMap M.cells
theorem flat_nil : flat [] = [] := rfl
theorem flat_cons (m : M) (L : List M) : flat (m :: L) = .string ⟨m.p.toArray⟩ :: .int .u64 (m.n : Int) :: flat L := rfl
theorem flat_append (L K : List M) : flat (L ++ K) = flat L ++ flat K := by simp [flat]
theorem flat_snoc (L : List M) (m : M) : flat L ++ [.string ⟨m.p.toArray⟩, .int .u64 (m.n : Int)] = flat (L ++ [m]) := by rw [flat_append]; rfl
theorem flat_length : ∀ L : List M, (flat L).length = L.length * 2
  | [] => rfl
  | m :: L => by rw [flat_cons, List.length_cons, List.length_cons, flat_length L, List.length_cons]; omega
theorem flat_get : ∀ (L : List M) (j : Nat) (h : j < L.length), (flat L)[j * 2]? = some (.string ⟨(L[j]).p.toArray⟩) ∧ (flat L)[j * 2 + 1]? = some (.int .u64 ((L[j]).n : Int))
  | [], j, h => absurd h (by simp)
  | m :: L, 0, h => ⟨rfl, rfl⟩
  | m :: L, j + 1, h => by
    have := flat_get L j (by simpa using h)
    rw [flat_cons, show (j + 1) * 2 = j * 2 + 1 + 1 by omega]
    simpa using this
theorem flat_one : ∀ (L : List M), ∀ u ∈ flat L, u.oneCell' = true
  | [], u, h => by cases h
  | m :: L, u, h => by
    rw [flat_cons] at h
    rcases List.mem_cons.1 h with rfl | h
    · rfl
    rcases List.mem_cons.1 h with rfl | h
    · rfl
    · exact flat_one L u h

/-- A slice's elements, each in its two cells. -/
def Lies (w : World) (a : Option Addr) (n : Nat) (L : List M) : Prop :=
  n = L.length ∧ (0 < n → ∃ b off, a = some ⟨b, off, none⟩ ∧ ∀ j (h : j < L.length), w.cell? ⟨b, off + j * 2, none⟩ = some (.string ⟨(L[j]).p.toArray⟩) ∧ w.cell? ⟨b, off + j * 2 + 1, none⟩ = some (.int .u64 ((L[j]).n : Int)))
theorem Lies.nil (w : World) (a : Option Addr) : Lies w a 0 [] := ⟨rfl, fun h => absurd h (by omega)⟩
theorem Lies.mono {w w' : World} {a : Option Addr} {n : Nat} {L : List M} (h : Lies w a n L) (k : ∀ p v, w.cell? p = some v → (∀ q, a = some q → q.block = p.block) → w'.cell? p = some v) : Lies w' a n L := by
  refine ⟨h.1, fun hn => ?_⟩
  obtain ⟨b, off, rfl, hc⟩ := h.2 hn
  exact ⟨b, off, rfl, fun j hj => ⟨k _ _ (hc j hj).1 (fun q e => by cases e; rfl), k _ _ (hc j hj).2 (fun q e => by cases e; rfl)⟩⟩
theorem Lies.below {w w' : World} {a : Option Addr} {n : Nat} {L : List M} (h : Lies w a n L) (k : Below w.heap.size w w') : Lies w' a n L :=
  h.mono fun p _ hv _ => (World.cell?_of_block (k.block p.block (World.block_lt_of_cell? _ _ hv))).trans hv
/-- .. that lies in the call's own row. -/
theorem lies_own {w : World} {B : Nat} {t : TypeId} {v : Value} {L : List M} (h : w.ownsRow B t 2 v L.length (flat L)) :
    ∃ a c, v = .slice a L.length c ∧ L.length ≤ c ∧ c ≤ maxLen ∧ Lies w a L.length L ∧ (∀ q, a = some q → B ≤ q.block) := by
  have h0 := h
  rcases h.2 with ⟨rfl, hc⟩ | ⟨g, cap, cur, rfl, hB, _, hle, hmx, _⟩
  · have : L = [] := List.length_eq_zero_iff.1 hc
    subst this
    exact ⟨none, 0, rfl, Nat.le_refl _, Nat.zero_le _, Lies.nil _ _, fun q e => by cases e⟩
  · refine ⟨_, cap, rfl, hle, hmx, ⟨rfl, fun _ => ⟨g, 0, rfl, fun j hj => ?_⟩⟩, fun q e => by cases e; exact hB⟩
    have hg := flat_get L j hj
    rw [Nat.zero_add]
    exact ⟨(h0.cellAt (j * 2) (by omega)).trans hg.1, (h0.cellAt (j * 2 + 1) (by omega)).trans hg.2⟩
/-- Numbers and texts that can be. -/
def Ok (L : List M) : Prop := ∀ m ∈ L, m.n ≤ 18446744073709551615 ∧ m.p.length ≤ 9223372036854775807
theorem recs_lies {w : World} {a : Option Addr} {len : Nat} (h : Recs w [.str, .int .u64] a len) : ∃ L, Lies w a len L ∧ Ok L := by
  obtain ⟨hm, hc⟩ := h
  by_cases h0 : 0 < len
  · obtain ⟨b, off, rfl, _, hi⟩ := hc h0
    have key : ∀ k, k ≤ len → ∃ L : List M, L.length = k ∧ Ok L ∧ ∀ j (hj : j < L.length), w.cell? ⟨b, off + j * 2, none⟩ = some (.string ⟨(L[j]).p.toArray⟩) ∧ w.cell? ⟨b, off + j * 2 + 1, none⟩ = some (.int .u64 ((L[j]).n : Int)) := by
      intro k
      induction k with
      | zero => intro _; exact ⟨[], rfl, fun m hm => (by cases hm), fun j hj => absurd hj (Nat.not_lt_zero j)⟩
      | succ k ih =>
        intro hk
        obtain ⟨L, hl, hok, hL⟩ := ih (by omega)
        obtain ⟨v1, e1, s, rfl, hs⟩ := hi k (by omega) 0 _ rfl
        obtain ⟨v2, e2, n, rfl, hn⟩ := hi k (by omega) 1 _ rfl
        obtain ⟨n0, n1⟩ := bounds_u64 hn
        obtain ⟨n, rfl⟩ := Int.eq_ofNat_of_zero_le n0
        have hsl := Str.mk_toList s
        have hsz := Str.size_eq s
        unfold maxLen at hs
        refine ⟨L ++ [⟨s.data.toList, n⟩], by simp [hl], fun m hm => ?_, fun j hj => ?_⟩
        · rcases List.mem_append.1 hm with hm | hm
          · exact hok m hm
          · simp at hm; subst hm; exact ⟨by show n ≤ _; omega, by show s.data.toList.length ≤ _; omega⟩
        · by_cases hjk : j < L.length
          · rw [List.getElem_append_left hjk]; exact hL j hjk
          · have : j = k := by simp at hj; omega
            subst this
            rw [List.getElem_append_right (by omega)]
            have hz : j - L.length = 0 := by omega
            simp only [hz, List.getElem_cons_zero]
            rw [hsl]
            exact ⟨e1, e2⟩
    obtain ⟨L, hl, hok, hL⟩ := key len (Nat.le_refl _)
    exact ⟨L, ⟨hl.symm, fun _ => ⟨b, off, rfl, hL⟩⟩, hok⟩
  · obtain rfl : len = 0 := by omega
    exact ⟨[], Lies.nil _ _, fun m hm => (by cases hm)⟩

theorem info_mark : (Try.prog.info? 55).map (fun i => (i.zero, i.size, i.bytes)) = some (some (.agg #[.string ⟨#[]⟩, .int .u64 0]), 2, 24) := by kernel_rfl

end Mark
end Go.Proofs.Ytcbnkncgacbniaa
