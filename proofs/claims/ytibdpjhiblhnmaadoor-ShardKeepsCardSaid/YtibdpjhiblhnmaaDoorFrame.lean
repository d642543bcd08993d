
/- What a walk is told of its arguments that lie in memory: a slice of integers, a slice of strings. -/
import Derived.WalkKit
import Derived.SliceStrings
import Derived.OpenShut
import Derived.Below
import Derived.WalkSmall
namespace Go.Proofs.YtibdpjhiblhnmaaDoor
open Go.RowKit

/-- One call more: what was there when the walk began is as it was. -/
theorem bstep {w a b : World} (h : Below w.heap.size w a) (k : Below a.heap.size a b) : Below w.heap.size w b := h.trans (k.mono h.size)

theorem balloc {w a : World} (h : Below w.heap.size w a) (o : Obj) : Below w.heap.size w (a.alloc o) := h.alloc h.size o
theorem bdrewN {w a : World} (h : Below w.heap.size w a) (n : Nat) : Below w.heap.size w (a.drewN n) := below_drewN h n
theorem bset {w a : World} (h : Below w.heap.size w a) {p : Addr} (hp : w.heap.size ≤ p.block) (v : Value) : Below w.heap.size w (a.setCell p v) := h.setCell hp v

/-- A slice of integers that came in: nil, or a row of cap cells, the numbers zs, of which the first len are its elements. -/
def IsRow (k : IntKind) (w : World) (a : Option Addr) (len cap : Nat) (zs : List Int) : Prop :=
  (a = none ∧ len = 0 ∧ cap = 0 ∧ zs = []) ∨
  ∃ x, a = some x ∧ len ≤ cap ∧ cap ≤ maxLen ∧ zs.length = cap ∧ (∀ i, i < zs.length → w.cell? (x.add i) = some (.int k (zs.getD i 0))) ∧ ∀ n ∈ zs, (Lit.int k n).wf = true

/-- A slice of strings that came in. -/
def IsStrs (w : World) (a : Option Addr) (len cap : Nat) (zs : List ByteArray) : Prop :=
  (a = none ∧ len = 0 ∧ cap = 0 ∧ zs = []) ∨
  ∃ x, a = some x ∧ len ≤ cap ∧ cap ≤ maxLen ∧ zs.length = cap ∧ (∀ i, i < zs.length → w.cell? (x.add i) = some (.string (zs.getD i ByteArray.empty))) ∧ ∀ n ∈ zs, n.size ≤ maxLen

/-- The elements of a slice of uint64 that came in, as numbers, each with its cell. -/
def Nats (w : World) (a : Option Addr) (len : Nat) (l : List Nat) : Prop :=
  l.length = len ∧ (∀ n ∈ l, n ≤ 18446744073709551615) ∧ (0 < len → ∃ b off, a = some ⟨b, off, none⟩ ∧ b < w.heap.size ∧ ∀ j (h : j < l.length), w.cell? ⟨b, off + j, none⟩ = some (.int .u64 ((l[j] : Nat) : Int)))

theorem IsRow.nats {w : World} {a : Option Addr} {len cap : Nat} {zs : List Int} (h : IsRow .u64 w a len cap zs) : len ≤ maxLen ∧ ∃ l, Nats w a len l := by
  rcases h with ⟨rfl, rfl, rfl, rfl⟩ | ⟨x, rfl, h1, h2, h3, h4, h5⟩
  · exact ⟨by unfold maxLen; omega, [], rfl, (fun n h => by cases h), (fun h => absurd h (by omega))⟩
  · have hb : ∀ n ∈ zs, 0 ≤ n ∧ n ≤ 18446744073709551615 := fun n hn => bounds_u64 (h5 n hn)
    refine ⟨by omega, (zs.take len).map Int.toNat, by simp; omega, ?_, fun hl => ?_⟩
    · intro n hn
      obtain ⟨z, hz, rfl⟩ := List.mem_map.1 hn
      have := hb z (List.mem_of_mem_take hz)
      omega
    · obtain ⟨b, off, rfl, hc⟩ := ints_at h4 (by omega)
      refine ⟨b, off, rfl, World.block_lt_of_cell? _ _ (hc 0 (by omega)), fun j hj => ?_⟩
      have hj' : j < len := by simp at hj; omega
      rw [hc j (by omega)]
      have := hb zs[j] (List.getElem_mem _)
      simp only [List.getElem_map, List.getElem_take, List.getD_eq_getElem?_getD, List.getElem?_eq_getElem (show j < zs.length by omega), Option.getD_some]
      rw [Int.toNat_of_nonneg this.1]

theorem Nats.below {w w' : World} {a : Option Addr} {len : Nat} {l : List Nat} (h : Nats w a len l) {B : Nat} (hB : B = w.heap.size) (hb : Below B w w') : Nats w' a len l := by
  refine ⟨h.1, h.2.1, fun hl => ?_⟩
  obtain ⟨b, off, e, hlt, hc⟩ := h.2.2 hl
  subst hB
  exact ⟨b, off, e, Nat.lt_of_lt_of_le hlt hb.size, fun j hj => by rw [hb.cell (p := ⟨b, off + j, none⟩) hlt]; exact hc j hj⟩

end Go.Proofs.YtibdpjhiblhnmaaDoor
