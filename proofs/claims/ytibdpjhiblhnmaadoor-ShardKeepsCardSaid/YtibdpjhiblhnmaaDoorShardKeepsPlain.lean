/- ShardKeeps: the plain law. -/
import Derived.Test.YtibdpjhiblhnmaaDoorShardWorks
import Derived.Test.YtibdpjhiblhnmaaDoorTextMap
namespace Go.Proofs.YtibdpjhiblhnmaaDoor
namespace ShardKeeps
open Go.RowKit Shard
theorem mem_upTo (d : Array (List UInt8)) (m : Nat) : ∀ j, j < m → d[j]! ∈ Lib.compactUpTo d m
  | j, hj => by
    by_cases hk : Lib.keeps d j = true
    · unfold Lib.compactUpTo
      exact List.mem_map.2 ⟨j, List.mem_filter.2 ⟨List.mem_range.2 hj, hk⟩, rfl⟩
    · have h := hk
      simp only [Lib.keeps, decide_eq_true_eq, not_or, ne_eq, Decidable.not_not] at h
      have hj0 : 0 < j := by have := h.1; omega
      rw [h.2]
      exact mem_upTo d m (j - 1) (by omega)
termination_by j => j
theorem mem_keys_of (zs : List (List UInt8)) (x : List UInt8) (h : x ∈ zs) : x ∈ keys zs := by
  have hx : x ∈ WordSeq.rising zs := (rising_perm zs).mem_iff.2 h
  obtain ⟨j, hj, rfl⟩ := List.mem_iff_getElem.1 hx
  have := mem_upTo (WordSeq.rising zs).toArray (WordSeq.rising zs).length j hj
  have e : (WordSeq.rising zs).toArray[j]! = (WordSeq.rising zs)[j] := by simp [hj]
  rw [e] at this
  exact this
theorem part_more (a b : List (List UInt8)) (i : Nat) (x : List UInt8) (h : x ∈ Shard.part (keys a) i) : x ∈ Shard.part (keys (a ++ b)) i := by
  unfold Shard.part at h ⊢
  obtain ⟨h1, h2⟩ := List.mem_filter.1 h
  exact List.mem_filter.2 ⟨mem_keys_of _ _ (List.mem_append_left _ (mem_keys a x h1)), h2⟩
/-- The sum of sizes that the law counts. -/
def wsum (L : List (List UInt8)) : Nat → Nat
  | 0 => 0
  | k + 1 => wsum L k + 1 + (L.getD k []).length
theorem wsum_le (L : List (List UInt8)) (h : ∀ x ∈ L, x.length ≤ 140737488351232) : ∀ k, wsum L k ≤ k * 140737488351233
  | 0 => Nat.zero_le _
  | k + 1 => by
    have h1 := wsum_le L h k
    have h2 : (L.getD k []).length ≤ 140737488351232 := by
      rw [List.getD_eq_getElem?_getD]
      cases e : L[k]? with
      | none => exact Nat.zero_le _
      | some x => exact h x (List.mem_of_getElem? e)
    show wsum L k + 1 + (L.getD k []).length ≤ _
    omega
theorem wsum_mono (L : List (List UInt8)) (k : Nat) : ∀ m, wsum L k ≤ wsum L (k + m)
  | 0 => Nat.le_refl _
  | m + 1 => Nat.le_trans (wsum_mono L k m) (by show _ ≤ wsum L (k + m) + 1 + _; omega)
theorem wsum_mem (L : List (List UInt8)) (n : Nat) (hn : n = L.length) (x : List UInt8) (h : x ∈ L) : x.length ≤ wsum L n := by
  obtain ⟨i, hi, rfl⟩ := List.mem_iff_getElem.1 h
  have h1 : L[i].length ≤ wsum L (i + 1) := by
    show _ ≤ wsum L i + 1 + (L.getD i []).length
    rw [List.getD_eq_getElem?_getD, List.getElem?_eq_getElem hi]
    show L[i].length ≤ wsum L i + 1 + L[i].length
    omega
  have h2 := wsum_mono L (i + 1) (n - (i + 1))
  rw [show i + 1 + (n - (i + 1)) = n by omega] at h2
  omega
/-- The map's function behind some keys. -/
def mk (l : List (List UInt8)) : List UInt8 → Option Value := fun q => if l.contains q then some (.int .i64 1) else none
theorem mk_snoc (l : List (List UInt8)) (x : List UInt8) : ∀ q, TextMap.put (mk l) x (.int .i64 1) q = mk (l ++ [x]) q := fun q => by
  unfold TextMap.put mk
  by_cases h : q = x
  · subst h; simp
  · simp [h]
theorem mk_mem (l : List (List UInt8)) (x : List UInt8) (h : x ∈ l) : (mk l x).getD (.int .i64 0) = .int .i64 1 := by
  unfold mk
  rw [if_pos (by simpa using h)]
  rfl
theorem zero_int {w : World} : (zeroValue 3).run Tryd.prog w = .ok (.int .i64 0) w := by kernel_rfl
end ShardKeeps
end Go.Proofs.YtibdpjhiblhnmaaDoor
