/- slices.Insert at beats: where there is no room; every way. -/
import Derived.Test.YtfdcmmafdgagoaaBeatInsert
import Derived.Lib.AppendZerosOnto
namespace Go.Proofs.Ytfdcmmafdgagoaa
namespace Beat
open Go.RowKit Go.Proofs.Ytfdcmmafdgagoaa.Order

theorem cells_grow {row xs ys : List Value} {p q N : Nat} (hr : row.take p = xs.take p) (hx : xs.length = N) (hy : ys.length = q) (hp : p ≤ N) (hs : N + q ≤ row.length) :
    let c1 := row.take p ++ ys ++ row.drop (p + ys.length)
    (c1.take (p + q) ++ xs.drop p ++ c1.drop (p + q + (xs.drop p).length)).take (N + q) = xs.take p ++ ys ++ xs.drop p ∧ (c1.take (p + q) ++ xs.drop p ++ c1.drop (p + q + (xs.drop p).length)).length = row.length ∧ c1.length = row.length := by
  intro c1
  have hd : (xs.drop p).length = N - p := by rw [List.length_drop, hx]
  have e3 : c1.length = row.length := by
    show (row.take p ++ ys ++ row.drop (p + ys.length)).length = _
    simp only [List.length_append, List.length_take, List.length_drop, hy]; omega
  have e1 : c1.take (p + q) = xs.take p ++ ys := by
    show List.take (p + q) (row.take p ++ ys ++ _) = _
    rw [hr]
    refine List.take_left' ?_
    rw [List.length_append, List.length_take, hx, hy]; omega
  refine ⟨?_, ?_, e3⟩
  · rw [e1]
    refine List.take_left' ?_
    rw [List.length_append, List.length_append, List.length_take, hx, hd, hy]; omega
  · rw [e1, hd]
    simp only [List.length_append, List.length_take, List.length_drop, hx, hy, e3]; omega

set_option maxHeartbeats 4000000 in
set_option maxRecDepth 100000 in
theorem insert_grow (b off n c i vb voff m vc : Nat) (L K : List B) (w : World) (cur : Array Value) (T T' : TypeId) (hoff : Hid (off = 0)) (hvoff : Hid (voff = 0)) (hi : i < n) (hm : 0 < m) (hnc : n ≤ c) (hroom : c < n + m) (hbig : n + m ≤ 1099511627776)
    (hL : Hid (L.length = n)) (hK : Hid (K.length = m)) (hg : w.heap[b]? = some (.cells cur T (0, 0))) (hs : cur.size = c * 3) (ht : cur.toList.take (n * 3) = flat L) (hv : w.heap[vb]? = some (.cells (flat K).toArray T' (0, 0))) :
    Calls Try.prog 26 #[.slice (some ⟨b, off, none⟩) n c, .int .i64 i, .slice (some ⟨vb, voff, none⟩) m vc] w fun e w' =>
      ∃ G, e = .returned (.slice (some ⟨w.heap.size, 0, none⟩) (n + m) G) ∧ n + m ≤ G ∧ G ≤ maxLen ∧ (∃ cur', w'.heap[w.heap.size]? = some (.cells cur' 28 (0, 0)) ∧ cur'.size = G * 3 ∧ cur'.toList.take ((n + m) * 3) = flat (L.take i ++ (K ++ L.drop i))) ∧ Below w.heap.size w w' := by
  obtain ⟨i0, hi0, hz0, hz1, hz2⟩ := info_parts info_beat
  have mixed : Try.prog.follows Departure.mixedOrders = true := by kernel_rfl
  have hz1' : ¬ ((m : Int) = 0) := by omega
  have hz2' : ¬ ((i : Int) = (n : Int)) := by omega
  have hz3 : (c : Int) < (n : Int) + (m : Int) := by omega
  have fl : (flat L).length = n * 3 := by rw [← hL.out]; exact Row.flat_length enc L
  have fk : (flat K).length = m * 3 := by rw [← hK.out]; exact Row.flat_length enc K
  have hbw : b < w.heap.size := (Array.getElem?_eq_some_iff.1 hg).1
  have hvw : vb < w.heap.size := (Array.getElem?_eq_some_iff.1 hv).1
  have hkk : (n : Int) + (m : Int) - (i : Int) = ((n + m - i : Nat) : Int) := by omega
  have hik : i + (n + m - i) = n + m := by omega
  have hsrc : ∀ j v, (flat L)[j]? = some v → cur[j]? = some v := fun j v hj => by
    have hjl := (List.getElem?_eq_some_iff.1 hj).1
    rw [fl] at hjl
    have := congrArg (fun l => l[j]?) ht
    rw [List.getElem?_take, if_pos hjl, hj, Array.getElem?_toList] at this
    exact this
  have hold : (Builtin.firstCells i0.size i (.slice (some ⟨b, off, none⟩) i c)).run Try.prog w.drew = .ok ((flat L).take (i * 3)).toArray w.drew := by
    rw [hz1]
    exact run_firstCells_some w.drew 3 i ⟨b, off, none⟩ i c ((flat L).take (i * 3)) (by rw [List.length_take, fl]; omega) (fun j v hj => by
      rw [Addr.add_lit, cell_of_row w.drew b _ cur T (0, 0) hg, hoff.out, Nat.zero_add]
      rw [List.getElem?_take] at hj
      split at hj
      · exact hsrc j v hj
      · cases hj)
  have h63 : n + m ≤ 9223372036854775807 := by omega
  have hrz : ∀ ty, (Builtin.append_ #[22, 3] ty #[.slice (some ⟨b, off, none⟩) i c, .int .i64 ((n : Int) + (m : Int) - (i : Int))]).run Try.prog w =
      .ok (.slice (some ⟨w.heap.size, 0, none⟩) (n + m) (grownCap w (n + m) c 28)) (w.drew.alloc (.cells (((flat L).take (i * 3)).toArray ++ Builtin.zeroCells (Value.agg #[.string ⟨#[]⟩, .int .u64 0, .bool false]).cells (n + m - i) ++ Builtin.zeroCells (Value.agg #[.string ⟨#[]⟩, .int .u64 0, .bool false]).cells (grownCap w (n + m) c 28 - (n + m))) 28)) := fun ty => by
    have h := Lib.run_append_grow_zeros w 22 3 ty 28 i0 _ .i64 .i64 Try.underlying22 Try.underlying3 hi0 hz0 (some ⟨b, off, none⟩) i c ((flat L).take (i * 3)) hold (n + m - i) (by omega) (by omega) (by omega) (by omega) (by rw [hz2]; omega) (by rw [hz2, hik]; exact growslice_fits hroom (by omega))
    rw [hik] at h
    rw [hkk]
    exact h
  obtain ⟨G, hG⟩ : ∃ G, G = grownCap w (n + m) c 28 := ⟨_, rfl⟩
  have hGn : n + m ≤ G := by rw [hG]; exact grownCap_ge w _ _ _
  have hGm : G ≤ maxLen := by rw [hG]; exact grownCap_le_maxLen w (n + m) c _ (by unfold maxLen; omega)
  obtain ⟨ROW, hROW⟩ : ∃ ROW : Array Value, ROW = ((flat L).take (i * 3)).toArray ++ Builtin.zeroCells (Value.agg #[.string ⟨#[]⟩, .int .u64 0, .bool false]).cells (n + m - i) ++ Builtin.zeroCells (Value.agg #[.string ⟨#[]⟩, .int .u64 0, .bool false]).cells (G - (n + m)) := ⟨_, rfl⟩
  rw [← hG] at hrz
  rw [← hROW] at hrz
  have hRs : ROW.size = G * 3 := by
    rw [hROW, Array.size_append, Array.size_append, size_zeroCells, size_zeroCells, List.size_toArray, List.length_take, fl]
    simp only [Value.cells]
    show min (i * 3) (n * 3) + (n + m - i) * 3 + (G - (n + m)) * 3 = G * 3
    omega
  have hRt : ROW.toList.take (i * 3) = (flat L).take (i * 3) := by
    rw [hROW, Array.toList_append, Array.toList_append, List.append_assoc]
    exact List.take_left' (by rw [List.length_take, fl]; omega)
  obtain ⟨W0, hW0⟩ : ∃ W0, W0 = w.drew.alloc (.cells ROW 28) := ⟨_, rfl⟩
  rw [← hW0] at hrz
  have n0 : W0.heap[w.heap.size]? = some (.cells ROW 28 (0, 0)) := by rw [hW0]; exact heap_alloc_new w.drew _
  have n1 : ∀ k, k < w.heap.size → W0.heap[k]? = w.heap[k]? := fun k hk => by rw [hW0]; exact Below.heap_alloc w.drew _ k hk
  have k0 : Below w.heap.size w W0 := by rw [hW0]; exact (Below.drew (Below.refl _ _)).alloc (Nat.le_refl _) _
  obtain ⟨r1, r2, r3⟩ := cells_grow (row := ROW.toList) (xs := flat L) (ys := flat K) (p := i * 3) (q := m * 3) (N := n * 3) hRt fl fk (by omega) (by rw [Array.length_toList, hRs]; omega)
  have hd : ((flat L).drop (i * 3)).length = (n - i) * 3 := by rw [List.length_drop, fl]; omega
  obtain ⟨c1, hc1⟩ : ∃ c1, c1 = ROW.toList.take (i * 3) ++ flat K ++ ROW.toList.drop (i * 3 + (flat K).length) := ⟨_, rfl⟩
  rw [← hc1] at r1 r2 r3
  obtain ⟨c2, hc2⟩ : ∃ c2, c2 = c1.take (i * 3 + m * 3) ++ (flat L).drop (i * 3) ++ c1.drop (i * 3 + m * 3 + ((flat L).drop (i * 3)).length) := ⟨_, rfl⟩
  rw [← hc2] at r1 r2
  have e3 : (i + m) * 3 = i * 3 + m * 3 := by rw [Nat.add_mul]
  have hcpA : ∀ (W : World), W.heap = W0.heap → ∀ ty dc, (Builtin.copy_ #[22, 22] ty #[.slice (some ⟨w.heap.size, i * 3, none⟩) (n + m - i) dc, .slice (some ⟨vb, voff, none⟩) m vc]).run Try.prog W = .ok (goInt (Nat.min m (n + m - i))) (W.setRow w.heap.size c1.toArray) := fun W hW ty dc => by
    rw [Row.run_copy_rows W _ _ ty 28 i0 w.heap.size (i * 3) (n + m - i) dc ⟨vb, voff, none⟩ m vc ROW 28 (flat K) Try.underlying22 hi0 (by rw [hW]; exact n0) (by rw [fk, hz1]; simp only [Nat.min_def]; split <;> omega) (fun j v hj => by
      rw [Addr.add_lit, cell_of_row W vb _ (flat K).toArray T' (0, 0) (by rw [hW, n1 vb hvw]; exact hv), hvoff.out, Nat.zero_add, List.getElem?_toArray]; exact hj) (by rw [fk, hRs]; omega) (Row.flat_one enc K), hc1]
  obtain ⟨W1, hW1⟩ : ∃ W1, W1 = W0.setRow w.heap.size c1.toArray := ⟨_, rfl⟩
  have g1 : W1.heap[w.heap.size]? = some (.cells c1.toArray 28 (0, 0)) := by rw [hW1]; exact setRow_heap W0 _ ROW _ _ _ n0
  have g2 : W1.heap[b]? = some (.cells cur T (0, 0)) := by rw [hW1, setRow_other W0 _ b _ (by omega), n1 b hbw]; exact hg
  have k1 : Below w.heap.size w W1 := by rw [hW1]; exact below_setRow k0 (Nat.le_refl _) _
  have hcpB : ∀ (W : World), W.heap = W1.heap → ∀ ty dc sc, (Builtin.copy_ #[22, 22] ty #[.slice (some ⟨w.heap.size, (i + m) * 3, none⟩) (n + m - (i + m)) dc, .slice (some ⟨b, off + i * 3, none⟩) (n - i) sc]).run Try.prog W = .ok (goInt (Nat.min (n - i) (n + m - (i + m)))) (W.setRow w.heap.size c2.toArray) := fun W hW ty dc sc => by
    rw [Row.run_copy_rows W _ _ ty 28 i0 w.heap.size ((i + m) * 3) (n + m - (i + m)) dc ⟨b, off + i * 3, none⟩ (n - i) sc c1.toArray 28 ((flat L).drop (i * 3)) Try.underlying22 hi0 (by rw [hW]; exact g1) (by rw [hd, hz1]; simp only [Nat.min_def]; split <;> omega) (fun j v hj => by
      rw [Addr.add_lit]
      rw [List.getElem?_drop] at hj
      rw [cell_of_row W b _ cur T (0, 0) (by rw [hW]; exact g2), hoff.out, Nat.zero_add]
      exact hsrc _ v hj) (by rw [hd, List.size_toArray, r3, Array.length_toList, hRs]; omega) (fun v hv => Row.flat_one enc L v (List.mem_of_mem_drop hv)), hc2, e3]
  have hcpA' := hcpA W0 rfl
  rw [← hW1] at hcpA'
  have hcpA2 : ∀ ty dc, (Builtin.copy_ #[22, 22] ty #[.slice (some ⟨w.heap.size, i * 3, none⟩) (n + m - i) dc, .slice (some ⟨vb, voff, none⟩) m vc]).run Try.prog W0 = .ok (goInt (Nat.min m (n + m - i))) W1 := hcpA'
  have G1 := Lib.hid g1
  have KB := Lib.hid k1
  have HG := Lib.hid (And.intro hGn hGm)
  have R1 : Hid (c2.take ((n + m) * 3) = flat (L.take i ++ (K ++ L.drop i)) ∧ c2.length = G * 3) := Lib.hid ⟨by
    rw [Nat.add_mul, r1, show flat (L.take i ++ (K ++ L.drop i)) = Row.flat enc (L.take i ++ (K ++ L.drop i)) from rfl, Row.flat_append, Row.flat_append, Row.flat_take, List.append_assoc]
    congr 2
    have := Row.flat_append enc (L.take i) (L.drop i)
    rw [List.take_append_drop] at this
    rw [show flat L = Row.flat enc L from rfl, this, List.drop_left']
    rw [Row.flat_length, List.length_take, hL.out, Nat.min_eq_left (by omega)]; rfl, by rw [r2, Array.length_toList, hRs]⟩
  have hw1 : IntKind.i64.wrap ((i : Int) + (m : Int)) = (i : Int) + (m : Int) := by rw [IntKind.wrap_i64]; omega
  have hb1 : (0 : Int) ≤ (i : Int) + (m : Int) := by omega
  have hin : i ≤ n := by omega
  have htn : ((i : Int) + (m : Int)).toNat = i + m := by omega
  have hb3 : (i : Int) ≤ (n : Int) := by omega
  have hG63 : G ≤ 9223372036854775807 := by unfold maxLen at hGm; omega
  have hGi : ¬ (G = i) := by omega
  have hGim : ¬ (G = i + m) := by omega
  have hci : ¬ (c = i) := by omega
  clear hc1 hc2 r1 r2 r3 hd e3 hW1 g1 g2 k1 hs ht hv fl fk hg hz0 hz1 hz2 hi0 hG hROW hRs hRt hW0 n0 n1 k0 hcpA hcpA' hold hsrc hkk hik hGm
  go_enter Try.func26, Try.ntmps26
  go_wp2_with (first
    | (at_builtin; refine Lib.wpList_append_run _ rfl _ _ _ _ rfl _ _ rfl rfl _ _ (hrz _) ?_)
    | (at_builtin; refine wpList_copy_runI _ rfl _ _ 22 22 rfl _ _ rfl rfl (hcpA2 _ _) ?_)
    | (at_builtin; refine wpList_copy_runI _ rfl _ _ 22 22 rfl _ _ rfl rfl (hcpB _ rfl _ _ _) ?_))
  go_region_law_o (refine step_copy_runI rfl _ _ 22 22 rfl (.slice (some ⟨w.heap.size, (i + m) * 3, none⟩) (n + m - (i + m)) (G - (i + m))) (.slice (some ⟨b, off + i * 3, none⟩) (n - i) (c - i)) (by simp [Act.eval, Act.put]) (by simp [Act.eval, Act.put]) (hcpB W1.drew rfl 3 (G - (i + m)) (c - i)) ?_)
  go_wp2
  go_ret
  refine ⟨G, rfl, HG.out.1, HG.out.2, ⟨c2.toArray, ?_, by simpa using R1.out.2, by simpa using R1.out.1⟩, ?_⟩
  · exact setRow_heap _ _ _ _ _ _ G1.out
  · exact below_setRow (KB.out.trans (Below.drew (Below.refl _ _))) (Nat.le_refl _) _
end Beat
end Go.Proofs.Ytfdcmmafdgagoaa
