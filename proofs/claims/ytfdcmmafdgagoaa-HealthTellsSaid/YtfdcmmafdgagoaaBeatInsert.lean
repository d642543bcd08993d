/- slices.Insert, slices.Clone at beats. -/
import Derived.Test.YtfdcmmafdgagoaaBeatOf
import Derived.Test.YtfdcmmafdgagoaaRowOwn
import Derived.Lib.Overlaps
import Derived.Laws.NewBlocks
import Derived.Laws.CopyOwn
import Derived.Shelf.Spec.SlicesInsert
import Derived.Deep.DeepCutAuto
namespace Go.Proofs.Ytfdcmmafdgagoaa
namespace Beat
open Go.RowKit Go.Proofs.Ytfdcmmafdgagoaa.Order

theorem typ : Row.Typ Try.prog enc 22 28 (.agg #[.string ⟨#[]⟩, .int .u64 0, .bool false]) 32 := ⟨Try.underlying22, Row.info_of info_beat, rfl, by decide⟩

/-- The cells of a row behind an insertion in place. -/
theorem cells_room {cur : List Value} {xs ys : List Value} {p q N : Nat} (hN : cur.take N = xs) (hx : xs.length = N) (hy : ys.length = q) (hp : p ≤ N) (hs : N + q ≤ cur.length) :
    let c1 := cur.take (p + q) ++ xs.drop p ++ cur.drop (p + q + (xs.drop p).length)
    (c1.take p ++ ys ++ c1.drop (p + ys.length)).take (N + q) = xs.take p ++ ys ++ xs.drop p ∧ (c1.take p ++ ys ++ c1.drop (p + ys.length)).length = cur.length ∧ c1.length = cur.length := by
  intro c1
  have hd : (xs.drop p).length = N - p := by rw [List.length_drop, hx]
  have e1 : c1.take p = xs.take p := by
    show List.take p (cur.take (p + q) ++ xs.drop p ++ _) = _
    rw [List.append_assoc, List.take_append_of_le_length (by rw [List.length_take]; omega), List.take_take, Nat.min_eq_left (by omega), ← hN, List.take_take, Nat.min_eq_left hp]
  have e2 : c1.drop (p + q) = xs.drop p ++ cur.drop (N + q) := by
    show List.drop (p + q) (cur.take (p + q) ++ xs.drop p ++ _) = _
    rw [List.append_assoc, List.drop_left' (by rw [List.length_take]; omega), hd, show p + q + (N - p) = N + q by omega]
  have e3 : c1.length = cur.length := by
    show (cur.take (p + q) ++ xs.drop p ++ cur.drop (p + q + (xs.drop p).length)).length = _
    simp only [List.length_append, List.length_take, List.length_drop, hx]; omega
  refine ⟨?_, ?_, e3⟩
  · rw [e1, hy, e2, ← List.append_assoc]
    refine List.take_left' ?_
    rw [List.length_append, List.length_append, List.length_take, hx, hd, hy]; omega
  · rw [e1, hy, e2]
    simp only [List.length_append, List.length_take, List.length_drop, hx, hy]; omega

set_option maxHeartbeats 4000000 in
set_option maxRecDepth 100000 in
theorem insert_room (b off n c i vb voff m vc : Nat) (L K : List B) (w : World) (cur : Array Value) (T T' : TypeId) (hoff : Hid (off = 0)) (hvoff : Hid (voff = 0)) (hi : i < n) (hm : 0 < m) (hroom : n + m ≤ c) (hc : c ≤ 9223372036854775807) (hvb : vb ≠ b)
    (hL : Hid (L.length = n)) (hK : Hid (K.length = m)) (hg : w.heap[b]? = some (.cells cur T (0, 0))) (hs : cur.size = c * 3) (ht : cur.toList.take (n * 3) = flat L) (hv : w.heap[vb]? = some (.cells (flat K).toArray T' (0, 0))) :
    Calls Try.prog 26 #[.slice (some ⟨b, off, none⟩) n c, .int .i64 i, .slice (some ⟨vb, voff, none⟩) m vc] w fun e w' =>
      e = .returned (.slice (some ⟨b, off, none⟩) (n + m) c) ∧ (∃ cur', w'.heap[b]? = some (.cells cur' T (0, 0)) ∧ cur'.size = c * 3 ∧ cur'.toList.take ((n + m) * 3) = flat (L.take i ++ (K ++ L.drop i))) ∧ Below b w w' := by
  obtain ⟨i0, hi0, hz0, hz1, hz2⟩ := info_parts info_beat
  have mixed : Try.prog.follows Departure.mixedOrders = true := by kernel_rfl
  have hz1' : ¬ ((m : Int) = 0) := by omega
  have hz2' : ¬ ((i : Int) = (n : Int)) := by omega
  have fl : (flat L).length = n * 3 := by rw [← hL.out]; exact Row.flat_length enc L
  have fk : (flat K).length = m * 3 := by rw [← hK.out]; exact Row.flat_length enc K
  have hov : ∀ lb cb, (callFunc 33 #[.slice (some ⟨vb, voff, none⟩) m vc, .slice (some ⟨b, off + (i + m) * 3, none⟩) lb cb]).run Try.prog w = .ok (.value (.bool false)) w := fun lb cb => by
    rw [run_callFunc_extern Try.func33 (by kernel_rfl) (by kernel_rfl) (by kernel_rfl) (e := Extern.SlicesOverlaps.overlaps #[22, 22] #[4]) (by kernel_rfl),
      Lib.run_overlaps_apart w 22 4 28 Try.underlying22 3 (fun w => by simp [sizeOf, typeInfo, hi0, hz1]) ⟨vb, voff, none⟩ ⟨b, off + (i + m) * 3, none⟩ m vc lb cb hvb T' T (flat K).toArray.size cur.size (by simp [World.shape?, hv]) (by simp [World.shape?, hg]) (by rw [hs]; omega) (by simp [World.frozen?, hv]) (by simp [World.frozen?, hv])]
    rfl
  have hw1 : IntKind.i64.wrap ((i : Int) + (m : Int)) = (i : Int) + (m : Int) := by rw [IntKind.wrap_i64]; omega
  have hb1 : (0 : Int) ≤ (i : Int) + (m : Int) := by omega
  have hin : i ≤ n := by omega
  have htn : ((i : Int) + (m : Int)).toNat = i + m := by omega
  have hb2 : ¬ (c = i + m) := by omega
  have hb3 : (i : Int) ≤ (n : Int) + (m : Int) := by omega
  have hb4 : ¬ (c = i) := by omega
  obtain ⟨r1, r2, r3⟩ := cells_room (cur := cur.toList) (xs := flat L) (ys := flat K) (p := i * 3) (q := m * 3) (N := n * 3) ht fl fk (by omega) (by rw [Array.length_toList, hs]; omega)
  have hd : ((flat L).drop (i * 3)).length = (n - i) * 3 := by rw [List.length_drop, fl]; omega
  have o1 : ((flat L).drop (i * 3)).all (·.oneCell') = true := by rw [List.all_eq_true]; exact fun v hv => Row.flat_one enc L v (List.mem_of_mem_drop hv)
  obtain ⟨c1, hc1⟩ : ∃ c1, c1 = cur.toList.take (i * 3 + m * 3) ++ (flat L).drop (i * 3) ++ cur.toList.drop (i * 3 + m * 3 + ((flat L).drop (i * 3)).length) := ⟨_, rfl⟩
  rw [← hc1] at r1 r2 r3
  obtain ⟨c2, hc2⟩ : ∃ c2, c2 = c1.take (i * 3) ++ flat K ++ c1.drop (i * 3 + (flat K).length) := ⟨_, rfl⟩
  rw [← hc2] at r1 r2
  have e3 : off + (i + m) * 3 = i * 3 + m * 3 := by rw [hoff.out, Nat.add_mul]; omega
  obtain ⟨W1, hW1⟩ : ∃ W1, W1 = w.drew.setRow b c1.toArray := ⟨_, rfl⟩
  have hcp1 : ∀ ty dc sc, (Builtin.copy_ #[22, 22] ty #[.slice (some ⟨b, off + (i + m) * 3, none⟩) (n + m - (i + m)) dc, .slice (some ⟨b, off + i * 3, none⟩) (n + m - i) sc]).run Try.prog w.drew = .ok (goInt (Nat.min (n + m - i) (n + m - (i + m)))) W1 := fun ty dc sc => by
    rw [Row.run_copy_rows w.drew _ _ ty 28 i0 b (off + (i + m) * 3) (n + m - (i + m)) dc ⟨b, off + i * 3, none⟩ (n + m - i) sc cur T ((flat L).drop (i * 3)) Try.underlying22 hi0 hg (by rw [hd, hz1]; simp only [Nat.min_def]; split <;> omega) (fun j v hj => by
      rw [Addr.add_lit]
      have hj2 := hj
      rw [List.getElem?_drop] at hj
      have hjl := (List.getElem?_eq_some_iff.1 hj2).1
      rw [hd] at hjl
      rw [cell_of_row w.drew b _ cur T (0, 0) hg, hoff.out, Nat.zero_add]
      have := congrArg (fun l => l[i * 3 + j]?) ht
      rw [List.getElem?_take, if_pos (by omega), hj, Array.getElem?_toList] at this
      exact this) (by rw [hd, hs, e3]; omega) (fun v hv => Row.flat_one enc L v (List.mem_of_mem_drop hv)), hW1, hc1, e3]
  have g1 : W1.heap[b]? = some (.cells c1.toArray T (0, 0)) := by rw [hW1]; exact setRow_heap w.drew b cur _ T _ hg
  have g2 : W1.heap[vb]? = some (.cells (flat K).toArray T' (0, 0)) := by rw [hW1, setRow_other w.drew b vb _ hvb]; exact hv
  have kb : Below b w W1 := by rw [hW1]; exact below_setRow (Below.drew (Below.refl _ _)) (Nat.le_refl _) _
  have hcp2 : ∀ (W : World), W.heap = W1.heap → ∀ ty dc, (Builtin.copy_ #[22, 22] ty #[.slice (some ⟨b, off + i * 3, none⟩) (n + m - i) dc, .slice (some ⟨vb, voff, none⟩) m vc]).run Try.prog W = .ok (goInt (Nat.min m (n + m - i))) (W.setRow b c2.toArray) := fun W hW ty dc => by
    rw [Row.run_copy_rows W _ _ ty 28 i0 b (off + i * 3) (n + m - i) dc ⟨vb, voff, none⟩ m vc c1.toArray T (flat K) Try.underlying22 hi0 (by rw [hW]; exact g1) (by rw [fk, hz1]; simp only [Nat.min_def]; split <;> omega) (fun j v hj => by
      rw [Addr.add_lit, cell_of_row W vb _ (flat K).toArray T' (0, 0) (by rw [hW]; exact g2), hvoff.out, Nat.zero_add, List.getElem?_toArray]; exact hj) (by rw [fk, List.size_toArray, r3, Array.length_toList, hs, hoff.out]; omega) (Row.flat_one enc K), hc2, hoff.out, Nat.zero_add]
  have G1 := Lib.hid g1
  have KB := Lib.hid kb
  have R1 : Hid (c2.take ((n + m) * 3) = flat (L.take i ++ (K ++ L.drop i)) ∧ c2.length = c * 3) := Lib.hid ⟨by
    rw [Nat.add_mul, r1, show flat (L.take i ++ (K ++ L.drop i)) = Row.flat enc (L.take i ++ (K ++ L.drop i)) from rfl, Row.flat_append, Row.flat_append, Row.flat_take, List.append_assoc]
    congr 2
    have := Row.flat_append enc (L.take i) (L.drop i)
    rw [List.take_append_drop] at this
    rw [show flat L = Row.flat enc L from rfl, this, List.drop_left']
    rw [Row.flat_length, List.length_take, hL.out, Nat.min_eq_left hin]; rfl, by rw [r2, Array.length_toList, hs]⟩
  clear hc1 hc2 r1 r2 r3 hd o1 e3 hW1 g1 g2 kb hs ht hv fl fk hg hz0 hz1 hz2 hi0
  go_enter Try.func26, Try.ntmps26
  go_wp2_with (simp only [hov])
  go_region_law_o (refine step_copy_runI rfl _ _ 22 22 rfl _ _ (by simp [Act.eval, Act.put]) (by simp [Act.eval, Act.put]) (hcp1 _ _ _) ?_)
  go_wp2_with (at_builtin; refine wpList_copy_runI _ rfl _ _ 22 22 rfl _ _ rfl rfl (hcp2 _ rfl _ _) ?_)
  go_ret
  refine ⟨rfl, ⟨c2.toArray, ?_, by simpa using R1.out.2, by simpa using R1.out.1⟩, ?_⟩
  · exact setRow_heap _ b _ _ T _ G1.out
  · exact below_setRow KB.out (Nat.le_refl _) _
end Beat
end Go.Proofs.Ytfdcmmafdgagoaa
