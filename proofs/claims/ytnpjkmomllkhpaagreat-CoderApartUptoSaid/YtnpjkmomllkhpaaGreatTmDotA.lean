/- Merged texts: DotMay, DotSort. -/
import Derived.Test.YtnpjkmomllkhpaaGreatTake
import Derived.Test.YtnpjkmomllkhpaaGreatTmMarkB
import Derived.Laws.Cover1
import Derived.Shelf.SlSortCmp.NoneTotal
namespace Go.Proofs.YtnpjkmomllkhpaaGreat
namespace Dots
open Go.RowKit Go.Proofs.YtnpjkmomllkhpaaGreat.Mark

/-- May this mark not stand behind that path? -/
def badB (last : List UInt8) (m : M) : Bool := decide (Lib.compareBytes m.p last ≤ 0 ∨ m.n < 1 ∨ 281474976710656 < m.n)
def mayGo : List UInt8 → List M → Bool
  | _, [] => true
  | last, m :: r => if badB last m then false else mayGo m.p r
def mayL (L : List M) : Bool := if 512 < L.length then false else mayGo [] L
theorem leq_iff (a b : List UInt8) : (Op.bytesLess a b || a == b) = decide (Lib.compareBytes a b ≤ 0) := by
  by_cases he : a = b
  · subst he; rw [Order.cmp_self]; simp
  · have : (a == b) = false := by rw [beq_eq_false_iff_ne]; exact he
    rw [this, Bool.or_false]
    cases h : Op.bytesLess a b with
    | true => have := Order.cmp_less _ _ h; rw [this]; rfl
    | false => have := Order.cmp_more _ _ he h; rw [this]; rfl
theorem mayGo_step (last : List UInt8) (L : List M) (k : Nat) (h : k < L.length) : mayGo last (L.drop k) = if badB last L[k] then false else mayGo L[k].p (L.drop (k + 1)) := by
  rw [List.drop_eq_getElem_cons h, mayGo]

set_option maxRecDepth 100000 in
set_option maxHeartbeats 1000000 in
theorem may_any (L : List M) (a : Option Addr) (n c : Nat) (w : World) (hL : Lies w a n L) (hn : n ≤ 1099511627776) (hok : Ok L) :
    Calls Tryz.prog 34 #[.slice a n c] w fun e w' => e = .returned (.bool (mayL L)) ∧ Below w.heap.size w w' := by
  by_cases hbig : 512 < n
  · have HV := Lib.hid (show mayL L = false by rw [mayL, if_pos (by rw [← hL.1]; exact hbig)])
    have d : decide ((512 : Int) < (n : Int)) = true := decide_eq_true (by omega)
    have d2 : decide ((n : Int) > (512 : Int)) = true := decide_eq_true (by omega)
    have h0 := Below.refl w.heap.size w
    clear hL
    go_enter Tryz.func34, Tryz.ntmps34
    go_wp2
    go_ret
    exact ⟨by rw [HV.out]; rfl, h0⟩
  have HV := Lib.hid (show mayL L = mayGo [] L by rw [mayL, if_neg (by rw [← hL.1]; exact hbig)])
  have d : decide ((512 : Int) < (n : Int)) = false := decide_eq_false (by omega)
  have d2 : decide ((n : Int) > (512 : Int)) = false := decide_eq_false (by omega)
  have HL := Lib.hid hL
  have HO := Lib.hid hok
  clear hL hok hbig
  go_enter Tryz.func34, Tryz.ntmps34
  go_wp2_with fail
  go_loopw [3, 11] (fun nv iv wr => ∃ (k : Nat) (q : List UInt8), k ≤ n ∧ q.length ≤ 9223372036854775807 ∧ iv = .int .i64 k ∧ nv = .string ⟨q.toArray⟩ ∧ mayL L = mayGo q (L.drop k) ∧ Below w.heap.size w wr) (fun _ iv _ => n - (intOf iv).toNat)
  case atStart => exact ⟨0, [], by omega, by decide, rfl, rfl, HV.out, Below.refl _ _⟩
  case round =>
    obtain ⟨k, q, hk, hq, rfl, rfl, hs, hb⟩ := hrel
    have hln := HL.out.1
    by_cases hlt : k < n
    · obtain ⟨b, off, rfl, hcell⟩ := (HL.out.below hb).2 (by omega)
      obtain ⟨c1, c2⟩ := hcell k (by omega)
      rw [mayGo_step q L k (by omega)] at hs
      obtain ⟨m, hm⟩ : ∃ m, m = L[k]'(by omega) := ⟨_, rfl⟩
      have hmn : m.n ≤ 18446744073709551615 ∧ m.p.length ≤ 9223372036854775807 := HO.out m (by rw [hm]; exact List.getElem_mem _)
      rw [← hm] at c1 c2 hs
      have q1 := World.block_lt_of_cell? _ _ c2
      have hbad : badB q m = decide (Lib.compareBytes m.p q ≤ 0 ∨ m.n < 1 ∨ 281474976710656 < m.n) := rfl
      have l1 := leq_iff m.p q
      have HM := Lib.hid hmn.2
      by_cases g1 : Lib.compareBytes m.p q ≤ 0
      · rw [decide_eq_true g1] at l1
        rw [show badB q m = true by rw [hbad]; exact decide_eq_true (.inl g1), if_pos rfl] at hs
        have HS := Lib.hid hs
        clear hm hcell hln hs hbad g1
        go_wp2
        go_ret
        exact ⟨by rw [HS.out]; rfl, balloc hb _⟩
      rw [decide_eq_false g1] at l1
      by_cases g2 : m.n < 1
      · rw [show badB q m = true by rw [hbad]; exact decide_eq_true (.inr (.inl g2)), if_pos rfl] at hs
        have HS := Lib.hid hs
        have e1 : decide ((m.n : Int) < 1) = true := decide_eq_true (by omega)
        clear hm hcell hln hs hbad g1 g2
        go_wp2
        go_ret
        exact ⟨by rw [HS.out]; rfl, balloc hb _⟩
      have e1 : decide ((m.n : Int) < 1) = false := decide_eq_false (by omega)
      by_cases g3 : 281474976710656 < m.n
      · rw [show badB q m = true by rw [hbad]; exact decide_eq_true (.inr (.inr g3)), if_pos rfl] at hs
        have HS := Lib.hid hs
        have e2 : decide ((281474976710656 : Int) < (m.n : Int)) = true := decide_eq_true (by omega)
        have e3 : decide ((m.n : Int) > (281474976710656 : Int)) = true := decide_eq_true (by omega)
        clear hm hcell hln hs hbad g1 g2 g3
        go_wp2
        go_ret
        exact ⟨by rw [HS.out]; rfl, balloc hb _⟩
      have e2 : decide ((281474976710656 : Int) < (m.n : Int)) = false := decide_eq_false (by omega)
      have e3 : decide ((m.n : Int) > (281474976710656 : Int)) = false := decide_eq_false (by omega)
      rw [show badB q m = false by rw [hbad]; exact decide_eq_false (by omega), if_neg (by decide)] at hs
      have HS := Lib.hid hs
      clear hm hcell hln hs hbad g1 g2 g3
      go_wp2
      go_roundw
      case rel => exact ⟨k + 1, m.p, by omega, HM.out, by go_num, rfl, HS.out, balloc hb _⟩
      case measure => simp [intOf]; omega
    · obtain rfl : k = n := by omega
      have hv : mayL L = true := by rw [hs, List.drop_eq_nil_of_le (by omega)]; rfl
      have HV := Lib.hid hv
      have hd : decide ((k : Int) < (k : Int)) = false := decide_eq_false (by omega)
      clear hln hv hs
      go_wp2
      go_ret
      exact ⟨by rw [HV.out]; rfl, hb⟩

/-- The order of two dots. -/
def cmpD (a b : M) : Int := if Lib.compareBytes a.p b.p ≠ 0 then Lib.compareBytes a.p b.p else cmpI a.n b.n
set_option maxRecDepth 100000 in
set_option maxHeartbeats 2000000 in
theorem compare_any (a b : M) (w : World) : Calls Tryz.prog 72 #[.agg (a.cells).toArray, .agg (b.cells).toArray] w fun e w' => e = .returned (.int .i64 (cmpD a b)) ∧ Below w.heap.size w w' := by
  obtain ⟨p, n⟩ := a
  obtain ⟨q, x⟩ := b
  have S := Lib.hid (fun w => Tryz.strings_Compare ⟨p.toArray⟩ ⟨q.toArray⟩ w)
  have C := Lib.hid (fun w => cmpU_any n x w)
  have h0 := Below.refl w.heap.size w
  have HV : Hid (cmpD ⟨p, n⟩ ⟨q, x⟩ = orV (Lib.compareBytes p q) (cmpI n x)) := Lib.hid rfl
  have c0 : ∀ T, ((w.alloc (.cells #[.string ⟨p.toArray⟩, .int .u64 (n : Int)] T)).alloc (.cells #[.string ⟨q.toArray⟩, .int .u64 (x : Int)] T)).cell? ⟨w.heap.size, 0, none⟩ = some (.string ⟨p.toArray⟩) := fun T => Lib.cell?_alloc_some _ (by rw [World.cell?_alloc_new]; rfl)
  have c1 : ∀ T, ((w.alloc (.cells #[.string ⟨p.toArray⟩, .int .u64 (n : Int)] T)).alloc (.cells #[.string ⟨q.toArray⟩, .int .u64 (x : Int)] T)).cell? ⟨w.heap.size, 1, none⟩ = some (.int .u64 (n : Int)) := fun T => Lib.cell?_alloc_some _ (by rw [World.cell?_alloc_new]; rfl)
  have c2 : ∀ T, ((w.alloc (.cells #[.string ⟨p.toArray⟩, .int .u64 (n : Int)] T)).alloc (.cells #[.string ⟨q.toArray⟩, .int .u64 (x : Int)] T)).cell? ⟨w.heap.size + 1, 0, none⟩ = some (.string ⟨q.toArray⟩) := fun T => by
    simp
  have c3 : ∀ T, ((w.alloc (.cells #[.string ⟨p.toArray⟩, .int .u64 (n : Int)] T)).alloc (.cells #[.string ⟨q.toArray⟩, .int .u64 (x : Int)] T)).cell? ⟨w.heap.size + 1, 1, none⟩ = some (.int .u64 (x : Int)) := fun T => by
    simp
  have HC := Lib.hid (And.intro c0 (And.intro c1 (And.intro c2 c3)))
  clear c0 c1 c2 c3
  obtain ⟨v, hv⟩ : ∃ u, u = cmpI n x := ⟨_, rfl⟩
  rw [← hv] at C HV
  clear hv
  have OR := Lib.hid (or_any (Lib.compareBytes p q) v)
  unfold M.cells
  simp only
  go_enter Tryz.func72, Tryz.ntmps72
  go_wp2_with fail
  obtain ⟨c0, c1, c2, c3⟩ := HC.out
  have c0 := c0 96
  have c1 := c1 96
  have c2 := c2 96
  have c3 := c3 96
  refine wp_region_noPanic ?_
  refine wp_region_held_drew (S := (fun w' => (w'.cell? ⟨w.heap.size, 0, none⟩ = some (.string ⟨p.toArray⟩) ∧ w'.cell? ⟨w.heap.size, 1, none⟩ = some (.int .u64 (n : Int))) ∧ w'.cell? ⟨w.heap.size + 1, 0, none⟩ = some (.string ⟨q.toArray⟩) ∧ w'.cell? ⟨w.heap.size + 1, 1, none⟩ = some (.int .u64 (x : Int)))) (by kernel_rfl) (⟨⟨c0, c1⟩, c2, c3⟩) (fun hHeld => ?_)
  refine tk 0 ?_
  try simp only [Act.put, List.setIfInBounds_toArray, List.set_cons_zero, List.set_cons_succ]
  refine tk 1 ?_
  try simp only [Act.put, List.setIfInBounds_toArray, List.set_cons_zero, List.set_cons_succ]
  refine tk 2 ?_
  try simp only [Act.put, List.setIfInBounds_toArray, List.set_cons_zero, List.set_cons_succ]
  refine tk 3 ?_
  try simp only [Act.put, List.setIfInBounds_toArray, List.set_cons_zero, List.set_cons_succ]
  refine tk 5 ?_
  try simp only [Act.put, List.setIfInBounds_toArray, List.set_cons_zero, List.set_cons_succ]
  refine tk 6 ?_
  try simp only [Act.put, List.setIfInBounds_toArray, List.set_cons_zero, List.set_cons_succ]
  refine tk 7 ?_
  try simp only [Act.put, List.setIfInBounds_toArray, List.set_cons_zero, List.set_cons_succ]
  refine tk 8 ?_
  try simp only [Act.put, List.setIfInBounds_toArray, List.set_cons_zero, List.set_cons_succ]
  refine wpAnyH_ready (rs := [4]) (by kernel_rfl) (by simp) ?_
  refine AllReadyH.cons (by simp only [List.getElem?_toArray, List.getElem?_cons_succ, List.getElem?_cons_zero]; rfl) (fun K hK => ?_) AllReadyH.nil
  go_simp
  go_at_call 99
  refine (S.out _).mono ?_
  rintro e w' ⟨rfl, rfl⟩
  go_wp2_with fail
  refine hK.out _ _ (hHeld) (fun hHeld => ?_)
  clear hK K
  try simp only [Act.put, List.setIfInBounds_toArray, List.set_cons_zero, List.set_cons_succ]
  refine wpAnyH_ready (rs := [9]) (by kernel_rfl) (by simp) ?_
  refine AllReadyH.cons (by simp only [List.getElem?_toArray, List.getElem?_cons_succ, List.getElem?_cons_zero]; rfl) (fun K hK => ?_) AllReadyH.nil
  go_simp
  go_at_call 100
  refine (C.out _).mono ?_
  rintro e w' ⟨rfl, rfl⟩
  go_wp2_with fail
  refine hK.out _ _ (hHeld) (fun hHeld => ?_)
  clear hK K
  try simp only [Act.put, List.setIfInBounds_toArray, List.set_cons_zero, List.set_cons_succ]
  refine wpAnyH_ready (rs := [10]) (by kernel_rfl) (by simp) ?_
  refine AllReadyH.cons (by simp only [List.getElem?_toArray, List.getElem?_cons_succ, List.getElem?_cons_zero]; rfl) (fun K hK => ?_) AllReadyH.nil
  go_simp
  refine hK.out _ _ (⟨⟨Lib.cell?_alloc_some _ hHeld.1.1, Lib.cell?_alloc_some _ hHeld.1.2⟩, Lib.cell?_alloc_some _ hHeld.2.1, Lib.cell?_alloc_some _ hHeld.2.2⟩) (fun hHeld => ?_)
  clear hK K
  try simp only [Act.put, List.setIfInBounds_toArray, List.set_cons_zero, List.set_cons_succ]
  refine wpAnyH_ready (rs := [11]) (by kernel_rfl) (by simp) ?_
  refine AllReadyH.cons (by simp only [List.getElem?_toArray, List.getElem?_cons_succ, List.getElem?_cons_zero]; rfl) (fun K hK => ?_) AllReadyH.nil
  go_simp
  go_at_call 98
  refine (OR.out _ _ (new_cell _ _ _ 0 _ (by simp)) (new_cell _ _ _ 1 _ (by simp))).mono ?_
  rintro e w' ⟨rfl, rfl⟩
  go_wp2_with fail
  refine hK.out _ _ (hHeld) (fun hHeld => ?_)
  clear hK K
  try simp only [Act.put, List.setIfInBounds_toArray, List.set_cons_zero, List.set_cons_succ]
  refine tk 12 ?_
  try simp only [Act.put, List.setIfInBounds_toArray, List.set_cons_zero, List.set_cons_succ]
  refine wpAnyH_done (by kernel_rfl) ?_ _
  refine NoPanic.normal ?_
  go_wp2
  go_ret
  exact ⟨by rw [HV.out]; rfl, Below.drew (balloc (balloc (balloc h0 _) _) _)⟩

end Dots
end Go.Proofs.YtnpjkmomllkhpaaGreat

namespace Go.Proofs.YtnpjkmomllkhpaaGreat
namespace Dots
open Go.RowKit Go.Shelf Go.Sort Go.Proofs.YtnpjkmomllkhpaaGreat.Mark

theorem grow_below (w : World) (k : Nat) (os : Array Obj) : Below w.heap.size w (Sort.grow (w.drewN k) os) :=
  ⟨rfl, rfl, rfl, by show w.heap.size ≤ (w.heap ++ os).size; rw [Array.size_append]; omega, fun j hj => by show (w.heap ++ os)[j]? = w.heap[j]?; exact Array.getElem?_append_left hj⟩
theorem flatK_eq (L : List M) : flatK M.cells 2 L.toArray = (flat L).toArray := by
  apply Array.ext
  · simp [flat_length]
  · intro j h1 h2
    have hj : j < L.length * 2 := by simpa using h1
    have e1 := get_flatK M.cells 2 L.toArray j (by simpa using hj)
    rw [getElem!_pos (flatK M.cells 2 L.toArray) j h1] at e1
    rw [e1]
    have hg := flat_get L (j / 2) (by omega)
    have hL : L.toArray[j / 2]! = L[j / 2]'(by omega) := by rw [getElem!_pos L.toArray (j / 2) (by simp; omega)]; simp
    rw [hL]
    have h3 : (flat L)[j]? = some ((flat L).toArray[j]'h2) := by rw [List.getElem?_eq_getElem (by simpa using h2)]; simp
    have h4 : j % 2 = 0 ∨ j % 2 = 1 := by omega
    rcases h4 with h4 | h4
    · rw [show j / 2 * 2 = j by omega, h3] at hg
      rw [h4, Option.some.inj hg.1]; rfl
    · rw [show j / 2 * 2 + 1 = j by omega, h3] at hg
      rw [h4, Option.some.inj hg.2]; rfl
theorem own_holds {w : World} {B : Nat} {T : TypeId} {g n cap : Nat} {L : List M} (h : w.ownsRow B T 2 (.slice (some ⟨g, 0, none⟩) n cap) n (flat L)) (hn : L.length = n) : HoldsK M.cells 2 w g 0 L.toArray := by
  unfold HoldsK
  rw [flatK_eq]
  intro j hj
  have hj' : j < n * 2 := by rw [← hn, ← flat_length]; simpa using hj
  rw [Nat.zero_add]
  refine ⟨?_, h.frozenAt j⟩
  rw [h.cellAt j hj', List.getElem?_eq_getElem (by simpa using hj), getElem!_pos (flat L).toArray j hj]; simp
theorem own_put {w : World} {B : Nat} {T : TypeId} {g n cap q : Nat} {xs ys : List Value} (h : w.ownsRow B T 2 (.slice (some ⟨g, 0, none⟩) n cap) n xs) (hy : ys.length = n * 2) :
    (putRow id (Sort.ahead w q) g 0 ys.toArray).ownsRow B T 2 (.slice (some ⟨g, 0, none⟩) n cap) n ys := by
  rcases h.2 with ⟨e0, _⟩ | ⟨g', cap', cur, e0, hb, hg, hn, hm, hs, ht⟩
  · cases e0
  · injection e0 with e1 _ e3
    injection e1 with e1
    injection e1 with e1
    subst e1; subst e3
    refine ⟨hy, .inr ⟨g, cap, putCells id 0 ys.toArray cur, rfl, hb, ?_, hn, hm, by simpa [putCells] using hs, ?_⟩⟩
    · simp [putRow, mapBlock, Sort.ahead, Array.getElem?_modify, hg, onCells]
    · apply List.ext_getElem?
      intro j
      rw [List.getElem?_take, Array.getElem?_toList]
      by_cases hj : j < n * 2
      · have hjc : j < cur.size := by omega
        simp only [if_pos hj, putCells, Array.getElem?_mapIdx, Array.getElem?_eq_getElem hjc, Option.map_some]
        rw [if_pos (by simp; omega), List.getElem?_eq_getElem (by omega)]
        simp [getElem!_pos, show j < ys.length by omega]
      · rw [if_neg hj, List.getElem?_eq_none (by omega)]
theorem below_put {B : Nat} {w0 w : World} {g q : Nat} {d : Array Value} (h : Below B w0 w) (hg : B ≤ g) : Below B w0 (putRow id (Sort.ahead w q) g 0 d) :=
  ⟨h.os, h.tape, h.output, by simpa [putRow, mapBlock, Sort.ahead] using h.size, fun k hk => by
    rw [← h.block k hk]
    simp [putRow, mapBlock, Sort.ahead, Array.getElem?_modify, show g ≠ k by omega]⟩

theorem lt_iff (a b : M) : ltOf cf a b = decide (cf a b < 0) := rfl
theorem cf_iff (a b : M) : cf a b < 0 ↔ Less a b ∨ (a.p = b.p ∧ b.n < a.n) := by
  unfold cf Less
  rcases Order.cmp_ways a.p b.p with e | e | e
  · rw [if_pos (by omega), e]; simp
  · have e2 := Order.cmp_zero _ _ e
    rw [if_neg (by omega), e, e2]
    unfold cmpI
    constructor
    · intro h; split at h
      · exact .inr ⟨rfl, by omega⟩
      · split at h <;> omega
    · rintro (h | h)
      · omega
      · rw [if_pos (by omega)]; decide
  · rw [if_pos (by omega), e]
    constructor
    · intro h; omega
    · rintro (h | ⟨h, _⟩)
      · omega
      · rw [h, Order.cmp_self] at e; omega
theorem swo : SWO (ltOf cf) where
  irrefl x := by
    rw [lt_iff, decide_eq_false_iff_not, cf_iff]
    rintro (h | h)
    · exact less_irrefl x h
    · omega
  trans x y z h1 h2 := by
    rw [lt_iff, decide_eq_true_eq, cf_iff] at *
    rcases h1 with h1 | ⟨h1, h1'⟩ <;> rcases h2 with h2 | ⟨h2, h2'⟩
    · exact .inl (less_trans h1 h2)
    · refine .inl ?_; unfold Less at *; rw [← h2]; exact h1
    · refine .inl ?_; unfold Less at *; rw [h1]; exact h2
    · exact .inr ⟨h1.trans h2, by omega⟩
  ntrans x y z h1 h2 := by
    rw [lt_iff, decide_eq_false_iff_not] at *
    have k1 := cf_le h1
    have k2 := cf_le h2
    have k := le_trans k2 k1
    rw [cf_iff]
    rintro (h | ⟨h, h'⟩)
    · rcases k with k | ⟨k, _⟩
      · exact less_irrefl x (less_trans (a := x) (b := z) (c := x) h k)
      · unfold Less at h; rw [k, Order.cmp_self] at h; omega
    · rcases k with k | ⟨k, k'⟩
      · rw [h, Order.cmp_self] at k; omega
      · omega

set_option maxRecDepth 100000 in
set_option maxHeartbeats 1000000 in
theorem sort_any (L : List M) (q cap B : Nat) (w : World) (hB : B ≤ w.heap.size) (hO : Own w B (.slice (some ⟨q, 0, none⟩) L.length cap) L) (hn : L.length ≤ 1099511627776) :
    Calls Tryz.prog 117 #[.slice (some ⟨q, 0, none⟩) L.length cap, .func (.func 118) #[] #[]] w fun e w' =>
      ∃ S : List M, e = .returned (.tuple #[]) ∧ S.Perm L ∧ S.Pairwise Le ∧ S.length = L.length ∧ Own w' B (.slice (some ⟨q, 0, none⟩) L.length cap) S ∧ Below B w w' := by
  have hO' : w.ownsRow B 54 2 (.slice (some ⟨q, 0, none⟩) L.length cap) L.length (flat L) := hO
  have hBq := (own_cap hO').2.2
  have hlt := (hO'.lt q rfl).2
  have eg : ∀ args w, (callFunc 118 args).run Tryz.prog w = .ok (.enter 118 args) w := enters_of Tryz.func118 (by kernel_rfl) rfl
  have hcon := AnyQ.slices_SortFunc Tryz.sortMark 2 (fun _ => by kernel_rfl) (fun _ => by kernel_rfl) M.cells (fun _ => rfl) (fun x v hv => by simp [M.cells] at hv; rcases hv with rfl | rfl <;> rfl) cf swo 118 #[] q 0 cap L.toArray w eg (fun m os dk _ x y => cf_any x y _) (own_holds hO' rfl) hlt (by simp; omega)
  change Calls Tryz.prog 117 _ _ _ at hcon
  rw [List.size_toArray] at hcon
  refine hcon.mono ?_
  rintro e w' ⟨rfl, d', n, os, hp, hs, rfl⟩
  obtain ⟨S⟩ := d'
  obtain ⟨hp1, _, hp2⟩ := hp
  have hlen : S.length = L.length := by simpa using hp1
  refine ⟨S, rfl, ?_, ?_, hlen, ?_, ?_⟩
  · have e1 : (S.toArray.extract 0 L.length).toList = S := by simp [← hlen]
    have e2 : (L.toArray.extract 0 L.length).toList = L := by simp
    rw [e1, e2] at hp2; exact hp2
  · rw [List.pairwise_iff_getElem]
    intro i j hi hj hij
    have h := hs i j (Nat.zero_le _) hij (by omega)
    rw [getElem!_pos S.toArray i (by simpa using hi), getElem!_pos S.toArray j (by simpa using hj)] at h
    rw [lt_iff, decide_eq_false_iff_not] at h
    exact cf_le (by simpa using h)
  · unfold sortWorldK putRowK
    rw [flatK_eq]
    have h1 := own_put (q := n) (ys := flat S) hO' (by rw [flat_length, hlen])
    have h2 : Own (putRow id (Sort.ahead w n) q 0 (flat S).toArray) B (.slice (some ⟨q, 0, none⟩) L.length cap) S := by unfold Own; rw [hlen]; exact h1
    exact h2.below (grow_below _ 0 _)
  · unfold sortWorldK putRowK
    rw [flatK_eq]
    have h3 := below_put (q := n) (d := (flat S).toArray) (Below.refl B w) hBq
    exact h3.trans ((grow_below _ 0 os).mono (Nat.le_trans hB h3.size))

set_option maxRecDepth 100000 in
set_option maxHeartbeats 1000000 in
theorem tidy_any (L : List M) (a : Option Addr) (n c : Nat) (w : World) (hL : Lies w a n L) (hn : n ≤ 1099511627776) :
    Calls Tryz.prog 104 #[.slice a n c] w fun e w' => ∃ v R, e = .returned v ∧ IsVec R (ofL L) ∧ R.length ≤ L.length ∧ Own w' w.heap.size v R ∧ Below w.heap.size w w' := by
  have C := Lib.hid (clone_any L a n c w hL hn)
  have hnl : L.length ≤ 1099511627776 := by rw [← hL.1]; exact hn
  clear hL
  go_enter Tryz.func104, Tryz.ntmps104
  go_wp2_with fail
  refine C.out.mono ?_
  rintro e w1 ⟨v1, rfl, o1, b1⟩
  go_wp2_with fail
  refine (delete_any 116 #[] nought w.heap.size (enters_of Tryz.func116 (by kernel_rfl) rfl) L v1 w1 b1.size (nought_pred _ _) o1 (by omega)).mono ?_
  rintro e w2 ⟨v2, rfl, o2, b2⟩
  have h2 := b1.trans b2
  have hsz2 : w.heap.size ≤ w2.heap.size := h2.size
  have hfl : (L.filter fun m => !nought m).length ≤ L.length := List.length_filter_le _ _
  obtain ⟨F, hF⟩ : ∃ F, F = L.filter fun m => !nought m := ⟨_, rfl⟩
  rw [← hF] at o2 hfl
  have HF := Lib.hid hF
  clear hF o1 b1 b2
  by_cases hne : F = []
  · subst hne
    obtain ⟨a2, c2, rfl, _, _, _, _⟩ := o2.lies
    have N := Lib.hid (fun W => AnyF.slices_SortFunc_none Tryz.sortMark a2 c2 (.func (.func 118) #[] #[]) W)
    have hc := compact_any 120 #[] alike w.heap.size (enters_of Tryz.func120 (by kernel_rfl) rfl) [] (.slice a2 0 c2) w2 hsz2 (alike_pred _ _) o2 (by simp)
    have HC := Lib.hid hc
    clear hc o2
    go_wp2_with fail
    have N' := N.out w2
    change Calls Tryz.prog 117 _ _ _ at N'
    refine N'.mono ?_
    rintro e w' ⟨rfl, rfl⟩
    go_wp2_with fail
    refine HC.out.mono ?_
    rintro e w3 ⟨v3, rfl, o3, b3⟩
    go_wp2
    go_ret
    refine ⟨_, _, rfl, tidy_vec (S := []) (by rw [← HF.out]) List.Pairwise.nil, by simp [dedup], o3, h2.trans b3⟩
  · obtain ⟨q, cap, rfl, _, _, _⟩ := o2.some hne
    have hs := sort_any F q cap w.heap.size w2 hsz2 o2 (by omega)
    have HS := Lib.hid hs
    clear hs o2
    go_wp2_with fail
    refine HS.out.mono ?_
    rintro e w3 ⟨S, rfl, hp, hsrt, hlen, o3, b3⟩
    have h3 := h2.trans b3
    have hsz3 : w.heap.size ≤ w3.heap.size := h3.size
    have HP := Lib.hid hp
    have HL := Lib.hid hsrt
    have hSn : S.length ≤ L.length := by omega
    have o3' : Own w3 w.heap.size (.slice (some ⟨q, 0, none⟩) S.length cap) S := by rw [hlen]; exact o3
    have hc := compact_any 120 #[] alike w.heap.size (enters_of Tryz.func120 (by kernel_rfl) rfl) S _ w3 hsz3 (alike_pred _ _) o3 (by omega)
    have HC := Lib.hid hc
    clear hc o3 o3' hp hsrt hlen
    go_wp2_with fail
    refine HC.out.mono ?_
    rintro e w4 ⟨v4, rfl, o4, b4⟩
    go_wp2
    go_ret
    refine ⟨_, _, rfl, tidy_vec (S := S) (by rw [← HF.out]; exact HP.out) HL.out, ?_, o4, h3.trans b4⟩
    exact Nat.le_trans (dedup_len _) hSn

end Dots
end Go.Proofs.YtnpjkmomllkhpaaGreat
