/- package dots: Compare, May. -/
import Derived.Test.YtafelgmppmfcaaaDotTidy
import Derived.Test.YtafelgmppmfcaaaVec
import Derived.Laws.Cover1
namespace Go.Proofs.Ytafelgmppmfcaaa
namespace Dots
open Go.RowKit Go.Proofs.Ytafelgmppmfcaaa.Mark

/-- May this mark not stand behind that path? -/
def badB (last : List UInt8) (m : M) : Bool := decide (Lib.compareBytes m.p last ≤ 0 ∨ m.n < 1 ∨ 281474976710656 < m.n)
def mayGo : List UInt8 → List M → Bool
  | _, [] => true
  | last, m :: r => if badB last m then false else mayGo m.p r
def mayL (L : List M) : Bool := if 512 < L.length then false else mayGo [] L
theorem leq_iff (a b : List UInt8) : (Op.bytesLess a b || a == b) = decide (Lib.compareBytes a b ≤ 0) := by
  by_cases he : a = b
  · subst he; rw [Order.cmp_self]; simp
  · have : (a == b) = false := by rw [beq_eq_false_iff_ne]; exact he
    rw [this, Bool.or_false]
    cases h : Op.bytesLess a b with
    | true => have := Order.cmp_less _ _ h; rw [this]; rfl
    | false => have := Order.cmp_more _ _ he h; rw [this]; rfl
theorem mayGo_step (last : List UInt8) (L : List M) (k : Nat) (h : k < L.length) : mayGo last (L.drop k) = if badB last L[k] then false else mayGo L[k].p (L.drop (k + 1)) := by
  rw [List.drop_eq_getElem_cons h, mayGo]

set_option maxRecDepth 100000 in
set_option maxHeartbeats 1000000 in
theorem may_any (L : List M) (a : Option Addr) (n c : Nat) (w : World) (hL : Lies w a n L) (hn : n ≤ 1099511627776) (hok : Ok L) :
    Calls Try.prog 9 #[.slice a n c] w fun e w' => e = .returned (.bool (mayL L)) ∧ Below w.heap.size w w' := by
  by_cases hbig : 512 < n
  · have HV := Lib.hid (show mayL L = false by rw [mayL, if_pos (by rw [← hL.1]; exact hbig)])
    have d : decide ((512 : Int) < (n : Int)) = true := decide_eq_true (by omega)
    have d2 : decide ((n : Int) > (512 : Int)) = true := decide_eq_true (by omega)
    have h0 := Below.refl w.heap.size w
    clear hL
    go_enter Try.func9, Try.ntmps9
    go_wp2
    go_ret
    exact ⟨by rw [HV.out]; rfl, h0⟩
  have HV := Lib.hid (show mayL L = mayGo [] L by rw [mayL, if_neg (by rw [← hL.1]; exact hbig)])
  have d : decide ((512 : Int) < (n : Int)) = false := decide_eq_false (by omega)
  have d2 : decide ((n : Int) > (512 : Int)) = false := decide_eq_false (by omega)
  have HL := Lib.hid hL
  have HO := Lib.hid hok
  clear hL hok hbig
  go_enter Try.func9, Try.ntmps9
  go_wp2_with fail
  go_loopw [3, 11] (fun nv iv wr => ∃ (k : Nat) (q : List UInt8), k ≤ n ∧ q.length ≤ 9223372036854775807 ∧ iv = .int .i64 k ∧ nv = .string ⟨q.toArray⟩ ∧ mayL L = mayGo q (L.drop k) ∧ Below w.heap.size w wr) (fun _ iv _ => n - (intOf iv).toNat)
  case atStart => exact ⟨0, [], by omega, by decide, rfl, rfl, HV.out, Below.refl _ _⟩
  case round =>
    obtain ⟨k, q, hk, hq, rfl, rfl, hs, hb⟩ := hrel
    have hln := HL.out.1
    by_cases hlt : k < n
    · obtain ⟨b, off, rfl, hcell⟩ := (HL.out.below hb).2 (by omega)
      obtain ⟨c1, c2⟩ := hcell k (by omega)
      rw [mayGo_step q L k (by omega)] at hs
      obtain ⟨m, hm⟩ : ∃ m, m = L[k]'(by omega) := ⟨_, rfl⟩
      have hmn : m.n ≤ 18446744073709551615 ∧ m.p.length ≤ 9223372036854775807 := HO.out m (by rw [hm]; exact List.getElem_mem _)
      rw [← hm] at c1 c2 hs
      have q1 := World.block_lt_of_cell? _ _ c2
      have hbad : badB q m = decide (Lib.compareBytes m.p q ≤ 0 ∨ m.n < 1 ∨ 281474976710656 < m.n) := rfl
      have l1 := leq_iff m.p q
      have HM := Lib.hid hmn.2
      by_cases g1 : Lib.compareBytes m.p q ≤ 0
      · rw [decide_eq_true g1] at l1
        rw [show badB q m = true by rw [hbad]; exact decide_eq_true (.inl g1), if_pos rfl] at hs
        have HS := Lib.hid hs
        clear hm hcell hln hs hbad g1
        go_wp2
        go_ret
        exact ⟨by rw [HS.out]; rfl, balloc hb _⟩
      rw [decide_eq_false g1] at l1
      by_cases g2 : m.n < 1
      · rw [show badB q m = true by rw [hbad]; exact decide_eq_true (.inr (.inl g2)), if_pos rfl] at hs
        have HS := Lib.hid hs
        have e1 : decide ((m.n : Int) < 1) = true := decide_eq_true (by omega)
        clear hm hcell hln hs hbad g1 g2
        go_wp2
        go_ret
        exact ⟨by rw [HS.out]; rfl, balloc hb _⟩
      have e1 : decide ((m.n : Int) < 1) = false := decide_eq_false (by omega)
      by_cases g3 : 281474976710656 < m.n
      · rw [show badB q m = true by rw [hbad]; exact decide_eq_true (.inr (.inr g3)), if_pos rfl] at hs
        have HS := Lib.hid hs
        have e2 : decide ((281474976710656 : Int) < (m.n : Int)) = true := decide_eq_true (by omega)
        have e3 : decide ((m.n : Int) > (281474976710656 : Int)) = true := decide_eq_true (by omega)
        clear hm hcell hln hs hbad g1 g2 g3
        go_wp2
        go_ret
        exact ⟨by rw [HS.out]; rfl, balloc hb _⟩
      have e2 : decide ((281474976710656 : Int) < (m.n : Int)) = false := decide_eq_false (by omega)
      have e3 : decide ((m.n : Int) > (281474976710656 : Int)) = false := decide_eq_false (by omega)
      rw [show badB q m = false by rw [hbad]; exact decide_eq_false (by omega), if_neg (by decide)] at hs
      have HS := Lib.hid hs
      clear hm hcell hln hs hbad g1 g2 g3
      go_wp2
      go_roundw
      case rel => exact ⟨k + 1, m.p, by omega, HM.out, by go_num, rfl, HS.out, balloc hb _⟩
      case measure => simp [intOf]; omega
    · obtain rfl : k = n := by omega
      have hv : mayL L = true := by rw [hs, List.drop_eq_nil_of_le (by omega)]; rfl
      have HV := Lib.hid hv
      have hd : decide ((k : Int) < (k : Int)) = false := decide_eq_false (by omega)
      clear hln hv hs
      go_wp2
      go_ret
      exact ⟨by rw [HV.out]; rfl, hb⟩

/-- The order of two dots. -/
def cmpD (a b : M) : Int := if Lib.compareBytes a.p b.p ≠ 0 then Lib.compareBytes a.p b.p else cmpI a.n b.n
set_option maxRecDepth 100000 in
set_option maxHeartbeats 2000000 in
theorem compare_any (a b : M) (w : World) : Calls Try.prog 15 #[.agg (a.cells).toArray, .agg (b.cells).toArray] w fun e w' => e = .returned (.int .i64 (cmpD a b)) ∧ Below w.heap.size w w' := by
  obtain ⟨p, n⟩ := a
  obtain ⟨q, x⟩ := b
  have S := Lib.hid (fun w => Try.strings_Compare ⟨p.toArray⟩ ⟨q.toArray⟩ w)
  have C := Lib.hid (fun w => cmpU_any n x w)
  have h0 := Below.refl w.heap.size w
  have HV : Hid (cmpD ⟨p, n⟩ ⟨q, x⟩ = orV (Lib.compareBytes p q) (cmpI n x)) := Lib.hid rfl
  have c0 : ∀ T, ((w.alloc (.cells #[.string ⟨p.toArray⟩, .int .u64 (n : Int)] T)).alloc (.cells #[.string ⟨q.toArray⟩, .int .u64 (x : Int)] T)).cell? ⟨w.heap.size, 0, none⟩ = some (.string ⟨p.toArray⟩) := fun T => Lib.cell?_alloc_some _ (by rw [World.cell?_alloc_new]; rfl)
  have c1 : ∀ T, ((w.alloc (.cells #[.string ⟨p.toArray⟩, .int .u64 (n : Int)] T)).alloc (.cells #[.string ⟨q.toArray⟩, .int .u64 (x : Int)] T)).cell? ⟨w.heap.size, 1, none⟩ = some (.int .u64 (n : Int)) := fun T => Lib.cell?_alloc_some _ (by rw [World.cell?_alloc_new]; rfl)
  have c2 : ∀ T, ((w.alloc (.cells #[.string ⟨p.toArray⟩, .int .u64 (n : Int)] T)).alloc (.cells #[.string ⟨q.toArray⟩, .int .u64 (x : Int)] T)).cell? ⟨w.heap.size + 1, 0, none⟩ = some (.string ⟨q.toArray⟩) := fun T => by
    simp
  have c3 : ∀ T, ((w.alloc (.cells #[.string ⟨p.toArray⟩, .int .u64 (n : Int)] T)).alloc (.cells #[.string ⟨q.toArray⟩, .int .u64 (x : Int)] T)).cell? ⟨w.heap.size + 1, 1, none⟩ = some (.int .u64 (x : Int)) := fun T => by
    simp
  have HC := Lib.hid (And.intro c0 (And.intro c1 (And.intro c2 c3)))
  clear c0 c1 c2 c3
  obtain ⟨v, hv⟩ : ∃ u, u = cmpI n x := ⟨_, rfl⟩
  rw [← hv] at C HV
  clear hv
  have OR := Lib.hid (or_any (Lib.compareBytes p q) v)
  unfold M.cells
  simp only
  go_enter Try.func15, Try.ntmps15
  go_wp2_with fail
  obtain ⟨c0, c1, c2, c3⟩ := HC.out
  have c0 := c0 25
  have c1 := c1 25
  have c2 := c2 25
  have c3 := c3 25
  refine wp_region_noPanic ?_
  refine wp_region_held_drew (S := (fun w' => (w'.cell? ⟨w.heap.size, 0, none⟩ = some (.string ⟨p.toArray⟩) ∧ w'.cell? ⟨w.heap.size, 1, none⟩ = some (.int .u64 (n : Int))) ∧ w'.cell? ⟨w.heap.size + 1, 0, none⟩ = some (.string ⟨q.toArray⟩) ∧ w'.cell? ⟨w.heap.size + 1, 1, none⟩ = some (.int .u64 (x : Int)))) (by kernel_rfl) (⟨⟨c0, c1⟩, c2, c3⟩) (fun hHeld => ?_)
  refine wpAnyH_take (i := 0) (v := ?_) (by simp only [List.getElem?_toArray, List.getElem?_cons_zero]; rfl) (by kernel_rfl) (by kernel_rfl) (by kernel_rfl) (fun _ _ _ h => h) (Or.inl ⟨by rfl, ?_⟩) (by assumption) ?_
  rotate_left
  · (intro w hSw; (try dsimp only at hSw); go_simp; try with_reducible rfl)
  try simp only [Act.put, List.setIfInBounds_toArray, List.set_cons_zero, List.set_cons_succ]
  refine wpAnyH_take (i := 1) (v := ?_) (by simp only [List.getElem?_toArray, List.getElem?_cons_succ, List.getElem?_cons_zero]; rfl) (by kernel_rfl) (by kernel_rfl) (by kernel_rfl) (fun _ _ _ h => h) (Or.inl ⟨by rfl, ?_⟩) (by assumption) ?_
  rotate_left
  · (intro w hSw; (try dsimp only at hSw); go_simp; try with_reducible rfl)
  try simp only [Act.put, List.setIfInBounds_toArray, List.set_cons_zero, List.set_cons_succ]
  refine wpAnyH_take (i := 2) (v := ?_) (by simp only [List.getElem?_toArray, List.getElem?_cons_succ, List.getElem?_cons_zero]; rfl) (by kernel_rfl) (by kernel_rfl) (by kernel_rfl) (fun _ _ _ h => h) (Or.inl ⟨by rfl, ?_⟩) (by assumption) ?_
  rotate_left
  · (intro w hSw; (try dsimp only at hSw); go_simp; try with_reducible rfl)
  try simp only [Act.put, List.setIfInBounds_toArray, List.set_cons_zero, List.set_cons_succ]
  refine wpAnyH_take (i := 3) (v := ?_) (by simp only [List.getElem?_toArray, List.getElem?_cons_succ, List.getElem?_cons_zero]; rfl) (by kernel_rfl) (by kernel_rfl) (by kernel_rfl) (fun _ _ _ h => h) (Or.inl ⟨by rfl, ?_⟩) (by assumption) ?_
  rotate_left
  · (intro w hSw; (try dsimp only at hSw); go_simp; try with_reducible rfl)
  try simp only [Act.put, List.setIfInBounds_toArray, List.set_cons_zero, List.set_cons_succ]
  refine wpAnyH_take (i := 5) (v := ?_) (by simp only [List.getElem?_toArray, List.getElem?_cons_succ, List.getElem?_cons_zero]; rfl) (by kernel_rfl) (by kernel_rfl) (by kernel_rfl) (fun _ _ _ h => h) (Or.inl ⟨by rfl, ?_⟩) (by assumption) ?_
  rotate_left
  · (intro w hSw; (try dsimp only at hSw); go_simp; try with_reducible rfl)
  try simp only [Act.put, List.setIfInBounds_toArray, List.set_cons_zero, List.set_cons_succ]
  refine wpAnyH_take (i := 6) (v := ?_) (by simp only [List.getElem?_toArray, List.getElem?_cons_succ, List.getElem?_cons_zero]; rfl) (by kernel_rfl) (by kernel_rfl) (by kernel_rfl) (fun _ _ _ h => h) (Or.inl ⟨by rfl, ?_⟩) (by assumption) ?_
  rotate_left
  · (intro w hSw; (try dsimp only at hSw); go_simp; try with_reducible rfl)
  try simp only [Act.put, List.setIfInBounds_toArray, List.set_cons_zero, List.set_cons_succ]
  refine wpAnyH_take (i := 7) (v := ?_) (by simp only [List.getElem?_toArray, List.getElem?_cons_succ, List.getElem?_cons_zero]; rfl) (by kernel_rfl) (by kernel_rfl) (by kernel_rfl) (fun _ _ _ h => h) (Or.inl ⟨by rfl, ?_⟩) (by assumption) ?_
  rotate_left
  · (intro w hSw; (try dsimp only at hSw); go_simp; try with_reducible rfl)
  try simp only [Act.put, List.setIfInBounds_toArray, List.set_cons_zero, List.set_cons_succ]
  refine wpAnyH_take (i := 8) (v := ?_) (by simp only [List.getElem?_toArray, List.getElem?_cons_succ, List.getElem?_cons_zero]; rfl) (by kernel_rfl) (by kernel_rfl) (by kernel_rfl) (fun _ _ _ h => h) (Or.inl ⟨by rfl, ?_⟩) (by assumption) ?_
  rotate_left
  · (intro w hSw; (try dsimp only at hSw); go_simp; try with_reducible rfl)
  try simp only [Act.put, List.setIfInBounds_toArray, List.set_cons_zero, List.set_cons_succ]
  refine wpAnyH_ready (rs := [4]) (by kernel_rfl) (by simp) ?_
  refine AllReadyH.cons (by simp only [List.getElem?_toArray, List.getElem?_cons_succ, List.getElem?_cons_zero]; rfl) (fun K hK => ?_) AllReadyH.nil
  go_simp
  go_at_call 31
  refine (S.out _).mono ?_
  rintro e w' ⟨rfl, rfl⟩
  go_wp2_with fail
  refine hK.out _ _ (hHeld) (fun hHeld => ?_)
  clear hK K
  try simp only [Act.put, List.setIfInBounds_toArray, List.set_cons_zero, List.set_cons_succ]
  refine wpAnyH_ready (rs := [9]) (by kernel_rfl) (by simp) ?_
  refine AllReadyH.cons (by simp only [List.getElem?_toArray, List.getElem?_cons_succ, List.getElem?_cons_zero]; rfl) (fun K hK => ?_) AllReadyH.nil
  go_simp
  go_at_call 32
  refine (C.out _).mono ?_
  rintro e w' ⟨rfl, rfl⟩
  go_wp2_with fail
  refine hK.out _ _ (hHeld) (fun hHeld => ?_)
  clear hK K
  try simp only [Act.put, List.setIfInBounds_toArray, List.set_cons_zero, List.set_cons_succ]
  refine wpAnyH_ready (rs := [10]) (by kernel_rfl) (by simp) ?_
  refine AllReadyH.cons (by simp only [List.getElem?_toArray, List.getElem?_cons_succ, List.getElem?_cons_zero]; rfl) (fun K hK => ?_) AllReadyH.nil
  go_simp
  refine hK.out _ _ (⟨⟨Lib.cell?_alloc_some _ hHeld.1.1, Lib.cell?_alloc_some _ hHeld.1.2⟩, Lib.cell?_alloc_some _ hHeld.2.1, Lib.cell?_alloc_some _ hHeld.2.2⟩) (fun hHeld => ?_)
  clear hK K
  try simp only [Act.put, List.setIfInBounds_toArray, List.set_cons_zero, List.set_cons_succ]
  refine wpAnyH_ready (rs := [11]) (by kernel_rfl) (by simp) ?_
  refine AllReadyH.cons (by simp only [List.getElem?_toArray, List.getElem?_cons_succ, List.getElem?_cons_zero]; rfl) (fun K hK => ?_) AllReadyH.nil
  go_simp
  go_at_call 30
  refine (OR.out _ _ (new_cell _ _ _ 0 _ (by simp)) (new_cell _ _ _ 1 _ (by simp))).mono ?_
  rintro e w' ⟨rfl, rfl⟩
  go_wp2_with fail
  refine hK.out _ _ (hHeld) (fun hHeld => ?_)
  clear hK K
  try simp only [Act.put, List.setIfInBounds_toArray, List.set_cons_zero, List.set_cons_succ]
  refine wpAnyH_take (i := 12) (v := ?_) (by simp only [List.getElem?_toArray, List.getElem?_cons_succ, List.getElem?_cons_zero]; rfl) (by kernel_rfl) (by kernel_rfl) (by kernel_rfl) (fun _ _ _ h => h) (Or.inl ⟨by rfl, ?_⟩) (by assumption) ?_
  rotate_left
  · (intro w hSw; (try dsimp only at hSw); go_simp; try with_reducible rfl)
  try simp only [Act.put, List.setIfInBounds_toArray, List.set_cons_zero, List.set_cons_succ]
  refine wpAnyH_done (by kernel_rfl) ?_ _
  refine NoPanic.normal ?_
  go_wp2
  go_ret
  exact ⟨by rw [HV.out]; rfl, Below.drew (balloc (balloc (balloc h0 _) _) _)⟩

end Dots
end Go.Proofs.Ytafelgmppmfcaaa
