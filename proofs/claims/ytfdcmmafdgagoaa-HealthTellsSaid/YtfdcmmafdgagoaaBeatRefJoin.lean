/- the reference's Join. -/
import Derived.Test.YtfdcmmafdgagoaaBeatPut
import Derived.Lib.Builder
import Derived.Lib.SmallJoins
namespace Go.Proofs.Ytfdcmmafdgagoaa
open Go.RowKit
/-- Three cells of a block, set. -/
theorem set3_heap {W : World} {b : Nat} {a0 a1 a2 : Value} {T : TypeId} {fz : Nat × Nat} (h : W.heap[b]? = some (.cells #[a0, a1, a2] T fz)) (u0 u1 u2 : Value) :
    (((W.setCell ⟨b, 0, none⟩ u0).setCell ⟨b, 1, none⟩ u1).setCell ⟨b, 2, none⟩ u2).heap[b]? = some (.cells #[u0, u1, u2] T fz) :=
  Joins.block_setCell (i := 2) (Joins.block_setCell (i := 1) (Joins.block_setCell (i := 0) h u0) u1) u2
theorem bset3 {w a : World} {B g : Nat} (h : Below B w a) (hp : B ≤ g) (u0 u1 u2 : Value) : Below B w (((a.setCell ⟨g, 0, none⟩ u0).setCell ⟨g, 1, none⟩ u1).setCell ⟨g, 2, none⟩ u2) :=
  ((h.setCell (p := ⟨g, 0, none⟩) hp u0).setCell (p := ⟨g, 1, none⟩) hp u1).setCell (p := ⟨g, 2, none⟩) hp u2
namespace Beat
open Go.RowKit Go.Proofs.Ytfdcmmafdgagoaa.Order

theorem atL_look (L : List B) (q : List UInt8) : (0 ≤ atL L q ∧ ∃ j, ∃ h : j < L.length, atL L q = (j : Int) ∧ look L q = some L[j]) ∨ (atL L q = -1 ∧ look L q = none) := by
  unfold atL look
  cases h : L.findIdx? (fun x => x.p == q) with
  | none =>
    right
    refine ⟨rfl, ?_⟩
    rw [List.findIdx?_eq_none_iff] at h
    rw [List.find?_eq_none]
    intro x hx; have := h x hx; simpa using this
  | some j =>
    left
    obtain ⟨hj, h1, h2⟩ := List.findIdx?_eq_some_iff_getElem.1 h
    refine ⟨by simp, j, hj, rfl, ?_⟩
    rw [List.find?_eq_some_iff_getElem]
    refine ⟨by simpa using h1, j, hj, rfl, fun i hi => ?_⟩
    have := h2 i hi
    simpa using this
theorem put_length : ∀ (L : List B) (b : B), (putL L b).length ≤ L.length + 1
  | [], b => by simp [putL]
  | x :: L, b => by
    rw [putL]
    split
    · have := put_length L b; simp only [List.length_cons]; omega
    split
    · simp
    · simp
theorem joinR_snoc (a K : List B) (k : Nat) (h : k < K.length) : joinR a (K.take (k + 1)) = joinStep (joinR a (K.take k)) K[k] := by
  unfold joinR
  rw [← List.take_append_getElem h, List.foldl_append]; rfl
theorem joinR_length (a : List B) : ∀ K : List B, (joinR a K).length ≤ a.length + K.length := by
  intro K
  induction K generalizing a with
  | nil => simp [joinR]
  | cons x K ih =>
    have h1 := ih (joinStep a x)
    have h2 := put_length a (match look a x.p with | some y => greater y x | none => x)
    show (joinR (joinStep a x) K).length ≤ _
    have h3 : (joinStep a x).length ≤ a.length + 1 := h2
    simp only [List.length_cons]; omega

set_option maxRecDepth 100000 in
set_option maxHeartbeats 8000000 in
theorem rjoin_any (L K : List B) (a1 a2 : Option Addr) (c1 c2 : Nat) (w : World) (hL : Lies w a1 L.length L) (hK : Lies w a2 K.length K) (hn : L.length + K.length ≤ 1099511) :
    Calls Try.prog 18 #[.slice a1 L.length c1, .slice a2 K.length c2] w fun e w' => ∃ v', e = .returned v' ∧ Mine w' w.heap.size v' (joinR L K) ∧ Below w.heap.size w w' := by
  have hb := Below.refl w.heap.size w
  have HL := Lib.hid hL
  have HK := Lib.hid hK
  obtain ⟨n1, hn1⟩ : ∃ n, n = L.length := ⟨_, rfl⟩
  obtain ⟨n2, hn2⟩ : ∃ n, n = K.length := ⟨_, rfl⟩
  rw [← hn1] at HL hn ⊢
  rw [← hn2] at HK hn ⊢
  have HN := Lib.hid (And.intro hn1 hn2)
  clear hL hK hn1 hn2
  go_enter Try.func18, Try.ntmps18
  go_wp2_with (at_builtin; refine Row.wpList_app typ rfl _ _ rfl w.heap.size _ _ rfl (Row.Own.nil _ _) a1 n1 c1 L rfl (HL.out.below hb) (by simp only [List.length_nil]; omega) (Nat.le_refl _) ?_; intro v0 w0 o0 _ k0)
  rw [List.nil_append] at o0
  replace o0 := Lib.hid o0
  replace hb := hb.trans k0
  clear k0
  go_loopw [5, 6] (fun lv iv wr => ∃ k : Nat, k ≤ n2 ∧ iv = .int .i64 k ∧ Hid (Mine wr w.heap.size lv (joinR L (K.take k))) ∧ Below w.heap.size w wr) (fun _ iv _ => n2 - (intOf iv).toNat)
  case atStart => exact ⟨0, by omega, rfl, o0, hb⟩
  case round =>
    clear hb o0
    obtain ⟨k, hk, rfl, oO, hb⟩ := hrel
    have HB := Lib.hid hb
    clear hb
    by_cases hlt : k < n2
    rotate_left
    · obtain rfl : k = n2 := by omega
      have d1 : decide ((k : Int) < (k : Int)) = false := decide_eq_false (by omega)
      have HT : Hid (K.take k = K) := Lib.hid (List.take_of_length_le (by have := HN.out; omega))
      go_wp2
      go_ret
      exact ⟨_, rfl, by have h := oO.out; rw [HT.out] at h; exact h, HB.out⟩
    obtain ⟨b, o, rfl, hcell⟩ := lies_at (HK.out.below HB.out) (by omega)
    have hll : k < K.length := by have := HN.out; omega
    obtain ⟨c1, c2, c3⟩ := hcell k hll
    have hst := joinR_snoc L K k hll
    have hln := joinR_length L (K.take k)
    rw [List.length_take] at hln
    obtain ⟨x, hm'⟩ : ∃ m, m = K[k] := ⟨_, rfl⟩
    rw [← hm'] at c1 c2 c3 hst
    obtain ⟨O, hO⟩ : ∃ O, O = joinR L (K.take k) := ⟨_, rfl⟩
    rw [← hO] at oO hst hln
    have HST := Lib.hid hst
    have HLN : Hid (O.length ≤ 1099511) := Lib.hid (by have := HN.out; omega)
    clear hcell hm' hO hst hln hll
    have d1 : decide ((k : Int) < (n2 : Int)) = true := decide_eq_true (by omega)
    have j1 : (0 : Int) ≤ (k : Int) := by omega
    have j2 : (k : Int) < (n2 : Int) := by omega
    obtain ⟨ao, co, rfl, hoc, hom, lo, hof, hoz⟩ := oO.out.lies'
    obtain ⟨no, hno⟩ : ∃ n, n = O.length := ⟨_, rfl⟩
    rw [← hno] at oO lo hoc HLN ⊢
    have LO := Lib.hid lo
    have HZ := Lib.hid hoz
    have HNO := Lib.hid hno
    have HQ := Lib.hid (And.intro hoc hom)
    have CA := Lib.hid (fun w h => at_any O x.p ao co w h (by rw [← HNO.out]; have := HLN.out; omega))
    rw [← hno] at CA
    have HA := atL_look O x.p
    clear lo hof hoz hno hoc hom
    have HK0 := Lib.hid (And.intro hlt hn)
    clear hlt
    go_wp2_with fail
    have L1 := Lib.hid (LO.out.below (balloc (Below.refl _ _) (.cells #[.string ⟨x.p.toArray⟩, .int .u64 (x.n : Int), .bool x.bad] 28)))
    have hb := balloc (Below.refl wr.heap.size wr) (.cells #[.string ⟨x.p.toArray⟩, .int .u64 (x.n : Int), .bool x.bad] 28)
    have hm : (wr.alloc (.cells #[.string ⟨x.p.toArray⟩, .int .u64 (x.n : Int), .bool x.bad] 28)).heap[wr.heap.size]? = some (.cells #[.string ⟨x.p.toArray⟩, .int .u64 (x.n : Int), .bool x.bad] 28 (0, 0)) := World.alloc_heap_new wr _
    generalize hw1 : wr.alloc _ = w1 at *
    clear hw1
    refine (CA.out _ L1.out).mono ?_
    rintro e w2 ⟨rfl, rfl⟩
    obtain ⟨g, hg⟩ : ∃ g, g = wr.heap.size := ⟨_, rfl⟩
    rw [← hg] at hm ⊢
    have HG := Lib.hid hg
    clear hg
    rcases HA with ⟨h0, j, hj, e1, hl⟩ | ⟨e1, hl⟩
    rotate_left
    · have HST : Hid (joinR L (K.take (k + 1)) = putL O x) := Lib.hid (by rw [HST.out]; unfold joinStep; rw [hl])
      clear hl
      rw [e1]
      have x0 : w1.cell? ⟨g, 0, none⟩ = some (.string ⟨x.p.toArray⟩) := Lib.cell_of_heap hm 0
      have x1 : w1.cell? ⟨g, 1, none⟩ = some (.int .u64 (x.n : Int)) := Lib.cell_of_heap hm 1
      have x2 : w1.cell? ⟨g, 2, none⟩ = some (.bool x.bad) := Lib.cell_of_heap hm 2
      have CP := Lib.hid (rput_any O x ao co w1 (by rw [← HNO.out]; exact L1.out) (by rw [← HNO.out]; have := HLN.out; omega) (by rw [← HNO.out]; exact HQ.out.1) (by have := HQ.out.2; unfold maxLen at this; omega) HZ.out)
      rw [← HNO.out] at CP
      clear e1
      go_wp2_with fail
      refine CP.out.mono ?_
      rintro e v5 ⟨v, rfl, o5, k5⟩
      go_wp2_with fail
      go_roundw
      case rel => exact ⟨k + 1, by have := HK0.out; omega, by go_num, Lib.hid (by rw [HST.out]; exact o5.base (Nat.le_trans HB.out.size hb.size)), HB.out.trans ((hb.trans (k5.mono hb.size)).mono HB.out.size)⟩
      case measure => have := HK0.out; simp [intOf]; omega
    · obtain ⟨b', o', rfl, hcell⟩ := lies_at L1.out (by have := HNO.out; omega)
      obtain ⟨y1, y2, y3⟩ := hcell j hj
      have qb : b' < wr.heap.size := by
        obtain ⟨b'', o'', e, hc'⟩ := lies_at LO.out (by have := HNO.out; omega)
        cases e
        exact World.block_lt_of_cell? _ _ (hc' j hj).1
      have hjn : j < no := by have := HNO.out; omega
      obtain ⟨y, hy⟩ : ∃ m, m = O[j] := ⟨_, rfl⟩
      rw [← hy] at y1 y2 y3 hl
      have HST : Hid (joinR L (K.take (k + 1)) = putL O (greater y x)) := Lib.hid (by rw [HST.out]; unfold joinStep; rw [hl])
      clear hl h0 hcell hy
      rw [e1]
      have d2 : decide ((j : Int) ≥ 0) = true := decide_eq_true (by omega)
      have d3 : decide ((0 : Int) ≤ (j : Int)) = true := decide_eq_true (by omega)
      have j3 : (0 : Int) ≤ (j : Int) := by omega
      have j4 : (j : Int) < (no : Int) := by omega
      have HJ := Lib.hid hjn
      clear hjn e1 hj
      go_wp2_with fail
      refine wp_region_noPanic ?_
      refine wp_region_held_drew (S := (fun w' => Below wr.heap.size wr w' ∧ w'.cell? ⟨b', o' + j * 3, none⟩ = some (.string ⟨y.p.toArray⟩) ∧ w'.cell? ⟨b', o' + j * 3 + 1, none⟩ = some (.int .u64 (y.n : Int)) ∧ w'.cell? ⟨b', o' + j * 3 + 2, none⟩ = some (.bool y.bad))) (by kernel_rfl) (⟨Below.drew hb, (((Below.drew (Below.refl _ _))).cell (p := ⟨b', o' + j * 3, none⟩) qb).trans y1, (((Below.drew (Below.refl _ _))).cell (p := ⟨b', o' + j * 3 + 1, none⟩) qb).trans y2, (((Below.drew (Below.refl _ _))).cell (p := ⟨b', o' + j * 3 + 2, none⟩) qb).trans y3⟩) (fun hHeld => ?_)
      refine wpAnyH_take (i := 0) (v := ?_) (by simp only [List.getElem?_toArray, List.getElem?_cons_zero]; rfl) (by kernel_rfl) (by kernel_rfl) (by kernel_rfl) (fun _ _ _ h => h) (Or.inl ⟨by rfl, ?_⟩) (by assumption) ?_
      rotate_left
      · (intro w hSw; (try dsimp only at hSw); go_simp; try with_reducible rfl)
      try simp only [Act.put, List.setIfInBounds_toArray, List.set_cons_zero, List.set_cons_succ]
      refine wpAnyH_take (i := 1) (v := ?_) (by simp only [List.getElem?_toArray, List.getElem?_cons_succ, List.getElem?_cons_zero]; rfl) (by kernel_rfl) (by kernel_rfl) (by kernel_rfl) (fun _ _ _ h => h) (Or.inl ⟨by rfl, ?_⟩) (by assumption) ?_
      rotate_left
      · (intro w hSw; (try dsimp only at hSw); go_simp; try with_reducible rfl)
      try simp only [Act.put, List.setIfInBounds_toArray, List.set_cons_zero, List.set_cons_succ]
      refine wpAnyH_take (i := 2) (v := ?_) (by simp only [List.getElem?_toArray, List.getElem?_cons_succ, List.getElem?_cons_zero]; rfl) (by kernel_rfl) (by kernel_rfl) (by kernel_rfl) (fun _ _ _ h => h) (Or.inl ⟨by rfl, ?_⟩) (by assumption) ?_
      rotate_left
      · (intro w hSw; (try dsimp only at hSw); go_simp; try with_reducible rfl)
      try simp only [Act.put, List.setIfInBounds_toArray, List.set_cons_zero, List.set_cons_succ]
      refine wpAnyH_take (i := 3) (v := ?_) (by simp only [List.getElem?_toArray, List.getElem?_cons_succ, List.getElem?_cons_zero]; rfl) (by kernel_rfl) (by kernel_rfl) (by kernel_rfl) (fun _ _ _ h => h) (Or.inl ⟨by rfl, ?_⟩) (by assumption) ?_
      rotate_left
      · (intro w hSw; (try dsimp only at hSw); go_simp; try with_reducible rfl)
      try simp only [Act.put, List.setIfInBounds_toArray, List.set_cons_zero, List.set_cons_succ]
      refine wpAnyH_ready (rs := [4]) (by kernel_rfl) (by simp) ?_
      refine AllReadyH.cons (by simp only [List.getElem?_toArray, List.getElem?_cons_succ, List.getElem?_cons_zero]; rfl) (fun K hK => ?_) AllReadyH.nil
      have x0 : w1.drew.cell? ⟨g, 0, none⟩ = some (.string ⟨x.p.toArray⟩) := Lib.cell_of_heap hm 0
      have x1 : w1.drew.cell? ⟨g, 1, none⟩ = some (.int .u64 (x.n : Int)) := Lib.cell_of_heap hm 1
      have x2 : w1.drew.cell? ⟨g, 2, none⟩ = some (.bool x.bad) := Lib.cell_of_heap hm 2
      go_simp
      refine hK.out _ _ hHeld (fun hHeld => ?_)
      clear hK K
      try simp only [Act.put, List.setIfInBounds_toArray, List.set_cons_zero, List.set_cons_succ]
      refine wpAnyH_ready (rs := [5]) (by kernel_rfl) (by simp) ?_
      refine AllReadyH.cons (by simp only [List.getElem?_toArray, List.getElem?_cons_succ, List.getElem?_cons_zero]; rfl) (fun K hK => ?_) AllReadyH.nil
      go_simp
      go_at_call 27
      refine (rgreater_any y x _).mono ?_
      rintro e v1 ⟨rfl, k1⟩
      have hm2 := (k1.block g (by have h := hb.size; have := HG.out; have h2 := (Array.getElem?_eq_some_iff.1 hm).1; exact h2)).trans hm
      replace k1 := (k1).mono (hHeld.1).size
      go_wp2_with fail
      refine hK.out _ _ (⟨(hHeld.1).trans k1, ((k1).cell (p := ⟨b', o' + j * 3, none⟩) qb).trans hHeld.2.1, ((k1).cell (p := ⟨b', o' + j * 3 + 1, none⟩) qb).trans hHeld.2.2.1, ((k1).cell (p := ⟨b', o' + j * 3 + 2, none⟩) qb).trans hHeld.2.2.2⟩) (fun hHeld => ?_)
      clear hK K k1
      try simp only [Act.put, List.setIfInBounds_toArray, List.set_cons_zero, List.set_cons_succ]
      refine wpAnyH_ready (rs := [6]) (by kernel_rfl) (by simp) ?_
      refine AllReadyH.cons (by simp only [List.getElem?_toArray, List.getElem?_cons_succ, List.getElem?_cons_zero]; rfl) (fun K hK => ?_) AllReadyH.nil
      have fz := fun j => Lib.frozen_of_heap hm2 j
      have q0 : v1.cell? ⟨g, 0, none⟩ = some (.string ⟨x.p.toArray⟩) := Lib.cell_of_heap hm2 0
      have q1 : v1.cell? ⟨g, 1, none⟩ = some (.int .u64 (x.n : Int)) := Lib.cell_of_heap hm2 1
      have q2 : v1.cell? ⟨g, 2, none⟩ = some (.bool x.bad) := Lib.cell_of_heap hm2 2
      have hm3 := set3_heap hm2 (.string ⟨(greater y x).p.toArray⟩) (.int .u64 ((greater y x).n : Int)) (.bool (greater y x).bad)
      go_simp
      refine hK.out _ _ (⟨(hHeld.1).trans (bset3 (Below.refl wr.heap.size _) (Nat.le_of_eq HG.out.symm) _ _ _), (((bset3 (Below.refl wr.heap.size _) (Nat.le_of_eq HG.out.symm) _ _ _)).cell (p := ⟨b', o' + j * 3, none⟩) qb).trans hHeld.2.1, (((bset3 (Below.refl wr.heap.size _) (Nat.le_of_eq HG.out.symm) _ _ _)).cell (p := ⟨b', o' + j * 3 + 1, none⟩) qb).trans hHeld.2.2.1, (((bset3 (Below.refl wr.heap.size _) (Nat.le_of_eq HG.out.symm) _ _ _)).cell (p := ⟨b', o' + j * 3 + 2, none⟩) qb).trans hHeld.2.2.2⟩) (fun hHeld => ?_)
      clear hK K
      try simp only [Act.put, List.setIfInBounds_toArray, List.set_cons_zero, List.set_cons_succ]
      refine wpAnyH_done (by kernel_rfl) ?_ _
      refine NoPanic.normal ?_
      clear hb y1 y2 y3
      obtain ⟨hb, y1, y2, y3⟩ := hHeld
      clear fz q0 q1 q2 x0 x1 x2 y1 y2 y3 hm hm2 d2 d3 j3 j4
      generalize hw4 : World.setCell _ _ _ = w4 at *
      clear hw4
      obtain ⟨z, hz⟩ : ∃ z, z = greater y x := ⟨_, rfl⟩
      rw [← hz] at hm3 HST
      clear hz
      have x0 : w4.cell? ⟨g, 0, none⟩ = some (.string ⟨z.p.toArray⟩) := Lib.cell_of_heap hm3 0
      have x1 : w4.cell? ⟨g, 1, none⟩ = some (.int .u64 (z.n : Int)) := Lib.cell_of_heap hm3 1
      have x2 : w4.cell? ⟨g, 2, none⟩ = some (.bool z.bad) := Lib.cell_of_heap hm3 2
      have CP := Lib.hid (rput_any O z (some ⟨b', o', none⟩) co w4 (by rw [← HNO.out]; exact LO.out.below hb) (by rw [← HNO.out]; have := HLN.out; omega) (by rw [← HNO.out]; exact HQ.out.1) (by have := HQ.out.2; unfold maxLen at this; omega) (fun e => by cases e))
      rw [← HNO.out] at CP
      go_wp2_with fail
      refine CP.out.mono ?_
      rintro e v5 ⟨v, rfl, o5, k5⟩
      go_wp2_with fail
      go_roundw
      case rel => exact ⟨k + 1, by have := HK0.out; omega, by go_num, Lib.hid (by rw [HST.out]; exact o5.base (Nat.le_trans HB.out.size hb.size)), HB.out.trans ((hb.trans (k5.mono hb.size)).mono HB.out.size)⟩
      case measure => have := HK0.out; simp [intOf]; omega
end Beat
end Go.Proofs.Ytfdcmmafdgagoaa
