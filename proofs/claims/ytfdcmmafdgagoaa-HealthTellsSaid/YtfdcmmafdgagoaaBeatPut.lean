/- the reference's Put. -/
import Derived.Test.YtfdcmmafdgagoaaBeatBad
namespace Go.Proofs.Ytfdcmmafdgagoaa
namespace Row
open Go.RowKit
/-- The rest of a slice from element k on. -/
theorem Lies.drop {α : Type} {E : Enc α} {w : World} {b off n : Nat} {L : List α} (h : Lies E w (some ⟨b, off, none⟩) n L) : ∀ k, k ≤ n → Lies E w (some ⟨b, off + k * E.k, none⟩) (n - k) (L.drop k)
  | 0, _ => by simpa using h
  | k + 1, hk => by
    have h1 := Lies.drop h k (by omega)
    have hl : k < L.length := by have := h.1; omega
    rw [List.drop_eq_getElem_cons hl] at h1
    have h2 := Lies.tail h1
    have e1 : n - k - 1 = n - (k + 1) := by omega
    have e2 : off + k * E.k + E.k = off + (k + 1) * E.k := by rw [Nat.add_mul, Nat.one_mul, Nat.add_assoc]
    rw [e1, e2] at h2
    exact h2
theorem Lies.else {α : Type} {E : Enc α} {w : World} {a : Option Addr} {n : Nat} {L : List α} (h : Lies E w a n L) (h0 : n = 0) (a' : Option Addr) : Lies E w a' n L := ⟨h.1, fun hn => absurd hn (by omega)⟩
theorem Own.lies' {α : Type} {E : Enc α} {te : TypeId} {w : World} {B : Nat} {v : Value} {L : List α} (h : Own E te w B v L) : ∃ a c, v = .slice a L.length c ∧ L.length ≤ c ∧ c ≤ maxLen ∧ Lies E w a L.length L ∧ (∀ q, a = some q → B ≤ q.block) ∧ (a = none → c = 0) := by
  obtain ⟨a, c, rfl, h1, h2, h3, h4⟩ := h.lies
  refine ⟨a, c, rfl, h1, h2, h3, h4, fun e => ?_⟩
  subst e
  rcases h.2 with ⟨e, _⟩ | ⟨g, cap, cur, e, _⟩
  · simp only [Value.slice.injEq] at e; exact e.2.2
  · simp at e
end Row
namespace Beat
open Go.RowKit Go.Proofs.Ytfdcmmafdgagoaa.Order

theorem put_at : ∀ (L : List B) (b : B) (k : Nat), k ≤ L.length → (∀ j (hj : j < L.length), j < k → lt L[j].p b.p) → (∀ hj : k < L.length, ¬ lt L[k].p b.p) → ∀ m, (m = k + 1 ∧ (∃ hj : k < L.length, L[k].p = b.p)) ∨ (m = k ∧ ∀ hj : k < L.length, L[k].p ≠ b.p) → L.take k ++ ([b] ++ L.drop m) = putL L b
  | [], b, k, h, _, _, m, hm => by
    obtain rfl : k = 0 := by simpa using h
    rcases hm with ⟨_, hj, _⟩ | ⟨rfl, _⟩
    · simp at hj
    · rfl
  | x :: L, b, 0, _, _, h2, m, hm => by
    rw [putL, if_neg (show ¬ lt x.p b.p from h2 (by simp))]
    rcases hm with ⟨rfl, _, e⟩ | ⟨rfl, e⟩
    · rw [if_pos (by simpa using e)]; rfl
    · rw [if_neg (by simpa using e)]; rfl
  | x :: L, b, k + 1, h, h1, h2, m, hm => by
    have hx : lt x.p b.p := h1 0 (by simp) (by omega)
    rw [putL, if_pos hx]
    obtain ⟨m, rfl⟩ : ∃ n, m = n + 1 := by rcases hm with ⟨rfl, _⟩ | ⟨rfl, _⟩; exact ⟨_, rfl⟩; exact ⟨_, rfl⟩
    rw [List.take_succ_cons, List.drop_succ_cons, List.cons_append]
    rw [put_at L b k (by simpa using h) (fun j hj hk => h1 (j + 1) (by simpa using hj) (by omega)) (fun hj => h2 (by simpa using hj)) m (by
      rcases hm with ⟨e, hj, e2⟩ | ⟨e, e2⟩
      · exact .inl ⟨by omega, by simpa using hj, e2⟩
      · exact .inr ⟨by omega, fun hj => e2 (by simpa using hj)⟩)]
theorem lt_less (a b : List UInt8) : Op.bytesLess a b = decide (lt a b) := by
  cases h : Op.bytesLess a b with
  | true => exact (decide_eq_true (show lt a b by unfold lt; rw [cmp_less _ _ h]; decide)).symm
  | false =>
    refine (decide_eq_false (fun hl => ?_)).symm
    by_cases he : a = b
    · rw [he] at hl; exact lt_irrefl _ hl
    · unfold lt at hl; rw [cmp_more _ _ he h] at hl; exact absurd hl (by decide)

set_option maxRecDepth 100000 in
set_option maxHeartbeats 8000000 in
theorem rput_any (L : List B) (x : B) (a : Option Addr) (c : Nat) (w : World) (hL : Lies w a L.length L) (hn : L.length ≤ 1099511627) (hc : L.length ≤ c) (hm : c ≤ 9223372036854775807) (hz : a = none → c = 0) :
    Calls Try.prog 20 #[.slice a L.length c, .agg #[.string ⟨x.p.toArray⟩, .int .u64 (x.n : Int), .bool x.bad]] w fun e w' => ∃ v', e = .returned v' ∧ Mine w' w.heap.size v' (putL L x) ∧ Below w.heap.size w w' := by
  have lL := Lib.hid hL
  obtain ⟨n, hnn⟩ : ∃ n, n = L.length := ⟨_, rfl⟩
  rw [← hnn] at lL hn hc ⊢
  have HN := Lib.hid hnn
  clear hL hnn
  go_enter Try.func20, Try.ntmps20
  go_wp2_with fail
  have lL := Lib.hid (lL.out.below (balloc (Below.refl _ _) (.cells #[.string ⟨x.p.toArray⟩, .int .u64 (x.n : Int), .bool x.bad] 28)))
  have HB0 := Lib.hid (balloc (Below.refl w.heap.size w) (.cells #[.string ⟨x.p.toArray⟩, .int .u64 (x.n : Int), .bool x.bad] 28))
  have b0 : (w.alloc (.cells #[.string ⟨x.p.toArray⟩, .int .u64 (x.n : Int), .bool x.bad] 28)).cell? ⟨w.heap.size, 0, none⟩ = some (.string ⟨x.p.toArray⟩) := World.cell?_alloc_at _ _ _ 0 rfl
  have b1 : (w.alloc (.cells #[.string ⟨x.p.toArray⟩, .int .u64 (x.n : Int), .bool x.bad] 28)).cell? ⟨w.heap.size, 1, none⟩ = some (.int .u64 (x.n : Int)) := World.cell?_alloc_at _ _ _ 1 rfl
  have b2 : (w.alloc (.cells #[.string ⟨x.p.toArray⟩, .int .u64 (x.n : Int), .bool x.bad] 28)).cell? ⟨w.heap.size, 2, none⟩ = some (.bool x.bad) := World.cell?_alloc_at _ _ _ 2 rfl
  have hs : w.heap.size < (w.alloc (.cells #[.string ⟨x.p.toArray⟩, .int .u64 (x.n : Int), .bool x.bad] 28)).heap.size := by rw [World.size_alloc]; omega
  generalize hw1 : w.alloc _ = w1 at *
  have HS := Lib.hid hs
  clear hw1 hs
  obtain ⟨g, hg⟩ : ∃ g, g = w.heap.size := ⟨_, rfl⟩
  rw [← hg] at b0 b1 b2 HB0 HS ⊢
  have HG := Lib.hid hg
  clear hg
  have hb := Below.refl w1.heap.size w1
  go_loopw [5, 6] (fun lv iv wr => ∃ k : Nat, k ≤ n ∧ iv = .int .i64 k ∧ Hid (Mine wr w1.heap.size lv (L.take k)) ∧ Hid (∀ j (hj : j < L.length), j < k → lt L[j].p x.p) ∧ Below w1.heap.size w1 wr) (fun _ iv _ => n - (intOf iv).toNat)
  case atStart => exact ⟨0, by omega, rfl, Lib.hid (Row.Own.nil _ _), Lib.hid (fun j _ h => absurd h (by omega)), hb⟩
  case round =>
    clear hb
    obtain ⟨k, hk, rfl, oO, HA, hb⟩ := hrel
    replace b0 := Beat.keepC b0 hb
    replace b1 := Beat.keepC b1 hb
    replace b2 := Beat.keepC b2 hb
    by_cases hlt : k < n
    · obtain ⟨b, o, rfl, hcell⟩ := lies_at (lL.out.below hb) (by omega)
      have lM := Lib.hid (lL.out.below hb)
      have hll : k < L.length := by have := HN.out; omega
      obtain ⟨c1, c2, c3⟩ := hcell k hll
      have qb := World.block_lt_of_cell? _ _ (show w1.cell? ⟨b, o + k * 3, none⟩ = _ from ((hb.cell (p := ⟨b, o + k * 3, none⟩) (by obtain ⟨b', o', e, hc'⟩ := lies_at lL.out (by omega); cases e; exact World.block_lt_of_cell? _ _ (hc' k hll).1)).symm.trans c1))
      have ht := List.take_append_getElem hll
      have hlt1 := lt_less L[k].p x.p
      have HP1 : Hid (∀ m, (m = k + 1 ∧ L[k].p = x.p) ∨ (m = k ∧ L[k].p ≠ x.p) → ¬ lt L[k].p x.p → L.take k ++ ([x] ++ L.drop m) = putL L x) := Lib.hid (fun m hm hn => put_at L x k (by omega) HA.out (fun _ => hn) m (hm.imp (fun ⟨e, e2⟩ => ⟨e, hll, e2⟩) (fun ⟨e, e2⟩ => ⟨e, fun _ => e2⟩)))
      have HA1 : lt L[k].p x.p → ∀ j (hj : j < L.length), j < k + 1 → lt L[j].p x.p := fun hl j hj h => by
        rcases Nat.lt_or_eq_of_le (Nat.le_of_lt_succ h) with h | h
        · exact HA.out j hj h
        · subst h; exact hl
      obtain ⟨m, hm'⟩ : ∃ m, m = L[k] := ⟨_, rfl⟩
      rw [← hm'] at c1 c2 c3 ht hlt1 HP1 HA1
      have d1 : decide ((k : Int) < (n : Int)) = true := decide_eq_true (by omega)
      have j1 : (0 : Int) ≤ (k : Int) := by omega
      have j2 : (k : Int) < (n : Int) := by omega
      have HT := Lib.hid ht
      have HK := Lib.hid (And.intro hlt hn)
      replace HA1 := Lib.hid HA1
      clear hcell hm' hll ht hlt
      by_cases hl : lt m.p x.p
      · rw [decide_eq_true hl] at hlt1
        have HA2 := Lib.hid (HA1.out hl)
        clear hl HA1 HP1
        go_wp2_with fail
        refine wp_region_noPanic ?_
        refine wp_region_held_drew (S := (fun w' => Below w1.heap.size w1 w' ∧ w'.cell? ⟨g, 0, none⟩ = some (.string ⟨x.p.toArray⟩) ∧ w'.cell? ⟨g, 1, none⟩ = some (.int .u64 (x.n : Int)) ∧ w'.cell? ⟨g, 2, none⟩ = some (.bool x.bad) ∧ w'.cell? ⟨b, o + k * 3, none⟩ = some (.string ⟨m.p.toArray⟩) ∧ w'.cell? ⟨b, o + k * 3 + 1, none⟩ = some (.int .u64 (m.n : Int)) ∧ w'.cell? ⟨b, o + k * 3 + 2, none⟩ = some (.bool m.bad))) (by kernel_rfl) (⟨Below.drew hb, (((Below.drew (Below.refl _ _))).cell (p := ⟨g, 0, none⟩) HS.out).trans b0, (((Below.drew (Below.refl _ _))).cell (p := ⟨g, 1, none⟩) HS.out).trans b1, (((Below.drew (Below.refl _ _))).cell (p := ⟨g, 2, none⟩) HS.out).trans b2, (((Below.drew (Below.refl _ _))).cell (p := ⟨b, o + k * 3, none⟩) qb).trans c1, (((Below.drew (Below.refl _ _))).cell (p := ⟨b, o + k * 3 + 1, none⟩) qb).trans c2, (((Below.drew (Below.refl _ _))).cell (p := ⟨b, o + k * 3 + 2, none⟩) qb).trans c3⟩) (fun hHeld => ?_)
        refine wpAnyH_take (i := 0) (v := ?_) (by simp only [List.getElem?_toArray, List.getElem?_cons_zero]; rfl) (by kernel_rfl) (by kernel_rfl) (by kernel_rfl) (fun _ _ _ h => h) (Or.inl ⟨by rfl, ?_⟩) (by assumption) ?_
        rotate_left
        · (intro w hSw; (try dsimp only at hSw); go_simp; try with_reducible rfl)
        try simp only [Act.put, List.setIfInBounds_toArray, List.set_cons_zero, List.set_cons_succ]
        refine wpAnyH_take (i := 1) (v := ?_) (by simp only [List.getElem?_toArray, List.getElem?_cons_succ, List.getElem?_cons_zero]; rfl) (by kernel_rfl) (by kernel_rfl) (by kernel_rfl) (fun _ _ _ h => h) (Or.inl ⟨by rfl, ?_⟩) (by assumption) ?_
        rotate_left
        · (intro w hSw; (try dsimp only at hSw); go_simp; try with_reducible rfl)
        try simp only [Act.put, List.setIfInBounds_toArray, List.set_cons_zero, List.set_cons_succ]
        refine wpAnyH_take (i := 2) (v := ?_) (by simp only [List.getElem?_toArray, List.getElem?_cons_succ, List.getElem?_cons_zero]; rfl) (by kernel_rfl) (by kernel_rfl) (by kernel_rfl) (fun _ _ _ h => h) (Or.inl ⟨by rfl, ?_⟩) (by assumption) ?_
        rotate_left
        · (intro w hSw; (try dsimp only at hSw); go_simp; try with_reducible rfl)
        try simp only [Act.put, List.setIfInBounds_toArray, List.set_cons_zero, List.set_cons_succ]
        refine wpAnyH_take (i := 3) (v := ?_) (by simp only [List.getElem?_toArray, List.getElem?_cons_succ, List.getElem?_cons_zero]; rfl) (by kernel_rfl) (by kernel_rfl) (by kernel_rfl) (fun _ _ _ h => h) (Or.inl ⟨by rfl, ?_⟩) (by assumption) ?_
        rotate_left
        · (intro w hSw; (try dsimp only at hSw); go_simp; try with_reducible rfl)
        try simp only [Act.put, List.setIfInBounds_toArray, List.set_cons_zero, List.set_cons_succ]
        refine wpAnyH_take (i := 4) (v := ?_) (by simp only [List.getElem?_toArray, List.getElem?_cons_succ, List.getElem?_cons_zero]; rfl) (by kernel_rfl) (by kernel_rfl) (by kernel_rfl) (fun _ _ _ h => h) (Or.inl ⟨by rfl, ?_⟩) (by assumption) ?_
        rotate_left
        · (intro w hSw; (try dsimp only at hSw); go_simp; try with_reducible rfl)
        try simp only [Act.put, List.setIfInBounds_toArray, List.set_cons_zero, List.set_cons_succ]
        refine wpAnyH_take (i := 5) (v := ?_) (by simp only [List.getElem?_toArray, List.getElem?_cons_succ, List.getElem?_cons_zero]; rfl) (by kernel_rfl) (by kernel_rfl) (by kernel_rfl) (fun _ _ _ h => h) (Or.inl ⟨by rfl, ?_⟩) (by assumption) ?_
        rotate_left
        · (intro w hSw; (try dsimp only at hSw); go_simp; try with_reducible rfl)
        try simp only [Act.put, List.setIfInBounds_toArray, List.set_cons_zero, List.set_cons_succ]
        refine wpAnyH_take (i := 6) (v := ?_) (by simp only [List.getElem?_toArray, List.getElem?_cons_succ, List.getElem?_cons_zero]; rfl) (by kernel_rfl) (by kernel_rfl) (by kernel_rfl) (fun _ _ _ h => h) (Or.inl ⟨by rfl, ?_⟩) (by assumption) ?_
        rotate_left
        · (intro w hSw; (try dsimp only at hSw); go_simp; try with_reducible rfl)
        try simp only [Act.put, List.setIfInBounds_toArray, List.set_cons_zero, List.set_cons_succ]
        refine wpAnyH_take (i := 7) (v := ?_) (by simp only [List.getElem?_toArray, List.getElem?_cons_succ, List.getElem?_cons_zero]; rfl) (by kernel_rfl) (by kernel_rfl) (by kernel_rfl) (fun _ _ _ h => h) (Or.inl ⟨by rfl, ?_⟩) (by assumption) ?_
        rotate_left
        · (intro w hSw; (try dsimp only at hSw); go_simp; try with_reducible rfl)
        try simp only [Act.put, List.setIfInBounds_toArray, List.set_cons_zero, List.set_cons_succ]
        refine wpAnyH_take (i := 8) (v := ?_) (by simp only [List.getElem?_toArray, List.getElem?_cons_succ, List.getElem?_cons_zero]; rfl) (by kernel_rfl) (by kernel_rfl) (by kernel_rfl) (fun _ _ _ h => h) (Or.inl ⟨by rfl, ?_⟩) (by assumption) ?_
        rotate_left
        · (intro w hSw; (try dsimp only at hSw); go_simp; try with_reducible rfl)
        try simp only [Act.put, List.setIfInBounds_toArray, List.set_cons_zero, List.set_cons_succ]
        refine wpAnyH_take (i := 9) (v := ?_) (by simp only [List.getElem?_toArray, List.getElem?_cons_succ, List.getElem?_cons_zero]; rfl) (by kernel_rfl) (by kernel_rfl) (by kernel_rfl) (fun _ _ _ h => h) (Or.inl ⟨by rfl, ?_⟩) (by assumption) ?_
        rotate_left
        · (intro w hSw; (try dsimp only at hSw); go_simp; try with_reducible rfl)
        try simp only [Act.put, List.setIfInBounds_toArray, List.set_cons_zero, List.set_cons_succ]
        refine wpAnyH_take (i := 10) (v := ?_) (by simp only [List.getElem?_toArray, List.getElem?_cons_succ, List.getElem?_cons_zero]; rfl) (by kernel_rfl) (by kernel_rfl) (by kernel_rfl) (fun _ _ _ h => h) (Or.inl ⟨by rfl, ?_⟩) (by assumption) ?_
        rotate_left
        · (intro w hSw; (try dsimp only at hSw); go_simp; try with_reducible rfl)
        try simp only [Act.put, List.setIfInBounds_toArray, List.set_cons_zero, List.set_cons_succ]
        refine wpAnyH_take (i := 11) (v := ?_) (by simp only [List.getElem?_toArray, List.getElem?_cons_succ, List.getElem?_cons_zero]; rfl) (by kernel_rfl) (by kernel_rfl) (by kernel_rfl) (fun _ _ _ h => h) (Or.inl ⟨by rfl, ?_⟩) (by assumption) ?_
        rotate_left
        · (intro w hSw; (try dsimp only at hSw); go_simp; try with_reducible rfl)
        try simp only [Act.put, List.setIfInBounds_toArray, List.set_cons_zero, List.set_cons_succ]
        refine wpAnyH_take (i := 12) (v := ?_) (by simp only [List.getElem?_toArray, List.getElem?_cons_succ, List.getElem?_cons_zero]; rfl) (by kernel_rfl) (by kernel_rfl) (by kernel_rfl) (fun _ _ _ h => h) (Or.inl ⟨by rfl, ?_⟩) (by assumption) ?_
        rotate_left
        · (intro w hSw; (try dsimp only at hSw); go_simp; try with_reducible rfl)
        try simp only [Act.put, List.setIfInBounds_toArray, List.set_cons_zero, List.set_cons_succ]
        refine wpAnyH_take (i := 13) (v := ?_) (by simp only [List.getElem?_toArray, List.getElem?_cons_succ, List.getElem?_cons_zero]; rfl) (by kernel_rfl) (by kernel_rfl) (by kernel_rfl) (fun _ _ _ h => h) (Or.inl ⟨by rfl, ?_⟩) (by assumption) ?_
        rotate_left
        · (intro w hSw; (try dsimp only at hSw); go_simp; try with_reducible rfl)
        try simp only [Act.put, List.setIfInBounds_toArray, List.set_cons_zero, List.set_cons_succ]
        refine wpAnyH_done (by kernel_rfl) ?_ _
        refine NoPanic.normal ?_
        clear hb b0 b1 b2 c1 c2 c3
        obtain ⟨hb, b0, b1, b2, c1, c2, c3⟩ := hHeld
        go_wp2_with (at_builtin; go_loud (refine Row.wpList_app typ rfl _ _ rfl w1.heap.size _ _ rfl (oO.out.alloc _) _ 1 1 [m] rfl (Row.lies_new _ m _) (by have := HK.out; rw [List.length_take]; omega) (balloc hb _).size ?_; intro v9 w9 o9 _ k9))
        replace k9 := (Below.alloc (Below.refl w1.heap.size _) hb.size _).trans k9
        go_roundw
        case rel => exact ⟨k + 1, by have := HK.out; omega, by go_num, Lib.hid (by rw [← HT.out]; exact o9), HA2, hb.trans k9⟩
        case measure => have := HK.out; simp [intOf]; omega
      · rw [decide_eq_false hl] at hlt1
        have HP2 := Lib.hid (fun m hm => HP1.out m hm hl)
        clear hl HA1 HP1
        go_wp2_with fail
        refine wp_region_noPanic ?_
        refine wp_region_held_drew (S := (fun w' => Below w1.heap.size w1 w' ∧ w'.cell? ⟨g, 0, none⟩ = some (.string ⟨x.p.toArray⟩) ∧ w'.cell? ⟨g, 1, none⟩ = some (.int .u64 (x.n : Int)) ∧ w'.cell? ⟨g, 2, none⟩ = some (.bool x.bad) ∧ w'.cell? ⟨b, o + k * 3, none⟩ = some (.string ⟨m.p.toArray⟩) ∧ w'.cell? ⟨b, o + k * 3 + 1, none⟩ = some (.int .u64 (m.n : Int)) ∧ w'.cell? ⟨b, o + k * 3 + 2, none⟩ = some (.bool m.bad))) (by kernel_rfl) (⟨Below.drew hb, (((Below.drew (Below.refl _ _))).cell (p := ⟨g, 0, none⟩) HS.out).trans b0, (((Below.drew (Below.refl _ _))).cell (p := ⟨g, 1, none⟩) HS.out).trans b1, (((Below.drew (Below.refl _ _))).cell (p := ⟨g, 2, none⟩) HS.out).trans b2, (((Below.drew (Below.refl _ _))).cell (p := ⟨b, o + k * 3, none⟩) qb).trans c1, (((Below.drew (Below.refl _ _))).cell (p := ⟨b, o + k * 3 + 1, none⟩) qb).trans c2, (((Below.drew (Below.refl _ _))).cell (p := ⟨b, o + k * 3 + 2, none⟩) qb).trans c3⟩) (fun hHeld => ?_)
        refine wpAnyH_take (i := 0) (v := ?_) (by simp only [List.getElem?_toArray, List.getElem?_cons_zero]; rfl) (by kernel_rfl) (by kernel_rfl) (by kernel_rfl) (fun _ _ _ h => h) (Or.inl ⟨by rfl, ?_⟩) (by assumption) ?_
        rotate_left
        · (intro w hSw; (try dsimp only at hSw); go_simp; try with_reducible rfl)
        try simp only [Act.put, List.setIfInBounds_toArray, List.set_cons_zero, List.set_cons_succ]
        refine wpAnyH_take (i := 1) (v := ?_) (by simp only [List.getElem?_toArray, List.getElem?_cons_succ, List.getElem?_cons_zero]; rfl) (by kernel_rfl) (by kernel_rfl) (by kernel_rfl) (fun _ _ _ h => h) (Or.inl ⟨by rfl, ?_⟩) (by assumption) ?_
        rotate_left
        · (intro w hSw; (try dsimp only at hSw); go_simp; try with_reducible rfl)
        try simp only [Act.put, List.setIfInBounds_toArray, List.set_cons_zero, List.set_cons_succ]
        refine wpAnyH_take (i := 2) (v := ?_) (by simp only [List.getElem?_toArray, List.getElem?_cons_succ, List.getElem?_cons_zero]; rfl) (by kernel_rfl) (by kernel_rfl) (by kernel_rfl) (fun _ _ _ h => h) (Or.inl ⟨by rfl, ?_⟩) (by assumption) ?_
        rotate_left
        · (intro w hSw; (try dsimp only at hSw); go_simp; try with_reducible rfl)
        try simp only [Act.put, List.setIfInBounds_toArray, List.set_cons_zero, List.set_cons_succ]
        refine wpAnyH_take (i := 3) (v := ?_) (by simp only [List.getElem?_toArray, List.getElem?_cons_succ, List.getElem?_cons_zero]; rfl) (by kernel_rfl) (by kernel_rfl) (by kernel_rfl) (fun _ _ _ h => h) (Or.inl ⟨by rfl, ?_⟩) (by assumption) ?_
        rotate_left
        · (intro w hSw; (try dsimp only at hSw); go_simp; try with_reducible rfl)
        try simp only [Act.put, List.setIfInBounds_toArray, List.set_cons_zero, List.set_cons_succ]
        refine wpAnyH_take (i := 4) (v := ?_) (by simp only [List.getElem?_toArray, List.getElem?_cons_succ, List.getElem?_cons_zero]; rfl) (by kernel_rfl) (by kernel_rfl) (by kernel_rfl) (fun _ _ _ h => h) (Or.inl ⟨by rfl, ?_⟩) (by assumption) ?_
        rotate_left
        · (intro w hSw; (try dsimp only at hSw); go_simp; try with_reducible rfl)
        try simp only [Act.put, List.setIfInBounds_toArray, List.set_cons_zero, List.set_cons_succ]
        refine wpAnyH_take (i := 5) (v := ?_) (by simp only [List.getElem?_toArray, List.getElem?_cons_succ, List.getElem?_cons_zero]; rfl) (by kernel_rfl) (by kernel_rfl) (by kernel_rfl) (fun _ _ _ h => h) (Or.inl ⟨by rfl, ?_⟩) (by assumption) ?_
        rotate_left
        · (intro w hSw; (try dsimp only at hSw); go_simp; try with_reducible rfl)
        try simp only [Act.put, List.setIfInBounds_toArray, List.set_cons_zero, List.set_cons_succ]
        refine wpAnyH_take (i := 6) (v := ?_) (by simp only [List.getElem?_toArray, List.getElem?_cons_succ, List.getElem?_cons_zero]; rfl) (by kernel_rfl) (by kernel_rfl) (by kernel_rfl) (fun _ _ _ h => h) (Or.inl ⟨by rfl, ?_⟩) (by assumption) ?_
        rotate_left
        · (intro w hSw; (try dsimp only at hSw); go_simp; try with_reducible rfl)
        try simp only [Act.put, List.setIfInBounds_toArray, List.set_cons_zero, List.set_cons_succ]
        refine wpAnyH_take (i := 7) (v := ?_) (by simp only [List.getElem?_toArray, List.getElem?_cons_succ, List.getElem?_cons_zero]; rfl) (by kernel_rfl) (by kernel_rfl) (by kernel_rfl) (fun _ _ _ h => h) (Or.inl ⟨by rfl, ?_⟩) (by assumption) ?_
        rotate_left
        · (intro w hSw; (try dsimp only at hSw); go_simp; try with_reducible rfl)
        try simp only [Act.put, List.setIfInBounds_toArray, List.set_cons_zero, List.set_cons_succ]
        refine wpAnyH_take (i := 8) (v := ?_) (by simp only [List.getElem?_toArray, List.getElem?_cons_succ, List.getElem?_cons_zero]; rfl) (by kernel_rfl) (by kernel_rfl) (by kernel_rfl) (fun _ _ _ h => h) (Or.inl ⟨by rfl, ?_⟩) (by assumption) ?_
        rotate_left
        · (intro w hSw; (try dsimp only at hSw); go_simp; try with_reducible rfl)
        try simp only [Act.put, List.setIfInBounds_toArray, List.set_cons_zero, List.set_cons_succ]
        refine wpAnyH_take (i := 9) (v := ?_) (by simp only [List.getElem?_toArray, List.getElem?_cons_succ, List.getElem?_cons_zero]; rfl) (by kernel_rfl) (by kernel_rfl) (by kernel_rfl) (fun _ _ _ h => h) (Or.inl ⟨by rfl, ?_⟩) (by assumption) ?_
        rotate_left
        · (intro w hSw; (try dsimp only at hSw); go_simp; try with_reducible rfl)
        try simp only [Act.put, List.setIfInBounds_toArray, List.set_cons_zero, List.set_cons_succ]
        refine wpAnyH_take (i := 10) (v := ?_) (by simp only [List.getElem?_toArray, List.getElem?_cons_succ, List.getElem?_cons_zero]; rfl) (by kernel_rfl) (by kernel_rfl) (by kernel_rfl) (fun _ _ _ h => h) (Or.inl ⟨by rfl, ?_⟩) (by assumption) ?_
        rotate_left
        · (intro w hSw; (try dsimp only at hSw); go_simp; try with_reducible rfl)
        try simp only [Act.put, List.setIfInBounds_toArray, List.set_cons_zero, List.set_cons_succ]
        refine wpAnyH_take (i := 11) (v := ?_) (by simp only [List.getElem?_toArray, List.getElem?_cons_succ, List.getElem?_cons_zero]; rfl) (by kernel_rfl) (by kernel_rfl) (by kernel_rfl) (fun _ _ _ h => h) (Or.inl ⟨by rfl, ?_⟩) (by assumption) ?_
        rotate_left
        · (intro w hSw; (try dsimp only at hSw); go_simp; try with_reducible rfl)
        try simp only [Act.put, List.setIfInBounds_toArray, List.set_cons_zero, List.set_cons_succ]
        refine wpAnyH_take (i := 12) (v := ?_) (by simp only [List.getElem?_toArray, List.getElem?_cons_succ, List.getElem?_cons_zero]; rfl) (by kernel_rfl) (by kernel_rfl) (by kernel_rfl) (fun _ _ _ h => h) (Or.inl ⟨by rfl, ?_⟩) (by assumption) ?_
        rotate_left
        · (intro w hSw; (try dsimp only at hSw); go_simp; try with_reducible rfl)
        try simp only [Act.put, List.setIfInBounds_toArray, List.set_cons_zero, List.set_cons_succ]
        refine wpAnyH_take (i := 13) (v := ?_) (by simp only [List.getElem?_toArray, List.getElem?_cons_succ, List.getElem?_cons_zero]; rfl) (by kernel_rfl) (by kernel_rfl) (by kernel_rfl) (fun _ _ _ h => h) (Or.inl ⟨by rfl, ?_⟩) (by assumption) ?_
        rotate_left
        · (intro w hSw; (try dsimp only at hSw); go_simp; try with_reducible rfl)
        try simp only [Act.put, List.setIfInBounds_toArray, List.set_cons_zero, List.set_cons_succ]
        refine wpAnyH_done (by kernel_rfl) ?_ _
        refine NoPanic.normal ?_
        clear hb b0 b1 b2 c1 c2 c3
        obtain ⟨hb, b0, b1, b2, c1, c2, c3⟩ := hHeld
        go_wp2_with (at_builtin; go_loud (refine Row.wpList_app typ rfl _ _ rfl w1.heap.size _ _ rfl (oO.out.alloc _) _ 1 1 [x] rfl (Row.lies_new _ x _) (by have := HK.out; rw [List.length_take]; omega) (balloc hb _).size ?_; intro v9 w9 o9 _ k9))
        replace k9 := (Below.alloc (Below.refl w1.heap.size _) hb.size _).trans k9
        replace b0 := (((k9).cell (p := ⟨g, 0, none⟩) HS.out).trans b0)
        replace b1 := (((k9).cell (p := ⟨g, 1, none⟩) HS.out).trans b1)
        replace b2 := (((k9).cell (p := ⟨g, 2, none⟩) HS.out).trans b2)
        replace c1 := (((k9).cell (p := ⟨b, o + k * 3, none⟩) qb).trans c1)
        replace c2 := (((k9).cell (p := ⟨b, o + k * 3 + 1, none⟩) qb).trans c2)
        replace c3 := (((k9).cell (p := ⟨b, o + k * 3 + 2, none⟩) qb).trans c3)
        replace hb := hb.trans k9
        clear k9
        cases he : (m.p == x.p)
        · have HQ := Lib.hid (HP2.out k (.inr ⟨rfl, fun e => by rw [e] at he; simp at he⟩))
          clear HP2
          have MS := Lib.hid (lL.out.drop k hk)
          have j3 : (c : Int) - (k : Int) ≠ 0 := by have := HK.out; omega
          have j4 : c - k ≠ 0 := by have := HK.out; omega
          have j5 : (k : Int) ≤ (n : Int) := by omega
          go_wp2_with fail
          refine wp_region_noPanic ?_
          refine wp_region_held_drew (S := (fun w' => Below w1.heap.size w1 w' ∧ w'.cell? ⟨g, 0, none⟩ = some (.string ⟨x.p.toArray⟩) ∧ w'.cell? ⟨g, 1, none⟩ = some (.int .u64 (x.n : Int)) ∧ w'.cell? ⟨g, 2, none⟩ = some (.bool x.bad) ∧ w'.cell? ⟨b, o + k * 3, none⟩ = some (.string ⟨m.p.toArray⟩) ∧ w'.cell? ⟨b, o + k * 3 + 1, none⟩ = some (.int .u64 (m.n : Int)) ∧ w'.cell? ⟨b, o + k * 3 + 2, none⟩ = some (.bool m.bad))) (by kernel_rfl) (⟨Below.drew hb, (((Below.drew (Below.refl _ _))).cell (p := ⟨g, 0, none⟩) HS.out).trans b0, (((Below.drew (Below.refl _ _))).cell (p := ⟨g, 1, none⟩) HS.out).trans b1, (((Below.drew (Below.refl _ _))).cell (p := ⟨g, 2, none⟩) HS.out).trans b2, (((Below.drew (Below.refl _ _))).cell (p := ⟨b, o + k * 3, none⟩) qb).trans c1, (((Below.drew (Below.refl _ _))).cell (p := ⟨b, o + k * 3 + 1, none⟩) qb).trans c2, (((Below.drew (Below.refl _ _))).cell (p := ⟨b, o + k * 3 + 2, none⟩) qb).trans c3⟩) (fun hHeld => ?_)
          refine wpAnyH_take (i := 0) (v := ?_) (by simp only [List.getElem?_toArray, List.getElem?_cons_zero]; rfl) (by kernel_rfl) (by kernel_rfl) (by kernel_rfl) (fun _ _ _ h => h) (Or.inl ⟨by rfl, ?_⟩) (by assumption) ?_
          rotate_left
          · (intro w hSw; (try dsimp only at hSw); go_simp; try with_reducible rfl)
          try simp only [Act.put, List.setIfInBounds_toArray, List.set_cons_zero, List.set_cons_succ]
          refine wpAnyH_take (i := 1) (v := ?_) (by simp only [List.getElem?_toArray, List.getElem?_cons_succ, List.getElem?_cons_zero]; rfl) (by kernel_rfl) (by kernel_rfl) (by kernel_rfl) (fun _ _ _ h => h) (Or.inl ⟨by rfl, ?_⟩) (by assumption) ?_
          rotate_left
          · (intro w hSw; (try dsimp only at hSw); go_simp; try with_reducible rfl)
          try simp only [Act.put, List.setIfInBounds_toArray, List.set_cons_zero, List.set_cons_succ]
          refine wpAnyH_take (i := 2) (v := ?_) (by simp only [List.getElem?_toArray, List.getElem?_cons_succ, List.getElem?_cons_zero]; rfl) (by kernel_rfl) (by kernel_rfl) (by kernel_rfl) (fun _ _ _ h => h) (Or.inl ⟨by rfl, ?_⟩) (by assumption) ?_
          rotate_left
          · (intro w hSw; (try dsimp only at hSw); go_simp; try with_reducible rfl)
          try simp only [Act.put, List.setIfInBounds_toArray, List.set_cons_zero, List.set_cons_succ]
          refine wpAnyH_take (i := 3) (v := ?_) (by simp only [List.getElem?_toArray, List.getElem?_cons_succ, List.getElem?_cons_zero]; rfl) (by kernel_rfl) (by kernel_rfl) (by kernel_rfl) (fun _ _ _ h => h) (Or.inl ⟨by rfl, ?_⟩) (by assumption) ?_
          rotate_left
          · (intro w hSw; (try dsimp only at hSw); go_simp; try with_reducible rfl)
          try simp only [Act.put, List.setIfInBounds_toArray, List.set_cons_zero, List.set_cons_succ]
          refine wpAnyH_take (i := 4) (v := ?_) (by simp only [List.getElem?_toArray, List.getElem?_cons_succ, List.getElem?_cons_zero]; rfl) (by kernel_rfl) (by kernel_rfl) (by kernel_rfl) (fun _ _ _ h => h) (Or.inl ⟨by rfl, ?_⟩) (by assumption) ?_
          rotate_left
          · (intro w hSw; (try dsimp only at hSw); go_simp; try with_reducible rfl)
          try simp only [Act.put, List.setIfInBounds_toArray, List.set_cons_zero, List.set_cons_succ]
          refine wpAnyH_take (i := 5) (v := ?_) (by simp only [List.getElem?_toArray, List.getElem?_cons_succ, List.getElem?_cons_zero]; rfl) (by kernel_rfl) (by kernel_rfl) (by kernel_rfl) (fun _ _ _ h => h) (Or.inl ⟨by rfl, ?_⟩) (by assumption) ?_
          rotate_left
          · (intro w hSw; (try dsimp only at hSw); go_simp; try with_reducible rfl)
          try simp only [Act.put, List.setIfInBounds_toArray, List.set_cons_zero, List.set_cons_succ]
          refine wpAnyH_take (i := 6) (v := ?_) (by simp only [List.getElem?_toArray, List.getElem?_cons_succ, List.getElem?_cons_zero]; rfl) (by kernel_rfl) (by kernel_rfl) (by kernel_rfl) (fun _ _ _ h => h) (Or.inl ⟨by rfl, ?_⟩) (by assumption) ?_
          rotate_left
          · (intro w hSw; (try dsimp only at hSw); go_simp; try with_reducible rfl)
          try simp only [Act.put, List.setIfInBounds_toArray, List.set_cons_zero, List.set_cons_succ]
          refine wpAnyH_take (i := 7) (v := ?_) (by simp only [List.getElem?_toArray, List.getElem?_cons_succ, List.getElem?_cons_zero]; rfl) (by kernel_rfl) (by kernel_rfl) (by kernel_rfl) (fun _ _ _ h => h) (Or.inl ⟨by rfl, ?_⟩) (by assumption) ?_
          rotate_left
          · (intro w hSw; (try dsimp only at hSw); go_simp; try with_reducible rfl)
          try simp only [Act.put, List.setIfInBounds_toArray, List.set_cons_zero, List.set_cons_succ]
          refine wpAnyH_take (i := 8) (v := ?_) (by simp only [List.getElem?_toArray, List.getElem?_cons_succ, List.getElem?_cons_zero]; rfl) (by kernel_rfl) (by kernel_rfl) (by kernel_rfl) (fun _ _ _ h => h) (Or.inl ⟨by rfl, ?_⟩) (by assumption) ?_
          rotate_left
          · (intro w hSw; (try dsimp only at hSw); go_simp; try with_reducible rfl)
          try simp only [Act.put, List.setIfInBounds_toArray, List.set_cons_zero, List.set_cons_succ]
          refine wpAnyH_take (i := 9) (v := ?_) (by simp only [List.getElem?_toArray, List.getElem?_cons_succ, List.getElem?_cons_zero]; rfl) (by kernel_rfl) (by kernel_rfl) (by kernel_rfl) (fun _ _ _ h => h) (Or.inl ⟨by rfl, ?_⟩) (by assumption) ?_
          rotate_left
          · (intro w hSw; (try dsimp only at hSw); go_simp; try with_reducible rfl)
          try simp only [Act.put, List.setIfInBounds_toArray, List.set_cons_zero, List.set_cons_succ]
          refine wpAnyH_take (i := 10) (v := ?_) (by simp only [List.getElem?_toArray, List.getElem?_cons_succ, List.getElem?_cons_zero]; rfl) (by kernel_rfl) (by kernel_rfl) (by kernel_rfl) (fun _ _ _ h => h) (Or.inl ⟨by rfl, ?_⟩) (by assumption) ?_
          rotate_left
          · (intro w hSw; (try dsimp only at hSw); go_simp; try with_reducible rfl)
          try simp only [Act.put, List.setIfInBounds_toArray, List.set_cons_zero, List.set_cons_succ]
          refine wpAnyH_take (i := 11) (v := ?_) (by simp only [List.getElem?_toArray, List.getElem?_cons_succ, List.getElem?_cons_zero]; rfl) (by kernel_rfl) (by kernel_rfl) (by kernel_rfl) (fun _ _ _ h => h) (Or.inl ⟨by rfl, ?_⟩) (by assumption) ?_
          rotate_left
          · (intro w hSw; (try dsimp only at hSw); go_simp; try with_reducible rfl)
          try simp only [Act.put, List.setIfInBounds_toArray, List.set_cons_zero, List.set_cons_succ]
          refine wpAnyH_take (i := 12) (v := ?_) (by simp only [List.getElem?_toArray, List.getElem?_cons_succ, List.getElem?_cons_zero]; rfl) (by kernel_rfl) (by kernel_rfl) (by kernel_rfl) (fun _ _ _ h => h) (Or.inl ⟨by rfl, ?_⟩) (by assumption) ?_
          rotate_left
          · (intro w hSw; (try dsimp only at hSw); go_simp; try with_reducible rfl)
          try simp only [Act.put, List.setIfInBounds_toArray, List.set_cons_zero, List.set_cons_succ]
          refine wpAnyH_take (i := 13) (v := ?_) (by simp only [List.getElem?_toArray, List.getElem?_cons_succ, List.getElem?_cons_zero]; rfl) (by kernel_rfl) (by kernel_rfl) (by kernel_rfl) (fun _ _ _ h => h) (Or.inl ⟨by rfl, ?_⟩) (by assumption) ?_
          rotate_left
          · (intro w hSw; (try dsimp only at hSw); go_simp; try with_reducible rfl)
          try simp only [Act.put, List.setIfInBounds_toArray, List.set_cons_zero, List.set_cons_succ]
          refine wpAnyH_done (by kernel_rfl) ?_ _
          refine NoPanic.normal ?_
          clear hb b0 b1 b2 c1 c2 c3
          obtain ⟨hb, b0, b1, b2, c1, c2, c3⟩ := hHeld
          go_wp2_with (at_builtin; go_loud (refine Row.wpList_app typ rfl _ _ rfl w1.heap.size _ _ rfl (o9.drew) (some ⟨b, o + k * 3, none⟩) (n - k) (c - k) (L.drop k) rfl (MS.out.below hb) (by have := HK.out; simp only [List.length_append, List.length_take, List.length_singleton]; omega) hb.size ?_; intro v7 w7 o7 _ k7))
          go_ret
          exact ⟨_, rfl, by rw [← HQ.out]; have h := Row.Own.base o7 (show w.heap.size ≤ w1.heap.size by have := HB0.out.size; have := HG.out; have := HS.out; omega); rw [List.append_assoc] at h; exact h, by have h := HB0.out; rw [HG.out] at h; exact h.trans ((hb.trans k7).mono (by have := HS.out; have := HG.out; omega))⟩
        · have HQ := Lib.hid (HP2.out (k + 1) (.inl ⟨rfl, by simpa using he⟩))
          clear HP2
          have MS := Lib.hid (lL.out.drop (k + 1) (by have := HK.out; omega))
          have j5 : (k : Int) + 1 ≤ (n : Int) := by omega
          by_cases hck : c = k + 1
          · obtain rfl : c = k + 1 := hck
            have MS : Hid (Lies w1 (some ⟨b, o, none⟩) (n - (k + 1)) (L.drop (k + 1))) := Lib.hid (MS.out.else (by have := HK.out; omega) _)
            go_wp2_with fail
            refine wp_region_noPanic ?_
            refine wp_region_held_drew (S := (fun w' => Below w1.heap.size w1 w' ∧ w'.cell? ⟨g, 0, none⟩ = some (.string ⟨x.p.toArray⟩) ∧ w'.cell? ⟨g, 1, none⟩ = some (.int .u64 (x.n : Int)) ∧ w'.cell? ⟨g, 2, none⟩ = some (.bool x.bad) ∧ w'.cell? ⟨b, o + k * 3, none⟩ = some (.string ⟨m.p.toArray⟩) ∧ w'.cell? ⟨b, o + k * 3 + 1, none⟩ = some (.int .u64 (m.n : Int)) ∧ w'.cell? ⟨b, o + k * 3 + 2, none⟩ = some (.bool m.bad))) (by kernel_rfl) (⟨Below.drew hb, (((Below.drew (Below.refl _ _))).cell (p := ⟨g, 0, none⟩) HS.out).trans b0, (((Below.drew (Below.refl _ _))).cell (p := ⟨g, 1, none⟩) HS.out).trans b1, (((Below.drew (Below.refl _ _))).cell (p := ⟨g, 2, none⟩) HS.out).trans b2, (((Below.drew (Below.refl _ _))).cell (p := ⟨b, o + k * 3, none⟩) qb).trans c1, (((Below.drew (Below.refl _ _))).cell (p := ⟨b, o + k * 3 + 1, none⟩) qb).trans c2, (((Below.drew (Below.refl _ _))).cell (p := ⟨b, o + k * 3 + 2, none⟩) qb).trans c3⟩) (fun hHeld => ?_)
            refine wpAnyH_take (i := 0) (v := ?_) (by simp only [List.getElem?_toArray, List.getElem?_cons_zero]; rfl) (by kernel_rfl) (by kernel_rfl) (by kernel_rfl) (fun _ _ _ h => h) (Or.inl ⟨by rfl, ?_⟩) (by assumption) ?_
            rotate_left
            · (intro w hSw; (try dsimp only at hSw); go_simp; try with_reducible rfl)
            try simp only [Act.put, List.setIfInBounds_toArray, List.set_cons_zero, List.set_cons_succ]
            refine wpAnyH_take (i := 1) (v := ?_) (by simp only [List.getElem?_toArray, List.getElem?_cons_succ, List.getElem?_cons_zero]; rfl) (by kernel_rfl) (by kernel_rfl) (by kernel_rfl) (fun _ _ _ h => h) (Or.inl ⟨by rfl, ?_⟩) (by assumption) ?_
            rotate_left
            · (intro w hSw; (try dsimp only at hSw); go_simp; try with_reducible rfl)
            try simp only [Act.put, List.setIfInBounds_toArray, List.set_cons_zero, List.set_cons_succ]
            refine wpAnyH_take (i := 2) (v := ?_) (by simp only [List.getElem?_toArray, List.getElem?_cons_succ, List.getElem?_cons_zero]; rfl) (by kernel_rfl) (by kernel_rfl) (by kernel_rfl) (fun _ _ _ h => h) (Or.inl ⟨by rfl, ?_⟩) (by assumption) ?_
            rotate_left
            · (intro w hSw; (try dsimp only at hSw); go_simp; try with_reducible rfl)
            try simp only [Act.put, List.setIfInBounds_toArray, List.set_cons_zero, List.set_cons_succ]
            refine wpAnyH_take (i := 3) (v := ?_) (by simp only [List.getElem?_toArray, List.getElem?_cons_succ, List.getElem?_cons_zero]; rfl) (by kernel_rfl) (by kernel_rfl) (by kernel_rfl) (fun _ _ _ h => h) (Or.inl ⟨by rfl, ?_⟩) (by assumption) ?_
            rotate_left
            · (intro w hSw; (try dsimp only at hSw); go_simp; try with_reducible rfl)
            try simp only [Act.put, List.setIfInBounds_toArray, List.set_cons_zero, List.set_cons_succ]
            refine wpAnyH_take (i := 4) (v := ?_) (by simp only [List.getElem?_toArray, List.getElem?_cons_succ, List.getElem?_cons_zero]; rfl) (by kernel_rfl) (by kernel_rfl) (by kernel_rfl) (fun _ _ _ h => h) (Or.inl ⟨by rfl, ?_⟩) (by assumption) ?_
            rotate_left
            · (intro w hSw; (try dsimp only at hSw); go_simp; try with_reducible rfl)
            try simp only [Act.put, List.setIfInBounds_toArray, List.set_cons_zero, List.set_cons_succ]
            refine wpAnyH_take (i := 5) (v := ?_) (by simp only [List.getElem?_toArray, List.getElem?_cons_succ, List.getElem?_cons_zero]; rfl) (by kernel_rfl) (by kernel_rfl) (by kernel_rfl) (fun _ _ _ h => h) (Or.inl ⟨by rfl, ?_⟩) (by assumption) ?_
            rotate_left
            · (intro w hSw; (try dsimp only at hSw); go_simp; try with_reducible rfl)
            try simp only [Act.put, List.setIfInBounds_toArray, List.set_cons_zero, List.set_cons_succ]
            refine wpAnyH_take (i := 6) (v := ?_) (by simp only [List.getElem?_toArray, List.getElem?_cons_succ, List.getElem?_cons_zero]; rfl) (by kernel_rfl) (by kernel_rfl) (by kernel_rfl) (fun _ _ _ h => h) (Or.inl ⟨by rfl, ?_⟩) (by assumption) ?_
            rotate_left
            · (intro w hSw; (try dsimp only at hSw); go_simp; try with_reducible rfl)
            try simp only [Act.put, List.setIfInBounds_toArray, List.set_cons_zero, List.set_cons_succ]
            refine wpAnyH_take (i := 7) (v := ?_) (by simp only [List.getElem?_toArray, List.getElem?_cons_succ, List.getElem?_cons_zero]; rfl) (by kernel_rfl) (by kernel_rfl) (by kernel_rfl) (fun _ _ _ h => h) (Or.inl ⟨by rfl, ?_⟩) (by assumption) ?_
            rotate_left
            · (intro w hSw; (try dsimp only at hSw); go_simp; try with_reducible rfl)
            try simp only [Act.put, List.setIfInBounds_toArray, List.set_cons_zero, List.set_cons_succ]
            refine wpAnyH_take (i := 8) (v := ?_) (by simp only [List.getElem?_toArray, List.getElem?_cons_succ, List.getElem?_cons_zero]; rfl) (by kernel_rfl) (by kernel_rfl) (by kernel_rfl) (fun _ _ _ h => h) (Or.inl ⟨by rfl, ?_⟩) (by assumption) ?_
            rotate_left
            · (intro w hSw; (try dsimp only at hSw); go_simp; try with_reducible rfl)
            try simp only [Act.put, List.setIfInBounds_toArray, List.set_cons_zero, List.set_cons_succ]
            refine wpAnyH_take (i := 9) (v := ?_) (by simp only [List.getElem?_toArray, List.getElem?_cons_succ, List.getElem?_cons_zero]; rfl) (by kernel_rfl) (by kernel_rfl) (by kernel_rfl) (fun _ _ _ h => h) (Or.inl ⟨by rfl, ?_⟩) (by assumption) ?_
            rotate_left
            · (intro w hSw; (try dsimp only at hSw); go_simp; try with_reducible rfl)
            try simp only [Act.put, List.setIfInBounds_toArray, List.set_cons_zero, List.set_cons_succ]
            refine wpAnyH_take (i := 10) (v := ?_) (by simp only [List.getElem?_toArray, List.getElem?_cons_succ, List.getElem?_cons_zero]; rfl) (by kernel_rfl) (by kernel_rfl) (by kernel_rfl) (fun _ _ _ h => h) (Or.inl ⟨by rfl, ?_⟩) (by assumption) ?_
            rotate_left
            · (intro w hSw; (try dsimp only at hSw); go_simp; try with_reducible rfl)
            try simp only [Act.put, List.setIfInBounds_toArray, List.set_cons_zero, List.set_cons_succ]
            refine wpAnyH_take (i := 11) (v := ?_) (by simp only [List.getElem?_toArray, List.getElem?_cons_succ, List.getElem?_cons_zero]; rfl) (by kernel_rfl) (by kernel_rfl) (by kernel_rfl) (fun _ _ _ h => h) (Or.inl ⟨by rfl, ?_⟩) (by assumption) ?_
            rotate_left
            · (intro w hSw; (try dsimp only at hSw); go_simp; try with_reducible rfl)
            try simp only [Act.put, List.setIfInBounds_toArray, List.set_cons_zero, List.set_cons_succ]
            refine wpAnyH_take (i := 12) (v := ?_) (by simp only [List.getElem?_toArray, List.getElem?_cons_succ, List.getElem?_cons_zero]; rfl) (by kernel_rfl) (by kernel_rfl) (by kernel_rfl) (fun _ _ _ h => h) (Or.inl ⟨by rfl, ?_⟩) (by assumption) ?_
            rotate_left
            · (intro w hSw; (try dsimp only at hSw); go_simp; try with_reducible rfl)
            try simp only [Act.put, List.setIfInBounds_toArray, List.set_cons_zero, List.set_cons_succ]
            refine wpAnyH_take (i := 13) (v := ?_) (by simp only [List.getElem?_toArray, List.getElem?_cons_succ, List.getElem?_cons_zero]; rfl) (by kernel_rfl) (by kernel_rfl) (by kernel_rfl) (fun _ _ _ h => h) (Or.inl ⟨by rfl, ?_⟩) (by assumption) ?_
            rotate_left
            · (intro w hSw; (try dsimp only at hSw); go_simp; try with_reducible rfl)
            try simp only [Act.put, List.setIfInBounds_toArray, List.set_cons_zero, List.set_cons_succ]
            refine wpAnyH_done (by kernel_rfl) ?_ _
            refine NoPanic.normal ?_
            clear hb b0 b1 b2 c1 c2 c3
            obtain ⟨hb, b0, b1, b2, c1, c2, c3⟩ := hHeld
            go_wp2_with (at_builtin; go_loud (refine Row.wpList_app typ rfl _ _ rfl w1.heap.size _ _ rfl (o9.drew) (some ⟨b, o, none⟩) (0) (_) (L.drop (k + 1)) rfl (⟨by rw [List.length_drop]; have := HN.out; have := HK.out; omega, fun h => absurd h (by omega)⟩) (by have := HK.out; simp only [List.length_append, List.length_take, List.length_singleton]; omega) hb.size ?_; intro v7 w7 o7 _ k7))
            go_ret
            exact ⟨_, rfl, by rw [← HQ.out]; have h := Row.Own.base o7 (show w.heap.size ≤ w1.heap.size by have := HB0.out.size; have := HG.out; have := HS.out; omega); rw [List.append_assoc] at h; exact h, by have h := HB0.out; rw [HG.out] at h; exact h.trans ((hb.trans k7).mono (by have := HS.out; have := HG.out; omega))⟩
          · have j3 : (c : Int) - ((k : Int) + 1) ≠ 0 := by have := HK.out; omega
            have j4 : c - (k + 1) ≠ 0 := by have := HK.out; omega
            go_wp2_with fail
            refine wp_region_noPanic ?_
            refine wp_region_held_drew (S := (fun w' => Below w1.heap.size w1 w' ∧ w'.cell? ⟨g, 0, none⟩ = some (.string ⟨x.p.toArray⟩) ∧ w'.cell? ⟨g, 1, none⟩ = some (.int .u64 (x.n : Int)) ∧ w'.cell? ⟨g, 2, none⟩ = some (.bool x.bad) ∧ w'.cell? ⟨b, o + k * 3, none⟩ = some (.string ⟨m.p.toArray⟩) ∧ w'.cell? ⟨b, o + k * 3 + 1, none⟩ = some (.int .u64 (m.n : Int)) ∧ w'.cell? ⟨b, o + k * 3 + 2, none⟩ = some (.bool m.bad))) (by kernel_rfl) (⟨Below.drew hb, (((Below.drew (Below.refl _ _))).cell (p := ⟨g, 0, none⟩) HS.out).trans b0, (((Below.drew (Below.refl _ _))).cell (p := ⟨g, 1, none⟩) HS.out).trans b1, (((Below.drew (Below.refl _ _))).cell (p := ⟨g, 2, none⟩) HS.out).trans b2, (((Below.drew (Below.refl _ _))).cell (p := ⟨b, o + k * 3, none⟩) qb).trans c1, (((Below.drew (Below.refl _ _))).cell (p := ⟨b, o + k * 3 + 1, none⟩) qb).trans c2, (((Below.drew (Below.refl _ _))).cell (p := ⟨b, o + k * 3 + 2, none⟩) qb).trans c3⟩) (fun hHeld => ?_)
            refine wpAnyH_take (i := 0) (v := ?_) (by simp only [List.getElem?_toArray, List.getElem?_cons_zero]; rfl) (by kernel_rfl) (by kernel_rfl) (by kernel_rfl) (fun _ _ _ h => h) (Or.inl ⟨by rfl, ?_⟩) (by assumption) ?_
            rotate_left
            · (intro w hSw; (try dsimp only at hSw); go_simp; try with_reducible rfl)
            try simp only [Act.put, List.setIfInBounds_toArray, List.set_cons_zero, List.set_cons_succ]
            refine wpAnyH_take (i := 1) (v := ?_) (by simp only [List.getElem?_toArray, List.getElem?_cons_succ, List.getElem?_cons_zero]; rfl) (by kernel_rfl) (by kernel_rfl) (by kernel_rfl) (fun _ _ _ h => h) (Or.inl ⟨by rfl, ?_⟩) (by assumption) ?_
            rotate_left
            · (intro w hSw; (try dsimp only at hSw); go_simp; try with_reducible rfl)
            try simp only [Act.put, List.setIfInBounds_toArray, List.set_cons_zero, List.set_cons_succ]
            refine wpAnyH_take (i := 2) (v := ?_) (by simp only [List.getElem?_toArray, List.getElem?_cons_succ, List.getElem?_cons_zero]; rfl) (by kernel_rfl) (by kernel_rfl) (by kernel_rfl) (fun _ _ _ h => h) (Or.inl ⟨by rfl, ?_⟩) (by assumption) ?_
            rotate_left
            · (intro w hSw; (try dsimp only at hSw); go_simp; try with_reducible rfl)
            try simp only [Act.put, List.setIfInBounds_toArray, List.set_cons_zero, List.set_cons_succ]
            refine wpAnyH_take (i := 3) (v := ?_) (by simp only [List.getElem?_toArray, List.getElem?_cons_succ, List.getElem?_cons_zero]; rfl) (by kernel_rfl) (by kernel_rfl) (by kernel_rfl) (fun _ _ _ h => h) (Or.inl ⟨by rfl, ?_⟩) (by assumption) ?_
            rotate_left
            · (intro w hSw; (try dsimp only at hSw); go_simp; try with_reducible rfl)
            try simp only [Act.put, List.setIfInBounds_toArray, List.set_cons_zero, List.set_cons_succ]
            refine wpAnyH_take (i := 4) (v := ?_) (by simp only [List.getElem?_toArray, List.getElem?_cons_succ, List.getElem?_cons_zero]; rfl) (by kernel_rfl) (by kernel_rfl) (by kernel_rfl) (fun _ _ _ h => h) (Or.inl ⟨by rfl, ?_⟩) (by assumption) ?_
            rotate_left
            · (intro w hSw; (try dsimp only at hSw); go_simp; try with_reducible rfl)
            try simp only [Act.put, List.setIfInBounds_toArray, List.set_cons_zero, List.set_cons_succ]
            refine wpAnyH_take (i := 5) (v := ?_) (by simp only [List.getElem?_toArray, List.getElem?_cons_succ, List.getElem?_cons_zero]; rfl) (by kernel_rfl) (by kernel_rfl) (by kernel_rfl) (fun _ _ _ h => h) (Or.inl ⟨by rfl, ?_⟩) (by assumption) ?_
            rotate_left
            · (intro w hSw; (try dsimp only at hSw); go_simp; try with_reducible rfl)
            try simp only [Act.put, List.setIfInBounds_toArray, List.set_cons_zero, List.set_cons_succ]
            refine wpAnyH_take (i := 6) (v := ?_) (by simp only [List.getElem?_toArray, List.getElem?_cons_succ, List.getElem?_cons_zero]; rfl) (by kernel_rfl) (by kernel_rfl) (by kernel_rfl) (fun _ _ _ h => h) (Or.inl ⟨by rfl, ?_⟩) (by assumption) ?_
            rotate_left
            · (intro w hSw; (try dsimp only at hSw); go_simp; try with_reducible rfl)
            try simp only [Act.put, List.setIfInBounds_toArray, List.set_cons_zero, List.set_cons_succ]
            refine wpAnyH_take (i := 7) (v := ?_) (by simp only [List.getElem?_toArray, List.getElem?_cons_succ, List.getElem?_cons_zero]; rfl) (by kernel_rfl) (by kernel_rfl) (by kernel_rfl) (fun _ _ _ h => h) (Or.inl ⟨by rfl, ?_⟩) (by assumption) ?_
            rotate_left
            · (intro w hSw; (try dsimp only at hSw); go_simp; try with_reducible rfl)
            try simp only [Act.put, List.setIfInBounds_toArray, List.set_cons_zero, List.set_cons_succ]
            refine wpAnyH_take (i := 8) (v := ?_) (by simp only [List.getElem?_toArray, List.getElem?_cons_succ, List.getElem?_cons_zero]; rfl) (by kernel_rfl) (by kernel_rfl) (by kernel_rfl) (fun _ _ _ h => h) (Or.inl ⟨by rfl, ?_⟩) (by assumption) ?_
            rotate_left
            · (intro w hSw; (try dsimp only at hSw); go_simp; try with_reducible rfl)
            try simp only [Act.put, List.setIfInBounds_toArray, List.set_cons_zero, List.set_cons_succ]
            refine wpAnyH_take (i := 9) (v := ?_) (by simp only [List.getElem?_toArray, List.getElem?_cons_succ, List.getElem?_cons_zero]; rfl) (by kernel_rfl) (by kernel_rfl) (by kernel_rfl) (fun _ _ _ h => h) (Or.inl ⟨by rfl, ?_⟩) (by assumption) ?_
            rotate_left
            · (intro w hSw; (try dsimp only at hSw); go_simp; try with_reducible rfl)
            try simp only [Act.put, List.setIfInBounds_toArray, List.set_cons_zero, List.set_cons_succ]
            refine wpAnyH_take (i := 10) (v := ?_) (by simp only [List.getElem?_toArray, List.getElem?_cons_succ, List.getElem?_cons_zero]; rfl) (by kernel_rfl) (by kernel_rfl) (by kernel_rfl) (fun _ _ _ h => h) (Or.inl ⟨by rfl, ?_⟩) (by assumption) ?_
            rotate_left
            · (intro w hSw; (try dsimp only at hSw); go_simp; try with_reducible rfl)
            try simp only [Act.put, List.setIfInBounds_toArray, List.set_cons_zero, List.set_cons_succ]
            refine wpAnyH_take (i := 11) (v := ?_) (by simp only [List.getElem?_toArray, List.getElem?_cons_succ, List.getElem?_cons_zero]; rfl) (by kernel_rfl) (by kernel_rfl) (by kernel_rfl) (fun _ _ _ h => h) (Or.inl ⟨by rfl, ?_⟩) (by assumption) ?_
            rotate_left
            · (intro w hSw; (try dsimp only at hSw); go_simp; try with_reducible rfl)
            try simp only [Act.put, List.setIfInBounds_toArray, List.set_cons_zero, List.set_cons_succ]
            refine wpAnyH_take (i := 12) (v := ?_) (by simp only [List.getElem?_toArray, List.getElem?_cons_succ, List.getElem?_cons_zero]; rfl) (by kernel_rfl) (by kernel_rfl) (by kernel_rfl) (fun _ _ _ h => h) (Or.inl ⟨by rfl, ?_⟩) (by assumption) ?_
            rotate_left
            · (intro w hSw; (try dsimp only at hSw); go_simp; try with_reducible rfl)
            try simp only [Act.put, List.setIfInBounds_toArray, List.set_cons_zero, List.set_cons_succ]
            refine wpAnyH_take (i := 13) (v := ?_) (by simp only [List.getElem?_toArray, List.getElem?_cons_succ, List.getElem?_cons_zero]; rfl) (by kernel_rfl) (by kernel_rfl) (by kernel_rfl) (fun _ _ _ h => h) (Or.inl ⟨by rfl, ?_⟩) (by assumption) ?_
            rotate_left
            · (intro w hSw; (try dsimp only at hSw); go_simp; try with_reducible rfl)
            try simp only [Act.put, List.setIfInBounds_toArray, List.set_cons_zero, List.set_cons_succ]
            refine wpAnyH_done (by kernel_rfl) ?_ _
            refine NoPanic.normal ?_
            clear hb b0 b1 b2 c1 c2 c3
            obtain ⟨hb, b0, b1, b2, c1, c2, c3⟩ := hHeld
            go_wp2_with (at_builtin; go_loud (refine Row.wpList_app typ rfl _ _ rfl w1.heap.size _ _ rfl (o9.drew) (some ⟨b, o + (k + 1) * 3, none⟩) (n - (k + 1)) (c - (k + 1)) (L.drop (k + 1)) rfl (MS.out.below hb) (by have := HK.out; simp only [List.length_append, List.length_take, List.length_singleton]; omega) hb.size ?_; intro v7 w7 o7 _ k7))
            go_ret
            exact ⟨_, rfl, by rw [← HQ.out]; have h := Row.Own.base o7 (show w.heap.size ≤ w1.heap.size by have := HB0.out.size; have := HG.out; have := HS.out; omega); rw [List.append_assoc] at h; exact h, by have h := HB0.out; rw [HG.out] at h; exact h.trans ((hb.trans k7).mono (by have := HS.out; have := HG.out; omega))⟩
    · obtain rfl : k = n := by omega
      have HQ : Hid (L.take k ++ ([x] ++ []) = putL L x) := Lib.hid (by have h := put_at L x k (by have := HN.out; omega) HA.out (fun hj => absurd hj (by have := HN.out; omega)) k (.inr ⟨rfl, fun hj => absurd hj (by have := HN.out; omega)⟩); rw [List.drop_eq_nil_of_le (by have := HN.out; omega)] at h; exact h)
      have HK := Lib.hid hn
      have d1 : decide ((k : Int) < (k : Int)) = false := decide_eq_false (by omega)
      go_wp2_with fail
      refine wp_region_noPanic ?_
      refine wp_region_held_drew (S := (fun w' => Below w1.heap.size w1 w' ∧ w'.cell? ⟨g, 0, none⟩ = some (.string ⟨x.p.toArray⟩) ∧ w'.cell? ⟨g, 1, none⟩ = some (.int .u64 (x.n : Int)) ∧ w'.cell? ⟨g, 2, none⟩ = some (.bool x.bad))) (by kernel_rfl) (⟨Below.drew hb, (((Below.drew (Below.refl _ _))).cell (p := ⟨g, 0, none⟩) HS.out).trans b0, (((Below.drew (Below.refl _ _))).cell (p := ⟨g, 1, none⟩) HS.out).trans b1, (((Below.drew (Below.refl _ _))).cell (p := ⟨g, 2, none⟩) HS.out).trans b2⟩) (fun hHeld => ?_)
      refine wpAnyH_take (i := 0) (v := ?_) (by simp only [List.getElem?_toArray, List.getElem?_cons_zero]; rfl) (by kernel_rfl) (by kernel_rfl) (by kernel_rfl) (fun _ _ _ h => h) (Or.inl ⟨by rfl, ?_⟩) (by assumption) ?_
      rotate_left
      · (intro w hSw; (try dsimp only at hSw); go_simp; try with_reducible rfl)
      try simp only [Act.put, List.setIfInBounds_toArray, List.set_cons_zero, List.set_cons_succ]
      refine wpAnyH_take (i := 1) (v := ?_) (by simp only [List.getElem?_toArray, List.getElem?_cons_succ, List.getElem?_cons_zero]; rfl) (by kernel_rfl) (by kernel_rfl) (by kernel_rfl) (fun _ _ _ h => h) (Or.inl ⟨by rfl, ?_⟩) (by assumption) ?_
      rotate_left
      · (intro w hSw; (try dsimp only at hSw); go_simp; try with_reducible rfl)
      try simp only [Act.put, List.setIfInBounds_toArray, List.set_cons_zero, List.set_cons_succ]
      refine wpAnyH_take (i := 2) (v := ?_) (by simp only [List.getElem?_toArray, List.getElem?_cons_succ, List.getElem?_cons_zero]; rfl) (by kernel_rfl) (by kernel_rfl) (by kernel_rfl) (fun _ _ _ h => h) (Or.inl ⟨by rfl, ?_⟩) (by assumption) ?_
      rotate_left
      · (intro w hSw; (try dsimp only at hSw); go_simp; try with_reducible rfl)
      try simp only [Act.put, List.setIfInBounds_toArray, List.set_cons_zero, List.set_cons_succ]
      refine wpAnyH_take (i := 3) (v := ?_) (by simp only [List.getElem?_toArray, List.getElem?_cons_succ, List.getElem?_cons_zero]; rfl) (by kernel_rfl) (by kernel_rfl) (by kernel_rfl) (fun _ _ _ h => h) (Or.inl ⟨by rfl, ?_⟩) (by assumption) ?_
      rotate_left
      · (intro w hSw; (try dsimp only at hSw); go_simp; try with_reducible rfl)
      try simp only [Act.put, List.setIfInBounds_toArray, List.set_cons_zero, List.set_cons_succ]
      refine wpAnyH_take (i := 4) (v := ?_) (by simp only [List.getElem?_toArray, List.getElem?_cons_succ, List.getElem?_cons_zero]; rfl) (by kernel_rfl) (by kernel_rfl) (by kernel_rfl) (fun _ _ _ h => h) (Or.inl ⟨by rfl, ?_⟩) (by assumption) ?_
      rotate_left
      · (intro w hSw; (try dsimp only at hSw); go_simp; try with_reducible rfl)
      try simp only [Act.put, List.setIfInBounds_toArray, List.set_cons_zero, List.set_cons_succ]
      refine wpAnyH_take (i := 5) (v := undef) (by simp only [List.getElem?_toArray, List.getElem?_cons_succ, List.getElem?_cons_zero]; rfl) (by kernel_rfl) (by kernel_rfl) (by kernel_rfl) (fun _ _ _ h => h) (Or.inr ⟨by rfl, rfl⟩) (by assumption) ?_
      try simp only [Act.put, List.setIfInBounds_toArray, List.set_cons_zero, List.set_cons_succ]
      refine wpAnyH_take (i := 6) (v := undef) (by simp only [List.getElem?_toArray, List.getElem?_cons_succ, List.getElem?_cons_zero]; rfl) (by kernel_rfl) (by kernel_rfl) (by kernel_rfl) (fun _ _ _ h => h) (Or.inr ⟨by rfl, rfl⟩) (by assumption) ?_
      try simp only [Act.put, List.setIfInBounds_toArray, List.set_cons_zero, List.set_cons_succ]
      refine wpAnyH_take (i := 7) (v := undef) (by simp only [List.getElem?_toArray, List.getElem?_cons_succ, List.getElem?_cons_zero]; rfl) (by kernel_rfl) (by kernel_rfl) (by kernel_rfl) (fun _ _ _ h => h) (Or.inr ⟨by rfl, rfl⟩) (by assumption) ?_
      try simp only [Act.put, List.setIfInBounds_toArray, List.set_cons_zero, List.set_cons_succ]
      refine wpAnyH_take (i := 8) (v := undef) (by simp only [List.getElem?_toArray, List.getElem?_cons_succ, List.getElem?_cons_zero]; rfl) (by kernel_rfl) (by kernel_rfl) (by kernel_rfl) (fun _ _ _ h => h) (Or.inr ⟨by rfl, rfl⟩) (by assumption) ?_
      try simp only [Act.put, List.setIfInBounds_toArray, List.set_cons_zero, List.set_cons_succ]
      refine wpAnyH_take (i := 9) (v := undef) (by simp only [List.getElem?_toArray, List.getElem?_cons_succ, List.getElem?_cons_zero]; rfl) (by kernel_rfl) (by kernel_rfl) (by kernel_rfl) (fun _ _ _ h => h) (Or.inr ⟨by rfl, rfl⟩) (by assumption) ?_
      try simp only [Act.put, List.setIfInBounds_toArray, List.set_cons_zero, List.set_cons_succ]
      refine wpAnyH_take (i := 10) (v := undef) (by simp only [List.getElem?_toArray, List.getElem?_cons_succ, List.getElem?_cons_zero]; rfl) (by kernel_rfl) (by kernel_rfl) (by kernel_rfl) (fun _ _ _ h => h) (Or.inr ⟨by rfl, rfl⟩) (by assumption) ?_
      try simp only [Act.put, List.setIfInBounds_toArray, List.set_cons_zero, List.set_cons_succ]
      refine wpAnyH_take (i := 11) (v := undef) (by simp only [List.getElem?_toArray, List.getElem?_cons_succ, List.getElem?_cons_zero]; rfl) (by kernel_rfl) (by kernel_rfl) (by kernel_rfl) (fun _ _ _ h => h) (Or.inr ⟨by rfl, rfl⟩) (by assumption) ?_
      try simp only [Act.put, List.setIfInBounds_toArray, List.set_cons_zero, List.set_cons_succ]
      refine wpAnyH_take (i := 12) (v := undef) (by simp only [List.getElem?_toArray, List.getElem?_cons_succ, List.getElem?_cons_zero]; rfl) (by kernel_rfl) (by kernel_rfl) (by kernel_rfl) (fun _ _ _ h => h) (Or.inr ⟨by rfl, rfl⟩) (by assumption) ?_
      try simp only [Act.put, List.setIfInBounds_toArray, List.set_cons_zero, List.set_cons_succ]
      refine wpAnyH_take (i := 13) (v := ?_) (by simp only [List.getElem?_toArray, List.getElem?_cons_succ, List.getElem?_cons_zero]; rfl) (by kernel_rfl) (by kernel_rfl) (by kernel_rfl) (fun _ _ _ h => h) (Or.inl ⟨by rfl, ?_⟩) (by assumption) ?_
      rotate_left
      · (intro w hSw; (try dsimp only at hSw); go_simp; try with_reducible rfl)
      try simp only [Act.put, List.setIfInBounds_toArray, List.set_cons_zero, List.set_cons_succ]
      refine wpAnyH_done (by kernel_rfl) ?_ _
      refine NoPanic.normal ?_
      clear hb b0 b1 b2
      obtain ⟨hb, b0, b1, b2⟩ := hHeld
      go_wp2_with (at_builtin; go_loud (refine Row.wpList_app typ rfl _ _ rfl w1.heap.size _ _ rfl (oO.out.alloc _) _ 1 1 [x] rfl (Row.lies_new _ x _) (by have := HK.out; rw [List.length_take]; omega) (balloc hb _).size ?_; intro v9 w9 o9 _ k9))
      replace k9 := (Below.alloc (Below.refl w1.heap.size _) hb.size _).trans k9
      replace b0 := (((k9).cell (p := ⟨g, 0, none⟩) HS.out).trans b0)
      replace b1 := (((k9).cell (p := ⟨g, 1, none⟩) HS.out).trans b1)
      replace b2 := (((k9).cell (p := ⟨g, 2, none⟩) HS.out).trans b2)
      replace hb := hb.trans k9
      clear k9
      by_cases hck : c = k
      · obtain rfl : c = k := hck
        go_wp2_with fail
        refine wp_region_noPanic ?_
        refine wp_region_held_drew (S := (fun w' => Below w1.heap.size w1 w' ∧ w'.cell? ⟨g, 0, none⟩ = some (.string ⟨x.p.toArray⟩) ∧ w'.cell? ⟨g, 1, none⟩ = some (.int .u64 (x.n : Int)) ∧ w'.cell? ⟨g, 2, none⟩ = some (.bool x.bad))) (by kernel_rfl) (⟨Below.drew hb, (((Below.drew (Below.refl _ _))).cell (p := ⟨g, 0, none⟩) HS.out).trans b0, (((Below.drew (Below.refl _ _))).cell (p := ⟨g, 1, none⟩) HS.out).trans b1, (((Below.drew (Below.refl _ _))).cell (p := ⟨g, 2, none⟩) HS.out).trans b2⟩) (fun hHeld => ?_)
        refine wpAnyH_take (i := 0) (v := ?_) (by simp only [List.getElem?_toArray, List.getElem?_cons_zero]; rfl) (by kernel_rfl) (by kernel_rfl) (by kernel_rfl) (fun _ _ _ h => h) (Or.inl ⟨by rfl, ?_⟩) (by assumption) ?_
        rotate_left
        · (intro w hSw; (try dsimp only at hSw); go_simp; try with_reducible rfl)
        try simp only [Act.put, List.setIfInBounds_toArray, List.set_cons_zero, List.set_cons_succ]
        refine wpAnyH_take (i := 1) (v := ?_) (by simp only [List.getElem?_toArray, List.getElem?_cons_succ, List.getElem?_cons_zero]; rfl) (by kernel_rfl) (by kernel_rfl) (by kernel_rfl) (fun _ _ _ h => h) (Or.inl ⟨by rfl, ?_⟩) (by assumption) ?_
        rotate_left
        · (intro w hSw; (try dsimp only at hSw); go_simp; try with_reducible rfl)
        try simp only [Act.put, List.setIfInBounds_toArray, List.set_cons_zero, List.set_cons_succ]
        refine wpAnyH_take (i := 2) (v := ?_) (by simp only [List.getElem?_toArray, List.getElem?_cons_succ, List.getElem?_cons_zero]; rfl) (by kernel_rfl) (by kernel_rfl) (by kernel_rfl) (fun _ _ _ h => h) (Or.inl ⟨by rfl, ?_⟩) (by assumption) ?_
        rotate_left
        · (intro w hSw; (try dsimp only at hSw); go_simp; try with_reducible rfl)
        try simp only [Act.put, List.setIfInBounds_toArray, List.set_cons_zero, List.set_cons_succ]
        refine wpAnyH_take (i := 3) (v := ?_) (by simp only [List.getElem?_toArray, List.getElem?_cons_succ, List.getElem?_cons_zero]; rfl) (by kernel_rfl) (by kernel_rfl) (by kernel_rfl) (fun _ _ _ h => h) (Or.inl ⟨by rfl, ?_⟩) (by assumption) ?_
        rotate_left
        · (intro w hSw; (try dsimp only at hSw); go_simp; try with_reducible rfl)
        try simp only [Act.put, List.setIfInBounds_toArray, List.set_cons_zero, List.set_cons_succ]
        refine wpAnyH_take (i := 4) (v := ?_) (by simp only [List.getElem?_toArray, List.getElem?_cons_succ, List.getElem?_cons_zero]; rfl) (by kernel_rfl) (by kernel_rfl) (by kernel_rfl) (fun _ _ _ h => h) (Or.inl ⟨by rfl, ?_⟩) (by assumption) ?_
        rotate_left
        · (intro w hSw; (try dsimp only at hSw); go_simp; try with_reducible rfl)
        try simp only [Act.put, List.setIfInBounds_toArray, List.set_cons_zero, List.set_cons_succ]
        refine wpAnyH_take (i := 5) (v := undef) (by simp only [List.getElem?_toArray, List.getElem?_cons_succ, List.getElem?_cons_zero]; rfl) (by kernel_rfl) (by kernel_rfl) (by kernel_rfl) (fun _ _ _ h => h) (Or.inr ⟨by rfl, rfl⟩) (by assumption) ?_
        try simp only [Act.put, List.setIfInBounds_toArray, List.set_cons_zero, List.set_cons_succ]
        refine wpAnyH_take (i := 6) (v := undef) (by simp only [List.getElem?_toArray, List.getElem?_cons_succ, List.getElem?_cons_zero]; rfl) (by kernel_rfl) (by kernel_rfl) (by kernel_rfl) (fun _ _ _ h => h) (Or.inr ⟨by rfl, rfl⟩) (by assumption) ?_
        try simp only [Act.put, List.setIfInBounds_toArray, List.set_cons_zero, List.set_cons_succ]
        refine wpAnyH_take (i := 7) (v := undef) (by simp only [List.getElem?_toArray, List.getElem?_cons_succ, List.getElem?_cons_zero]; rfl) (by kernel_rfl) (by kernel_rfl) (by kernel_rfl) (fun _ _ _ h => h) (Or.inr ⟨by rfl, rfl⟩) (by assumption) ?_
        try simp only [Act.put, List.setIfInBounds_toArray, List.set_cons_zero, List.set_cons_succ]
        refine wpAnyH_take (i := 8) (v := undef) (by simp only [List.getElem?_toArray, List.getElem?_cons_succ, List.getElem?_cons_zero]; rfl) (by kernel_rfl) (by kernel_rfl) (by kernel_rfl) (fun _ _ _ h => h) (Or.inr ⟨by rfl, rfl⟩) (by assumption) ?_
        try simp only [Act.put, List.setIfInBounds_toArray, List.set_cons_zero, List.set_cons_succ]
        refine wpAnyH_take (i := 9) (v := undef) (by simp only [List.getElem?_toArray, List.getElem?_cons_succ, List.getElem?_cons_zero]; rfl) (by kernel_rfl) (by kernel_rfl) (by kernel_rfl) (fun _ _ _ h => h) (Or.inr ⟨by rfl, rfl⟩) (by assumption) ?_
        try simp only [Act.put, List.setIfInBounds_toArray, List.set_cons_zero, List.set_cons_succ]
        refine wpAnyH_take (i := 10) (v := undef) (by simp only [List.getElem?_toArray, List.getElem?_cons_succ, List.getElem?_cons_zero]; rfl) (by kernel_rfl) (by kernel_rfl) (by kernel_rfl) (fun _ _ _ h => h) (Or.inr ⟨by rfl, rfl⟩) (by assumption) ?_
        try simp only [Act.put, List.setIfInBounds_toArray, List.set_cons_zero, List.set_cons_succ]
        refine wpAnyH_take (i := 11) (v := undef) (by simp only [List.getElem?_toArray, List.getElem?_cons_succ, List.getElem?_cons_zero]; rfl) (by kernel_rfl) (by kernel_rfl) (by kernel_rfl) (fun _ _ _ h => h) (Or.inr ⟨by rfl, rfl⟩) (by assumption) ?_
        try simp only [Act.put, List.setIfInBounds_toArray, List.set_cons_zero, List.set_cons_succ]
        refine wpAnyH_take (i := 12) (v := undef) (by simp only [List.getElem?_toArray, List.getElem?_cons_succ, List.getElem?_cons_zero]; rfl) (by kernel_rfl) (by kernel_rfl) (by kernel_rfl) (fun _ _ _ h => h) (Or.inr ⟨by rfl, rfl⟩) (by assumption) ?_
        try simp only [Act.put, List.setIfInBounds_toArray, List.set_cons_zero, List.set_cons_succ]
        refine wpAnyH_take (i := 13) (v := ?_) (by simp only [List.getElem?_toArray, List.getElem?_cons_succ, List.getElem?_cons_zero]; rfl) (by kernel_rfl) (by kernel_rfl) (by kernel_rfl) (fun _ _ _ h => h) (Or.inl ⟨by rfl, ?_⟩) (by assumption) ?_
        rotate_left
        · (intro w hSw; (try dsimp only at hSw); go_simp; try with_reducible rfl)
        try simp only [Act.put, List.setIfInBounds_toArray, List.set_cons_zero, List.set_cons_succ]
        refine wpAnyH_done (by kernel_rfl) ?_ _
        refine NoPanic.normal ?_
        clear hb b0 b1 b2
        obtain ⟨hb, b0, b1, b2⟩ := hHeld
        rcases a with _ | q
        · skip
          go_wp2_with (at_builtin; go_loud (refine Row.wpList_app typ rfl _ _ rfl w1.heap.size _ _ rfl (o9.drew) (none) (0) (_) ([]) rfl (Row.Lies.nil _ _) (by have := HK.out; simp only [List.length_append, List.length_take, List.length_singleton]; omega) hb.size ?_; intro v7 w7 o7 _ k7))
          go_ret
          exact ⟨_, rfl, by rw [← HQ.out]; have h := Row.Own.base o7 (show w.heap.size ≤ w1.heap.size by have := HB0.out.size; have := HG.out; have := HS.out; omega); rw [List.append_assoc] at h; exact h, by have h := HB0.out; rw [HG.out] at h; exact h.trans ((hb.trans k7).mono (by have := HS.out; have := HG.out; omega))⟩
        · skip
          go_wp2_with (at_builtin; go_loud (refine Row.wpList_app typ rfl _ _ rfl w1.heap.size _ _ rfl (o9.drew) (some q) (0) (_) ([]) rfl (Row.Lies.nil _ _) (by have := HK.out; simp only [List.length_append, List.length_take, List.length_singleton]; omega) hb.size ?_; intro v7 w7 o7 _ k7))
          go_ret
          exact ⟨_, rfl, by rw [← HQ.out]; have h := Row.Own.base o7 (show w.heap.size ≤ w1.heap.size by have := HB0.out.size; have := HG.out; have := HS.out; omega); rw [List.append_assoc] at h; exact h, by have h := HB0.out; rw [HG.out] at h; exact h.trans ((hb.trans k7).mono (by have := HS.out; have := HG.out; omega))⟩
      · rcases a with _ | q
        · exact absurd (hz rfl) (by omega)
        have j3 : (c : Int) - (k : Int) ≠ 0 := by omega
        have j4 : c - k ≠ 0 := by omega
        go_wp2_with fail
        refine wp_region_noPanic ?_
        refine wp_region_held_drew (S := (fun w' => Below w1.heap.size w1 w' ∧ w'.cell? ⟨g, 0, none⟩ = some (.string ⟨x.p.toArray⟩) ∧ w'.cell? ⟨g, 1, none⟩ = some (.int .u64 (x.n : Int)) ∧ w'.cell? ⟨g, 2, none⟩ = some (.bool x.bad))) (by kernel_rfl) (⟨Below.drew hb, (((Below.drew (Below.refl _ _))).cell (p := ⟨g, 0, none⟩) HS.out).trans b0, (((Below.drew (Below.refl _ _))).cell (p := ⟨g, 1, none⟩) HS.out).trans b1, (((Below.drew (Below.refl _ _))).cell (p := ⟨g, 2, none⟩) HS.out).trans b2⟩) (fun hHeld => ?_)
        refine wpAnyH_take (i := 0) (v := ?_) (by simp only [List.getElem?_toArray, List.getElem?_cons_zero]; rfl) (by kernel_rfl) (by kernel_rfl) (by kernel_rfl) (fun _ _ _ h => h) (Or.inl ⟨by rfl, ?_⟩) (by assumption) ?_
        rotate_left
        · (intro w hSw; (try dsimp only at hSw); go_simp; try with_reducible rfl)
        try simp only [Act.put, List.setIfInBounds_toArray, List.set_cons_zero, List.set_cons_succ]
        refine wpAnyH_take (i := 1) (v := ?_) (by simp only [List.getElem?_toArray, List.getElem?_cons_succ, List.getElem?_cons_zero]; rfl) (by kernel_rfl) (by kernel_rfl) (by kernel_rfl) (fun _ _ _ h => h) (Or.inl ⟨by rfl, ?_⟩) (by assumption) ?_
        rotate_left
        · (intro w hSw; (try dsimp only at hSw); go_simp; try with_reducible rfl)
        try simp only [Act.put, List.setIfInBounds_toArray, List.set_cons_zero, List.set_cons_succ]
        refine wpAnyH_take (i := 2) (v := ?_) (by simp only [List.getElem?_toArray, List.getElem?_cons_succ, List.getElem?_cons_zero]; rfl) (by kernel_rfl) (by kernel_rfl) (by kernel_rfl) (fun _ _ _ h => h) (Or.inl ⟨by rfl, ?_⟩) (by assumption) ?_
        rotate_left
        · (intro w hSw; (try dsimp only at hSw); go_simp; try with_reducible rfl)
        try simp only [Act.put, List.setIfInBounds_toArray, List.set_cons_zero, List.set_cons_succ]
        refine wpAnyH_take (i := 3) (v := ?_) (by simp only [List.getElem?_toArray, List.getElem?_cons_succ, List.getElem?_cons_zero]; rfl) (by kernel_rfl) (by kernel_rfl) (by kernel_rfl) (fun _ _ _ h => h) (Or.inl ⟨by rfl, ?_⟩) (by assumption) ?_
        rotate_left
        · (intro w hSw; (try dsimp only at hSw); go_simp; try with_reducible rfl)
        try simp only [Act.put, List.setIfInBounds_toArray, List.set_cons_zero, List.set_cons_succ]
        refine wpAnyH_take (i := 4) (v := ?_) (by simp only [List.getElem?_toArray, List.getElem?_cons_succ, List.getElem?_cons_zero]; rfl) (by kernel_rfl) (by kernel_rfl) (by kernel_rfl) (fun _ _ _ h => h) (Or.inl ⟨by rfl, ?_⟩) (by assumption) ?_
        rotate_left
        · (intro w hSw; (try dsimp only at hSw); go_simp; try with_reducible rfl)
        try simp only [Act.put, List.setIfInBounds_toArray, List.set_cons_zero, List.set_cons_succ]
        refine wpAnyH_take (i := 5) (v := undef) (by simp only [List.getElem?_toArray, List.getElem?_cons_succ, List.getElem?_cons_zero]; rfl) (by kernel_rfl) (by kernel_rfl) (by kernel_rfl) (fun _ _ _ h => h) (Or.inr ⟨by rfl, rfl⟩) (by assumption) ?_
        try simp only [Act.put, List.setIfInBounds_toArray, List.set_cons_zero, List.set_cons_succ]
        refine wpAnyH_take (i := 6) (v := undef) (by simp only [List.getElem?_toArray, List.getElem?_cons_succ, List.getElem?_cons_zero]; rfl) (by kernel_rfl) (by kernel_rfl) (by kernel_rfl) (fun _ _ _ h => h) (Or.inr ⟨by rfl, rfl⟩) (by assumption) ?_
        try simp only [Act.put, List.setIfInBounds_toArray, List.set_cons_zero, List.set_cons_succ]
        refine wpAnyH_take (i := 7) (v := undef) (by simp only [List.getElem?_toArray, List.getElem?_cons_succ, List.getElem?_cons_zero]; rfl) (by kernel_rfl) (by kernel_rfl) (by kernel_rfl) (fun _ _ _ h => h) (Or.inr ⟨by rfl, rfl⟩) (by assumption) ?_
        try simp only [Act.put, List.setIfInBounds_toArray, List.set_cons_zero, List.set_cons_succ]
        refine wpAnyH_take (i := 8) (v := undef) (by simp only [List.getElem?_toArray, List.getElem?_cons_succ, List.getElem?_cons_zero]; rfl) (by kernel_rfl) (by kernel_rfl) (by kernel_rfl) (fun _ _ _ h => h) (Or.inr ⟨by rfl, rfl⟩) (by assumption) ?_
        try simp only [Act.put, List.setIfInBounds_toArray, List.set_cons_zero, List.set_cons_succ]
        refine wpAnyH_take (i := 9) (v := undef) (by simp only [List.getElem?_toArray, List.getElem?_cons_succ, List.getElem?_cons_zero]; rfl) (by kernel_rfl) (by kernel_rfl) (by kernel_rfl) (fun _ _ _ h => h) (Or.inr ⟨by rfl, rfl⟩) (by assumption) ?_
        try simp only [Act.put, List.setIfInBounds_toArray, List.set_cons_zero, List.set_cons_succ]
        refine wpAnyH_take (i := 10) (v := undef) (by simp only [List.getElem?_toArray, List.getElem?_cons_succ, List.getElem?_cons_zero]; rfl) (by kernel_rfl) (by kernel_rfl) (by kernel_rfl) (fun _ _ _ h => h) (Or.inr ⟨by rfl, rfl⟩) (by assumption) ?_
        try simp only [Act.put, List.setIfInBounds_toArray, List.set_cons_zero, List.set_cons_succ]
        refine wpAnyH_take (i := 11) (v := undef) (by simp only [List.getElem?_toArray, List.getElem?_cons_succ, List.getElem?_cons_zero]; rfl) (by kernel_rfl) (by kernel_rfl) (by kernel_rfl) (fun _ _ _ h => h) (Or.inr ⟨by rfl, rfl⟩) (by assumption) ?_
        try simp only [Act.put, List.setIfInBounds_toArray, List.set_cons_zero, List.set_cons_succ]
        refine wpAnyH_take (i := 12) (v := undef) (by simp only [List.getElem?_toArray, List.getElem?_cons_succ, List.getElem?_cons_zero]; rfl) (by kernel_rfl) (by kernel_rfl) (by kernel_rfl) (fun _ _ _ h => h) (Or.inr ⟨by rfl, rfl⟩) (by assumption) ?_
        try simp only [Act.put, List.setIfInBounds_toArray, List.set_cons_zero, List.set_cons_succ]
        refine wpAnyH_take (i := 13) (v := ?_) (by simp only [List.getElem?_toArray, List.getElem?_cons_succ, List.getElem?_cons_zero]; rfl) (by kernel_rfl) (by kernel_rfl) (by kernel_rfl) (fun _ _ _ h => h) (Or.inl ⟨by rfl, ?_⟩) (by assumption) ?_
        rotate_left
        · (intro w hSw; (try dsimp only at hSw); go_simp; try with_reducible rfl)
        try simp only [Act.put, List.setIfInBounds_toArray, List.set_cons_zero, List.set_cons_succ]
        refine wpAnyH_done (by kernel_rfl) ?_ _
        refine NoPanic.normal ?_
        clear hb b0 b1 b2
        obtain ⟨hb, b0, b1, b2⟩ := hHeld
        go_wp2_with (at_builtin; go_loud (refine Row.wpList_app typ rfl _ _ rfl w1.heap.size _ _ rfl (o9.drew) (_) (0) (_) ([]) rfl (Row.Lies.nil _ _) (by have := HK.out; simp only [List.length_append, List.length_take, List.length_singleton]; omega) hb.size ?_; intro v7 w7 o7 _ k7))
        go_ret
        exact ⟨_, rfl, by rw [← HQ.out]; have h := Row.Own.base o7 (show w.heap.size ≤ w1.heap.size by have := HB0.out.size; have := HG.out; have := HS.out; omega); rw [List.append_assoc] at h; exact h, by have h := HB0.out; rw [HG.out] at h; exact h.trans ((hb.trans k7).mono (by have := HS.out; have := HG.out; omega))⟩
end Beat
end Go.Proofs.Ytfdcmmafdgagoaa
