
/- package dots: tidy's parts. -/
import Derived.Test.YtcbnkncgacbniaaMarkCompact
import Derived.Test.YtcbnkncgacbniaaOrder
import Derived.Test.YtcbnkncgacbniaaShelf
import Derived.Laws.IdiomStrings
namespace Go.Proofs.Ytcbnkncgacbniaa
namespace Mark
open Go.RowKit

theorem Lies.at {w : World} {b off n : Nat} {L : List M} (h : Lies w (some ⟨b, off, none⟩) n L) : ∀ j u, (flat L)[j]? = some u → w.cell? ((⟨b, off, none⟩ : Addr).add j) = some u := by
  intro j u hu
  have hj : j < L.length * 2 := by rw [← flat_length]; exact (List.getElem?_eq_some_iff.1 hu).1
  obtain ⟨b', off', e, hc⟩ := h.2 (by rw [h.1]; omega)
  simp only [Option.some.injEq, Addr.mk.injEq, and_true] at e
  obtain ⟨rfl, rfl⟩ := e
  rw [Go.WideShapes.add_plain]
  have hg := flat_get L (j / 2) (by omega)
  obtain ⟨c1, c2⟩ := hc (j / 2) (by omega)
  have h2 : j % 2 = 0 ∨ j % 2 = 1 := by omega
  rcases h2 with h2 | h2
  · rw [show j / 2 * 2 = j by omega, hu] at hg
    rw [show off + j / 2 * 2 = off + j by omega] at c1
    rw [c1, hg.1]
  · rw [show j / 2 * 2 + 1 = j by omega, hu] at hg
    rw [show off + j / 2 * 2 + 1 = off + j by omega] at c2
    rw [c2, hg.2]

set_option maxRecDepth 100000 in
set_option maxHeartbeats 1000000 in
theorem clone_any (L : List M) (a : Option Addr) (n c : Nat) (w : World) (hL : Lies w a n L) (hn : n ≤ 1099511627776) :
    Calls Try.prog 26 #[.slice a n c] w fun e w' => ∃ v', e = .returned v' ∧ Own w' w.heap.size v' L ∧ Below w.heap.size w w' := by
  obtain ⟨i0, hi, hz0, hz1, hz2⟩ := info_parts info_mark
  have h0 := Below.refl w.heap.size w
  cases a with
  | none =>
    have heq : ∀ w, (binOp .eql 25 (.slice none n c) (.slice none 0 0)).run Try.prog w = .ok (.bool true) w := fun w => Lib.run_eql_slice_nil (P := Try.prog) w 25 55 none n c 0 0 Try.underlying25
    have hn0 : n = 0 := by
      rcases Nat.eq_zero_or_pos n with h | h
      · exact h
      · obtain ⟨_, _, e, _⟩ := hL.2 h; cases e
    have hl0 : L = [] := List.length_eq_zero_iff.1 (by rw [← hL.1]; exact hn0)
    subst hl0
    subst hn0
    clear hL
    go_enter Try.func26, Try.ntmps26
    go_wp2
    go_ret
    exact ⟨_, rfl, Own.nil _ _, h0⟩
  | some q =>
    have heq : ∀ w, (binOp .eql 25 (.slice (some q) n c) (.slice none 0 0)).run Try.prog w = .ok (.bool false) w := fun w => Lib.run_eql_slice_nil (P := Try.prog) w 25 55 (some q) n c 0 0 Try.underlying25
    have hnl := hL.1
    have hown : ∀ o, o = Obj.cells #[] 55 → (w.alloc o).ownsRow w.heap.size 55 2 (.slice (some ⟨w.heap.size, 0, none⟩) 0 0) 0 [] := fun o ho => by
      rw [ho]; exact World.ownsRow_lit w #[] 0 (Nat.le_refl _) (by decide) rfl
    have hnews : ∀ o j u, (flat L)[j]? = some u → (w.alloc o).cell? (q.add j) = some u := fun o j u hu => by
      have hj : j < L.length * 2 := by rw [← flat_length]; exact (List.getElem?_eq_some_iff.1 hu).1
      obtain ⟨b, off, e, _⟩ := hL.2 (by omega)
      obtain rfl : q = ⟨b, off, none⟩ := Option.some.inj e
      exact Lib.cell?_alloc_some o (hL.at j u hu)
    have HN := Lib.hid hnews
    have HO := Lib.hid hown
    have HNL := Lib.hid hnl
    have hfl := flat_length L
    rw [← hnl] at hfl
    have HF := Lib.hid hfl
    clear hL hnl hnews hown hfl
    go_enter Try.func26, Try.ntmps26
    go_wp2_with (at_builtin; refine wpList_append_own _ rfl _ _ 25 rfl w.heap.size 55 i0 (.agg #[.string ⟨#[]⟩, .int .u64 0]) 2 24 Try.underlying25 hi hz0 hz1 hz2 rfl (by decide) _ _ _ rfl (HO.out _ rfl) q n c (flat L) rfl HF.out (HN.out _) (flat_one L) (by unfold maxLen; omega) (by omega) (by simp) ?_; intro v' w1 hown' hgrow _)
    go_ret
    refine ⟨_, rfl, ?_, Below.grown (balloc h0 _) hgrow (by simp) (fun k hk => by cases hk; exact Nat.le_refl _)⟩
    rw [Nat.zero_add, List.nil_append, HNL.out] at hown'
    exact hown'

end Mark
namespace Dots
open Go.RowKit Go.Proofs.Ytcbnkncgacbniaa.Mark

def nought (m : M) : Bool := decide (m.p = [] ∨ m.n = 0)
def alike (a b : M) : Bool := decide (a.p = b.p)
def byQ (q : List UInt8) (m : M) : Bool := decide (m.p = q)
def cmpI (x y : Nat) : Int := if x < y then -1 else if y < x then 1 else 0
/-- The order in which tidy lays marks: by paths, greater numbers first. -/
def cf (a b : M) : Int := if Lib.compareBytes a.p b.p ≠ 0 then Lib.compareBytes a.p b.p else cmpI b.n a.n

set_option maxRecDepth 100000 in
theorem nought_pred (B : Nat) (w : World) : Pred 50 #[] nought B w := by
  intro W m _
  obtain ⟨p, n⟩ := m
  have h0 := Below.refl W.heap.size W
  rw [get_agg]
  simp only
  by_cases h1 : p = []
  · have HV := Lib.hid (show nought ⟨p, n⟩ = true by unfold nought; simp [h1])
    subst h1
    go_enter Try.func50, Try.ntmps50
    go_wp2
    go_ret
    exact ⟨by rw [HV.out]; rfl, balloc h0 _⟩
  have y1 : p.isEmpty = false := by cases p with | nil => exact absurd rfl h1 | cons _ _ => rfl
  have y1' : (!p.isEmpty) = true := by rw [y1]; rfl
  by_cases h2 : n = 0
  · have HV := Lib.hid (show nought ⟨p, n⟩ = true by unfold nought; simp [h2])
    have z : ((n : Int) == 0) = true := by rw [beq_iff_eq]; omega
    clear h1 h2
    go_enter Try.func50, Try.ntmps50
    go_wp2
    go_ret
    exact ⟨by rw [HV.out]; rfl, balloc h0 _⟩
  · have HV := Lib.hid (show nought ⟨p, n⟩ = false by unfold nought; simp [h1, h2])
    have z : ((n : Int) == 0) = false := by rw [beq_eq_false_iff_ne]; omega
    clear h1 h2
    go_enter Try.func50, Try.ntmps50
    go_wp2
    go_ret
    exact ⟨by rw [HV.out]; rfl, balloc h0 _⟩

set_option maxRecDepth 100000 in
theorem alike_pred (B : Nat) (w : World) : Pred2 57 #[] alike B w := by
  intro W m k _
  obtain ⟨p, n⟩ := m
  obtain ⟨q, x⟩ := k
  have h0 := Below.refl W.heap.size W
  rw [get_agg, get_agg]
  simp only
  by_cases h1 : p = q
  · have HV := Lib.hid (show alike ⟨p, n⟩ ⟨q, x⟩ = true by unfold alike; simp [h1])
    subst h1
    go_enter Try.func57, Try.ntmps57
    go_wp2
    go_ret
    exact ⟨by rw [HV.out]; rfl, balloc (balloc h0 _) _⟩
  · have HV := Lib.hid (show alike ⟨p, n⟩ ⟨q, x⟩ = false by unfold alike; simp [h1])
    have y : (p == q) = false := by rw [beq_eq_false_iff_ne]; exact h1
    clear h1
    go_enter Try.func57, Try.ntmps57
    go_wp2
    go_ret
    exact ⟨by rw [HV.out]; rfl, balloc (balloc h0 _) _⟩

set_option maxRecDepth 100000 in
theorem byQ_pred (q : List UInt8) (D : Nat) (B : Nat) (w : World) (hB : B ≤ w.heap.size) (hD : D < B) (hc : w.cell? ⟨D, 0, none⟩ = some (.string ⟨q.toArray⟩)) : Pred 45 #[.pointer (some ⟨D, 0, none⟩)] (byQ q) B w := by
  intro W m hb
  have hc2 := (hb.cell (p := ⟨D, 0, none⟩) hD).trans hc
  have hD2 : D < W.heap.size := Nat.lt_of_lt_of_le hD (Nat.le_trans hB hb.size)
  clear hc
  obtain ⟨p, n⟩ := m
  have h0 := Below.refl W.heap.size W
  rw [get_agg]
  simp only
  by_cases h1 : p = q
  · have HV := Lib.hid (show byQ q ⟨p, n⟩ = true by unfold byQ; simp [h1])
    subst h1
    go_enter Try.func45, Try.ntmps45
    go_wp2
    go_ret
    exact ⟨by rw [HV.out]; rfl, balloc h0 _⟩
  · have HV := Lib.hid (show byQ q ⟨p, n⟩ = false by unfold byQ; simp [h1])
    have y : (p == q) = false := by rw [beq_eq_false_iff_ne]; exact h1
    clear h1
    go_enter Try.func45, Try.ntmps45
    go_wp2
    go_ret
    exact ⟨by rw [HV.out]; rfl, balloc h0 _⟩

theorem nan_any (x : Nat) (w : World) : Calls Try.prog 65 #[.int .u64 (x : Nat)] w fun e w' => e = .returned (.bool false) ∧ w = w' := by
  have y : ((x : Int) != (x : Int)) = false := by simp
  go_enter Try.func65, Try.ntmps65
  go_wp2
  go_ret
  exact ⟨rfl, rfl⟩
set_option maxRecDepth 100000 in
theorem cmpU_any (x y : Nat) (w : World) : Calls Try.prog 55 #[.int .u64 (x : Nat), .int .u64 (y : Nat)] w fun e w' => e = .returned (.int .i64 (cmpI x y)) ∧ w = w' := by
  have N := Lib.hid nan_any
  by_cases h1 : x < y
  · have HV := Lib.hid (show cmpI x y = -1 by rw [cmpI, if_pos h1])
    go_enter Try.func55, Try.ntmps55
    go_wp2_with (go_at_call 65; refine (N.out _ _).mono ?_; rintro e w' ⟨rfl, rfl⟩)
    go_ret
    exact ⟨by rw [HV.out]; rfl, rfl⟩
  by_cases h2 : y < x
  · have HV := Lib.hid (show cmpI x y = 1 by rw [cmpI, if_neg h1, if_pos h2])
    go_enter Try.func55, Try.ntmps55
    go_wp2_with (go_at_call 65; refine (N.out _ _).mono ?_; rintro e w' ⟨rfl, rfl⟩)
    go_ret
    exact ⟨by rw [HV.out]; rfl, rfl⟩
  · have HV := Lib.hid (show cmpI x y = 0 by rw [cmpI, if_neg h1, if_neg h2])
    go_enter Try.func55, Try.ntmps55
    go_wp2_with (go_at_call 65; refine (N.out _ _).mono ?_; rintro e w' ⟨rfl, rfl⟩)
    go_ret
    exact ⟨by rw [HV.out]; rfl, rfl⟩
def orV (x y : Int) : Int := if x ≠ 0 then x else y
set_option maxRecDepth 100000 in
theorem or_any (x y : Int) (b : Nat) (w : World) (c0 : w.cell? ⟨b, 0, none⟩ = some (.int .i64 x)) (c1 : w.cell? ⟨b, 1, none⟩ = some (.int .i64 y)) : Calls Try.prog 53 #[.slice (some ⟨b, 0, none⟩) 2 2] w fun e w' => e = .returned (.int .i64 (orV x y)) ∧ w = w' := by
  by_cases h1 : x = 0
  · have z1 : (x != 0) = false := by rw [bne_eq_false_iff_eq]; exact h1
    have z1' : (x == 0) = true := by rw [beq_iff_eq]; exact h1
    have HV := Lib.hid (show orV x y = y by rw [orV, if_neg (by simpa using h1)])
    by_cases h2 : y = 0
    · have z2 : (y != 0) = false := by rw [bne_eq_false_iff_eq]; exact h2
      have z2' : (y == 0) = true := by rw [beq_iff_eq]; exact h2
      have HY := Lib.hid h2
      clear h1 h2
      go_enter Try.func53, Try.ntmps53
      go_wp2_with fail
      go_loop [5, 8] (fun _ iv => ∃ k : Nat, k ≤ 2 ∧ iv = .int .i64 k) (fun _ iv => 2 - (intOf iv).toNat)
      case atStart => exact ⟨0, by omega, rfl⟩
      case round =>
        obtain ⟨k, hk, rfl⟩ := hrel
        have : k = 0 ∨ k = 1 ∨ k = 2 := by omega
        rcases this with rfl | rfl | rfl
        · go_wp2
          go_round
          case rel => exact ⟨1, by omega, rfl⟩
          case measure => simp [intOf]
        · go_wp2
          go_round
          case rel => exact ⟨2, by omega, rfl⟩
          case measure => simp [intOf]
        · go_wp2
          go_ret
          exact ⟨by rw [HV.out, HY.out]; rfl, rfl⟩
    · have z2 : (y != 0) = true := by rw [bne_iff_ne]; exact h2
      have z2' : (y == 0) = false := by rw [beq_eq_false_iff_ne]; exact h2
      clear h1 h2
      go_enter Try.func53, Try.ntmps53
      go_wp2_with fail
      go_loop [5, 8] (fun _ iv => ∃ k : Nat, k ≤ 1 ∧ iv = .int .i64 k) (fun _ iv => 2 - (intOf iv).toNat)
      case atStart => exact ⟨0, by omega, rfl⟩
      case round =>
        obtain ⟨k, hk, rfl⟩ := hrel
        have : k = 0 ∨ k = 1 := by omega
        rcases this with rfl | rfl
        · go_wp2
          go_round
          case rel => exact ⟨1, by omega, rfl⟩
          case measure => simp [intOf]
        · go_wp2
          go_ret
          exact ⟨by rw [HV.out]; rfl, rfl⟩
  · have z1 : (x != 0) = true := by rw [bne_iff_ne]; exact h1
    have z1' : (x == 0) = false := by rw [beq_eq_false_iff_ne]; exact h1
    have HV := Lib.hid (show orV x y = x by rw [orV, if_pos h1])
    clear h1
    go_enter Try.func53, Try.ntmps53
    go_wp2_with fail
    go_loop [5, 8] (fun _ iv => iv = .int .i64 0) (fun _ iv => 2 - (intOf iv).toNat)
    case atStart => exact rfl
    case round =>
      obtain rfl := hrel
      go_wp2
      go_ret
      exact ⟨by rw [HV.out]; rfl, rfl⟩

theorem new_cell (W : World) (C : Array Value) (T : TypeId) (i b : Nat) (hb : b = W.heap.size) : (W.alloc (.cells C T)).drew.cell? ⟨b, i, none⟩ = C[i]? := by
  subst hb
  exact World.cell?_alloc_new ..

set_option maxRecDepth 100000 in
set_option maxHeartbeats 2000000 in
theorem cf_any (a b : M) (w : World) : Calls Try.prog 52 #[.agg (a.cells).toArray, .agg (b.cells).toArray] w fun e w' => e = .returned (.int .i64 (cf a b)) ∧ ∃ q os', w' = Sort.grow (w.drewN q) os' := by
  obtain ⟨p, n⟩ := a
  obtain ⟨q, x⟩ := b
  have S := Lib.hid (fun w => Try.strings_Compare ⟨p.toArray⟩ ⟨q.toArray⟩ w)
  have C := Lib.hid (fun w => cmpU_any x n w)
  have HV : Hid (cf ⟨p, n⟩ ⟨q, x⟩ = orV (Lib.compareBytes p q) (cmpI x n)) := Lib.hid rfl
  have c0 : ∀ T, ((w.alloc (.cells #[.string ⟨p.toArray⟩, .int .u64 (n : Int)] T)).alloc (.cells #[.string ⟨q.toArray⟩, .int .u64 (x : Int)] T)).cell? ⟨w.heap.size, 0, none⟩ = some (.string ⟨p.toArray⟩) := fun T => Lib.cell?_alloc_some _ (by rw [World.cell?_alloc_new]; rfl)
  have c1 : ∀ T, ((w.alloc (.cells #[.string ⟨p.toArray⟩, .int .u64 (n : Int)] T)).alloc (.cells #[.string ⟨q.toArray⟩, .int .u64 (x : Int)] T)).cell? ⟨w.heap.size, 1, none⟩ = some (.int .u64 (n : Int)) := fun T => Lib.cell?_alloc_some _ (by rw [World.cell?_alloc_new]; rfl)
  have c2 : ∀ T, ((w.alloc (.cells #[.string ⟨p.toArray⟩, .int .u64 (n : Int)] T)).alloc (.cells #[.string ⟨q.toArray⟩, .int .u64 (x : Int)] T)).cell? ⟨w.heap.size + 1, 0, none⟩ = some (.string ⟨q.toArray⟩) := fun T => by
    simp
  have c3 : ∀ T, ((w.alloc (.cells #[.string ⟨p.toArray⟩, .int .u64 (n : Int)] T)).alloc (.cells #[.string ⟨q.toArray⟩, .int .u64 (x : Int)] T)).cell? ⟨w.heap.size + 1, 1, none⟩ = some (.int .u64 (x : Int)) := fun T => by
    simp
  have HC := Lib.hid (And.intro c0 (And.intro c1 (And.intro c2 c3)))
  clear c0 c1 c2 c3
  obtain ⟨v, hv⟩ : ∃ u, u = cmpI x n := ⟨_, rfl⟩
  rw [← hv] at C HV
  clear hv
  have OR := Lib.hid (or_any (Lib.compareBytes p q) v)
  unfold M.cells
  simp only
  go_enter Try.func52, Try.ntmps52
  go_wp2_with fail
  obtain ⟨c0, c1, c2, c3⟩ := HC.out
  have c0 := c0 55
  have c1 := c1 55
  have c2 := c2 55
  have c3 := c3 55
  refine wp_region_noPanic ?_
  refine wp_region_held_drew (S := (fun w' => (w'.cell? ⟨w.heap.size, 0, none⟩ = some (.string ⟨p.toArray⟩) ∧ w'.cell? ⟨w.heap.size, 1, none⟩ = some (.int .u64 (n : Int))) ∧ w'.cell? ⟨w.heap.size + 1, 0, none⟩ = some (.string ⟨q.toArray⟩) ∧ w'.cell? ⟨w.heap.size + 1, 1, none⟩ = some (.int .u64 (x : Int)))) (by kernel_rfl) (⟨⟨c0, c1⟩, c2, c3⟩) (fun hHeld => ?_)
  refine wpAnyH_take (i := 0) (v := ?_) (by simp only [List.getElem?_toArray, List.getElem?_cons_zero]; rfl) (by kernel_rfl) (by kernel_rfl) (by kernel_rfl) (fun _ _ _ h => h) (Or.inl ⟨by rfl, ?_⟩) (by assumption) ?_
  rotate_left
  · (intro w hSw; (try dsimp only at hSw); go_simp; try with_reducible rfl)
  try simp only [Act.put, List.setIfInBounds_toArray, List.set_cons_zero, List.set_cons_succ]
  refine wpAnyH_take (i := 1) (v := ?_) (by simp only [List.getElem?_toArray, List.getElem?_cons_succ, List.getElem?_cons_zero]; rfl) (by kernel_rfl) (by kernel_rfl) (by kernel_rfl) (fun _ _ _ h => h) (Or.inl ⟨by rfl, ?_⟩) (by assumption) ?_
  rotate_left
  · (intro w hSw; (try dsimp only at hSw); go_simp; try with_reducible rfl)
  try simp only [Act.put, List.setIfInBounds_toArray, List.set_cons_zero, List.set_cons_succ]
  refine wpAnyH_take (i := 2) (v := ?_) (by simp only [List.getElem?_toArray, List.getElem?_cons_succ, List.getElem?_cons_zero]; rfl) (by kernel_rfl) (by kernel_rfl) (by kernel_rfl) (fun _ _ _ h => h) (Or.inl ⟨by rfl, ?_⟩) (by assumption) ?_
  rotate_left
  · (intro w hSw; (try dsimp only at hSw); go_simp; try with_reducible rfl)
  try simp only [Act.put, List.setIfInBounds_toArray, List.set_cons_zero, List.set_cons_succ]
  refine wpAnyH_take (i := 3) (v := ?_) (by simp only [List.getElem?_toArray, List.getElem?_cons_succ, List.getElem?_cons_zero]; rfl) (by kernel_rfl) (by kernel_rfl) (by kernel_rfl) (fun _ _ _ h => h) (Or.inl ⟨by rfl, ?_⟩) (by assumption) ?_
  rotate_left
  · (intro w hSw; (try dsimp only at hSw); go_simp; try with_reducible rfl)
  try simp only [Act.put, List.setIfInBounds_toArray, List.set_cons_zero, List.set_cons_succ]
  refine wpAnyH_take (i := 5) (v := ?_) (by simp only [List.getElem?_toArray, List.getElem?_cons_succ, List.getElem?_cons_zero]; rfl) (by kernel_rfl) (by kernel_rfl) (by kernel_rfl) (fun _ _ _ h => h) (Or.inl ⟨by rfl, ?_⟩) (by assumption) ?_
  rotate_left
  · (intro w hSw; (try dsimp only at hSw); go_simp; try with_reducible rfl)
  try simp only [Act.put, List.setIfInBounds_toArray, List.set_cons_zero, List.set_cons_succ]
  refine wpAnyH_take (i := 6) (v := ?_) (by simp only [List.getElem?_toArray, List.getElem?_cons_succ, List.getElem?_cons_zero]; rfl) (by kernel_rfl) (by kernel_rfl) (by kernel_rfl) (fun _ _ _ h => h) (Or.inl ⟨by rfl, ?_⟩) (by assumption) ?_
  rotate_left
  · (intro w hSw; (try dsimp only at hSw); go_simp; try with_reducible rfl)
  try simp only [Act.put, List.setIfInBounds_toArray, List.set_cons_zero, List.set_cons_succ]
  refine wpAnyH_take (i := 7) (v := ?_) (by simp only [List.getElem?_toArray, List.getElem?_cons_succ, List.getElem?_cons_zero]; rfl) (by kernel_rfl) (by kernel_rfl) (by kernel_rfl) (fun _ _ _ h => h) (Or.inl ⟨by rfl, ?_⟩) (by assumption) ?_
  rotate_left
  · (intro w hSw; (try dsimp only at hSw); go_simp; try with_reducible rfl)
  try simp only [Act.put, List.setIfInBounds_toArray, List.set_cons_zero, List.set_cons_succ]
  refine wpAnyH_take (i := 8) (v := ?_) (by simp only [List.getElem?_toArray, List.getElem?_cons_succ, List.getElem?_cons_zero]; rfl) (by kernel_rfl) (by kernel_rfl) (by kernel_rfl) (fun _ _ _ h => h) (Or.inl ⟨by rfl, ?_⟩) (by assumption) ?_
  rotate_left
  · (intro w hSw; (try dsimp only at hSw); go_simp; try with_reducible rfl)
  try simp only [Act.put, List.setIfInBounds_toArray, List.set_cons_zero, List.set_cons_succ]
  refine wpAnyH_ready (rs := [4]) (by kernel_rfl) (by simp) ?_
  refine AllReadyH.cons (by simp only [List.getElem?_toArray, List.getElem?_cons_succ, List.getElem?_cons_zero]; rfl) (fun K hK => ?_) AllReadyH.nil
  go_simp
  go_at_call 54
  refine (S.out _).mono ?_
  rintro e w' ⟨rfl, rfl⟩
  go_wp2_with fail
  refine hK.out _ _ (hHeld) (fun hHeld => ?_)
  clear hK K
  try simp only [Act.put, List.setIfInBounds_toArray, List.set_cons_zero, List.set_cons_succ]
  refine wpAnyH_ready (rs := [9]) (by kernel_rfl) (by simp) ?_
  refine AllReadyH.cons (by simp only [List.getElem?_toArray, List.getElem?_cons_succ, List.getElem?_cons_zero]; rfl) (fun K hK => ?_) AllReadyH.nil
  go_simp
  go_at_call 55
  refine (C.out _).mono ?_
  rintro e w' ⟨rfl, rfl⟩
  go_wp2_with fail
  refine hK.out _ _ (hHeld) (fun hHeld => ?_)
  clear hK K
  try simp only [Act.put, List.setIfInBounds_toArray, List.set_cons_zero, List.set_cons_succ]
  refine wpAnyH_ready (rs := [10]) (by kernel_rfl) (by simp) ?_
  refine AllReadyH.cons (by simp only [List.getElem?_toArray, List.getElem?_cons_succ, List.getElem?_cons_zero]; rfl) (fun K hK => ?_) AllReadyH.nil
  go_simp
  refine hK.out _ _ (⟨⟨Lib.cell?_alloc_some _ hHeld.1.1, Lib.cell?_alloc_some _ hHeld.1.2⟩, Lib.cell?_alloc_some _ hHeld.2.1, Lib.cell?_alloc_some _ hHeld.2.2⟩) (fun hHeld => ?_)
  clear hK K
  try simp only [Act.put, List.setIfInBounds_toArray, List.set_cons_zero, List.set_cons_succ]
  refine wpAnyH_ready (rs := [11]) (by kernel_rfl) (by simp) ?_
  refine AllReadyH.cons (by simp only [List.getElem?_toArray, List.getElem?_cons_succ, List.getElem?_cons_zero]; rfl) (fun K hK => ?_) AllReadyH.nil
  go_simp
  go_at_call 53
  refine (OR.out _ _ (new_cell _ _ _ 0 _ (by simp)) (new_cell _ _ _ 1 _ (by simp))).mono ?_
  rintro e w' ⟨rfl, rfl⟩
  go_wp2_with fail
  refine hK.out _ _ (hHeld) (fun hHeld => ?_)
  clear hK K
  try simp only [Act.put, List.setIfInBounds_toArray, List.set_cons_zero, List.set_cons_succ]
  refine wpAnyH_take (i := 12) (v := ?_) (by simp only [List.getElem?_toArray, List.getElem?_cons_succ, List.getElem?_cons_zero]; rfl) (by kernel_rfl) (by kernel_rfl) (by kernel_rfl) (fun _ _ _ h => h) (Or.inl ⟨by rfl, ?_⟩) (by assumption) ?_
  rotate_left
  · (intro w hSw; (try dsimp only at hSw); go_simp; try with_reducible rfl)
  try simp only [Act.put, List.setIfInBounds_toArray, List.set_cons_zero, List.set_cons_succ]
  refine wpAnyH_done (by kernel_rfl) ?_ _
  refine NoPanic.normal ?_
  go_wp2
  go_ret
  exact ⟨by rw [HV.out]; rfl, 1, _, by rw [Sort.alloc_eq_grow, Sort.alloc_eq_grow, Sort.alloc_eq_grow, Sort.grow_grow, Sort.grow_grow]; rfl⟩

end Dots
end Go.Proofs.Ytcbnkncgacbniaa
