/- health.find: where a member's beat stands, or would stand. -/
import Derived.Test.YtfdcmmafdgagoaaBeatRefMay
import Derived.Test.YtfdcmmafdgagoaaShelf
import Derived.WalkKit
import Derived.WalkSpells
import Derived.Shelf.Abstract
import Derived.Deep.LoopGhost
import Derived.WalkArith
import Derived.Laws.Shifts
namespace Go.Proofs.Ytfdcmmafdgagoaa
namespace Beat
open Go.RowKit Go.Proofs.Ytfdcmmafdgagoaa.Order

theorem bstepB {B : Nat} {w a b : World} (hB : B ≤ w.heap.size) (h : Below B w a) (k : Below a.heap.size a b) : Below B w b := h.trans (k.mono (Nat.le_trans hB h.size))
/-- What stands ahead of i is lesser than q, the rest is not. -/
def Cut (L : List B) (q : List UInt8) (i : Nat) : Prop :=
  i ≤ L.length ∧ (∀ t (h : t < L.length), t < i → lt L[t].p q) ∧ (∀ t (h : t < L.length), i ≤ t → ¬ lt L[t].p q)
def hasB (L : List B) (q : List UInt8) : Bool := (look L q).isSome
theorem rise_at {L : List B} (h : Rise L) {i j : Nat} (hij : i < j) (hj : j < L.length) : lt (L[i]'(by omega)).p L[j].p := List.pairwise_iff_getElem.1 h i j (by omega) hj hij
theorem cut_look {L : List B} {q : List UInt8} {i : Nat} (hR : Rise L) (h : Cut L q i) : look L q = if h : i < L.length then (if L[i].p = q then some L[i] else none) else none := by
  by_cases hi : i < L.length
  · rw [dif_pos hi]
    by_cases hq : L[i].p = q
    · rw [if_pos hq, ← hq, look_mem hR (List.getElem_mem hi)]
    · rw [if_neg hq]
      refine look_none fun x hx e => ?_
      obtain ⟨t, ht, rfl⟩ := List.getElem_of_mem hx
      rcases Nat.lt_trichotomy t i with h1 | h1 | h1
      · exact lt_ne (h.2.1 t ht h1) e
      · subst h1; exact hq e
      · have h2 := rise_at hR h1 ht
        rw [e] at h2
        exact h.2.2 i hi (Nat.le_refl _) h2
  · rw [dif_neg hi]
    refine look_none fun x hx e => ?_
    obtain ⟨t, ht, rfl⟩ := List.getElem_of_mem hx
    exact lt_ne (h.2.1 t ht (by omega)) e
theorem cut_has {L : List B} {q : List UInt8} {i : Nat} (hR : Rise L) (h : Cut L q i) (hi : i < L.length) : hasB L q = decide (L[i].p = q) := by
  unfold hasB
  rw [cut_look hR h, dif_pos hi]
  by_cases hq : L[i].p = q
  · rw [if_pos hq, decide_eq_true hq]; rfl
  · rw [if_neg hq, decide_eq_false hq]; rfl
theorem cut_hasnt {L : List B} {q : List UInt8} {i : Nat} (hR : Rise L) (h : Cut L q i) (hi : ¬ i < L.length) : hasB L q = false := by
  unfold hasB
  rw [cut_look hR h, dif_neg hi]; rfl
def B.agg (x : B) : Value := .agg #[.string ⟨x.p.toArray⟩, .int .u64 (x.n : Int), .bool x.bad]
theorem agg_def (x : B) : x.agg = .agg #[.string ⟨x.p.toArray⟩, .int .u64 (x.n : Int), .bool x.bad] := rfl

set_option maxRecDepth 100000 in
set_option maxHeartbeats 1000000 in
theorem cmp_any (x : B) (q : List UInt8) (w : World) : Calls Try.prog 31 #[x.agg, .string ⟨q.toArray⟩] w fun e w' => e = .returned (.int .i64 (Lib.compareBytes x.p q)) ∧ Below w.heap.size w w' := by
  have C := Lib.hid (fun w => Try.strings_Compare ⟨x.p.toArray⟩ ⟨q.toArray⟩ w)
  have hb := Below.refl w.heap.size w
  rw [agg_def]
  go_enter Try.func31, Try.ntmps31
  go_wp2_with fail
  refine (C.out _).mono ?_
  rintro e w1 ⟨rfl, rfl⟩
  go_wp2
  go_ret
  exact ⟨rfl, balloc hb _⟩

set_option maxRecDepth 100000 in
set_option maxHeartbeats 4000000 in
theorem search_any (g : Nat) (eg : ∀ args w, (callFunc g args).run Try.prog w = .ok (.enter g args) w) (q : List UInt8)
    (hC : ∀ (x : B) (w : World), Calls Try.prog g #[x.agg, .string ⟨q.toArray⟩] w fun e w' => e = .returned (.int .i64 (Lib.compareBytes x.p q)) ∧ Below w.heap.size w w')
    (L : List B) (a : Option Addr) (c : Nat) (w : World) (hL : Lies w a L.length L) (hn : L.length ≤ 1099511627776) (hR : Rise L) :
    Calls Try.prog 30 #[.slice a L.length c, .string ⟨q.toArray⟩, .func (.func g) #[] #[]] w fun e w' =>
      ∃ i : Nat, e = .returned (.tuple #[.int .i64 (i : Int), .bool (hasB L q)]) ∧ Cut L q i ∧ Below w.heap.size w w' := by
  have hb := Below.refl w.heap.size w
  have lL := Lib.hid hL
  have HR := Lib.hid hR
  have HC := Lib.hid hC
  clear hL hR hC
  go_enter Try.func30, Try.ntmps30
  go_wp2
  go_loopw [9, 10] (fun s9 s10 wr => ∃ lo hi : Nat, s9 = .int .i64 lo ∧ s10 = .int .i64 hi ∧ lo ≤ hi ∧ hi ≤ L.length ∧ Below w.heap.size w wr ∧ Hid (Lies wr a L.length L) ∧
    Hid ((∀ t (h : t < L.length), t < lo → lt L[t].p q) ∧ (∀ t (h : t < L.length), hi ≤ t → ¬ lt L[t].p q))) (fun s9 s10 _ => (intOf s10).toNat - (intOf s9).toNat)
  case atStart => exact ⟨0, L.length, rfl, rfl, Nat.zero_le _, Nat.le_refl _, hb, lL, Lib.hid ⟨fun t _ ht => absurd ht (Nat.not_lt_zero _), fun t h1 h2 => absurd h1 (by omega)⟩⟩
  case round =>
    clear hb lL
    obtain ⟨lo, hi, rfl, rfl, hlh, hin, hb, lL, I⟩ := hrel
    by_cases hlt : lo < hi
    · have hmid : (lo + hi) / 2 < L.length := by omega
      have I1 : Hid (lt L[(lo + hi) / 2].p q → ∀ t (h : t < L.length), t < (lo + hi) / 2 + 1 → lt L[t].p q) := Lib.hid fun h t ht h1 => by
        rcases Nat.lt_or_eq_of_le (Nat.le_of_lt_succ h1) with h2 | h2
        · exact lt_trans (rise_at HR.out h2 hmid) h
        · subst h2; exact h
      have I2 : Hid (¬ lt L[(lo + hi) / 2].p q → ∀ t (h : t < L.length), (lo + hi) / 2 ≤ t → ¬ lt L[t].p q) := Lib.hid fun h t ht h1 h3 => by
        rcases Nat.lt_or_eq_of_le h1 with h2 | h2
        · exact h (lt_trans (rise_at HR.out h2 ht) h3)
        · exact h (by simpa only [h2] using h3)
      obtain ⟨b, o, rfl, hcell⟩ := lies_at lL.out (by omega)
      obtain ⟨c1, c2, c3⟩ := hcell ((lo + hi) / 2) hmid
      obtain ⟨m, hm⟩ : ∃ m, m = L[(lo + hi) / 2] := ⟨_, rfl⟩
      rw [← hm] at c1 c2 c3 I1 I2
      have hc := Lib.hid (HC.out m)
      rw [agg_def] at hc
      clear hm hcell
      by_cases hyx : lt m.p q
      · have d1 : decide (Lib.compareBytes m.p q < 0) = true := decide_eq_true hyx
        replace I1 := Lib.hid (I1.out hyx)
        clear I2
        replace hyx := Lib.hid hyx
        go_wp2_with (go_at_fn g; refine (hc.out _).mono ?_; rintro e w1 ⟨rfl, k1⟩)
        go_roundw
        case rel =>
          exact ⟨(lo + hi) / 2 + 1, hi, by go_num, rfl, by omega, hin, bstep hb k1, Lib.hid (lL.out.below k1), Lib.hid ⟨I1.out, I.out.2⟩⟩
        case measure => simp [intOf]; omega
      · have d1 : decide (Lib.compareBytes m.p q < 0) = false := decide_eq_false hyx
        replace I2 := Lib.hid (I2.out hyx)
        clear I1
        replace hyx := Lib.hid hyx
        go_wp2_with (go_at_fn g; refine (hc.out _).mono ?_; rintro e w1 ⟨rfl, k1⟩)
        go_roundw
        case rel =>
          exact ⟨lo, (lo + hi) / 2, rfl, by go_num, by omega, by omega, bstep hb k1, Lib.hid (lL.out.below k1), Lib.hid ⟨I.out.1, I2.out⟩⟩
        case measure => simp [intOf]; omega
    · obtain rfl : hi = lo := by omega
      have HX : Hid (Cut L q hi) := Lib.hid ⟨hin, I.out.1, I.out.2⟩
      clear I
      by_cases hn : hi < L.length
      · have H2 := cut_has HR.out HX.out hn
        obtain ⟨b, o, rfl, hcell⟩ := lies_at lL.out (by omega)
        obtain ⟨c1, c2, c3⟩ := hcell hi hn
        obtain ⟨m, hm⟩ : ∃ m, m = L[hi] := ⟨_, rfl⟩
        rw [← hm] at c1 c2 c3 H2
        have hc := Lib.hid (HC.out m)
        rw [agg_def] at hc
        have H3 := cmp_iff m.p q
        clear hm hcell
        by_cases hyx : m.p = q
        · have H4 := H3.2 hyx
          have d1 : ((Lib.compareBytes m.p q) == (0 : Int)) = true := by rw [H4]; rfl
          have d2 : decide (Lib.compareBytes m.p q = (0 : Int)) = true := decide_eq_true H4
          rw [decide_eq_true hyx] at H2
          replace H2 := Lib.hid H2
          clear H3 H4 hyx
          go_wp2_with (go_at_fn g; refine (hc.out _).mono ?_; rintro e w1 ⟨rfl, k1⟩)
          go_ret2
          exact ⟨hi, by rw [H2.out]; rfl, HX.out, bstep hb k1⟩
        · have H4 := fun h => hyx (H3.1 h)
          have d1 : ((Lib.compareBytes m.p q) == (0 : Int)) = false := by rw [beq_eq_false_iff_ne]; exact H4
          have d2 : decide (Lib.compareBytes m.p q = (0 : Int)) = false := decide_eq_false H4
          rw [decide_eq_false hyx] at H2
          replace H2 := Lib.hid H2
          clear H3 H4 hyx
          go_wp2_with (go_at_fn g; refine (hc.out _).mono ?_; rintro e w1 ⟨rfl, k1⟩)
          go_ret2
          exact ⟨hi, by rw [H2.out]; rfl, HX.out, bstep hb k1⟩
      · have H2 := Lib.hid (cut_hasnt HR.out HX.out hn)
        go_wp2
        go_ret2
        exact ⟨hi, by rw [H2.out]; rfl, HX.out, hb⟩

set_option maxRecDepth 100000 in
set_option maxHeartbeats 1000000 in
theorem find_any (L : List B) (q : List UInt8) (a : Option Addr) (c : Nat) (w : World) (hL : Lies w a L.length L) (hn : L.length ≤ 1099511627776) (hR : Rise L) :
    Calls Try.prog 22 #[.slice a L.length c, .string ⟨q.toArray⟩] w fun e w' => ∃ i : Nat, e = .returned (.tuple #[.int .i64 (i : Int), .bool (hasB L q)]) ∧ Cut L q i ∧ Below w.heap.size w w' := by
  have C := Lib.hid (search_any 31 (enters_of Try.func31 (by kernel_rfl) rfl) q (fun x w => cmp_any x q w) L a c w hL hn hR)
  clear hL hR
  go_enter Try.func22, Try.ntmps22
  go_wp2_with fail
  refine C.out.mono ?_
  rintro e w1 ⟨i, rfl, h1, k1⟩
  have HI := Lib.hid h1
  go_wp2
  go_ret2
  exact ⟨i, rfl, HI.out, k1⟩
end Beat
end Go.Proofs.Ytfdcmmafdgagoaa
