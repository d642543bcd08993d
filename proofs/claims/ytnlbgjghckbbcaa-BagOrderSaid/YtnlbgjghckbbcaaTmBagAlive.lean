/- bag: the law's alive. -/
import Derived.Test.YtnlbgjghckbbcaaTmBagE
import Derived.Test.YtnlbgjghckbbcaaTmBagF
import Derived.Test.YtnlbgjghckbbcaaTmBagD
import Derived.Test.YtnlbgjghckbbcaaTmRefB
namespace Go.Proofs.Ytnlbgjghckbbcaa
namespace BagLaw
open Go.RowKit Go.Proofs.Ytnlbgjghckbbcaa.Mark Go.Proofs.Ytnlbgjghckbbcaa.Dots Go.Proofs.Ytnlbgjghckbbcaa.Bag
def one1 : M := ⟨[1], 1⟩
def two1 : M := ⟨[1], 2⟩
def x12 : M := ⟨[120], 12⟩
def bagOf (m : M) : List It := [⟨[97], [m]⟩]
theorem bagOf_is (m : M) : IsBag (bagOf m) (fun t m' => t = [97] ∧ m' = m) := by
  refine ⟨⟨by simp [bagOf], fun x hx => ?_⟩, fun t m' => ?_⟩
  · rw [List.mem_singleton.1 hx]; simp
  · unfold bagOf
    rw [has_one]; simp
theorem bagOf_has (m : M) (t : List UInt8) (m' : M) : Has (bagOf m) t m' ↔ t = [97] ∧ m' = m := (bagOf_is m).2 t m'
theorem fine_one {m : M} (h : m.p.length ≤ 1) (k : m.n ≤ 100) : Fine (bagOf m) where
  items := by show 1 ≤ _; decide
  few := by show 1 ≤ _; decide
  fine p hp := by
    obtain rfl : p = ⟨[97], m⟩ := by simpa [bagOf, pls, onT] using hp
    have : 1 ≤ maxLen := by decide
    exact ⟨by show 1 ≤ _; decide, by show m.p.length ≤ _; omega, by show m.n ≤ _; omega⟩
theorem fine_nil : Fine [] := ⟨by decide, by decide, fun p hp => by cases hp⟩
theorem works_put (L : List It) (hL0 : L = [] ∨ L = bagOf one1) (m : M) (hm : m = one1 ∨ m = two1) (a : Option Addr) (c : Nat) (w : World) (hL : Bag.Lies w a L.length L) :
    Calls Try.prog 13 #[.slice a L.length c, .string ⟨#[97]⟩, .agg #[.string ⟨m.p.toArray⟩, .int .u64 (m.n : Int)]] w fun e w' => ∃ a c, e = .returned (.tuple #[.slice a 1 c, .int .i64 0]) ∧ Bag.Lies w' a 1 (bagOf m) ∧ Below w.heap.size w w' := by
  have hf : Fine L := by
    rcases hL0 with rfl | rfl
    · exact fine_nil
    · exact fine_one (by decide) (by decide)
  have hd : dFine m := by
    have : 1 ≤ maxLen := by decide
    rcases hm with rfl | rfl <;> exact ⟨by show 1 ≤ _; decide, by decide⟩
  have ht : ∀ t m', Has L t m' → t = [97] := fun t m' h => by
    rcases hL0 with rfl | rfl
    · obtain ⟨x, hx, _⟩ := h; cases hx
    · exact ((bagOf_has _ _ _).1 h).1
  refine (put_any L [97] m a L.length c w hL hf hd (by show 1 ≤ _; decide) [] ⟨⟨List.Pairwise.nil, fun _ h => by cases h⟩, fun t m' => ⟨fun ⟨_, h, _⟩ => (by cases h), fun ⟨h1, h2⟩ => absurd (ht t m' h1) h2⟩⟩ (by rcases hL0 with rfl | rfl <;> decide)).mono ?_
  rintro e w' ⟨k, h⟩
  rcases h with ⟨h, _⟩ | ⟨_, h, _⟩ | ⟨_, _, a', c', Q, rfl, hQ, -, hl⟩
  · exact absurd h (by decide)
  · exact absurd h (by decide)
  · obtain rfl : Q = bagOf m := hQ.uniq ((bagOf_is m).congr fun t m' => ⟨fun ⟨h1, h2⟩ => .inr ⟨h1, h2⟩, fun h => by
      rcases h with ⟨h1, h2⟩ | ⟨h1, h2⟩
      · exact absurd (ht t m' h1) h2
      · exact ⟨h1, h2⟩⟩)
    exact ⟨a', c', rfl, hl.lies, k⟩
theorem works_take (a : Option Addr) (c : Nat) (w : World) (hL : Bag.Lies w a 1 (bagOf one1)) :
    Calls Try.prog 14 #[.slice a 1 c, .string ⟨#[97]⟩] w fun e w' => ∃ a c, e = .returned (.slice a 0 c) ∧ Bag.Lies w' a 0 [] ∧ Below w.heap.size w w' := by
  refine (take_any (bagOf one1) [97] a 1 c w hL (fine_one (by decide) (by decide))).mono ?_
  rintro e w' ⟨a', c', R, rfl, hR, -, hl, k⟩
  obtain rfl : R = [] := hR.uniq ((IsBag.nil).congr fun t m => ⟨False.elim, fun ⟨h1, h2⟩ => h2 ((bagOf_has _ _ _).1 h1).1⟩)
  exact ⟨a', c', rfl, hl.lies, k⟩
theorem works_join (a b sa ob : Option Addr) (ca cb cs co : Nat) (w : World) (hL : Bag.Lies w a 1 (bagOf two1)) (hB : Bag.Lies w b 0 []) (hS : Mark.Lies w sa 1 [two1]) (hO : Mark.Lies w ob 1 [one1]) :
    Calls Try.prog 10 #[.slice a 1 ca, .slice sa 1 cs, .slice b 0 cb, .slice ob 1 co] w fun e w' => ∃ a c, e = .returned (.slice a 1 c) ∧ Bag.Lies w' a 1 (bagOf two1) ∧ Below w.heap.size w w' := by
  refine (Bag.join_any (bagOf two1) [] [two1] [one1] a b sa ob 1 0 1 1 ca cb cs co w hL hB hS hO (fine_one (by decide) (by decide)) fine_nil (by decide) (by decide) (fun m hm => by rw [List.mem_singleton.1 hm]; exact ⟨by decide, by decide⟩) (fun m hm => by rw [List.mem_singleton.1 hm]; exact ⟨by decide, by decide⟩) (by decide)).mono ?_
  rintro e w' ⟨a', c', R, rfl, hR, -, hl, k⟩
  obtain rfl : R = bagOf two1 := hR.uniq ((bagOf_is two1).congr fun t m => by
    unfold Joined
    simp only [bagOf_has]
    constructor
    · rintro ⟨rfl, rfl⟩
      exact .inl ⟨⟨rfl, rfl⟩, .inr (by decide +kernel)⟩
    · rintro (⟨h, _⟩ | ⟨h, _⟩)
      · exact h
      · obtain ⟨x, hx, _⟩ := h; cases hx)
  exact ⟨a', c', rfl, hl.lies, k⟩
theorem works_turn (a : Option Addr) (c : Nat) (w : World) (hL : Bag.Lies w a 1 (bagOf two1)) :
    Calls Try.prog 16 #[.slice a 1 c, .agg #[.string ⟨#[1]⟩, .int .u64 0, .string ⟨#[120]⟩, .int .u64 10]] w fun e w' => ∃ a c, e = .returned (.slice a 1 c) ∧ Bag.Lies w' a 1 (bagOf x12) ∧ Below w.heap.size w w' := by
  refine (turn_any (bagOf two1) [1] [120] 0 10 a 1 c w hL (fine_one (by decide) (by decide)) (by show 1 ≤ _; decide)).mono ?_
  rintro e w' ⟨a', c', R, rfl, hR, -, hl, k⟩
  obtain rfl : R = bagOf x12 := hR.uniq ((bagOf_is x12).congr fun t m => by
    simp only [bagOf_has]
    constructor
    · rintro ⟨rfl, rfl⟩
      exact ⟨two1, ⟨rfl, rfl⟩, by decide +kernel⟩
    · rintro ⟨x, ⟨rfl, rfl⟩, rfl⟩
      exact ⟨rfl, by decide +kernel⟩)
  exact ⟨a', c', rfl, hl.lies, k⟩
theorem works_texts (a : Option Addr) (c : Nat) (w : World) (hL : Bag.Lies w a 1 (bagOf two1)) :
    Calls Try.prog 18 #[.slice a 1 c] w fun e w' => ∃ b o c, e = .returned (.slice (some ⟨b, o, none⟩) 1 c) ∧ w'.cell? ⟨b, o, none⟩ = some (.string ⟨#[97]⟩) ∧ Below w.heap.size w w' := by
  refine (texts_any (bagOf two1) a 1 c w hL (fine_one (by decide) (by decide)) (bagOf two1) ((bagOf_is two1).congr fun t m => (bagOf_has _ _ _).symm)).mono ?_
  rintro e w' ⟨a', c', rfl, hl, k⟩
  obtain ⟨b, o, rfl, hc⟩ := Words.words_at hl (by show 0 < 1; decide)
  exact ⟨b, o, c', rfl, hc 0 (by show 0 < 1; decide), k⟩
theorem works_may (a : Option Addr) (c : Nat) (w : World) (hL : Bag.Lies w a 1 (bagOf two1)) :
    Calls Try.prog 12 #[.slice a 1 c] w fun e w' => e = .returned (.bool true) ∧ Below w.heap.size w w' := by
  refine (may_any (bagOf two1) a 1 c w hL (fine_one (by decide) (by decide))).mono ?_
  rintro e w' ⟨rfl, k⟩
  exact ⟨by rw [show mayB (bagOf two1) = true by decide +kernel], k⟩
/-- An item with one dot in new blocks. -/
theorem lies_one (w : World) (m : M) : Bag.Lies ((w.alloc (.cells #[.string ⟨m.p.toArray⟩, .int .u64 (m.n : Int)] 31)).alloc (.cells #[.string ⟨#[97]⟩, .slice (some ⟨w.heap.size, 0, none⟩) 1 1] 42)) (some ⟨w.heap.size + 1, 0, none⟩) 1 (bagOf m) := by
  refine ⟨[⟨[97], some ⟨w.heap.size, 0, none⟩, 1, [m]⟩], rfl, ?_, fun x hx => ?_⟩
  · have h := Row.lies_new (E := iE) (w.alloc (.cells #[.string ⟨m.p.toArray⟩, .int .u64 (m.n : Int)] 31)) ⟨[97], some ⟨w.heap.size, 0, none⟩, 1, [m]⟩ 42
    rw [World.size_alloc] at h
    exact h
  · rw [List.mem_singleton.1 hx]
    exact Row.Lies.below (Row.lies_new (E := dE) w m 31) (balloc (Below.refl _ _) _)
theorem works_same (m : M) (a : Option Addr) (c c2 : Nat) (w0 w : World) (hL : Bag.Lies w0 a 1 (bagOf m)) (hw : w = (w0.alloc (.cells #[.string ⟨m.p.toArray⟩, .int .u64 (m.n : Int)] 31)).alloc (.cells #[.string ⟨#[97]⟩, .slice (some ⟨w0.heap.size, 0, none⟩) 1 1] 42)) :
    Calls Try.prog 9 #[.slice a 1 c, .slice (some ⟨w0.heap.size + 1, 0, none⟩) 1 c2] w fun e w' => e = .returned (.bool true) ∧ Below w.heap.size w w' := by
  subst hw
  refine (RefBag.same_any (bagOf m) (bagOf m) a _ 1 1 c c2 _ (hL.below (balloc (balloc (Below.refl _ _) _) _)) (lies_one w0 m) (by decide) (fun x hx => by rw [List.mem_singleton.1 hx]; show 1 ≤ _; decide)).mono ?_
  rintro e w' ⟨rfl, k⟩
  exact ⟨by simp, k⟩
set_option maxRecDepth 100000 in
set_option maxHeartbeats 4000000 in
theorem alive_any (w : World) : Calls Try.prog 8 #[] w fun e w' => e = .returned (.bool true) ∧ Below w.heap.size w w' := by
  have hb0 := balloc (balloc (Below.refl w.heap.size w) (.cells #[.string ⟨#[1]⟩, .int .u64 1] 31)) (.cells #[.string ⟨#[1]⟩, .int .u64 2] 31)
  have f0 : ((w.alloc (.cells #[.string ⟨#[1]⟩, .int .u64 1] 31)).alloc (.cells #[.string ⟨#[1]⟩, .int .u64 2] 31)).cell? ⟨w.heap.size, 0, none⟩ = some (.string ⟨#[1]⟩) := Lib.cell?_alloc_some _ (by rw [World.cell?_alloc_new]; rfl)
  have f1 : ((w.alloc (.cells #[.string ⟨#[1]⟩, .int .u64 1] 31)).alloc (.cells #[.string ⟨#[1]⟩, .int .u64 2] 31)).cell? ⟨w.heap.size, 1, none⟩ = some (.int .u64 1) := Lib.cell?_alloc_some _ (by rw [World.cell?_alloc_new]; rfl)
  have f2 : ((w.alloc (.cells #[.string ⟨#[1]⟩, .int .u64 1] 31)).alloc (.cells #[.string ⟨#[1]⟩, .int .u64 2] 31)).cell? ⟨w.heap.size + 1, 0, none⟩ = some (.string ⟨#[1]⟩) := by rw [← World.size_alloc w (.cells #[.string ⟨#[1]⟩, .int .u64 1] 31), World.cell?_alloc_new]; rfl
  have f3 : ((w.alloc (.cells #[.string ⟨#[1]⟩, .int .u64 1] 31)).alloc (.cells #[.string ⟨#[1]⟩, .int .u64 2] 31)).cell? ⟨w.heap.size + 1, 1, none⟩ = some (.int .u64 2) := by rw [← World.size_alloc w (.cells #[.string ⟨#[1]⟩, .int .u64 1] 31), World.cell?_alloc_new]; rfl
  go_enter Try.func8, Try.ntmps8
  go_upto_region 2 with (fail)
  obtain ⟨w1, hw1⟩ : ∃ v, v = (w.alloc (.cells #[.string ⟨#[1]⟩, .int .u64 1] 31)).alloc (.cells #[.string ⟨#[1]⟩, .int .u64 2] 31) := ⟨_, rfl⟩
  rw [← hw1] at hb0 f0 f1 f2 f3 ⊢
  obtain ⟨b2, hb2⟩ : ∃ b, b = w.heap.size + 1 := ⟨_, rfl⟩
  obtain ⟨b1, hb1⟩ : ∃ b, b = w.heap.size := ⟨_, rfl⟩
  rw [← hb2] at f2 f3 ⊢
  rw [← hb1] at f0 f1 ⊢
  have hb := hb0
  clear hw1 hb1 hb2 hb0
  go_wp2_with fail
  refine (works_put [] (.inl rfl) one1 (.inl rfl) none 0 _ (Bag.Lies.nil _ _)).mono ?_
  rintro e v1 ⟨a1, c1, rfl, l1, k1⟩
  replace f0 := (Dots.keepC f0 k1)
  replace f1 := (Dots.keepC f1 k1)
  replace f2 := (Dots.keepC f2 k1)
  replace f3 := (Dots.keepC f3 k1)
  replace hb := bstep hb k1
  clear k1
  replace l1 := Lib.hid l1
  go_wp2_with fail
  refine (works_take a1 c1 _ l1.out).mono ?_
  rintro e v2 ⟨a2, c2, rfl, l2, k2⟩
  replace f0 := (Dots.keepC f0 k2)
  replace f1 := (Dots.keepC f1 k2)
  replace f2 := (Dots.keepC f2 k2)
  replace f3 := (Dots.keepC f3 k2)
  replace l1 := Lib.hid (Bag.Lies.below l1.out k2)
  replace hb := bstep hb k2
  clear k2
  replace l2 := Lib.hid l2
  go_wp2_with fail
  refine (works_put (bagOf one1) (.inr rfl) two1 (.inr rfl) a1 c1 _ l1.out).mono ?_
  rintro e v3 ⟨a3, c3, rfl, l3, k3⟩
  replace f0 := (Dots.keepC f0 k3)
  replace f1 := (Dots.keepC f1 k3)
  replace f2 := (Dots.keepC f2 k3)
  replace f3 := (Dots.keepC f3 k3)
  replace l1 := Lib.hid (Bag.Lies.below l1.out k3)
  replace l2 := Lib.hid (Bag.Lies.below l2.out k3)
  replace hb := bstep hb k3
  clear k3
  replace l3 := Lib.hid l3
  clear l1
  clear f0 f1
  have hbm := balloc (balloc (Below.refl v3.heap.size v3) (.cells #[.string ⟨#[1]⟩, .int .u64 2] 62)) (.cells #[.string ⟨#[1]⟩, .int .u64 1] 62)
  have s1 : Mark.Lies ((v3.alloc (.cells #[.string ⟨#[1]⟩, .int .u64 2] 62)).alloc (.cells #[.string ⟨#[1]⟩, .int .u64 1] 62)) (some ⟨v3.heap.size, 0, none⟩) 1 [two1] := ⟨rfl, fun _ => ⟨v3.heap.size, 0, rfl, fun j hj => by
      obtain rfl : j = 0 := by simp at hj; exact hj
      exact ⟨Lib.cell?_alloc_some _ (by rw [World.cell?_alloc_new]; rfl), Lib.cell?_alloc_some _ (by rw [World.cell?_alloc_new]; rfl)⟩⟩⟩
  have s2 : Mark.Lies ((v3.alloc (.cells #[.string ⟨#[1]⟩, .int .u64 2] 62)).alloc (.cells #[.string ⟨#[1]⟩, .int .u64 1] 62)) (some ⟨v3.heap.size + 1, 0, none⟩) 1 [one1] := ⟨rfl, fun _ => ⟨v3.heap.size + 1, 0, rfl, fun j hj => by
      obtain rfl : j = 0 := by simp at hj; exact hj
      rw [← World.size_alloc v3 (.cells #[.string ⟨#[1]⟩, .int .u64 2] 62)]
      exact ⟨by rw [World.cell?_alloc_new]; rfl, by rw [World.cell?_alloc_new]; rfl⟩⟩⟩
  have JN := Lib.hid (works_join a3 a2 _ _ c3 c2 1 1 _ (Bag.Lies.below l3.out hbm) (Bag.Lies.below l2.out hbm) s1 s2)
  clear s1 s2
  go_wp2_with fail
  refine JN.out.mono ?_
  rintro e v4 ⟨a4, c4, rfl, l4, k4⟩
  replace k4 := hbm.trans (k4.mono hbm.size)
  clear JN hbm
  replace f2 := (Dots.keepC f2 k4)
  replace f3 := (Dots.keepC f3 k4)
  replace l2 := Lib.hid (Bag.Lies.below l2.out k4)
  replace l3 := Lib.hid (Bag.Lies.below l3.out k4)
  replace hb := bstep hb k4
  clear k4
  replace l4 := Lib.hid l4
  clear l3
  go_wp2_with fail
  refine (works_turn a4 c4 _ l4.out).mono ?_
  rintro e v5 ⟨a5, c5, rfl, l5, k5⟩
  replace f2 := (Dots.keepC f2 k5)
  replace f3 := (Dots.keepC f3 k5)
  replace l2 := Lib.hid (Bag.Lies.below l2.out k5)
  replace l4 := Lib.hid (Bag.Lies.below l4.out k5)
  replace hb := bstep hb k5
  clear k5
  replace l5 := Lib.hid l5
  go_wp2_with fail
  refine (works_texts a4 c4 _ l4.out).mono ?_
  rintro e v6 ⟨tb, tf, tc, rfl, t6, k6⟩
  replace f2 := (Dots.keepC f2 k6)
  replace f3 := (Dots.keepC f3 k6)
  replace l2 := Lib.hid (Bag.Lies.below l2.out k6)
  replace l4 := Lib.hid (Bag.Lies.below l4.out k6)
  replace l5 := Lib.hid (Bag.Lies.below l5.out k6)
  replace hb := bstep hb k6
  clear k6
  go_wp2_with fail
  refine (works_same two1 a4 c4 1 v6 _ l4.out rfl).mono ?_
  rintro e v7 ⟨rfl, k7⟩
  replace k7 := (balloc (balloc (Below.refl _ _) _) _).trans (k7.mono (balloc (balloc (Below.refl _ _) _) _).size)
  replace f2 := (Dots.keepC f2 k7)
  replace f3 := (Dots.keepC f3 k7)
  replace l2 := Lib.hid (Bag.Lies.below l2.out k7)
  replace l4 := Lib.hid (Bag.Lies.below l4.out k7)
  replace l5 := Lib.hid (Bag.Lies.below l5.out k7)
  replace t6 := (Dots.keepC t6 k7)
  replace hb := bstep hb k7
  clear k7
  go_wp2_with fail
  refine (works_same x12 a5 c5 1 v7 _ l5.out rfl).mono ?_
  rintro e v8 ⟨rfl, k8⟩
  replace k8 := (balloc (balloc (Below.refl _ _) _) _).trans (k8.mono (balloc (balloc (Below.refl _ _) _) _).size)
  replace f2 := (Dots.keepC f2 k8)
  replace f3 := (Dots.keepC f3 k8)
  replace l2 := Lib.hid (Bag.Lies.below l2.out k8)
  replace l4 := Lib.hid (Bag.Lies.below l4.out k8)
  replace l5 := Lib.hid (Bag.Lies.below l5.out k8)
  replace t6 := (Dots.keepC t6 k8)
  replace hb := bstep hb k8
  clear k8
  go_wp2_with fail
  refine (works_may a4 c4 _ l4.out).mono ?_
  rintro e v9 ⟨rfl, k9⟩
  replace f2 := (Dots.keepC f2 k9)
  replace f3 := (Dots.keepC f3 k9)
  replace l2 := Lib.hid (Bag.Lies.below l2.out k9)
  replace l4 := Lib.hid (Bag.Lies.below l4.out k9)
  replace l5 := Lib.hid (Bag.Lies.below l5.out k9)
  replace t6 := (Dots.keepC t6 k9)
  replace hb := bstep hb k9
  clear k9
  go_wp2
  go_ret
  exact ⟨rfl, hb⟩
end BagLaw
end Go.Proofs.Ytnlbgjghckbbcaa
