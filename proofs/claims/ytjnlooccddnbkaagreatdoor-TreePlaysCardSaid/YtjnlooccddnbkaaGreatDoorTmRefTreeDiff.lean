/- The reference of Tree: Diff; the law's ints. -/
import Derived.Test.YtjnlooccddnbkaaGreatDoorTmRefTreeNode
import Derived.Test.YtjnlooccddnbkaaGreatDoorTmTreeDiff
import Derived.Test.YtjnlooccddnbkaaGreatDoorTmRefDotMay
namespace Go.Proofs.YtjnlooccddnbkaaGreatDoor
namespace RefTree
open Go.RowKit Go.Proofs.YtjnlooccddnbkaaGreatDoor.Mark Go.Proofs.YtjnlooccddnbkaaGreatDoor.Dots Go.Proofs.YtjnlooccddnbkaaGreatDoor.Tree
theorem flat_le (l : List It) (f : List UInt8 → Nat) : (∀ q, ofL (l.flatMap It.s) q ≤ f q) ↔ ∀ x ∈ l, ∀ q, ofL x.s q ≤ f q := by
  induction l with
  | nil => exact Iff.intro (fun _ x hx => by cases hx) (fun _ q => Nat.zero_le _)
  | cons y l ih =>
    rw [List.flatMap_cons]
    constructor
    · intro h x hx q
      have h1 := fun q => (RefDots.ofL_append y.s (l.flatMap It.s) q).symm ▸ h q
      rcases List.mem_cons.1 hx with rfl | hx
      · have := h1 q; omega
      · exact ih.1 (fun q => by have := h1 q; omega) x hx q
    · intro h q
      rw [RefDots.ofL_append]
      have h1 := h y (List.mem_cons_self ..) q
      have h2 := ih.2 (fun x hx => h x (List.mem_cons_of_mem _ hx)) q
      omega
theorem lacks_iff {l : List It} {base R : List M} {i : Nat} (hR : IsVec R (ofL ((items l i).flatMap It.s))) : (∀ q, ofL R q ≤ ofL base q) ↔ ¬ Lacks l base i := by
  have e : (∀ q, ofL R q ≤ ofL base q) ↔ ∀ q, ofL ((items l i).flatMap It.s) q ≤ ofL base q := by
    constructor
    · intro h q; rw [← hR.2 q]; exact h q
    · intro h q; have := h q; rw [← hR.2 q] at this; exact this
  rw [e, flat_le]
  unfold Lacks
  constructor
  · rintro h ⟨x, hx, hn⟩; exact hn (h x hx)
  · intro h x hx
    exact Classical.byContradiction fun hn => h ⟨x, hx, hn⟩

set_option maxRecDepth 100000 in
set_option maxHeartbeats 8000000 in
theorem diff_any {w x : World} {rb : Nat} {L : List RI} (base : List M) (a : Option Addr) (nb c : Nat) (h : Is w x rb L) (hwx : Below w.heap.size w x) (hn : L.length ≤ 256) (hf : ∀ y ∈ L, y.k.length ≤ 1048576 ∧ y.b.length ≤ 1048576 ∧ Ok y.s ∧ y.s.length ≤ 512)
    (hb : Mark.Lies x a nb base) (hok : Ok base) (hnb : nb ≤ 549755813888) (cc : Nat → Bool) (hcc : ∀ i, cc i = true ↔ Lacks (L.map RI.it) base i) :
    Calls Tryz.prog 30 #[.pointer (some ⟨rb, 0, none⟩), .slice a nb c] x fun e y => ∃ a' c', e = .returned (.slice a' (if mayL base then sel cc 16 else []).length c') ∧ Row.Lies (Ones.enc .i64) y a' (if mayL base then sel cc 16 else []).length (if mayL base then sel cc 16 else []) ∧ Below x.heap.size x y := by
  have MA := Lib.hid (RefDots.may_any base a nb c x hb (by omega) hok)
  obtain ⟨mb1, hmb1⟩ : ∃ b, b = mayL base := ⟨_, rfl⟩
  rw [← hmb1] at MA ⊢
  have H := Lib.hid h
  have LEAF := Lib.hid (fun i W (k : Below x.heap.size x W) => leaf_any i (h.below k) (bstep hwx k) hn hf)
  have HBL := Lib.hid hb
  have HOK := Lib.hid hok
  have HNB := Lib.hid hnb
  have HCC := Lib.hid hcc
  have hb0 := Below.refl x.heap.size x
  clear h hwx hb hok hnb hcc hmb1 hf hn
  go_enter Tryz.func30, Tryz.ntmps30
  go_wp2_with fail
  refine MA.out.mono ?_
  rintro e w2 ⟨rfl, k2⟩
  have hb := bstep hb0 k2
  clear k2 MA hb0
  cases mb1
  · go_wp2
    go_ret
    exact ⟨none, ⟨0, rfl⟩, Row.Lies.nil _ _, hb⟩
  go_wp2_with fail
  go_loopw [5, 6, 7, 8] (fun lv iv _ _ wr => ∃ (q : Nat) (v : Value), q ≤ 16 ∧ v = lv ∧ iv = .int .i64 (q : Int) ∧ Hid (Row.Own (Ones.enc .i64) 3 wr x.heap.size v (sel cc q)) ∧ Below x.heap.size x wr) (fun _ iv _ _ _ => 16 - (intOf iv).toNat)
  case atStart => exact ⟨0, _, by omega, rfl, rfl, Lib.hid (Row.Own.nil _ _), hb⟩
  case round =>
    clear hb
    obtain ⟨q, lv, hq, rfl, rfl, OW, hb⟩ := hrel
    by_cases hlt : q < 16
    rotate_left
    · obtain rfl : q = 16 := by omega
      have e1 : decide (((16 : Nat) : Int) < 16) = false := by decide
      obtain ⟨av, cv, rfl, -, -, hl, -⟩ := OW.out.lies
      have LL := Lib.hid hl
      obtain ⟨nv, hnv⟩ : ∃ n, n = (sel cc 16).length := ⟨_, rfl⟩
      have HNV := Lib.hid hnv
      rw [← hnv] at LL ⊢
      clear hl hnv hlt hq OW
      go_wp2
      refine bodyPost_ret (v := .slice av nv cv) (by simp [results, Tryz.f30, go_sem]) rfl ?_
      exact ⟨av, ⟨cv, by rw [HNV.out]⟩, by rw [← HNV.out]; exact LL.out, hb⟩
    have e1 : decide ((q : Int) < 16) = true := decide_eq_true (by omega)
    have HQ := Lib.hid hlt
    have hw : wrap64 ((q : Int) + 1) = ((q + 1 : Nat) : Int) := by unfold wrap64; omega
    clear hlt hq
    go_wp2_with fail
    refine (LEAF.out q _ hb).mono ?_
    rintro e w3 ⟨a1, c1, R, rfl, hv, hrn, hro, hrl, k3⟩
    have HI := Lib.hid (lacks_iff (base := base) hv)
    have hb3 := bstep hb k3
    have OW3 := Lib.hid (OW.out.below k3)
    have CV := Lib.hid (RefDots.covers_any base R a a1 nb R.length c c1 w3 (HBL.out.below hb3) hrl HNB.out (by omega) HOK.out hro)
    obtain ⟨nr, hnr⟩ : ∃ n, n = R.length := ⟨_, rfl⟩
    rw [← hnr] at CV ⊢
    clear hv hrn hro hrl k3 OW hb hnr
    go_wp2_with fail
    refine CV.out.mono ?_
    rintro e w4 ⟨r, rfl, hr, k4⟩
    have hb4 := bstep hb3 k4
    have OW4 := Lib.hid (OW3.out.below k4)
    have hz4 : x.heap.size ≤ w4.heap.size := hb4.size
    have HR := Lib.hid hr
    clear hr k4 OW3 CV hb3
    cases r
    rotate_left
    · have hno : cc q = false := by
        cases h : cc q with
        | false => rfl
        | true => exact absurd ((HCC.out q).1 h) (HI.out.1 (HR.out.1 rfl))
      have OW5 : Hid (Row.Own (Ones.enc .i64) 3 w4 x.heap.size lv (sel cc (q + 1))) := Lib.hid (by rw [sel_no hno]; exact OW4.out)
      clear hno
      go_wp2
      go_roundw
      case rel => exact ⟨q + 1, _, by have := HQ.out; omega, rfl, by rw [hw], OW5, hb4⟩
      case measure => have := HQ.out; rw [hw]; simp only [intOf]; omega
    have hyes : cc q = true := (HCC.out q).2 (Classical.byContradiction fun h => by cases HR.out.2 (HI.out.2 h))
    have hsl : (sel cc q).length + 1 ≤ 1099511627776 := by have := sel_len cc q; have := HQ.out; omega
    go_wp2_with (at_builtin; refine Ones.wpList_app_place typ_int rfl _ _ rfl x.heap.size _ (sel cc q) rfl (OW4.out.alloc _) _ 1 1 [(q : Int)] rfl (Row.lies_new (E := Ones.enc .i64) _ _ _) hsl (by rw [World.size_alloc]; omega) ?_; intro v9 w9 o9 g9 k9 p9)
    have OW9 : Hid (Row.Own (Ones.enc .i64) 3 w9 x.heap.size v9 (sel cc (q + 1))) := Lib.hid (by rw [sel_yes hyes]; exact o9)
    have hb9 := (balloc hb4 _).trans k9
    clear o9 g9 k9 p9 hyes hsl
    go_roundw
    case rel => exact ⟨q + 1, _, by have := HQ.out; omega, rfl, by rw [hw], OW9, hb9⟩
    case measure => have := HQ.out; rw [hw]; simp only [intOf]; omega
end RefTree
end Go.Proofs.YtjnlooccddnbkaaGreatDoor
