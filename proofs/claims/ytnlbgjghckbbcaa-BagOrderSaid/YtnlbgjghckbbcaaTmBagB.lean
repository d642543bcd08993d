/- Merged texts: BagKnows, BagJoin. -/
import Derived.Test.YtnlbgjghckbbcaaTmBagA
import Derived.Test.YtnlbgjghckbbcaaTmDotJ
import Derived.Test.YtnlbgjghckbbcaaTmDotA
namespace Go.Proofs.Ytnlbgjghckbbcaa
namespace Bag
open Go.RowKit Go.Maps Go.Proofs.Ytnlbgjghckbbcaa.Mark Go.Proofs.Ytnlbgjghckbbcaa.Dots
set_option maxRecDepth 100000 in
theorem cmp_by (p q : List UInt8) (x : Nat) (w : World) :
    Calls Try.prog 42 #[.agg #[.string ⟨p.toArray⟩, .int .u64 (x : Int)], .string ⟨q.toArray⟩] w fun e w' => e = .returned (.int .i64 (Lib.compareBytes p q)) ∧ Below w.heap.size w w' := by
  have h0 := Below.refl w.heap.size w
  have S := Lib.hid (fun W => Try.strings_Compare ⟨p.toArray⟩ ⟨q.toArray⟩ W)
  simp only at S
  go_enter Try.func42, Try.ntmps42
  go_wp2_with fail
  refine (S.out _).mono ?_
  rintro e w1 ⟨rfl, rfl⟩
  go_wp2
  go_ret
  exact ⟨rfl, balloc h0 _⟩
theorem slice_one (b o n c i : Nat) (hi : i < n) (hc : n ≤ c) (w : World) : (Instr.sliceAt 23 (.slice (some ⟨b, o, none⟩) n c) (some (.int .i64 (i : Int))) (some (.int .i64 ((i + 1 : Nat) : Int))) none).run Try.prog w = .ok (.slice (some ⟨b, o + i * 2, none⟩) 1 (c - i)) w := by
  have hz : (sizeOf (Try.prog.elem 23)).run Try.prog w = .ok 2 w := by kernel_rfl
  rw [run_sliceAt_slice (h := by kernel_rfl), run_slice_lh (ht := by kernel_rfl) (h0 := by omega) (h1 := by omega) (h2 := by omega), hz]
  have e1 : (i : Int).toNat = i := by omega
  have e2 : ((i + 1 : Nat) : Int).toNat = i + 1 := by omega
  simp only [Result.andThen_ok, sliced, e1, e2]
  rw [show i + 1 - i = 1 by omega]
  have h0 : ¬ c = i := by omega
  simp [Addr.add, h0]
/-- What the search finds. -/
def Found (R : List M) (q : List UInt8) (i : Nat) (r : Bool) : Prop := (r = true → ∃ h : i < R.length, R[i].p = q) ∧ (r = false → ∀ m ∈ R, m.p ≠ q)
/-- A rising list, parted at a path. -/
theorem less_mono {R : List M} (hR : R.Pairwise Less) {q : List UInt8} {i j : Nat} (hi : i < R.length) (hj : j < R.length) (hij : i ≤ j) (h : Lib.compareBytes R[j].p q < 0) : Lib.compareBytes R[i].p q < 0 := by
  rcases Nat.lt_or_ge i j with k | k
  · have h1 := List.pairwise_iff_getElem.1 hR i j hi hj k
    exact (less_trans (a := R[i]) (b := R[j]) (c := ⟨q, 0⟩) h1 h)
  · obtain rfl : i = j := by omega
    exact h
set_option maxRecDepth 100000 in
set_option maxHeartbeats 2000000 in
theorem search_any (R : List M) (q : List UInt8) (a : Option Addr) (n c : Nat) (w : World) (hL : Mark.Lies w a n R) (hR : R.Pairwise Less) (hn : n ≤ 1099511627776) :
    Calls Try.prog 41 #[.slice a n c, .string ⟨q.toArray⟩, .func (.func 42) #[] #[]] w fun e w' =>
      ∃ (i : Nat) (r : Bool), e = .returned (.tuple #[.int .i64 (i : Int), .bool r]) ∧ Found R q i r ∧ Below w.heap.size w w' := by
  have HL := Lib.hid hL
  have HR := Lib.hid hR
  have CB := Lib.hid (fun (p : List UInt8) (x : Nat) W => cmp_by p q x W)
  have h0 := Below.refl w.heap.size w
  clear hL hR
  go_enter Try.func41, Try.ntmps41
  go_wp2_with fail
  go_loopw [9, 10] (fun iv jv wr => ∃ i j : Nat, i ≤ j ∧ j ≤ n ∧ iv = .int .i64 i ∧ jv = .int .i64 j ∧ Hid (∀ t (h : t < R.length), t < i → Lib.compareBytes R[t].p q < 0) ∧ Hid (∀ t (h : t < R.length), j ≤ t → 0 ≤ Lib.compareBytes R[t].p q) ∧ Below w.heap.size w wr) (fun iv jv _ => (intOf jv).toNat - (intOf iv).toNat)
  case atStart => exact ⟨0, n, by omega, by omega, rfl, rfl, Lib.hid (fun t _ h => absurd h (by omega)), Lib.hid (fun t h k => by have := HL.out.1; omega), h0⟩
  case round =>
    clear h0
    obtain ⟨i, j, hij, hjn, rfl, rfl, H1, H2, hb⟩ := hrel
    by_cases hlt : i < j
    · have d1 : decide ((i : Int) < (j : Int)) = true := decide_eq_true (by omega)
      obtain ⟨h, hh⟩ : ∃ h, h = (i + j) / 2 := ⟨_, rfl⟩
      have hhi : i ≤ h := by omega
      have hhj : h < j := by omega
      have hhl : h < R.length := by have := HL.out.1; omega
      obtain ⟨b, o, rfl, hc⟩ := (HL.out.below hb).2 (by omega)
      obtain ⟨c0, c1⟩ := hc h hhl
      have hm1 := fun t (ht : t < R.length) (k : t ≤ h) => less_mono HR.out (q := q) ht hhl k
      have hm2 := fun t (ht : t < R.length) (k : h ≤ t) => less_mono HR.out (q := q) hhl ht k
      obtain ⟨m, hm⟩ : ∃ m, m = R[h] := ⟨_, rfl⟩
      rw [← hm] at c0 c1 hm1 hm2
      have HM1 := Lib.hid hm1
      have HM2 := Lib.hid hm2
      obtain ⟨p, x⟩ := m
      rw [hh] at c0 c1
      have j1 : (0 : Int) ≤ ((i : Int) + (j : Int)) / 2 := by omega
      have j2 : ((i : Int) + (j : Int)) / 2 < (n : Int) := by omega
      have j3 : (i + j) / 2 < n := by omega
      obtain ⟨z, hz⟩ : ∃ z, z = Lib.compareBytes p q := ⟨_, rfl⟩
      have CB1 := Lib.hid (CB.out p x)
      rw [← hz] at CB1
      have HZ := Lib.hid hz
      have HH := Lib.hid (And.intro hhi (And.intro hhj hh))
      clear hc hm hm1 hm2 hz hh
      by_cases hzn : z < 0
      · have d3 : decide (z < 0) = true := decide_eq_true hzn
        have N1 : Hid (∀ t (ht : t < R.length), t < h + 1 → Lib.compareBytes R[t].p q < 0) := Lib.hid (fun t ht k => HM1.out t ht (by omega) (by show Lib.compareBytes p q < 0; rw [← HZ.out]; exact hzn))
        clear hzn
        go_wp2_with fail
        refine (CB1.out _).mono ?_
        rintro e v1 ⟨rfl, k1⟩
        go_wp2
        have hbx := bstep hb k1
        go_roundw
        case rel => exact ⟨h + 1, j, by have := HH.out; omega, hjn, by have := HH.out; congr 1; omega, rfl, N1, H2, hbx⟩
        case measure => have := HH.out; simp only [intOf]; omega
      · have d3 : decide (z < 0) = false := decide_eq_false hzn
        have N2 : Hid (∀ t (ht : t < R.length), h ≤ t → 0 ≤ Lib.compareBytes R[t].p q) := Lib.hid (fun t ht k => Int.not_lt.1 (fun c => hzn (by rw [HZ.out]; exact HM2.out t ht k c)))
        clear hzn
        go_wp2_with fail
        refine (CB1.out _).mono ?_
        rintro e v1 ⟨rfl, k1⟩
        go_wp2
        have hbx := bstep hb k1
        go_roundw
        case rel => exact ⟨i, h, by have := HH.out; omega, by have := HH.out; omega, rfl, by have := HH.out; congr 1; omega, H1, N2, hbx⟩
        case measure => have := HH.out; simp only [intOf]; omega
    · obtain rfl : i = j := by omega
      have d1 : decide ((i : Int) < (i : Int)) = false := decide_eq_false (by omega)
      have hnr := HL.out.1
      by_cases hin : i < n
      · have d2 : decide ((i : Int) < (n : Int)) = true := decide_eq_true (by omega)
        obtain ⟨b, o, rfl, hc⟩ := (HL.out.below hb).2 (by omega)
        obtain ⟨c0, c1⟩ := hc i (by omega)
        have hil : i < R.length := by omega
        have hni := H2.out i hil (Nat.le_refl _)
        have HGT : Hid (R[i].p ≠ q → ∀ m ∈ R, m.p ≠ q) := Lib.hid (fun hne m hm e => by
          obtain ⟨t, ht, rfl⟩ := List.getElem_of_mem hm
          rcases Nat.lt_or_ge t i with k | k
          · have := H1.out t ht k
            rw [e, Order.cmp_self] at this; omega
          · rcases Nat.lt_or_ge i t with k2 | k2
            · have h1 : Lib.compareBytes R[i].p R[t].p < 0 := List.pairwise_iff_getElem.1 HR.out i t hil ht k2
              rw [e] at h1
              omega
            · obtain rfl : i = t := by omega
              exact hne e)
        obtain ⟨m, hm⟩ : ∃ m, m = R[i] := ⟨_, rfl⟩
        rw [← hm] at c0 c1 HGT hni
        have HM : Hid (∃ h : i < R.length, R[i] = m) := Lib.hid ⟨hil, hm.symm⟩
        obtain ⟨p, x⟩ := m
        have j1 : (0 : Int) ≤ (i : Int) := by omega
        have j2 : (i : Int) < (n : Int) := by omega
        have hz0 := Order.cmp_iff p q
        obtain ⟨z, hz⟩ : ∃ z, z = Lib.compareBytes p q := ⟨_, rfl⟩
        have CB1 := Lib.hid (CB.out p x)
        rw [← hz] at CB1 hz0
        have HZ0 := Lib.hid hz0
        clear hc hm hil hni hz hz0 hnr
        by_cases hzz : z = 0
        · have d3 : (z == 0) = true := by simp [hzz]
          have HE := Lib.hid (HZ0.out.1 hzz)
          clear hzz
          go_wp2_with fail
          refine (CB1.out _).mono ?_
          rintro e v1 ⟨rfl, k1⟩
          go_wp2
          refine bodyPost_ret (v := .tuple #[.int .i64 (i : Int), .bool true]) (by simp [results, Try.f41, go_sem]) rfl ?_
          exact ⟨i, true, rfl, ⟨fun _ => (by obtain ⟨h1, h2⟩ := HM.out; exact ⟨h1, by rw [h2]; exact HE.out⟩), fun h => by (cases h)⟩, bstep hb k1⟩
        · have d3 : (z == 0) = false := by simp [hzz]
          have HE : Hid (p ≠ q) := Lib.hid (fun e => hzz (HZ0.out.2 e))
          clear hzz
          go_wp2_with fail
          refine (CB1.out _).mono ?_
          rintro e v1 ⟨rfl, k1⟩
          go_wp2
          refine bodyPost_ret (v := .tuple #[.int .i64 (i : Int), .bool false]) (by simp [results, Try.f41, go_sem]) rfl ?_
          exact ⟨i, false, rfl, ⟨fun h => by (cases h), fun _ => HGT.out HE.out⟩, bstep hb k1⟩
      · have d2 : decide ((i : Int) < (n : Int)) = false := decide_eq_false (by omega)
        have HN : Hid (∀ m ∈ R, m.p ≠ q) := Lib.hid (fun m hm e => by
          obtain ⟨t, ht, rfl⟩ := List.getElem_of_mem hm
          have := H1.out t ht (by omega)
          rw [e, Order.cmp_self] at this; omega)
        clear hnr
        go_wp2
        refine bodyPost_ret (v := .tuple #[.int .i64 (i : Int), .bool false]) (by simp [results, Try.f41, go_sem]) rfl ?_
        exact ⟨i, false, rfl, ⟨fun h => by (cases h), fun _ => HN.out⟩, hb⟩
end Bag
end Go.Proofs.Ytnlbgjghckbbcaa

namespace Go.Proofs.Ytnlbgjghckbbcaa
namespace Bag
open Go.RowKit Go.Maps Go.Proofs.Ytnlbgjghckbbcaa.Mark Go.Proofs.Ytnlbgjghckbbcaa.Dots
/-- A closure that tells f of dots, in all worlds where what lay still lies. -/
def DPred (g : Nat) (lb : Array Value) (f : M → Bool) (B : Nat) (w : World) : Prop :=
  ∀ (W : World) (x : M), Below B w W → dFine x → Calls Try.prog g (#[x.agg] ++ lb) W fun e w' => e = .returned (.bool (f x)) ∧ Below W.heap.size W w'
/-- The box of what a vector knows. -/
structure Knows (w : World) (D : Nat) (L : List M) : Prop where
  box : ∃ a c R, w.cell? ⟨D, 0, none⟩ = some (.slice a R.length c) ∧ Mark.Lies w a R.length R ∧ R.length ≤ c ∧ IsVec R (ofL L) ∧ R.length ≤ 1099511627776
theorem vec_ok {L R : List M} (hL : Ok L) (h : IsVec R (ofL L)) : Ok R := fun m hm => by
  have e := vec_of h.1 hm
  rw [h.2] at e
  have hp := (h.1.2 m hm)
  rcases ofL_ex L m.p with e0 | ⟨k, hk, e1, _, e2⟩
  · omega
  · have := hL k hk
    rw [← e1]
    exact ⟨by omega, this.2⟩
theorem max_nil (L : List M) (q : List UInt8) : max (ofL L q) (ofL [] q) = ofL L q := by
  rw [show ofL [] q = 0 from rfl]; omega
theorem has_none {R : List M} {L : List M} (h : IsVec R (ofL L)) {q : List UInt8} (hq : ∀ m ∈ R, m.p ≠ q) (x : Nat) : hasL L q x = false := by
  unfold hasL
  rw [← h.2, ofL_none R q hq]
  by_cases h1 : 1 ≤ x
  · rw [decide_eq_true h1, decide_eq_false (by omega)]; rfl
  · rw [decide_eq_false h1]; rfl
theorem has_at {R : List M} {L : List M} (h : IsVec R (ofL L)) {i : Nat} (hi : i < R.length) (x : Nat) : hasL [R[i]] R[i].p x = hasL L R[i].p x := by
  unfold hasL
  have e1 : ofL L R[i].p = R[i].n := by rw [← h.2]; exact vec_of h.1 (List.getElem_mem hi)
  have hp := (h.1.2 _ (List.getElem_mem hi)).1
  have e2 : ofL [R[i]] R[i].p = R[i].n := by
    rw [show R[i] = ⟨R[i].p, R[i].n⟩ from rfl, one_of, if_pos rfl, if_neg hp]
  rw [e1, e2]

set_option maxRecDepth 100000 in
theorem knows_any (L : List M) (a : Option Addr) (n c : Nat) (w : World) (hL : Mark.Lies w a n L) (hn : n ≤ 549755813888) :
    Calls Try.prog 26 #[.slice a n c] w fun e w' => ∃ D, e = .returned (.func (.func 40) #[] #[.pointer (some ⟨D, 0, none⟩)]) ∧ w.heap.size ≤ D ∧ Knows w' D L ∧ Below w.heap.size w w' := by
  have hmf : ∀ (fn : Fn) (first cap : Array Value) (w : World), (Instr.makeFunc fn first cap).run Try.prog w = .ok (.func fn first cap) w := fun _ _ _ _ => rfl
  have J := Lib.hid (join_any L [] a none n 0 c 0 w hL (Mark.Lies.nil _ _) (by omega) (by omega))
  have HLN := Lib.hid hL.1
  clear hL
  go_enter Try.func26, Try.ntmps26
  go_wp2_with fail
  refine J.out.mono ?_
  rintro e v1 ⟨v, R, rfl, hv, hl, ho, k⟩
  obtain ⟨a1, c1, rfl, h2, h3, h4, -⟩ := ho.lies
  have HR : Hid (IsVec R (ofL L)) := Lib.hid ⟨hv.1, fun q => (hv.2 q).trans (max_nil L q)⟩
  have HL := Lib.hid h4
  have HC := Lib.hid (And.intro h2 hl)
  have HK := Lib.hid k
  clear ho hv h4 h2 h3 hl k
  go_wp2
  go_ret
  have kk := balloc (Below.refl v1.heap.size v1) (.cells #[.slice a1 R.length c1] 23)
  refine ⟨v1.heap.size, rfl, HK.out.size, ⟨a1, c1, R, by rw [World.cell?_alloc_new]; rfl, HL.out.below kk, HC.out.1, HR.out, ?_⟩, bstep HK.out kk⟩
  have := HC.out.2
  have := HLN.out
  simp at *
  omega
set_option maxRecDepth 100000 in
set_option maxHeartbeats 1000000 in
theorem knows_pred (D : Nat) (L : List M) (w : World) (h : Knows w D L) (hok : Ok L) : DPred 40 #[.pointer (some ⟨D, 0, none⟩)] (fun m => hasL L m.p m.n) w.heap.size w := by
  intro W x hW hx
  obtain ⟨a, c, R, h1, h2, h3, h4, h5⟩ := h.box
  have d0 := (hW.cell (p := ⟨D, 0, none⟩) (World.block_lt_of_cell? _ _ h1)).trans h1
  have HL := Lib.hid (h2.below hW)
  have HR := Lib.hid h4
  have HOK := Lib.hid (vec_ok hok h4)
  have HRC := Lib.hid (And.intro h3 h5)
  obtain ⟨p, k⟩ := x
  have HV : Hid (∃ z, z = hasL L p k) := Lib.hid ⟨_, rfl⟩
  obtain ⟨z, hz⟩ := HV.out
  have HZ := Lib.hid hz
  show Calls Try.prog _ _ _ fun e w' => e = .returned (.bool (hasL L p k)) ∧ _
  rw [← hz]
  have hs1 : #[M.agg ⟨p, k⟩] ++ #[Value.pointer (some ⟨D, 0, none⟩)] = #[.agg #[.string ⟨p.toArray⟩, .int .u64 (k : Int)], .pointer (some ⟨D, 0, none⟩)] := rfl
  rw [hs1]
  obtain ⟨n, hn⟩ : ∃ n, n = R.length := ⟨_, rfl⟩
  rw [← hn] at d0 HL HRC
  have HN := Lib.hid hn
  clear h1 h2 h3 h4 h5 hz HV hs1 hn h hok hx
  go_enter Try.func40, Try.ntmps40
  go_upto_region 1 with (fail)
  have kD := balloc (Below.refl W.heap.size W) (.cells #[.string ⟨p.toArray⟩, .int .u64 (k : Int)] 31)
  have f0 : (W.alloc (.cells #[.string ⟨p.toArray⟩, .int .u64 (k : Int)] 31)).cell? ⟨W.heap.size, 0, none⟩ = some (.string ⟨p.toArray⟩) := by rw [World.cell?_alloc_new]; rfl
  have f1 : (W.alloc (.cells #[.string ⟨p.toArray⟩, .int .u64 (k : Int)] 31)).cell? ⟨W.heap.size, 1, none⟩ = some (.int .u64 (k : Int)) := by rw [World.cell?_alloc_new]; rfl
  obtain ⟨db, hdb⟩ : ∃ b, b = W.heap.size := ⟨_, rfl⟩
  obtain ⟨wd, hwd⟩ : ∃ v, v = W.alloc (.cells #[.string ⟨p.toArray⟩, .int .u64 (k : Int)] 31) := ⟨_, rfl⟩
  rw [← hwd] at kD f0 f1 ⊢
  rw [← hdb] at f0 f1 ⊢
  have hb := kD
  replace d0 := Dots.keepC d0 kD
  replace HL := Lib.hid (HL.out.below kD)
  have SE := Lib.hid (search_any R p a n c wd HL.out HR.out.1.1 HRC.out.2)
  clear kD hdb hwd
  go_wp2_with fail
  refine SE.out.mono ?_
  rintro e v1 ⟨i, r, rfl, hf, k1⟩
  replace d0 := Dots.keepC d0 k1
  replace f0 := Dots.keepC f0 k1
  replace f1 := Dots.keepC f1 k1
  replace HL := Lib.hid (HL.out.below k1)
  replace hb := bstep hb k1
  have HF := Lib.hid hf
  clear k1 hf SE
  cases r
  case false =>
    have hz0 : z = false := HZ.out.trans (has_none HR.out (HF.out.2 rfl) k)
    clear HZ
    subst hz0
    go_wp2_with fail
    refine wp_region_noPanic ?_
    refine wp_region_held_drew (S := (fun _ => True)) (by kernel_rfl) (trivial) (fun hHeld => ?_)
    refine wpAnyH_take (i := 0) (v := ?_) (by simp only [List.getElem?_toArray, List.getElem?_cons_zero]; rfl) (by kernel_rfl) (by kernel_rfl) (by kernel_rfl) (fun _ _ _ h => h) (Or.inl ⟨by rfl, ?_⟩) (by assumption) ?_
    rotate_left
    · (intro w hSw; (try dsimp only at hSw); go_simp; try with_reducible rfl)
    try simp only [Act.put, List.setIfInBounds_toArray, List.set_cons_zero, List.set_cons_succ]
    refine wpAnyH_take (i := 1) (v := ?_) (by simp only [List.getElem?_toArray, List.getElem?_cons_succ, List.getElem?_cons_zero]; rfl) (by kernel_rfl) (by kernel_rfl) (by kernel_rfl) (fun _ _ _ h => h) (Or.inl ⟨by rfl, ?_⟩) (by assumption) ?_
    rotate_left
    · (intro w hSw; (try dsimp only at hSw); go_simp; try with_reducible rfl)
    try simp only [Act.put, List.setIfInBounds_toArray, List.set_cons_zero, List.set_cons_succ]
    refine wpAnyH_take (i := 2) (v := undef) (by simp only [List.getElem?_toArray, List.getElem?_cons_succ, List.getElem?_cons_zero]; rfl) (by kernel_rfl) (by kernel_rfl) (by kernel_rfl) (fun _ _ _ h => h) (Or.inr ⟨by rfl, rfl⟩) (by assumption) ?_
    try simp only [Act.put, List.setIfInBounds_toArray, List.set_cons_zero, List.set_cons_succ]
    refine wpAnyH_take (i := 3) (v := undef) (by simp only [List.getElem?_toArray, List.getElem?_cons_succ, List.getElem?_cons_zero]; rfl) (by kernel_rfl) (by kernel_rfl) (by kernel_rfl) (fun _ _ _ h => h) (Or.inr ⟨by rfl, rfl⟩) (by assumption) ?_
    try simp only [Act.put, List.setIfInBounds_toArray, List.set_cons_zero, List.set_cons_succ]
    refine wpAnyH_take (i := 4) (v := undef) (by simp only [List.getElem?_toArray, List.getElem?_cons_succ, List.getElem?_cons_zero]; rfl) (by kernel_rfl) (by kernel_rfl) (by kernel_rfl) (fun _ _ _ h => h) (Or.inr ⟨by rfl, rfl⟩) (by assumption) ?_
    try simp only [Act.put, List.setIfInBounds_toArray, List.set_cons_zero, List.set_cons_succ]
    refine wpAnyH_take (i := 5) (v := undef) (by simp only [List.getElem?_toArray, List.getElem?_cons_succ, List.getElem?_cons_zero]; rfl) (by kernel_rfl) (by kernel_rfl) (by kernel_rfl) (fun _ _ _ h => h) (Or.inr ⟨by rfl, rfl⟩) (by assumption) ?_
    try simp only [Act.put, List.setIfInBounds_toArray, List.set_cons_zero, List.set_cons_succ]
    refine wpAnyH_take (i := 6) (v := undef) (by simp only [List.getElem?_toArray, List.getElem?_cons_succ, List.getElem?_cons_zero]; rfl) (by kernel_rfl) (by kernel_rfl) (by kernel_rfl) (fun _ _ _ h => h) (Or.inr ⟨by rfl, rfl⟩) (by assumption) ?_
    try simp only [Act.put, List.setIfInBounds_toArray, List.set_cons_zero, List.set_cons_succ]
    refine wpAnyH_take (i := 7) (v := undef) (by simp only [List.getElem?_toArray, List.getElem?_cons_succ, List.getElem?_cons_zero]; rfl) (by kernel_rfl) (by kernel_rfl) (by kernel_rfl) (fun _ _ _ h => h) (Or.inr ⟨by rfl, rfl⟩) (by assumption) ?_
    try simp only [Act.put, List.setIfInBounds_toArray, List.set_cons_zero, List.set_cons_succ]
    refine wpAnyH_take (i := 8) (v := undef) (by simp only [List.getElem?_toArray, List.getElem?_cons_succ, List.getElem?_cons_zero]; rfl) (by kernel_rfl) (by kernel_rfl) (by kernel_rfl) (fun _ _ _ h => h) (Or.inr ⟨by rfl, rfl⟩) (by assumption) ?_
    try simp only [Act.put, List.setIfInBounds_toArray, List.set_cons_zero, List.set_cons_succ]
    refine wpAnyH_take (i := 9) (v := ?_) (by simp only [List.getElem?_toArray, List.getElem?_cons_succ, List.getElem?_cons_zero]; rfl) (by kernel_rfl) (by kernel_rfl) (by kernel_rfl) (fun _ _ _ h => h) (Or.inl ⟨by rfl, ?_⟩) (by assumption) ?_
    rotate_left
    · (intro w hSw; (try dsimp only at hSw); go_simp; try with_reducible rfl)
    try simp only [Act.put, List.setIfInBounds_toArray, List.set_cons_zero, List.set_cons_succ]
    refine wpAnyH_take (i := 10) (v := ?_) (by simp only [List.getElem?_toArray, List.getElem?_cons_succ, List.getElem?_cons_zero]; rfl) (by kernel_rfl) (by kernel_rfl) (by kernel_rfl) (fun _ _ _ h => h) (Or.inl ⟨by rfl, ?_⟩) (by assumption) ?_
    rotate_left
    · (intro w hSw; (try dsimp only at hSw); go_simp; try with_reducible rfl)
    try simp only [Act.put, List.setIfInBounds_toArray, List.set_cons_zero, List.set_cons_succ]
    refine wpAnyH_done (by kernel_rfl) ?_ _
    refine NoPanic.normal ?_
    go_wp2
    go_ret
    exact ⟨rfl, Below.drew hb⟩
  case true =>
    obtain ⟨hi, hp⟩ := HF.out.1 rfl
    have hin : i < n := by have := HN.out; omega
    obtain ⟨b, o, rfl, hc⟩ := HL.out.2 (by omega)
    have hcr := HRC.out.1
    have hc1 : (0 : Int) ≤ (i : Int) + 1 := by omega
    have hc2 : (i : Int) + 1 ≤ (c : Int) := by omega
    have hci : ¬ c = i := by omega
    have hcz : ¬ i = c := by omega
    have h1l : Mark.Lies v1 (some ⟨b, o + i * 2, none⟩) 1 [R[i]] := ⟨rfl, fun _ => ⟨b, o + i * 2, rfl, fun j hj => by
      obtain rfl : j = 0 := by simpa using hj
      obtain ⟨c0, c1⟩ := hc i hi
      exact ⟨by simpa using c0, by simpa using c1⟩⟩⟩
    have hok1 : Ok [R[i]] := fun m hm => by rw [List.mem_singleton.1 hm]; exact HOK.out _ (List.getElem_mem hi)
    have hz1 : z = hasL [R[i]] p k := by rw [HZ.out, ← hp]; exact (has_at HR.out hi k).symm
    have HA := Lib.hid (fun W (kk : Below v1.heap.size v1 W) => has_any p k [R[i]] (some ⟨b, o + i * 2, none⟩) 1 (c - i) W (h1l.below kk) (by omega) hok1)
    rw [← hz1] at HA
    have w1 : IntKind.i64.wrap ((i : Int) + 1) = ((i + 1 : Nat) : Int) := by rw [IntKind.wrap_i64]; have := HRC.out.2; omega
    clear hc h1l hok1 hz1 hp HZ hcr
    go_wp2_with fail
    refine wp_region_noPanic ?_
    refine wp_region_held_drew (S := (fun w' => w'.cell? ⟨D, 0, none⟩ = some (.slice (some ⟨b, o, none⟩) n c) ∧ w'.cell? ⟨db, 0, none⟩ = some (.string ⟨p.toArray⟩) ∧ w'.cell? ⟨db, 1, none⟩ = some (.int .u64 (k : Int)))) (by kernel_rfl) (⟨Dots.keepC d0 (Below.drew (Below.refl _ _)), Dots.keepC f0 (Below.drew (Below.refl _ _)), Dots.keepC f1 (Below.drew (Below.refl _ _))⟩) (fun hHeld => ?_)
    refine wpAnyH_take (i := 0) (v := ?_) (by simp only [List.getElem?_toArray, List.getElem?_cons_zero]; rfl) (by kernel_rfl) (by kernel_rfl) (by kernel_rfl) (fun _ _ _ h => h) (Or.inl ⟨by rfl, ?_⟩) (by assumption) ?_
    rotate_left
    · (intro w hSw; (try dsimp only at hSw); go_simp; try with_reducible rfl)
    try simp only [Act.put, List.setIfInBounds_toArray, List.set_cons_zero, List.set_cons_succ]
    refine wpAnyH_take (i := 1) (v := ?_) (by simp only [List.getElem?_toArray, List.getElem?_cons_succ, List.getElem?_cons_zero]; rfl) (by kernel_rfl) (by kernel_rfl) (by kernel_rfl) (fun _ _ _ h => h) (Or.inl ⟨by rfl, ?_⟩) (by assumption) ?_
    rotate_left
    · (intro w hSw; (try dsimp only at hSw); go_simp; try with_reducible rfl)
    try simp only [Act.put, List.setIfInBounds_toArray, List.set_cons_zero, List.set_cons_succ]
    refine wpAnyH_take (i := 2) (v := ?_) (by simp only [List.getElem?_toArray, List.getElem?_cons_succ, List.getElem?_cons_zero]; rfl) (by kernel_rfl) (by kernel_rfl) (by kernel_rfl) (fun _ _ _ h => h) (Or.inl ⟨by rfl, ?_⟩) (by assumption) ?_
    rotate_left
    · (intro w hSw; (try dsimp only at hSw); go_simp; try with_reducible rfl)
    try simp only [Act.put, List.setIfInBounds_toArray, List.set_cons_zero, List.set_cons_succ]
    refine wpAnyH_take (i := 3) (v := ?_) (by simp only [List.getElem?_toArray, List.getElem?_cons_succ, List.getElem?_cons_zero]; rfl) (by kernel_rfl) (by kernel_rfl) (by kernel_rfl) (fun _ _ _ h => h) (Or.inl ⟨by rfl, ?_⟩) (by assumption) ?_
    rotate_left
    · (intro w hSw; (try dsimp only at hSw); go_simp; try with_reducible rfl)
    try simp only [Act.put, List.setIfInBounds_toArray, List.set_cons_zero, List.set_cons_succ]
    refine wpAnyH_take (i := 4) (v := ?_) (by simp only [List.getElem?_toArray, List.getElem?_cons_succ, List.getElem?_cons_zero]; rfl) (by kernel_rfl) (by kernel_rfl) (by kernel_rfl) (fun _ _ _ h => h) (Or.inl ⟨by rfl, ?_⟩) (by assumption) ?_
    rotate_left
    · (intro w hSw; (try dsimp only at hSw); go_simp; try with_reducible rfl)
    try simp only [Act.put, List.setIfInBounds_toArray, List.set_cons_zero, List.set_cons_succ]
    refine wpAnyH_take (i := 5) (v := ?_) (by simp only [List.getElem?_toArray, List.getElem?_cons_succ, List.getElem?_cons_zero]; rfl) (by kernel_rfl) (by kernel_rfl) (by kernel_rfl) (fun _ _ _ h => h) (Or.inl ⟨by rfl, ?_⟩) (by assumption) ?_
    rotate_left
    · (intro w hSw; (try dsimp only at hSw); go_simp; try with_reducible rfl)
    try simp only [Act.put, List.setIfInBounds_toArray, List.set_cons_zero, List.set_cons_succ]
    refine wpAnyH_take (i := 6) (v := ?_) (by simp only [List.getElem?_toArray, List.getElem?_cons_succ, List.getElem?_cons_zero]; rfl) (by kernel_rfl) (by kernel_rfl) (by kernel_rfl) (fun _ _ _ h => h) (Or.inl ⟨by rfl, ?_⟩) (by assumption) ?_
    rotate_left
    · (intro w hSw; (try dsimp only at hSw); go_simp; try with_reducible rfl)
    try simp only [Act.put, List.setIfInBounds_toArray, List.set_cons_zero, List.set_cons_succ]
    refine wpAnyH_take (i := 7) (v := ?_) (by simp only [List.getElem?_toArray, List.getElem?_cons_succ, List.getElem?_cons_zero]; rfl) (by kernel_rfl) (by kernel_rfl) (by kernel_rfl) (fun _ _ _ h => h) (Or.inl ⟨by rfl, ?_⟩) (by assumption) ?_
    rotate_left
    · (intro w hSw; (try dsimp only at hSw); go_simp; try with_reducible rfl)
    try simp only [Act.put, List.setIfInBounds_toArray, List.set_cons_zero, List.set_cons_succ]
    refine wpAnyH_ready (rs := [8]) (by kernel_rfl) (by simp) ?_
    refine AllReadyH.cons (by simp only [List.getElem?_toArray, List.getElem?_cons_succ, List.getElem?_cons_zero]; rfl) (fun K hK => ?_) AllReadyH.nil
    go_simp
    go_at_call 44
    refine (HA.out _ (Below.drew (Below.refl _ _))).mono ?_
    rintro e v2 ⟨rfl, k2⟩
    have hb2 := bstep hb ((Below.drew (Below.refl _ _)).trans k2)
    go_wp2_with fail
    refine hK.out _ _ (⟨Dots.keepC hHeld.1 k2, Dots.keepC hHeld.2.1 k2, Dots.keepC hHeld.2.2 k2⟩) (fun hHeld => ?_)
    clear hK K
    try simp only [Act.put, List.setIfInBounds_toArray, List.set_cons_zero, List.set_cons_succ]
    refine wpAnyH_take (i := 9) (v := ?_) (by simp only [List.getElem?_toArray, List.getElem?_cons_succ, List.getElem?_cons_zero]; rfl) (by kernel_rfl) (by kernel_rfl) (by kernel_rfl) (fun _ _ _ h => h) (Or.inl ⟨by rfl, ?_⟩) (by assumption) ?_
    rotate_left
    · (intro w hSw; (try dsimp only at hSw); go_simp; try with_reducible rfl)
    try simp only [Act.put, List.setIfInBounds_toArray, List.set_cons_zero, List.set_cons_succ]
    refine wpAnyH_take (i := 10) (v := ?_) (by simp only [List.getElem?_toArray, List.getElem?_cons_succ, List.getElem?_cons_zero]; rfl) (by kernel_rfl) (by kernel_rfl) (by kernel_rfl) (fun _ _ _ h => h) (Or.inl ⟨by rfl, ?_⟩) (by assumption) ?_
    rotate_left
    · (intro w hSw; (try dsimp only at hSw); go_simp; try with_reducible rfl)
    try simp only [Act.put, List.setIfInBounds_toArray, List.set_cons_zero, List.set_cons_succ]
    refine wpAnyH_done (by kernel_rfl) ?_ _
    refine NoPanic.normal ?_
    clear hHeld k2
    go_wp2
    go_ret
    exact ⟨rfl, hb2⟩
/-- Join's first closure makes the second. -/
theorem stays_make (b gk : Nat) (lk : Array Value) (w : World) :
    Calls Try.prog 23 #[.map (some b), .func (.func gk) #[] lk] w fun e w' => e = .returned (.func (.func 24) #[] #[.pointer (some ⟨w.heap.size, 0, none⟩), .pointer (some ⟨w.heap.size + 1, 0, none⟩)]) ∧
      w' = (w.alloc (.cells #[.map (some b)] 64)).alloc (.cells #[.func (.func gk) #[] lk] 66) := by
  have hmf : ∀ (fn : Fn) (first cap : Array Value) (w : World), (Instr.makeFunc fn first cap).run Try.prog w = .ok (.func fn first cap) w := fun _ _ _ _ => rfl
  go_enter Try.func23, Try.ntmps23
  go_wp2
  go_ret
  exact ⟨rfl, rfl⟩
theorem zero_unit {w : World} : (zeroValue 70).run Try.prog w = .ok (.agg #[]) w := by kernel_rfl
set_option maxRecDepth 100000 in
set_option maxHeartbeats 1000000 in
theorem stays_pred (V : List Pl) (b n : Nat) (h : M → Bool) (gk : Nat) (lk : Array Value) (ek : Mark.Enters gk) (B B1 B2 : Nat) (w : World) (c1 : w.cell? ⟨B1, 0, none⟩ = some (.map (some b))) (c2 : w.cell? ⟨B2, 0, none⟩ = some (.func (.func gk) #[] lk))
    (hV : PS w b n V) (hB : B ≤ w.heap.size) (hk : DPred gk lk h B w) :
    PPred 24 #[.pointer (some ⟨B1, 0, none⟩), .pointer (some ⟨B2, 0, none⟩)] (fun x => decide (x ∈ V) || !(h x.m)) w.heap.size w := by
  intro W x hW hx
  replace c1 := (hW.cell (p := ⟨B1, 0, none⟩) (World.block_lt_of_cell? _ _ c1)).trans c1
  replace c2 := (hW.cell (p := ⟨B2, 0, none⟩) (World.block_lt_of_cell? _ _ c2)).trans c2
  have HV := Lib.hid (KMap.Is.below hV hW)
  have HW := Lib.hid (hW.mono hB)
  have HBW : Hid (B ≤ W.heap.size) := Lib.hid (Nat.le_trans hB hW.size)
  have HK := Lib.hid hk
  have HX := Lib.hid hx
  have eg' : ∀ args w, (callFunc gk args).run Try.prog w = .ok (.enter gk args) w := ek
  obtain ⟨t, p, k⟩ := x
  obtain ⟨z1, hz1⟩ : ∃ z, z = decide ((⟨t, ⟨p, k⟩⟩ : Pl) ∈ V) := ⟨_, rfl⟩
  obtain ⟨z2, hz2⟩ : ∃ z, z = h ⟨p, k⟩ := ⟨_, rfl⟩
  show Calls Try.prog _ _ _ fun e w' => e = .returned (.bool (decide ((⟨t, ⟨p, k⟩⟩ : Pl) ∈ V) || !(h ⟨p, k⟩))) ∧ _
  rw [← hz1, ← hz2]
  have hs1 : #[Pl.val ⟨t, ⟨p, k⟩⟩] ++ #[Value.pointer (some ⟨B1, 0, none⟩), .pointer (some ⟨B2, 0, none⟩)] = #[.agg #[.string ⟨t.toArray⟩, .string ⟨p.toArray⟩, .int .u64 (k : Int)], .pointer (some ⟨B1, 0, none⟩), .pointer (some ⟨B2, 0, none⟩)] := rfl
  rw [hs1]
  have HZ1 : Hid ((setF V ⟨t, ⟨p, k⟩⟩).isSome = z1) := Lib.hid (by rw [setF_some, hz1])
  have HZU : Hid ((setF V ⟨t, ⟨p, k⟩⟩).getD (.agg #[]) = .agg #[]) := Lib.hid (by unfold setF; split <;> rfl)
  have HZ2 := Lib.hid hz2
  clear hW hV hk hx ek hs1 hz1 hz2
  go_enter Try.func24, Try.ntmps24
  go_upto_region 1 with (fail)
  have kD := balloc (Below.refl W.heap.size W) (.cells #[.string ⟨t.toArray⟩, .string ⟨p.toArray⟩, .int .u64 (k : Int)] 69)
  have f0 : (W.alloc (.cells #[.string ⟨t.toArray⟩, .string ⟨p.toArray⟩, .int .u64 (k : Int)] 69)).cell? ⟨W.heap.size, 0, none⟩ = some (.string ⟨t.toArray⟩) := by rw [World.cell?_alloc_new]; rfl
  have f1 : (W.alloc (.cells #[.string ⟨t.toArray⟩, .string ⟨p.toArray⟩, .int .u64 (k : Int)] 69)).cell? ⟨W.heap.size, 1, none⟩ = some (.string ⟨p.toArray⟩) := by rw [World.cell?_alloc_new]; rfl
  have f2 : (W.alloc (.cells #[.string ⟨t.toArray⟩, .string ⟨p.toArray⟩, .int .u64 (k : Int)] 69)).cell? ⟨W.heap.size, 2, none⟩ = some (.int .u64 (k : Int)) := by rw [World.cell?_alloc_new]; rfl
  obtain ⟨db, hdb⟩ : ∃ b, b = W.heap.size := ⟨_, rfl⟩
  obtain ⟨wd, hwd⟩ : ∃ v, v = W.alloc (.cells #[.string ⟨t.toArray⟩, .string ⟨p.toArray⟩, .int .u64 (k : Int)] 69) := ⟨_, rfl⟩
  rw [← hwd] at kD f0 f1 f2 ⊢
  rw [← hdb] at f0 f1 f2 ⊢
  have hb := kD
  replace c1 := Dots.keepC c1 kD
  replace c2 := Dots.keepC c2 kD
  replace HV := Lib.hid (KMap.Is.below HV.out kD)
  replace HW := Lib.hid (HW.out.trans (kD.mono HBW.out))
  have HDW : Hid (W.heap.size ≤ wd.heap.size) := Lib.hid kD.size
  clear kD hdb hwd
  go_upto_region 2 with (at_lookup; refine KMap.wpList_look_ok (C := places) Try.underlying64 zero_unit rfl _ _ rfl b n (setF V) ⟨t, ⟨p, k⟩⟩ rfl HV.out rfl HX.out (.agg #[]) HZU.out z1 HZ1.out ?_)
  have kU := balloc (Below.refl wd.heap.size wd) (.cells #[] 70)
  obtain ⟨ws, hws⟩ : ∃ v, v = wd.alloc (.cells #[] 70) := ⟨_, rfl⟩
  rw [← hws] at kU ⊢
  replace f1 := Dots.keepC f1 kU
  replace f2 := Dots.keepC f2 kU
  replace c2 := Dots.keepC c2 kU
  replace hb := bstep hb kU
  have HW2 := Lib.hid (HW.out.trans (kU.mono (Nat.le_trans HBW.out HDW.out)))
  clear kU hws f0 c1 HV HW
  cases z1 with
  | true =>
    go_wp2
    go_ret
    exact ⟨rfl, hb⟩
  | false =>
    have CL := Lib.hid (HK.out ws ⟨p, k⟩ HW2.out ⟨HX.out.2.1, HX.out.2.2⟩)
    simp only [M.agg] at CL
    rw [← HZ2.out] at CL
    clear HW2
    go_wp2_with (go_at_fn gk; refine CL.out.mono ?_; rintro e v1 ⟨rfl, k1⟩)
    go_ret
    exact ⟨rfl, bstep hb k1⟩
set_option maxRecDepth 100000 in
set_option maxHeartbeats 2000000 in
theorem copy_any (b1 b2 n1 n2 : Nat) (V1 V2 : List Pl) (w : World) (h1 : PS w b1 n1 V1) (h2 : PS w b2 n2 V2) (hne : b1 ≠ b2) (hn1 : n1 ≤ 1099511627776) (hn2 : n2 ≤ 1099511627776) :
    Calls Try.prog 27 #[.map (some b1), .map (some b2)] w fun e w' => e = .returned (.tuple #[]) ∧ PS w' b1 (n1 + n2) (V1 ++ V2) ∧ But b1 w w' := by
  have H1 := Lib.hid h1
  have H2 := Lib.hid h2
  have HB : Hid (b1 < w.heap.size ∧ b2 < w.heap.size) := Lib.hid ⟨KMap.Is.lt h1, KMap.Is.lt h2⟩
  clear h1 h2
  go_enter Try.func27, Try.ntmps27
  go_wp2_with (at_range; refine KMap.wpList_range (C := places) Try.underlying64 rfl _ rfl b2 n2 (setF V2) rfl H2.out ?_; intro w6 cnt0 hc0 hr0 hb6)
  go_frame
  obtain ⟨r, hr⟩ : ∃ r, r = w.heap.size := ⟨_, rfl⟩
  rw [← hr] at hr0 ⊢
  have HRR : Hid (b1 < r ∧ w.heap.size ≤ r) := Lib.hid (by have := HB.out; omega)
  have R0 := Lib.hid hr0
  have P6 := Lib.hid (KMap.Is.below H1.out hb6)
  have HT := Lib.hid (But.of (b := b1) hb6)
  have HC0 : Hid (n1 + cnt0 ≤ n1 + n2) := Lib.hid (by omega)
  have M0 : Hid (∀ p, p ∈ V1 ↔ p ∈ V1 ∨ (p ∈ V2 ∧ (setF V2 p).isSome = false)) := Lib.hid (fun p => by
    rw [setF_some]
    constructor
    · exact .inl
    · rintro (h | ⟨h1, h2⟩)
      · exact h
      · exact absurd h1 (of_decide_eq_false h2))
  clear hr0 hb6 hr hc0 H1 H2
  go_loopw [8] (fun _ wr => ∃ (lf : Pl → Bool) (cnt N : Nat) (U : List Pl), Hid (KMap.Rng places wr b2 r n2 (setF V2) lf cnt) ∧ Hid (PS wr b1 N U) ∧ Hid (N + cnt ≤ n1 + n2) ∧ Hid (∀ p, p ∈ U ↔ p ∈ V1 ∨ (p ∈ V2 ∧ lf p = false)) ∧ Hid (But b1 w wr)) (fun _ wr => wr.rangeLeft b2 r)
  case atStart => exact ⟨_, _, _, _, R0, P6, HC0, M0, HT⟩
  case round =>
    clear R0 P6 HC0 M0 HT
    obtain ⟨lf, cnt, N, U, RG, PU, HC, HM, HT⟩ := hrel
    go_wp2_with (at_next; refine KMap.wpList_next rfl _ rfl b2 r n2 (setF V2) lf cnt rfl RG.out ?_ ?_)
    · intro hl0
      have PE : Hid (PS wr b1 (n1 + n2) (V1 ++ V2)) := Lib.hid (KMap.Is.mono (PS.same PU.out (fun p => by
        rw [HM.out p, hl0 p, List.mem_append]
        simp)) (by have := HC.out; omega))
      clear hl0
      go_wp2
      go_end0
      exact ⟨rfl, PE.out, HT.out⟩
    · intro q c w7 cnt1 hlq hfq hqf hrg hlt7 hg hsz hen
      obtain ⟨hqV, rfl⟩ := setF_unit hfq
      have BR : But r wr w7 := but_grown hg
      have RG7 := Lib.hid hrg
      have PU7 := Lib.hid (KMap.Is.moved PU.out (BR.block b1 (KMap.Is.lt PU.out) (by have := HRR.out; omega)))
      have HT7 : Hid (But b1 w w7) := Lib.hid ⟨BR.os.trans HT.out.os, BR.tape.trans HT.out.tape, BR.output.trans HT.out.output, Nat.le_trans HT.out.size BR.size, fun j hj hjb => (BR.block j (Nat.lt_of_lt_of_le hj HT.out.size) (by have := HRR.out; omega)).trans (HT.out.block j hj hjb)⟩
      have HCN : Hid (cnt1 < cnt) := Lib.hid hlt7
      have HLE : Hid (wr.rangeLeft b2 r = cnt) := Lib.hid RG.out.left_eq
      have HQ := Lib.hid (And.intro hqV (And.intro hlq hqf))
      obtain ⟨t, p, k⟩ := q
      have hen' : (Instr.entry (.pointer (some ⟨r, 0, none⟩))).run Try.prog w7 = .ok (.tuple #[.agg #[.string ⟨t.toArray⟩, .string ⟨p.toArray⟩, .int .u64 (k : Int)], .agg #[]]) w7 := hen
      clear hen hg hsz hlt7 hrg hfq hlq hqf BR RG PU HT hqV
      go_upto_region 3 with (fail)
      have kD := balloc (balloc (Below.refl w7.heap.size w7) (.cells #[.string ⟨t.toArray⟩, .string ⟨p.toArray⟩, .int .u64 (k : Int)] 69)) (.cells #[] 70)
      have f0 : (w7.alloc (.cells #[.string ⟨t.toArray⟩, .string ⟨p.toArray⟩, .int .u64 (k : Int)] 69)).cell? ⟨w7.heap.size, 0, none⟩ = some (.string ⟨t.toArray⟩) := by rw [World.cell?_alloc_new]; rfl
      have f1 : (w7.alloc (.cells #[.string ⟨t.toArray⟩, .string ⟨p.toArray⟩, .int .u64 (k : Int)] 69)).cell? ⟨w7.heap.size, 1, none⟩ = some (.string ⟨p.toArray⟩) := by rw [World.cell?_alloc_new]; rfl
      have f2 : (w7.alloc (.cells #[.string ⟨t.toArray⟩, .string ⟨p.toArray⟩, .int .u64 (k : Int)] 69)).cell? ⟨w7.heap.size, 2, none⟩ = some (.int .u64 (k : Int)) := by rw [World.cell?_alloc_new]; rfl
      have kE := balloc (Below.refl (w7.alloc (.cells #[.string ⟨t.toArray⟩, .string ⟨p.toArray⟩, .int .u64 (k : Int)] 69)).heap.size (w7.alloc (.cells #[.string ⟨t.toArray⟩, .string ⟨p.toArray⟩, .int .u64 (k : Int)] 69))) (.cells #[] 70)
      replace f0 := Dots.keepC f0 kE
      replace f1 := Dots.keepC f1 kE
      replace f2 := Dots.keepC f2 kE
      obtain ⟨db, hdb⟩ : ∃ b, b = w7.heap.size := ⟨_, rfl⟩
      obtain ⟨wd, hwd⟩ : ∃ v, v = (w7.alloc (.cells #[.string ⟨t.toArray⟩, .string ⟨p.toArray⟩, .int .u64 (k : Int)] 69)).alloc (.cells #[] 70) := ⟨_, rfl⟩
      rw [← hwd] at kD f0 f1 f2 ⊢
      rw [← hdb] at f0 f1 f2 ⊢
      have PU8 := Lib.hid (KMap.Is.below PU7.out kD)
      have RG8 := Lib.hid (RG7.out.below kD)
      have HT8 := Lib.hid (HT7.out.trans (But.of kD))
      have M9 : Hid (∀ x, x ∈ U ++ [⟨t, ⟨p, k⟩⟩] ↔ x ∈ V1 ∨ (x ∈ V2 ∧ (lf x && !(decide (x = ⟨t, ⟨p, k⟩⟩))) = false)) := Lib.hid (fun x => by
        rw [List.mem_append, List.mem_singleton, HM.out x]
        by_cases e : x = ⟨t, ⟨p, k⟩⟩
        · subst e
          simp [HQ.out.1]
        · simp [e])
      have HC9 : Hid (N + 1 + cnt1 ≤ n1 + n2) := Lib.hid (by have := HC.out; have := HCN.out; omega)
      clear kD kE hdb hwd hen' HT7 PU7 RG7
      go_wp2_with (at_mapUpdate; refine KMap.wpList_put (C := places) Try.underlying64 rfl _ _ _ rfl b1 _ (setF U) ⟨t, ⟨p, k⟩⟩ unit rfl PU8.out (by have := HC.out; unfold maxLen; omega) rfl HQ.out.2.2 rfl ?_; intro wx S9 k9; go_frame)
      have PX := Lib.hid (PS.put S9)
      have RX := Lib.hid (RG8.out.moved_but (but_grown k9) (fun e => hne e.symm) (by have := HRR.out; omega))
      have HTX := Lib.hid (HT8.out.trans (but_grown k9))
      clear S9 k9
      go_roundw
      case rel => exact ⟨_, _, _, _, RX, PX, HC9, M9, HTX⟩
      case measure => have h1 := RX.out.left_eq; have h2 := HLE.out; have h3 := HCN.out; omega
end Bag
end Go.Proofs.Ytnlbgjghckbbcaa
