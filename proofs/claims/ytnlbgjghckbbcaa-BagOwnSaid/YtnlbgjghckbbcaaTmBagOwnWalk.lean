/- BagOwn: the walk. -/
import Derived.Test.YtnlbgjghckbbcaaTmBagAlive
import Derived.Test.YtnlbgjghckbbcaaTmBagOwnPlain
namespace Go.Proofs.Ytnlbgjghckbbcaa
namespace BagOwn
open Go.RowKit Go.Proofs.Ytnlbgjghckbbcaa.Mark Go.Proofs.Ytnlbgjghckbbcaa.Dots Go.Proofs.Ytnlbgjghckbbcaa.Bag Go.Proofs.Ytnlbgjghckbbcaa.BagLaw Go.Proofs.Ytnlbgjghckbbcaa.BagOwnLaw
theorem canon_len : ∀ {R : List It}, Canon R → R.length ≤ (pls R).length
  | [], _ => Nat.le_refl _
  | x :: R, h => by
    have := canon_len h.tail
    have h1 := List.length_pos_iff.2 (h.2 x (by simp)).1
    unfold pls at *
    simp only [List.flatMap_cons, List.length_append, onT_len, List.length_cons]
    omega
theorem dots_len {R : List It} {x : It} (h : x ∈ R) : x.d.length ≤ (pls R).length := by
  obtain ⟨i, hi, rfl⟩ := List.getElem_of_mem h
  have := (pls_sub hi).1
  omega
/-- What a put hands back, in one form. -/
theorem put_uni {L : List It} {text : List UInt8} {p : M} {R : List It} {w : World} {e : Ending} {w' : World} (h : PutIs L text p R w e w') : ∃ (ec : Int) (a : Option Addr) (c : Nat) (Q : List It), e = .returned (.tuple #[.slice a Q.length c, .int .i64 ec]) ∧ (ec = 0 ∨ (ec ≠ 0 ∧ (ec = 4 ∨ ec = 6))) ∧ (ec = 0 → IsBag Q (fun t m => (Has L t m ∧ t ≠ text) ∨ (t = text ∧ m = p)) ∧ Q.length ≤ (pls L).length + 1) ∧ Bag.Lies w' a Q.length Q ∧ Below w.heap.size w w' := by
  obtain ⟨k, h⟩ := h
  rcases h with ⟨_, rfl⟩ | ⟨_, _, rfl⟩ | ⟨_, _, a, c, Q, rfl, hQ, hl, hq⟩
  · exact ⟨4, none, 0, [], rfl, .inr ⟨by decide, .inl rfl⟩, fun e => (by cases e), Bag.Lies.nil _ _, k⟩
  · exact ⟨6, none, 0, [], rfl, .inr ⟨by decide, .inr rfl⟩, fun e => (by cases e), Bag.Lies.nil _ _, k⟩
  · exact ⟨0, a, c, Q, rfl, .inl rfl, fun _ => ⟨hQ, hl⟩, hq, k⟩
set_option maxRecDepth 100000 in
set_option maxHeartbeats 8000000 in
theorem walk (a0 : List Bag.It) (s0 : Option Addr) (c0 : Nat) (a1 : ByteArray) (a2 : ByteArray) (a3_0 : ByteArray) (a3_1 : Int) (a4_0 : ByteArray) (a4_1 : Int) (a4_2 : ByteArray) (a4_3 : Int) (w : World) (w0 : ∀ x ∈ a0, x.Was) (l0 : Bag.Lies w s0 a0.length a0) (_ : a0.length ≤ 140737488351232) (w1 : a1.size ≤ maxLen) (r1 : a1.size ≤ 140737488351232) (w2 : a2.size ≤ maxLen) (r2 : a2.size ≤ 140737488351232) (w3_0 : a3_0.size ≤ maxLen) (w3_1 : (Lit.int .u64 a3_1).wf = true) (w4_0 : a4_0.size ≤ maxLen) (w4_1 : (Lit.int .u64 a4_1).wf = true) (w4_2 : a4_2.size ≤ maxLen) (w4_3 : (Lit.int .u64 a4_3).wf = true) :
    Calls Try.prog 4 #[.slice s0 a0.length c0, .string a1, .string a2, .agg #[.string a3_0, .int .u64 a3_1], .agg #[.string a4_0, .int .u64 a4_1, .string a4_2, .int .u64 a4_3]] w fun e w' => e = .returned (.bool true) ∧ Below w.heap.size w w' := by
  rename_i z0
  obtain ⟨text, rfl⟩ := mk_str a1
  obtain ⟨other, rfl⟩ := mk_str a2
  obtain ⟨p, rfl⟩ := mk_str a3_0
  obtain ⟨by_, rfl⟩ := mk_str a4_0
  obtain ⟨owner, rfl⟩ := mk_str a4_2
  obtain ⟨q, rfl, hq⟩ := wf_u64_inv w3_1
  obtain ⟨cp, rfl, -⟩ := wf_u64_inv w4_1
  obtain ⟨base, rfl, -⟩ := wf_u64_inv w4_3
  rw [size_str] at w1 w2 r1 r2 w3_0 w4_2
  obtain ⟨L, hLe⟩ : ∃ L, L = a0 := ⟨_, rfl⟩
  rw [← hLe] at w0 l0 z0 ⊢
  obtain ⟨N, hN⟩ : ∃ n, n = L.length := ⟨_, rfl⟩
  rw [← hN] at l0 z0 ⊢
  have HN := Lib.hid hN
  have W0 := Lib.hid w0
  have hb := balloc (balloc (Below.refl w.heap.size w) (.cells #[.string ⟨p.toArray⟩, .int .u64 (q : Int)] 31)) (.cells #[.string ⟨by_.toArray⟩, .int .u64 (cp : Int), .string ⟨owner.toArray⟩, .int .u64 (base : Int)] 33)
  have f0 : ((w.alloc (.cells #[.string ⟨p.toArray⟩, .int .u64 (q : Int)] 31)).alloc (.cells #[.string ⟨by_.toArray⟩, .int .u64 (cp : Int), .string ⟨owner.toArray⟩, .int .u64 (base : Int)] 33)).cell? ⟨w.heap.size, 0, none⟩ = some (.string ⟨p.toArray⟩) := Lib.cell?_alloc_some _ (by rw [World.cell?_alloc_new]; rfl)
  have f1 : ((w.alloc (.cells #[.string ⟨p.toArray⟩, .int .u64 (q : Int)] 31)).alloc (.cells #[.string ⟨by_.toArray⟩, .int .u64 (cp : Int), .string ⟨owner.toArray⟩, .int .u64 (base : Int)] 33)).cell? ⟨w.heap.size, 1, none⟩ = some (.int .u64 (q : Int)) := Lib.cell?_alloc_some _ (by rw [World.cell?_alloc_new]; rfl)
  have p0 : ((w.alloc (.cells #[.string ⟨p.toArray⟩, .int .u64 (q : Int)] 31)).alloc (.cells #[.string ⟨by_.toArray⟩, .int .u64 (cp : Int), .string ⟨owner.toArray⟩, .int .u64 (base : Int)] 33)).cell? ⟨w.heap.size + 1, 0, none⟩ = some (.string ⟨by_.toArray⟩) := by rw [← World.size_alloc w (.cells #[.string ⟨p.toArray⟩, .int .u64 (q : Int)] 31), World.cell?_alloc_new]; rfl
  have p1 : ((w.alloc (.cells #[.string ⟨p.toArray⟩, .int .u64 (q : Int)] 31)).alloc (.cells #[.string ⟨by_.toArray⟩, .int .u64 (cp : Int), .string ⟨owner.toArray⟩, .int .u64 (base : Int)] 33)).cell? ⟨w.heap.size + 1, 1, none⟩ = some (.int .u64 (cp : Int)) := by rw [← World.size_alloc w (.cells #[.string ⟨p.toArray⟩, .int .u64 (q : Int)] 31), World.cell?_alloc_new]; rfl
  have p2 : ((w.alloc (.cells #[.string ⟨p.toArray⟩, .int .u64 (q : Int)] 31)).alloc (.cells #[.string ⟨by_.toArray⟩, .int .u64 (cp : Int), .string ⟨owner.toArray⟩, .int .u64 (base : Int)] 33)).cell? ⟨w.heap.size + 1, 2, none⟩ = some (.string ⟨owner.toArray⟩) := by rw [← World.size_alloc w (.cells #[.string ⟨p.toArray⟩, .int .u64 (q : Int)] 31), World.cell?_alloc_new]; rfl
  have p3 : ((w.alloc (.cells #[.string ⟨p.toArray⟩, .int .u64 (q : Int)] 31)).alloc (.cells #[.string ⟨by_.toArray⟩, .int .u64 (cp : Int), .string ⟨owner.toArray⟩, .int .u64 (base : Int)] 33)).cell? ⟨w.heap.size + 1, 3, none⟩ = some (.int .u64 (base : Int)) := by rw [← World.size_alloc w (.cells #[.string ⟨p.toArray⟩, .int .u64 (q : Int)] 31), World.cell?_alloc_new]; rfl
  replace l0 := Lib.hid (Bag.Lies.below l0 hb)
  have LA := Lib.hid (fun W (x : Bag.Lies W s0 N L) => large_any L s0 N c0 W x z0 (fun x hx => ⟨(w0 x hx).1, (w0 x hx).2.1⟩))
  have DF := Lib.hid (show dFine (⟨p, q⟩ : M) from ⟨w3_0, hq⟩)
  have HOW := Lib.hid w4_2
  have HTL := Lib.hid w1
  clear w0 w1 w2 w3_0 w3_1 w4_0 w4_1 w4_2 w4_3 hq
  go_enter Try.func4, Try.ntmps4
  go_upto_region 1 with (fail)
  obtain ⟨v0, hv0⟩ : ∃ v, v = (w.alloc (.cells #[.string ⟨p.toArray⟩, .int .u64 (q : Int)] 31)).alloc (.cells #[.string ⟨by_.toArray⟩, .int .u64 (cp : Int), .string ⟨owner.toArray⟩, .int .u64 (base : Int)] 33) := ⟨_, rfl⟩
  rw [← hv0] at hb f0 f1 p0 p1 p2 p3 l0 ⊢
  obtain ⟨pb, hpb⟩ : ∃ b, b = w.heap.size + 1 := ⟨_, rfl⟩
  obtain ⟨db, hdb⟩ : ∃ b, b = w.heap.size := ⟨_, rfl⟩
  rw [← hpb] at p0 p1 p2 p3 ⊢
  rw [← hdb] at f0 f1 ⊢
  clear hv0 hpb hdb hN hLe
  go_wp2_with fail
  refine (LA.out _ l0.out).mono ?_
  rintro e v1 ⟨z, rfl, hz, k1⟩
  replace f0 := (Dots.keepC f0 k1)
  replace f1 := (Dots.keepC f1 k1)
  replace p0 := (Dots.keepC p0 k1)
  replace p1 := (Dots.keepC p1 k1)
  replace p2 := (Dots.keepC p2 k1)
  replace p3 := (Dots.keepC p3 k1)
  replace l0 := Lib.hid (Bag.Lies.below l0.out k1)
  replace hb := bstep hb k1
  clear k1
  have HZ := Lib.hid hz
  clear hz LA
  cases z with
  | true =>
    go_wp2_with fail
    refine (alive_any _).mono ?_
    rintro e v2 ⟨rfl, k2⟩
    replace hb := bstep hb k2
    clear k2
    go_wp2
    go_ret
    exact ⟨rfl, hb⟩
  | false =>
    have hwt := HZ.out rfl
    have HWT := Lib.hid hwt
    have FI := Lib.hid (fine_in W0.out hwt)
    have MY := Lib.hid (fun W (x : Bag.Lies W s0 N L) => may_any L s0 N c0 W x FI.out)
    clear hwt HZ
    cases hm : mayB L with
    | false =>
      rw [hm] at MY
      clear hm
      go_wp2_with fail
      refine (MY.out _ l0.out).mono ?_
      rintro e v3 ⟨rfl, k3⟩
      replace f0 := (Dots.keepC f0 k3)
      replace f1 := (Dots.keepC f1 k3)
      replace p0 := (Dots.keepC p0 k3)
      replace p1 := (Dots.keepC p1 k3)
      replace p2 := (Dots.keepC p2 k3)
      replace p3 := (Dots.keepC p3 k3)
      replace l0 := Lib.hid (Bag.Lies.below l0.out k3)
      replace hb := bstep hb k3
      clear k3
      go_wp2_with fail
      refine (alive_any _).mono ?_
      rintro e v4 ⟨rfl, k4⟩
      replace hb := bstep hb k4
      clear k4
      go_wp2
      go_ret
      exact ⟨rfl, hb⟩
    | true =>
      have CA := Lib.hid (canon_of_may hm)
      rw [hm] at MY
      clear hm
      go_wp2_with fail
      refine (MY.out _ l0.out).mono ?_
      rintro e v5 ⟨rfl, k5⟩
      replace f0 := (Dots.keepC f0 k5)
      replace f1 := (Dots.keepC f1 k5)
      replace p0 := (Dots.keepC p0 k5)
      replace p1 := (Dots.keepC p1 k5)
      replace p2 := (Dots.keepC p2 k5)
      replace p3 := (Dots.keepC p3 k5)
      replace l0 := Lib.hid (Bag.Lies.below l0.out k5)
      replace hb := bstep hb k5
      clear k5
      clear MY
      have e1 := size_str text
      have e2 := size_str other
      by_cases hs : 4096 < text.length
      · have d1 : decide ((4096 : Int) < (text.length : Int)) = true := decide_eq_true (by omega)
        clear hs
        go_wp2_with fail
        refine (alive_any _).mono ?_
        rintro e v6 ⟨rfl, k6⟩
        replace hb := bstep hb k6
        clear k6
        go_wp2
        go_ret
        exact ⟨rfl, hb⟩
      have d1 : decide ((4096 : Int) < (text.length : Int)) = false := decide_eq_false (by omega)
      by_cases ho : 4096 < other.length
      · have d2 : decide ((4096 : Int) < (other.length : Int)) = true := decide_eq_true (by omega)
        clear hs ho
        go_wp2_with fail
        refine (alive_any _).mono ?_
        rintro e v7 ⟨rfl, k7⟩
        replace hb := bstep hb k7
        clear k7
        go_wp2
        go_ret
        exact ⟨rfl, hb⟩
      have d2 : decide ((4096 : Int) < (other.length : Int)) = false := decide_eq_false (by omega)
      have hpl := wt_pls L
      have hwt := HWT.out
      have HPL : Hid ((pls L).length ≤ 400 ∧ N ≤ 400) := Lib.hid (by have := wt_len L; have := HN.out; omega)
      have PU := Lib.hid (fun W (x : Bag.Lies W s0 N L) => put_any L text ⟨p, q⟩ s0 N c0 W x FI.out DF.out HTL.out (others L text) (others_bag CA.out text) (by omega))
      have TK := Lib.hid (fun W (x : Bag.Lies W s0 N L) => take_any L text s0 N c0 W x FI.out)
      clear hs ho hpl hwt
      go_wp2_with fail
      refine (PU.out _ l0.out).mono ?_
      rintro e v4 hpu
      obtain ⟨ec, ea, ecc, Q, rfl, hec, hQ, lQ, k4⟩ := put_uni hpu
      replace f0 := (Dots.keepC f0 k4)
      replace f1 := (Dots.keepC f1 k4)
      replace p0 := (Dots.keepC p0 k4)
      replace p1 := (Dots.keepC p1 k4)
      replace p2 := (Dots.keepC p2 k4)
      replace p3 := (Dots.keepC p3 k4)
      replace l0 := Lib.hid (Bag.Lies.below l0.out k4)
      replace hb := bstep hb k4
      clear k4 hpu PU
      replace lQ := Lib.hid lQ
      have HQ := Lib.hid hQ
      have HEC := Lib.hid hec
      clear hQ hec
      go_wp2_with fail
      refine (TK.out _ l0.out).mono ?_
      rintro e v5 ⟨ra, rc, R, rfl, hR, hRl, lR, k5⟩
      replace f0 := (Dots.keepC f0 k5)
      replace f1 := (Dots.keepC f1 k5)
      replace p0 := (Dots.keepC p0 k5)
      replace p1 := (Dots.keepC p1 k5)
      replace p2 := (Dots.keepC p2 k5)
      replace p3 := (Dots.keepC p3 k5)
      replace l0 := Lib.hid (Bag.Lies.below l0.out k5)
      replace lQ := Lib.hid (Bag.Lies.below lQ.out k5)
      replace hb := bstep hb k5
      clear k5
      clear TK hRl
      have HR := Lib.hid hR
      replace lR := Lib.hid lR
      clear hR
      obtain rfl : others L text = R := (others_bag CA.out text).uniq HR.out
      obtain ⟨R, hRe⟩ : ∃ R, R = others L text := ⟨_, rfl⟩
      rw [← hRe] at lR HR ⊢
      clear hRe
      have HRF : Hid ((pls R).length ≤ 400) := Lib.hid (by
        have := few_of HR.out (V := pls L) (fun t m h => (mem_pls L t m).2 h.1)
        have := HPL.out.1; omega)
      go_upto_region 5 with fail
      go_cut [75] (fun v wx => v = .bool false ∧ Below w.heap.size w wx ∧ wx.cell? ⟨db, 0, none⟩ = some (.string ⟨p.toArray⟩) ∧ wx.cell? ⟨db, 1, none⟩ = some (.int .u64 (q : Int)) ∧ wx.cell? ⟨pb, 0, none⟩ = some (.string ⟨by_.toArray⟩) ∧ wx.cell? ⟨pb, 1, none⟩ = some (.int .u64 (cp : Int)) ∧ wx.cell? ⟨pb, 2, none⟩ = some (.string ⟨owner.toArray⟩) ∧ wx.cell? ⟨pb, 3, none⟩ = some (.int .u64 (base : Int)) ∧ Bag.Lies wx s0 N L ∧ Bag.Lies wx ea Q.length Q ∧ Bag.Lies wx ra R.length R)
      case first =>
        rcases HEC.out with h0 | ⟨h0, -⟩
        rotate_left
        · have q1 : (ec == 0) = false := by simpa using h0
          clear h0 HEC HQ
          go_wp2_with fail
          refine wp_region_noPanic ?_
          refine wp_region_held_drew (S := (fun w' => Below w.heap.size w w' ∧ w'.cell? ⟨db, 0, none⟩ = some (.string ⟨p.toArray⟩) ∧ w'.cell? ⟨db, 1, none⟩ = some (.int .u64 (q : Int)) ∧ w'.cell? ⟨pb, 0, none⟩ = some (.string ⟨by_.toArray⟩) ∧ w'.cell? ⟨pb, 1, none⟩ = some (.int .u64 (cp : Int)) ∧ w'.cell? ⟨pb, 2, none⟩ = some (.string ⟨owner.toArray⟩) ∧ w'.cell? ⟨pb, 3, none⟩ = some (.int .u64 (base : Int)) ∧ Bag.Lies w' s0 N L ∧ Bag.Lies w' ea Q.length Q ∧ Bag.Lies w' ra R.length R)) (by kernel_rfl) (⟨Below.drew hb, Dots.keepC f0 (Below.drew (Below.refl _ _)), Dots.keepC f1 (Below.drew (Below.refl _ _)), Dots.keepC p0 (Below.drew (Below.refl _ _)), Dots.keepC p1 (Below.drew (Below.refl _ _)), Dots.keepC p2 (Below.drew (Below.refl _ _)), Dots.keepC p3 (Below.drew (Below.refl _ _)), Bag.Lies.below l0.out (Below.drew (Below.refl _ _)), Bag.Lies.below lQ.out (Below.drew (Below.refl _ _)), Bag.Lies.below lR.out (Below.drew (Below.refl _ _))⟩) (fun hHeld => ?_)
          refine wpAnyH_take (i := 0) (v := ?_) (by simp only [List.getElem?_toArray, List.getElem?_cons_zero]; rfl) (by kernel_rfl) (by kernel_rfl) (by kernel_rfl) (fun _ _ _ h => h) (Or.inl ⟨by rfl, ?_⟩) (by assumption) ?_
          rotate_left
          · (intro w hSw; (try dsimp only at hSw); go_simp; try with_reducible rfl)
          try simp only [Act.put, List.setIfInBounds_toArray, List.set_cons_zero, List.set_cons_succ]
          refine wpAnyH_take (i := 1) (v := ?_) (by simp only [List.getElem?_toArray, List.getElem?_cons_succ, List.getElem?_cons_zero]; rfl) (by kernel_rfl) (by kernel_rfl) (by kernel_rfl) (fun _ _ _ h => h) (Or.inl ⟨by rfl, ?_⟩) (by assumption) ?_
          rotate_left
          · (intro w hSw; (try dsimp only at hSw); go_simp; try with_reducible rfl)
          try simp only [Act.put, List.setIfInBounds_toArray, List.set_cons_zero, List.set_cons_succ]
          refine wpAnyH_take (i := 2) (v := ?_) (by simp only [List.getElem?_toArray, List.getElem?_cons_succ, List.getElem?_cons_zero]; rfl) (by kernel_rfl) (by kernel_rfl) (by kernel_rfl) (fun _ _ _ h => h) (Or.inl ⟨by rfl, ?_⟩) (by assumption) ?_
          rotate_left
          · (intro w hSw; (try dsimp only at hSw); go_simp; try with_reducible rfl)
          try simp only [Act.put, List.setIfInBounds_toArray, List.set_cons_zero, List.set_cons_succ]
          refine wpAnyH_take (i := 3) (v := undef) (by simp only [List.getElem?_toArray, List.getElem?_cons_succ, List.getElem?_cons_zero]; rfl) (by kernel_rfl) (by kernel_rfl) (by kernel_rfl) (fun _ _ _ h => h) (Or.inr ⟨by rfl, rfl⟩) (by assumption) ?_
          try simp only [Act.put, List.setIfInBounds_toArray, List.set_cons_zero, List.set_cons_succ]
          refine wpAnyH_take (i := 4) (v := undef) (by simp only [List.getElem?_toArray, List.getElem?_cons_succ, List.getElem?_cons_zero]; rfl) (by kernel_rfl) (by kernel_rfl) (by kernel_rfl) (fun _ _ _ h => h) (Or.inr ⟨by rfl, rfl⟩) (by assumption) ?_
          try simp only [Act.put, List.setIfInBounds_toArray, List.set_cons_zero, List.set_cons_succ]
          refine wpAnyH_take (i := 5) (v := undef) (by simp only [List.getElem?_toArray, List.getElem?_cons_succ, List.getElem?_cons_zero]; rfl) (by kernel_rfl) (by kernel_rfl) (by kernel_rfl) (fun _ _ _ h => h) (Or.inr ⟨by rfl, rfl⟩) (by assumption) ?_
          try simp only [Act.put, List.setIfInBounds_toArray, List.set_cons_zero, List.set_cons_succ]
          refine wpAnyH_take (i := 6) (v := undef) (by simp only [List.getElem?_toArray, List.getElem?_cons_succ, List.getElem?_cons_zero]; rfl) (by kernel_rfl) (by kernel_rfl) (by kernel_rfl) (fun _ _ _ h => h) (Or.inr ⟨by rfl, rfl⟩) (by assumption) ?_
          try simp only [Act.put, List.setIfInBounds_toArray, List.set_cons_zero, List.set_cons_succ]
          refine wpAnyH_take (i := 7) (v := undef) (by simp only [List.getElem?_toArray, List.getElem?_cons_succ, List.getElem?_cons_zero]; rfl) (by kernel_rfl) (by kernel_rfl) (by kernel_rfl) (fun _ _ _ h => h) (Or.inr ⟨by rfl, rfl⟩) (by assumption) ?_
          try simp only [Act.put, List.setIfInBounds_toArray, List.set_cons_zero, List.set_cons_succ]
          refine wpAnyH_take (i := 8) (v := undef) (by simp only [List.getElem?_toArray, List.getElem?_cons_succ, List.getElem?_cons_zero]; rfl) (by kernel_rfl) (by kernel_rfl) (by kernel_rfl) (fun _ _ _ h => h) (Or.inr ⟨by rfl, rfl⟩) (by assumption) ?_
          try simp only [Act.put, List.setIfInBounds_toArray, List.set_cons_zero, List.set_cons_succ]
          refine wpAnyH_take (i := 9) (v := undef) (by simp only [List.getElem?_toArray, List.getElem?_cons_succ, List.getElem?_cons_zero]; rfl) (by kernel_rfl) (by kernel_rfl) (by kernel_rfl) (fun _ _ _ h => h) (Or.inr ⟨by rfl, rfl⟩) (by assumption) ?_
          try simp only [Act.put, List.setIfInBounds_toArray, List.set_cons_zero, List.set_cons_succ]
          refine wpAnyH_take (i := 10) (v := undef) (by simp only [List.getElem?_toArray, List.getElem?_cons_succ, List.getElem?_cons_zero]; rfl) (by kernel_rfl) (by kernel_rfl) (by kernel_rfl) (fun _ _ _ h => h) (Or.inr ⟨by rfl, rfl⟩) (by assumption) ?_
          try simp only [Act.put, List.setIfInBounds_toArray, List.set_cons_zero, List.set_cons_succ]
          refine wpAnyH_take (i := 11) (v := undef) (by simp only [List.getElem?_toArray, List.getElem?_cons_succ, List.getElem?_cons_zero]; rfl) (by kernel_rfl) (by kernel_rfl) (by kernel_rfl) (fun _ _ _ h => h) (Or.inr ⟨by rfl, rfl⟩) (by assumption) ?_
          try simp only [Act.put, List.setIfInBounds_toArray, List.set_cons_zero, List.set_cons_succ]
          refine wpAnyH_take (i := 12) (v := undef) (by simp only [List.getElem?_toArray, List.getElem?_cons_succ, List.getElem?_cons_zero]; rfl) (by kernel_rfl) (by kernel_rfl) (by kernel_rfl) (fun _ _ _ h => h) (Or.inr ⟨by rfl, rfl⟩) (by assumption) ?_
          try simp only [Act.put, List.setIfInBounds_toArray, List.set_cons_zero, List.set_cons_succ]
          refine wpAnyH_take (i := 13) (v := undef) (by simp only [List.getElem?_toArray, List.getElem?_cons_succ, List.getElem?_cons_zero]; rfl) (by kernel_rfl) (by kernel_rfl) (by kernel_rfl) (fun _ _ _ h => h) (Or.inr ⟨by rfl, rfl⟩) (by assumption) ?_
          try simp only [Act.put, List.setIfInBounds_toArray, List.set_cons_zero, List.set_cons_succ]
          refine wpAnyH_take (i := 14) (v := undef) (by simp only [List.getElem?_toArray, List.getElem?_cons_succ, List.getElem?_cons_zero]; rfl) (by kernel_rfl) (by kernel_rfl) (by kernel_rfl) (fun _ _ _ h => h) (Or.inr ⟨by rfl, rfl⟩) (by assumption) ?_
          try simp only [Act.put, List.setIfInBounds_toArray, List.set_cons_zero, List.set_cons_succ]
          refine wpAnyH_take (i := 15) (v := undef) (by simp only [List.getElem?_toArray, List.getElem?_cons_succ, List.getElem?_cons_zero]; rfl) (by kernel_rfl) (by kernel_rfl) (by kernel_rfl) (fun _ _ _ h => h) (Or.inr ⟨by rfl, rfl⟩) (by assumption) ?_
          try simp only [Act.put, List.setIfInBounds_toArray, List.set_cons_zero, List.set_cons_succ]
          refine wpAnyH_take (i := 16) (v := undef) (by simp only [List.getElem?_toArray, List.getElem?_cons_succ, List.getElem?_cons_zero]; rfl) (by kernel_rfl) (by kernel_rfl) (by kernel_rfl) (fun _ _ _ h => h) (Or.inr ⟨by rfl, rfl⟩) (by assumption) ?_
          try simp only [Act.put, List.setIfInBounds_toArray, List.set_cons_zero, List.set_cons_succ]
          refine wpAnyH_take (i := 17) (v := undef) (by simp only [List.getElem?_toArray, List.getElem?_cons_succ, List.getElem?_cons_zero]; rfl) (by kernel_rfl) (by kernel_rfl) (by kernel_rfl) (fun _ _ _ h => h) (Or.inr ⟨by rfl, rfl⟩) (by assumption) ?_
          try simp only [Act.put, List.setIfInBounds_toArray, List.set_cons_zero, List.set_cons_succ]
          refine wpAnyH_take (i := 18) (v := undef) (by simp only [List.getElem?_toArray, List.getElem?_cons_succ, List.getElem?_cons_zero]; rfl) (by kernel_rfl) (by kernel_rfl) (by kernel_rfl) (fun _ _ _ h => h) (Or.inr ⟨by rfl, rfl⟩) (by assumption) ?_
          try simp only [Act.put, List.setIfInBounds_toArray, List.set_cons_zero, List.set_cons_succ]
          refine wpAnyH_take (i := 19) (v := undef) (by simp only [List.getElem?_toArray, List.getElem?_cons_succ, List.getElem?_cons_zero]; rfl) (by kernel_rfl) (by kernel_rfl) (by kernel_rfl) (fun _ _ _ h => h) (Or.inr ⟨by rfl, rfl⟩) (by assumption) ?_
          try simp only [Act.put, List.setIfInBounds_toArray, List.set_cons_zero, List.set_cons_succ]
          refine wpAnyH_take (i := 20) (v := undef) (by simp only [List.getElem?_toArray, List.getElem?_cons_succ, List.getElem?_cons_zero]; rfl) (by kernel_rfl) (by kernel_rfl) (by kernel_rfl) (fun _ _ _ h => h) (Or.inr ⟨by rfl, rfl⟩) (by assumption) ?_
          try simp only [Act.put, List.setIfInBounds_toArray, List.set_cons_zero, List.set_cons_succ]
          refine wpAnyH_take (i := 21) (v := undef) (by simp only [List.getElem?_toArray, List.getElem?_cons_succ, List.getElem?_cons_zero]; rfl) (by kernel_rfl) (by kernel_rfl) (by kernel_rfl) (fun _ _ _ h => h) (Or.inr ⟨by rfl, rfl⟩) (by assumption) ?_
          try simp only [Act.put, List.setIfInBounds_toArray, List.set_cons_zero, List.set_cons_succ]
          refine wpAnyH_take (i := 22) (v := undef) (by simp only [List.getElem?_toArray, List.getElem?_cons_succ, List.getElem?_cons_zero]; rfl) (by kernel_rfl) (by kernel_rfl) (by kernel_rfl) (fun _ _ _ h => h) (Or.inr ⟨by rfl, rfl⟩) (by assumption) ?_
          try simp only [Act.put, List.setIfInBounds_toArray, List.set_cons_zero, List.set_cons_succ]
          refine wpAnyH_take (i := 23) (v := undef) (by simp only [List.getElem?_toArray, List.getElem?_cons_succ, List.getElem?_cons_zero]; rfl) (by kernel_rfl) (by kernel_rfl) (by kernel_rfl) (fun _ _ _ h => h) (Or.inr ⟨by rfl, rfl⟩) (by assumption) ?_
          try simp only [Act.put, List.setIfInBounds_toArray, List.set_cons_zero, List.set_cons_succ]
          refine wpAnyH_take (i := 24) (v := undef) (by simp only [List.getElem?_toArray, List.getElem?_cons_succ, List.getElem?_cons_zero]; rfl) (by kernel_rfl) (by kernel_rfl) (by kernel_rfl) (fun _ _ _ h => h) (Or.inr ⟨by rfl, rfl⟩) (by assumption) ?_
          try simp only [Act.put, List.setIfInBounds_toArray, List.set_cons_zero, List.set_cons_succ]
          refine wpAnyH_take (i := 25) (v := ?_) (by simp only [List.getElem?_toArray, List.getElem?_cons_succ, List.getElem?_cons_zero]; rfl) (by kernel_rfl) (by kernel_rfl) (by kernel_rfl) (fun _ _ _ h => h) (Or.inl ⟨by rfl, ?_⟩) (by assumption) ?_
          rotate_left
          · (intro w hSw; (try dsimp only at hSw); go_simp; try with_reducible rfl)
          try simp only [Act.put, List.setIfInBounds_toArray, List.set_cons_zero, List.set_cons_succ]
          refine wpAnyH_done (by kernel_rfl) ?_ _
          refine NoPanic.normal ?_
          clear hb f0 f1 p0 p1 p2 p3 l0 lQ lR
          obtain ⟨hb, f0, f1, p0, p1, p2, p3, l0, lQ, lR⟩ := hHeld
          replace l0 := Lib.hid l0
          replace lQ := Lib.hid lQ
          replace lR := Lib.hid lR
          go_wp2_with fail
          go_meet
          exact ⟨rfl, hb, f0, f1, p0, p1, p2, p3, l0.out, lQ.out, lR.out⟩
        subst h0
        have hQ := HQ.out rfl
        have HQB := Lib.hid hQ.1
        have hQf := fine_of hQ.1 (V := pls L ++ [⟨text, ⟨p, q⟩⟩]) (fun t m h => by
          rw [List.mem_append, List.mem_singleton, mem_pls]
          rcases h with h | ⟨rfl, rfl⟩
          · exact .inl h.1
          · exact .inr rfl) (by rw [List.length_append, List.length_singleton]; have := HPL.out.1; omega) (fun x hx => by
          rcases List.mem_append.1 hx with h | h
          · exact FI.out.fine x h
          · rw [List.mem_singleton.1 h]; exact ⟨HTL.out, DF.out⟩) (by have := hQ.2; have := HPL.out.1; omega)
        have hQn : Q.length ≤ 401 := by have := hQ.2; have := HPL.out.1; omega
        have hQp : (pls Q).length ≤ 401 := by
          have := few_of hQ.1 (V := pls L ++ [⟨text, ⟨p, q⟩⟩]) (fun t m h => by
            rw [List.mem_append, List.mem_singleton, mem_pls]
            rcases h with h | ⟨rfl, rfl⟩
            · exact .inl h.1
            · exact .inr rfl)
          rw [List.length_append, List.length_singleton] at this
          have := HPL.out.1; omega
        have T2 := Lib.hid (fun W (x : Bag.Lies W ea Q.length Q) => take_any Q text ea Q.length ecc W x hQf)
        have S2 := Lib.hid (fun W (b : Option Addr) (c : Nat) (x : Bag.Lies W b R.length R) (y : Bag.Lies W ra R.length R) => RefBag.same_any R R b ra R.length R.length c rc W x y (by have := canon_len HR.out.1; have := HRF.out; omega) (fun x hx => by have := dots_len hx; have := HRF.out; omega))
        have O2 := Lib.hid (fun W (x : Bag.Lies W ea Q.length Q) => RefBag.of_any Q text ea Q.length ecc W x (by omega) (by omega))
        rw [put_of HQB.out] at O2
        rw [decide_eq_true (rfl : R = R)] at S2
        have hE := RefBag.neq_dot ⟨p, q⟩ ⟨p, q⟩
        rw [decide_eq_true (rfl : (⟨p, q⟩ : M) = ⟨p, q⟩)] at hE
        dsimp only at hE
        clear hQ hQf hQn hQp HQ HEC
        go_wp2_with fail
        refine wp_region_noPanic ?_
        refine wp_region_held_drew (S := (fun w' => Below w.heap.size w w' ∧ w'.cell? ⟨db, 0, none⟩ = some (.string ⟨p.toArray⟩) ∧ w'.cell? ⟨db, 1, none⟩ = some (.int .u64 (q : Int)) ∧ w'.cell? ⟨pb, 0, none⟩ = some (.string ⟨by_.toArray⟩) ∧ w'.cell? ⟨pb, 1, none⟩ = some (.int .u64 (cp : Int)) ∧ w'.cell? ⟨pb, 2, none⟩ = some (.string ⟨owner.toArray⟩) ∧ w'.cell? ⟨pb, 3, none⟩ = some (.int .u64 (base : Int)) ∧ Bag.Lies w' s0 N L ∧ Bag.Lies w' ea Q.length Q ∧ Bag.Lies w' ra R.length R)) (by kernel_rfl) (⟨Below.drew hb, Dots.keepC f0 (Below.drew (Below.refl _ _)), Dots.keepC f1 (Below.drew (Below.refl _ _)), Dots.keepC p0 (Below.drew (Below.refl _ _)), Dots.keepC p1 (Below.drew (Below.refl _ _)), Dots.keepC p2 (Below.drew (Below.refl _ _)), Dots.keepC p3 (Below.drew (Below.refl _ _)), Bag.Lies.below l0.out (Below.drew (Below.refl _ _)), Bag.Lies.below lQ.out (Below.drew (Below.refl _ _)), Bag.Lies.below lR.out (Below.drew (Below.refl _ _))⟩) (fun hHeld => ?_)
        refine wpAnyH_take (i := 0) (v := ?_) (by simp only [List.getElem?_toArray, List.getElem?_cons_zero]; rfl) (by kernel_rfl) (by kernel_rfl) (by kernel_rfl) (fun _ _ _ h => h) (Or.inl ⟨by rfl, ?_⟩) (by assumption) ?_
        rotate_left
        · (intro w hSw; (try dsimp only at hSw); go_simp; try with_reducible rfl)
        try simp only [Act.put, List.setIfInBounds_toArray, List.set_cons_zero, List.set_cons_succ]
        refine wpAnyH_take (i := 1) (v := ?_) (by simp only [List.getElem?_toArray, List.getElem?_cons_succ, List.getElem?_cons_zero]; rfl) (by kernel_rfl) (by kernel_rfl) (by kernel_rfl) (fun _ _ _ h => h) (Or.inl ⟨by rfl, ?_⟩) (by assumption) ?_
        rotate_left
        · (intro w hSw; (try dsimp only at hSw); go_simp; try with_reducible rfl)
        try simp only [Act.put, List.setIfInBounds_toArray, List.set_cons_zero, List.set_cons_succ]
        refine wpAnyH_take (i := 2) (v := ?_) (by simp only [List.getElem?_toArray, List.getElem?_cons_succ, List.getElem?_cons_zero]; rfl) (by kernel_rfl) (by kernel_rfl) (by kernel_rfl) (fun _ _ _ h => h) (Or.inl ⟨by rfl, ?_⟩) (by assumption) ?_
        rotate_left
        · (intro w hSw; (try dsimp only at hSw); go_simp; try with_reducible rfl)
        try simp only [Act.put, List.setIfInBounds_toArray, List.set_cons_zero, List.set_cons_succ]
        refine wpAnyH_take (i := 3) (v := ?_) (by simp only [List.getElem?_toArray, List.getElem?_cons_succ, List.getElem?_cons_zero]; rfl) (by kernel_rfl) (by kernel_rfl) (by kernel_rfl) (fun _ _ _ h => h) (Or.inl ⟨by rfl, ?_⟩) (by assumption) ?_
        rotate_left
        · (intro w hSw; (try dsimp only at hSw); go_simp; try with_reducible rfl)
        try simp only [Act.put, List.setIfInBounds_toArray, List.set_cons_zero, List.set_cons_succ]
        refine wpAnyH_take (i := 4) (v := ?_) (by simp only [List.getElem?_toArray, List.getElem?_cons_succ, List.getElem?_cons_zero]; rfl) (by kernel_rfl) (by kernel_rfl) (by kernel_rfl) (fun _ _ _ h => h) (Or.inl ⟨by rfl, ?_⟩) (by assumption) ?_
        rotate_left
        · (intro w hSw; (try dsimp only at hSw); go_simp; try with_reducible rfl)
        try simp only [Act.put, List.setIfInBounds_toArray, List.set_cons_zero, List.set_cons_succ]
        refine wpAnyH_take (i := 6) (v := ?_) (by simp only [List.getElem?_toArray, List.getElem?_cons_succ, List.getElem?_cons_zero]; rfl) (by kernel_rfl) (by kernel_rfl) (by kernel_rfl) (fun _ _ _ h => h) (Or.inl ⟨by rfl, ?_⟩) (by assumption) ?_
        rotate_left
        · (intro w hSw; (try dsimp only at hSw); go_simp; try with_reducible rfl)
        try simp only [Act.put, List.setIfInBounds_toArray, List.set_cons_zero, List.set_cons_succ]
        refine wpAnyH_ready (rs := [5]) (by kernel_rfl) (by simp) ?_
        refine AllReadyH.cons (by simp only [List.getElem?_toArray, List.getElem?_cons_succ, List.getElem?_cons_zero]; rfl) (fun K hK => ?_) AllReadyH.nil
        go_simp
        go_at_call 14
        refine (T2.out _ hHeld.2.2.2.2.2.2.2.2.1).mono ?_
        rintro e v6 ⟨a6, cc6, R6, rfl, hR6, -, lT, k6⟩
        obtain rfl : R = R6 := HR.out.uniq (put_take HQB.out hR6)
        go_wp2_with fail
        refine hK.out _ _ (⟨bstep hHeld.1 k6, Dots.keepC hHeld.2.1 k6, Dots.keepC hHeld.2.2.1 k6, Dots.keepC hHeld.2.2.2.1 k6, Dots.keepC hHeld.2.2.2.2.1 k6, Dots.keepC hHeld.2.2.2.2.2.1 k6, Dots.keepC hHeld.2.2.2.2.2.2.1 k6, Bag.Lies.below hHeld.2.2.2.2.2.2.2.1 k6, Bag.Lies.below hHeld.2.2.2.2.2.2.2.2.1 k6, Bag.Lies.below hHeld.2.2.2.2.2.2.2.2.2 k6⟩) (fun hHeld => ?_)
        clear hK K k6
        try simp only [Act.put, List.setIfInBounds_toArray, List.set_cons_zero, List.set_cons_succ]
        refine wpAnyH_ready (rs := [7]) (by kernel_rfl) (by simp) ?_
        refine AllReadyH.cons (by simp only [List.getElem?_toArray, List.getElem?_cons_succ, List.getElem?_cons_zero]; rfl) (fun K hK => ?_) AllReadyH.nil
        go_simp
        go_at_call 9
        refine (S2.out _ _ _ lT hHeld.2.2.2.2.2.2.2.2.2).mono ?_
        rintro e v7 ⟨rfl, k7⟩
        clear lT
        go_wp2_with fail
        refine hK.out _ _ (⟨bstep hHeld.1 k7, Dots.keepC hHeld.2.1 k7, Dots.keepC hHeld.2.2.1 k7, Dots.keepC hHeld.2.2.2.1 k7, Dots.keepC hHeld.2.2.2.2.1 k7, Dots.keepC hHeld.2.2.2.2.2.1 k7, Dots.keepC hHeld.2.2.2.2.2.2.1 k7, Bag.Lies.below hHeld.2.2.2.2.2.2.2.1 k7, Bag.Lies.below hHeld.2.2.2.2.2.2.2.2.1 k7, Bag.Lies.below hHeld.2.2.2.2.2.2.2.2.2 k7⟩) (fun hHeld => ?_)
        clear hK K k7
        try simp only [Act.put, List.setIfInBounds_toArray, List.set_cons_zero, List.set_cons_succ]
        refine wpAnyH_take (i := 8) (v := ?_) (by simp only [List.getElem?_toArray, List.getElem?_cons_succ, List.getElem?_cons_zero]; rfl) (by kernel_rfl) (by kernel_rfl) (by kernel_rfl) (fun _ _ _ h => h) (Or.inl ⟨by rfl, ?_⟩) (by assumption) ?_
        rotate_left
        · (intro w hSw; (try dsimp only at hSw); go_simp; try with_reducible rfl)
        try simp only [Act.put, List.setIfInBounds_toArray, List.set_cons_zero, List.set_cons_succ]
        refine wpAnyH_take (i := 9) (v := ?_) (by simp only [List.getElem?_toArray, List.getElem?_cons_succ, List.getElem?_cons_zero]; rfl) (by kernel_rfl) (by kernel_rfl) (by kernel_rfl) (fun _ _ _ h => h) (Or.inl ⟨by rfl, ?_⟩) (by assumption) ?_
        rotate_left
        · (intro w hSw; (try dsimp only at hSw); go_simp; try with_reducible rfl)
        try simp only [Act.put, List.setIfInBounds_toArray, List.set_cons_zero, List.set_cons_succ]
        refine wpAnyH_take (i := 10) (v := ?_) (by simp only [List.getElem?_toArray, List.getElem?_cons_succ, List.getElem?_cons_zero]; rfl) (by kernel_rfl) (by kernel_rfl) (by kernel_rfl) (fun _ _ _ h => h) (Or.inl ⟨by rfl, ?_⟩) (by assumption) ?_
        rotate_left
        · (intro w hSw; (try dsimp only at hSw); go_simp; try with_reducible rfl)
        try simp only [Act.put, List.setIfInBounds_toArray, List.set_cons_zero, List.set_cons_succ]
        refine wpAnyH_take (i := 11) (v := ?_) (by simp only [List.getElem?_toArray, List.getElem?_cons_succ, List.getElem?_cons_zero]; rfl) (by kernel_rfl) (by kernel_rfl) (by kernel_rfl) (fun _ _ _ h => h) (Or.inl ⟨by rfl, ?_⟩) (by assumption) ?_
        rotate_left
        · (intro w hSw; (try dsimp only at hSw); go_simp; try with_reducible rfl)
        try simp only [Act.put, List.setIfInBounds_toArray, List.set_cons_zero, List.set_cons_succ]
        refine wpAnyH_ready (rs := [12]) (by kernel_rfl) (by simp) ?_
        refine AllReadyH.cons (by simp only [List.getElem?_toArray, List.getElem?_cons_succ, List.getElem?_cons_zero]; rfl) (fun K hK => ?_) AllReadyH.nil
        go_simp
        go_at_call 15
        refine (O2.out _ hHeld.2.2.2.2.2.2.2.2.1).mono ?_
        rintro e v8 ⟨a8, cc8, rfl, o8, k8⟩
        go_wp2_with fail
        refine hK.out _ _ (⟨bstep hHeld.1 k8, Dots.keepC hHeld.2.1 k8, Dots.keepC hHeld.2.2.1 k8, Dots.keepC hHeld.2.2.2.1 k8, Dots.keepC hHeld.2.2.2.2.1 k8, Dots.keepC hHeld.2.2.2.2.2.1 k8, Dots.keepC hHeld.2.2.2.2.2.2.1 k8, Bag.Lies.below hHeld.2.2.2.2.2.2.2.1 k8, Bag.Lies.below hHeld.2.2.2.2.2.2.2.2.1 k8, Bag.Lies.below hHeld.2.2.2.2.2.2.2.2.2 k8⟩) (fun hHeld => ?_)
        clear hK K k8
        try simp only [Act.put, List.setIfInBounds_toArray, List.set_cons_zero, List.set_cons_succ]
        refine wpAnyH_take (i := 13) (v := ?_) (by simp only [List.getElem?_toArray, List.getElem?_cons_succ, List.getElem?_cons_zero]; rfl) (by kernel_rfl) (by kernel_rfl) (by kernel_rfl) (fun _ _ _ h => h) (Or.inl ⟨by rfl, ?_⟩) (by assumption) ?_
        rotate_left
        · (intro w hSw; (try dsimp only at hSw); go_simp; try with_reducible rfl)
        try simp only [Act.put, List.setIfInBounds_toArray, List.set_cons_zero, List.set_cons_succ]
        refine wpAnyH_take (i := 14) (v := ?_) (by simp only [List.getElem?_toArray, List.getElem?_cons_succ, List.getElem?_cons_zero]; rfl) (by kernel_rfl) (by kernel_rfl) (by kernel_rfl) (fun _ _ _ h => h) (Or.inl ⟨by rfl, ?_⟩) (by assumption) ?_
        rotate_left
        · (intro w hSw; (try dsimp only at hSw); go_simp; try with_reducible rfl)
        try simp only [Act.put, List.setIfInBounds_toArray, List.set_cons_zero, List.set_cons_succ]
        refine wpAnyH_take (i := 15) (v := ?_) (by simp only [List.getElem?_toArray, List.getElem?_cons_succ, List.getElem?_cons_zero]; rfl) (by kernel_rfl) (by kernel_rfl) (by kernel_rfl) (fun _ _ _ h => h) (Or.inl ⟨by rfl, ?_⟩) (by assumption) ?_
        rotate_left
        · (intro w hSw; (try dsimp only at hSw); go_simp; try with_reducible rfl)
        try simp only [Act.put, List.setIfInBounds_toArray, List.set_cons_zero, List.set_cons_succ]
        refine wpAnyH_take (i := 16) (v := ?_) (by simp only [List.getElem?_toArray, List.getElem?_cons_succ, List.getElem?_cons_zero]; rfl) (by kernel_rfl) (by kernel_rfl) (by kernel_rfl) (fun _ _ _ h => h) (Or.inl ⟨by rfl, ?_⟩) (by assumption) ?_
        rotate_left
        · (intro w hSw; (try dsimp only at hSw); go_simp; try with_reducible rfl)
        try simp only [Act.put, List.setIfInBounds_toArray, List.set_cons_zero, List.set_cons_succ]
        refine wpAnyH_take (i := 17) (v := ?_) (by simp only [List.getElem?_toArray, List.getElem?_cons_succ, List.getElem?_cons_zero]; rfl) (by kernel_rfl) (by kernel_rfl) (by kernel_rfl) (fun _ _ _ h => h) (Or.inl ⟨by rfl, ?_⟩) (by assumption) ?_
        rotate_left
        · (intro w hSw; (try dsimp only at hSw); go_simp; try with_reducible rfl)
        try simp only [Act.put, List.setIfInBounds_toArray, List.set_cons_zero, List.set_cons_succ]
        refine wpAnyH_take (i := 18) (v := ?_) (by simp only [List.getElem?_toArray, List.getElem?_cons_succ, List.getElem?_cons_zero]; rfl) (by kernel_rfl) (by kernel_rfl) (by kernel_rfl) (fun _ _ _ h => h) (Or.inl ⟨by rfl, ?_⟩) (by assumption) ?_
        rotate_left
        · (intro w hSw; (try dsimp only at hSw); go_simp; try with_reducible rfl)
        try simp only [Act.put, List.setIfInBounds_toArray, List.set_cons_zero, List.set_cons_succ]
        refine wpAnyH_take (i := 22) (v := ?_) (by simp only [List.getElem?_toArray, List.getElem?_cons_succ, List.getElem?_cons_zero]; rfl) (by kernel_rfl) (by kernel_rfl) (by kernel_rfl) (fun _ _ _ h => h) (Or.inl ⟨by rfl, ?_⟩) (by assumption) ?_
        rotate_left
        · (intro w hSw; (try dsimp only at hSw); go_simp; try with_reducible rfl)
        try simp only [Act.put, List.setIfInBounds_toArray, List.set_cons_zero, List.set_cons_succ]
        refine wpAnyH_ready (rs := [19]) (by kernel_rfl) (by simp) ?_
        refine AllReadyH.cons (by simp only [List.getElem?_toArray, List.getElem?_cons_succ, List.getElem?_cons_zero]; rfl) (fun K hK => ?_) AllReadyH.nil
        go_simp
        go_at_call 15
        refine (O2.out _ hHeld.2.2.2.2.2.2.2.2.1).mono ?_
        rintro e v9 ⟨a9, cc9, rfl, o9, k9⟩
        obtain ⟨ob, oo, rfl, ho⟩ := dots_at o9 (by simp)
        obtain ⟨h0, h1⟩ := ho 0 (by simp)
        simp only [Nat.zero_mul, Nat.add_zero, List.getElem_cons_zero] at h0 h1
        clear ho
        go_wp2_with fail
        refine hK.out _ _ (⟨bstep hHeld.1 k9, Dots.keepC hHeld.2.1 k9, Dots.keepC hHeld.2.2.1 k9, Dots.keepC hHeld.2.2.2.1 k9, Dots.keepC hHeld.2.2.2.2.1 k9, Dots.keepC hHeld.2.2.2.2.2.1 k9, Dots.keepC hHeld.2.2.2.2.2.2.1 k9, Bag.Lies.below hHeld.2.2.2.2.2.2.2.1 k9, Bag.Lies.below hHeld.2.2.2.2.2.2.2.2.1 k9, Bag.Lies.below hHeld.2.2.2.2.2.2.2.2.2 k9⟩) (fun hHeld => ?_)
        clear hK K k9
        try simp only [Act.put, List.setIfInBounds_toArray, List.set_cons_zero, List.set_cons_succ]
        refine wpAnyH_take (i := 20) (v := ?_) (by simp only [List.getElem?_toArray, List.getElem?_cons_succ, List.getElem?_cons_zero]; rfl) (by kernel_rfl) (by kernel_rfl) (by kernel_rfl) (fun _ _ _ h => h) (Or.inl ⟨by rfl, ?_⟩) (by assumption) ?_
        rotate_left
        · (intro w hSw; (try dsimp only at hSw); go_simp; try with_reducible rfl)
        try simp only [Act.put, List.setIfInBounds_toArray, List.set_cons_zero, List.set_cons_succ]
        refine wpAnyH_ready (rs := [21]) (by kernel_rfl) (by simp) ?_
        refine AllReadyH.cons (by simp only [List.getElem?_toArray, List.getElem?_cons_succ, List.getElem?_cons_zero]; rfl) (fun K hK => ?_) AllReadyH.nil
        go_simp
        refine hK.out _ _ hHeld (fun hHeld => ?_)
        clear hK K
        try simp only [Act.put, List.setIfInBounds_toArray, List.set_cons_zero, List.set_cons_succ]
        refine wpAnyH_take (i := 23) (v := ?_) (by simp only [List.getElem?_toArray, List.getElem?_cons_succ, List.getElem?_cons_zero]; rfl) (by kernel_rfl) (by kernel_rfl) (by kernel_rfl) (fun _ _ _ h => h) (Or.inl ⟨by rfl, ?_⟩) (by assumption) ?_
        rotate_left
        · (intro w hSw; (try dsimp only at hSw); go_simp; try with_reducible rfl)
        try simp only [Act.put, List.setIfInBounds_toArray, List.set_cons_zero, List.set_cons_succ]
        refine wpAnyH_take (i := 24) (v := ?_) (by simp only [List.getElem?_toArray, List.getElem?_cons_succ, List.getElem?_cons_zero]; rfl) (by kernel_rfl) (by kernel_rfl) (by kernel_rfl) (fun _ _ _ h => h) (Or.inl ⟨by rfl, ?_⟩) (by assumption) ?_
        rotate_left
        · (intro w hSw; (try dsimp only at hSw); go_simp; try with_reducible rfl)
        try simp only [Act.put, List.setIfInBounds_toArray, List.set_cons_zero, List.set_cons_succ]
        refine wpAnyH_take (i := 25) (v := ?_) (by simp only [List.getElem?_toArray, List.getElem?_cons_succ, List.getElem?_cons_zero]; rfl) (by kernel_rfl) (by kernel_rfl) (by kernel_rfl) (fun _ _ _ h => h) (Or.inl ⟨by rfl, ?_⟩) (by assumption) ?_
        rotate_left
        · (intro w hSw; (try dsimp only at hSw); go_simp; try with_reducible rfl)
        try simp only [Act.put, List.setIfInBounds_toArray, List.set_cons_zero, List.set_cons_succ]
        refine wpAnyH_done (by kernel_rfl) ?_ _
        refine NoPanic.normal ?_
        clear hb f0 f1 p0 p1 p2 p3 l0 lQ lR
        obtain ⟨hb, f0, f1, p0, p1, p2, p3, l0, lQ, lR⟩ := hHeld
        replace l0 := Lib.hid l0
        replace lQ := Lib.hid lQ
        replace lR := Lib.hid lR
        go_wp2_with fail
        go_meet
        exact ⟨rfl, hb, f0, f1, p0, p1, p2, p3, l0.out, lQ.out, lR.out⟩
      clear hb f0 f1 p0 p1 p2 p3 l0 lQ lR
      obtain ⟨rfl, hb, f0, f1, p0, p1, p2, p3, l0, lQ, lR⟩ := hcut
      replace l0 := Lib.hid l0
      replace lQ := Lib.hid lQ
      replace lR := Lib.hid lR
      clear lQ
      have B2 := Lib.hid (fun W (x : Bag.Lies W ra R.length R) => RefBag.of_any R text ra R.length rc W x (by have := canon_len HR.out.1; have := HRF.out; omega) (by have := HRF.out; omega))
      rw [take_of HR.out] at B2
      go_upto_region 7 with (fail)
      go_upto_region 7 with fail
      go_cut [96] (fun v wx => v = .bool false ∧ Below w.heap.size w wx ∧ wx.cell? ⟨db, 0, none⟩ = some (.string ⟨p.toArray⟩) ∧ wx.cell? ⟨db, 1, none⟩ = some (.int .u64 (q : Int)) ∧ wx.cell? ⟨pb, 0, none⟩ = some (.string ⟨by_.toArray⟩) ∧ wx.cell? ⟨pb, 1, none⟩ = some (.int .u64 (cp : Int)) ∧ wx.cell? ⟨pb, 2, none⟩ = some (.string ⟨owner.toArray⟩) ∧ wx.cell? ⟨pb, 3, none⟩ = some (.int .u64 (base : Int)) ∧ Bag.Lies wx s0 N L ∧ Bag.Lies wx ra R.length R)
      case first =>
        go_wp2_with fail
        refine (B2.out _ lR.out).mono ?_
        rintro e v10 ⟨a10, cc10, rfl, -, k10⟩
        replace f0 := (Dots.keepC f0 k10)
        replace f1 := (Dots.keepC f1 k10)
        replace p0 := (Dots.keepC p0 k10)
        replace p1 := (Dots.keepC p1 k10)
        replace p2 := (Dots.keepC p2 k10)
        replace p3 := (Dots.keepC p3 k10)
        replace l0 := Lib.hid (Bag.Lies.below l0.out k10)
        replace lR := Lib.hid (Bag.Lies.below lR.out k10)
        replace hb := bstep hb k10
        clear k10
        by_cases hot : other = text
        · have q1 : (other != text) = false := by simp [hot]
          have q2 : (other == text) = true := by simp [hot]
          clear hot B2
          go_wp2_with fail
          go_meet
          exact ⟨rfl, hb, f0, f1, p0, p1, p2, p3, l0.out, lR.out⟩
        have q1 : (other != text) = true := by simpa using hot
        have q2 : (other == text) = false := by simpa using hot
        have B3 := Lib.hid (fun W (x : Bag.Lies W ra R.length R) => RefBag.of_any R other ra R.length rc W x (by have := canon_len HR.out.1; have := HRF.out; omega) (by have := HRF.out; omega))
        rw [take_other HR.out hot] at B3
        have B4 := Lib.hid (fun W (x : Bag.Lies W s0 N L) => RefBag.of_any L other s0 N c0 W x (by have := HPL.out; omega) (by have := HPL.out; omega))
        have q3 : (((ofT L other).length : Int) != ((ofT L other).length : Int)) = false := by simp
        clear hot B2
        go_wp2_with fail
        refine (B3.out _ lR.out).mono ?_
        rintro e v11 ⟨a11, cc11, rfl, -, k11⟩
        replace f0 := (Dots.keepC f0 k11)
        replace f1 := (Dots.keepC f1 k11)
        replace p0 := (Dots.keepC p0 k11)
        replace p1 := (Dots.keepC p1 k11)
        replace p2 := (Dots.keepC p2 k11)
        replace p3 := (Dots.keepC p3 k11)
        replace l0 := Lib.hid (Bag.Lies.below l0.out k11)
        replace lR := Lib.hid (Bag.Lies.below lR.out k11)
        replace hb := bstep hb k11
        clear k11
        go_wp2_with fail
        refine (B4.out _ l0.out).mono ?_
        rintro e v12 ⟨a12, cc12, rfl, -, k12⟩
        replace f0 := (Dots.keepC f0 k12)
        replace f1 := (Dots.keepC f1 k12)
        replace p0 := (Dots.keepC p0 k12)
        replace p1 := (Dots.keepC p1 k12)
        replace p2 := (Dots.keepC p2 k12)
        replace p3 := (Dots.keepC p3 k12)
        replace l0 := Lib.hid (Bag.Lies.below l0.out k12)
        replace lR := Lib.hid (Bag.Lies.below lR.out k12)
        replace hb := bstep hb k12
        clear k12
        go_wp2_with fail
        go_meet
        exact ⟨rfl, hb, f0, f1, p0, p1, p2, p3, l0.out, lR.out⟩
      clear hb f0 f1 p0 p1 p2 p3 l0 lR
      obtain ⟨rfl, hb, f0, f1, p0, p1, p2, p3, l0, lR⟩ := hcut
      replace l0 := Lib.hid l0
      replace lR := Lib.hid lR
      clear lR B2
      have TU := Lib.hid (fun W (x : Bag.Lies W s0 N L) => turn_any L by_ owner cp base s0 N c0 W x FI.out HOW.out)
      go_wp2_with fail
      refine (TU.out _ l0.out).mono ?_
      rintro e v13 ⟨ta, tc, T, rfl, hT, hTl, lT, k13⟩
      replace f0 := (Dots.keepC f0 k13)
      replace f1 := (Dots.keepC f1 k13)
      replace p0 := (Dots.keepC p0 k13)
      replace p1 := (Dots.keepC p1 k13)
      replace p2 := (Dots.keepC p2 k13)
      replace p3 := (Dots.keepC p3 k13)
      replace l0 := Lib.hid (Bag.Lies.below l0.out k13)
      replace hb := bstep hb k13
      clear k13
      have HT := Lib.hid hT
      replace lT := Lib.hid lT
      have HTL2 : Hid (T.length ≤ 400) := Lib.hid (by have := HPL.out.1; omega)
      have HTF : Hid (Fine T ∧ (pls T).length ≤ 400) := Lib.hid (by
        have h1 := few_of hT (V := (pls L).map (fun x => ⟨x.t, turned by_ owner base x.m⟩)) (fun t m h => by
          obtain ⟨x, hx, e⟩ := h
          exact List.mem_map.2 ⟨⟨t, x⟩, (mem_pls L t x).2 hx, Pl.ext' rfl e⟩)
        rw [List.length_map] at h1
        refine ⟨fine_of hT (V := (pls L).map (fun x => ⟨x.t, turned by_ owner base x.m⟩)) (fun t m h => by
          obtain ⟨x, hx, e⟩ := h
          exact List.mem_map.2 ⟨⟨t, x⟩, (mem_pls L t x).2 hx, Pl.ext' rfl e⟩) (by rw [List.length_map]; have := HPL.out.1; omega) (fun y hy => ?_) (by have := HTL2.out; omega), by have := HPL.out.1; omega⟩
        obtain ⟨x, hx, rfl⟩ := List.mem_map.1 hy
        obtain ⟨f1, f2⟩ := FI.out.fine x hx
        exact ⟨f1, turned_fine f2 HOW.out⟩)
      clear hT hTl TU f0 f1 p1 p3
      obtain ⟨NT, hNT⟩ : ∃ n, n = T.length := ⟨_, rfl⟩
      rw [← hNT] at lT HTL2 ⊢
      have HNT := Lib.hid hNT
      clear hNT
      obtain ⟨J, hJe, hJ, hD⟩ := l0.out
      have HJ := Lib.hid hJ
      have HD := Lib.hid hD
      have HJN := Lib.hid hJ.1
      have HJE := Lib.hid hJe
      obtain ⟨K, hKe, hK, hKD⟩ := lT.out
      have GJ := Lib.hid hK
      have GD := Lib.hid hKD
      have GJN := Lib.hid hK.1
      have GJE := Lib.hid hKe
      clear hJe hJ hD hKe hK hKD
      have P0 := Lib.hid p0
      have P2 := Lib.hid p2
      have LT := lT
      have L0 := l0
      have HB := Lib.hid hb
      have h1 := Below.refl v13.heap.size v13
      have HC0 : Hid (0 = (pls (L.take 0)).length) := Lib.hid rfl
      have HZ0 : Hid (false = taken owner (pls (L.take 0))) := Lib.hid rfl
      clear lT l0 p0 p2 hb
      go_wp2_with fail
      go_loopw [15, 17, 18] (fun nv tv iv wr => ∃ (i cnt : Nat) (z : Bool), i ≤ N ∧ iv = .int .i64 i ∧ nv = .int .i64 cnt ∧ tv = .bool z ∧ Hid (cnt = (pls (L.take i)).length) ∧ Hid (z = taken owner (pls (L.take i))) ∧ Below v13.heap.size v13 wr) (fun _ _ iv _ => N - (intOf iv).toNat)
      case atStart => exact ⟨0, 0, false, by omega, rfl, rfl, rfl, HC0, HZ0, h1⟩
      case round =>
        clear HC0 HZ0 h1
        have hn4 := HPL.out.2
        obtain ⟨i, cnt, z, hi, rfl, rfl, rfl, HC, HZ, hb⟩ := hrel
        by_cases hlt : i < N
        rotate_left
        · have hiN : N = i := by omega
          subst hiN
          have d3 : decide ((N : Int) < (N : Int)) = false := decide_eq_false (by omega)
          have HTK : Hid (L.take N = L) := Lib.hid (List.take_of_length_le (by have := HN.out; omega))
          have HCL : Hid (cnt = (pls L).length) := Lib.hid (by rw [HC.out, HTK.out])
          have HZL : Hid (z = taken owner (pls L)) := Lib.hid (by rw [HZ.out, HTK.out])
          have HMC0 : Hid (0 = (pls (T.take 0)).length) := Lib.hid rfl
          have hb0 := hb
          clear HC HZ HTK hb
          go_wp2_with fail
          go_loopw [16, 20] (fun nv iv wr => ∃ (i mc : Nat), i ≤ NT ∧ iv = .int .i64 i ∧ nv = .int .i64 mc ∧ Hid (mc = (pls (T.take i)).length) ∧ Below v13.heap.size v13 wr) (fun _ iv _ => NT - (intOf iv).toNat)
          case atStart => exact ⟨0, 0, by omega, rfl, rfl, HMC0, hb0⟩
          case round =>
            clear HMC0 hb0
            have hn4 := HTL2.out
            obtain ⟨i, mc, hi, rfl, rfl, HC, hb⟩ := hrel
            by_cases hlt : i < NT
            rotate_left
            · have hiN : NT = i := by omega
              subst hiN
              have d4 : decide ((NT : Int) < (NT : Int)) = false := decide_eq_false (by omega)
              have HML : Hid (mc = (pls T).length) := Lib.hid (by rw [HC.out, List.take_of_length_le (by have := HNT.out; omega)])
              have HEND : Hid (z = true ∨ cnt = mc) := Lib.hid (by
                cases z with
                | true => exact .inl rfl
                | false => exact .inr (by rw [HCL.out, HML.out]; exact turn_len CA.out (fun x hx => (FI.out.fine x hx).2.2) HT.out HZL.out.symm))
              have TX1 := Lib.hid (fun W (x : Bag.Lies W ta NT T) => texts_any T ta NT tc W x HTF.out.1 T (IsBag.self HT.out.1))
              have TX2 := Lib.hid (fun W (x : Bag.Lies W s0 N L) => texts_any L s0 N c0 W x FI.out L (IsBag.self CA.out))
              have HTX := Lib.hid (turn_texts CA.out HT.out)
              have HTN : Hid (T.length ≤ 1099511627776) := Lib.hid (by have := HTF.out.1.items; exact this)
              have lT := Lib.hid (Bag.Lies.below LT.out hb)
              have l0 := Lib.hid (Bag.Lies.below L0.out hb)
              have hb := HB.out.trans (hb.mono HB.out.size)
              rw [← HNT.out] at TX1
              rw [← HN.out] at TX2
              clear HC LT L0 HB
              go_wp2_with fail
              refine (TX1.out _ lT.out).mono ?_
              rintro e v14 ⟨xa, xc, rfl, lX, k14⟩
              replace l0 := Lib.hid (Bag.Lies.below l0.out k14)
              replace lT := Lib.hid (Bag.Lies.below lT.out k14)
              replace hb := bstep hb k14
              clear k14
              replace lX := Lib.hid lX
              go_wp2_with fail
              refine (TX2.out _ l0.out).mono ?_
              rintro e v15 ⟨ya, yc, rfl, lY, k15⟩
              replace l0 := Lib.hid (Bag.Lies.below l0.out k15)
              replace lT := Lib.hid (Bag.Lies.below lT.out k15)
              replace lX := Lib.hid (Row.Lies.below lX.out k15)
              replace hb := bstep hb k15
              clear k15
              replace lY := Lib.hid lY
              have SA := Lib.hid (fun W (x : Words.Lies W xa (T.map It.t).length (T.map It.t)) (y : Words.Lies W ya (L.map It.t).length (L.map It.t)) => BagLaw.same_any (T.map It.t) (L.map It.t) xa ya xc yc W x y (by rw [List.length_map]; exact HTN.out))
              rw [decide_eq_true HTX.out, List.length_map, List.length_map, ← HNT.out, ← HN.out] at SA
              go_wp2_with fail
              refine (SA.out _ lX.out lY.out).mono ?_
              rintro e v16 ⟨rfl, k16⟩
              replace l0 := Lib.hid (Bag.Lies.below l0.out k16)
              replace lT := Lib.hid (Bag.Lies.below lT.out k16)
              replace lX := Lib.hid (Row.Lies.below lX.out k16)
              replace lY := Lib.hid (Row.Lies.below lY.out k16)
              replace hb := bstep hb k16
              clear k16
              cases z with
              | true =>
                go_wp2_with fail
                refine (alive_any _).mono ?_
                rintro e v17 ⟨rfl, k17⟩
                replace hb := bstep hb k17
                clear k17
                go_wp2
                go_ret
                exact ⟨rfl, hb⟩
              | false =>
                have q1 : ((cnt : Int) == (mc : Int)) = true := by
                  rcases HEND.out with h | h
                  · cases h
                  · rw [h]; simp
                have q2 : (cnt == mc) = true := by
                  rcases HEND.out with h | h
                  · cases h
                  · rw [h]; simp
                go_wp2_with fail
                refine (alive_any _).mono ?_
                rintro e v18 ⟨rfl, k18⟩
                replace hb := bstep hb k18
                clear k18
                go_wp2
                go_ret
                exact ⟨rfl, hb⟩
            have d4 : decide ((i : Int) < (NT : Int)) = true := decide_eq_true (by omega)
            have j1 : (0 : Int) ≤ (i : Int) := by omega
            have j2 : (i : Int) < (NT : Int) := by omega
            have hil : i < K.length := by have := GJN.out; omega
            have hml : i < T.length := by rw [← GJE.out, List.length_map]; exact hil
            obtain ⟨b, o, hao, hc⟩ := items_at (GJ.out.below hb) (by omega)
            obtain ⟨c0, c1⟩ := hc i hil
            have HDX := Lib.hid (GD.out _ (List.getElem_mem hil))
            have hxe : K[i].it = T[i] := by have h9 := GJE.out; subst h9; rw [List.getElem_map]
            obtain ⟨hsl, hsm⟩ := pls_sub hml
            have hpt := pls_take hml
            obtain ⟨x, hx⟩ : ∃ x, x = K[i] := ⟨_, rfl⟩
            rw [← hxe] at hsl hsm hpt
            rw [← hx] at c0 c1 HDX hsl hsm hpt
            obtain ⟨t, xa, xc, d⟩ := x
            simp only [RI.it] at c0 c1 hsl hsm hpt
            unfold Inner at HDX
            simp only at HDX
            have HPT : Hid (pls (T.take (i + 1)) = pls (T.take i) ++ onT t d) := Lib.hid hpt
            have HI := Lib.hid hlt
            obtain ⟨nd, hnd⟩ : ∃ k, k = d.length := ⟨_, rfl⟩
            rw [← hnd] at c1 HDX hsl
            have HND := Lib.hid hnd
            subst hao
            have HSM : Hid (∀ m ∈ d, m.p ≠ by_ ∨ by_ = owner) := Lib.hid (fun m hm => by
              by_cases e : by_ = owner
              · exact .inr e
              · exact .inl (turn_by HT.out ((mem_pls T t m).1 (hsm m hm)) e))
            have HC1 : Hid (mc + nd = (pls (T.take (i + 1))).length ∧ mc + nd ≤ 400) := Lib.hid (by
              have h9 := HTF.out.2
              rw [HPT.out, List.length_append, onT_len, ← HC.out, ← HND.out]
              have h8 := HC.out
              refine ⟨rfl, ?_⟩
              omega)
            have hmw : IntKind.i64.wrap ((mc : Int) + (nd : Int)) = ((mc + nd : Nat) : Int) := by have := HC1.out.2; rw [IntKind.wrap_i64]; omega
            have C1 := Lib.hid c1
            have hb1 := Below.refl wr.heap.size wr
            have HBR := Lib.hid hb
            clear hc hil hml hxe hsl hsm hpt hx hlt hnd c0 HC
            go_wp2_with fail
            go_loopw [21] (fun kv wk => ∃ (k : Nat), k ≤ nd ∧ kv = .int .i64 k ∧ Below wr.heap.size wr wk) (fun kv _ => nd - (intOf kv).toNat)
            case atStart => exact ⟨0, by omega, rfl, hb1⟩
            case round =>
              clear hb1
              have hn5 := HC1.out.2
              obtain ⟨k, hk, rfl, hb2⟩ := hrel
              have c1 := Dots.keepC C1.out hb2
              have hbk := HBR.out.trans (hb2.mono HBR.out.size)
              by_cases hkd : k < nd
              rotate_left
              · obtain rfl : k = nd := by omega
                have d5 : decide ((k : Int) < (k : Int)) = false := decide_eq_false (by omega)
                go_wp2
                go_roundw
                case rel => exact ⟨i + 1, _, by have := HI.out; omega, by go_num, rfl, Lib.hid HC1.out.1, hbk⟩
                case measure => have := HI.out; simp [intOf]; omega
              have d5 : decide ((k : Int) < (nd : Int)) = true := decide_eq_true (by omega)
              have j3 : (0 : Int) ≤ (k : Int) := by omega
              have j4 : (k : Int) < (nd : Int) := by omega
              have hkl : k < d.length := by have := HND.out; omega
              obtain ⟨b2, o2, hxo, hc2⟩ := dots_at (Row.Lies.below HDX.out hbk) (by omega)
              subst hxo
              obtain ⟨e0, e1⟩ := hc2 k hkl
              have hmd := HSM.out _ (List.getElem_mem hkl)
              obtain ⟨m, hm⟩ : ∃ m, m = d[k] := ⟨_, rfl⟩
              rw [← hm] at e0 e1 hmd
              obtain ⟨mp, mq⟩ := m
              simp only at e0 e1 hmd
              have g0 := Dots.keepC P0.out hbk
              have g2 := Dots.keepC P2.out hbk
              have HK := Lib.hid hkd
              clear hc2 hkl hm hkd e1
              by_cases hmb : mp = by_
              · have hbo : by_ = owner := by
                  rcases hmd with h | h
                  · exact absurd hmb h
                  · exact h
                have q1 : (mp == by_) = true := by simpa using hmb
                have q2 : (by_ != owner) = false := by simpa using hbo
                have q3 : (by_ == owner) = true := by simpa using hbo
                clear hmb hbo hmd
                go_wp2_with fail
                refine wp_region_noPanic ?_
                refine wp_region_held_drew (S := (fun w' => w'.cell? ⟨b, o + i * 2 + 1, none⟩ = some (.slice (some ⟨b2, o2, none⟩) nd xc) ∧ w'.cell? ⟨b2, o2 + k * 2, none⟩ = some (.string ⟨mp.toArray⟩) ∧ w'.cell? ⟨pb, 0, none⟩ = some (.string ⟨by_.toArray⟩) ∧ w'.cell? ⟨pb, 2, none⟩ = some (.string ⟨owner.toArray⟩))) (by kernel_rfl) (⟨Dots.keepC c1 (Below.drew (Below.refl _ _)), Dots.keepC e0 (Below.drew (Below.refl _ _)), Dots.keepC g0 (Below.drew (Below.refl _ _)), Dots.keepC g2 (Below.drew (Below.refl _ _))⟩) (fun hHeld => ?_)
                refine wpAnyH_take (i := 0) (v := ?_) (by simp only [List.getElem?_toArray, List.getElem?_cons_zero]; rfl) (by kernel_rfl) (by kernel_rfl) (by kernel_rfl) (fun _ _ _ h => h) (Or.inl ⟨by rfl, ?_⟩) (by assumption) ?_
                rotate_left
                · (intro w hSw; (try dsimp only at hSw); go_simp; try with_reducible rfl)
                try simp only [Act.put, List.setIfInBounds_toArray, List.set_cons_zero, List.set_cons_succ]
                refine wpAnyH_take (i := 1) (v := ?_) (by simp only [List.getElem?_toArray, List.getElem?_cons_succ, List.getElem?_cons_zero]; rfl) (by kernel_rfl) (by kernel_rfl) (by kernel_rfl) (fun _ _ _ h => h) (Or.inl ⟨by rfl, ?_⟩) (by assumption) ?_
                rotate_left
                · (intro w hSw; (try dsimp only at hSw); go_simp; try with_reducible rfl)
                try simp only [Act.put, List.setIfInBounds_toArray, List.set_cons_zero, List.set_cons_succ]
                refine wpAnyH_take (i := 2) (v := ?_) (by simp only [List.getElem?_toArray, List.getElem?_cons_succ, List.getElem?_cons_zero]; rfl) (by kernel_rfl) (by kernel_rfl) (by kernel_rfl) (fun _ _ _ h => h) (Or.inl ⟨by rfl, ?_⟩) (by assumption) ?_
                rotate_left
                · (intro w hSw; (try dsimp only at hSw); go_simp; try with_reducible rfl)
                try simp only [Act.put, List.setIfInBounds_toArray, List.set_cons_zero, List.set_cons_succ]
                refine wpAnyH_take (i := 3) (v := ?_) (by simp only [List.getElem?_toArray, List.getElem?_cons_succ, List.getElem?_cons_zero]; rfl) (by kernel_rfl) (by kernel_rfl) (by kernel_rfl) (fun _ _ _ h => h) (Or.inl ⟨by rfl, ?_⟩) (by assumption) ?_
                rotate_left
                · (intro w hSw; (try dsimp only at hSw); go_simp; try with_reducible rfl)
                try simp only [Act.put, List.setIfInBounds_toArray, List.set_cons_zero, List.set_cons_succ]
                refine wpAnyH_take (i := 4) (v := ?_) (by simp only [List.getElem?_toArray, List.getElem?_cons_succ, List.getElem?_cons_zero]; rfl) (by kernel_rfl) (by kernel_rfl) (by kernel_rfl) (fun _ _ _ h => h) (Or.inl ⟨by rfl, ?_⟩) (by assumption) ?_
                rotate_left
                · (intro w hSw; (try dsimp only at hSw); go_simp; try with_reducible rfl)
                try simp only [Act.put, List.setIfInBounds_toArray, List.set_cons_zero, List.set_cons_succ]
                refine wpAnyH_take (i := 5) (v := ?_) (by simp only [List.getElem?_toArray, List.getElem?_cons_succ, List.getElem?_cons_zero]; rfl) (by kernel_rfl) (by kernel_rfl) (by kernel_rfl) (fun _ _ _ h => h) (Or.inl ⟨by rfl, ?_⟩) (by assumption) ?_
                rotate_left
                · (intro w hSw; (try dsimp only at hSw); go_simp; try with_reducible rfl)
                try simp only [Act.put, List.setIfInBounds_toArray, List.set_cons_zero, List.set_cons_succ]
                refine wpAnyH_take (i := 6) (v := ?_) (by simp only [List.getElem?_toArray, List.getElem?_cons_succ, List.getElem?_cons_zero]; rfl) (by kernel_rfl) (by kernel_rfl) (by kernel_rfl) (fun _ _ _ h => h) (Or.inl ⟨by rfl, ?_⟩) (by assumption) ?_
                rotate_left
                · (intro w hSw; (try dsimp only at hSw); go_simp; try with_reducible rfl)
                try simp only [Act.put, List.setIfInBounds_toArray, List.set_cons_zero, List.set_cons_succ]
                refine wpAnyH_take (i := 7) (v := ?_) (by simp only [List.getElem?_toArray, List.getElem?_cons_succ, List.getElem?_cons_zero]; rfl) (by kernel_rfl) (by kernel_rfl) (by kernel_rfl) (fun _ _ _ h => h) (Or.inl ⟨by rfl, ?_⟩) (by assumption) ?_
                rotate_left
                · (intro w hSw; (try dsimp only at hSw); go_simp; try with_reducible rfl)
                try simp only [Act.put, List.setIfInBounds_toArray, List.set_cons_zero, List.set_cons_succ]
                refine wpAnyH_take (i := 8) (v := ?_) (by simp only [List.getElem?_toArray, List.getElem?_cons_succ, List.getElem?_cons_zero]; rfl) (by kernel_rfl) (by kernel_rfl) (by kernel_rfl) (fun _ _ _ h => h) (Or.inl ⟨by rfl, ?_⟩) (by assumption) ?_
                rotate_left
                · (intro w hSw; (try dsimp only at hSw); go_simp; try with_reducible rfl)
                try simp only [Act.put, List.setIfInBounds_toArray, List.set_cons_zero, List.set_cons_succ]
                refine wpAnyH_take (i := 9) (v := ?_) (by simp only [List.getElem?_toArray, List.getElem?_cons_succ, List.getElem?_cons_zero]; rfl) (by kernel_rfl) (by kernel_rfl) (by kernel_rfl) (fun _ _ _ h => h) (Or.inl ⟨by rfl, ?_⟩) (by assumption) ?_
                rotate_left
                · (intro w hSw; (try dsimp only at hSw); go_simp; try with_reducible rfl)
                try simp only [Act.put, List.setIfInBounds_toArray, List.set_cons_zero, List.set_cons_succ]
                refine wpAnyH_take (i := 10) (v := ?_) (by simp only [List.getElem?_toArray, List.getElem?_cons_succ, List.getElem?_cons_zero]; rfl) (by kernel_rfl) (by kernel_rfl) (by kernel_rfl) (fun _ _ _ h => h) (Or.inl ⟨by rfl, ?_⟩) (by assumption) ?_
                rotate_left
                · (intro w hSw; (try dsimp only at hSw); go_simp; try with_reducible rfl)
                try simp only [Act.put, List.setIfInBounds_toArray, List.set_cons_zero, List.set_cons_succ]
                refine wpAnyH_take (i := 11) (v := ?_) (by simp only [List.getElem?_toArray, List.getElem?_cons_succ, List.getElem?_cons_zero]; rfl) (by kernel_rfl) (by kernel_rfl) (by kernel_rfl) (fun _ _ _ h => h) (Or.inl ⟨by rfl, ?_⟩) (by assumption) ?_
                rotate_left
                · (intro w hSw; (try dsimp only at hSw); go_simp; try with_reducible rfl)
                try simp only [Act.put, List.setIfInBounds_toArray, List.set_cons_zero, List.set_cons_succ]
                refine wpAnyH_take (i := 12) (v := ?_) (by simp only [List.getElem?_toArray, List.getElem?_cons_succ, List.getElem?_cons_zero]; rfl) (by kernel_rfl) (by kernel_rfl) (by kernel_rfl) (fun _ _ _ h => h) (Or.inl ⟨by rfl, ?_⟩) (by assumption) ?_
                rotate_left
                · (intro w hSw; (try dsimp only at hSw); go_simp; try with_reducible rfl)
                try simp only [Act.put, List.setIfInBounds_toArray, List.set_cons_zero, List.set_cons_succ]
                refine wpAnyH_take (i := 13) (v := ?_) (by simp only [List.getElem?_toArray, List.getElem?_cons_succ, List.getElem?_cons_zero]; rfl) (by kernel_rfl) (by kernel_rfl) (by kernel_rfl) (fun _ _ _ h => h) (Or.inl ⟨by rfl, ?_⟩) (by assumption) ?_
                rotate_left
                · (intro w hSw; (try dsimp only at hSw); go_simp; try with_reducible rfl)
                try simp only [Act.put, List.setIfInBounds_toArray, List.set_cons_zero, List.set_cons_succ]
                refine wpAnyH_take (i := 14) (v := ?_) (by simp only [List.getElem?_toArray, List.getElem?_cons_succ, List.getElem?_cons_zero]; rfl) (by kernel_rfl) (by kernel_rfl) (by kernel_rfl) (fun _ _ _ h => h) (Or.inl ⟨by rfl, ?_⟩) (by assumption) ?_
                rotate_left
                · (intro w hSw; (try dsimp only at hSw); go_simp; try with_reducible rfl)
                try simp only [Act.put, List.setIfInBounds_toArray, List.set_cons_zero, List.set_cons_succ]
                refine wpAnyH_take (i := 15) (v := ?_) (by simp only [List.getElem?_toArray, List.getElem?_cons_succ, List.getElem?_cons_zero]; rfl) (by kernel_rfl) (by kernel_rfl) (by kernel_rfl) (fun _ _ _ h => h) (Or.inl ⟨by rfl, ?_⟩) (by assumption) ?_
                rotate_left
                · (intro w hSw; (try dsimp only at hSw); go_simp; try with_reducible rfl)
                try simp only [Act.put, List.setIfInBounds_toArray, List.set_cons_zero, List.set_cons_succ]
                refine wpAnyH_take (i := 16) (v := ?_) (by simp only [List.getElem?_toArray, List.getElem?_cons_succ, List.getElem?_cons_zero]; rfl) (by kernel_rfl) (by kernel_rfl) (by kernel_rfl) (fun _ _ _ h => h) (Or.inl ⟨by rfl, ?_⟩) (by assumption) ?_
                rotate_left
                · (intro w hSw; (try dsimp only at hSw); go_simp; try with_reducible rfl)
                try simp only [Act.put, List.setIfInBounds_toArray, List.set_cons_zero, List.set_cons_succ]
                refine wpAnyH_take (i := 17) (v := ?_) (by simp only [List.getElem?_toArray, List.getElem?_cons_succ, List.getElem?_cons_zero]; rfl) (by kernel_rfl) (by kernel_rfl) (by kernel_rfl) (fun _ _ _ h => h) (Or.inl ⟨by rfl, ?_⟩) (by assumption) ?_
                rotate_left
                · (intro w hSw; (try dsimp only at hSw); go_simp; try with_reducible rfl)
                try simp only [Act.put, List.setIfInBounds_toArray, List.set_cons_zero, List.set_cons_succ]
                refine wpAnyH_take (i := 18) (v := ?_) (by simp only [List.getElem?_toArray, List.getElem?_cons_succ, List.getElem?_cons_zero]; rfl) (by kernel_rfl) (by kernel_rfl) (by kernel_rfl) (fun _ _ _ h => h) (Or.inl ⟨by rfl, ?_⟩) (by assumption) ?_
                rotate_left
                · (intro w hSw; (try dsimp only at hSw); go_simp; try with_reducible rfl)
                try simp only [Act.put, List.setIfInBounds_toArray, List.set_cons_zero, List.set_cons_succ]
                refine wpAnyH_done (by kernel_rfl) ?_ _
                refine NoPanic.normal ?_
                clear hHeld
                go_wp2
                go_roundw
                case rel => exact ⟨k + 1, by have := HK.out; omega, by go_num, Below.drew hb2⟩
                case measure => have := HK.out; simp [intOf]; omega
              · have q1 : (mp == by_) = false := by simpa using hmb
                clear hmb hmd
                go_wp2_with fail
                refine wp_region_noPanic ?_
                refine wp_region_held_drew (S := (fun w' => w'.cell? ⟨b, o + i * 2 + 1, none⟩ = some (.slice (some ⟨b2, o2, none⟩) nd xc) ∧ w'.cell? ⟨b2, o2 + k * 2, none⟩ = some (.string ⟨mp.toArray⟩) ∧ w'.cell? ⟨pb, 0, none⟩ = some (.string ⟨by_.toArray⟩) ∧ w'.cell? ⟨pb, 2, none⟩ = some (.string ⟨owner.toArray⟩))) (by kernel_rfl) (⟨Dots.keepC c1 (Below.drew (Below.refl _ _)), Dots.keepC e0 (Below.drew (Below.refl _ _)), Dots.keepC g0 (Below.drew (Below.refl _ _)), Dots.keepC g2 (Below.drew (Below.refl _ _))⟩) (fun hHeld => ?_)
                refine wpAnyH_take (i := 0) (v := ?_) (by simp only [List.getElem?_toArray, List.getElem?_cons_zero]; rfl) (by kernel_rfl) (by kernel_rfl) (by kernel_rfl) (fun _ _ _ h => h) (Or.inl ⟨by rfl, ?_⟩) (by assumption) ?_
                rotate_left
                · (intro w hSw; (try dsimp only at hSw); go_simp; try with_reducible rfl)
                try simp only [Act.put, List.setIfInBounds_toArray, List.set_cons_zero, List.set_cons_succ]
                refine wpAnyH_take (i := 1) (v := ?_) (by simp only [List.getElem?_toArray, List.getElem?_cons_succ, List.getElem?_cons_zero]; rfl) (by kernel_rfl) (by kernel_rfl) (by kernel_rfl) (fun _ _ _ h => h) (Or.inl ⟨by rfl, ?_⟩) (by assumption) ?_
                rotate_left
                · (intro w hSw; (try dsimp only at hSw); go_simp; try with_reducible rfl)
                try simp only [Act.put, List.setIfInBounds_toArray, List.set_cons_zero, List.set_cons_succ]
                refine wpAnyH_take (i := 2) (v := ?_) (by simp only [List.getElem?_toArray, List.getElem?_cons_succ, List.getElem?_cons_zero]; rfl) (by kernel_rfl) (by kernel_rfl) (by kernel_rfl) (fun _ _ _ h => h) (Or.inl ⟨by rfl, ?_⟩) (by assumption) ?_
                rotate_left
                · (intro w hSw; (try dsimp only at hSw); go_simp; try with_reducible rfl)
                try simp only [Act.put, List.setIfInBounds_toArray, List.set_cons_zero, List.set_cons_succ]
                refine wpAnyH_take (i := 3) (v := ?_) (by simp only [List.getElem?_toArray, List.getElem?_cons_succ, List.getElem?_cons_zero]; rfl) (by kernel_rfl) (by kernel_rfl) (by kernel_rfl) (fun _ _ _ h => h) (Or.inl ⟨by rfl, ?_⟩) (by assumption) ?_
                rotate_left
                · (intro w hSw; (try dsimp only at hSw); go_simp; try with_reducible rfl)
                try simp only [Act.put, List.setIfInBounds_toArray, List.set_cons_zero, List.set_cons_succ]
                refine wpAnyH_take (i := 4) (v := ?_) (by simp only [List.getElem?_toArray, List.getElem?_cons_succ, List.getElem?_cons_zero]; rfl) (by kernel_rfl) (by kernel_rfl) (by kernel_rfl) (fun _ _ _ h => h) (Or.inl ⟨by rfl, ?_⟩) (by assumption) ?_
                rotate_left
                · (intro w hSw; (try dsimp only at hSw); go_simp; try with_reducible rfl)
                try simp only [Act.put, List.setIfInBounds_toArray, List.set_cons_zero, List.set_cons_succ]
                refine wpAnyH_take (i := 5) (v := ?_) (by simp only [List.getElem?_toArray, List.getElem?_cons_succ, List.getElem?_cons_zero]; rfl) (by kernel_rfl) (by kernel_rfl) (by kernel_rfl) (fun _ _ _ h => h) (Or.inl ⟨by rfl, ?_⟩) (by assumption) ?_
                rotate_left
                · (intro w hSw; (try dsimp only at hSw); go_simp; try with_reducible rfl)
                try simp only [Act.put, List.setIfInBounds_toArray, List.set_cons_zero, List.set_cons_succ]
                refine wpAnyH_take (i := 6) (v := ?_) (by simp only [List.getElem?_toArray, List.getElem?_cons_succ, List.getElem?_cons_zero]; rfl) (by kernel_rfl) (by kernel_rfl) (by kernel_rfl) (fun _ _ _ h => h) (Or.inl ⟨by rfl, ?_⟩) (by assumption) ?_
                rotate_left
                · (intro w hSw; (try dsimp only at hSw); go_simp; try with_reducible rfl)
                try simp only [Act.put, List.setIfInBounds_toArray, List.set_cons_zero, List.set_cons_succ]
                refine wpAnyH_take (i := 7) (v := ?_) (by simp only [List.getElem?_toArray, List.getElem?_cons_succ, List.getElem?_cons_zero]; rfl) (by kernel_rfl) (by kernel_rfl) (by kernel_rfl) (fun _ _ _ h => h) (Or.inl ⟨by rfl, ?_⟩) (by assumption) ?_
                rotate_left
                · (intro w hSw; (try dsimp only at hSw); go_simp; try with_reducible rfl)
                try simp only [Act.put, List.setIfInBounds_toArray, List.set_cons_zero, List.set_cons_succ]
                refine wpAnyH_take (i := 8) (v := ?_) (by simp only [List.getElem?_toArray, List.getElem?_cons_succ, List.getElem?_cons_zero]; rfl) (by kernel_rfl) (by kernel_rfl) (by kernel_rfl) (fun _ _ _ h => h) (Or.inl ⟨by rfl, ?_⟩) (by assumption) ?_
                rotate_left
                · (intro w hSw; (try dsimp only at hSw); go_simp; try with_reducible rfl)
                try simp only [Act.put, List.setIfInBounds_toArray, List.set_cons_zero, List.set_cons_succ]
                refine wpAnyH_take (i := 9) (v := ?_) (by simp only [List.getElem?_toArray, List.getElem?_cons_succ, List.getElem?_cons_zero]; rfl) (by kernel_rfl) (by kernel_rfl) (by kernel_rfl) (fun _ _ _ h => h) (Or.inl ⟨by rfl, ?_⟩) (by assumption) ?_
                rotate_left
                · (intro w hSw; (try dsimp only at hSw); go_simp; try with_reducible rfl)
                try simp only [Act.put, List.setIfInBounds_toArray, List.set_cons_zero, List.set_cons_succ]
                refine wpAnyH_take (i := 10) (v := ?_) (by simp only [List.getElem?_toArray, List.getElem?_cons_succ, List.getElem?_cons_zero]; rfl) (by kernel_rfl) (by kernel_rfl) (by kernel_rfl) (fun _ _ _ h => h) (Or.inl ⟨by rfl, ?_⟩) (by assumption) ?_
                rotate_left
                · (intro w hSw; (try dsimp only at hSw); go_simp; try with_reducible rfl)
                try simp only [Act.put, List.setIfInBounds_toArray, List.set_cons_zero, List.set_cons_succ]
                refine wpAnyH_take (i := 11) (v := ?_) (by simp only [List.getElem?_toArray, List.getElem?_cons_succ, List.getElem?_cons_zero]; rfl) (by kernel_rfl) (by kernel_rfl) (by kernel_rfl) (fun _ _ _ h => h) (Or.inl ⟨by rfl, ?_⟩) (by assumption) ?_
                rotate_left
                · (intro w hSw; (try dsimp only at hSw); go_simp; try with_reducible rfl)
                try simp only [Act.put, List.setIfInBounds_toArray, List.set_cons_zero, List.set_cons_succ]
                refine wpAnyH_take (i := 12) (v := ?_) (by simp only [List.getElem?_toArray, List.getElem?_cons_succ, List.getElem?_cons_zero]; rfl) (by kernel_rfl) (by kernel_rfl) (by kernel_rfl) (fun _ _ _ h => h) (Or.inl ⟨by rfl, ?_⟩) (by assumption) ?_
                rotate_left
                · (intro w hSw; (try dsimp only at hSw); go_simp; try with_reducible rfl)
                try simp only [Act.put, List.setIfInBounds_toArray, List.set_cons_zero, List.set_cons_succ]
                refine wpAnyH_take (i := 13) (v := undef) (by simp only [List.getElem?_toArray, List.getElem?_cons_succ, List.getElem?_cons_zero]; rfl) (by kernel_rfl) (by kernel_rfl) (by kernel_rfl) (fun _ _ _ h => h) (Or.inr ⟨by rfl, rfl⟩) (by assumption) ?_
                try simp only [Act.put, List.setIfInBounds_toArray, List.set_cons_zero, List.set_cons_succ]
                refine wpAnyH_take (i := 14) (v := undef) (by simp only [List.getElem?_toArray, List.getElem?_cons_succ, List.getElem?_cons_zero]; rfl) (by kernel_rfl) (by kernel_rfl) (by kernel_rfl) (fun _ _ _ h => h) (Or.inr ⟨by rfl, rfl⟩) (by assumption) ?_
                try simp only [Act.put, List.setIfInBounds_toArray, List.set_cons_zero, List.set_cons_succ]
                refine wpAnyH_take (i := 15) (v := undef) (by simp only [List.getElem?_toArray, List.getElem?_cons_succ, List.getElem?_cons_zero]; rfl) (by kernel_rfl) (by kernel_rfl) (by kernel_rfl) (fun _ _ _ h => h) (Or.inr ⟨by rfl, rfl⟩) (by assumption) ?_
                try simp only [Act.put, List.setIfInBounds_toArray, List.set_cons_zero, List.set_cons_succ]
                refine wpAnyH_take (i := 16) (v := undef) (by simp only [List.getElem?_toArray, List.getElem?_cons_succ, List.getElem?_cons_zero]; rfl) (by kernel_rfl) (by kernel_rfl) (by kernel_rfl) (fun _ _ _ h => h) (Or.inr ⟨by rfl, rfl⟩) (by assumption) ?_
                try simp only [Act.put, List.setIfInBounds_toArray, List.set_cons_zero, List.set_cons_succ]
                refine wpAnyH_take (i := 17) (v := undef) (by simp only [List.getElem?_toArray, List.getElem?_cons_succ, List.getElem?_cons_zero]; rfl) (by kernel_rfl) (by kernel_rfl) (by kernel_rfl) (fun _ _ _ h => h) (Or.inr ⟨by rfl, rfl⟩) (by assumption) ?_
                try simp only [Act.put, List.setIfInBounds_toArray, List.set_cons_zero, List.set_cons_succ]
                refine wpAnyH_take (i := 18) (v := ?_) (by simp only [List.getElem?_toArray, List.getElem?_cons_succ, List.getElem?_cons_zero]; rfl) (by kernel_rfl) (by kernel_rfl) (by kernel_rfl) (fun _ _ _ h => h) (Or.inl ⟨by rfl, ?_⟩) (by assumption) ?_
                rotate_left
                · (intro w hSw; (try dsimp only at hSw); go_simp; try with_reducible rfl)
                try simp only [Act.put, List.setIfInBounds_toArray, List.set_cons_zero, List.set_cons_succ]
                refine wpAnyH_done (by kernel_rfl) ?_ _
                refine NoPanic.normal ?_
                clear hHeld
                go_wp2
                go_roundw
                case rel => exact ⟨k + 1, by have := HK.out; omega, by go_num, Below.drew hb2⟩
                case measure => have := HK.out; simp [intOf]; omega
        have d3 : decide ((i : Int) < (N : Int)) = true := decide_eq_true (by omega)
        have j1 : (0 : Int) ≤ (i : Int) := by omega
        have j2 : (i : Int) < (N : Int) := by omega
        have hil : i < J.length := by have := HJN.out; omega
        have hml : i < L.length := by rw [← HJE.out, List.length_map]; exact hil
        obtain ⟨b, o, hao, hc⟩ := items_at (HJ.out.below hb) (by omega)
        obtain ⟨c0, c1⟩ := hc i hil
        have HDX := Lib.hid (HD.out _ (List.getElem_mem hil))
        have hxe : J[i].it = L[i] := by have h9 := HJE.out; subst h9; rw [List.getElem_map]
        obtain ⟨hsl, hsm⟩ := pls_sub hml
        have hpt := pls_take hml
        obtain ⟨x, hx⟩ : ∃ x, x = J[i] := ⟨_, rfl⟩
        rw [← hxe] at hsl hsm hpt
        rw [← hx] at c0 c1 HDX hsl hsm hpt
        obtain ⟨t, xa, xc, d⟩ := x
        simp only [RI.it] at c0 c1 hsl hsm hpt
        unfold Inner at HDX
        simp only at HDX
        have HPT : Hid (pls (L.take (i + 1)) = pls (L.take i) ++ onT t d) := Lib.hid hpt
        have HI := Lib.hid hlt
        obtain ⟨nd, hnd⟩ : ∃ k, k = d.length := ⟨_, rfl⟩
        rw [← hnd] at c1 HDX hsl
        have HND := Lib.hid hnd
        subst hao
        have HC1 : Hid (cnt + nd = (pls (L.take (i + 1))).length ∧ cnt + nd ≤ 400) := Lib.hid (by
          have h9 := HPL.out.1
          rw [HPT.out, List.length_append, onT_len, ← HC.out, ← HND.out]
          have h8 := HC.out
          refine ⟨rfl, ?_⟩
          omega)
        have hmw : IntKind.i64.wrap ((cnt : Int) + (nd : Int)) = ((cnt + nd : Nat) : Int) := by have := HC1.out.2; rw [IntKind.wrap_i64]; omega
        have C1 := Lib.hid c1
        have hb1 := Below.refl wr.heap.size wr
        have HBR := Lib.hid hb
        have HZ1 : Hid (z = taken owner (pls (L.take i) ++ onT t (d.take 0))) := Lib.hid (by rw [show onT t (d.take 0) = [] from rfl, List.append_nil]; exact HZ.out)
        clear hc hil hml hxe hsl hsm hpt hx hlt hnd c0 HC HZ
        go_wp2_with fail
        go_loopw [17, 19] (fun tv kv wk => ∃ (k : Nat) (z : Bool), k ≤ nd ∧ kv = .int .i64 k ∧ tv = .bool z ∧ Hid (z = taken owner (pls (L.take i) ++ onT t (d.take k))) ∧ Below wr.heap.size wr wk) (fun _ kv _ => nd - (intOf kv).toNat)
        case atStart => exact ⟨0, z, by omega, rfl, rfl, HZ1, hb1⟩
        case round =>
          clear hb1 HZ1
          have hn5 := HC1.out.2
          obtain ⟨k, y, hk, rfl, rfl, HY, hb2⟩ := hrel
          have c1 := Dots.keepC C1.out hb2
          have hbk := HBR.out.trans (hb2.mono HBR.out.size)
          by_cases hkd : k < nd
          rotate_left
          · obtain rfl : k = nd := by omega
            have d5 : decide ((k : Int) < (k : Int)) = false := decide_eq_false (by omega)
            have HYE : Hid (y = taken owner (pls (L.take (i + 1)))) := Lib.hid (by rw [HPT.out, HY.out, List.take_of_length_le (l := d) (by have := HND.out; omega)])
            clear HY
            go_wp2
            go_roundw
            case rel => exact ⟨i + 1, _, y, by have := HI.out; omega, by go_num, rfl, rfl, Lib.hid HC1.out.1, HYE, hbk⟩
            case measure => have := HI.out; simp [intOf]; omega
          have d5 : decide ((k : Int) < (nd : Int)) = true := decide_eq_true (by omega)
          have j3 : (0 : Int) ≤ (k : Int) := by omega
          have j4 : (k : Int) < (nd : Int) := by omega
          have hkl : k < d.length := by have := HND.out; omega
          obtain ⟨b2, o2, hxo, hc2⟩ := dots_at (Row.Lies.below HDX.out hbk) (by omega)
          subst hxo
          obtain ⟨e0, e1⟩ := hc2 k hkl
          have hts2 : d.take (k + 1) = d.take k ++ [d[k]] := List.take_succ_eq_append_getElem hkl
          obtain ⟨m, hm⟩ : ∃ m, m = d[k] := ⟨_, rfl⟩
          rw [← hm] at e0 e1 hts2
          obtain ⟨mp, mq⟩ := m
          simp only at e0 e1 hts2
          have HSN : Hid (taken owner (pls (L.take i) ++ onT t (d.take (k + 1))) = (y || decide (mp = owner))) := Lib.hid (by rw [hts2, onT_snoc, ← List.append_assoc, taken_snoc, ← HY.out])
          have g2 := Dots.keepC P2.out hbk
          have HK := Lib.hid hkd
          clear hc2 hkl hm hkd e1 hts2 HY
          cases y with
          | true =>
            have HN1 : Hid (true = taken owner (pls (L.take i) ++ onT t (d.take (k + 1)))) := Lib.hid (by rw [HSN.out]; rfl)
            go_wp2_with fail
            refine wp_region_noPanic ?_
            refine wp_region_held_drew (S := (fun w' => w'.cell? ⟨b, o + i * 2 + 1, none⟩ = some (.slice (some ⟨b2, o2, none⟩) nd xc) ∧ w'.cell? ⟨b2, o2 + k * 2, none⟩ = some (.string ⟨mp.toArray⟩) ∧ w'.cell? ⟨pb, 2, none⟩ = some (.string ⟨owner.toArray⟩))) (by kernel_rfl) (⟨Dots.keepC c1 (Below.drew (Below.refl _ _)), Dots.keepC e0 (Below.drew (Below.refl _ _)), Dots.keepC g2 (Below.drew (Below.refl _ _))⟩) (fun hHeld => ?_)
            refine wpAnyH_take (i := 0) (v := ?_) (by simp only [List.getElem?_toArray, List.getElem?_cons_zero]; rfl) (by kernel_rfl) (by kernel_rfl) (by kernel_rfl) (fun _ _ _ h => h) (Or.inl ⟨by rfl, ?_⟩) (by assumption) ?_
            rotate_left
            · (intro w hSw; (try dsimp only at hSw); go_simp; try with_reducible rfl)
            try simp only [Act.put, List.setIfInBounds_toArray, List.set_cons_zero, List.set_cons_succ]
            refine wpAnyH_take (i := 1) (v := ?_) (by simp only [List.getElem?_toArray, List.getElem?_cons_succ, List.getElem?_cons_zero]; rfl) (by kernel_rfl) (by kernel_rfl) (by kernel_rfl) (fun _ _ _ h => h) (Or.inl ⟨by rfl, ?_⟩) (by assumption) ?_
            rotate_left
            · (intro w hSw; (try dsimp only at hSw); go_simp; try with_reducible rfl)
            try simp only [Act.put, List.setIfInBounds_toArray, List.set_cons_zero, List.set_cons_succ]
            refine wpAnyH_take (i := 2) (v := undef) (by simp only [List.getElem?_toArray, List.getElem?_cons_succ, List.getElem?_cons_zero]; rfl) (by kernel_rfl) (by kernel_rfl) (by kernel_rfl) (fun _ _ _ h => h) (Or.inr ⟨by rfl, rfl⟩) (by assumption) ?_
            try simp only [Act.put, List.setIfInBounds_toArray, List.set_cons_zero, List.set_cons_succ]
            refine wpAnyH_take (i := 3) (v := undef) (by simp only [List.getElem?_toArray, List.getElem?_cons_succ, List.getElem?_cons_zero]; rfl) (by kernel_rfl) (by kernel_rfl) (by kernel_rfl) (fun _ _ _ h => h) (Or.inr ⟨by rfl, rfl⟩) (by assumption) ?_
            try simp only [Act.put, List.setIfInBounds_toArray, List.set_cons_zero, List.set_cons_succ]
            refine wpAnyH_take (i := 4) (v := undef) (by simp only [List.getElem?_toArray, List.getElem?_cons_succ, List.getElem?_cons_zero]; rfl) (by kernel_rfl) (by kernel_rfl) (by kernel_rfl) (fun _ _ _ h => h) (Or.inr ⟨by rfl, rfl⟩) (by assumption) ?_
            try simp only [Act.put, List.setIfInBounds_toArray, List.set_cons_zero, List.set_cons_succ]
            refine wpAnyH_take (i := 5) (v := undef) (by simp only [List.getElem?_toArray, List.getElem?_cons_succ, List.getElem?_cons_zero]; rfl) (by kernel_rfl) (by kernel_rfl) (by kernel_rfl) (fun _ _ _ h => h) (Or.inr ⟨by rfl, rfl⟩) (by assumption) ?_
            try simp only [Act.put, List.setIfInBounds_toArray, List.set_cons_zero, List.set_cons_succ]
            refine wpAnyH_take (i := 6) (v := undef) (by simp only [List.getElem?_toArray, List.getElem?_cons_succ, List.getElem?_cons_zero]; rfl) (by kernel_rfl) (by kernel_rfl) (by kernel_rfl) (fun _ _ _ h => h) (Or.inr ⟨by rfl, rfl⟩) (by assumption) ?_
            try simp only [Act.put, List.setIfInBounds_toArray, List.set_cons_zero, List.set_cons_succ]
            refine wpAnyH_take (i := 7) (v := undef) (by simp only [List.getElem?_toArray, List.getElem?_cons_succ, List.getElem?_cons_zero]; rfl) (by kernel_rfl) (by kernel_rfl) (by kernel_rfl) (fun _ _ _ h => h) (Or.inr ⟨by rfl, rfl⟩) (by assumption) ?_
            try simp only [Act.put, List.setIfInBounds_toArray, List.set_cons_zero, List.set_cons_succ]
            refine wpAnyH_take (i := 8) (v := undef) (by simp only [List.getElem?_toArray, List.getElem?_cons_succ, List.getElem?_cons_zero]; rfl) (by kernel_rfl) (by kernel_rfl) (by kernel_rfl) (fun _ _ _ h => h) (Or.inr ⟨by rfl, rfl⟩) (by assumption) ?_
            try simp only [Act.put, List.setIfInBounds_toArray, List.set_cons_zero, List.set_cons_succ]
            refine wpAnyH_take (i := 9) (v := undef) (by simp only [List.getElem?_toArray, List.getElem?_cons_succ, List.getElem?_cons_zero]; rfl) (by kernel_rfl) (by kernel_rfl) (by kernel_rfl) (fun _ _ _ h => h) (Or.inr ⟨by rfl, rfl⟩) (by assumption) ?_
            try simp only [Act.put, List.setIfInBounds_toArray, List.set_cons_zero, List.set_cons_succ]
            refine wpAnyH_take (i := 10) (v := undef) (by simp only [List.getElem?_toArray, List.getElem?_cons_succ, List.getElem?_cons_zero]; rfl) (by kernel_rfl) (by kernel_rfl) (by kernel_rfl) (fun _ _ _ h => h) (Or.inr ⟨by rfl, rfl⟩) (by assumption) ?_
            try simp only [Act.put, List.setIfInBounds_toArray, List.set_cons_zero, List.set_cons_succ]
            refine wpAnyH_take (i := 11) (v := undef) (by simp only [List.getElem?_toArray, List.getElem?_cons_succ, List.getElem?_cons_zero]; rfl) (by kernel_rfl) (by kernel_rfl) (by kernel_rfl) (fun _ _ _ h => h) (Or.inr ⟨by rfl, rfl⟩) (by assumption) ?_
            try simp only [Act.put, List.setIfInBounds_toArray, List.set_cons_zero, List.set_cons_succ]
            refine wpAnyH_take (i := 12) (v := undef) (by simp only [List.getElem?_toArray, List.getElem?_cons_succ, List.getElem?_cons_zero]; rfl) (by kernel_rfl) (by kernel_rfl) (by kernel_rfl) (fun _ _ _ h => h) (Or.inr ⟨by rfl, rfl⟩) (by assumption) ?_
            try simp only [Act.put, List.setIfInBounds_toArray, List.set_cons_zero, List.set_cons_succ]
            refine wpAnyH_take (i := 13) (v := undef) (by simp only [List.getElem?_toArray, List.getElem?_cons_succ, List.getElem?_cons_zero]; rfl) (by kernel_rfl) (by kernel_rfl) (by kernel_rfl) (fun _ _ _ h => h) (Or.inr ⟨by rfl, rfl⟩) (by assumption) ?_
            try simp only [Act.put, List.setIfInBounds_toArray, List.set_cons_zero, List.set_cons_succ]
            refine wpAnyH_take (i := 14) (v := ?_) (by simp only [List.getElem?_toArray, List.getElem?_cons_succ, List.getElem?_cons_zero]; rfl) (by kernel_rfl) (by kernel_rfl) (by kernel_rfl) (fun _ _ _ h => h) (Or.inl ⟨by rfl, ?_⟩) (by assumption) ?_
            rotate_left
            · (intro w hSw; (try dsimp only at hSw); go_simp; try with_reducible rfl)
            try simp only [Act.put, List.setIfInBounds_toArray, List.set_cons_zero, List.set_cons_succ]
            refine wpAnyH_take (i := 15) (v := ?_) (by simp only [List.getElem?_toArray, List.getElem?_cons_succ, List.getElem?_cons_zero]; rfl) (by kernel_rfl) (by kernel_rfl) (by kernel_rfl) (fun _ _ _ h => h) (Or.inl ⟨by rfl, ?_⟩) (by assumption) ?_
            rotate_left
            · (intro w hSw; (try dsimp only at hSw); go_simp; try with_reducible rfl)
            try simp only [Act.put, List.setIfInBounds_toArray, List.set_cons_zero, List.set_cons_succ]
            refine wpAnyH_done (by kernel_rfl) ?_ _
            refine NoPanic.normal ?_
            clear hHeld
            go_wp2
            go_roundw
            case rel => exact ⟨k + 1, true, by have := HK.out; omega, by go_num, rfl, HN1, Below.drew hb2⟩
            case measure => have := HK.out; simp [intOf]; omega
          | false =>
            by_cases hmo : mp = owner
            · have q1 : (mp == owner) = true := by simpa using hmo
              have HN1 : Hid (true = taken owner (pls (L.take i) ++ onT t (d.take (k + 1)))) := Lib.hid (by rw [HSN.out, decide_eq_true hmo]; rfl)
              clear hmo
              go_wp2_with fail
              refine wp_region_noPanic ?_
              refine wp_region_held_drew (S := (fun w' => w'.cell? ⟨b, o + i * 2 + 1, none⟩ = some (.slice (some ⟨b2, o2, none⟩) nd xc) ∧ w'.cell? ⟨b2, o2 + k * 2, none⟩ = some (.string ⟨mp.toArray⟩) ∧ w'.cell? ⟨pb, 2, none⟩ = some (.string ⟨owner.toArray⟩))) (by kernel_rfl) (⟨Dots.keepC c1 (Below.drew (Below.refl _ _)), Dots.keepC e0 (Below.drew (Below.refl _ _)), Dots.keepC g2 (Below.drew (Below.refl _ _))⟩) (fun hHeld => ?_)
              refine wpAnyH_take (i := 0) (v := ?_) (by simp only [List.getElem?_toArray, List.getElem?_cons_zero]; rfl) (by kernel_rfl) (by kernel_rfl) (by kernel_rfl) (fun _ _ _ h => h) (Or.inl ⟨by rfl, ?_⟩) (by assumption) ?_
              rotate_left
              · (intro w hSw; (try dsimp only at hSw); go_simp; try with_reducible rfl)
              try simp only [Act.put, List.setIfInBounds_toArray, List.set_cons_zero, List.set_cons_succ]
              refine wpAnyH_take (i := 1) (v := ?_) (by simp only [List.getElem?_toArray, List.getElem?_cons_succ, List.getElem?_cons_zero]; rfl) (by kernel_rfl) (by kernel_rfl) (by kernel_rfl) (fun _ _ _ h => h) (Or.inl ⟨by rfl, ?_⟩) (by assumption) ?_
              rotate_left
              · (intro w hSw; (try dsimp only at hSw); go_simp; try with_reducible rfl)
              try simp only [Act.put, List.setIfInBounds_toArray, List.set_cons_zero, List.set_cons_succ]
              refine wpAnyH_take (i := 2) (v := ?_) (by simp only [List.getElem?_toArray, List.getElem?_cons_succ, List.getElem?_cons_zero]; rfl) (by kernel_rfl) (by kernel_rfl) (by kernel_rfl) (fun _ _ _ h => h) (Or.inl ⟨by rfl, ?_⟩) (by assumption) ?_
              rotate_left
              · (intro w hSw; (try dsimp only at hSw); go_simp; try with_reducible rfl)
              try simp only [Act.put, List.setIfInBounds_toArray, List.set_cons_zero, List.set_cons_succ]
              refine wpAnyH_take (i := 3) (v := ?_) (by simp only [List.getElem?_toArray, List.getElem?_cons_succ, List.getElem?_cons_zero]; rfl) (by kernel_rfl) (by kernel_rfl) (by kernel_rfl) (fun _ _ _ h => h) (Or.inl ⟨by rfl, ?_⟩) (by assumption) ?_
              rotate_left
              · (intro w hSw; (try dsimp only at hSw); go_simp; try with_reducible rfl)
              try simp only [Act.put, List.setIfInBounds_toArray, List.set_cons_zero, List.set_cons_succ]
              refine wpAnyH_take (i := 4) (v := ?_) (by simp only [List.getElem?_toArray, List.getElem?_cons_succ, List.getElem?_cons_zero]; rfl) (by kernel_rfl) (by kernel_rfl) (by kernel_rfl) (fun _ _ _ h => h) (Or.inl ⟨by rfl, ?_⟩) (by assumption) ?_
              rotate_left
              · (intro w hSw; (try dsimp only at hSw); go_simp; try with_reducible rfl)
              try simp only [Act.put, List.setIfInBounds_toArray, List.set_cons_zero, List.set_cons_succ]
              refine wpAnyH_take (i := 5) (v := ?_) (by simp only [List.getElem?_toArray, List.getElem?_cons_succ, List.getElem?_cons_zero]; rfl) (by kernel_rfl) (by kernel_rfl) (by kernel_rfl) (fun _ _ _ h => h) (Or.inl ⟨by rfl, ?_⟩) (by assumption) ?_
              rotate_left
              · (intro w hSw; (try dsimp only at hSw); go_simp; try with_reducible rfl)
              try simp only [Act.put, List.setIfInBounds_toArray, List.set_cons_zero, List.set_cons_succ]
              refine wpAnyH_take (i := 6) (v := ?_) (by simp only [List.getElem?_toArray, List.getElem?_cons_succ, List.getElem?_cons_zero]; rfl) (by kernel_rfl) (by kernel_rfl) (by kernel_rfl) (fun _ _ _ h => h) (Or.inl ⟨by rfl, ?_⟩) (by assumption) ?_
              rotate_left
              · (intro w hSw; (try dsimp only at hSw); go_simp; try with_reducible rfl)
              try simp only [Act.put, List.setIfInBounds_toArray, List.set_cons_zero, List.set_cons_succ]
              refine wpAnyH_take (i := 7) (v := ?_) (by simp only [List.getElem?_toArray, List.getElem?_cons_succ, List.getElem?_cons_zero]; rfl) (by kernel_rfl) (by kernel_rfl) (by kernel_rfl) (fun _ _ _ h => h) (Or.inl ⟨by rfl, ?_⟩) (by assumption) ?_
              rotate_left
              · (intro w hSw; (try dsimp only at hSw); go_simp; try with_reducible rfl)
              try simp only [Act.put, List.setIfInBounds_toArray, List.set_cons_zero, List.set_cons_succ]
              refine wpAnyH_take (i := 8) (v := ?_) (by simp only [List.getElem?_toArray, List.getElem?_cons_succ, List.getElem?_cons_zero]; rfl) (by kernel_rfl) (by kernel_rfl) (by kernel_rfl) (fun _ _ _ h => h) (Or.inl ⟨by rfl, ?_⟩) (by assumption) ?_
              rotate_left
              · (intro w hSw; (try dsimp only at hSw); go_simp; try with_reducible rfl)
              try simp only [Act.put, List.setIfInBounds_toArray, List.set_cons_zero, List.set_cons_succ]
              refine wpAnyH_take (i := 9) (v := ?_) (by simp only [List.getElem?_toArray, List.getElem?_cons_succ, List.getElem?_cons_zero]; rfl) (by kernel_rfl) (by kernel_rfl) (by kernel_rfl) (fun _ _ _ h => h) (Or.inl ⟨by rfl, ?_⟩) (by assumption) ?_
              rotate_left
              · (intro w hSw; (try dsimp only at hSw); go_simp; try with_reducible rfl)
              try simp only [Act.put, List.setIfInBounds_toArray, List.set_cons_zero, List.set_cons_succ]
              refine wpAnyH_take (i := 10) (v := ?_) (by simp only [List.getElem?_toArray, List.getElem?_cons_succ, List.getElem?_cons_zero]; rfl) (by kernel_rfl) (by kernel_rfl) (by kernel_rfl) (fun _ _ _ h => h) (Or.inl ⟨by rfl, ?_⟩) (by assumption) ?_
              rotate_left
              · (intro w hSw; (try dsimp only at hSw); go_simp; try with_reducible rfl)
              try simp only [Act.put, List.setIfInBounds_toArray, List.set_cons_zero, List.set_cons_succ]
              refine wpAnyH_take (i := 11) (v := ?_) (by simp only [List.getElem?_toArray, List.getElem?_cons_succ, List.getElem?_cons_zero]; rfl) (by kernel_rfl) (by kernel_rfl) (by kernel_rfl) (fun _ _ _ h => h) (Or.inl ⟨by rfl, ?_⟩) (by assumption) ?_
              rotate_left
              · (intro w hSw; (try dsimp only at hSw); go_simp; try with_reducible rfl)
              try simp only [Act.put, List.setIfInBounds_toArray, List.set_cons_zero, List.set_cons_succ]
              refine wpAnyH_take (i := 12) (v := ?_) (by simp only [List.getElem?_toArray, List.getElem?_cons_succ, List.getElem?_cons_zero]; rfl) (by kernel_rfl) (by kernel_rfl) (by kernel_rfl) (fun _ _ _ h => h) (Or.inl ⟨by rfl, ?_⟩) (by assumption) ?_
              rotate_left
              · (intro w hSw; (try dsimp only at hSw); go_simp; try with_reducible rfl)
              try simp only [Act.put, List.setIfInBounds_toArray, List.set_cons_zero, List.set_cons_succ]
              refine wpAnyH_take (i := 13) (v := ?_) (by simp only [List.getElem?_toArray, List.getElem?_cons_succ, List.getElem?_cons_zero]; rfl) (by kernel_rfl) (by kernel_rfl) (by kernel_rfl) (fun _ _ _ h => h) (Or.inl ⟨by rfl, ?_⟩) (by assumption) ?_
              rotate_left
              · (intro w hSw; (try dsimp only at hSw); go_simp; try with_reducible rfl)
              try simp only [Act.put, List.setIfInBounds_toArray, List.set_cons_zero, List.set_cons_succ]
              refine wpAnyH_take (i := 14) (v := ?_) (by simp only [List.getElem?_toArray, List.getElem?_cons_succ, List.getElem?_cons_zero]; rfl) (by kernel_rfl) (by kernel_rfl) (by kernel_rfl) (fun _ _ _ h => h) (Or.inl ⟨by rfl, ?_⟩) (by assumption) ?_
              rotate_left
              · (intro w hSw; (try dsimp only at hSw); go_simp; try with_reducible rfl)
              try simp only [Act.put, List.setIfInBounds_toArray, List.set_cons_zero, List.set_cons_succ]
              refine wpAnyH_take (i := 15) (v := ?_) (by simp only [List.getElem?_toArray, List.getElem?_cons_succ, List.getElem?_cons_zero]; rfl) (by kernel_rfl) (by kernel_rfl) (by kernel_rfl) (fun _ _ _ h => h) (Or.inl ⟨by rfl, ?_⟩) (by assumption) ?_
              rotate_left
              · (intro w hSw; (try dsimp only at hSw); go_simp; try with_reducible rfl)
              try simp only [Act.put, List.setIfInBounds_toArray, List.set_cons_zero, List.set_cons_succ]
              refine wpAnyH_done (by kernel_rfl) ?_ _
              refine NoPanic.normal ?_
              clear hHeld
              go_wp2
              go_roundw
              case rel => exact ⟨k + 1, true, by have := HK.out; omega, by go_num, rfl, HN1, Below.drew hb2⟩
              case measure => have := HK.out; simp [intOf]; omega
            · have q1 : (mp == owner) = false := by simpa using hmo
              have HN1 : Hid (false = taken owner (pls (L.take i) ++ onT t (d.take (k + 1)))) := Lib.hid (by rw [HSN.out, decide_eq_false hmo]; rfl)
              clear hmo
              go_wp2_with fail
              refine wp_region_noPanic ?_
              refine wp_region_held_drew (S := (fun w' => w'.cell? ⟨b, o + i * 2 + 1, none⟩ = some (.slice (some ⟨b2, o2, none⟩) nd xc) ∧ w'.cell? ⟨b2, o2 + k * 2, none⟩ = some (.string ⟨mp.toArray⟩) ∧ w'.cell? ⟨pb, 2, none⟩ = some (.string ⟨owner.toArray⟩))) (by kernel_rfl) (⟨Dots.keepC c1 (Below.drew (Below.refl _ _)), Dots.keepC e0 (Below.drew (Below.refl _ _)), Dots.keepC g2 (Below.drew (Below.refl _ _))⟩) (fun hHeld => ?_)
              refine wpAnyH_take (i := 0) (v := ?_) (by simp only [List.getElem?_toArray, List.getElem?_cons_zero]; rfl) (by kernel_rfl) (by kernel_rfl) (by kernel_rfl) (fun _ _ _ h => h) (Or.inl ⟨by rfl, ?_⟩) (by assumption) ?_
              rotate_left
              · (intro w hSw; (try dsimp only at hSw); go_simp; try with_reducible rfl)
              try simp only [Act.put, List.setIfInBounds_toArray, List.set_cons_zero, List.set_cons_succ]
              refine wpAnyH_take (i := 1) (v := ?_) (by simp only [List.getElem?_toArray, List.getElem?_cons_succ, List.getElem?_cons_zero]; rfl) (by kernel_rfl) (by kernel_rfl) (by kernel_rfl) (fun _ _ _ h => h) (Or.inl ⟨by rfl, ?_⟩) (by assumption) ?_
              rotate_left
              · (intro w hSw; (try dsimp only at hSw); go_simp; try with_reducible rfl)
              try simp only [Act.put, List.setIfInBounds_toArray, List.set_cons_zero, List.set_cons_succ]
              refine wpAnyH_take (i := 2) (v := ?_) (by simp only [List.getElem?_toArray, List.getElem?_cons_succ, List.getElem?_cons_zero]; rfl) (by kernel_rfl) (by kernel_rfl) (by kernel_rfl) (fun _ _ _ h => h) (Or.inl ⟨by rfl, ?_⟩) (by assumption) ?_
              rotate_left
              · (intro w hSw; (try dsimp only at hSw); go_simp; try with_reducible rfl)
              try simp only [Act.put, List.setIfInBounds_toArray, List.set_cons_zero, List.set_cons_succ]
              refine wpAnyH_take (i := 3) (v := ?_) (by simp only [List.getElem?_toArray, List.getElem?_cons_succ, List.getElem?_cons_zero]; rfl) (by kernel_rfl) (by kernel_rfl) (by kernel_rfl) (fun _ _ _ h => h) (Or.inl ⟨by rfl, ?_⟩) (by assumption) ?_
              rotate_left
              · (intro w hSw; (try dsimp only at hSw); go_simp; try with_reducible rfl)
              try simp only [Act.put, List.setIfInBounds_toArray, List.set_cons_zero, List.set_cons_succ]
              refine wpAnyH_take (i := 4) (v := ?_) (by simp only [List.getElem?_toArray, List.getElem?_cons_succ, List.getElem?_cons_zero]; rfl) (by kernel_rfl) (by kernel_rfl) (by kernel_rfl) (fun _ _ _ h => h) (Or.inl ⟨by rfl, ?_⟩) (by assumption) ?_
              rotate_left
              · (intro w hSw; (try dsimp only at hSw); go_simp; try with_reducible rfl)
              try simp only [Act.put, List.setIfInBounds_toArray, List.set_cons_zero, List.set_cons_succ]
              refine wpAnyH_take (i := 5) (v := ?_) (by simp only [List.getElem?_toArray, List.getElem?_cons_succ, List.getElem?_cons_zero]; rfl) (by kernel_rfl) (by kernel_rfl) (by kernel_rfl) (fun _ _ _ h => h) (Or.inl ⟨by rfl, ?_⟩) (by assumption) ?_
              rotate_left
              · (intro w hSw; (try dsimp only at hSw); go_simp; try with_reducible rfl)
              try simp only [Act.put, List.setIfInBounds_toArray, List.set_cons_zero, List.set_cons_succ]
              refine wpAnyH_take (i := 6) (v := ?_) (by simp only [List.getElem?_toArray, List.getElem?_cons_succ, List.getElem?_cons_zero]; rfl) (by kernel_rfl) (by kernel_rfl) (by kernel_rfl) (fun _ _ _ h => h) (Or.inl ⟨by rfl, ?_⟩) (by assumption) ?_
              rotate_left
              · (intro w hSw; (try dsimp only at hSw); go_simp; try with_reducible rfl)
              try simp only [Act.put, List.setIfInBounds_toArray, List.set_cons_zero, List.set_cons_succ]
              refine wpAnyH_take (i := 7) (v := ?_) (by simp only [List.getElem?_toArray, List.getElem?_cons_succ, List.getElem?_cons_zero]; rfl) (by kernel_rfl) (by kernel_rfl) (by kernel_rfl) (fun _ _ _ h => h) (Or.inl ⟨by rfl, ?_⟩) (by assumption) ?_
              rotate_left
              · (intro w hSw; (try dsimp only at hSw); go_simp; try with_reducible rfl)
              try simp only [Act.put, List.setIfInBounds_toArray, List.set_cons_zero, List.set_cons_succ]
              refine wpAnyH_take (i := 8) (v := ?_) (by simp only [List.getElem?_toArray, List.getElem?_cons_succ, List.getElem?_cons_zero]; rfl) (by kernel_rfl) (by kernel_rfl) (by kernel_rfl) (fun _ _ _ h => h) (Or.inl ⟨by rfl, ?_⟩) (by assumption) ?_
              rotate_left
              · (intro w hSw; (try dsimp only at hSw); go_simp; try with_reducible rfl)
              try simp only [Act.put, List.setIfInBounds_toArray, List.set_cons_zero, List.set_cons_succ]
              refine wpAnyH_take (i := 9) (v := ?_) (by simp only [List.getElem?_toArray, List.getElem?_cons_succ, List.getElem?_cons_zero]; rfl) (by kernel_rfl) (by kernel_rfl) (by kernel_rfl) (fun _ _ _ h => h) (Or.inl ⟨by rfl, ?_⟩) (by assumption) ?_
              rotate_left
              · (intro w hSw; (try dsimp only at hSw); go_simp; try with_reducible rfl)
              try simp only [Act.put, List.setIfInBounds_toArray, List.set_cons_zero, List.set_cons_succ]
              refine wpAnyH_take (i := 10) (v := ?_) (by simp only [List.getElem?_toArray, List.getElem?_cons_succ, List.getElem?_cons_zero]; rfl) (by kernel_rfl) (by kernel_rfl) (by kernel_rfl) (fun _ _ _ h => h) (Or.inl ⟨by rfl, ?_⟩) (by assumption) ?_
              rotate_left
              · (intro w hSw; (try dsimp only at hSw); go_simp; try with_reducible rfl)
              try simp only [Act.put, List.setIfInBounds_toArray, List.set_cons_zero, List.set_cons_succ]
              refine wpAnyH_take (i := 11) (v := ?_) (by simp only [List.getElem?_toArray, List.getElem?_cons_succ, List.getElem?_cons_zero]; rfl) (by kernel_rfl) (by kernel_rfl) (by kernel_rfl) (fun _ _ _ h => h) (Or.inl ⟨by rfl, ?_⟩) (by assumption) ?_
              rotate_left
              · (intro w hSw; (try dsimp only at hSw); go_simp; try with_reducible rfl)
              try simp only [Act.put, List.setIfInBounds_toArray, List.set_cons_zero, List.set_cons_succ]
              refine wpAnyH_take (i := 12) (v := ?_) (by simp only [List.getElem?_toArray, List.getElem?_cons_succ, List.getElem?_cons_zero]; rfl) (by kernel_rfl) (by kernel_rfl) (by kernel_rfl) (fun _ _ _ h => h) (Or.inl ⟨by rfl, ?_⟩) (by assumption) ?_
              rotate_left
              · (intro w hSw; (try dsimp only at hSw); go_simp; try with_reducible rfl)
              try simp only [Act.put, List.setIfInBounds_toArray, List.set_cons_zero, List.set_cons_succ]
              refine wpAnyH_take (i := 13) (v := ?_) (by simp only [List.getElem?_toArray, List.getElem?_cons_succ, List.getElem?_cons_zero]; rfl) (by kernel_rfl) (by kernel_rfl) (by kernel_rfl) (fun _ _ _ h => h) (Or.inl ⟨by rfl, ?_⟩) (by assumption) ?_
              rotate_left
              · (intro w hSw; (try dsimp only at hSw); go_simp; try with_reducible rfl)
              try simp only [Act.put, List.setIfInBounds_toArray, List.set_cons_zero, List.set_cons_succ]
              refine wpAnyH_take (i := 14) (v := ?_) (by simp only [List.getElem?_toArray, List.getElem?_cons_succ, List.getElem?_cons_zero]; rfl) (by kernel_rfl) (by kernel_rfl) (by kernel_rfl) (fun _ _ _ h => h) (Or.inl ⟨by rfl, ?_⟩) (by assumption) ?_
              rotate_left
              · (intro w hSw; (try dsimp only at hSw); go_simp; try with_reducible rfl)
              try simp only [Act.put, List.setIfInBounds_toArray, List.set_cons_zero, List.set_cons_succ]
              refine wpAnyH_take (i := 15) (v := ?_) (by simp only [List.getElem?_toArray, List.getElem?_cons_succ, List.getElem?_cons_zero]; rfl) (by kernel_rfl) (by kernel_rfl) (by kernel_rfl) (fun _ _ _ h => h) (Or.inl ⟨by rfl, ?_⟩) (by assumption) ?_
              rotate_left
              · (intro w hSw; (try dsimp only at hSw); go_simp; try with_reducible rfl)
              try simp only [Act.put, List.setIfInBounds_toArray, List.set_cons_zero, List.set_cons_succ]
              refine wpAnyH_done (by kernel_rfl) ?_ _
              refine NoPanic.normal ?_
              clear hHeld
              go_wp2
              go_roundw
              case rel => exact ⟨k + 1, false, by have := HK.out; omega, by go_num, rfl, HN1, Below.drew hb2⟩
              case measure => have := HK.out; simp [intOf]; omega
end BagOwn
end Go.Proofs.Ytnlbgjghckbbcaa
