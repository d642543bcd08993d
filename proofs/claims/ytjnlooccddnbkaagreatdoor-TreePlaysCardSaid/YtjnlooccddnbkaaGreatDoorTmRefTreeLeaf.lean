/- The reference of Tree: a shard's digest, and vector. -/
import Derived.Test.YtjnlooccddnbkaaGreatDoorTmRefTreePut
import Derived.Test.YtjnlooccddnbkaaGreatDoorTmNumRef
import Derived.Test.YtjnlooccddnbkaaGreatDoorTmRefSha
import Derived.Test.YtjnlooccddnbkaaGreatDoorTmRefDotB
import Derived.Test.YtjnlooccddnbkaaGreatDoorTmTreeDN
namespace Go.Proofs.YtjnlooccddnbkaaGreatDoor
namespace RefTree
open Go.RowKit Go.Proofs.YtjnlooccddnbkaaGreatDoor.Mark Go.Proofs.YtjnlooccddnbkaaGreatDoor.Dots Go.Proofs.YtjnlooccddnbkaaGreatDoor.Tree
theorem ofL_bound {A : List M} (h : Ok A) (q : List UInt8) : ofL A q ≤ 18446744073709551615 ∧ (1 ≤ ofL A q → q.length ≤ 9223372036854775807) := by
  rcases ofL_ex A q with h0 | ⟨m, hm, hp, _, hn⟩
  · rw [h0]; exact ⟨by omega, fun h => absurd h (by omega)⟩
  · have := h m hm
    rw [← hn, ← hp]
    exact ⟨this.1, fun _ => this.2⟩
theorem ok_of {J : List M} {f : List UInt8 → Nat} (h : IsVec J f) (k : ∀ q, f q ≤ 18446744073709551615 ∧ (1 ≤ f q → q.length ≤ 9223372036854775807)) : Ok J := fun m hm => by
  have e : f m.p = m.n := (h.2 m.p).symm.trans (vec_of h.1 hm)
  have := h.1.2 m hm
  have k1 := k m.p
  rw [e] at k1
  exact ⟨k1.1, k1.2 this.2⟩

theorem join_ok {A B J : List M} (h : IsVec J (fun q => max (ofL A q) (ofL B q))) (hA : Ok A) (hB : Ok B) : Ok J := ok_of h fun q => by
  have a := ofL_bound hA q
  have b := ofL_bound hB q
  (try simp only)
  refine ⟨by omega, fun h => ?_⟩
  rcases Nat.le_total (ofL A q) (ofL B q) with h' | h'
  · rw [Nat.max_eq_right h'] at h; exact b.2 h
  · rw [Nat.max_eq_left h'] at h; exact a.2 h
def oneL (l : List UInt8) : List UInt8 := Wire.one ⟨l.toArray⟩
theorem oneL_eq (l : List UInt8) : Num.upL l.length ++ l = oneL l := by unfold oneL Wire.one; simp [ByteArray.size]
theorem oneL_le (l : List UInt8) : (oneL l).length ≤ l.length + 10 := by
  have := (Wire.one_length ⟨l.toArray⟩).2
  rw [Str.size_mk] at this
  exact this
theorem tx_eq (y : It) : tx y = oneL y.k ++ oneL y.b := by
  unfold tx
  rw [Wire.tcat_cons, Wire.tcat_cons]
  show oneL y.k ++ (oneL y.b ++ []) = _
  rw [List.append_nil]
set_option maxRecDepth 100000 in
theorem text_any (l : List UInt8) (w : World) (hl : l.length ≤ 1099511627776) :
    Calls Tryz.prog 69 #[.string ⟨l.toArray⟩] w fun e w' => e = .returned (.string ⟨(oneL l).toArray⟩) ∧ Below w.heap.size w w' := by
  obtain ⟨n, hn⟩ : ∃ n, n = l.length := ⟨_, rfl⟩
  have sn : (l.length : Int) = (n : Int) := by rw [hn]
  have U := Lib.hid (fun w => Num.refup_any n w (by omega))
  have HE : Hid (Num.upL n ++ l = oneL l) := Lib.hid (by rw [hn]; exact oneL_eq l)
  have hw : IntKind.u64.wrap (n : Int) = (n : Int) := by rw [IntKind.wrap_u64]; omega
  obtain ⟨up, hup⟩ : ∃ u, u = Num.upL n := ⟨_, rfl⟩
  rw [← hup] at U HE
  have hul : up.length ≤ 1000 := by
    have := congrArg List.length HE.out
    have h2 := oneL_le l
    rw [← this, List.length_append] at h2
    omega
  clear hn hup
  go_enter Tryz.func69, Tryz.ntmps69
  go_wp2_with fail
  refine (U.out _).mono ?_
  rintro e w1 ⟨rfl, k1⟩
  go_wp2
  go_ret
  exact ⟨by rw [← HE.out, ← Str.mk_append_mk]; rfl, k1⟩
/-- The items of a shard among the first. -/
def its (L : List RI) (i k : Nat) : List It := items ((L.take k).map RI.it) i
theorem its_yes {L : List RI} {i k : Nat} (hk : k < L.length) (h : Shard.no L[k].k = i) : its L i (k + 1) = its L i k ++ [L[k].it] := by
  unfold its items
  rw [List.take_succ_eq_append_getElem hk, List.map_append, List.filter_append]
  simp [show Shard.no L[k].it.k = i from h]
theorem its_no {L : List RI} {i k : Nat} (hk : k < L.length) (h : Shard.no L[k].k ≠ i) : its L i (k + 1) = its L i k := by
  unfold its items
  rw [List.take_succ_eq_append_getElem hk, List.map_append, List.filter_append]
  simp [show ¬ Shard.no L[k].it.k = i from h]
theorem its_all {L : List RI} {i n : Nat} (hn : n = L.length) : its L i n = items (L.map RI.it) i := by
  unfold its
  rw [List.take_of_length_le (by omega)]
theorem txt_snoc (l : List It) (y : It) : txt (l ++ [y]) = txt l ++ oneL y.k ++ oneL y.b := by
  rw [txt_eq, txt_eq, List.flatMap_append]
  show 0 :: (l.flatMap tx ++ (tx y ++ [])) = _
  rw [List.append_nil, tx_eq]
  simp
theorem ofL_snoc (l : List It) (y : It) (q : List UInt8) : ofL ((l ++ [y]).flatMap It.s) q = max (ofL (l.flatMap It.s) q) (ofL y.s q) := by
  rw [List.flatMap_append, RefDots.ofL_append]
  simp

set_option maxRecDepth 100000 in
set_option maxHeartbeats 8000000 in
theorem leaf_any {w x : World} {rb : Nat} {L : List RI} (i : Nat) (h : Is w x rb L) (hwx : Below w.heap.size w x) (hn : L.length ≤ 256) (hf : ∀ y ∈ L, y.k.length ≤ 1048576 ∧ y.b.length ≤ 1048576 ∧ Ok y.s ∧ y.s.length ≤ 512) :
    Calls Tryz.prog 45 #[.pointer (some ⟨rb, 0, none⟩), .int .i64 (i : Int)] x fun e y => ∃ a c R, e = .returned (.tuple #[.string ⟨(Sha.of (txt (items (L.map RI.it) i))).toArray⟩, .slice a R.length c]) ∧ IsVec R (ofL ((items (L.map RI.it) i).flatMap It.s)) ∧ R.length ≤ 131072 ∧ Ok R ∧ Mark.Lies y a R.length R ∧ Below x.heap.size x y := by
  obtain ⟨v, p1, p2⟩ := h.box
  obtain ⟨a, c, rfl, -, -, hl, -⟩ := Row.Own.lies p2
  have cb : x.cell? ⟨rb, 0, none⟩ = some (.slice a L.length c) := by rw [cell_of_row x rb 0 _ _ _ p1]; rfl
  obtain ⟨n, hnn⟩ : ∃ n, n = L.length := ⟨_, rfl⟩
  rw [← hnn] at cb hl hn
  have LL := Lib.hid hl
  have HN := Lib.hid hnn
  have HSEEN := Lib.hid (fun y hy W (k : Below w.heap.size w W) => (h.seen y hy).below k)
  have HF := Lib.hid hf
  have HWX := Lib.hid hwx
  have hb := Below.refl x.heap.size x
  have T0 : Hid (([0] : List UInt8) = txt (its L i 0)) := Lib.hid (by unfold its; rw [List.take_zero]; rfl)
  have V0 : Hid (IsVec [] (ofL ((its L i 0).flatMap It.s))) := Lib.hid ⟨⟨List.Pairwise.nil, fun m hm => by cases hm⟩, fun q => by unfold its; rw [List.take_zero]; rfl⟩
  clear h hf hwx hl hnn p1 p2
  go_enter Tryz.func45, Tryz.ntmps45
  go_wp2_with fail
  go_loopw [6, 7, 8] (fun tv rv iv wr => ∃ (k : Nat) (T : List UInt8) (R : List M) (ar : Option Addr) (cr : Nat), k ≤ n ∧ iv = .int .i64 k ∧ tv = .string ⟨T.toArray⟩ ∧ rv = .slice ar R.length cr ∧ Hid (T = txt (its L i k)) ∧ Hid (T.length ≤ 1 + k * 3000000) ∧ Hid (IsVec R (ofL ((its L i k).flatMap It.s))) ∧ Hid (R.length ≤ k * 512 ∧ Ok R) ∧ Below x.heap.size x wr ∧ wr.cell? ⟨rb, 0, none⟩ = some (.slice a n c) ∧ Hid (Row.Lies enc wr a n L) ∧ Hid (Mark.Lies wr ar R.length R)) (fun _ _ iv _ => n - (intOf iv).toNat)
  case atStart => exact ⟨0, [0], [], none, 0, by omega, rfl, rfl, rfl, T0, Lib.hid (by decide), V0, Lib.hid ⟨by decide, fun m hm => by cases hm⟩, hb, cb, LL, Lib.hid (Mark.Lies.nil _ _)⟩
  case round =>
    clear hb cb LL T0 V0
    obtain ⟨k, T, R, ar, cr, hk, rfl, rfl, rfl, HT, HTL, HV, HRL, hb, cb, LL, LR⟩ := hrel
    by_cases hlt : k < n
    rotate_left
    · have d1 : decide ((k : Int) < (n : Int)) = false := decide_eq_false (by omega)
      obtain rfl : n = k := by omega
      have S := Lib.hid (fun W => RefSha.of_any T W (by have := HTL.out; omega))
      have HE : Hid (Sha.of T = Sha.of (txt (items (L.map RI.it) i))) := Lib.hid (by rw [HT.out, its_all HN.out])
      obtain ⟨dg, hdg⟩ : ∃ d, d = Sha.of T := ⟨_, rfl⟩
      rw [← hdg] at S HE
      obtain ⟨nr, hnr⟩ : ∃ m, m = R.length := ⟨_, rfl⟩
      have HNR := Lib.hid hnr
      rw [← hnr] at LR ⊢
      clear hdg hnr
      go_wp2_with fail
      refine (S.out _).mono ?_
      rintro e v1 ⟨rfl, k1⟩
      have hb1 := bstep hb k1
      have LR1 := Lib.hid (LR.out.below k1)
      clear S
      go_wp2
      refine bodyPost_ret (v := .tuple #[.string ⟨dg.toArray⟩, .slice ar nr cr]) (by simp [results, Tryz.f45, go_sem]) rfl ?_
      exact ⟨ar, cr, R, by rw [HE.out, HNR.out], by rw [← its_all HN.out]; exact HV.out, by have := HRL.out.1; omega, HRL.out.2, by rw [← HNR.out]; exact LR1.out, hb1⟩
    have d1 : decide ((k : Int) < (n : Int)) = true := decide_eq_true (by omega)
    have hll : k < L.length := by rw [← HN.out]; exact hlt
    obtain ⟨ba, o, rfl, hcell⟩ := items_at LL.out (by omega)
    obtain ⟨c0, c1, c2⟩ := hcell k hll
    have hfk := HF.out _ (List.getElem_mem hll)
    have LS := (HSEEN.out _ (List.getElem_mem hll) _ (bstep HWX.out hb))
    have HY := Lib.hid (fun h => its_yes (i := i) hll h)
    have HNN := Lib.hid (fun h => its_no (i := i) hll h)
    obtain ⟨y, hy⟩ : ∃ y, y = L[k]'hll := ⟨_, rfl⟩
    rw [← hy] at c0 c1 c2 hfk LS HY HNN
    have HK := Lib.hid hlt
    have j1 : (0 : Int) ≤ (k : Int) := by omega
    have j2 : (k : Int) < (n : Int) := by omega
    have OK := Lib.hid hfk
    replace LS := Lib.hid LS
    clear hcell hy hll hlt hfk
    go_wp2_with fail
    refine (Shard.refOf_any y.k _ (by have := OK.out.1; omega)).mono ?_
    rintro e v1 ⟨rfl, k1⟩
    replace c0 := Dots.keepC c0 k1
    replace c1 := Dots.keepC c1 k1
    replace c2 := Dots.keepC c2 k1
    replace cb := Dots.keepC cb k1
    replace LL := Lib.hid (LL.out.below k1)
    replace LR := Lib.hid (LR.out.below k1)
    replace LS := Lib.hid (LS.out.below k1)
    replace hb := bstep hb k1
    clear k1
    have T2 : Hid (T.length ≤ 1 + (k + 1) * 3000000) := Lib.hid (Nat.le_trans HTL.out (Nat.add_le_add_left (Nat.mul_le_mul_right _ (Nat.le_succ k)) 1))
    by_cases hno : Shard.no y.k = i
    rotate_left
    · have e1 : (((Shard.no y.k : Nat) : Int) == (i : Int)) = false := by simp; omega
      have e2 : decide (((Shard.no y.k : Nat) : Int) = (i : Int)) = false := decide_eq_false (by omega)
      have E := Lib.hid (HNN.out hno)
      have T1 : Hid (T = txt (its L i (k + 1))) := Lib.hid (by rw [E.out]; exact HT.out)
      have T3 : Hid (IsVec R (ofL ((its L i (k + 1)).flatMap It.s))) := Lib.hid (by rw [E.out]; exact HV.out)
      have T4 : Hid (R.length ≤ (k + 1) * 512 ∧ Ok R) := Lib.hid ⟨by have := HRL.out.1; omega, HRL.out.2⟩
      clear HY HNN hno
      go_wp2
      go_roundw
      case rel => exact ⟨k + 1, T, R, ar, cr, by have := HK.out; omega, by go_num, rfl, rfl, T1, T2, T3, T4, hb, cb, LL, LR⟩
      case measure => have := HK.out; simp [intOf]; omega
    have e1 : (((Shard.no y.k : Nat) : Int) == (i : Int)) = true := by simp; omega
    have e2 : decide (((Shard.no y.k : Nat) : Int) = (i : Int)) = true := decide_eq_true (by omega)
    have E := Lib.hid (HY.out hno)
    obtain ⟨t1, ht1⟩ : ∃ t, t = oneL y.k := ⟨_, rfl⟩
    obtain ⟨t2, ht2⟩ : ∃ t, t = oneL y.b := ⟨_, rfl⟩
    have X1 := Lib.hid (fun W => text_any y.k W (by have := OK.out.1; omega))
    have X2 := Lib.hid (fun W => text_any y.b W (by have := OK.out.2.1; omega))
    rw [← ht1] at X1
    rw [← ht2] at X2
    have l1 := oneL_le y.k
    have l2 := oneL_le y.b
    rw [← ht1] at l1
    rw [← ht2] at l2
    have HL12 : Hid (t1.length ≤ 1048586 ∧ t2.length ≤ 1048586) := Lib.hid (by have := OK.out; omega)
    have HT2 : Hid (T ++ t1 ++ t2 = txt (its L i (k + 1))) := Lib.hid (by rw [E.out, txt_snoc, HT.out, ht1, ht2]; rfl)
    have HL3 : Hid (T.length + t1.length + t2.length ≤ 1 + (k + 1) * 3000000) := Lib.hid (by have := HTL.out; have := HL12.out; omega)
    obtain ⟨U1, hU1⟩ : ∃ u, u = T ++ t1 := ⟨_, rfl⟩
    obtain ⟨U2, hU2⟩ : ∃ u, u = U1 ++ t2 := ⟨_, rfl⟩
    have a1 : ({ data := T.toArray } : ByteArray) ++ { data := t1.toArray } = { data := U1.toArray } := by rw [hU1]; exact Str.mk_append_mk T t1
    have a2 : ({ data := U1.toArray } : ByteArray) ++ { data := t2.toArray } = { data := U2.toArray } := by rw [hU2]; exact Str.mk_append_mk U1 t2
    have q1 : U1.length = T.length + t1.length := by rw [hU1, List.length_append]
    have q2 : U2.length = U1.length + t2.length := by rw [hU2, List.length_append]
    have g1 : ¬ 9223372036854775807 < T.length + t1.length := by have := HL3.out; omega
    have g2 : ¬ 9223372036854775807 < U1.length + t2.length := by have := HL3.out; omega
    have HU2 : Hid (U2 = txt (its L i (k + 1)) ∧ U2.length ≤ 1 + (k + 1) * 3000000) := Lib.hid ⟨by rw [hU2, hU1]; exact HT2.out, by have := HL3.out; omega⟩
    clear HY HNN hno ht1 ht2 l1 l2 hU1 hU2 q1 q2
    go_wp2_with fail
    refine wp_region_noPanic ?_
    refine wp_region_held_drew (S := (fun w' => Below x.heap.size x w' ∧ w'.cell? ⟨rb, 0, none⟩ = some (.slice (some ⟨ba, o, none⟩) n c) ∧ w'.cell? ⟨ba, o + k * 3, none⟩ = some (.string ⟨y.k.toArray⟩) ∧ w'.cell? ⟨ba, o + k * 3 + 1, none⟩ = some (.string ⟨y.b.toArray⟩) ∧ w'.cell? ⟨ba, o + k * 3 + 2, none⟩ = some (.slice y.ms y.s.length y.mc) ∧ Row.Lies enc w' (some ⟨ba, o, none⟩) n L ∧ Mark.Lies w' ar R.length R ∧ Mark.Lies w' y.ms y.s.length y.s)) (by kernel_rfl) (⟨Below.drew hb, Dots.keepC cb (Below.drew (Below.refl _ _)), Dots.keepC c0 (Below.drew (Below.refl _ _)), Dots.keepC c1 (Below.drew (Below.refl _ _)), Dots.keepC c2 (Below.drew (Below.refl _ _)), (LL.out).below (Below.drew (Below.refl _ _)), (LR.out).below (Below.drew (Below.refl _ _)), (LS.out).below (Below.drew (Below.refl _ _))⟩) (fun hHeld => ?_)
    refine wpAnyH_take (i := 0) (v := ?_) (by simp only [List.getElem?_toArray, List.getElem?_cons_zero]; rfl) (by kernel_rfl) (by kernel_rfl) (by kernel_rfl) (fun _ _ _ h => h) (Or.inl ⟨by rfl, ?_⟩) (by assumption) ?_
    rotate_left
    · (intro w hSw; (try dsimp only at hSw); go_simp; (try simp only [if_neg g1, if_neg g2, a1, a2]); try with_reducible rfl)
    try simp only [Act.put, List.setIfInBounds_toArray, List.set_cons_zero, List.set_cons_succ]
    refine wpAnyH_take (i := 1) (v := ?_) (by simp only [List.getElem?_toArray, List.getElem?_cons_succ, List.getElem?_cons_zero]; rfl) (by kernel_rfl) (by kernel_rfl) (by kernel_rfl) (fun _ _ _ h => h) (Or.inl ⟨by rfl, ?_⟩) (by assumption) ?_
    rotate_left
    · (intro w hSw; (try dsimp only at hSw); go_simp; (try simp only [if_neg g1, if_neg g2, a1, a2]); try with_reducible rfl)
    try simp only [Act.put, List.setIfInBounds_toArray, List.set_cons_zero, List.set_cons_succ]
    refine wpAnyH_take (i := 2) (v := ?_) (by simp only [List.getElem?_toArray, List.getElem?_cons_succ, List.getElem?_cons_zero]; rfl) (by kernel_rfl) (by kernel_rfl) (by kernel_rfl) (fun _ _ _ h => h) (Or.inl ⟨by rfl, ?_⟩) (by assumption) ?_
    rotate_left
    · (intro w hSw; (try dsimp only at hSw); go_simp; (try simp only [if_neg g1, if_neg g2, a1, a2]); try with_reducible rfl)
    try simp only [Act.put, List.setIfInBounds_toArray, List.set_cons_zero, List.set_cons_succ]
    refine wpAnyH_take (i := 3) (v := ?_) (by simp only [List.getElem?_toArray, List.getElem?_cons_succ, List.getElem?_cons_zero]; rfl) (by kernel_rfl) (by kernel_rfl) (by kernel_rfl) (fun _ _ _ h => h) (Or.inl ⟨by rfl, ?_⟩) (by assumption) ?_
    rotate_left
    · (intro w hSw; (try dsimp only at hSw); go_simp; (try simp only [if_neg g1, if_neg g2, a1, a2]); try with_reducible rfl)
    try simp only [Act.put, List.setIfInBounds_toArray, List.set_cons_zero, List.set_cons_succ]
    refine wpAnyH_take (i := 4) (v := ?_) (by simp only [List.getElem?_toArray, List.getElem?_cons_succ, List.getElem?_cons_zero]; rfl) (by kernel_rfl) (by kernel_rfl) (by kernel_rfl) (fun _ _ _ h => h) (Or.inl ⟨by rfl, ?_⟩) (by assumption) ?_
    rotate_left
    · (intro w hSw; (try dsimp only at hSw); go_simp; (try simp only [if_neg g1, if_neg g2, a1, a2]); try with_reducible rfl)
    try simp only [Act.put, List.setIfInBounds_toArray, List.set_cons_zero, List.set_cons_succ]
    refine wpAnyH_take (i := 5) (v := ?_) (by simp only [List.getElem?_toArray, List.getElem?_cons_succ, List.getElem?_cons_zero]; rfl) (by kernel_rfl) (by kernel_rfl) (by kernel_rfl) (fun _ _ _ h => h) (Or.inl ⟨by rfl, ?_⟩) (by assumption) ?_
    rotate_left
    · (intro w hSw; (try dsimp only at hSw); go_simp; (try simp only [if_neg g1, if_neg g2, a1, a2]); try with_reducible rfl)
    try simp only [Act.put, List.setIfInBounds_toArray, List.set_cons_zero, List.set_cons_succ]
    refine wpAnyH_take (i := 6) (v := ?_) (by simp only [List.getElem?_toArray, List.getElem?_cons_succ, List.getElem?_cons_zero]; rfl) (by kernel_rfl) (by kernel_rfl) (by kernel_rfl) (fun _ _ _ h => h) (Or.inl ⟨by rfl, ?_⟩) (by assumption) ?_
    rotate_left
    · (intro w hSw; (try dsimp only at hSw); go_simp; (try simp only [if_neg g1, if_neg g2, a1, a2]); try with_reducible rfl)
    try simp only [Act.put, List.setIfInBounds_toArray, List.set_cons_zero, List.set_cons_succ]
    refine wpAnyH_take (i := 7) (v := ?_) (by simp only [List.getElem?_toArray, List.getElem?_cons_succ, List.getElem?_cons_zero]; rfl) (by kernel_rfl) (by kernel_rfl) (by kernel_rfl) (fun _ _ _ h => h) (Or.inl ⟨by rfl, ?_⟩) (by assumption) ?_
    rotate_left
    · (intro w hSw; (try dsimp only at hSw); go_simp; (try simp only [if_neg g1, if_neg g2, a1, a2]); try with_reducible rfl)
    try simp only [Act.put, List.setIfInBounds_toArray, List.set_cons_zero, List.set_cons_succ]
    refine wpAnyH_take (i := 8) (v := ?_) (by simp only [List.getElem?_toArray, List.getElem?_cons_succ, List.getElem?_cons_zero]; rfl) (by kernel_rfl) (by kernel_rfl) (by kernel_rfl) (fun _ _ _ h => h) (Or.inl ⟨by rfl, ?_⟩) (by assumption) ?_
    rotate_left
    · (intro w hSw; (try dsimp only at hSw); go_simp; (try simp only [if_neg g1, if_neg g2, a1, a2]); try with_reducible rfl)
    try simp only [Act.put, List.setIfInBounds_toArray, List.set_cons_zero, List.set_cons_succ]
    refine wpAnyH_take (i := 11) (v := ?_) (by simp only [List.getElem?_toArray, List.getElem?_cons_succ, List.getElem?_cons_zero]; rfl) (by kernel_rfl) (by kernel_rfl) (by kernel_rfl) (fun _ _ _ h => h) (Or.inl ⟨by rfl, ?_⟩) (by assumption) ?_
    rotate_left
    · (intro w hSw; (try dsimp only at hSw); go_simp; (try simp only [if_neg g1, if_neg g2, a1, a2]); try with_reducible rfl)
    try simp only [Act.put, List.setIfInBounds_toArray, List.set_cons_zero, List.set_cons_succ]
    refine wpAnyH_take (i := 12) (v := ?_) (by simp only [List.getElem?_toArray, List.getElem?_cons_succ, List.getElem?_cons_zero]; rfl) (by kernel_rfl) (by kernel_rfl) (by kernel_rfl) (fun _ _ _ h => h) (Or.inl ⟨by rfl, ?_⟩) (by assumption) ?_
    rotate_left
    · (intro w hSw; (try dsimp only at hSw); go_simp; (try simp only [if_neg g1, if_neg g2, a1, a2]); try with_reducible rfl)
    try simp only [Act.put, List.setIfInBounds_toArray, List.set_cons_zero, List.set_cons_succ]
    refine wpAnyH_take (i := 13) (v := ?_) (by simp only [List.getElem?_toArray, List.getElem?_cons_succ, List.getElem?_cons_zero]; rfl) (by kernel_rfl) (by kernel_rfl) (by kernel_rfl) (fun _ _ _ h => h) (Or.inl ⟨by rfl, ?_⟩) (by assumption) ?_
    rotate_left
    · (intro w hSw; (try dsimp only at hSw); go_simp; (try simp only [if_neg g1, if_neg g2, a1, a2]); try with_reducible rfl)
    try simp only [Act.put, List.setIfInBounds_toArray, List.set_cons_zero, List.set_cons_succ]
    refine wpAnyH_take (i := 14) (v := ?_) (by simp only [List.getElem?_toArray, List.getElem?_cons_succ, List.getElem?_cons_zero]; rfl) (by kernel_rfl) (by kernel_rfl) (by kernel_rfl) (fun _ _ _ h => h) (Or.inl ⟨by rfl, ?_⟩) (by assumption) ?_
    rotate_left
    · (intro w hSw; (try dsimp only at hSw); go_simp; (try simp only [if_neg g1, if_neg g2, a1, a2]); try with_reducible rfl)
    try simp only [Act.put, List.setIfInBounds_toArray, List.set_cons_zero, List.set_cons_succ]
    refine wpAnyH_take (i := 15) (v := ?_) (by simp only [List.getElem?_toArray, List.getElem?_cons_succ, List.getElem?_cons_zero]; rfl) (by kernel_rfl) (by kernel_rfl) (by kernel_rfl) (fun _ _ _ h => h) (Or.inl ⟨by rfl, ?_⟩) (by assumption) ?_
    rotate_left
    · (intro w hSw; (try dsimp only at hSw); go_simp; (try simp only [if_neg g1, if_neg g2, a1, a2]); try with_reducible rfl)
    try simp only [Act.put, List.setIfInBounds_toArray, List.set_cons_zero, List.set_cons_succ]
    refine wpAnyH_take (i := 16) (v := ?_) (by simp only [List.getElem?_toArray, List.getElem?_cons_succ, List.getElem?_cons_zero]; rfl) (by kernel_rfl) (by kernel_rfl) (by kernel_rfl) (fun _ _ _ h => h) (Or.inl ⟨by rfl, ?_⟩) (by assumption) ?_
    rotate_left
    · (intro w hSw; (try dsimp only at hSw); go_simp; (try simp only [if_neg g1, if_neg g2, a1, a2]); try with_reducible rfl)
    try simp only [Act.put, List.setIfInBounds_toArray, List.set_cons_zero, List.set_cons_succ]
    refine wpAnyH_take (i := 17) (v := ?_) (by simp only [List.getElem?_toArray, List.getElem?_cons_succ, List.getElem?_cons_zero]; rfl) (by kernel_rfl) (by kernel_rfl) (by kernel_rfl) (fun _ _ _ h => h) (Or.inl ⟨by rfl, ?_⟩) (by assumption) ?_
    rotate_left
    · (intro w hSw; (try dsimp only at hSw); go_simp; (try simp only [if_neg g1, if_neg g2, a1, a2]); try with_reducible rfl)
    try simp only [Act.put, List.setIfInBounds_toArray, List.set_cons_zero, List.set_cons_succ]
    refine wpAnyH_take (i := 18) (v := ?_) (by simp only [List.getElem?_toArray, List.getElem?_cons_succ, List.getElem?_cons_zero]; rfl) (by kernel_rfl) (by kernel_rfl) (by kernel_rfl) (fun _ _ _ h => h) (Or.inl ⟨by rfl, ?_⟩) (by assumption) ?_
    rotate_left
    · (intro w hSw; (try dsimp only at hSw); go_simp; (try simp only [if_neg g1, if_neg g2, a1, a2]); try with_reducible rfl)
    try simp only [Act.put, List.setIfInBounds_toArray, List.set_cons_zero, List.set_cons_succ]
    refine wpAnyH_ready (rs := [9]) (by kernel_rfl) (by simp) ?_
    refine AllReadyH.cons (by simp only [List.getElem?_toArray, List.getElem?_cons_succ, List.getElem?_cons_zero]; rfl) (fun K hK => ?_) AllReadyH.nil
    go_simp
    go_at_call 69
    refine (X1.out _).mono ?_
    rintro e v1 ⟨rfl, k1⟩
    go_wp2_with fail
    refine hK.out _ _ (⟨bstep hHeld.1 k1, Dots.keepC hHeld.2.1 k1, Dots.keepC hHeld.2.2.1 k1, Dots.keepC hHeld.2.2.2.1 k1, Dots.keepC hHeld.2.2.2.2.1 k1, (hHeld.2.2.2.2.2.1).below k1, (hHeld.2.2.2.2.2.2.1).below k1, (hHeld.2.2.2.2.2.2.2).below k1⟩) (fun hHeld => ?_)
    clear hK K k1
    try simp only [Act.put, List.setIfInBounds_toArray, List.set_cons_zero, List.set_cons_succ]
    refine wpAnyH_take (i := 10) (v := ?_) (by simp only [List.getElem?_toArray, List.getElem?_cons_succ, List.getElem?_cons_zero]; rfl) (by kernel_rfl) (by kernel_rfl) (by kernel_rfl) (fun _ _ _ h => h) (Or.inl ⟨by rfl, ?_⟩) (by assumption) ?_
    rotate_left
    · (intro w hSw; (try dsimp only at hSw); go_simp; (try simp only [if_neg g1, if_neg g2, a1, a2]); try with_reducible rfl)
    try simp only [Act.put, List.setIfInBounds_toArray, List.set_cons_zero, List.set_cons_succ]
    refine wpAnyH_ready (rs := [19]) (by kernel_rfl) (by simp) ?_
    refine AllReadyH.cons (by simp only [List.getElem?_toArray, List.getElem?_cons_succ, List.getElem?_cons_zero]; rfl) (fun K hK => ?_) AllReadyH.nil
    go_simp
    go_at_call 69
    refine (X2.out _).mono ?_
    rintro e v2 ⟨rfl, k2⟩
    go_wp2_with fail
    refine hK.out _ _ (⟨bstep hHeld.1 k2, Dots.keepC hHeld.2.1 k2, Dots.keepC hHeld.2.2.1 k2, Dots.keepC hHeld.2.2.2.1 k2, Dots.keepC hHeld.2.2.2.2.1 k2, (hHeld.2.2.2.2.2.1).below k2, (hHeld.2.2.2.2.2.2.1).below k2, (hHeld.2.2.2.2.2.2.2).below k2⟩) (fun hHeld => ?_)
    clear hK K k2
    try simp only [Act.put, List.setIfInBounds_toArray, List.set_cons_zero, List.set_cons_succ]
    refine wpAnyH_take (i := 20) (v := ?_) (by simp only [List.getElem?_toArray, List.getElem?_cons_succ, List.getElem?_cons_zero]; rfl) (by kernel_rfl) (by kernel_rfl) (by kernel_rfl) (fun _ _ _ h => h) (Or.inl ⟨by rfl, ?_⟩) (by assumption) ?_
    rotate_left
    · (intro w hSw; (try dsimp only at hSw); go_simp; (try simp only [if_neg g1, if_neg g2, a1, a2]); try with_reducible rfl)
    try simp only [Act.put, List.setIfInBounds_toArray, List.set_cons_zero, List.set_cons_succ]
    refine wpAnyH_take (i := 21) (v := ?_) (by simp only [List.getElem?_toArray, List.getElem?_cons_succ, List.getElem?_cons_zero]; rfl) (by kernel_rfl) (by kernel_rfl) (by kernel_rfl) (fun _ _ _ h => h) (Or.inl ⟨by rfl, ?_⟩) (by assumption) ?_
    rotate_left
    · (intro w hSw; (try dsimp only at hSw); go_simp; (try simp only [if_neg g1, if_neg g2, a1, a2]); try with_reducible rfl)
    try simp only [Act.put, List.setIfInBounds_toArray, List.set_cons_zero, List.set_cons_succ]
    refine wpAnyH_done (by kernel_rfl) ?_ _
    refine NoPanic.normal ?_
    clear hb cb c0 c1 c2 LL LR LS
    obtain ⟨hb, cb, c0, c1, c2, LL, LR, LS⟩ := hHeld
    replace LL := Lib.hid LL
    replace LR := Lib.hid LR
    replace LS := Lib.hid LS
    go_wp2_with fail
    refine (RefDots.join_any R y.s ar y.ms R.length y.s.length cr y.mc _ LR.out LS.out (by have := HRL.out.1; omega) (by have := OK.out.2.2.2; omega) HRL.out.2 OK.out.2.2.1).mono ?_
    rintro e v9 ⟨v, J, rfl, hJ, hlJ, oJ, k9⟩
    obtain ⟨aJ, cJ, rfl, -, -, lJ, -⟩ := oJ.lies
    have VJ : Hid (IsVec J (ofL ((its L i (k + 1)).flatMap It.s))) := Lib.hid ⟨hJ.1, fun q => by
      rw [hJ.2 q, E.out, ofL_snoc, ← HV.out.2 q]; rfl⟩
    have RJ : Hid (J.length ≤ (k + 1) * 512 ∧ Ok J) := Lib.hid ⟨by have := HRL.out.1; have := OK.out.2.2.2; omega, join_ok hJ HRL.out.2 OK.out.2.2.1⟩
    have hb9 := bstep hb k9
    have cb9 := Dots.keepC cb k9
    have LL9 := Lib.hid (LL.out.below k9)
    have LJ := Lib.hid lJ
    clear hJ hlJ oJ k9 lJ cb LL hb LR LS c0 c1 c2 a1 a2
    go_wp2
    go_roundw
    case rel => exact ⟨k + 1, U2, J, aJ, cJ, by have := HK.out; omega, by go_num, rfl, rfl, Lib.hid HU2.out.1, Lib.hid HU2.out.2, VJ, RJ, hb9, cb9, LL9, LJ⟩
    case measure => have := HK.out; simp [intOf]; omega
end RefTree
end Go.Proofs.YtjnlooccddnbkaaGreatDoor
