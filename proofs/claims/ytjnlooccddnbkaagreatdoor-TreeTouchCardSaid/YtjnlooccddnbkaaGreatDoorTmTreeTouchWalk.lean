/- TreeTouch: the walk. -/
import Derived.Test.YtjnlooccddnbkaaGreatDoorTmLaw
import Derived.Test.YtjnlooccddnbkaaGreatDoorTmStepIn
namespace Go.Proofs.YtjnlooccddnbkaaGreatDoor
namespace TreeTouch
open Go.RowKit Go.Proofs.YtjnlooccddnbkaaGreatDoor.Mark Go.Proofs.YtjnlooccddnbkaaGreatDoor.Dots Go.Proofs.YtjnlooccddnbkaaGreatDoor.Tree Go.Proofs.YtjnlooccddnbkaaGreatDoor.TreeLaw
theorem find_items {l : List It} (h : Up l) (i : Nat) (q : List UInt8) : find (items l i) q = if Shard.no q == i then find l q else none := by
  by_cases e : Shard.no q = i
  · rw [if_pos (by simpa using e)]
    cases hf : find l q with
    | none =>
      rw [find_none] at hf ⊢
      exact fun x hx => hf x (List.mem_filter.1 hx).1
    | some x =>
      obtain ⟨h1, h2⟩ := (find_some h q x).1 hf
      exact (find_some (up_filter _ h) q x).2 ⟨List.mem_filter.2 ⟨h1, by simp [h2, e]⟩, h2⟩
  · rw [if_neg (by simpa using e), find_none]
    intro x hx hk
    have := (List.mem_filter.1 hx).2
    rw [hk] at this
    exact e (by simpa using this)
theorem items_put {l : List It} (h : Up l) (x : It) (i : Nat) (hi : i ≠ Shard.no x.k) : items (put x l) i = items l i := by
  refine up_ext _ _ (up_filter _ (up_put x l h)) (up_filter _ h) fun q => ?_
  rw [find_items (up_put x l h), find_items h]
  by_cases e : Shard.no q = i
  · rw [if_pos (by simpa using e), if_pos (by simpa using e), find_put x l h, if_neg (fun e2 => hi (by rw [← e2, e]))]
  · rw [if_neg (by simpa using e), if_neg (by simpa using e)]
theorem put_back {l : List It} (h : Up l) (x y : It) (hk : x.k = y.k) : put x (put y (put x l)) = put x l := by
  have h1 := up_put x l h
  have h2 := up_put y _ h1
  refine up_ext _ _ (up_put x _ h2) h1 fun q => ?_
  rw [find_put x _ h2, find_put y _ h1, find_put x l h, hk]
  split <;> rfl
theorem has_put {l : List It} (h : Up l) (x : It) (q : List UInt8) (hq : q = x.k) : (find (put x l) q).isSome = true := by
  rw [find_put x l h, if_pos hq]; rfl
def it (key b : List UInt8) : It := ⟨key, b, []⟩
theorem putE_again {l : List It} (h : Up l) (key a b : List UInt8) : putE (put (it key a) l) (it key b) = 0 := by
  unfold putE
  rw [if_pos (show mayL (it key b).s = true from nil_may), if_neg]
  rintro ⟨h1, _⟩
  rw [has_put h (it key a) (it key b).k rfl] at h1
  cases h1
theorem dig_zero (l : List It) (i : Nat) : dig l 0 i = Sha.of (txt (items l i)) := by rw [dig]
/-- The digests of the leaves. -/
def digs (l : List It) (n : Nat) : List (List UInt8) := (List.range n).map (dig l 0)
theorem digs_succ (l : List It) (n : Nat) : digs l (n + 1) = digs l n ++ [dig l 0 n] := by unfold digs; rw [List.range_succ, List.map_append]; rfl
theorem digs_len (l : List It) (n : Nat) : (digs l n).length = n := by unfold digs; rw [List.length_map, List.length_range]
theorem digs_get (l : List It) (n j : Nat) (hj : j < (digs l n).length) : (digs l n)[j] = dig l 0 j := by simp [digs]

set_option maxRecDepth 100000 in
set_option maxHeartbeats 16000000 in
theorem walk (a0 : List St) (s0 : Option Addr) (c0 : Nat) (a1 : ByteArray) (a2 : ByteArray) (a3 : ByteArray) (w : World) (w0 : ∀ x ∈ a0, x.Sized ∧ x.Deep w) (l0 : TreeLaw.Steps w s0 a0.length a0) (_ : a0.length ≤ 140737488351232) (_ : a1.size ≤ maxLen) (r1 : a1.size ≤ 140737488351232) (_ : a2.size ≤ maxLen) (r2 : a2.size ≤ 140737488351232) (_ : a3.size ≤ maxLen) (r3 : a3.size ≤ 140737488351232) (ht : Sha.Tabs w) :
    Calls Tryz.prog 4 #[.slice s0 a0.length c0, .string a1, .string a2, .string a3] w fun e w' => e = .returned (.bool true) ∧ Below w.heap.size w w' := by
  have hb := Below.refl w.heap.size w
  have HT := Lib.hid ht
  clear ht
  obtain ⟨key, rfl⟩ : ∃ l : List UInt8, a1 = ⟨l.toArray⟩ := ⟨a1.data.toList, by simp⟩
  obtain ⟨one, rfl⟩ : ∃ l : List UInt8, a2 = ⟨l.toArray⟩ := ⟨a2.data.toList, by simp⟩
  obtain ⟨two, rfl⟩ : ∃ l : List UInt8, a3 = ⟨l.toArray⟩ := ⟨a3.data.toList, by simp⟩
  replace r1 : key.length ≤ 140737488351232 := by simpa [ByteArray.size] using r1
  replace r2 : one.length ≤ 140737488351232 := by simpa [ByteArray.size] using r2
  replace r3 : two.length ≤ 140737488351232 := by simpa [ByteArray.size] using r3
  obtain ⟨kl, hkl⟩ : ∃ n, n = key.length := ⟨_, rfl⟩
  obtain ⟨ol, hol⟩ : ∃ n, n = one.length := ⟨_, rfl⟩
  obtain ⟨tl, htl⟩ : ∃ n, n = two.length := ⟨_, rfl⟩
  have sk : (key.length : Int) = (kl : Int) := by rw [hkl]
  have so : (one.length : Int) = (ol : Int) := by rw [hol]
  have st : (two.length : Int) = (tl : Int) := by rw [htl]
  have wk1 : IntKind.i64.wrap ((kl : Int) + (ol : Int)) = (kl : Int) + (ol : Int) := by rw [IntKind.wrap_i64]; omega
  have wk2 : IntKind.i64.wrap ((kl : Int) + (ol : Int) + (tl : Int)) = (kl : Int) + (ol : Int) + (tl : Int) := by rw [IntKind.wrap_i64]; omega
  have HKL := Lib.hid (And.intro hkl (And.intro hol htl))
  clear hkl hol htl r1 r2 r3
  have HH0 := Lib.hid (fun x (k : Below w.heap.size w x) => heavy_any a0 s0 c0 x (l0.below k) (fun y hy => (w0 y hy).2.below k) (fun y hy => (w0 y hy).1))
  obtain ⟨n0, hn0⟩ : ∃ n, n = a0.length := ⟨_, rfl⟩
  rw [← hn0] at l0 HH0 ⊢
  have HN0 := Lib.hid hn0
  have W0 := Lib.hid w0
  have L0 := Lib.hid l0
  clear w0 l0 hn0
  go_enter Tryz.func4, Tryz.ntmps4
  go_wp2_with fail
  refine (HH0.out _ hb).mono ?_
  rintro e vh0 ⟨r0, rfl, hr0, kh⟩
  replace hb := bstep hb kh
  have HR0 := Lib.hid hr0
  clear kh hr0 HH0
  cases r0
  rotate_left
  · skip
    go_wp2_with fail
    refine (works_any _ (HT.out.below hb)).mono ?_
    rintro e vw ⟨rfl, kw⟩
    replace hb := bstep hb kw
    go_wp2
    go_ret
    exact ⟨rfl, hb⟩
  have LT0 := Lib.hid (HR0.out rfl)
  clear HR0
  by_cases hsum : kl + ol + tl > 1024
  · have e1 : decide ((kl : Int) + (ol : Int) + (tl : Int) > 1024) = true := decide_eq_true (by omega)
    have e2 : decide ((1024 : Int) < (kl : Int) + (ol : Int) + (tl : Int)) = true := decide_eq_true (by omega)
    clear hsum
    go_wp2_with fail
    refine (works_any _ (HT.out.below hb)).mono ?_
    rintro e vw ⟨rfl, kw⟩
    replace hb := bstep hb kw
    go_wp2
    go_ret
    exact ⟨rfl, hb⟩
  have e1 : decide ((kl : Int) + (ol : Int) + (tl : Int) > 1024) = false := decide_eq_false (by omega)
  have e2 : decide ((1024 : Int) < (kl : Int) + (ol : Int) + (tl : Int)) = false := decide_eq_false (by omega)
  have HKS : Hid (key.length ≤ 1024 ∧ one.length ≤ 1024 ∧ two.length ≤ 1024) := Lib.hid (by have := HKL.out; omega)
  clear hsum
  go_wp2_with fail
  refine (new_on hb).mono ?_
  rintro e vn ⟨tb, mb, rfl, i, htb, hmb, kn⟩
  have I := Lib.hid i
  have HB : Hid (w.heap.size ≤ tb ∧ w.heap.size ≤ mb) := Lib.hid ⟨Nat.le_trans hb.size htb, Nat.le_trans hb.size hmb⟩
  replace hb := bstep hb kn
  clear i htb hmb kn
  go_wp2_with fail
  go_loopw [10] (fun iv wr => ∃ k : Nat, k ≤ n0 ∧ iv = .int .i64 k ∧ ∃ l, Hid (On w wr tb mb k l)) (fun iv _ => n0 - (intOf iv).toNat)
  case atStart => exact ⟨0, by omega, rfl, _, I⟩
  case round =>
    clear hb I
    obtain ⟨k, hk, rfl, l, I⟩ := hrel
    have hn60 : n0 ≤ 60 := by have := LT0.out.1; have := HN0.out; omega
    by_cases hlt : k < n0
    · skip
      have hll : k < a0.length := by have := HN0.out; omega
      obtain ⟨b, o, rfl, hcell⟩ := steps_at L0.out (by omega)
      obtain ⟨x0, x1, x2, x3⟩ := hcell k hll
      have hmem := List.getElem_mem hll
      have hdk := (W0.out _ hmem).2
      have hok := step_ok (LT0.out.2 _ hmem) (W0.out _ hmem).1
      have hbl := World.block_lt_of_cell? _ _ x0
      obtain ⟨x, hx⟩ : ∃ x, x = a0[k] := ⟨_, rfl⟩
      rw [← hx] at x0 x1 x2 x3 hdk hok
      clear hx hmem hcell
      obtain ⟨d, key, bs, ms, mc, A⟩ := x
      unfold St.Deep at hdk
      simp only at x0 x1 x2 x3 hdk hok
      have dA := Lib.hid (hdk.below I.out.hb)
      have OK := Lib.hid hok
      have HK := Lib.hid hlt
      have HBL : Hid (b < w.heap.size) := Lib.hid hbl
      obtain ⟨na, hna⟩ : ∃ n, n = A.length := ⟨_, rfl⟩
      rw [← hna] at x3 dA
      have HNA := Lib.hid hna
      have y0 := Dots.keepC x0 I.out.hb
      have y1 := Dots.keepC x1 I.out.hb
      have y2 := Dots.keepC x2 I.out.hb
      have y3 := Dots.keepC x3 I.out.hb
      have d1 : decide ((k : Int) < (n0 : Int)) = true := decide_eq_true (by omega)
      have j1 : (0 : Int) ≤ (k : Int) := by omega
      have j2 : (k : Int) < (n0 : Int) := by omega
      clear hok hlt x0 x1 x2 x3 hbl hna hdk hll
      go_wp2_with fail
      refine wp_region_noPanic ?_
      refine wp_region_held_drew (S := (fun w' => w'.cell? ⟨b, o + k * 4 + 1, none⟩ = some (.string ⟨key.toArray⟩) ∧ w'.cell? ⟨b, o + k * 4 + 2, none⟩ = some (.string ⟨bs.toArray⟩) ∧ w'.cell? ⟨b, o + k * 4 + 3, none⟩ = some (.slice ms na mc))) (by kernel_rfl) (⟨y1, y2, y3⟩) (fun hHeld => ?_)
      refine wpAnyH_take (i := 0) (v := ?_) (by simp only [List.getElem?_toArray, List.getElem?_cons_zero]; rfl) (by kernel_rfl) (by kernel_rfl) (by kernel_rfl) (fun _ _ _ h => h) (Or.inl ⟨by rfl, ?_⟩) (by assumption) ?_
      rotate_left
      · (intro w hSw; (try dsimp only at hSw); go_simp; try with_reducible rfl)
      try simp only [Act.put, List.setIfInBounds_toArray, List.set_cons_zero, List.set_cons_succ]
      refine wpAnyH_take (i := 1) (v := ?_) (by simp only [List.getElem?_toArray, List.getElem?_cons_succ, List.getElem?_cons_zero]; rfl) (by kernel_rfl) (by kernel_rfl) (by kernel_rfl) (fun _ _ _ h => h) (Or.inl ⟨by rfl, ?_⟩) (by assumption) ?_
      rotate_left
      · (intro w hSw; (try dsimp only at hSw); go_simp; try with_reducible rfl)
      try simp only [Act.put, List.setIfInBounds_toArray, List.set_cons_zero, List.set_cons_succ]
      refine wpAnyH_take (i := 2) (v := ?_) (by simp only [List.getElem?_toArray, List.getElem?_cons_succ, List.getElem?_cons_zero]; rfl) (by kernel_rfl) (by kernel_rfl) (by kernel_rfl) (fun _ _ _ h => h) (Or.inl ⟨by rfl, ?_⟩) (by assumption) ?_
      rotate_left
      · (intro w hSw; (try dsimp only at hSw); go_simp; try with_reducible rfl)
      try simp only [Act.put, List.setIfInBounds_toArray, List.set_cons_zero, List.set_cons_succ]
      refine wpAnyH_take (i := 3) (v := ?_) (by simp only [List.getElem?_toArray, List.getElem?_cons_succ, List.getElem?_cons_zero]; rfl) (by kernel_rfl) (by kernel_rfl) (by kernel_rfl) (fun _ _ _ h => h) (Or.inl ⟨by rfl, ?_⟩) (by assumption) ?_
      rotate_left
      · (intro w hSw; (try dsimp only at hSw); go_simp; try with_reducible rfl)
      try simp only [Act.put, List.setIfInBounds_toArray, List.set_cons_zero, List.set_cons_succ]
      refine wpAnyH_take (i := 4) (v := ?_) (by simp only [List.getElem?_toArray, List.getElem?_cons_succ, List.getElem?_cons_zero]; rfl) (by kernel_rfl) (by kernel_rfl) (by kernel_rfl) (fun _ _ _ h => h) (Or.inl ⟨by rfl, ?_⟩) (by assumption) ?_
      rotate_left
      · (intro w hSw; (try dsimp only at hSw); go_simp; try with_reducible rfl)
      try simp only [Act.put, List.setIfInBounds_toArray, List.set_cons_zero, List.set_cons_succ]
      refine wpAnyH_take (i := 5) (v := ?_) (by simp only [List.getElem?_toArray, List.getElem?_cons_succ, List.getElem?_cons_zero]; rfl) (by kernel_rfl) (by kernel_rfl) (by kernel_rfl) (fun _ _ _ h => h) (Or.inl ⟨by rfl, ?_⟩) (by assumption) ?_
      rotate_left
      · (intro w hSw; (try dsimp only at hSw); go_simp; try with_reducible rfl)
      try simp only [Act.put, List.setIfInBounds_toArray, List.set_cons_zero, List.set_cons_succ]
      refine wpAnyH_take (i := 6) (v := ?_) (by simp only [List.getElem?_toArray, List.getElem?_cons_succ, List.getElem?_cons_zero]; rfl) (by kernel_rfl) (by kernel_rfl) (by kernel_rfl) (fun _ _ _ h => h) (Or.inl ⟨by rfl, ?_⟩) (by assumption) ?_
      rotate_left
      · (intro w hSw; (try dsimp only at hSw); go_simp; try with_reducible rfl)
      try simp only [Act.put, List.setIfInBounds_toArray, List.set_cons_zero, List.set_cons_succ]
      refine wpAnyH_take (i := 7) (v := ?_) (by simp only [List.getElem?_toArray, List.getElem?_cons_succ, List.getElem?_cons_zero]; rfl) (by kernel_rfl) (by kernel_rfl) (by kernel_rfl) (fun _ _ _ h => h) (Or.inl ⟨by rfl, ?_⟩) (by assumption) ?_
      rotate_left
      · (intro w hSw; (try dsimp only at hSw); go_simp; try with_reducible rfl)
      try simp only [Act.put, List.setIfInBounds_toArray, List.set_cons_zero, List.set_cons_succ]
      refine wpAnyH_take (i := 8) (v := ?_) (by simp only [List.getElem?_toArray, List.getElem?_cons_succ, List.getElem?_cons_zero]; rfl) (by kernel_rfl) (by kernel_rfl) (by kernel_rfl) (fun _ _ _ h => h) (Or.inl ⟨by rfl, ?_⟩) (by assumption) ?_
      rotate_left
      · (intro w hSw; (try dsimp only at hSw); go_simp; try with_reducible rfl)
      try simp only [Act.put, List.setIfInBounds_toArray, List.set_cons_zero, List.set_cons_succ]
      refine wpAnyH_take (i := 9) (v := ?_) (by simp only [List.getElem?_toArray, List.getElem?_cons_succ, List.getElem?_cons_zero]; rfl) (by kernel_rfl) (by kernel_rfl) (by kernel_rfl) (fun _ _ _ h => h) (Or.inl ⟨by rfl, ?_⟩) (by assumption) ?_
      rotate_left
      · (intro w hSw; (try dsimp only at hSw); go_simp; try with_reducible rfl)
      try simp only [Act.put, List.setIfInBounds_toArray, List.set_cons_zero, List.set_cons_succ]
      refine wpAnyH_take (i := 10) (v := ?_) (by simp only [List.getElem?_toArray, List.getElem?_cons_succ, List.getElem?_cons_zero]; rfl) (by kernel_rfl) (by kernel_rfl) (by kernel_rfl) (fun _ _ _ h => h) (Or.inl ⟨by rfl, ?_⟩) (by assumption) ?_
      rotate_left
      · (intro w hSw; (try dsimp only at hSw); go_simp; try with_reducible rfl)
      try simp only [Act.put, List.setIfInBounds_toArray, List.set_cons_zero, List.set_cons_succ]
      refine wpAnyH_take (i := 11) (v := ?_) (by simp only [List.getElem?_toArray, List.getElem?_cons_succ, List.getElem?_cons_zero]; rfl) (by kernel_rfl) (by kernel_rfl) (by kernel_rfl) (fun _ _ _ h => h) (Or.inl ⟨by rfl, ?_⟩) (by assumption) ?_
      rotate_left
      · (intro w hSw; (try dsimp only at hSw); go_simp; try with_reducible rfl)
      try simp only [Act.put, List.setIfInBounds_toArray, List.set_cons_zero, List.set_cons_succ]
      refine wpAnyH_take (i := 12) (v := ?_) (by simp only [List.getElem?_toArray, List.getElem?_cons_succ, List.getElem?_cons_zero]; rfl) (by kernel_rfl) (by kernel_rfl) (by kernel_rfl) (fun _ _ _ h => h) (Or.inl ⟨by rfl, ?_⟩) (by assumption) ?_
      rotate_left
      · (intro w hSw; (try dsimp only at hSw); go_simp; try with_reducible rfl)
      try simp only [Act.put, List.setIfInBounds_toArray, List.set_cons_zero, List.set_cons_succ]
      refine wpAnyH_take (i := 13) (v := ?_) (by simp only [List.getElem?_toArray, List.getElem?_cons_succ, List.getElem?_cons_zero]; rfl) (by kernel_rfl) (by kernel_rfl) (by kernel_rfl) (fun _ _ _ h => h) (Or.inl ⟨by rfl, ?_⟩) (by assumption) ?_
      rotate_left
      · (intro w hSw; (try dsimp only at hSw); go_simp; try with_reducible rfl)
      try simp only [Act.put, List.setIfInBounds_toArray, List.set_cons_zero, List.set_cons_succ]
      refine wpAnyH_take (i := 14) (v := ?_) (by simp only [List.getElem?_toArray, List.getElem?_cons_succ, List.getElem?_cons_zero]; rfl) (by kernel_rfl) (by kernel_rfl) (by kernel_rfl) (fun _ _ _ h => h) (Or.inl ⟨by rfl, ?_⟩) (by assumption) ?_
      rotate_left
      · (intro w hSw; (try dsimp only at hSw); go_simp; try with_reducible rfl)
      try simp only [Act.put, List.setIfInBounds_toArray, List.set_cons_zero, List.set_cons_succ]
      refine wpAnyH_take (i := 15) (v := ?_) (by simp only [List.getElem?_toArray, List.getElem?_cons_succ, List.getElem?_cons_zero]; rfl) (by kernel_rfl) (by kernel_rfl) (by kernel_rfl) (fun _ _ _ h => h) (Or.inl ⟨by rfl, ?_⟩) (by assumption) ?_
      rotate_left
      · (intro w hSw; (try dsimp only at hSw); go_simp; try with_reducible rfl)
      try simp only [Act.put, List.setIfInBounds_toArray, List.set_cons_zero, List.set_cons_succ]
      refine wpAnyH_ready (rs := [16]) (by kernel_rfl) (by simp) ?_
      refine AllReadyH.cons (by simp only [List.getElem?_toArray, List.getElem?_cons_succ, List.getElem?_cons_zero]; rfl) (fun K hK => ?_) AllReadyH.nil
      go_simp
      go_at_call 14
      refine (copied_any A ms na mc _ (dA.out.below (Below.drew (Below.refl _ _))) (by have := OK.out.1.2; have := HNA.out; omega)).mono ?_
      rintro e v7 ⟨z2, q2, rfl, t2, -, k7⟩
      have k8 : Below wr.heap.size wr v7 := (Below.drew (Below.refl _ _)).trans k7
      have I7 := Lib.hid (I.out.below k8)
      have T2 := Lib.hid t2
      have y4 := Dots.keepC y1 k8
      have y5 := Dots.keepC y2 k8
      have y6 := Dots.keepC y3 k8
      clear k7 k8 t2
      go_wp2_with fail
      refine hK.out _ _ (⟨y4, y5, y6⟩) (fun hHeld => ?_)
      clear hK K
      try simp only [Act.put, List.setIfInBounds_toArray, List.set_cons_zero, List.set_cons_succ]
      refine wpAnyH_ready (rs := [17]) (by kernel_rfl) (by simp) ?_
      refine AllReadyH.cons (by simp only [List.getElem?_toArray, List.getElem?_cons_succ, List.getElem?_cons_zero]; rfl) (fun K hK => ?_) AllReadyH.nil
      go_simp
      go_at_call 13
      refine (put_on I7.out key bs A z2 q2 T2.out OK.out.1.1 (by have := OK.out.2.1; omega) (by have := OK.out.2.2; omega) (by have := OK.out.1.2; omega) (by omega)).mono ?_
      rintro e v8 ⟨rfl, i8, k8⟩
      have I8 := Lib.hid i8
      have hbm : b < v7.heap.size ∧ b ≠ mb := by have := HBL.out; have := I7.out.lo; have := I7.out.hb.size; omega
      have y7 := (k8.cell (p := ⟨b, o + k * 4 + 1, none⟩) hbm.1 hbm.2).trans y4
      have y8 := (k8.cell (p := ⟨b, o + k * 4 + 2, none⟩) hbm.1 hbm.2).trans y5
      have y9 := (k8.cell (p := ⟨b, o + k * 4 + 3, none⟩) hbm.1 hbm.2).trans y6
      clear i8 k8
      go_wp2_with fail
      refine hK.out _ _ (⟨y7, y8, y9⟩) (fun hHeld => ?_)
      clear hK K
      try simp only [Act.put, List.setIfInBounds_toArray, List.set_cons_zero, List.set_cons_succ]
      refine wpAnyH_done (by kernel_rfl) ?_ _
      refine NoPanic.normal ?_
      clear hHeld y1 y2 y3 y4 y5 y6 y7 y8 y9 hbm
      go_wp2
      go_roundw
      case rel => exact ⟨k + 1, by have := HK.out; omega, by go_num, _, I8⟩
      case measure => have := HK.out; simp [intOf]; omega
    have d1 : decide ((k : Int) < (n0 : Int)) = false := decide_eq_false (by omega)
    obtain rfl : k = n0 := by omega
    have HN60 := Lib.hid hn60
    clear hlt hk hn60
    by_cases hE : putE l (it key one) = 0
    rotate_left
    · have P1 := Lib.hid (put_on I.out key one [] none 0 (Mark.Lies.nil _ _) nil_ok (by have := HKS.out; omega) (by have := HKS.out; omega) (by decide) (by have := HN60.out; omega))
      obtain ⟨ze, hze⟩ : ∃ z, z = putE l (it key one) := ⟨_, rfl⟩
      rw [← hze] at hE
      rw [show putE l ⟨key, one, []⟩ = ze from hze.symm] at P1
      have e3 : (ze != 0) = true := by simpa using hE
      clear hze hE
      go_wp2_with fail
      refine P1.out.mono ?_
      rintro e v2 ⟨rfl, i2, -⟩
      have hb := i2.hb
      clear i2
      go_wp2_with fail
      refine (works_any _ (HT.out.below hb)).mono ?_
      rintro e vw ⟨rfl, kw⟩
      replace hb := bstep hb kw
      go_wp2
      go_ret
      exact ⟨rfl, hb⟩
    have HUP := Lib.hid I.out.is.up
    have P1 := Lib.hid (put_on I.out key one [] none 0 (Mark.Lies.nil _ _) nil_ok (by have := HKS.out; omega) (by have := HKS.out; omega) (by decide) (by have := HN60.out; omega))
    have hP : putL l (it key one) = put (it key one) l := by unfold putL; rw [if_pos hE]
    rw [show putE l ⟨key, one, []⟩ = 0 from hE, show putL l ⟨key, one, []⟩ = put (it key one) l from hP] at P1
    obtain ⟨l1, hl1⟩ : ∃ x, x = put (it key one) l := ⟨_, rfl⟩
    rw [← hl1] at P1
    have HL1 := Lib.hid hl1
    have HU1 : Hid (Up l1) := Lib.hid (by rw [hl1]; exact up_put _ _ HUP.out)
    clear hP hE hl1
    go_wp2_with fail
    refine P1.out.mono ?_
    rintro e v2 ⟨rfl, i2, -⟩
    have I2 := Lib.hid i2
    clear i2 P1 I
    obtain ⟨rt, hrt⟩ : ∃ d, d = dig l1 4 0 := ⟨_, rfl⟩
    have RT := Lib.hid (fun x n (h : On w x tb mb n l1) => root_on h HT.out (tabs_two HT.out))
    rw [← hrt] at RT
    have hrr : (rt == rt) = true := by simp
    clear hrt
    go_wp2_with fail
    refine (RT.out _ _ I2.out).mono ?_
    rintro e vB ⟨rfl, kB⟩
    have IB := Lib.hid (I2.out.below kB)
    clear I2 kB
    go_wp2_with fail
    go_loopw [12, 13] (fun av iv wr => ∃ i : Nat, i ≤ 16 ∧ iv = .int .i64 i ∧ Hid (Words.Mine wr vB.heap.size av (digs l1 i)) ∧ Hid (Below vB.heap.size vB wr)) (fun _ iv _ => 16 - (intOf iv).toNat)
    case atStart => exact ⟨0, by omega, rfl, Lib.hid (Row.Own.nil _ _), Lib.hid (Below.refl _ _)⟩
    case round =>
      obtain ⟨i, hi, rfl, HO, HB⟩ := hrel
      by_cases hlt : i < 16
      · have e3 : decide ((i : Int) < 16) = true := decide_eq_true (by omega)
        have N1 := Lib.hid (node_on (IB.out.below HB.out) HT.out (tabs_two HT.out) 4 i 0 rfl (by omega))
        obtain ⟨dg, hdg⟩ : ∃ d, d = dig l1 0 i := ⟨_, rfl⟩
        have HDG : Hid (digs l1 (i + 1) = digs l1 i ++ [dg]) := Lib.hid (by rw [hdg]; exact digs_succ l1 i)
        have HLN : Hid ((digs l1 i).length = i) := Lib.hid (digs_len _ _)
        obtain ⟨dd, hdd⟩ : ∃ d, d = digs l1 i := ⟨_, rfl⟩
        rw [← hdg] at N1
        rw [← hdd] at HO HDG HLN
        have HI := Lib.hid hlt
        clear hdg hdd hlt
        go_wp2_with fail
        refine N1.out.mono ?_
        rintro e v3 ⟨x3, c3, R3, rfl, -, -, -, k3⟩
        replace HO := Lib.hid (HO.out.below k3)
        have hs3 := HB.out.size
        replace HB := Lib.hid (HB.out.trans (k3.mono hs3))
        clear k3 N1 hs3
        go_upto_region 16 with (fail)
        go_wp2_with (at_builtin; refine Row.wpList_app Words.typ rfl _ _ rfl vB.heap.size u12 dd rfl (HO.out.alloc _) _ 1 1 [dg] rfl (Row.lies_new (E := Words.enc) v3 dg _) (by have := HLN.out; omega) (by have := HB.out.size; rw [World.size_alloc]; omega) ?_; intro v4 w4 o4 _ k4)
        rw [← HDG.out] at o4
        have HO4 := Lib.hid o4
        have HB4 := Lib.hid ((HB.out.trans (balloc (Below.refl v3.heap.size v3) _ |>.mono HB.out.size)).trans k4)
        clear o4 k4
        go_roundw
        case rel => exact ⟨i + 1, by have := HI.out; omega, by go_num, HO4, HB4⟩
        case measure => have := HI.out; simp [intOf]; omega
      obtain rfl : i = 16 := by omega
      have e3 : decide ((16 : Int) < 16) = false := by decide
      clear hlt hi
      obtain ⟨aw, cw, rfl, -, -, lw, hw⟩ := Row.Own.lies HO.out
      have HLN : Hid ((digs l1 16).length = 16) := Lib.hid (digs_len _ _)
      rw [HLN.out] at lw ⊢
      have LW := Lib.hid lw
      have HAW : Hid (∀ q, aw = some q → q.block ≠ mb) := Lib.hid (fun q e => by have := hw q e; have := IB.out.is.mlt; omega)
      have I3 := Lib.hid (IB.out.below HB.out)
      clear lw hw HO HB IB
      have P2 := Lib.hid (put_on I3.out key two [] none 0 (Mark.Lies.nil _ _) nil_ok (by have := HKS.out; omega) (by have := HKS.out; omega) (by decide) (by have := HN60.out; omega))
      have hE2 : putE l1 (it key two) = 0 := by rw [HL1.out]; exact putE_again HUP.out key one two
      have hP2 : putL l1 (it key two) = put (it key two) l1 := by unfold putL; rw [if_pos hE2]
      rw [show putL l1 ⟨key, two, []⟩ = put (it key two) l1 from hP2] at P2
      obtain ⟨l2, hl2⟩ : ∃ x, x = put (it key two) l1 := ⟨_, rfl⟩
      rw [← hl2] at P2
      have HL2 := Lib.hid hl2
      have HU2 : Hid (Up l2) := Lib.hid (by rw [hl2]; exact up_put _ _ HU1.out)
      clear hE2 hP2 hl2
      go_wp2_with fail
      refine P2.out.mono ?_
      rintro e v4 ⟨rfl, i4, k4⟩
      have I4 := Lib.hid i4
      replace LW := Lib.hid (lies_but LW.out k4 HAW.out)
      clear i4 k4 P2 I3
      go_wp2_with fail
      go_loopw [16] (fun iv wr => ∃ i : Nat, i ≤ 16 ∧ iv = .int .i64 i ∧ Hid (On w wr tb mb (k + 1 + 1) l2) ∧ Hid (Words.Lies wr aw 16 (digs l1 16))) (fun iv _ => 16 - (intOf iv).toNat)
      case atStart => exact ⟨0, by omega, rfl, I4, LW⟩
      case round =>
        clear I4 LW
        obtain ⟨i, hi, rfl, I4, LW⟩ := hrel
        by_cases hlt : i < 16
        · have e3 : decide ((i : Int) < 16) = true := decide_eq_true (by omega)
          have N1 := Lib.hid (node_on I4.out HT.out (tabs_two HT.out) 4 i 0 rfl (by omega))
          have HEQ : Hid (i ≠ Shard.no key → dig l2 0 i = dig l1 0 i) := Lib.hid (fun h => by
            rw [dig_zero, dig_zero, HL2.out, items_put HU1.out (it key two) i h])
          have hil : i < (digs l1 16).length := by rw [HLN.out]; exact hlt
          have HGD := Lib.hid (digs_get l1 16 i hil)
          obtain ⟨dg, hdg⟩ : ∃ d, d = dig l2 0 i := ⟨_, rfl⟩
          obtain ⟨dh, hdh⟩ : ∃ d, d = dig l1 0 i := ⟨_, rfl⟩
          rw [← hdg] at N1 HEQ
          rw [← hdh] at HEQ HGD
          have HI := Lib.hid hlt
          have j1 : (0 : Int) ≤ (i : Int) := by omega
          have j2 : (i : Int) < 16 := by omega
          clear hdg hdh hlt
          go_wp2_with fail
          refine N1.out.mono ?_
          rintro e v5 ⟨x5, c5, R5, rfl, -, -, -, k5⟩
          replace I4 := Lib.hid (I4.out.below k5)
          replace LW := Lib.hid (LW.out.below k5)
          clear k5 N1
          obtain ⟨bw, ow, rfl, hcw⟩ := Words.words_at LW.out (by decide)
          have hcx := hcw i hil
          rw [HGD.out] at hcx
          clear hcw HGD hil
          by_cases he : dg = dh
          · have e5 : (dg != dh) = false := by simp [he]
            have e7 : (dg == dh) = true := by simp [he]
            go_wp2
            go_roundw
            case rel => exact ⟨i + 1, by have := HI.out; omega, by go_num, I4, LW⟩
            case measure => have := HI.out; simp [intOf]; omega
          · have e5 : (dg != dh) = true := by simpa using he
            have hno : i = Shard.no key := by
              by_cases h : i = Shard.no key
              · exact h
              · exact absurd (HEQ.out h) he
            have e7 : (dg == dh) = false := by simpa using he
            have e6 : ((i : Int) != ((Shard.no key : Nat) : Int)) = false := by rw [← hno]; simp
            have e8 : ((i : Int) == ((Shard.no key : Nat) : Int)) = true := by rw [← hno]; simp
            replace hno := Lib.hid hno
            go_wp2_with fail
            refine (Shard.refOf_any key _ (by have := HKS.out; omega)).mono ?_
            rintro e v6 ⟨rfl, k6⟩
            replace I4 := Lib.hid (I4.out.below k6)
            replace LW := Lib.hid (LW.out.below k6)
            clear k6 hcx
            go_wp2
            go_roundw
            case rel => exact ⟨i + 1, by have := HI.out; omega, by go_num, I4, LW⟩
            case measure => have := HI.out; simp [intOf]; omega
        obtain rfl : i = 16 := by omega
        have e3 : decide ((16 : Int) < 16) = false := by decide
        clear hlt hi
        have P3 := Lib.hid (put_on I4.out key one [] none 0 (Mark.Lies.nil _ _) nil_ok (by have := HKS.out; omega) (by have := HKS.out; omega) (by decide) (by have := HN60.out; omega))
        have hE3 : putE l2 (it key one) = 0 := by rw [HL2.out]; exact putE_again HU1.out key two one
        have hP3 : putL l2 (it key one) = l1 := by
          unfold putL; rw [if_pos hE3, HL2.out, HL1.out]
          exact put_back HUP.out (it key one) (it key two) rfl
        rw [show putL l2 ⟨key, one, []⟩ = l1 from hP3] at P3
        clear hE3 hP3 LW
        go_wp2_with fail
        refine P3.out.mono ?_
        rintro e v7 ⟨rfl, i7, -⟩
        have I7 := Lib.hid i7
        clear i7 P3 I4
        go_wp2_with fail
        refine (RT.out _ _ I7.out).mono ?_
        rintro e v8 ⟨rfl, k8⟩
        have hb := bstep I7.out.hb k8
        clear I7 k8
        go_wp2_with fail
        refine (works_any _ (HT.out.below hb)).mono ?_
        rintro e vw ⟨rfl, kw⟩
        replace hb := bstep hb kw
        go_wp2
        go_ret
        exact ⟨rfl, hb⟩
end TreeTouch
end Go.Proofs.YtjnlooccddnbkaaGreatDoor
