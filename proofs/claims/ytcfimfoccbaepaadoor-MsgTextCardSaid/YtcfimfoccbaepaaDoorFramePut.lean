/- frame: Put, Cut; the reference's Put. -/
import Derived.Test.YtcfimfoccbaepaaDoorFour
import Derived.OwnWalk
namespace Go.Proofs.YtcfimfoccbaepaaDoor
namespace Frame
open Go.RowKit

/-- A text's frame. -/
def putL (t : List UInt8) : List UInt8 := fourL t.length ++ (fourL (Crc.onN 0 (fourL t.length ++ t)) ++ t)
def putR (t : List UInt8) : List UInt8 × Int := if 1048576 < t.length then ([], 4) else (putL t, 0)
theorem fourL_length (n : Nat) : (fourL n).length = 4 := rfl
theorem putL_length (t : List UInt8) : (putL t).length = 8 + t.length := by unfold putL; rw [List.length_append, List.length_append, fourL_length, fourL_length]; omega
/-- The first frame: its text, what stands behind it, and the error. -/
def cutL (s : List UInt8) : List UInt8 × List UInt8 × Int :=
  if s.length < 8 then ([], [], 20) else if 1048576 < num4 s then ([], [], 4) else if s.length - 8 < num4 s then ([], [], 20)
  else if num4 (s.drop 4) ≠ Crc.onN 0 (s.take 4 ++ (s.drop 8).take (num4 s)) then ([], [], 60) else ((s.drop 8).take (num4 s), (s.drop 8).drop (num4 s), 0)
theorem cut_put (t r : List UInt8) (h : t.length ≤ 1048576) : cutL (putL t ++ r) = (t, r, 0) := by
  have hl : (putL t ++ r).length = 8 + t.length + r.length := by rw [List.length_append, putL_length]
  have e : putL t ++ r = fourL t.length ++ (fourL (Crc.onN 0 (fourL t.length ++ t)) ++ (t ++ r)) := by unfold putL; simp
  have n1 : num4 (putL t ++ r) = t.length := by rw [e]; exact num4_four _ (by omega) _
  have n2 : (putL t ++ r).drop 4 = fourL (Crc.onN 0 (fourL t.length ++ t)) ++ (t ++ r) := by rw [e]; rfl
  have n3 : (putL t ++ r).take 4 = fourL t.length := by rw [e]; rfl
  have n4 : (putL t ++ r).drop 8 = t ++ r := by rw [e]; rfl
  unfold cutL
  rw [if_neg (by omega), n1, if_neg (by omega), if_neg (by omega), n2, n3, n4, num4_four _ (Crc.onN_lt _ _), List.take_left, List.drop_left, if_neg (by simp)]
theorem put_cut (s t r : List UInt8) (h : cutL s = (t, r, 0)) : s = putL t ++ r ∧ t.length ≤ 1048576 := by
  unfold cutL at h
  by_cases h1 : s.length < 8
  · rw [if_pos h1] at h; cases h
  rw [if_neg h1] at h
  by_cases h2 : 1048576 < num4 s
  · rw [if_pos h2] at h; cases h
  rw [if_neg h2] at h
  by_cases h3 : s.length - 8 < num4 s
  · rw [if_pos h3] at h; cases h
  rw [if_neg h3] at h
  by_cases h4 : num4 (s.drop 4) ≠ Crc.onN 0 (s.take 4 ++ (s.drop 8).take (num4 s))
  · rw [if_pos h4] at h; cases h
  rw [if_neg h4] at h
  have h4 : num4 (s.drop 4) = Crc.onN 0 (s.take 4 ++ (s.drop 8).take (num4 s)) := Classical.byContradiction h4
  simp only [Prod.mk.injEq, and_true] at h
  obtain ⟨rfl, rfl⟩ := h
  have hl : ((s.drop 8).take (num4 s)).length = num4 s := by rw [List.length_take, List.length_drop]; omega
  refine ⟨?_, by omega⟩
  unfold putL
  rw [hl, four_num4 s (by omega), ← h4, four_num4 (s.drop 4) (by rw [List.length_drop]; omega)]
  rw [List.append_assoc, List.append_assoc, List.take_append_drop]
  conv => lhs; rw [← List.take_append_drop 4 s, ← List.take_append_drop 4 (s.drop 4), List.drop_drop]
theorem drop_str (s : List UInt8) (k : Nat) : (({ data := s.toArray } : ByteArray)).extract k s.length = { data := (s.drop k).toArray } := Str.ext (by
  rw [Str.extract_toList]; simp)
theorem take_str (s : List UInt8) (k : Nat) : (({ data := s.toArray } : ByteArray)).extract 0 k = { data := (s.take k).toArray } := Str.ext (by
  rw [Str.extract_toList]; simp)

set_option maxRecDepth 100000 in
theorem put_any (t : List UInt8) (w : World) (hl : t.length ≤ 9223372036854775807) (ht : Crc.Tab w) :
    Calls Tryd.prog 19 #[.string ⟨t.toArray⟩] w fun e w' => e = .returned (.tuple #[.string ⟨(putR t).1.toArray⟩, .int .i64 (putR t).2]) ∧ Below w.heap.size w w' := by
  have hb := Below.refl w.heap.size w
  have hsz := Str.size_mk t
  by_cases h1 : 1048576 < t.length
  · have d1 : decide ((t.length : Int) > 1048576) = true := decide_eq_true (by omega)
    have d2 : decide ((1048576 : Int) < (t.length : Int)) = true := decide_eq_true (by omega)
    have HV : Hid (putR t = ([], 4)) := Lib.hid (by unfold putR; rw [if_pos h1])
    clear ht
    go_enter Tryd.func19, Tryd.ntmps19
    go_wp2
    go_ret2
    exact ⟨by rw [HV.out]; rfl, hb⟩
  · have d1 : decide ((t.length : Int) > 1048576) = false := decide_eq_false (by omega)
    have d2 : decide ((1048576 : Int) < (t.length : Int)) = false := decide_eq_false (by omega)
    have HV : Hid (putR t = (putL t, 0)) := Lib.hid (by unfold putR; rw [if_neg h1])
    have wl : IntKind.u32.wrap (t.length : Int) = (t.length : Int) := by rw [IntKind.wrap_u32]; omega
    obtain ⟨n, hn⟩ : ∃ n, n = t.length := ⟨_, rfl⟩
    obtain ⟨q, hq⟩ : ∃ q, q = fourL n := ⟨_, rfl⟩
    obtain ⟨c, hc⟩ : ∃ c, c = Crc.onN 0 (q ++ t) := ⟨_, rfl⟩
    obtain ⟨q2, hq2⟩ : ∃ q, q = fourL c := ⟨_, rfl⟩
    have hp : putL t = q ++ (q2 ++ t) := by unfold putL; rw [← hn, ← hq, ← hc, ← hq2]
    have HP := Lib.hid hp
    have C1 : Hid (∀ w, Calls Tryd.prog 30 #[.int .u32 (n : Nat)] w fun e w' => e = .returned (.string ⟨q.toArray⟩) ∧ Below w.heap.size w w') := Lib.hid (fun w => by rw [hq]; exact four_any n w (by omega))
    have C2 : Hid (∀ w, Crc.Tab w → Calls Tryd.prog 29 #[.string ⟨q.toArray⟩, .string ⟨t.toArray⟩] w fun e w' => e = .returned (.int .u32 (c : Nat)) ∧ w = w') := Lib.hid (fun w ht => by rw [hc]; exact sum_any q t w (by rw [hq, fourL_length]; omega) hl ht)
    have C3 : Hid (∀ w, Calls Tryd.prog 30 #[.int .u32 (c : Nat)] w fun e w' => e = .returned (.string ⟨q2.toArray⟩) ∧ Below w.heap.size w w') := Lib.hid (fun w => by rw [hq2]; exact four_any c w (by rw [hc]; exact Crc.onN_lt _ _))
    have s1 := Str.size_mk q
    have s2 := Str.size_mk q2
    have hql : q.length = 4 := by rw [hq]; rfl
    have hql2 : q2.length = 4 := by rw [hq2]; rfl
    have a1 := Str.mk_append_mk q q2
    have a2 := Str.mk_append_mk (q ++ q2) t
    have s3 := Str.size_mk (q ++ q2)
    rw [List.length_append, hql, hql2] at s3
    have c1 : ¬ (9223372036854775807 < 8 + n) := by omega
    have c2 : ¬ (8 + n > 9223372036854775807) := by omega
    rw [← hn] at wl d1 d2 hsz
    have hTab := Lib.hid ht
    clear ht hn hq hc hq2 hp
    go_enter Tryd.func19, Tryd.ntmps19
    go_wp2_with fail
    refine (C1.out _).mono ?_
    rintro e v1 ⟨rfl, k1⟩
    replace hTab := Lib.hid ((hTab.out).below k1)
    replace hb := bstep hb k1
    clear k1
    go_wp2_with fail
    refine (C2.out _ hTab.out).mono ?_
    rintro e w2 ⟨rfl, rfl⟩
    go_wp2_with fail
    refine (C3.out _).mono ?_
    rintro e v3 ⟨rfl, k3⟩
    replace hTab := Lib.hid ((hTab.out).below k3)
    replace hb := bstep hb k3
    clear k3
    go_wp2
    go_ret2
    exact ⟨by rw [HV.out, HP.out, ← List.append_assoc]; rfl, hb⟩
set_option maxRecDepth 100000 in
set_option maxHeartbeats 2000000 in
theorem cut_any (s : List UInt8) (w : World) (hl : s.length ≤ 1099511627776) (ht : Crc.Tab w) :
    Calls Tryd.prog 18 #[.string ⟨s.toArray⟩] w fun e w' => e = .returned (.tuple #[.string ⟨(cutL s).1.toArray⟩, .string ⟨(cutL s).2.1.toArray⟩, .int .i64 (cutL s).2.2]) ∧ Below w.heap.size w w' := by
  have hb := Below.refl w.heap.size w
  have hsz := Str.size_mk s
  by_cases h1 : s.length < 8
  · have d1 : decide ((s.length : Int) < 8) = true := decide_eq_true (by omega)
    have HV : Hid (cutL s = ([], [], 20)) := Lib.hid (by unfold cutL; rw [if_pos h1])
    clear ht
    go_enter Tryd.func18, Tryd.ntmps18
    go_wp2
    go_ret3
    exact ⟨by rw [HV.out]; rfl, hb⟩
  have d1 : decide ((s.length : Int) < 8) = false := decide_eq_false (by omega)
  obtain ⟨n, hn⟩ : ∃ n, n = num4 s := ⟨_, rfl⟩
  obtain ⟨m, hm⟩ : ∃ m, m = s.length := ⟨_, rfl⟩
  obtain ⟨b, hbs⟩ : ∃ b, b = s.drop 8 := ⟨_, rfl⟩
  have hbl : b.length = m - 8 := by rw [hbs, List.length_drop, hm]
  have C1 : Hid (∀ w, Calls Tryd.prog 28 #[.string ⟨s.toArray⟩] w fun e w' => e = .returned (.int .u32 (n : Nat)) ∧ Below w.heap.size w w') := Lib.hid (fun w => by rw [hn]; exact number_any s w (by omega) (by omega))
  have b8 : (({ data := s.toArray } : ByteArray)).extract 8 m = { data := b.toArray } := by rw [hm, hbs]; exact drop_str s 8
  have hszb := Str.size_mk b
  have k8 : (8 : Int) ≤ (m : Int) := by omega
  have k8n : 8 ≤ m := by omega
  have m0 : (0 : Int) ≤ (m : Int) := by omega
  rw [← hm] at hsz d1 h1
  by_cases h2 : 1048576 < n
  · have d2 : decide ((n : Int) > 1048576) = true := decide_eq_true (by omega)
    have d3 : decide ((1048576 : Int) < (n : Int)) = true := decide_eq_true (by omega)
    have HV : Hid (cutL s = ([], [], 4)) := Lib.hid (by unfold cutL; rw [← hm, if_neg h1, ← hn, if_pos h2])
    clear ht hn hm hbs
    go_enter Tryd.func18, Tryd.ntmps18
    go_wp2_with fail
    refine wp_region_noPanic ?_
    refine wp_region_held_drew (S := (fun w' => Below w.heap.size w w')) (by kernel_rfl) (Below.drew hb) (fun hHeld => ?_)
    refine wpAnyH_take (i := 0) (v := ?_) (by simp only [List.getElem?_toArray, List.getElem?_cons_zero]; rfl) (by kernel_rfl) (by kernel_rfl) (by kernel_rfl) (fun _ _ _ h => h) (Or.inl ⟨by rfl, ?_⟩) (by assumption) ?_
    rotate_left
    · (intro w hSw; (try dsimp only at hSw); go_simp; try with_reducible rfl)
    try simp only [Act.put, List.setIfInBounds_toArray, List.set_cons_zero, List.set_cons_succ]
    refine wpAnyH_take (i := 2) (v := ?_) (by simp only [List.getElem?_toArray, List.getElem?_cons_succ, List.getElem?_cons_zero]; rfl) (by kernel_rfl) (by kernel_rfl) (by kernel_rfl) (fun _ _ _ h => h) (Or.inl ⟨by rfl, ?_⟩) (by assumption) ?_
    rotate_left
    · (intro w hSw; (try dsimp only at hSw); go_simp; try with_reducible rfl)
    try simp only [Act.put, List.setIfInBounds_toArray, List.set_cons_zero, List.set_cons_succ]
    refine wpAnyH_take (i := 3) (v := ?_) (by simp only [List.getElem?_toArray, List.getElem?_cons_succ, List.getElem?_cons_zero]; rfl) (by kernel_rfl) (by kernel_rfl) (by kernel_rfl) (fun _ _ _ h => h) (Or.inl ⟨by rfl, ?_⟩) (by assumption) ?_
    rotate_left
    · (intro w hSw; (try dsimp only at hSw); go_simp; try with_reducible rfl)
    try simp only [Act.put, List.setIfInBounds_toArray, List.set_cons_zero, List.set_cons_succ]
    refine wpAnyH_ready (rs := [1]) (by kernel_rfl) (by simp) ?_
    refine AllReadyH.cons (by simp only [List.getElem?_toArray, List.getElem?_cons_succ, List.getElem?_cons_zero]; rfl) (fun K hK => ?_) AllReadyH.nil
    go_simp
    go_at_call 28
    refine (C1.out _).mono ?_
    rintro e v4 ⟨rfl, k4⟩
    go_wp2_with fail
    refine hK.out _ _ (bstep hHeld k4) (fun hHeld => ?_)
    clear hK K k4
    try simp only [Act.put, List.setIfInBounds_toArray, List.set_cons_zero, List.set_cons_succ]
    refine wpAnyH_take (i := 4) (v := ?_) (by simp only [List.getElem?_toArray, List.getElem?_cons_succ, List.getElem?_cons_zero]; rfl) (by kernel_rfl) (by kernel_rfl) (by kernel_rfl) (fun _ _ _ h => h) (Or.inl ⟨by rfl, ?_⟩) (by assumption) ?_
    rotate_left
    · (intro w hSw; (try dsimp only at hSw); go_simp; try with_reducible rfl)
    try simp only [Act.put, List.setIfInBounds_toArray, List.set_cons_zero, List.set_cons_succ]
    refine wpAnyH_take (i := 5) (v := ?_) (by simp only [List.getElem?_toArray, List.getElem?_cons_succ, List.getElem?_cons_zero]; rfl) (by kernel_rfl) (by kernel_rfl) (by kernel_rfl) (fun _ _ _ h => h) (Or.inl ⟨by rfl, ?_⟩) (by assumption) ?_
    rotate_left
    · (intro w hSw; (try dsimp only at hSw); go_simp; try with_reducible rfl)
    try simp only [Act.put, List.setIfInBounds_toArray, List.set_cons_zero, List.set_cons_succ]
    refine wpAnyH_done (by kernel_rfl) ?_ _
    refine NoPanic.normal ?_
    clear hb
    have hb := hHeld
    clear hHeld
    go_wp2
    go_ret3
    exact ⟨by rw [HV.out]; rfl, hb⟩
  have d2 : decide ((n : Int) > 1048576) = false := decide_eq_false (by omega)
  have d3 : decide ((1048576 : Int) < (n : Int)) = false := decide_eq_false (by omega)
  have wn : IntKind.i64.wrap (n : Int) = (n : Int) := by rw [IntKind.wrap_i64]; omega
  obtain ⟨k, hk⟩ : ∃ k, k = b.length := ⟨_, rfl⟩
  rw [← hk] at hszb
  by_cases h3 : s.length - 8 < n
  · have d4 : decide ((n : Int) > (k : Int)) = true := decide_eq_true (by omega)
    have d5 : decide ((k : Int) < (n : Int)) = true := decide_eq_true (by omega)
    have d5n : k < n := by omega
    have HV : Hid (cutL s = ([], [], 20)) := Lib.hid (by unfold cutL; rw [← hm, if_neg h1, ← hn, if_neg h2, if_pos (by omega)])
    clear ht hn hm hbs hk hbl
    go_enter Tryd.func18, Tryd.ntmps18
    go_wp2_with fail
    refine wp_region_noPanic ?_
    refine wp_region_held_drew (S := (fun w' => Below w.heap.size w w')) (by kernel_rfl) (Below.drew hb) (fun hHeld => ?_)
    refine wpAnyH_take (i := 0) (v := ?_) (by simp only [List.getElem?_toArray, List.getElem?_cons_zero]; rfl) (by kernel_rfl) (by kernel_rfl) (by kernel_rfl) (fun _ _ _ h => h) (Or.inl ⟨by rfl, ?_⟩) (by assumption) ?_
    rotate_left
    · (intro w hSw; (try dsimp only at hSw); go_simp; try with_reducible rfl)
    try simp only [Act.put, List.setIfInBounds_toArray, List.set_cons_zero, List.set_cons_succ]
    refine wpAnyH_take (i := 2) (v := ?_) (by simp only [List.getElem?_toArray, List.getElem?_cons_succ, List.getElem?_cons_zero]; rfl) (by kernel_rfl) (by kernel_rfl) (by kernel_rfl) (fun _ _ _ h => h) (Or.inl ⟨by rfl, ?_⟩) (by assumption) ?_
    rotate_left
    · (intro w hSw; (try dsimp only at hSw); go_simp; try with_reducible rfl)
    try simp only [Act.put, List.setIfInBounds_toArray, List.set_cons_zero, List.set_cons_succ]
    refine wpAnyH_take (i := 3) (v := ?_) (by simp only [List.getElem?_toArray, List.getElem?_cons_succ, List.getElem?_cons_zero]; rfl) (by kernel_rfl) (by kernel_rfl) (by kernel_rfl) (fun _ _ _ h => h) (Or.inl ⟨by rfl, ?_⟩) (by assumption) ?_
    rotate_left
    · (intro w hSw; (try dsimp only at hSw); go_simp; try with_reducible rfl)
    try simp only [Act.put, List.setIfInBounds_toArray, List.set_cons_zero, List.set_cons_succ]
    refine wpAnyH_ready (rs := [1]) (by kernel_rfl) (by simp) ?_
    refine AllReadyH.cons (by simp only [List.getElem?_toArray, List.getElem?_cons_succ, List.getElem?_cons_zero]; rfl) (fun K hK => ?_) AllReadyH.nil
    go_simp
    go_at_call 28
    refine (C1.out _).mono ?_
    rintro e v5 ⟨rfl, k5⟩
    go_wp2_with fail
    refine hK.out _ _ (bstep hHeld k5) (fun hHeld => ?_)
    clear hK K k5
    try simp only [Act.put, List.setIfInBounds_toArray, List.set_cons_zero, List.set_cons_succ]
    refine wpAnyH_take (i := 4) (v := ?_) (by simp only [List.getElem?_toArray, List.getElem?_cons_succ, List.getElem?_cons_zero]; rfl) (by kernel_rfl) (by kernel_rfl) (by kernel_rfl) (fun _ _ _ h => h) (Or.inl ⟨by rfl, ?_⟩) (by assumption) ?_
    rotate_left
    · (intro w hSw; (try dsimp only at hSw); go_simp; try with_reducible rfl)
    try simp only [Act.put, List.setIfInBounds_toArray, List.set_cons_zero, List.set_cons_succ]
    refine wpAnyH_take (i := 5) (v := ?_) (by simp only [List.getElem?_toArray, List.getElem?_cons_succ, List.getElem?_cons_zero]; rfl) (by kernel_rfl) (by kernel_rfl) (by kernel_rfl) (fun _ _ _ h => h) (Or.inl ⟨by rfl, ?_⟩) (by assumption) ?_
    rotate_left
    · (intro w hSw; (try dsimp only at hSw); go_simp; try with_reducible rfl)
    try simp only [Act.put, List.setIfInBounds_toArray, List.set_cons_zero, List.set_cons_succ]
    refine wpAnyH_done (by kernel_rfl) ?_ _
    refine NoPanic.normal ?_
    clear hb
    have hb := hHeld
    clear hHeld
    go_wp2
    go_ret3
    exact ⟨by rw [HV.out]; rfl, hb⟩
  have d4 : decide ((n : Int) > (k : Int)) = false := decide_eq_false (by omega)
  have d5 : decide ((k : Int) < (n : Int)) = false := decide_eq_false (by omega)
  obtain ⟨t, htx⟩ : ∃ t, t = b.take n := ⟨_, rfl⟩
  obtain ⟨r, hrx⟩ : ∃ r, r = b.drop n := ⟨_, rfl⟩
  obtain ⟨u, hu⟩ : ∃ u, u = s.drop 4 := ⟨_, rfl⟩
  obtain ⟨h, hh⟩ : ∃ h, h = s.take 4 := ⟨_, rfl⟩
  obtain ⟨x, hx⟩ : ∃ x, x = num4 u := ⟨_, rfl⟩
  obtain ⟨y, hy⟩ : ∃ y, y = Crc.onN 0 (h ++ t) := ⟨_, rfl⟩
  have x1 : (({ data := b.toArray } : ByteArray)).extract 0 n = { data := t.toArray } := by rw [htx]; exact take_str b n
  have x2 : (({ data := b.toArray } : ByteArray)).extract n k = { data := r.toArray } := by rw [hrx, hk]; exact drop_str b n
  have x3 : (({ data := s.toArray } : ByteArray)).extract 4 m = { data := u.toArray } := by rw [hu, hm]; exact drop_str s 4
  have x4 : (({ data := s.toArray } : ByteArray)).extract 0 4 = { data := h.toArray } := by rw [hh]; exact take_str s 4
  have hn0 : (0 : Int) ≤ (n : Int) := by omega
  have hnk : (n : Int) ≤ (k : Int) := by omega
  have hnkn : n ≤ k := by omega
  have k4 : (4 : Int) ≤ (m : Int) := by omega
  have k4n : 4 ≤ m := by omega
  have C2 : Hid (∀ w, Calls Tryd.prog 28 #[.string ⟨u.toArray⟩] w fun e w' => e = .returned (.int .u32 (x : Nat)) ∧ Below w.heap.size w w') := Lib.hid (fun w => by rw [hx]; exact number_any u w (by rw [hu, List.length_drop]; omega) (by rw [hu, List.length_drop]; omega))
  have C3 : Hid (∀ w, Crc.Tab w → Calls Tryd.prog 29 #[.string ⟨h.toArray⟩, .string ⟨t.toArray⟩] w fun e w' => e = .returned (.int .u32 (y : Nat)) ∧ w = w') := Lib.hid (fun w ht => by rw [hy]; exact sum_any h t w (by rw [hh, List.length_take]; omega) (by rw [htx, List.length_take]; omega) ht)
  have hTab := Lib.hid ht
  clear ht
  by_cases h4 : x = y
  · have d6 : ((x : Int) != (y : Int)) = false := by rw [bne_eq_false_iff_eq]; omega
    have HV : Hid (cutL s = (t, r, 0)) := Lib.hid (by unfold cutL; rw [← hm, if_neg h1, ← hn, if_neg h2, if_neg (by omega), ← hu, ← hx, ← hbs, ← htx, ← hh, ← hy, if_neg (by simp [h4]), ← hrx])
    clear hn hm hbs hk hbl htx hrx hu hh hx hy h4
    go_enter Tryd.func18, Tryd.ntmps18
    go_wp2_with fail
    refine wp_region_noPanic ?_
    refine wp_region_held_drew (S := (fun w' => Below w.heap.size w w' ∧ Crc.Tab w')) (by kernel_rfl) (⟨Below.drew hb, (hTab.out).below (Below.drew (Below.refl _ _))⟩) (fun hHeld => ?_)
    refine wpAnyH_take (i := 0) (v := ?_) (by simp only [List.getElem?_toArray, List.getElem?_cons_zero]; rfl) (by kernel_rfl) (by kernel_rfl) (by kernel_rfl) (fun _ _ _ h => h) (Or.inl ⟨by rfl, ?_⟩) (by assumption) ?_
    rotate_left
    · (intro w hSw; (try dsimp only at hSw); go_simp; try with_reducible rfl)
    try simp only [Act.put, List.setIfInBounds_toArray, List.set_cons_zero, List.set_cons_succ]
    refine wpAnyH_take (i := 2) (v := ?_) (by simp only [List.getElem?_toArray, List.getElem?_cons_succ, List.getElem?_cons_zero]; rfl) (by kernel_rfl) (by kernel_rfl) (by kernel_rfl) (fun _ _ _ h => h) (Or.inl ⟨by rfl, ?_⟩) (by assumption) ?_
    rotate_left
    · (intro w hSw; (try dsimp only at hSw); go_simp; try with_reducible rfl)
    try simp only [Act.put, List.setIfInBounds_toArray, List.set_cons_zero, List.set_cons_succ]
    refine wpAnyH_take (i := 3) (v := ?_) (by simp only [List.getElem?_toArray, List.getElem?_cons_succ, List.getElem?_cons_zero]; rfl) (by kernel_rfl) (by kernel_rfl) (by kernel_rfl) (fun _ _ _ h => h) (Or.inl ⟨by rfl, ?_⟩) (by assumption) ?_
    rotate_left
    · (intro w hSw; (try dsimp only at hSw); go_simp; try with_reducible rfl)
    try simp only [Act.put, List.setIfInBounds_toArray, List.set_cons_zero, List.set_cons_succ]
    refine wpAnyH_ready (rs := [1]) (by kernel_rfl) (by simp) ?_
    refine AllReadyH.cons (by simp only [List.getElem?_toArray, List.getElem?_cons_succ, List.getElem?_cons_zero]; rfl) (fun K hK => ?_) AllReadyH.nil
    go_simp
    go_at_call 28
    refine (C1.out _).mono ?_
    rintro e v6 ⟨rfl, k6⟩
    go_wp2_with fail
    refine hK.out _ _ (⟨bstep hHeld.1 k6, (hHeld.2).below k6⟩) (fun hHeld => ?_)
    clear hK K k6
    try simp only [Act.put, List.setIfInBounds_toArray, List.set_cons_zero, List.set_cons_succ]
    refine wpAnyH_take (i := 4) (v := ?_) (by simp only [List.getElem?_toArray, List.getElem?_cons_succ, List.getElem?_cons_zero]; rfl) (by kernel_rfl) (by kernel_rfl) (by kernel_rfl) (fun _ _ _ h => h) (Or.inl ⟨by rfl, ?_⟩) (by assumption) ?_
    rotate_left
    · (intro w hSw; (try dsimp only at hSw); go_simp; try with_reducible rfl)
    try simp only [Act.put, List.setIfInBounds_toArray, List.set_cons_zero, List.set_cons_succ]
    refine wpAnyH_take (i := 5) (v := ?_) (by simp only [List.getElem?_toArray, List.getElem?_cons_succ, List.getElem?_cons_zero]; rfl) (by kernel_rfl) (by kernel_rfl) (by kernel_rfl) (fun _ _ _ h => h) (Or.inl ⟨by rfl, ?_⟩) (by assumption) ?_
    rotate_left
    · (intro w hSw; (try dsimp only at hSw); go_simp; try with_reducible rfl)
    try simp only [Act.put, List.setIfInBounds_toArray, List.set_cons_zero, List.set_cons_succ]
    refine wpAnyH_done (by kernel_rfl) ?_ _
    refine NoPanic.normal ?_
    clear hb hTab
    obtain ⟨hb, hTab⟩ := hHeld
    replace hTab := Lib.hid hTab
    go_wp2_with fail
    refine wp_region_noPanic ?_
    refine wp_region_held_drew (S := (fun w' => Below w.heap.size w w' ∧ Crc.Tab w')) (by kernel_rfl) (⟨Below.drew hb, (hTab.out).below (Below.drew (Below.refl _ _))⟩) (fun hHeld => ?_)
    refine wpAnyH_take (i := 0) (v := ?_) (by simp only [List.getElem?_toArray, List.getElem?_cons_zero]; rfl) (by kernel_rfl) (by kernel_rfl) (by kernel_rfl) (fun _ _ _ h => h) (Or.inl ⟨by rfl, ?_⟩) (by assumption) ?_
    rotate_left
    · (intro w hSw; (try dsimp only at hSw); go_simp; try with_reducible rfl)
    try simp only [Act.put, List.setIfInBounds_toArray, List.set_cons_zero, List.set_cons_succ]
    refine wpAnyH_take (i := 1) (v := ?_) (by simp only [List.getElem?_toArray, List.getElem?_cons_succ, List.getElem?_cons_zero]; rfl) (by kernel_rfl) (by kernel_rfl) (by kernel_rfl) (fun _ _ _ h => h) (Or.inl ⟨by rfl, ?_⟩) (by assumption) ?_
    rotate_left
    · (intro w hSw; (try dsimp only at hSw); go_simp; try with_reducible rfl)
    try simp only [Act.put, List.setIfInBounds_toArray, List.set_cons_zero, List.set_cons_succ]
    refine wpAnyH_take (i := 2) (v := ?_) (by simp only [List.getElem?_toArray, List.getElem?_cons_succ, List.getElem?_cons_zero]; rfl) (by kernel_rfl) (by kernel_rfl) (by kernel_rfl) (fun _ _ _ h => h) (Or.inl ⟨by rfl, ?_⟩) (by assumption) ?_
    rotate_left
    · (intro w hSw; (try dsimp only at hSw); go_simp; try with_reducible rfl)
    try simp only [Act.put, List.setIfInBounds_toArray, List.set_cons_zero, List.set_cons_succ]
    refine wpAnyH_take (i := 3) (v := ?_) (by simp only [List.getElem?_toArray, List.getElem?_cons_succ, List.getElem?_cons_zero]; rfl) (by kernel_rfl) (by kernel_rfl) (by kernel_rfl) (fun _ _ _ h => h) (Or.inl ⟨by rfl, ?_⟩) (by assumption) ?_
    rotate_left
    · (intro w hSw; (try dsimp only at hSw); go_simp; try with_reducible rfl)
    try simp only [Act.put, List.setIfInBounds_toArray, List.set_cons_zero, List.set_cons_succ]
    refine wpAnyH_take (i := 4) (v := ?_) (by simp only [List.getElem?_toArray, List.getElem?_cons_succ, List.getElem?_cons_zero]; rfl) (by kernel_rfl) (by kernel_rfl) (by kernel_rfl) (fun _ _ _ h => h) (Or.inl ⟨by rfl, ?_⟩) (by assumption) ?_
    rotate_left
    · (intro w hSw; (try dsimp only at hSw); go_simp; try with_reducible rfl)
    try simp only [Act.put, List.setIfInBounds_toArray, List.set_cons_zero, List.set_cons_succ]
    refine wpAnyH_take (i := 5) (v := ?_) (by simp only [List.getElem?_toArray, List.getElem?_cons_succ, List.getElem?_cons_zero]; rfl) (by kernel_rfl) (by kernel_rfl) (by kernel_rfl) (fun _ _ _ h => h) (Or.inl ⟨by rfl, ?_⟩) (by assumption) ?_
    rotate_left
    · (intro w hSw; (try dsimp only at hSw); go_simp; try with_reducible rfl)
    try simp only [Act.put, List.setIfInBounds_toArray, List.set_cons_zero, List.set_cons_succ]
    refine wpAnyH_take (i := 6) (v := ?_) (by simp only [List.getElem?_toArray, List.getElem?_cons_succ, List.getElem?_cons_zero]; rfl) (by kernel_rfl) (by kernel_rfl) (by kernel_rfl) (fun _ _ _ h => h) (Or.inl ⟨by rfl, ?_⟩) (by assumption) ?_
    rotate_left
    · (intro w hSw; (try dsimp only at hSw); go_simp; try with_reducible rfl)
    try simp only [Act.put, List.setIfInBounds_toArray, List.set_cons_zero, List.set_cons_succ]
    refine wpAnyH_take (i := 7) (v := ?_) (by simp only [List.getElem?_toArray, List.getElem?_cons_succ, List.getElem?_cons_zero]; rfl) (by kernel_rfl) (by kernel_rfl) (by kernel_rfl) (fun _ _ _ h => h) (Or.inl ⟨by rfl, ?_⟩) (by assumption) ?_
    rotate_left
    · (intro w hSw; (try dsimp only at hSw); go_simp; try with_reducible rfl)
    try simp only [Act.put, List.setIfInBounds_toArray, List.set_cons_zero, List.set_cons_succ]
    refine wpAnyH_done (by kernel_rfl) ?_ _
    refine NoPanic.normal ?_
    clear hb hTab
    obtain ⟨hb, hTab⟩ := hHeld
    replace hTab := Lib.hid hTab
    go_wp2_with fail
    refine wp_region_noPanic ?_
    refine wp_region_held_drew (S := (fun w' => Below w.heap.size w w' ∧ Crc.Tab w')) (by kernel_rfl) (⟨Below.drew hb, (hTab.out).below (Below.drew (Below.refl _ _))⟩) (fun hHeld => ?_)
    refine wpAnyH_take (i := 0) (v := ?_) (by simp only [List.getElem?_toArray, List.getElem?_cons_zero]; rfl) (by kernel_rfl) (by kernel_rfl) (by kernel_rfl) (fun _ _ _ h => h) (Or.inl ⟨by rfl, ?_⟩) (by assumption) ?_
    rotate_left
    · (intro w hSw; (try dsimp only at hSw); go_simp; try with_reducible rfl)
    try simp only [Act.put, List.setIfInBounds_toArray, List.set_cons_zero, List.set_cons_succ]
    refine wpAnyH_take (i := 1) (v := ?_) (by simp only [List.getElem?_toArray, List.getElem?_cons_succ, List.getElem?_cons_zero]; rfl) (by kernel_rfl) (by kernel_rfl) (by kernel_rfl) (fun _ _ _ h => h) (Or.inl ⟨by rfl, ?_⟩) (by assumption) ?_
    rotate_left
    · (intro w hSw; (try dsimp only at hSw); go_simp; try with_reducible rfl)
    try simp only [Act.put, List.setIfInBounds_toArray, List.set_cons_zero, List.set_cons_succ]
    refine wpAnyH_take (i := 3) (v := ?_) (by simp only [List.getElem?_toArray, List.getElem?_cons_succ, List.getElem?_cons_zero]; rfl) (by kernel_rfl) (by kernel_rfl) (by kernel_rfl) (fun _ _ _ h => h) (Or.inl ⟨by rfl, ?_⟩) (by assumption) ?_
    rotate_left
    · (intro w hSw; (try dsimp only at hSw); go_simp; try with_reducible rfl)
    try simp only [Act.put, List.setIfInBounds_toArray, List.set_cons_zero, List.set_cons_succ]
    refine wpAnyH_take (i := 4) (v := ?_) (by simp only [List.getElem?_toArray, List.getElem?_cons_succ, List.getElem?_cons_zero]; rfl) (by kernel_rfl) (by kernel_rfl) (by kernel_rfl) (fun _ _ _ h => h) (Or.inl ⟨by rfl, ?_⟩) (by assumption) ?_
    rotate_left
    · (intro w hSw; (try dsimp only at hSw); go_simp; try with_reducible rfl)
    try simp only [Act.put, List.setIfInBounds_toArray, List.set_cons_zero, List.set_cons_succ]
    refine wpAnyH_take (i := 5) (v := ?_) (by simp only [List.getElem?_toArray, List.getElem?_cons_succ, List.getElem?_cons_zero]; rfl) (by kernel_rfl) (by kernel_rfl) (by kernel_rfl) (fun _ _ _ h => h) (Or.inl ⟨by rfl, ?_⟩) (by assumption) ?_
    rotate_left
    · (intro w hSw; (try dsimp only at hSw); go_simp; try with_reducible rfl)
    try simp only [Act.put, List.setIfInBounds_toArray, List.set_cons_zero, List.set_cons_succ]
    refine wpAnyH_ready (rs := [2]) (by kernel_rfl) (by simp) ?_
    refine AllReadyH.cons (by simp only [List.getElem?_toArray, List.getElem?_cons_succ, List.getElem?_cons_zero]; rfl) (fun K hK => ?_) AllReadyH.nil
    go_simp
    go_at_call 28
    refine (C2.out _).mono ?_
    rintro e v7 ⟨rfl, k7⟩
    go_wp2_with fail
    refine hK.out _ _ (⟨bstep hHeld.1 k7, (hHeld.2).below k7⟩) (fun hHeld => ?_)
    clear hK K k7
    try simp only [Act.put, List.setIfInBounds_toArray, List.set_cons_zero, List.set_cons_succ]
    refine wpAnyH_ready (rs := [6]) (by kernel_rfl) (by simp) ?_
    refine AllReadyH.cons (by simp only [List.getElem?_toArray, List.getElem?_cons_succ, List.getElem?_cons_zero]; rfl) (fun K hK => ?_) AllReadyH.nil
    go_simp
    go_at_call 29
    refine (C3.out _ hHeld.2).mono ?_
    rintro e w8 ⟨rfl, rfl⟩
    go_wp2_with fail
    refine hK.out _ _ hHeld (fun hHeld => ?_)
    clear hK K
    try simp only [Act.put, List.setIfInBounds_toArray, List.set_cons_zero, List.set_cons_succ]
    refine wpAnyH_take (i := 7) (v := ?_) (by simp only [List.getElem?_toArray, List.getElem?_cons_succ, List.getElem?_cons_zero]; rfl) (by kernel_rfl) (by kernel_rfl) (by kernel_rfl) (fun _ _ _ h => h) (Or.inl ⟨by rfl, ?_⟩) (by assumption) ?_
    rotate_left
    · (intro w hSw; (try dsimp only at hSw); go_simp; try with_reducible rfl)
    try simp only [Act.put, List.setIfInBounds_toArray, List.set_cons_zero, List.set_cons_succ]
    refine wpAnyH_done (by kernel_rfl) ?_ _
    refine NoPanic.normal ?_
    clear hb hTab
    obtain ⟨hb, hTab⟩ := hHeld
    replace hTab := Lib.hid hTab
    go_wp2
    go_ret3
    exact ⟨by rw [HV.out]; rfl, hb⟩
  · have d6 : ((x : Int) != (y : Int)) = true := by rw [bne_iff_ne]; omega
    have HV : Hid (cutL s = ([], [], 60)) := Lib.hid (by unfold cutL; rw [← hm, if_neg h1, ← hn, if_neg h2, if_neg (by omega), ← hu, ← hx, ← hbs, ← htx, ← hh, ← hy, if_pos h4])
    clear hn hm hbs hk hbl htx hrx hu hh hx hy h4
    go_enter Tryd.func18, Tryd.ntmps18
    go_wp2_with fail
    refine wp_region_noPanic ?_
    refine wp_region_held_drew (S := (fun w' => Below w.heap.size w w' ∧ Crc.Tab w')) (by kernel_rfl) (⟨Below.drew hb, (hTab.out).below (Below.drew (Below.refl _ _))⟩) (fun hHeld => ?_)
    refine wpAnyH_take (i := 0) (v := ?_) (by simp only [List.getElem?_toArray, List.getElem?_cons_zero]; rfl) (by kernel_rfl) (by kernel_rfl) (by kernel_rfl) (fun _ _ _ h => h) (Or.inl ⟨by rfl, ?_⟩) (by assumption) ?_
    rotate_left
    · (intro w hSw; (try dsimp only at hSw); go_simp; try with_reducible rfl)
    try simp only [Act.put, List.setIfInBounds_toArray, List.set_cons_zero, List.set_cons_succ]
    refine wpAnyH_take (i := 2) (v := ?_) (by simp only [List.getElem?_toArray, List.getElem?_cons_succ, List.getElem?_cons_zero]; rfl) (by kernel_rfl) (by kernel_rfl) (by kernel_rfl) (fun _ _ _ h => h) (Or.inl ⟨by rfl, ?_⟩) (by assumption) ?_
    rotate_left
    · (intro w hSw; (try dsimp only at hSw); go_simp; try with_reducible rfl)
    try simp only [Act.put, List.setIfInBounds_toArray, List.set_cons_zero, List.set_cons_succ]
    refine wpAnyH_take (i := 3) (v := ?_) (by simp only [List.getElem?_toArray, List.getElem?_cons_succ, List.getElem?_cons_zero]; rfl) (by kernel_rfl) (by kernel_rfl) (by kernel_rfl) (fun _ _ _ h => h) (Or.inl ⟨by rfl, ?_⟩) (by assumption) ?_
    rotate_left
    · (intro w hSw; (try dsimp only at hSw); go_simp; try with_reducible rfl)
    try simp only [Act.put, List.setIfInBounds_toArray, List.set_cons_zero, List.set_cons_succ]
    refine wpAnyH_ready (rs := [1]) (by kernel_rfl) (by simp) ?_
    refine AllReadyH.cons (by simp only [List.getElem?_toArray, List.getElem?_cons_succ, List.getElem?_cons_zero]; rfl) (fun K hK => ?_) AllReadyH.nil
    go_simp
    go_at_call 28
    refine (C1.out _).mono ?_
    rintro e v9 ⟨rfl, k9⟩
    go_wp2_with fail
    refine hK.out _ _ (⟨bstep hHeld.1 k9, (hHeld.2).below k9⟩) (fun hHeld => ?_)
    clear hK K k9
    try simp only [Act.put, List.setIfInBounds_toArray, List.set_cons_zero, List.set_cons_succ]
    refine wpAnyH_take (i := 4) (v := ?_) (by simp only [List.getElem?_toArray, List.getElem?_cons_succ, List.getElem?_cons_zero]; rfl) (by kernel_rfl) (by kernel_rfl) (by kernel_rfl) (fun _ _ _ h => h) (Or.inl ⟨by rfl, ?_⟩) (by assumption) ?_
    rotate_left
    · (intro w hSw; (try dsimp only at hSw); go_simp; try with_reducible rfl)
    try simp only [Act.put, List.setIfInBounds_toArray, List.set_cons_zero, List.set_cons_succ]
    refine wpAnyH_take (i := 5) (v := ?_) (by simp only [List.getElem?_toArray, List.getElem?_cons_succ, List.getElem?_cons_zero]; rfl) (by kernel_rfl) (by kernel_rfl) (by kernel_rfl) (fun _ _ _ h => h) (Or.inl ⟨by rfl, ?_⟩) (by assumption) ?_
    rotate_left
    · (intro w hSw; (try dsimp only at hSw); go_simp; try with_reducible rfl)
    try simp only [Act.put, List.setIfInBounds_toArray, List.set_cons_zero, List.set_cons_succ]
    refine wpAnyH_done (by kernel_rfl) ?_ _
    refine NoPanic.normal ?_
    clear hb hTab
    obtain ⟨hb, hTab⟩ := hHeld
    replace hTab := Lib.hid hTab
    go_wp2_with fail
    refine wp_region_noPanic ?_
    refine wp_region_held_drew (S := (fun w' => Below w.heap.size w w' ∧ Crc.Tab w')) (by kernel_rfl) (⟨Below.drew hb, (hTab.out).below (Below.drew (Below.refl _ _))⟩) (fun hHeld => ?_)
    refine wpAnyH_take (i := 0) (v := ?_) (by simp only [List.getElem?_toArray, List.getElem?_cons_zero]; rfl) (by kernel_rfl) (by kernel_rfl) (by kernel_rfl) (fun _ _ _ h => h) (Or.inl ⟨by rfl, ?_⟩) (by assumption) ?_
    rotate_left
    · (intro w hSw; (try dsimp only at hSw); go_simp; try with_reducible rfl)
    try simp only [Act.put, List.setIfInBounds_toArray, List.set_cons_zero, List.set_cons_succ]
    refine wpAnyH_take (i := 1) (v := ?_) (by simp only [List.getElem?_toArray, List.getElem?_cons_succ, List.getElem?_cons_zero]; rfl) (by kernel_rfl) (by kernel_rfl) (by kernel_rfl) (fun _ _ _ h => h) (Or.inl ⟨by rfl, ?_⟩) (by assumption) ?_
    rotate_left
    · (intro w hSw; (try dsimp only at hSw); go_simp; try with_reducible rfl)
    try simp only [Act.put, List.setIfInBounds_toArray, List.set_cons_zero, List.set_cons_succ]
    refine wpAnyH_take (i := 2) (v := ?_) (by simp only [List.getElem?_toArray, List.getElem?_cons_succ, List.getElem?_cons_zero]; rfl) (by kernel_rfl) (by kernel_rfl) (by kernel_rfl) (fun _ _ _ h => h) (Or.inl ⟨by rfl, ?_⟩) (by assumption) ?_
    rotate_left
    · (intro w hSw; (try dsimp only at hSw); go_simp; try with_reducible rfl)
    try simp only [Act.put, List.setIfInBounds_toArray, List.set_cons_zero, List.set_cons_succ]
    refine wpAnyH_take (i := 3) (v := ?_) (by simp only [List.getElem?_toArray, List.getElem?_cons_succ, List.getElem?_cons_zero]; rfl) (by kernel_rfl) (by kernel_rfl) (by kernel_rfl) (fun _ _ _ h => h) (Or.inl ⟨by rfl, ?_⟩) (by assumption) ?_
    rotate_left
    · (intro w hSw; (try dsimp only at hSw); go_simp; try with_reducible rfl)
    try simp only [Act.put, List.setIfInBounds_toArray, List.set_cons_zero, List.set_cons_succ]
    refine wpAnyH_take (i := 4) (v := ?_) (by simp only [List.getElem?_toArray, List.getElem?_cons_succ, List.getElem?_cons_zero]; rfl) (by kernel_rfl) (by kernel_rfl) (by kernel_rfl) (fun _ _ _ h => h) (Or.inl ⟨by rfl, ?_⟩) (by assumption) ?_
    rotate_left
    · (intro w hSw; (try dsimp only at hSw); go_simp; try with_reducible rfl)
    try simp only [Act.put, List.setIfInBounds_toArray, List.set_cons_zero, List.set_cons_succ]
    refine wpAnyH_take (i := 5) (v := ?_) (by simp only [List.getElem?_toArray, List.getElem?_cons_succ, List.getElem?_cons_zero]; rfl) (by kernel_rfl) (by kernel_rfl) (by kernel_rfl) (fun _ _ _ h => h) (Or.inl ⟨by rfl, ?_⟩) (by assumption) ?_
    rotate_left
    · (intro w hSw; (try dsimp only at hSw); go_simp; try with_reducible rfl)
    try simp only [Act.put, List.setIfInBounds_toArray, List.set_cons_zero, List.set_cons_succ]
    refine wpAnyH_take (i := 6) (v := ?_) (by simp only [List.getElem?_toArray, List.getElem?_cons_succ, List.getElem?_cons_zero]; rfl) (by kernel_rfl) (by kernel_rfl) (by kernel_rfl) (fun _ _ _ h => h) (Or.inl ⟨by rfl, ?_⟩) (by assumption) ?_
    rotate_left
    · (intro w hSw; (try dsimp only at hSw); go_simp; try with_reducible rfl)
    try simp only [Act.put, List.setIfInBounds_toArray, List.set_cons_zero, List.set_cons_succ]
    refine wpAnyH_take (i := 7) (v := ?_) (by simp only [List.getElem?_toArray, List.getElem?_cons_succ, List.getElem?_cons_zero]; rfl) (by kernel_rfl) (by kernel_rfl) (by kernel_rfl) (fun _ _ _ h => h) (Or.inl ⟨by rfl, ?_⟩) (by assumption) ?_
    rotate_left
    · (intro w hSw; (try dsimp only at hSw); go_simp; try with_reducible rfl)
    try simp only [Act.put, List.setIfInBounds_toArray, List.set_cons_zero, List.set_cons_succ]
    refine wpAnyH_done (by kernel_rfl) ?_ _
    refine NoPanic.normal ?_
    clear hb hTab
    obtain ⟨hb, hTab⟩ := hHeld
    replace hTab := Lib.hid hTab
    go_wp2_with fail
    refine wp_region_noPanic ?_
    refine wp_region_held_drew (S := (fun w' => Below w.heap.size w w' ∧ Crc.Tab w')) (by kernel_rfl) (⟨Below.drew hb, (hTab.out).below (Below.drew (Below.refl _ _))⟩) (fun hHeld => ?_)
    refine wpAnyH_take (i := 0) (v := ?_) (by simp only [List.getElem?_toArray, List.getElem?_cons_zero]; rfl) (by kernel_rfl) (by kernel_rfl) (by kernel_rfl) (fun _ _ _ h => h) (Or.inl ⟨by rfl, ?_⟩) (by assumption) ?_
    rotate_left
    · (intro w hSw; (try dsimp only at hSw); go_simp; try with_reducible rfl)
    try simp only [Act.put, List.setIfInBounds_toArray, List.set_cons_zero, List.set_cons_succ]
    refine wpAnyH_take (i := 1) (v := ?_) (by simp only [List.getElem?_toArray, List.getElem?_cons_succ, List.getElem?_cons_zero]; rfl) (by kernel_rfl) (by kernel_rfl) (by kernel_rfl) (fun _ _ _ h => h) (Or.inl ⟨by rfl, ?_⟩) (by assumption) ?_
    rotate_left
    · (intro w hSw; (try dsimp only at hSw); go_simp; try with_reducible rfl)
    try simp only [Act.put, List.setIfInBounds_toArray, List.set_cons_zero, List.set_cons_succ]
    refine wpAnyH_take (i := 3) (v := ?_) (by simp only [List.getElem?_toArray, List.getElem?_cons_succ, List.getElem?_cons_zero]; rfl) (by kernel_rfl) (by kernel_rfl) (by kernel_rfl) (fun _ _ _ h => h) (Or.inl ⟨by rfl, ?_⟩) (by assumption) ?_
    rotate_left
    · (intro w hSw; (try dsimp only at hSw); go_simp; try with_reducible rfl)
    try simp only [Act.put, List.setIfInBounds_toArray, List.set_cons_zero, List.set_cons_succ]
    refine wpAnyH_take (i := 4) (v := ?_) (by simp only [List.getElem?_toArray, List.getElem?_cons_succ, List.getElem?_cons_zero]; rfl) (by kernel_rfl) (by kernel_rfl) (by kernel_rfl) (fun _ _ _ h => h) (Or.inl ⟨by rfl, ?_⟩) (by assumption) ?_
    rotate_left
    · (intro w hSw; (try dsimp only at hSw); go_simp; try with_reducible rfl)
    try simp only [Act.put, List.setIfInBounds_toArray, List.set_cons_zero, List.set_cons_succ]
    refine wpAnyH_take (i := 5) (v := ?_) (by simp only [List.getElem?_toArray, List.getElem?_cons_succ, List.getElem?_cons_zero]; rfl) (by kernel_rfl) (by kernel_rfl) (by kernel_rfl) (fun _ _ _ h => h) (Or.inl ⟨by rfl, ?_⟩) (by assumption) ?_
    rotate_left
    · (intro w hSw; (try dsimp only at hSw); go_simp; try with_reducible rfl)
    try simp only [Act.put, List.setIfInBounds_toArray, List.set_cons_zero, List.set_cons_succ]
    refine wpAnyH_ready (rs := [2]) (by kernel_rfl) (by simp) ?_
    refine AllReadyH.cons (by simp only [List.getElem?_toArray, List.getElem?_cons_succ, List.getElem?_cons_zero]; rfl) (fun K hK => ?_) AllReadyH.nil
    go_simp
    go_at_call 28
    refine (C2.out _).mono ?_
    rintro e v10 ⟨rfl, k10⟩
    go_wp2_with fail
    refine hK.out _ _ (⟨bstep hHeld.1 k10, (hHeld.2).below k10⟩) (fun hHeld => ?_)
    clear hK K k10
    try simp only [Act.put, List.setIfInBounds_toArray, List.set_cons_zero, List.set_cons_succ]
    refine wpAnyH_ready (rs := [6]) (by kernel_rfl) (by simp) ?_
    refine AllReadyH.cons (by simp only [List.getElem?_toArray, List.getElem?_cons_succ, List.getElem?_cons_zero]; rfl) (fun K hK => ?_) AllReadyH.nil
    go_simp
    go_at_call 29
    refine (C3.out _ hHeld.2).mono ?_
    rintro e w11 ⟨rfl, rfl⟩
    go_wp2_with fail
    refine hK.out _ _ hHeld (fun hHeld => ?_)
    clear hK K
    try simp only [Act.put, List.setIfInBounds_toArray, List.set_cons_zero, List.set_cons_succ]
    refine wpAnyH_take (i := 7) (v := ?_) (by simp only [List.getElem?_toArray, List.getElem?_cons_succ, List.getElem?_cons_zero]; rfl) (by kernel_rfl) (by kernel_rfl) (by kernel_rfl) (fun _ _ _ h => h) (Or.inl ⟨by rfl, ?_⟩) (by assumption) ?_
    rotate_left
    · (intro w hSw; (try dsimp only at hSw); go_simp; try with_reducible rfl)
    try simp only [Act.put, List.setIfInBounds_toArray, List.set_cons_zero, List.set_cons_succ]
    refine wpAnyH_done (by kernel_rfl) ?_ _
    refine NoPanic.normal ?_
    clear hb hTab
    obtain ⟨hb, hTab⟩ := hHeld
    replace hTab := Lib.hid hTab
    go_wp2
    go_ret3
    exact ⟨by rw [HV.out]; rfl, hb⟩
end Frame
namespace RefFrame
open Go.RowKit Go.Proofs.YtcfimfoccbaepaaDoor.Frame
set_option maxRecDepth 100000 in
theorem put_any (t : List UInt8) (w : World) (hl : t.length ≤ 1048576) :
    Calls Tryd.prog 25 #[.string ⟨t.toArray⟩] w fun e w' => e = .returned (.string ⟨(putL t).toArray⟩) ∧ Below w.heap.size w w' := by
  have hb := Below.refl w.heap.size w
  have hsz := Str.size_mk t
  have wl : IntKind.u32.wrap (t.length : Int) = (t.length : Int) := by rw [IntKind.wrap_u32]; omega
  obtain ⟨n, hn⟩ : ∃ n, n = t.length := ⟨_, rfl⟩
  obtain ⟨q, hq⟩ : ∃ q, q = fourL n := ⟨_, rfl⟩
  obtain ⟨c, hc⟩ : ∃ c, c = Crc.onN 0 (q ++ t) := ⟨_, rfl⟩
  obtain ⟨q2, hq2⟩ : ∃ q, q = fourL c := ⟨_, rfl⟩
  have hp : putL t = q ++ (q2 ++ t) := by unfold putL; rw [← hn, ← hq, ← hc, ← hq2]
  have HP := Lib.hid hp
  have C1 : Hid (∀ w, Calls Tryd.prog 39 #[.int .u32 (n : Nat)] w fun e w' => e = .returned (.string ⟨q.toArray⟩) ∧ Below w.heap.size w w') := Lib.hid (fun w => by rw [hq]; exact four_any n w (by omega))
  have C2 : Hid (∀ w, Calls Tryd.prog 40 #[.string ⟨(q ++ t).toArray⟩] w fun e w' => e = .returned (.int .u32 (c : Nat)) ∧ w = w') := Lib.hid (fun w => by rw [hc]; exact RefCrc.of_any (q ++ t) w (by rw [List.length_append, hq, fourL_length]; omega))
  have C3 : Hid (∀ w, Calls Tryd.prog 39 #[.int .u32 (c : Nat)] w fun e w' => e = .returned (.string ⟨q2.toArray⟩) ∧ Below w.heap.size w w') := Lib.hid (fun w => by rw [hq2]; exact four_any c w (by rw [hc]; exact Crc.onN_lt _ _))
  have s1 := Str.size_mk q
  have s2 := Str.size_mk q2
  have hql : q.length = 4 := by rw [hq]; rfl
  have hql2 : q2.length = 4 := by rw [hq2]; rfl
  have a0 := Str.mk_append_mk q t
  have a1 := Str.mk_append_mk q q2
  have a2 := Str.mk_append_mk (q ++ q2) t
  have s3 := Str.size_mk (q ++ q2)
  rw [List.length_append, hql, hql2] at s3
  have c1 : ¬ (9223372036854775807 < 8 + n) := by omega
  have c2 : ¬ (8 + n > 9223372036854775807) := by omega
  have c3 : ¬ (9223372036854775807 < 4 + n) := by omega
  have c4 : ¬ (4 + n > 9223372036854775807) := by omega
  rw [← hn] at wl hsz
  clear hn hq hc hq2 hp
  go_enter Tryd.func25, Tryd.ntmps25
  go_wp2_with fail
  refine (C1.out _).mono ?_
  rintro e v12 ⟨rfl, k12⟩
  replace hb := bstep hb k12
  clear k12
  go_wp2_with fail
  refine (C2.out _).mono ?_
  rintro e w13 ⟨rfl, rfl⟩
  go_wp2_with fail
  refine (C3.out _).mono ?_
  rintro e v14 ⟨rfl, k14⟩
  replace hb := bstep hb k14
  clear k14
  go_wp2
  go_ret
  exact ⟨by rw [HP.out, ← List.append_assoc]; rfl, hb⟩

end RefFrame
end Go.Proofs.YtcfimfoccbaepaaDoor
