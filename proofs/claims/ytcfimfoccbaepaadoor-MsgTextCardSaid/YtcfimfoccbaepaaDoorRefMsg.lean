/- the reference's pieces of a message. -/
import Derived.Test.YtcfimfoccbaepaaDoorMsgUse
import Derived.Test.YtcfimfoccbaepaaDoorNumRef
import Derived.Deep.DeepCutAuto
namespace Go.Proofs.YtcfimfoccbaepaaDoor
namespace RefMsg
open Go.RowKit Go.Proofs.YtcfimfoccbaepaaDoor.Mark Go.Proofs.YtcfimfoccbaepaaDoor.Num Go.Proofs.YtcfimfoccbaepaaDoor.Wire Go.Proofs.YtcfimfoccbaepaaDoor.Msg

set_option maxRecDepth 100000 in
theorem part_any (id : Nat) (i n : Int) (tx : List UInt8) (w : World) (ht : tx.length ≤ 1099511627776) :
    Calls Tryd.prog 35 #[.agg #[.int .u64 (id : Int), .int .i64 i, .int .i64 n, .string ⟨tx.toArray⟩]] w fun e w' => e = .returned (.bool (mayPartB i n tx)) ∧ Below w.heap.size w w' := by
  have hb := Below.refl w.heap.size w
  have hsz := Str.size_mk tx
  by_cases h0 : 1 ≤ n
  rotate_left
  · have d0 : decide (1 ≤ n) = false := decide_eq_false h0
    have d0b : decide (n ≥ 1) = false := decide_eq_false h0
    have HV : Hid (mayPartB i n tx = false) := Lib.hid (by unfold mayPartB; rw [d0]; simp)
    go_enter Tryd.func35, Tryd.ntmps35
    go_wp2
    go_ret
    exact ⟨by rw [HV.out]; rfl, balloc hb _⟩
  have d0 : decide (1 ≤ n) = true := decide_eq_true h0
  have d0b : decide (n ≥ 1) = true := decide_eq_true h0
  by_cases h1 : n ≤ 256
  rotate_left
  · have d1 : decide (n ≤ 256) = false := decide_eq_false h1
    have HV : Hid (mayPartB i n tx = false) := Lib.hid (by unfold mayPartB; rw [d1]; simp)
    go_enter Tryd.func35, Tryd.ntmps35
    go_wp2
    go_ret
    exact ⟨by rw [HV.out]; rfl, balloc hb _⟩
  have d1 : decide (n ≤ 256) = true := decide_eq_true h1
  by_cases h2 : 0 ≤ i
  rotate_left
  · have d2 : decide (0 ≤ i) = false := decide_eq_false h2
    have d2b : decide (i ≥ 0) = false := decide_eq_false h2
    have HV : Hid (mayPartB i n tx = false) := Lib.hid (by unfold mayPartB; rw [d2]; simp)
    go_enter Tryd.func35, Tryd.ntmps35
    go_wp2
    go_ret
    exact ⟨by rw [HV.out]; rfl, balloc hb _⟩
  have d2 : decide (0 ≤ i) = true := decide_eq_true h2
  have d2b : decide (i ≥ 0) = true := decide_eq_true h2
  by_cases h3 : i < n
  rotate_left
  · have d3 : decide (i < n) = false := decide_eq_false h3
    have HV : Hid (mayPartB i n tx = false) := Lib.hid (by unfold mayPartB; rw [d3]; simp)
    go_enter Tryd.func35, Tryd.ntmps35
    go_wp2
    go_ret
    exact ⟨by rw [HV.out]; rfl, balloc hb _⟩
  have d3 : decide (i < n) = true := decide_eq_true h3
  by_cases h4 : (tx.length : Int) ≤ 4096
  rotate_left
  · have d4 : decide ((tx.length : Int) ≤ 4096) = false := decide_eq_false h4
    have HV : Hid (mayPartB i n tx = false) := Lib.hid (by unfold mayPartB; rw [decide_eq_false (show ¬ tx.length ≤ 4096 by omega)]; simp)
    go_enter Tryd.func35, Tryd.ntmps35
    go_wp2
    go_ret
    exact ⟨by rw [HV.out]; rfl, balloc hb _⟩
  have d4 : decide ((tx.length : Int) ≤ 4096) = true := decide_eq_true h4
  have HV : Hid (mayPartB i n tx = true) := Lib.hid (by unfold mayPartB; rw [d0, d1, d2, d3, decide_eq_true (show tx.length ≤ 4096 by omega)]; rfl)
  go_enter Tryd.func35, Tryd.ntmps35
  go_wp2
  go_ret
  exact ⟨by rw [HV.out]; rfl, balloc hb _⟩

theorem path_any (p : List UInt8) (w : World) (hp : p.length ≤ 1099511627776) :
    Calls Tryd.prog 21 #[.string ⟨p.toArray⟩] w fun e w' => e = .returned (.bool (pathB p)) ∧ Below w.heap.size w w' := by
  have hb := Below.refl w.heap.size w
  have e : decide (Path.parse p ≠ []) = pathB p := by
    unfold pathB
    cases h : Path.parse p with
    | nil => rfl
    | cons a l => simp
  have C := Lib.hid (fun W => RefPath.may_any p W hp)
  rw [e] at C
  go_enter Tryd.func21, Tryd.ntmps21
  go_wp2_with fail
  refine (C.out _).mono ?_
  rintro e v1 ⟨rfl, k1⟩
  replace hb := bstep hb k1
  go_wp2
  go_ret
  exact ⟨rfl, hb⟩
theorem num_any (n : Nat) (w : World) (hn : n ≤ 18446744073709551615) :
    Calls Tryd.prog 31 #[.int .u64 (n : Int)] w fun e w' => e = .returned (.string ⟨(upL n).toArray⟩) ∧ Below w.heap.size w w' := by
  have hb := Below.refl w.heap.size w
  go_enter Tryd.func31, Tryd.ntmps31
  go_wp2_with fail
  refine (refup_any n _ hn).mono ?_
  rintro e v1 ⟨rfl, k1⟩
  replace hb := bstep hb k1
  go_wp2
  go_ret
  exact ⟨rfl, hb⟩
theorem num_is {n : Nat} (r : List UInt8) (h : upL n = r) (hn : n ≤ 18446744073709551615) (w : World) :
    Calls Tryd.prog 31 #[.int .u64 (n : Int)] w fun e w' => e = .returned (.string ⟨r.toArray⟩) ∧ Below w.heap.size w w' := by rw [← h]; exact num_any n w hn
set_option maxHeartbeats 1000000 in
theorem text_any (p : List UInt8) (w : World) (hp : p.length ≤ 1099511627776) :
    Calls Tryd.prog 32 #[.string ⟨p.toArray⟩] w fun e w' => e = .returned (.string ⟨(txtL p).toArray⟩) ∧ Below w.heap.size w w' := by
  have hb := Below.refl w.heap.size w
  have hsz := Str.size_mk p
  obtain ⟨u, hu⟩ : ∃ u, upL p.length = u := ⟨_, rfl⟩
  have hul := upL_length p.length
  rw [hu] at hul
  have zu := Str.size_mk u
  have wk : (p.length : Int) % 18446744073709551616 = (p.length : Int) := by omega
  have w8 : IntKind.u64.wrap (p.length : Int) = (p.length : Int) := by rw [IntKind.wrap_u64]; omega
  have au : ({ data := u.toArray } : ByteArray) ++ { data := p.toArray } = { data := (txtL p).toArray } := by rw [txtL, hu]; exact Str.mk_append_mk u p
  have n1 : ¬ (9223372036854775807 < u.length + p.length) := by omega
  have n1b : ¬ (u.length + p.length > 9223372036854775807) := by omega
  obtain ⟨X, hX⟩ : ∃ X, txtL p = X := ⟨_, rfl⟩
  rw [hX] at au ⊢
  replace hu := Lib.hid hu
  replace hX := Lib.hid hX
  go_enter Tryd.func32, Tryd.ntmps32
  go_wp2_with fail
  refine (num_is u hu.out (by omega) _).mono ?_
  rintro e v1 ⟨rfl, k1⟩
  replace hb := bstep hb k1
  go_wp2
  go_ret
  exact ⟨rfl, hb⟩
theorem text_is {p : List UInt8} (r : List UInt8) (h : txtL p = r) (hp : p.length ≤ 1099511627776) (w : World) :
    Calls Tryd.prog 32 #[.string ⟨p.toArray⟩] w fun e w' => e = .returned (.string ⟨r.toArray⟩) ∧ Below w.heap.size w w' := by rw [← h]; exact text_any p w hp
theorem mcat_take (L : List M) (k : Nat) (h : k < L.length) : mcat (L.take (k + 1)) = mcat (L.take k) ++ (txtL L[k].p ++ upL L[k].n) := by
  unfold mcat
  rw [List.take_succ_eq_append_getElem h, List.flatMap_append]
  simp [markL]
theorem mcat_le (L : List M) (k : Nat) : (mcat (L.take k)).length ≤ (mcat L).length := by
  conv => rhs; rw [← List.take_append_drop k L]
  unfold mcat
  rw [List.flatMap_append, List.length_append]; omega

set_option maxRecDepth 100000 in
set_option maxHeartbeats 4000000 in
theorem marks_any (L : List M) (a : Option Addr) (c : Nat) (w : World) (hL : Lies w a L.length L) (hv : (vecL L).length ≤ 1099511627776) (hn : L.length ≤ 1099511627776) (ho : ∀ m ∈ L, m.n ≤ 18446744073709551615) :
    Calls Tryd.prog 33 #[.slice a L.length c] w fun e w' => e = .returned (.string ⟨(vecL L).toArray⟩) ∧ Below w.heap.size w w' := by
  have hb := Below.refl w.heap.size w
  have HL := Lib.hid hL
  have HO := Lib.hid ho
  clear hL ho
  have wk : (L.length : Int) % 18446744073709551616 = (L.length : Int) := by omega
  have w8 : IntKind.u64.wrap (L.length : Int) = (L.length : Int) := by rw [IntKind.wrap_u64]; omega
  obtain ⟨u, hu⟩ : ∃ u, upL L.length = u := ⟨_, rfl⟩
  have HV : Hid (vecL L = u ++ mcat L) := Lib.hid (by rw [vecL, hu])
  rw [HV.out, List.length_append] at hv
  replace hu := Lib.hid hu
  go_enter Tryd.func33, Tryd.ntmps33
  go_wp2_with fail
  refine (num_is u hu.out (by omega) _).mono ?_
  rintro e v1 ⟨rfl, k1⟩
  replace hb := Lib.hid (bstep hb k1)
  go_wp2_with fail
  go_loopw [3, 4] (fun sv iv wr => ∃ k : Nat, k ≤ L.length ∧ iv = .int .i64 k ∧ sv = .string ⟨(u ++ mcat (L.take k)).toArray⟩ ∧ Hid (Below w.heap.size w wr)) (fun _ iv _ => L.length - (intOf iv).toNat)
  case atStart => exact ⟨0, by omega, rfl, by simp [mcat], hb⟩
  case round =>
    clear hb
    obtain ⟨k, hk, rfl, rfl, HB⟩ := hrel
    by_cases hlt : k < L.length
    · have lz := HL.out.below HB.out
      obtain ⟨b, off, rfl, hcell⟩ := lz.2 (by omega)
      obtain ⟨c1, c2⟩ := hcell k hlt
      have hst := mcat_take L k hlt
      have hle := mcat_le L (k + 1)
      rw [hst] at hle
      simp only [List.length_append] at hle
      have hmn := HO.out L[k] (List.getElem_mem _)
      obtain ⟨m, hm⟩ : ∃ m, m = L[k] := ⟨_, rfl⟩
      rw [← hm] at c1 c2 hst hle hmn
      obtain ⟨p, x⟩ := m
      simp only at c1 c2 hst hle hmn
      have hpl : p.length ≤ 1099511627776 := by simp only [txtL, List.length_append] at hle; omega
      obtain ⟨s, hs⟩ : ∃ s, u ++ mcat (L.take k) = s := ⟨_, rfl⟩
      have hsl : s.length = u.length + (mcat (L.take k)).length := by rw [← hs, List.length_append]
      obtain ⟨tx, htx⟩ : ∃ t, txtL p = t := ⟨_, rfl⟩
      obtain ⟨un, hun⟩ : ∃ t, upL x = t := ⟨_, rfl⟩
      rw [htx, hun] at hst hle
      obtain ⟨s1, hs1⟩ : ∃ q, s ++ tx = q := ⟨_, rfl⟩
      obtain ⟨s2, hs2⟩ : ∃ q, s1 ++ un = q := ⟨_, rfl⟩
      have l1 : s1.length = s.length + tx.length := by rw [← hs1, List.length_append]
      have HST : Hid (u ++ mcat (L.take (k + 1)) = s2) := Lib.hid (by rw [hst, ← List.append_assoc, ← List.append_assoc, hs, hs1, hs2])
      have a1 : ({ data := s.toArray } : ByteArray) ++ { data := tx.toArray } = { data := s1.toArray } := by rw [← hs1]; exact Str.mk_append_mk s tx
      have a2 : ({ data := s1.toArray } : ByteArray) ++ { data := un.toArray } = { data := s2.toArray } := by rw [← hs2]; exact Str.mk_append_mk s1 un
      have z1 := Str.size_mk s
      have z2 := Str.size_mk tx
      have z3 := Str.size_mk s1
      have z4 := Str.size_mk un
      have n1 : ¬ (9223372036854775807 < s.length + tx.length) := by omega
      have n2 : ¬ (s.length + tx.length > 9223372036854775807) := by omega
      have n3 : ¬ (9223372036854775807 < s1.length + un.length) := by omega
      have n4 : ¬ (s1.length + un.length > 9223372036854775807) := by omega
      have d1 : decide ((k : Int) < (L.length : Int)) = true := decide_eq_true (by omega)
      have j1 : (0 : Int) ≤ (k : Int) := by omega
      have j2 : (k : Int) < (L.length : Int) := by omega
      rw [hs]
      replace htx := Lib.hid htx
      replace hun := Lib.hid hun
      have hb := HB.out
      replace hsl := Lib.hid hsl
      replace l1 := Lib.hid l1
      clear hcell hm hst hs hs1 hs2 HB lz hle
      go_wp2_with fail
      refine wp_region_noPanic ?_
      refine wp_region_held_drew (S := (fun w' => Below w.heap.size w w' ∧ w'.cell? ⟨b, off + k * 2, none⟩ = some (.string ⟨p.toArray⟩) ∧ w'.cell? ⟨b, off + k * 2 + 1, none⟩ = some (.int .u64 (x : Int)))) (by kernel_rfl) (⟨Below.drew hb, Msg.keepC c1 (Below.drew (Below.refl _ _)), Msg.keepC c2 (Below.drew (Below.refl _ _))⟩) (fun hHeld => ?_)
      refine wpAnyH_take (i := 0) (v := ?_) (by simp only [List.getElem?_toArray, List.getElem?_cons_zero]; rfl) (by kernel_rfl) (by kernel_rfl) (by kernel_rfl) (fun _ _ _ h => h) (Or.inl ⟨by rfl, ?_⟩) (by assumption) ?_
      rotate_left
      · (intro w hSw; (try dsimp only at hSw); go_simp; try with_reducible rfl)
      try simp only [Act.put, List.setIfInBounds_toArray, List.set_cons_zero, List.set_cons_succ]
      refine wpAnyH_take (i := 1) (v := ?_) (by simp only [List.getElem?_toArray, List.getElem?_cons_succ, List.getElem?_cons_zero]; rfl) (by kernel_rfl) (by kernel_rfl) (by kernel_rfl) (fun _ _ _ h => h) (Or.inl ⟨by rfl, ?_⟩) (by assumption) ?_
      rotate_left
      · (intro w hSw; (try dsimp only at hSw); go_simp; try with_reducible rfl)
      try simp only [Act.put, List.setIfInBounds_toArray, List.set_cons_zero, List.set_cons_succ]
      refine wpAnyH_take (i := 2) (v := ?_) (by simp only [List.getElem?_toArray, List.getElem?_cons_succ, List.getElem?_cons_zero]; rfl) (by kernel_rfl) (by kernel_rfl) (by kernel_rfl) (fun _ _ _ h => h) (Or.inl ⟨by rfl, ?_⟩) (by assumption) ?_
      rotate_left
      · (intro w hSw; (try dsimp only at hSw); go_simp; try with_reducible rfl)
      try simp only [Act.put, List.setIfInBounds_toArray, List.set_cons_zero, List.set_cons_succ]
      refine wpAnyH_take (i := 3) (v := ?_) (by simp only [List.getElem?_toArray, List.getElem?_cons_succ, List.getElem?_cons_zero]; rfl) (by kernel_rfl) (by kernel_rfl) (by kernel_rfl) (fun _ _ _ h => h) (Or.inl ⟨by rfl, ?_⟩) (by assumption) ?_
      rotate_left
      · (intro w hSw; (try dsimp only at hSw); go_simp; try with_reducible rfl)
      try simp only [Act.put, List.setIfInBounds_toArray, List.set_cons_zero, List.set_cons_succ]
      refine wpAnyH_take (i := 4) (v := ?_) (by simp only [List.getElem?_toArray, List.getElem?_cons_succ, List.getElem?_cons_zero]; rfl) (by kernel_rfl) (by kernel_rfl) (by kernel_rfl) (fun _ _ _ h => h) (Or.inl ⟨by rfl, ?_⟩) (by assumption) ?_
      rotate_left
      · (intro w hSw; (try dsimp only at hSw); go_simp; try with_reducible rfl)
      try simp only [Act.put, List.setIfInBounds_toArray, List.set_cons_zero, List.set_cons_succ]
      refine wpAnyH_take (i := 5) (v := ?_) (by simp only [List.getElem?_toArray, List.getElem?_cons_succ, List.getElem?_cons_zero]; rfl) (by kernel_rfl) (by kernel_rfl) (by kernel_rfl) (fun _ _ _ h => h) (Or.inl ⟨by rfl, ?_⟩) (by assumption) ?_
      rotate_left
      · (intro w hSw; (try dsimp only at hSw); go_simp; try with_reducible rfl)
      try simp only [Act.put, List.setIfInBounds_toArray, List.set_cons_zero, List.set_cons_succ]
      refine wpAnyH_take (i := 8) (v := ?_) (by simp only [List.getElem?_toArray, List.getElem?_cons_succ, List.getElem?_cons_zero]; rfl) (by kernel_rfl) (by kernel_rfl) (by kernel_rfl) (fun _ _ _ h => h) (Or.inl ⟨by rfl, ?_⟩) (by assumption) ?_
      rotate_left
      · (intro w hSw; (try dsimp only at hSw); go_simp; try with_reducible rfl)
      try simp only [Act.put, List.setIfInBounds_toArray, List.set_cons_zero, List.set_cons_succ]
      refine wpAnyH_take (i := 9) (v := ?_) (by simp only [List.getElem?_toArray, List.getElem?_cons_succ, List.getElem?_cons_zero]; rfl) (by kernel_rfl) (by kernel_rfl) (by kernel_rfl) (fun _ _ _ h => h) (Or.inl ⟨by rfl, ?_⟩) (by assumption) ?_
      rotate_left
      · (intro w hSw; (try dsimp only at hSw); go_simp; try with_reducible rfl)
      try simp only [Act.put, List.setIfInBounds_toArray, List.set_cons_zero, List.set_cons_succ]
      refine wpAnyH_take (i := 10) (v := ?_) (by simp only [List.getElem?_toArray, List.getElem?_cons_succ, List.getElem?_cons_zero]; rfl) (by kernel_rfl) (by kernel_rfl) (by kernel_rfl) (fun _ _ _ h => h) (Or.inl ⟨by rfl, ?_⟩) (by assumption) ?_
      rotate_left
      · (intro w hSw; (try dsimp only at hSw); go_simp; try with_reducible rfl)
      try simp only [Act.put, List.setIfInBounds_toArray, List.set_cons_zero, List.set_cons_succ]
      refine wpAnyH_take (i := 11) (v := ?_) (by simp only [List.getElem?_toArray, List.getElem?_cons_succ, List.getElem?_cons_zero]; rfl) (by kernel_rfl) (by kernel_rfl) (by kernel_rfl) (fun _ _ _ h => h) (Or.inl ⟨by rfl, ?_⟩) (by assumption) ?_
      rotate_left
      · (intro w hSw; (try dsimp only at hSw); go_simp; try with_reducible rfl)
      try simp only [Act.put, List.setIfInBounds_toArray, List.set_cons_zero, List.set_cons_succ]
      refine wpAnyH_take (i := 12) (v := ?_) (by simp only [List.getElem?_toArray, List.getElem?_cons_succ, List.getElem?_cons_zero]; rfl) (by kernel_rfl) (by kernel_rfl) (by kernel_rfl) (fun _ _ _ h => h) (Or.inl ⟨by rfl, ?_⟩) (by assumption) ?_
      rotate_left
      · (intro w hSw; (try dsimp only at hSw); go_simp; try with_reducible rfl)
      try simp only [Act.put, List.setIfInBounds_toArray, List.set_cons_zero, List.set_cons_succ]
      refine wpAnyH_ready (rs := [6]) (by kernel_rfl) (by simp) ?_
      refine AllReadyH.cons (by simp only [List.getElem?_toArray, List.getElem?_cons_succ, List.getElem?_cons_zero]; rfl) (fun K hK => ?_) AllReadyH.nil
      go_simp
      go_at_call 32
      refine (text_is tx htx.out hpl _).mono ?_
      rintro e v1 ⟨rfl, k1⟩
      go_wp2_with fail
      refine hK.out _ _ (⟨bstep hHeld.1 k1, Msg.keepC hHeld.2.1 k1, Msg.keepC hHeld.2.2 k1⟩) (fun hHeld => ?_)
      clear hK K k1
      try simp only [Act.put, List.setIfInBounds_toArray, List.set_cons_zero, List.set_cons_succ]
      refine wpAnyH_take (i := 7) (v := ?_) (by simp only [List.getElem?_toArray, List.getElem?_cons_succ, List.getElem?_cons_zero]; rfl) (by kernel_rfl) (by kernel_rfl) (by kernel_rfl) (fun _ _ _ h => h) (Or.inl ⟨by rfl, ?_⟩) (by assumption) ?_
      rotate_left
      · (intro w hSw; (try dsimp only at hSw); go_simp; try with_reducible rfl)
      try simp only [Act.put, List.setIfInBounds_toArray, List.set_cons_zero, List.set_cons_succ]
      refine wpAnyH_ready (rs := [13]) (by kernel_rfl) (by simp) ?_
      refine AllReadyH.cons (by simp only [List.getElem?_toArray, List.getElem?_cons_succ, List.getElem?_cons_zero]; rfl) (fun K hK => ?_) AllReadyH.nil
      go_simp
      go_at_call 31
      refine (num_is un hun.out hmn _).mono ?_
      rintro e v2 ⟨rfl, k2⟩
      go_wp2_with fail
      refine hK.out _ _ (⟨bstep hHeld.1 k2, Msg.keepC hHeld.2.1 k2, Msg.keepC hHeld.2.2 k2⟩) (fun hHeld => ?_)
      clear hK K k2
      try simp only [Act.put, List.setIfInBounds_toArray, List.set_cons_zero, List.set_cons_succ]
      refine wpAnyH_take (i := 14) (v := ?_) (by simp only [List.getElem?_toArray, List.getElem?_cons_succ, List.getElem?_cons_zero]; rfl) (by kernel_rfl) (by kernel_rfl) (by kernel_rfl) (fun _ _ _ h => h) (Or.inl ⟨by rfl, ?_⟩) (by assumption) ?_
      rotate_left
      · (intro w hSw; (try dsimp only at hSw); go_simp; try with_reducible rfl)
      try simp only [Act.put, List.setIfInBounds_toArray, List.set_cons_zero, List.set_cons_succ]
      refine wpAnyH_take (i := 15) (v := ?_) (by simp only [List.getElem?_toArray, List.getElem?_cons_succ, List.getElem?_cons_zero]; rfl) (by kernel_rfl) (by kernel_rfl) (by kernel_rfl) (fun _ _ _ h => h) (Or.inl ⟨by rfl, ?_⟩) (by assumption) ?_
      rotate_left
      · (intro w hSw; (try dsimp only at hSw); go_simp; try with_reducible rfl)
      try simp only [Act.put, List.setIfInBounds_toArray, List.set_cons_zero, List.set_cons_succ]
      refine wpAnyH_done (by kernel_rfl) ?_ _
      refine NoPanic.normal ?_
      clear hb c1 c2
      obtain ⟨hb, c1, c2⟩ := hHeld
      replace hb := Lib.hid hb
      go_wp2_with fail
      go_roundw
      case rel => exact ⟨k + 1, by omega, by go_num, by rw [HST.out], hb⟩
      case measure => simp [intOf]; omega
    · obtain rfl : k = L.length := by omega
      have d1 : decide ((L.length : Int) < (L.length : Int)) = false := decide_eq_false (by omega)
      rw [List.take_length]
      clear hlt
      go_wp2
      go_ret
      exact ⟨by rw [HV.out]; rfl, HB.out⟩

end RefMsg
end Go.Proofs.YtcfimfoccbaepaaDoor
