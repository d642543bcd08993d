
/- the reference of dots: Clean. -/
import Derived.Test.YtcbnkncgacbniaaRefDotPut
namespace Go.Proofs.Ytcbnkncgacbniaa
namespace RefDots
open Go.RowKit Go.Proofs.Ytcbnkncgacbniaa.Mark Go.Proofs.Ytcbnkncgacbniaa.Dots

theorem IsVec.congr {R : List M} {f g : List UInt8 → Nat} (h : IsVec R f) (e : ∀ q, f q = g q) : IsVec R g := ⟨h.1, fun q => (h.2 q).trans (e q)⟩
/-- Numbers and paths that can be. -/
def OkF (f : List UInt8 → Nat) : Prop := ∀ q, f q ≤ 18446744073709551615 ∧ (f q ≠ 0 → q.length ≤ 9223372036854775807)
theorem okF_of {L : List M} (h : Ok L) : OkF (ofL L) := by
  intro q
  rcases ofL_ex L q with e | ⟨m, hm, e1, e2, e3⟩
  · rw [e]; exact ⟨by omega, fun h => absurd rfl h⟩
  · obtain ⟨h1, h2⟩ := h m hm
    rw [← e3, ← e1]; exact ⟨h1, fun _ => h2⟩
theorem ok_vec {R : List M} {f : List UInt8 → Nat} (h : IsVec R f) (k : OkF f) : Ok R := by
  intro m hm
  have h1 := vec_of h.1 hm
  have h2 := (h.1.2 m hm).2
  have h3 := h.2 m.p
  obtain ⟨k1, k2⟩ := k m.p
  exact ⟨by omega, k2 (by omega)⟩
/-- What is known of the paths that were seen. -/
def seenF (L : List M) (k : Nat) (q : List UInt8) : Nat := if q ∈ (L.take k).map (·.p) then ofL L q else 0
theorem seenF_zero (L : List M) (q : List UInt8) : seenF L 0 q = 0 := by simp [seenF]
theorem seenF_step (L : List M) (k : Nat) (hk : k < L.length) (q : List UInt8) : seenF L (k + 1) q = if q = L[k].p then ofL L q else seenF L k q := by
  unfold seenF
  rw [List.take_succ_eq_append_getElem hk, List.map_append, List.map_cons, List.map_nil]
  by_cases e : q = L[k].p
  · rw [if_pos e, if_pos (List.mem_append.2 (.inr (by rw [e]; exact List.mem_singleton.2 rfl)))]
  · rw [if_neg e]
    have : (q ∈ List.map (fun x => x.p) (List.take k L) ++ [L[k].p]) ↔ q ∈ List.map (fun x => x.p) (List.take k L) := by
      rw [List.mem_append, List.mem_singleton]
      exact ⟨fun h => h.resolve_right e, .inl⟩
    simp only [this]
theorem seenF_all (L : List M) (k : Nat) (hk : L.length ≤ k) (q : List UInt8) : seenF L k q = ofL L q := by
  unfold seenF
  rw [List.take_of_length_le hk]
  split
  · rfl
  · rename_i h
    exact (ofL_none L q fun m hm e => h (List.mem_map.2 ⟨m, hm, e⟩)).symm
theorem seenF_le (L : List M) (k : Nat) (q : List UInt8) : seenF L k q = ofL L q ∨ seenF L k q = 0 := by
  unfold seenF; split
  · exact .inl rfl
  · exact .inr rfl
theorem okF_seen {L : List M} (h : Ok L) (k : Nat) : OkF (seenF L k) := by
  intro q
  rcases seenF_le L k q with e | e
  · rw [e]; exact okF_of h q
  · rw [e]; exact ⟨by omega, fun h => absurd rfl h⟩
theorem seen_keep (L : List M) (k : Nat) (hk : k < L.length) (h : ofL L L[k].p = 0 ∨ seenF L k L[k].p ≠ 0) (q : List UInt8) : seenF L k q = seenF L (k + 1) q := by
  rw [seenF_step L k hk]
  by_cases e : q = L[k].p
  · rw [if_pos e]
    rcases seenF_le L k q with h1 | h1
    · exact h1
    · rw [h1]
      rcases h with h | h
      · rw [e]; exact h.symm
      · rw [← e] at h; exact absurd h1 h
  · rw [if_neg e]

set_option maxRecDepth 100000 in
set_option maxHeartbeats 2000000 in
theorem clean_any (L : List M) (a : Option Addr) (n c : Nat) (w : World) (hL : Lies w a n L) (hn : n ≤ 1099511627776) (hok : Ok L) :
    Calls Try.prog 30 #[.slice a n c] w fun e w' => ∃ (v : Value) (R : List M), e = .returned v ∧ IsVec R (ofL L) ∧ R.length ≤ n ∧ Mark.Own w' w.heap.size v R ∧ Below w.heap.size w w' := by
  have h0 := Below.refl w.heap.size w
  have HL := Lib.hid hL
  have HO := Lib.hid hok
  have C1 := Lib.hid (fun q W (k : Below w.heap.size w W) => of_any q L a n c W (hL.below k) hn hok)
  clear hL hok
  go_enter Try.func30, Try.ntmps30
  go_wp2_with fail
  go_loopw [3, 4] (fun ov iv wr => ∃ (k : Nat) (out : List M), k ≤ n ∧ iv = .int .i64 k ∧ Mark.Own wr w.heap.size ov out ∧ IsVec out (seenF L k) ∧ out.length ≤ k ∧ Below w.heap.size w wr) (fun _ iv _ => n - (intOf iv).toNat)
  case atStart => exact ⟨0, [], by omega, rfl, Mark.Own.nil _ _, ⟨⟨List.Pairwise.nil, fun m hm => (by cases hm)⟩, fun q => (seenF_zero L q).symm⟩, by simp, h0⟩
  case round =>
    obtain ⟨k, out, hk, rfl, hown, hv, hol, hb⟩ := hrel
    have hln := HL.out.1
    obtain ⟨aO, cO, rfl, _, _, lO, _⟩ := hown.lies
    by_cases hlt : k < n
    · obtain ⟨b, off, rfl, hcell⟩ := (HL.out.below hb).2 (by omega)
      have c1 := (hcell k (by omega)).1
      have hst := seenF_step L k (by omega)
      have hkp := seen_keep L k (by omega)
      have hmk := HO.out L[k] (List.getElem_mem _)
      obtain ⟨m, hm⟩ : ∃ m, m = L[k]'(by omega) := ⟨_, rfl⟩
      rw [← hm] at c1 hst hkp hmk
      have b1 : (0 : Int) ≤ (k : Int) := by omega
      have b2 : (k : Int) < (n : Int) := by omega
      have hOk := ok_vec hv (okF_seen HO.out k)
      have C2 := Lib.hid (of_any m.p out aO out.length cO wr lO (by omega) hOk)
      have C1 := Lib.hid (C1.out m.p)
      have hx := (okF_of HO.out m.p).1
      have hos := hv.2 m.p
      have hme := ofL_empty L
      obtain ⟨q, hq⟩ : ∃ q, q = m.p := ⟨_, rfl⟩
      rw [← hq] at c1 hst hkp hx hos C2 C1 hmk
      obtain ⟨x, hxx⟩ : ∃ x, x = ofL L q := ⟨_, rfl⟩
      obtain ⟨y, hyy⟩ : ∃ y, y = ofL out q := ⟨_, rfl⟩
      rw [← hxx] at C1 hx hkp
      rw [← hyy] at C2 hos
      have hq2 := hmk.2
      clear hm hcell hq hOk hmk
      by_cases g1 : 0 < x
      · have e1 : decide ((x : Int) > 0) = true := decide_eq_true (by omega)
        have e2 : decide ((0 : Int) < (x : Int)) = true := decide_eq_true (by omega)
        have e3 : decide (0 < x) = true := decide_eq_true g1
        by_cases g2 : y = 0
        · have e4 : ((y : Int) == 0) = true := by rw [beq_iff_eq]; omega
          have hqn : q ≠ [] := fun e => by rw [e, hme] at hxx; omega
          have hnv := IsVec.congr (g := seenF L (k + 1)) (put_vec hv ⟨q, x⟩ hqn g1 (by show seenF L k q = 0; omega)) (fun p => by
            show (if p = q then x else seenF L k p) = _
            rw [hst p]
            split
            · rename_i e; rw [e, hxx]
            · rfl)
          have hnl := putGo_len ⟨q, x⟩ out
          have HV := Lib.hid (And.intro hnv hnl)
          have HY := Lib.hid g2
          clear hst hkp hos hme hxx hyy hln hnv hnl hown hv g1 g2
          go_wp2_with (go_at_call 23; (first | with_reducible refine (C1.out _ hb).mono ?_ | with_reducible refine (C2.out).mono ?_); rintro e w' ⟨rfl, rfl⟩)
          refine wp_region_noPanic ?_
          refine wp_region_held_drew (S := (fun w' => w'.cell? ⟨b, off + k * 2, none⟩ = some (.string ⟨q.toArray⟩) ∧ Lies w' aO out.length out ∧ Below w.heap.size w w')) (by kernel_rfl) (⟨c1, lO.below (Below.drew (Below.refl _ _)), Below.drew hb⟩) (fun hHeld => ?_)
          refine wpAnyH_take (i := 0) (v := ?_) (by simp only [List.getElem?_toArray, List.getElem?_cons_zero]; rfl) (by kernel_rfl) (by kernel_rfl) (by kernel_rfl) (fun _ _ _ h => h) (Or.inl ⟨by rfl, ?_⟩) (by assumption) ?_
          rotate_left
          · (intro w hSw; (try dsimp only at hSw); go_simp; try with_reducible rfl)
          try simp only [Act.put, List.setIfInBounds_toArray, List.set_cons_zero, List.set_cons_succ]
          refine wpAnyH_take (i := 1) (v := ?_) (by simp only [List.getElem?_toArray, List.getElem?_cons_succ, List.getElem?_cons_zero]; rfl) (by kernel_rfl) (by kernel_rfl) (by kernel_rfl) (fun _ _ _ h => h) (Or.inl ⟨by rfl, ?_⟩) (by assumption) ?_
          rotate_left
          · (intro w hSw; (try dsimp only at hSw); go_simp; try with_reducible rfl)
          try simp only [Act.put, List.setIfInBounds_toArray, List.set_cons_zero, List.set_cons_succ]
          refine wpAnyH_take (i := 2) (v := ?_) (by simp only [List.getElem?_toArray, List.getElem?_cons_succ, List.getElem?_cons_zero]; rfl) (by kernel_rfl) (by kernel_rfl) (by kernel_rfl) (fun _ _ _ h => h) (Or.inl ⟨by rfl, ?_⟩) (by assumption) ?_
          rotate_left
          · (intro w hSw; (try dsimp only at hSw); go_simp; try with_reducible rfl)
          try simp only [Act.put, List.setIfInBounds_toArray, List.set_cons_zero, List.set_cons_succ]
          refine wpAnyH_take (i := 3) (v := ?_) (by simp only [List.getElem?_toArray, List.getElem?_cons_succ, List.getElem?_cons_zero]; rfl) (by kernel_rfl) (by kernel_rfl) (by kernel_rfl) (fun _ _ _ h => h) (Or.inl ⟨by rfl, ?_⟩) (by assumption) ?_
          rotate_left
          · (intro w hSw; (try dsimp only at hSw); go_simp; try with_reducible rfl)
          try simp only [Act.put, List.setIfInBounds_toArray, List.set_cons_zero, List.set_cons_succ]
          refine wpAnyH_take (i := 4) (v := ?_) (by simp only [List.getElem?_toArray, List.getElem?_cons_succ, List.getElem?_cons_zero]; rfl) (by kernel_rfl) (by kernel_rfl) (by kernel_rfl) (fun _ _ _ h => h) (Or.inl ⟨by rfl, ?_⟩) (by assumption) ?_
          rotate_left
          · (intro w hSw; (try dsimp only at hSw); go_simp; try with_reducible rfl)
          try simp only [Act.put, List.setIfInBounds_toArray, List.set_cons_zero, List.set_cons_succ]
          refine wpAnyH_take (i := 5) (v := ?_) (by simp only [List.getElem?_toArray, List.getElem?_cons_succ, List.getElem?_cons_zero]; rfl) (by kernel_rfl) (by kernel_rfl) (by kernel_rfl) (fun _ _ _ h => h) (Or.inl ⟨by rfl, ?_⟩) (by assumption) ?_
          rotate_left
          · (intro w hSw; (try dsimp only at hSw); go_simp; try with_reducible rfl)
          try simp only [Act.put, List.setIfInBounds_toArray, List.set_cons_zero, List.set_cons_succ]
          refine wpAnyH_take (i := 6) (v := ?_) (by simp only [List.getElem?_toArray, List.getElem?_cons_succ, List.getElem?_cons_zero]; rfl) (by kernel_rfl) (by kernel_rfl) (by kernel_rfl) (fun _ _ _ h => h) (Or.inl ⟨by rfl, ?_⟩) (by assumption) ?_
          rotate_left
          · (intro w hSw; (try dsimp only at hSw); go_simp; try with_reducible rfl)
          try simp only [Act.put, List.setIfInBounds_toArray, List.set_cons_zero, List.set_cons_succ]
          refine wpAnyH_take (i := 7) (v := ?_) (by simp only [List.getElem?_toArray, List.getElem?_cons_succ, List.getElem?_cons_zero]; rfl) (by kernel_rfl) (by kernel_rfl) (by kernel_rfl) (fun _ _ _ h => h) (Or.inl ⟨by rfl, ?_⟩) (by assumption) ?_
          rotate_left
          · (intro w hSw; (try dsimp only at hSw); go_simp; try with_reducible rfl)
          try simp only [Act.put, List.setIfInBounds_toArray, List.set_cons_zero, List.set_cons_succ]
          refine wpAnyH_take (i := 8) (v := ?_) (by simp only [List.getElem?_toArray, List.getElem?_cons_succ, List.getElem?_cons_zero]; rfl) (by kernel_rfl) (by kernel_rfl) (by kernel_rfl) (fun _ _ _ h => h) (Or.inl ⟨by rfl, ?_⟩) (by assumption) ?_
          rotate_left
          · (intro w hSw; (try dsimp only at hSw); go_simp; try with_reducible rfl)
          try simp only [Act.put, List.setIfInBounds_toArray, List.set_cons_zero, List.set_cons_succ]
          refine wpAnyH_take (i := 9) (v := ?_) (by simp only [List.getElem?_toArray, List.getElem?_cons_succ, List.getElem?_cons_zero]; rfl) (by kernel_rfl) (by kernel_rfl) (by kernel_rfl) (fun _ _ _ h => h) (Or.inl ⟨by rfl, ?_⟩) (by assumption) ?_
          rotate_left
          · (intro w hSw; (try dsimp only at hSw); go_simp; try with_reducible rfl)
          try simp only [Act.put, List.setIfInBounds_toArray, List.set_cons_zero, List.set_cons_succ]
          refine wpAnyH_take (i := 10) (v := ?_) (by simp only [List.getElem?_toArray, List.getElem?_cons_succ, List.getElem?_cons_zero]; rfl) (by kernel_rfl) (by kernel_rfl) (by kernel_rfl) (fun _ _ _ h => h) (Or.inl ⟨by rfl, ?_⟩) (by assumption) ?_
          rotate_left
          · (intro w hSw; (try dsimp only at hSw); go_simp; try with_reducible rfl)
          try simp only [Act.put, List.setIfInBounds_toArray, List.set_cons_zero, List.set_cons_succ]
          refine wpAnyH_take (i := 11) (v := ?_) (by simp only [List.getElem?_toArray, List.getElem?_cons_succ, List.getElem?_cons_zero]; rfl) (by kernel_rfl) (by kernel_rfl) (by kernel_rfl) (fun _ _ _ h => h) (Or.inl ⟨by rfl, ?_⟩) (by assumption) ?_
          rotate_left
          · (intro w hSw; (try dsimp only at hSw); go_simp; try with_reducible rfl)
          try simp only [Act.put, List.setIfInBounds_toArray, List.set_cons_zero, List.set_cons_succ]
          refine wpAnyH_ready (rs := [12]) (by kernel_rfl) (by simp) ?_
          refine AllReadyH.cons (by simp only [List.getElem?_toArray, List.getElem?_cons_succ, List.getElem?_cons_zero]; rfl) (fun K hK => ?_) AllReadyH.nil
          go_simp
          go_at_call 23
          refine (C1.out _ hHeld.2.2).mono ?_
          rintro e w' ⟨rfl, rfl⟩
          go_wp2_with fail
          refine hK.out _ _ (hHeld) (fun hHeld => ?_)
          clear hK K
          try simp only [Act.put, List.setIfInBounds_toArray, List.set_cons_zero, List.set_cons_succ]
          refine wpAnyH_take (i := 13) (v := ?_) (by simp only [List.getElem?_toArray, List.getElem?_cons_succ, List.getElem?_cons_zero]; rfl) (by kernel_rfl) (by kernel_rfl) (by kernel_rfl) (fun _ _ _ h => h) (Or.inl ⟨by rfl, ?_⟩) (by assumption) ?_
          rotate_left
          · (intro w hSw; (try dsimp only at hSw); go_simp; try with_reducible rfl)
          try simp only [Act.put, List.setIfInBounds_toArray, List.set_cons_zero, List.set_cons_succ]
          refine wpAnyH_ready (rs := [14]) (by kernel_rfl) (by simp) ?_
          refine AllReadyH.cons (by simp only [List.getElem?_toArray, List.getElem?_cons_succ, List.getElem?_cons_zero]; rfl) (fun K hK => ?_) AllReadyH.nil
          go_simp
          go_at_call 39
          refine (put_any ⟨q, x⟩ out aO out.length cO _ hHeld.2.1 (by omega)).mono ?_
          rintro e v1 ⟨vP, rfl, oP, k1⟩
          have h1 := bstep (w := w) (by first | exact hb | exact Below.drew hb) k1
          go_wp2_with fail
          refine hK.out _ _ (⟨Dots.keepC hHeld.1 k1, hHeld.2.1.below k1, h1⟩) (fun hHeld => ?_)
          clear hK K
          try simp only [Act.put, List.setIfInBounds_toArray, List.set_cons_zero, List.set_cons_succ]
          refine wpAnyH_take (i := 15) (v := ?_) (by simp only [List.getElem?_toArray, List.getElem?_cons_succ, List.getElem?_cons_zero]; rfl) (by kernel_rfl) (by kernel_rfl) (by kernel_rfl) (fun _ _ _ h => h) (Or.inl ⟨by rfl, ?_⟩) (by assumption) ?_
          rotate_left
          · (intro w hSw; (try dsimp only at hSw); go_simp; try with_reducible rfl)
          try simp only [Act.put, List.setIfInBounds_toArray, List.set_cons_zero, List.set_cons_succ]
          refine wpAnyH_done (by kernel_rfl) ?_ _
          refine NoPanic.normal ?_
          go_wp2
          have hsz := hb.size
          go_roundw
          case rel => exact ⟨k + 1, _, by omega, by go_num, oP.base (by simp; omega), HV.out.1, by rw [HV.out.2]; omega, h1⟩
          case measure => simp [intOf]; omega
        · have e4 : ((y : Int) == 0) = false := by rw [beq_eq_false_iff_ne]; omega
          have HV := Lib.hid (IsVec.congr hv (hkp (.inr (by omega))))
          clear hst hkp hos hme hxx hyy hln g1 g2 hv
          go_wp2_with (go_at_call 23; (first | with_reducible refine (C1.out _ hb).mono ?_ | with_reducible refine (C2.out).mono ?_); rintro e w' ⟨rfl, rfl⟩)
          go_roundw
          case rel => exact ⟨k + 1, out, by omega, by go_num, hown, HV.out, by omega, hb⟩
          case measure => simp [intOf]; omega
      · have e1 : decide ((x : Int) > 0) = false := decide_eq_false (by omega)
        have e2 : decide ((0 : Int) < (x : Int)) = false := decide_eq_false (by omega)
        have e3 : decide (0 < x) = false := decide_eq_false g1
        have HV := Lib.hid (IsVec.congr hv (hkp (.inl (by omega))))
        clear hst hkp hos hme hxx hyy hln g1 hv
        go_wp2_with (go_at_call 23; with_reducible refine (C1.out _ hb).mono ?_; rintro e w' ⟨rfl, rfl⟩)
        go_roundw
        case rel => exact ⟨k + 1, out, by omega, by go_num, hown, HV.out, by omega, hb⟩
        case measure => simp [intOf]; omega
    · obtain rfl : k = n := by omega
      have hd : decide ((k : Int) < (k : Int)) = false := decide_eq_false (by omega)
      have HV := Lib.hid (IsVec.congr hv (seenF_all L k (by omega)))
      clear hln hv
      go_wp2
      go_ret
      exact ⟨_, out, rfl, HV.out, hol, hown, hb⟩


end RefDots
end Go.Proofs.Ytcbnkncgacbniaa
