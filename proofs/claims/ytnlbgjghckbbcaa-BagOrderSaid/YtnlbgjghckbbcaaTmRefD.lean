/- Merged texts: RefDotOf, RefDotCmp. -/
import Derived.Test.YtnlbgjghckbbcaaTmDotA
import Derived.Laws.StructEq
namespace Go.Proofs.Ytnlbgjghckbbcaa
namespace RefDots
open Go.RowKit Go.Proofs.Ytnlbgjghckbbcaa.Mark Go.Proofs.Ytnlbgjghckbbcaa.Dots

set_option maxRecDepth 100000 in
set_option maxHeartbeats 1000000 in
theorem of_any (q : List UInt8) (L : List M) (a : Option Addr) (n c : Nat) (w : World) (hL : Lies w a n L) (hn : n ≤ 1099511627776) (hok : Ok L) :
    Calls Try.prog 36 #[.slice a n c, .string ⟨q.toArray⟩] w fun e w' => e = .returned (.int .u64 (ofL L q : Nat)) ∧ w = w' := by
  have HL := Lib.hid hL
  have HO := Lib.hid hok
  clear hL hok
  go_enter Try.func36, Try.ntmps36
  go_wp2_with fail
  go_loop [5, 6] (fun nv iv => ∃ k : Nat, k ≤ n ∧ iv = .int .i64 k ∧ nv = .int .u64 (mostL (isQ q) (L.take k) : Nat)) (fun _ iv => n - (intOf iv).toNat)
  case atStart => exact ⟨0, by omega, rfl, rfl⟩
  case round =>
    obtain ⟨k, hk, rfl, rfl⟩ := hrel
    have hln := HL.out.1
    by_cases hlt : k < n
    · obtain ⟨b, off, rfl, hcell⟩ := HL.out.2 (by omega)
      obtain ⟨c1, c2⟩ := hcell k (by omega)
      have hs := mostL_snoc (isQ q) L k (by omega)
      have hx := mostL_le (isQ q) (L.take k) 0 18446744073709551615 (by omega) (fun m hm => (HO.out m (List.mem_of_mem_take hm)).1)
      obtain ⟨m, hm⟩ : ∃ m, m = L[k]'(by omega) := ⟨_, rfl⟩
      have hmn : m.n ≤ 18446744073709551615 := (HO.out m (by rw [hm]; exact List.getElem_mem _)).1
      rw [← hm] at c1 c2 hs
      change mostL (isQ q) (L.take k) ≤ _ at hx
      obtain ⟨x, hxx⟩ : ∃ x, x = mostL (isQ q) (L.take k) := ⟨_, rfl⟩
      rw [← hxx] at hs hx ⊢
      by_cases he : m.p = q
      · have l1 : (m.p == q) = true := by rw [beq_iff_eq]; exact he
        by_cases hq : q = []
        · have l2 : q.isEmpty = true := by rw [hq]; rfl
          have l3 : (!q.isEmpty) = false := by rw [l2]; rfl
          have l4 : (q == []) = true := by rw [hq]; rfl
          have l5 : (q != []) = false := by rw [hq]; rfl
          rw [show isQ q m = false by unfold isQ; simp [hq], if_neg (by decide)] at hs
          have HS := Lib.hid hs
          clear hm hcell hln hxx hs he hq
          go_wp2
          go_round
          case rel => exact ⟨k + 1, by omega, by go_num, by rw [HS.out]⟩
          case measure => simp [intOf]; omega
        · have l2 : q.isEmpty = false := by cases q with | nil => exact absurd rfl hq | cons _ _ => rfl
          have l3 : (!q.isEmpty) = true := by rw [l2]; rfl
          have l4 : (q == []) = false := by rw [beq_eq_false_iff_ne]; exact hq
          have l5 : (q != []) = true := by rw [bne_iff_ne]; exact hq
          rw [show isQ q m = true by unfold isQ; simp [hq, he], if_pos rfl] at hs
          have HS := Lib.hid hs
          clear hm hcell hln hxx hs he hq
          go_wp2
          go_round
          case rel => exact ⟨k + 1, by omega, by go_num, by rw [HS.out]; congr 1; omega⟩
          case measure => simp [intOf]; omega
      · have l1 : (m.p == q) = false := by rw [beq_eq_false_iff_ne]; exact he
        rw [show isQ q m = false by unfold isQ; simp [he], if_neg (by decide)] at hs
        have HS := Lib.hid hs
        clear hm hcell hln hxx hs he
        go_wp2
        go_round
        case rel => exact ⟨k + 1, by omega, by go_num, by rw [HS.out]⟩
        case measure => simp [intOf]; omega
    · obtain rfl : k = n := by omega
      have hv : L.take k = L := List.take_of_length_le (by omega)
      have HV := Lib.hid hv
      have hd : decide ((k : Int) < (k : Int)) = false := decide_eq_false (by omega)
      clear hln hv
      go_wp2
      go_ret
      exact ⟨by rw [HV.out]; rfl, rfl⟩

set_option maxRecDepth 100000 in
set_option maxHeartbeats 1000000 in
theorem has_any (q : List UInt8) (x : Nat) (L : List M) (a : Option Addr) (n c : Nat) (w : World) (hL : Lies w a n L) (hn : n ≤ 1099511627776) (hok : Ok L) :
    Calls Try.prog 30 #[.slice a n c, .agg #[.string ⟨q.toArray⟩, .int .u64 (x : Nat)]] w fun e w' => e = .returned (.bool (hasL L q x)) ∧ Below w.heap.size w w' := by
  have C := Lib.hid (fun W (k : Below w.heap.size w W) => of_any q L a n c W (hL.below k) hn hok)
  have HV : Hid (hasL L q x = (decide (1 ≤ x) && decide (x ≤ ofL L q))) := Lib.hid rfl
  have h0 := Below.refl w.heap.size w
  obtain ⟨o, ho⟩ : ∃ o, o = ofL L q := ⟨_, rfl⟩
  rw [← ho] at C HV
  clear hL ho
  have c0 : (w.alloc (.cells #[.string ⟨q.toArray⟩, .int .u64 (x : Nat)] 31)).cell? ⟨w.heap.size, 0, none⟩ = some (.string ⟨q.toArray⟩) := by rw [World.cell?_alloc_new]; rfl
  have c1 : (w.alloc (.cells #[.string ⟨q.toArray⟩, .int .u64 (x : Nat)] 31)).cell? ⟨w.heap.size, 1, none⟩ = some (.int .u64 (x : Nat)) := by rw [World.cell?_alloc_new]; rfl
  have hb : Below w.heap.size w (w.alloc (.cells #[.string ⟨q.toArray⟩, .int .u64 (x : Nat)] 31)) := balloc h0 _
  by_cases hx1 : 1 ≤ x
  · have d1 : decide ((x : Int) ≥ 1) = true := decide_eq_true (by omega)
    have d1' : decide ((1 : Int) ≤ (x : Int)) = true := decide_eq_true (by omega)
    go_enter Try.func30, Try.ntmps30
    go_wp2_with fail
    refine wp_region_noPanic ?_
    refine wp_region_held_drew (S := (fun w' => (w'.cell? ⟨w.heap.size, 0, none⟩ = some (.string ⟨q.toArray⟩) ∧ w'.cell? ⟨w.heap.size, 1, none⟩ = some (.int .u64 (x : Nat))) ∧ Below w.heap.size w w')) (by kernel_rfl) (⟨⟨c0, c1⟩, Below.drew hb⟩) (fun hHeld => ?_)
    refine wpAnyH_take (i := 0) (v := ?_) (by simp only [List.getElem?_toArray, List.getElem?_cons_zero]; rfl) (by kernel_rfl) (by kernel_rfl) (by kernel_rfl) (fun _ _ _ h => h) (Or.inl ⟨by rfl, ?_⟩) (by assumption) ?_
    rotate_left
    · (intro w hSw; (try dsimp only at hSw); go_simp; try with_reducible rfl)
    try simp only [Act.put, List.setIfInBounds_toArray, List.set_cons_zero, List.set_cons_succ]
    refine wpAnyH_take (i := 1) (v := ?_) (by simp only [List.getElem?_toArray, List.getElem?_cons_succ, List.getElem?_cons_zero]; rfl) (by kernel_rfl) (by kernel_rfl) (by kernel_rfl) (fun _ _ _ h => h) (Or.inl ⟨by rfl, ?_⟩) (by assumption) ?_
    rotate_left
    · (intro w hSw; (try dsimp only at hSw); go_simp; try with_reducible rfl)
    try simp only [Act.put, List.setIfInBounds_toArray, List.set_cons_zero, List.set_cons_succ]
    refine wpAnyH_take (i := 2) (v := ?_) (by simp only [List.getElem?_toArray, List.getElem?_cons_succ, List.getElem?_cons_zero]; rfl) (by kernel_rfl) (by kernel_rfl) (by kernel_rfl) (fun _ _ _ h => h) (Or.inl ⟨by rfl, ?_⟩) (by assumption) ?_
    rotate_left
    · (intro w hSw; (try dsimp only at hSw); go_simp; try with_reducible rfl)
    try simp only [Act.put, List.setIfInBounds_toArray, List.set_cons_zero, List.set_cons_succ]
    refine wpAnyH_take (i := 3) (v := ?_) (by simp only [List.getElem?_toArray, List.getElem?_cons_succ, List.getElem?_cons_zero]; rfl) (by kernel_rfl) (by kernel_rfl) (by kernel_rfl) (fun _ _ _ h => h) (Or.inl ⟨by rfl, ?_⟩) (by assumption) ?_
    rotate_left
    · (intro w hSw; (try dsimp only at hSw); go_simp; try with_reducible rfl)
    try simp only [Act.put, List.setIfInBounds_toArray, List.set_cons_zero, List.set_cons_succ]
    refine wpAnyH_take (i := 4) (v := ?_) (by simp only [List.getElem?_toArray, List.getElem?_cons_succ, List.getElem?_cons_zero]; rfl) (by kernel_rfl) (by kernel_rfl) (by kernel_rfl) (fun _ _ _ h => h) (Or.inl ⟨by rfl, ?_⟩) (by assumption) ?_
    rotate_left
    · (intro w hSw; (try dsimp only at hSw); go_simp; try with_reducible rfl)
    try simp only [Act.put, List.setIfInBounds_toArray, List.set_cons_zero, List.set_cons_succ]
    refine wpAnyH_take (i := 5) (v := ?_) (by simp only [List.getElem?_toArray, List.getElem?_cons_succ, List.getElem?_cons_zero]; rfl) (by kernel_rfl) (by kernel_rfl) (by kernel_rfl) (fun _ _ _ h => h) (Or.inl ⟨by rfl, ?_⟩) (by assumption) ?_
    rotate_left
    · (intro w hSw; (try dsimp only at hSw); go_simp; try with_reducible rfl)
    try simp only [Act.put, List.setIfInBounds_toArray, List.set_cons_zero, List.set_cons_succ]
    refine wpAnyH_take (i := 6) (v := ?_) (by simp only [List.getElem?_toArray, List.getElem?_cons_succ, List.getElem?_cons_zero]; rfl) (by kernel_rfl) (by kernel_rfl) (by kernel_rfl) (fun _ _ _ h => h) (Or.inl ⟨by rfl, ?_⟩) (by assumption) ?_
    rotate_left
    · (intro w hSw; (try dsimp only at hSw); go_simp; try with_reducible rfl)
    try simp only [Act.put, List.setIfInBounds_toArray, List.set_cons_zero, List.set_cons_succ]
    refine wpAnyH_take (i := 7) (v := ?_) (by simp only [List.getElem?_toArray, List.getElem?_cons_succ, List.getElem?_cons_zero]; rfl) (by kernel_rfl) (by kernel_rfl) (by kernel_rfl) (fun _ _ _ h => h) (Or.inl ⟨by rfl, ?_⟩) (by assumption) ?_
    rotate_left
    · (intro w hSw; (try dsimp only at hSw); go_simp; try with_reducible rfl)
    try simp only [Act.put, List.setIfInBounds_toArray, List.set_cons_zero, List.set_cons_succ]
    refine wpAnyH_take (i := 8) (v := ?_) (by simp only [List.getElem?_toArray, List.getElem?_cons_succ, List.getElem?_cons_zero]; rfl) (by kernel_rfl) (by kernel_rfl) (by kernel_rfl) (fun _ _ _ h => h) (Or.inl ⟨by rfl, ?_⟩) (by assumption) ?_
    rotate_left
    · (intro w hSw; (try dsimp only at hSw); go_simp; try with_reducible rfl)
    try simp only [Act.put, List.setIfInBounds_toArray, List.set_cons_zero, List.set_cons_succ]
    refine wpAnyH_ready (rs := [9]) (by kernel_rfl) (by simp) ?_
    refine AllReadyH.cons (by simp only [List.getElem?_toArray, List.getElem?_cons_succ, List.getElem?_cons_zero]; rfl) (fun K hK => ?_) AllReadyH.nil
    go_simp
    go_at_call 36
    refine (C.out _ (by first | exact hHeld.2 | exact Below.drew hHeld.2)).mono ?_
    rintro e w' ⟨rfl, rfl⟩
    go_wp2_with fail
    refine hK.out _ _ (hHeld) (fun hHeld => ?_)
    clear hK K
    try simp only [Act.put, List.setIfInBounds_toArray, List.set_cons_zero, List.set_cons_succ]
    refine wpAnyH_take (i := 10) (v := ?_) (by simp only [List.getElem?_toArray, List.getElem?_cons_succ, List.getElem?_cons_zero]; rfl) (by kernel_rfl) (by kernel_rfl) (by kernel_rfl) (fun _ _ _ h => h) (Or.inl ⟨by rfl, ?_⟩) (by assumption) ?_
    rotate_left
    · (intro w hSw; (try dsimp only at hSw); go_simp; try with_reducible rfl)
    try simp only [Act.put, List.setIfInBounds_toArray, List.set_cons_zero, List.set_cons_succ]
    refine wpAnyH_take (i := 11) (v := ?_) (by simp only [List.getElem?_toArray, List.getElem?_cons_succ, List.getElem?_cons_zero]; rfl) (by kernel_rfl) (by kernel_rfl) (by kernel_rfl) (fun _ _ _ h => h) (Or.inl ⟨by rfl, ?_⟩) (by assumption) ?_
    rotate_left
    · (intro w hSw; (try dsimp only at hSw); go_simp; try with_reducible rfl)
    try simp only [Act.put, List.setIfInBounds_toArray, List.set_cons_zero, List.set_cons_succ]
    refine wpAnyH_take (i := 12) (v := ?_) (by simp only [List.getElem?_toArray, List.getElem?_cons_succ, List.getElem?_cons_zero]; rfl) (by kernel_rfl) (by kernel_rfl) (by kernel_rfl) (fun _ _ _ h => h) (Or.inl ⟨by rfl, ?_⟩) (by assumption) ?_
    rotate_left
    · (intro w hSw; (try dsimp only at hSw); go_simp; try with_reducible rfl)
    try simp only [Act.put, List.setIfInBounds_toArray, List.set_cons_zero, List.set_cons_succ]
    refine wpAnyH_done (by kernel_rfl) ?_ _
    refine NoPanic.normal ?_
    go_wp2
    go_ret
    exact ⟨by rw [HV.out, decide_eq_true hx1, Bool.true_and]; rfl, Below.drew hb⟩
  · have d1 : decide ((x : Int) ≥ 1) = false := decide_eq_false (by omega)
    have d1' : decide ((1 : Int) ≤ (x : Int)) = false := decide_eq_false (by omega)
    go_enter Try.func30, Try.ntmps30
    go_wp2_with fail
    refine wp_region_noPanic ?_
    refine wp_region_held_drew (S := (fun w' => (w'.cell? ⟨w.heap.size, 0, none⟩ = some (.string ⟨q.toArray⟩) ∧ w'.cell? ⟨w.heap.size, 1, none⟩ = some (.int .u64 (x : Nat))) ∧ Below w.heap.size w w')) (by kernel_rfl) (⟨⟨c0, c1⟩, Below.drew hb⟩) (fun hHeld => ?_)
    refine wpAnyH_take (i := 0) (v := ?_) (by simp only [List.getElem?_toArray, List.getElem?_cons_zero]; rfl) (by kernel_rfl) (by kernel_rfl) (by kernel_rfl) (fun _ _ _ h => h) (Or.inl ⟨by rfl, ?_⟩) (by assumption) ?_
    rotate_left
    · (intro w hSw; (try dsimp only at hSw); go_simp; try with_reducible rfl)
    try simp only [Act.put, List.setIfInBounds_toArray, List.set_cons_zero, List.set_cons_succ]
    refine wpAnyH_take (i := 1) (v := ?_) (by simp only [List.getElem?_toArray, List.getElem?_cons_succ, List.getElem?_cons_zero]; rfl) (by kernel_rfl) (by kernel_rfl) (by kernel_rfl) (fun _ _ _ h => h) (Or.inl ⟨by rfl, ?_⟩) (by assumption) ?_
    rotate_left
    · (intro w hSw; (try dsimp only at hSw); go_simp; try with_reducible rfl)
    try simp only [Act.put, List.setIfInBounds_toArray, List.set_cons_zero, List.set_cons_succ]
    refine wpAnyH_take (i := 2) (v := ?_) (by simp only [List.getElem?_toArray, List.getElem?_cons_succ, List.getElem?_cons_zero]; rfl) (by kernel_rfl) (by kernel_rfl) (by kernel_rfl) (fun _ _ _ h => h) (Or.inl ⟨by rfl, ?_⟩) (by assumption) ?_
    rotate_left
    · (intro w hSw; (try dsimp only at hSw); go_simp; try with_reducible rfl)
    try simp only [Act.put, List.setIfInBounds_toArray, List.set_cons_zero, List.set_cons_succ]
    refine wpAnyH_take (i := 3) (v := ?_) (by simp only [List.getElem?_toArray, List.getElem?_cons_succ, List.getElem?_cons_zero]; rfl) (by kernel_rfl) (by kernel_rfl) (by kernel_rfl) (fun _ _ _ h => h) (Or.inl ⟨by rfl, ?_⟩) (by assumption) ?_
    rotate_left
    · (intro w hSw; (try dsimp only at hSw); go_simp; try with_reducible rfl)
    try simp only [Act.put, List.setIfInBounds_toArray, List.set_cons_zero, List.set_cons_succ]
    refine wpAnyH_take (i := 4) (v := undef) (by simp only [List.getElem?_toArray, List.getElem?_cons_succ, List.getElem?_cons_zero]; rfl) (by kernel_rfl) (by kernel_rfl) (by kernel_rfl) (fun _ _ _ h => h) (Or.inr ⟨by rfl, rfl⟩) (by assumption) ?_
    try simp only [Act.put, List.setIfInBounds_toArray, List.set_cons_zero, List.set_cons_succ]
    refine wpAnyH_take (i := 5) (v := undef) (by simp only [List.getElem?_toArray, List.getElem?_cons_succ, List.getElem?_cons_zero]; rfl) (by kernel_rfl) (by kernel_rfl) (by kernel_rfl) (fun _ _ _ h => h) (Or.inr ⟨by rfl, rfl⟩) (by assumption) ?_
    try simp only [Act.put, List.setIfInBounds_toArray, List.set_cons_zero, List.set_cons_succ]
    refine wpAnyH_take (i := 6) (v := undef) (by simp only [List.getElem?_toArray, List.getElem?_cons_succ, List.getElem?_cons_zero]; rfl) (by kernel_rfl) (by kernel_rfl) (by kernel_rfl) (fun _ _ _ h => h) (Or.inr ⟨by rfl, rfl⟩) (by assumption) ?_
    try simp only [Act.put, List.setIfInBounds_toArray, List.set_cons_zero, List.set_cons_succ]
    refine wpAnyH_take (i := 7) (v := undef) (by simp only [List.getElem?_toArray, List.getElem?_cons_succ, List.getElem?_cons_zero]; rfl) (by kernel_rfl) (by kernel_rfl) (by kernel_rfl) (fun _ _ _ h => h) (Or.inr ⟨by rfl, rfl⟩) (by assumption) ?_
    try simp only [Act.put, List.setIfInBounds_toArray, List.set_cons_zero, List.set_cons_succ]
    refine wpAnyH_take (i := 8) (v := undef) (by simp only [List.getElem?_toArray, List.getElem?_cons_succ, List.getElem?_cons_zero]; rfl) (by kernel_rfl) (by kernel_rfl) (by kernel_rfl) (fun _ _ _ h => h) (Or.inr ⟨by rfl, rfl⟩) (by assumption) ?_
    try simp only [Act.put, List.setIfInBounds_toArray, List.set_cons_zero, List.set_cons_succ]
    refine wpAnyH_take (i := 9) (v := undef) (by simp only [List.getElem?_toArray, List.getElem?_cons_succ, List.getElem?_cons_zero]; rfl) (by kernel_rfl) (by kernel_rfl) (by kernel_rfl) (fun _ _ _ h => h) (Or.inr ⟨by rfl, rfl⟩) (by assumption) ?_
    try simp only [Act.put, List.setIfInBounds_toArray, List.set_cons_zero, List.set_cons_succ]
    refine wpAnyH_take (i := 10) (v := undef) (by simp only [List.getElem?_toArray, List.getElem?_cons_succ, List.getElem?_cons_zero]; rfl) (by kernel_rfl) (by kernel_rfl) (by kernel_rfl) (fun _ _ _ h => h) (Or.inr ⟨by rfl, rfl⟩) (by assumption) ?_
    try simp only [Act.put, List.setIfInBounds_toArray, List.set_cons_zero, List.set_cons_succ]
    refine wpAnyH_take (i := 11) (v := ?_) (by simp only [List.getElem?_toArray, List.getElem?_cons_succ, List.getElem?_cons_zero]; rfl) (by kernel_rfl) (by kernel_rfl) (by kernel_rfl) (fun _ _ _ h => h) (Or.inl ⟨by rfl, ?_⟩) (by assumption) ?_
    rotate_left
    · (intro w hSw; (try dsimp only at hSw); go_simp; try with_reducible rfl)
    try simp only [Act.put, List.setIfInBounds_toArray, List.set_cons_zero, List.set_cons_succ]
    refine wpAnyH_take (i := 12) (v := ?_) (by simp only [List.getElem?_toArray, List.getElem?_cons_succ, List.getElem?_cons_zero]; rfl) (by kernel_rfl) (by kernel_rfl) (by kernel_rfl) (fun _ _ _ h => h) (Or.inl ⟨by rfl, ?_⟩) (by assumption) ?_
    rotate_left
    · (intro w hSw; (try dsimp only at hSw); go_simp; try with_reducible rfl)
    try simp only [Act.put, List.setIfInBounds_toArray, List.set_cons_zero, List.set_cons_succ]
    refine wpAnyH_done (by kernel_rfl) ?_ _
    refine NoPanic.normal ?_
    go_wp2
    go_ret
    exact ⟨by rw [HV.out, decide_eq_false hx1]; rfl, Below.drew hb⟩

theorem eql_of (T : TypeId) (h : Try.prog.underlying T = Try.prog.underlying 62) (hp : Try.prog.stoodInHeld T = false) (m k : M) (w : World) : (Op.equalIn 10000 T (.agg (m.cells).toArray) (.agg (k.cells).toArray)).run Try.prog w = .ok (m.p == k.p && (m.n : Int) == (k.n : Int)) w := by
  have hS : Try.prog.underlying T = some (.struct (Try.prog.fieldsOf T)) := by rw [Program.fieldsOf, h]; kernel_rfl
  rw [show (10000 : Nat) = 9999 + 1 from rfl, run_equalIn_agg w 9999 T _ _ hS hp]
  simp only [Program.fieldsOf, h, Try.underlying62, M.cells]
  have u1 := Try.underlying9
  have u2 := Try.underlying29
  go_simp
  by_cases h1 : m.p = k.p <;> by_cases h2 : (m.n : Int) = (k.n : Int) <;> simp [h1, h2]


end RefDots
end Go.Proofs.Ytnlbgjghckbbcaa

namespace Go.Proofs.Ytnlbgjghckbbcaa
namespace RefDots
open Go.RowKit Go.Proofs.Ytnlbgjghckbbcaa.Mark Go.Proofs.Ytnlbgjghckbbcaa.Dots

instance : DecidableEq M := fun a b => if h : a.p = b.p ∧ a.n = b.n then .isTrue (M.ext' h.1 h.2) else .isFalse (fun e => h (by rw [e]; exact ⟨rfl, rfl⟩))
theorem eqM_iff (m k : M) : (m.p == k.p && (m.n : Int) == (k.n : Int)) = decide (m = k) := by
  by_cases h : m = k
  · subst h; simp
  · rw [decide_eq_false h]
    cases h1 : (m.p == k.p) with
    | false => rfl
    | true =>
      have e1 : m.p = k.p := by simpa using h1
      have : m.n ≠ k.n := fun e => h (M.ext' e1 e)
      simp; omega
theorem neq_mark (m k : M) (w : World) : (binOp .neq 62 (.agg #[.string ⟨m.p.toArray⟩, .int .u64 (m.n : Int)]) (.agg #[.string ⟨k.p.toArray⟩, .int .u64 (k.n : Int)])).run Try.prog w = .ok (.bool (!decide (m = k))) w := by
  rw [run_neq_struct]
  have h := eql_of 62 rfl (by kernel_rfl) m k w
  rw [eqM_iff] at h
  unfold M.cells at h
  rw [h]; rfl
theorem eql_dot (m k : M) (w : World) : (binOp .eql 31 (.agg #[.string ⟨m.p.toArray⟩, .int .u64 (m.n : Int)]) (.agg #[.string ⟨k.p.toArray⟩, .int .u64 (k.n : Int)])).run Try.prog w = .ok (.bool (decide (m = k))) w := by
  rw [run_eql_struct]
  have h := eql_of 31 (by kernel_rfl) (by kernel_rfl) m k w
  rw [eqM_iff] at h
  unfold M.cells at h
  rw [h]; rfl

theorem cmpD_ways (a b : M) : cmpD a b = if (Op.bytesLess a.p b.p || (a.p == b.p && decide (a.n < b.n))) then -1 else if a = b then 0 else 1 := by
  unfold cmpD
  rcases Order.cmp_ways a.p b.p with h | h | h
  · have hl : Op.bytesLess a.p b.p = true := by
      cases h' : Op.bytesLess a.p b.p with
      | true => rfl
      | false =>
        have hne : a.p ≠ b.p := fun e => by rw [e, Order.cmp_self] at h; omega
        have := Order.cmp_more _ _ hne h'; omega
    rw [hl, h]; rfl
  · have e := Order.cmp_zero _ _ h
    have hl : Op.bytesLess a.p b.p = false := by
      cases h' : Op.bytesLess a.p b.p with
      | false => rfl
      | true => have := Order.cmp_less _ _ h'; omega
    rw [hl, h, if_neg (by omega), Bool.false_or, e, beq_self_eq_true, Bool.true_and]
    unfold cmpI
    by_cases h1 : a.n < b.n
    · rw [if_pos h1, if_pos (decide_eq_true h1)]
    · rw [if_neg h1, if_neg (show ¬ decide (a.n < b.n) = true by rw [decide_eq_true_eq]; exact h1)]
      by_cases h2 : b.n < a.n
      · rw [if_pos h2, if_neg (fun e' => by rw [e'] at h2; omega)]
      · rw [if_neg h2, if_pos (M.ext' e (by omega))]
  · have hl : Op.bytesLess a.p b.p = false := by
      cases h' : Op.bytesLess a.p b.p with
      | false => rfl
      | true => have := Order.cmp_less _ _ h'; omega
    have hne : a.p ≠ b.p := fun e => by rw [e, Order.cmp_self] at h; omega
    have l1 : (a.p == b.p) = false := by rw [beq_eq_false_iff_ne]; exact hne
    rw [hl, h, l1, if_pos (by omega), if_neg (by rw [Bool.false_or, Bool.false_and]; decide), if_neg (fun e => hne (by rw [e]))]

set_option maxRecDepth 100000 in
set_option maxHeartbeats 2000000 in
theorem compare_any (a b : M) (w : World) : Calls Try.prog 50 #[.agg (a.cells).toArray, .agg (b.cells).toArray] w fun e w' => e = .returned (.int .i64 (cmpD a b)) ∧ Below w.heap.size w w' := by
  have h0 := Below.refl w.heap.size w
  have hw := cmpD_ways a b
  have hE := eql_dot a b
  unfold M.cells
  cases h1 : Op.bytesLess a.p b.p with
  | true =>
    rw [h1, Bool.true_or, if_pos rfl] at hw
    have HV := Lib.hid hw
    clear hw hE
    go_enter Try.func50, Try.ntmps50
    go_wp2
    go_ret
    exact ⟨by rw [HV.out]; rfl, balloc (balloc h0 _) _⟩
  | false =>
    rw [h1, Bool.false_or] at hw
    cases h2 : (a.p == b.p && decide (a.n < b.n)) with
    | true =>
      rw [h2, if_pos rfl] at hw
      have HV := Lib.hid hw
      rw [Bool.and_eq_true, decide_eq_true_eq] at h2
      obtain ⟨h3, h4⟩ := h2
      have h5 : decide ((a.n : Int) < (b.n : Int)) = true := decide_eq_true (by omega)
      clear hw hE
      go_enter Try.func50, Try.ntmps50
      go_wp2
      go_ret
      exact ⟨by rw [HV.out]; rfl, balloc (balloc h0 _) _⟩
    | false =>
      rw [h2, if_neg (by decide)] at hw
      have HV := Lib.hid hw
      cases h3 : (a.p == b.p) with
      | true =>
        rw [h3, Bool.true_and, decide_eq_false_iff_not] at h2
        have h5 : decide ((a.n : Int) < (b.n : Int)) = false := decide_eq_false (by omega)
        have h6 : decide (a.n < b.n) = false := decide_eq_false (by omega)
        clear hw h2
        by_cases hab : a = b
        · rw [decide_eq_true hab] at hE
          have HV2 : Hid (cmpD a b = 0) := Lib.hid (by rw [HV.out, if_pos hab])
          clear HV hab
          go_enter Try.func50, Try.ntmps50
          go_wp2
          go_ret
          exact ⟨by rw [HV2.out]; rfl, balloc (balloc h0 _) _⟩
        · rw [decide_eq_false hab] at hE
          have HV2 : Hid (cmpD a b = 1) := Lib.hid (by rw [HV.out, if_neg hab])
          clear HV hab
          go_enter Try.func50, Try.ntmps50
          go_wp2
          go_ret
          exact ⟨by rw [HV2.out]; rfl, balloc (balloc h0 _) _⟩
      | false =>
        have hab : ¬ a = b := fun e => by rw [e, beq_self_eq_true] at h3; cases h3
        rw [decide_eq_false hab] at hE
        have HV2 : Hid (cmpD a b = 1) := Lib.hid (by rw [HV.out, if_neg hab])
        clear HV hab hw h2
        go_enter Try.func50, Try.ntmps50
        go_wp2
        go_ret
        exact ⟨by rw [HV2.out]; rfl, balloc (balloc h0 _) _⟩

end RefDots
end Go.Proofs.Ytnlbgjghckbbcaa
