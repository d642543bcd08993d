/- package dots: Of, Has. -/
import Derived.Test.YtnpjkmomllkhpaaGreatTake
import Derived.Test.YtnpjkmomllkhpaaGreatTmMarkA
import Derived.WalkKit
import Derived.Deep.RegionHeld3
namespace Go.Proofs.YtnpjkmomllkhpaaGreat
namespace Dots
open Go.RowKit Go.Proofs.YtnpjkmomllkhpaaGreat.Mark

/-- Is it a mark of that path? -/
def isQ (q : List UInt8) (m : M) : Bool := decide (m.p = q ∧ q ≠ [])
def mostL (f : M → Bool) (L : List M) : Nat := L.foldl (fun n m => if f m then max n m.n else n) 0
/-- The greatest number of a path's marks; 0 of the empty path. -/
def ofL (L : List M) (q : List UInt8) : Nat := mostL (isQ q) L
theorem mostL_snoc (f : M → Bool) (L : List M) (k : Nat) (h : k < L.length) : mostL f (L.take (k + 1)) = if f L[k] then max (mostL f (L.take k)) (L[k]).n else mostL f (L.take k) := by
  unfold mostL; rw [List.take_succ_eq_append_getElem h, List.foldl_append]; rfl
theorem mostL_le (f : M → Bool) : ∀ (L : List M) (a b : Nat), a ≤ b → (∀ m ∈ L, m.n ≤ b) → L.foldl (fun n m => if f m then max n m.n else n) a ≤ b
  | [], a, b, h, _ => h
  | m :: L, a, b, h, hm => by
    rw [List.foldl_cons]
    refine mostL_le f L _ b ?_ (fun x hx => hm x (List.mem_cons_of_mem _ hx))
    have := hm m (List.mem_cons_self ..)
    split
    · omega
    · exact h

set_option maxRecDepth 100000 in
set_option maxHeartbeats 1000000 in
theorem is_any (q : List UInt8) (B : Nat) (m : M) (w : World) (hB : B < w.heap.size) (hc : w.cell? ⟨B, 0, none⟩ = some (.string ⟨q.toArray⟩)) :
    Calls Tryz.prog 97 #[m.agg, .pointer (some ⟨B, 0, none⟩)] w fun e w' => e = .returned (.bool (isQ q m)) ∧ Below w.heap.size w w' := by
  obtain ⟨p, n⟩ := m
  have h0 := Below.refl w.heap.size w
  unfold M.agg
  simp only
  by_cases h : p = q
  · subst h
    by_cases h2 : p = []
    · have hv := Lib.hid (show isQ p ⟨p, n⟩ = false by unfold isQ; simp [h2])
      subst h2
      go_enter Tryz.func97, Tryz.ntmps97
      go_wp2
      go_ret
      exact ⟨by rw [hv.out]; rfl, balloc h0 _⟩
    · have hv := Lib.hid (show isQ p ⟨p, n⟩ = true by unfold isQ; simp [h2])
      have y1 : (!p.isEmpty) = true := by cases p with | nil => exact absurd rfl h2 | cons _ _ => rfl
      have y2 : p.isEmpty = false := by cases p with | nil => exact absurd rfl h2 | cons _ _ => rfl
      clear h2
      go_enter Tryz.func97, Tryz.ntmps97
      go_wp2
      go_ret
      exact ⟨by rw [hv.out]; rfl, balloc h0 _⟩
  · have hv := Lib.hid (show isQ q ⟨p, n⟩ = false by unfold isQ; simp [h])
    have y : (p == q) = false := by rw [beq_eq_false_iff_ne]; exact h
    clear h
    go_enter Tryz.func97, Tryz.ntmps97
    go_wp2
    go_ret
    exact ⟨by rw [hv.out]; rfl, balloc h0 _⟩

set_option maxRecDepth 100000 in
set_option maxHeartbeats 1000000 in
theorem most_any (q : List UInt8) (B : Nat) (L : List M) (a : Option Addr) (n c : Nat) (w : World) (hB : B < w.heap.size) (hc : w.cell? ⟨B, 0, none⟩ = some (.string ⟨q.toArray⟩)) (hL : Lies w a n L) (hn : n ≤ 1099511627776) (hok : Ok L) :
    Calls Tryz.prog 96 #[.slice a n c, .func (.func 97) #[] #[.pointer (some ⟨B, 0, none⟩)]] w fun e w' => e = .returned (.int .u64 (ofL L q : Nat)) ∧ Below w.heap.size w w' := by
  have HL := Lib.hid hL
  have HO := Lib.hid hok
  have HC := Lib.hid hc
  clear hL hok hc
  go_enter Tryz.func96, Tryz.ntmps96
  go_wp2_with fail
  go_loopw [5, 10] (fun nv iv wr => ∃ k : Nat, k ≤ n ∧ iv = .int .i64 k ∧ nv = .int .u64 (mostL (isQ q) (L.take k) : Nat) ∧ Below w.heap.size w wr) (fun _ iv _ => n - (intOf iv).toNat)
  case atStart => exact ⟨0, by omega, rfl, rfl, Below.refl _ _⟩
  case round =>
    obtain ⟨k, hk, rfl, rfl, hb⟩ := hrel
    have hln := HL.out.1
    by_cases hlt : k < n
    · obtain ⟨b, off, rfl, hcell⟩ := (HL.out.below hb).2 (by omega)
      obtain ⟨c1, c2⟩ := hcell k (by omega)
      have hs := mostL_snoc (isQ q) L k (by omega)
      have hx := mostL_le (isQ q) (L.take k) 0 18446744073709551615 (by omega) (fun m hm => (HO.out m (List.mem_of_mem_take hm)).1)
      obtain ⟨m, hm⟩ : ∃ m, m = L[k]'(by omega) := ⟨_, rfl⟩
      have hmn : m.n ≤ 18446744073709551615 := (HO.out m (by rw [hm]; exact List.getElem_mem _)).1
      rw [← hm] at c1 c2 hs
      change mostL (isQ q) (L.take k) ≤ _ at hx
      obtain ⟨x, hxx⟩ : ∃ x, x = mostL (isQ q) (L.take k) := ⟨_, rfl⟩
      rw [← hxx] at hs hx ⊢
      have HS := Lib.hid hs
      have g0 := (hb.cell (p := ⟨B, 0, none⟩) hB).trans HC.out
      have CL := Lib.hid (fun W (k : Below w.heap.size w W) => is_any q B m W (Nat.lt_of_lt_of_le hB k.size) ((k.cell (p := ⟨B, 0, none⟩) hB).trans HC.out))
      obtain ⟨r, hr⟩ : ∃ r, r = isQ q m := ⟨_, rfl⟩
      rw [← hr] at CL HS
      have q1 := World.block_lt_of_cell? _ _ c2
      clear hm hcell hln hxx hs g0 hr
      go_wp2_with fail
      refine (CL.out _ (balloc hb _)).mono ?_
      rintro e v1 ⟨rfl, k1⟩
      have h1 := bstep (balloc hb _) k1
      have c3 := (k1.cell (p := ⟨wr.heap.size, 1, none⟩) (by simp)).trans (World.cell?_alloc_new ..)
      simp at c3
      cases r with
      | false =>
        go_wp2
        go_roundw
        case rel => exact ⟨k + 1, by omega, by go_num, by rw [HS.out]; rfl, h1⟩
        case measure => simp [intOf]; omega
      | true =>
        go_wp2
        go_roundw
        case rel => exact ⟨k + 1, by omega, by go_num, by rw [HS.out, if_pos trivial, Nat.max_def]; congr 1; split <;> split <;> omega, h1⟩
        case measure => simp [intOf]; omega
    · obtain rfl : k = n := by omega
      have hv : L.take k = L := List.take_of_length_le (by omega)
      have HV := Lib.hid hv
      have hd : decide ((k : Int) < (k : Int)) = false := decide_eq_false (by omega)
      clear hln hv
      go_wp2
      go_ret
      exact ⟨by rw [HV.out]; rfl, hb⟩

set_option maxRecDepth 100000 in
set_option maxHeartbeats 1000000 in
theorem of_any (q : List UInt8) (L : List M) (a : Option Addr) (n c : Nat) (w : World) (hL : Lies w a n L) (hn : n ≤ 1099511627776) (hok : Ok L) :
    Calls Tryz.prog 71 #[.slice a n c, .string ⟨q.toArray⟩] w fun e w' => e = .returned (.int .u64 (ofL L q : Nat)) ∧ Below w.heap.size w w' := by
  have C := Lib.hid (fun W (k : Below w.heap.size w W) B (hB : B < W.heap.size) hc => most_any q B L a n c W hB hc (hL.below k) hn hok)
  have h0 := Below.refl w.heap.size w
  clear hL
  go_enter Tryz.func71, Tryz.ntmps71
  go_wp2_with fail
  refine (C.out _ (balloc h0 _) _ (by simp) (World.cell?_alloc_new ..)).mono ?_
  rintro e v1 ⟨rfl, k1⟩
  have h1 := bstep (balloc h0 _) k1
  go_wp2
  go_ret
  exact ⟨rfl, h1⟩

theorem keepC {w w' : World} {b o : Nat} {v : Value} (h : w.cell? ⟨b, o, none⟩ = some v) (k : Below w.heap.size w w') : w'.cell? ⟨b, o, none⟩ = some v :=
  (k.cell (p := ⟨b, o, none⟩) (World.block_lt_of_cell? _ _ h)).trans h
/-- Does a vector have a dot? -/
def hasL (L : List M) (q : List UInt8) (x : Nat) : Bool := decide (1 ≤ x) && decide (x ≤ ofL L q)
set_option maxRecDepth 100000 in
set_option maxHeartbeats 1000000 in
theorem has_any (q : List UInt8) (x : Nat) (L : List M) (a : Option Addr) (n c : Nat) (w : World) (hL : Lies w a n L) (hn : n ≤ 1099511627776) (hok : Ok L) :
    Calls Tryz.prog 73 #[.slice a n c, .agg #[.string ⟨q.toArray⟩, .int .u64 (x : Nat)]] w fun e w' => e = .returned (.bool (hasL L q x)) ∧ Below w.heap.size w w' := by
  have C := Lib.hid (fun W (k : Below w.heap.size w W) => of_any q L a n c W (hL.below k) hn hok)
  have HV : Hid (hasL L q x = (decide (1 ≤ x) && decide (x ≤ ofL L q))) := Lib.hid rfl
  have h0 := Below.refl w.heap.size w
  obtain ⟨o, ho⟩ : ∃ o, o = ofL L q := ⟨_, rfl⟩
  rw [← ho] at C HV
  clear hL ho
  have c0 : (w.alloc (.cells #[.string ⟨q.toArray⟩, .int .u64 (x : Nat)] 96)).cell? ⟨w.heap.size, 0, none⟩ = some (.string ⟨q.toArray⟩) := by rw [World.cell?_alloc_new]; rfl
  have c1 : (w.alloc (.cells #[.string ⟨q.toArray⟩, .int .u64 (x : Nat)] 96)).cell? ⟨w.heap.size, 1, none⟩ = some (.int .u64 (x : Nat)) := by rw [World.cell?_alloc_new]; rfl
  have hb : Below w.heap.size w (w.alloc (.cells #[.string ⟨q.toArray⟩, .int .u64 (x : Nat)] 96)) := balloc h0 _
  by_cases hx1 : 1 ≤ x
  · have d1 : decide ((x : Int) ≥ 1) = true := decide_eq_true (by omega)
    have d1' : decide ((1 : Int) ≤ (x : Int)) = true := decide_eq_true (by omega)
    go_enter Tryz.func73, Tryz.ntmps73
    go_wp2_with fail
    refine wp_region_noPanic ?_
    refine wp_region_held_drew (S := (fun w' => w'.cell? ⟨w.heap.size, 0, none⟩ = some (.string ⟨q.toArray⟩) ∧ w'.cell? ⟨w.heap.size, 1, none⟩ = some (.int .u64 (x : Nat)))) (by kernel_rfl) (⟨c0, c1⟩) (fun hHeld => ?_)
    refine tk 0 ?_
    try simp only [Act.put, List.setIfInBounds_toArray, List.set_cons_zero, List.set_cons_succ]
    refine tk 1 ?_
    try simp only [Act.put, List.setIfInBounds_toArray, List.set_cons_zero, List.set_cons_succ]
    refine tk 2 ?_
    try simp only [Act.put, List.setIfInBounds_toArray, List.set_cons_zero, List.set_cons_succ]
    refine tk 3 ?_
    try simp only [Act.put, List.setIfInBounds_toArray, List.set_cons_zero, List.set_cons_succ]
    refine tk 4 ?_
    try simp only [Act.put, List.setIfInBounds_toArray, List.set_cons_zero, List.set_cons_succ]
    refine tk 5 ?_
    try simp only [Act.put, List.setIfInBounds_toArray, List.set_cons_zero, List.set_cons_succ]
    refine tk 6 ?_
    try simp only [Act.put, List.setIfInBounds_toArray, List.set_cons_zero, List.set_cons_succ]
    refine tk 7 ?_
    try simp only [Act.put, List.setIfInBounds_toArray, List.set_cons_zero, List.set_cons_succ]
    refine tk 8 ?_
    try simp only [Act.put, List.setIfInBounds_toArray, List.set_cons_zero, List.set_cons_succ]
    refine wpAnyH_ready (rs := [9]) (by kernel_rfl) (by simp) ?_
    refine AllReadyH.cons (by simp only [List.getElem?_toArray, List.getElem?_cons_succ, List.getElem?_cons_zero]; rfl) (fun K hK => ?_) AllReadyH.nil
    go_simp
    go_at_call 71
    refine (C.out _ (by first | exact hb | exact Below.drew hb)).mono ?_
    rintro e v1 ⟨rfl, k1⟩
    have h1 := bstep (w := w) (by first | exact hb | exact Below.drew hb) k1
    go_wp2_with fail
    refine hK.out _ _ (⟨keepC hHeld.1 k1, keepC hHeld.2 k1⟩) (fun hHeld => ?_)
    clear hK K
    try simp only [Act.put, List.setIfInBounds_toArray, List.set_cons_zero, List.set_cons_succ]
    refine tk 10 ?_
    try simp only [Act.put, List.setIfInBounds_toArray, List.set_cons_zero, List.set_cons_succ]
    refine tk 11 ?_
    try simp only [Act.put, List.setIfInBounds_toArray, List.set_cons_zero, List.set_cons_succ]
    refine tk 12 ?_
    try simp only [Act.put, List.setIfInBounds_toArray, List.set_cons_zero, List.set_cons_succ]
    refine wpAnyH_done (by kernel_rfl) ?_ _
    refine NoPanic.normal ?_
    go_wp2
    go_ret
    exact ⟨by rw [HV.out, decide_eq_true hx1, Bool.true_and]; rfl, h1⟩
  · have d1 : decide ((x : Int) ≥ 1) = false := decide_eq_false (by omega)
    have d1' : decide ((1 : Int) ≤ (x : Int)) = false := decide_eq_false (by omega)
    go_enter Tryz.func73, Tryz.ntmps73
    go_wp2_with fail
    refine wp_region_noPanic ?_
    refine wp_region_held_drew (S := (fun w' => w'.cell? ⟨w.heap.size, 0, none⟩ = some (.string ⟨q.toArray⟩) ∧ w'.cell? ⟨w.heap.size, 1, none⟩ = some (.int .u64 (x : Nat)))) (by kernel_rfl) (⟨c0, c1⟩) (fun hHeld => ?_)
    refine tk 0 ?_
    try simp only [Act.put, List.setIfInBounds_toArray, List.set_cons_zero, List.set_cons_succ]
    refine tk 1 ?_
    try simp only [Act.put, List.setIfInBounds_toArray, List.set_cons_zero, List.set_cons_succ]
    refine tk 2 ?_
    try simp only [Act.put, List.setIfInBounds_toArray, List.set_cons_zero, List.set_cons_succ]
    refine tk 3 ?_
    try simp only [Act.put, List.setIfInBounds_toArray, List.set_cons_zero, List.set_cons_succ]
    refine tku 4 ?_
    try simp only [Act.put, List.setIfInBounds_toArray, List.set_cons_zero, List.set_cons_succ]
    refine tku 5 ?_
    try simp only [Act.put, List.setIfInBounds_toArray, List.set_cons_zero, List.set_cons_succ]
    refine tku 6 ?_
    try simp only [Act.put, List.setIfInBounds_toArray, List.set_cons_zero, List.set_cons_succ]
    refine tku 7 ?_
    try simp only [Act.put, List.setIfInBounds_toArray, List.set_cons_zero, List.set_cons_succ]
    refine tku 8 ?_
    try simp only [Act.put, List.setIfInBounds_toArray, List.set_cons_zero, List.set_cons_succ]
    refine tku 9 ?_
    try simp only [Act.put, List.setIfInBounds_toArray, List.set_cons_zero, List.set_cons_succ]
    refine tku 10 ?_
    try simp only [Act.put, List.setIfInBounds_toArray, List.set_cons_zero, List.set_cons_succ]
    refine tk 11 ?_
    try simp only [Act.put, List.setIfInBounds_toArray, List.set_cons_zero, List.set_cons_succ]
    refine tk 12 ?_
    try simp only [Act.put, List.setIfInBounds_toArray, List.set_cons_zero, List.set_cons_succ]
    refine wpAnyH_done (by kernel_rfl) ?_ _
    refine NoPanic.normal ?_
    go_wp2
    go_ret
    exact ⟨by rw [HV.out, decide_eq_false hx1]; rfl, Below.drew hb⟩

end Dots
end Go.Proofs.YtnpjkmomllkhpaaGreat
