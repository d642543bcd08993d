
/- package dots: Of, Has. -/
import Derived.Test.YtcbnkncgacbniaaMark
import Derived.WalkKit
import Derived.Deep.RegionHeld3
namespace Go.Proofs.Ytcbnkncgacbniaa
namespace Dots
open Go.RowKit Go.Proofs.Ytcbnkncgacbniaa.Mark

/-- Is it a mark of that path? -/
def isQ (q : List UInt8) (m : M) : Bool := decide (m.p = q ∧ q ≠ [])
def mostL (f : M → Bool) (L : List M) : Nat := L.foldl (fun n m => if f m then max n m.n else n) 0
/-- The greatest number of a path's marks; 0 of the empty path. -/
def ofL (L : List M) (q : List UInt8) : Nat := mostL (isQ q) L
theorem mostL_snoc (f : M → Bool) (L : List M) (k : Nat) (h : k < L.length) : mostL f (L.take (k + 1)) = if f L[k] then max (mostL f (L.take k)) (L[k]).n else mostL f (L.take k) := by
  unfold mostL; rw [List.take_succ_eq_append_getElem h, List.foldl_append]; rfl
theorem mostL_le (f : M → Bool) : ∀ (L : List M) (a b : Nat), a ≤ b → (∀ m ∈ L, m.n ≤ b) → L.foldl (fun n m => if f m then max n m.n else n) a ≤ b
  | [], a, b, h, _ => h
  | m :: L, a, b, h, hm => by
    rw [List.foldl_cons]
    refine mostL_le f L _ b ?_ (fun x hx => hm x (List.mem_cons_of_mem _ hx))
    have := hm m (List.mem_cons_self ..)
    split
    · omega
    · exact h

set_option maxRecDepth 100000 in
set_option maxHeartbeats 1000000 in
theorem is_any (q : List UInt8) (B : Nat) (m : M) (w : World) (hB : B < w.heap.size) (hc : w.cell? ⟨B, 0, none⟩ = some (.string ⟨q.toArray⟩)) :
    Calls Try.prog 47 #[m.agg, .pointer (some ⟨B, 0, none⟩)] w fun e w' => e = .returned (.bool (isQ q m)) ∧ Below w.heap.size w w' := by
  obtain ⟨p, n⟩ := m
  have h0 := Below.refl w.heap.size w
  unfold M.agg
  simp only
  by_cases h : p = q
  · subst h
    by_cases h2 : p = []
    · have hv := Lib.hid (show isQ p ⟨p, n⟩ = false by unfold isQ; simp [h2])
      subst h2
      go_enter Try.func47, Try.ntmps47
      go_wp2
      go_ret
      exact ⟨by rw [hv.out]; rfl, balloc h0 _⟩
    · have hv := Lib.hid (show isQ p ⟨p, n⟩ = true by unfold isQ; simp [h2])
      have y1 : (!p.isEmpty) = true := by cases p with | nil => exact absurd rfl h2 | cons _ _ => rfl
      have y2 : p.isEmpty = false := by cases p with | nil => exact absurd rfl h2 | cons _ _ => rfl
      clear h2
      go_enter Try.func47, Try.ntmps47
      go_wp2
      go_ret
      exact ⟨by rw [hv.out]; rfl, balloc h0 _⟩
  · have hv := Lib.hid (show isQ q ⟨p, n⟩ = false by unfold isQ; simp [h])
    have y : (p == q) = false := by rw [beq_eq_false_iff_ne]; exact h
    clear h
    go_enter Try.func47, Try.ntmps47
    go_wp2
    go_ret
    exact ⟨by rw [hv.out]; rfl, balloc h0 _⟩

set_option maxRecDepth 100000 in
set_option maxHeartbeats 1000000 in
theorem most_any (q : List UInt8) (B : Nat) (L : List M) (a : Option Addr) (n c : Nat) (w : World) (hB : B < w.heap.size) (hc : w.cell? ⟨B, 0, none⟩ = some (.string ⟨q.toArray⟩)) (hL : Lies w a n L) (hn : n ≤ 1099511627776) (hok : Ok L) :
    Calls Try.prog 46 #[.slice a n c, .func (.func 47) #[] #[.pointer (some ⟨B, 0, none⟩)]] w fun e w' => e = .returned (.int .u64 (ofL L q : Nat)) ∧ Below w.heap.size w w' := by
  have HL := Lib.hid hL
  have HO := Lib.hid hok
  have HC := Lib.hid hc
  clear hL hok hc
  go_enter Try.func46, Try.ntmps46
  go_wp2_with fail
  go_loopw [5, 10] (fun nv iv wr => ∃ k : Nat, k ≤ n ∧ iv = .int .i64 k ∧ nv = .int .u64 (mostL (isQ q) (L.take k) : Nat) ∧ Below w.heap.size w wr) (fun _ iv _ => n - (intOf iv).toNat)
  case atStart => exact ⟨0, by omega, rfl, rfl, Below.refl _ _⟩
  case round =>
    obtain ⟨k, hk, rfl, rfl, hb⟩ := hrel
    have hln := HL.out.1
    by_cases hlt : k < n
    · obtain ⟨b, off, rfl, hcell⟩ := (HL.out.below hb).2 (by omega)
      obtain ⟨c1, c2⟩ := hcell k (by omega)
      have hs := mostL_snoc (isQ q) L k (by omega)
      have hx := mostL_le (isQ q) (L.take k) 0 18446744073709551615 (by omega) (fun m hm => (HO.out m (List.mem_of_mem_take hm)).1)
      obtain ⟨m, hm⟩ : ∃ m, m = L[k]'(by omega) := ⟨_, rfl⟩
      have hmn : m.n ≤ 18446744073709551615 := (HO.out m (by rw [hm]; exact List.getElem_mem _)).1
      rw [← hm] at c1 c2 hs
      change mostL (isQ q) (L.take k) ≤ _ at hx
      obtain ⟨x, hxx⟩ : ∃ x, x = mostL (isQ q) (L.take k) := ⟨_, rfl⟩
      rw [← hxx] at hs hx ⊢
      have HS := Lib.hid hs
      have g0 := (hb.cell (p := ⟨B, 0, none⟩) hB).trans HC.out
      have CL := Lib.hid (fun W (k : Below w.heap.size w W) => is_any q B m W (Nat.lt_of_lt_of_le hB k.size) ((k.cell (p := ⟨B, 0, none⟩) hB).trans HC.out))
      obtain ⟨r, hr⟩ : ∃ r, r = isQ q m := ⟨_, rfl⟩
      rw [← hr] at CL HS
      have q1 := World.block_lt_of_cell? _ _ c2
      clear hm hcell hln hxx hs g0 hr
      go_wp2_with fail
      refine (CL.out _ (balloc hb _)).mono ?_
      rintro e v1 ⟨rfl, k1⟩
      have h1 := bstep (balloc hb _) k1
      have c3 := (k1.cell (p := ⟨wr.heap.size, 1, none⟩) (by simp)).trans (World.cell?_alloc_new ..)
      simp at c3
      cases r with
      | false =>
        go_wp2
        go_roundw
        case rel => exact ⟨k + 1, by omega, by go_num, by rw [HS.out]; rfl, h1⟩
        case measure => simp [intOf]; omega
      | true =>
        go_wp2
        go_roundw
        case rel => exact ⟨k + 1, by omega, by go_num, by rw [HS.out, if_pos trivial, Nat.max_def]; congr 1; split <;> split <;> omega, h1⟩
        case measure => simp [intOf]; omega
    · obtain rfl : k = n := by omega
      have hv : L.take k = L := List.take_of_length_le (by omega)
      have HV := Lib.hid hv
      have hd : decide ((k : Int) < (k : Int)) = false := decide_eq_false (by omega)
      clear hln hv
      go_wp2
      go_ret
      exact ⟨by rw [HV.out]; rfl, hb⟩

set_option maxRecDepth 100000 in
set_option maxHeartbeats 1000000 in
theorem of_any (q : List UInt8) (L : List M) (a : Option Addr) (n c : Nat) (w : World) (hL : Lies w a n L) (hn : n ≤ 1099511627776) (hok : Ok L) :
    Calls Try.prog 35 #[.slice a n c, .string ⟨q.toArray⟩] w fun e w' => e = .returned (.int .u64 (ofL L q : Nat)) ∧ Below w.heap.size w w' := by
  have C := Lib.hid (fun W (k : Below w.heap.size w W) B (hB : B < W.heap.size) hc => most_any q B L a n c W hB hc (hL.below k) hn hok)
  have h0 := Below.refl w.heap.size w
  clear hL
  go_enter Try.func35, Try.ntmps35
  go_wp2_with fail
  refine (C.out _ (balloc h0 _) _ (by simp) (World.cell?_alloc_new ..)).mono ?_
  rintro e v1 ⟨rfl, k1⟩
  have h1 := bstep (balloc h0 _) k1
  go_wp2
  go_ret
  exact ⟨rfl, h1⟩

theorem keepC {w w' : World} {b o : Nat} {v : Value} (h : w.cell? ⟨b, o, none⟩ = some v) (k : Below w.heap.size w w') : w'.cell? ⟨b, o, none⟩ = some v :=
  (k.cell (p := ⟨b, o, none⟩) (World.block_lt_of_cell? _ _ h)).trans h
/-- Does a vector have a dot? -/
def hasL (L : List M) (q : List UInt8) (x : Nat) : Bool := decide (1 ≤ x) && decide (x ≤ ofL L q)
end Dots
end Go.Proofs.Ytcbnkncgacbniaa
