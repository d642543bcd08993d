/- package path: Deep, May, Number. -/
import Derived.Test.YtagpbhghmhamdaaDoorPathSplit
namespace Go.Proofs.YtagpbhghmhamdaaDoor
namespace Path
open Go.RowKit

theorem split_any (p : List UInt8) (w : World) (hp : p.length ≤ 1099511627776) :
    Calls Tryd.prog 28 #[.string ⟨p.toArray⟩] w fun e w' => e = .returned (.tuple #[arr8 (parse p), .int .i64 ((parse p).length : Nat)]) ∧ Below w.heap.size w w' :=
  callsIn_wide.1 (split_in p w hp)

theorem ys_le : ∀ l, ∀ x ∈ ys l, x ≤ 1073741824
  | [], x, h => by simp [ys] at h
  | f :: r, x, h => by
    unfold ys at h
    rcases List.mem_cons.1 h with h | h
    · rw [h]; exact num1_le f
    · split at h
      · cases h
      · exact ys_le r x h
theorem parse_length (p : List UInt8) : (parse p).length ≤ 8 := by
  unfold parse; split
  · rename_i h; exact h.2.1
  · simp
theorem parse_mem (p : List UInt8) : ∀ x ∈ parse p, 1 ≤ x ∧ x ≤ 1073741824 := by
  intro x hx
  unfold parse at hx
  split at hx
  · rename_i h; exact ⟨by have := h.1 x hx; omega, ys_le _ x hx⟩
  · cases hx

set_option maxRecDepth 100000 in
set_option maxHeartbeats 1000000 in
theorem deep_any (p : List UInt8) (w : World) (hp : p.length ≤ 1099511627776) :
    Calls Tryd.prog 12 #[.string ⟨p.toArray⟩] w fun e w' => e = .returned (.int .i64 ((parse p).length : Nat)) ∧ Below w.heap.size w w' := by
  have C := Lib.hid (fun w => split_any p w hp)
  go_enter Tryd.func12, Tryd.ntmps12
  go_wp2_with fail
  refine (C.out _).mono ?_
  rintro e w1 ⟨rfl, hb⟩
  unfold arr8
  go_wp2
  go_ret
  exact ⟨rfl, balloc hb _⟩

theorem may_any (p : List UInt8) (w : World) (hp : p.length ≤ 1099511627776) :
    Calls Tryd.prog 10 #[.string ⟨p.toArray⟩] w fun e w' => e = .returned (.bool (decide (0 < (parse p).length))) ∧ Below w.heap.size w w' := by
  have C := Lib.hid (fun w => deep_any p w hp)
  go_enter Tryd.func10, Tryd.ntmps10
  go_wp2_with fail
  refine (C.out _).mono ?_
  rintro e w1 ⟨rfl, hb⟩
  go_wp2
  go_ret
  exact ⟨congrArg (fun b => Ending.returned (.bool b)) (by rw [Bool.eq_iff_iff]), hb⟩

/-- A path's last number, of two or more. -/
def last (l : List Nat) : Nat := if l.length < 2 then 0 else l.getD (l.length - 1) 0
set_option maxRecDepth 100000 in
set_option maxHeartbeats 1000000 in
theorem numberOf_any (p : List UInt8) (w : World) (hp : p.length ≤ 1099511627776) :
    Calls Tryd.prog 16 #[.string ⟨p.toArray⟩] w fun e w' => e = .returned (.int .i64 ((last (parse p) : Nat) : Int)) ∧ Below w.heap.size w w' := by
  have C := Lib.hid (fun w => split_any p w hp)
  have h8 := parse_length p
  obtain ⟨l, hl⟩ : ∃ l, l = parse p := ⟨_, rfl⟩
  rw [← hl] at C h8 ⊢
  clear hl
  by_cases h2 : l.length < 2
  · have hd : decide ((l.length : Int) < 2) = true := decide_eq_true (by omega)
    have hv := Lib.hid (show last l = 0 by rw [last, if_pos h2])
    go_enter Tryd.func16, Tryd.ntmps16
    go_wp2_with fail
    refine (C.out _).mono ?_
    rintro e w1 ⟨rfl, hb⟩
    unfold arr8
    go_wp2
    go_ret
    exact ⟨by rw [hv.out]; rfl, balloc hb _⟩
  · have hd : decide ((l.length : Int) < 2) = false := decide_eq_false (by omega)
    have hv := Lib.hid (show last l = l.getD (l.length - 1) 0 by rw [last, if_neg h2])
    obtain ⟨k, hk⟩ : ∃ k, k = l.length - 1 := ⟨_, rfl⟩
    have hw : IntKind.i64.wrap ((l.length : Int) - 1) = (k : Int) := by rw [IntKind.wrap_i64]; omega
    have hk0 : (0 : Int) ≤ (k : Int) := by omega
    have hk8 : (k : Int) < 8 := by omega
    have hk9 : k < 8 := by omega
    have hget : ∀ (W : World) (b : Nat), b = W.heap.size → (W.alloc (.cells #[.int .i64 (l.getD 0 0 : Nat), .int .i64 (l.getD 1 0 : Nat), .int .i64 (l.getD 2 0 : Nat), .int .i64 (l.getD 3 0 : Nat), .int .i64 (l.getD 4 0 : Nat), .int .i64 (l.getD 5 0 : Nat), .int .i64 (l.getD 6 0 : Nat), .int .i64 (l.getD 7 0 : Nat)] 43)).cell? ⟨b, k, none⟩ = some (.int .i64 ((l.getD k 0 : Nat) : Int)) := by
      intro W b hb
      subst hb
      rw [World.cell?_alloc_new]
      match k, hk9 with
      | 0, _ | 1, _ | 2, _ | 3, _ | 4, _ | 5, _ | 6, _ | 7, _ => rfl
    have HG := Lib.hid hget
    clear hget
    go_enter Tryd.func16, Tryd.ntmps16
    go_wp2_with fail
    refine (C.out _).mono ?_
    rintro e w1 ⟨rfl, hb⟩
    have hg := HG.out w1 _ rfl
    unfold arr8
    generalize hy : l.getD k 0 = y at hg
    have HY := Lib.hid hy
    clear hy
    generalize l.getD 0 0 = x0 at hg ⊢
    generalize l.getD 1 0 = x1 at hg ⊢
    generalize l.getD 2 0 = x2 at hg ⊢
    generalize l.getD 3 0 = x3 at hg ⊢
    generalize l.getD 4 0 = x4 at hg ⊢
    generalize l.getD 5 0 = x5 at hg ⊢
    generalize l.getD 6 0 = x6 at hg ⊢
    generalize l.getD 7 0 = x7 at hg ⊢
    have hk' := Lib.hid hk
    clear hk
    go_wp2
    go_ret
    exact ⟨by rw [hv.out, ← hk'.out, HY.out]; rfl, balloc hb _⟩

end Path
end Go.Proofs.YtagpbhghmhamdaaDoor
