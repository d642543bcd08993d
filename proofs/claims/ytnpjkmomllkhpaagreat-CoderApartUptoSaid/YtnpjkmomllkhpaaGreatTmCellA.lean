/- Merged texts: Cell, CellMore. -/
import Derived.Test.YtnpjkmomllkhpaaGreatProg
import Derived.Test.YtnpjkmomllkhpaaGreatShelf
import Derived.Test.YtnpjkmomllkhpaaGreatTmStr
import Derived.Test.YtnpjkmomllkhpaaGreatTmBase
import Derived.WalkKit
import Derived.WalkSpells
import Derived.WalkLawsBesides
import Derived.Lib.Hide
import Derived.Deep.RegionHeld3
namespace Go.Proofs.YtnpjkmomllkhpaaGreat
namespace Cell
open Go.RowKit

/-- Three ways. -/
def ord (a b : Int) : Int := if a < b then -1 else if b < a then 1 else 0
def th (g : Bool) : Int := if g then 0 else 1

set_option maxHeartbeats 400000 in
theorem isNaN_u64 (x : Int) (w : World) : Calls Tryz.prog 110 #[.int .u64 x] w fun e w' => e = .returned (.bool false) ∧ w = w' := by
  go_enter Tryz.func110, Tryz.ntmps110
  go_wp2
  go_ret
  exact ⟨by simp, rfl⟩

set_option maxHeartbeats 400000 in
theorem cmp_u64 (x y : Int) (w : World) : Calls Tryz.prog 100 #[.int .u64 x, .int .u64 y] w fun e w' => e = .returned (.int .i64 (ord x y)) ∧ w = w' := by
  by_cases h1 : x < y
  · have h : ord x y = -1 := by rw [ord, if_pos h1]
    go_enter Tryz.func100, Tryz.ntmps100
    go_wp2_with fail
    refine (isNaN_u64 _ _).mono ?_
    rintro e w' ⟨rfl, rfl⟩
    go_wp2_with fail
    refine (isNaN_u64 _ _).mono ?_
    rintro e w' ⟨rfl, rfl⟩
    go_wp2
    go_ret
    exact ⟨by rw [h]; rfl, rfl⟩
  by_cases h2 : y < x
  · have h : ord x y = 1 := by rw [ord, if_neg h1, if_pos h2]
    go_enter Tryz.func100, Tryz.ntmps100
    go_wp2_with fail
    refine (isNaN_u64 _ _).mono ?_
    rintro e w' ⟨rfl, rfl⟩
    go_wp2_with fail
    refine (isNaN_u64 _ _).mono ?_
    rintro e w' ⟨rfl, rfl⟩
    go_wp2
    go_ret
    exact ⟨by rw [h]; rfl, rfl⟩
  · have h : ord x y = 0 := by rw [ord, if_neg h1, if_neg h2]
    go_enter Tryz.func100, Tryz.ntmps100
    go_wp2_with fail
    refine (isNaN_u64 _ _).mono ?_
    rintro e w' ⟨rfl, rfl⟩
    go_wp2_with fail
    refine (isNaN_u64 _ _).mono ?_
    rintro e w' ⟨rfl, rfl⟩
    go_wp2
    go_ret
    exact ⟨by rw [h]; rfl, rfl⟩

/-- A struct of a cell that lies in a box. -/
def In (w : World) (b : Nat) (s : Int) (t : ByteArray) (g : Bool) : Prop :=
  w.cell? ⟨b, 0, none⟩ = some (.int .u64 s) ∧ w.cell? ⟨b, 1, none⟩ = some (.string t) ∧ w.cell? ⟨b, 2, none⟩ = some (.bool g)
theorem In.below {w w' : World} {b : Nat} {s : Int} {t : ByteArray} {g : Bool} (h : In w b s t g) (k : Below w.heap.size w w') : In w' b s t g := by
  obtain ⟨h1, h2, h3⟩ := h
  have hb : b < w.heap.size := World.block_lt_of_cell? w ⟨b, 0, none⟩ h1
  exact ⟨by rw [k.cell (p := ⟨b, 0, none⟩) hb]; exact h1, by rw [k.cell (p := ⟨b, 1, none⟩) hb]; exact h2, by rw [k.cell (p := ⟨b, 2, none⟩) hb]; exact h3⟩

theorem In.alloc {w : World} {b : Nat} {s : Int} {t : ByteArray} {g : Bool} (h : In w b s t g) (o : Obj) : In (w.alloc o) b s t g := h.below (balloc (Below.refl _ _) o)
theorem In.new (w : World) (s : Int) (t : ByteArray) (g : Bool) (b : Nat) (hb : b = w.heap.size) : In (w.alloc (.cells #[.int .u64 s, .string t, .bool g] 27)) b s t g := by
  subst hb
  exact ⟨by rw [World.cell?_alloc_new]; rfl, by rw [World.cell?_alloc_new]; rfl, by rw [World.cell?_alloc_new]; rfl⟩

theorem In6.below {w w' : World} {b b' : Nat} {s s' : Int} {t t' : ByteArray} {g g' : Bool}
    (h : w.cell? ⟨b, 0, none⟩ = some (.int .u64 s) ∧ w.cell? ⟨b, 1, none⟩ = some (.string t) ∧ w.cell? ⟨b, 2, none⟩ = some (.bool g) ∧ w.cell? ⟨b', 0, none⟩ = some (.int .u64 s') ∧ w.cell? ⟨b', 1, none⟩ = some (.string t') ∧ w.cell? ⟨b', 2, none⟩ = some (.bool g')) (k : Below w.heap.size w w') :
    w'.cell? ⟨b, 0, none⟩ = some (.int .u64 s) ∧ w'.cell? ⟨b, 1, none⟩ = some (.string t) ∧ w'.cell? ⟨b, 2, none⟩ = some (.bool g) ∧ w'.cell? ⟨b', 0, none⟩ = some (.int .u64 s') ∧ w'.cell? ⟨b', 1, none⟩ = some (.string t') ∧ w'.cell? ⟨b', 2, none⟩ = some (.bool g') := by
  obtain ⟨h1, h2, h3, h4, h5, h6⟩ := h
  obtain ⟨a1, a2, a3⟩ := In.below (b := b) ⟨h1, h2, h3⟩ k
  obtain ⟨a4, a5, a6⟩ := In.below (b := b') ⟨h4, h5, h6⟩ k
  exact ⟨a1, a2, a3, a4, a5, a6⟩
/-- The order of cells. -/
def cmp (s : Int) (t : ByteArray) (g : Bool) (s' : Int) (t' : ByteArray) (g' : Bool) : Int :=
  if ord s s' = 0 then if Lib.compareInt (th g) (th g') = 0 then Lib.compareBytes t.data.toList t'.data.toList else Lib.compareInt (th g) (th g') else ord s s'
theorem cmp_1 {s s' : Int} (t t' : ByteArray) (g g' : Bool) (h : ord s s' ≠ 0) : cmp s t g s' t' g' = ord s s' := by rw [cmp, if_neg h]
theorem cmp_2 {s s' : Int} (t t' : ByteArray) {g g' : Bool} (h : ord s s' = 0) (h' : Lib.compareInt (th g) (th g') ≠ 0) : cmp s t g s' t' g' = Lib.compareInt (th g) (th g') := by rw [cmp, if_pos h, if_neg h']
theorem cmp_3 {s s' : Int} (t t' : ByteArray) {g g' : Bool} (h : ord s s' = 0) (h' : Lib.compareInt (th g) (th g') = 0) : cmp s t g s' t' g' = Lib.compareBytes t.data.toList t'.data.toList := by rw [cmp, if_pos h, if_pos h']

end Cell
end Go.Proofs.YtnpjkmomllkhpaaGreat

namespace Go.Proofs.YtnpjkmomllkhpaaGreat
namespace Cell
open Go.RowKit

/-- Which cells may be. -/
def may (s : Int) (t : ByteArray) (g : Bool) : Bool := if s = 0 then !g && t.toList.isEmpty else decide (s ≤ 281474976710656) && decide ((t.size : Int) ≤ 4096) && !(g && !t.toList.isEmpty)

set_option maxHeartbeats 1000000 in
theorem may_any (s : Int) (t : ByteArray) (g : Bool) (w : World) :
    Calls Tryz.prog 42 #[.agg #[.int .u64 s, .string t, .bool g]] w fun e w' => e = .returned (.bool (may s t g)) ∧ Below w.heap.size w w' := by
  go_enter Tryz.func42, Tryz.ntmps42
  go_wp2
  all_goals
    go_ret
    refine ⟨?_, balloc (Below.refl _ _) _⟩
    first
    | (simp_all [may]; done)
    | (simp_all [may]; omega)

/-- What is written: a cell, and a number of an error. -/
def wrote (s : Int) (tx : ByteArray) (gone : Bool) : (Int × ByteArray × Bool) × Int :=
  if 4096 < (tx.size : Int) then ((0, ⟨#[]⟩, false), 4) else if 281474976710656 ≤ s then ((0, ⟨#[]⟩, false), 9) else ((s + 1, (if gone then ⟨#[]⟩ else tx), gone), 0)

/-- What a cell tells. -/
def tell (s : Int) (t : ByteArray) (g : Bool) : ByteArray × Bool := if s = 0 ∨ g = true then (⟨#[]⟩, false) else (t, true)

set_option maxHeartbeats 400000 in
theorem large_any (s : Int) (t : ByteArray) (g : Bool) (w : World) :
    Calls Tryz.prog 15 #[.agg #[.int .u64 s, .string t, .bool g]] w fun e w' => e = .returned (.bool (decide (8192 < (t.size : Int)))) ∧ Below w.heap.size w w' := by
  go_enter Tryz.func15, Tryz.ntmps15
  go_wp2
  go_ret
  exact ⟨rfl, balloc (Below.refl _ _) _⟩

/-- Two boxes and a struct's room, behind a call. -/
theorem boxes {w w' : World} {s s' : Int} {t t' : ByteArray} {g g' : Bool}
    (k : Below (((w.alloc (.cells #[.int .u64 s, .string t, .bool g] 27)).alloc (.cells #[.int .u64 s', .string t', .bool g'] 27)).alloc (.cells #[.int .u64 0, .string ⟨#[]⟩, .bool false] 27)).heap.size
      (((w.alloc (.cells #[.int .u64 s, .string t, .bool g] 27)).alloc (.cells #[.int .u64 s', .string t', .bool g'] 27)).alloc (.cells #[.int .u64 0, .string ⟨#[]⟩, .bool false] 27)) w') :
    In w' w.heap.size s t g ∧ In w' (w.heap.size + 1) s' t' g' ∧ In w' (w.heap.size + 1 + 1) 0 ⟨#[]⟩ false ∧ (∀ j, w'.frozen? ⟨w.heap.size + 1 + 1, j, none⟩ = false) ∧ w.heap.size + 1 + 1 < w'.heap.size ∧ Below w.heap.size w w' := by
  refine ⟨(((In.new w s t g _ rfl).alloc _).alloc _).below k, ((In.new _ s' t' g' _ (by simp)).alloc _).below k, (In.new _ _ _ _ _ (by simp)).below k, fun j => ?_, ?_, bstep (balloc (balloc (balloc (Below.refl _ _) _) _) _) k⟩
  · exact (k.frozen (p := ⟨w.heap.size + 1 + 1, j, none⟩) (by simp)).trans (World.frozen?_alloc_at _ _ _ _ (by simp))
  · have := k.size; simp at this; omega

/-- The later of both. -/
def later (s : Int) (t : ByteArray) (g : Bool) (s' : Int) (t' : ByteArray) (g' : Bool) : Int × ByteArray × Bool := if cmp s t g s' t' g' < 0 then (s', t', g') else (s, t, g)

end Cell
end Go.Proofs.YtnpjkmomllkhpaaGreat
