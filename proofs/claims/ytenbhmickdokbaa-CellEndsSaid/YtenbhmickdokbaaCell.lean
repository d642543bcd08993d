/- The contracts of package cell. -/
import Derived.Test.YtenbhmickdokbaaProg
import Derived.Test.YtenbhmickdokbaaShelf
import Derived.Test.YtenbhmickdokbaaStr
import Derived.Test.YtenbhmickdokbaaFrame
import Derived.WalkKit
import Derived.WalkSpells
import Derived.WalkLawsBesides
import Derived.Lib.Hide
import Derived.Deep.RegionHeld3
namespace Go.Proofs.Ytenbhmickdokbaa
namespace Cell
open Go.RowKit

/-- Three ways. -/
def ord (a b : Int) : Int := if a < b then -1 else if b < a then 1 else 0
def th (g : Bool) : Int := if g then 0 else 1

set_option maxHeartbeats 400000 in
theorem isNaN_u64 (x : Int) (w : World) : Calls Try.prog 25 #[.int .u64 x] w fun e w' => e = .returned (.bool false) ∧ w = w' := by
  go_enter Try.func25, Try.ntmps25
  go_wp2
  go_ret
  exact ⟨by simp, rfl⟩

set_option maxHeartbeats 400000 in
theorem cmp_u64 (x y : Int) (w : World) : Calls Try.prog 19 #[.int .u64 x, .int .u64 y] w fun e w' => e = .returned (.int .i64 (ord x y)) ∧ w = w' := by
  by_cases h1 : x < y
  · have h : ord x y = -1 := by rw [ord, if_pos h1]
    go_enter Try.func19, Try.ntmps19
    go_wp2_with fail
    refine (isNaN_u64 _ _).mono ?_
    rintro e w' ⟨rfl, rfl⟩
    go_wp2_with fail
    refine (isNaN_u64 _ _).mono ?_
    rintro e w' ⟨rfl, rfl⟩
    go_wp2
    go_ret
    exact ⟨by rw [h]; rfl, rfl⟩
  by_cases h2 : y < x
  · have h : ord x y = 1 := by rw [ord, if_neg h1, if_pos h2]
    go_enter Try.func19, Try.ntmps19
    go_wp2_with fail
    refine (isNaN_u64 _ _).mono ?_
    rintro e w' ⟨rfl, rfl⟩
    go_wp2_with fail
    refine (isNaN_u64 _ _).mono ?_
    rintro e w' ⟨rfl, rfl⟩
    go_wp2
    go_ret
    exact ⟨by rw [h]; rfl, rfl⟩
  · have h : ord x y = 0 := by rw [ord, if_neg h1, if_neg h2]
    go_enter Try.func19, Try.ntmps19
    go_wp2_with fail
    refine (isNaN_u64 _ _).mono ?_
    rintro e w' ⟨rfl, rfl⟩
    go_wp2_with fail
    refine (isNaN_u64 _ _).mono ?_
    rintro e w' ⟨rfl, rfl⟩
    go_wp2
    go_ret
    exact ⟨by rw [h]; rfl, rfl⟩

set_option maxHeartbeats 400000 in
theorem there_any (s : Int) (t : ByteArray) (g : Bool) (w : World) :
    Calls Try.prog 22 #[.agg #[.int .u64 s, .string t, .bool g]] w fun e w' => e = .returned (.int .i64 (th g)) ∧ Below w.heap.size w w' := by
  cases g
  · go_enter Try.func22, Try.ntmps22
    go_wp2
    go_ret
    exact ⟨rfl, (Below.refl _ _).alloc (Nat.le_refl _) _⟩
  · go_enter Try.func22, Try.ntmps22
    go_wp2
    go_ret
    exact ⟨rfl, (Below.refl _ _).alloc (Nat.le_refl _) _⟩

/-- A struct of a cell that lies in a box. -/
def In (w : World) (b : Nat) (s : Int) (t : ByteArray) (g : Bool) : Prop :=
  w.cell? ⟨b, 0, none⟩ = some (.int .u64 s) ∧ w.cell? ⟨b, 1, none⟩ = some (.string t) ∧ w.cell? ⟨b, 2, none⟩ = some (.bool g)
theorem In.below {w w' : World} {b : Nat} {s : Int} {t : ByteArray} {g : Bool} (h : In w b s t g) (k : Below w.heap.size w w') : In w' b s t g := by
  obtain ⟨h1, h2, h3⟩ := h
  have hb : b < w.heap.size := World.block_lt_of_cell? w ⟨b, 0, none⟩ h1
  exact ⟨by rw [k.cell (p := ⟨b, 0, none⟩) hb]; exact h1, by rw [k.cell (p := ⟨b, 1, none⟩) hb]; exact h2, by rw [k.cell (p := ⟨b, 2, none⟩) hb]; exact h3⟩

theorem In.alloc {w : World} {b : Nat} {s : Int} {t : ByteArray} {g : Bool} (h : In w b s t g) (o : Obj) : In (w.alloc o) b s t g := h.below (balloc (Below.refl _ _) o)
theorem In.new (w : World) (s : Int) (t : ByteArray) (g : Bool) (b : Nat) (hb : b = w.heap.size) : In (w.alloc (.cells #[.int .u64 s, .string t, .bool g] 24)) b s t g := by
  subst hb
  exact ⟨by rw [World.cell?_alloc_new]; rfl, by rw [World.cell?_alloc_new]; rfl, by rw [World.cell?_alloc_new]; rfl⟩

set_option maxHeartbeats 400000 in
theorem one_any (b b' : Nat) (s s' : Int) (t t' : ByteArray) (g g' : Bool) (w : World) (h : In w b s t g) (h' : In w b' s' t' g') :
    Calls Try.prog 18 #[.pointer (some ⟨b, 0, none⟩), .pointer (some ⟨b', 0, none⟩)] w fun e w' => e = .returned (.int .i64 (ord s s')) ∧ Below w.heap.size w w' := by
  obtain ⟨h1, h2, h3⟩ := h
  obtain ⟨k1, k2, k3⟩ := h'
  go_enter Try.func18, Try.ntmps18
  go_wp2_with fail
  refine (cmp_u64 _ _ _).mono ?_
  rintro e w' ⟨rfl, rfl⟩
  go_wp2
  go_ret
  exact ⟨rfl, Below.refl _ _⟩
set_option maxHeartbeats 400000 in
theorem three_any (b b' : Nat) (s s' : Int) (t t' : ByteArray) (g g' : Bool) (w : World) (h : In w b s t g) (h' : In w b' s' t' g') :
    Calls Try.prog 23 #[.pointer (some ⟨b, 0, none⟩), .pointer (some ⟨b', 0, none⟩)] w fun e w' => e = .returned (.int .i64 (Lib.compareBytes t.data.toList t'.data.toList)) ∧ Below w.heap.size w w' := by
  obtain ⟨h1, h2, h3⟩ := h
  obtain ⟨k1, k2, k3⟩ := h'
  go_enter Try.func23, Try.ntmps23
  go_wp2_with fail
  refine (Try.strings_Compare _ _ _).mono ?_
  rintro e w' ⟨rfl, hw⟩
  subst hw
  go_wp2
  go_ret
  exact ⟨rfl, Below.refl _ _⟩

theorem In6.below {w w' : World} {b b' : Nat} {s s' : Int} {t t' : ByteArray} {g g' : Bool}
    (h : w.cell? ⟨b, 0, none⟩ = some (.int .u64 s) ∧ w.cell? ⟨b, 1, none⟩ = some (.string t) ∧ w.cell? ⟨b, 2, none⟩ = some (.bool g) ∧ w.cell? ⟨b', 0, none⟩ = some (.int .u64 s') ∧ w.cell? ⟨b', 1, none⟩ = some (.string t') ∧ w.cell? ⟨b', 2, none⟩ = some (.bool g')) (k : Below w.heap.size w w') :
    w'.cell? ⟨b, 0, none⟩ = some (.int .u64 s) ∧ w'.cell? ⟨b, 1, none⟩ = some (.string t) ∧ w'.cell? ⟨b, 2, none⟩ = some (.bool g) ∧ w'.cell? ⟨b', 0, none⟩ = some (.int .u64 s') ∧ w'.cell? ⟨b', 1, none⟩ = some (.string t') ∧ w'.cell? ⟨b', 2, none⟩ = some (.bool g') := by
  obtain ⟨h1, h2, h3, h4, h5, h6⟩ := h
  obtain ⟨a1, a2, a3⟩ := In.below (b := b) ⟨h1, h2, h3⟩ k
  obtain ⟨a4, a5, a6⟩ := In.below (b := b') ⟨h4, h5, h6⟩ k
  exact ⟨a1, a2, a3, a4, a5, a6⟩
set_option maxHeartbeats 1000000 in
theorem two_any (b b' : Nat) (s s' : Int) (t t' : ByteArray) (g g' : Bool) (w : World) (h : In w b s t g) (h' : In w b' s' t' g') :
    Calls Try.prog 20 #[.pointer (some ⟨b, 0, none⟩), .pointer (some ⟨b', 0, none⟩)] w fun e w' => e = .returned (.int .i64 (Lib.compareInt (th g) (th g'))) ∧ Below w.heap.size w w' := by
  obtain ⟨h1, h2, h3⟩ := h
  obtain ⟨k1, k2, k3⟩ := h'
  go_enter Try.func20, Try.ntmps20
  go_wp2_with fail
  go_region_held3 (fun w' => w'.cell? ⟨b, 0, none⟩ = some (.int .u64 s) ∧ w'.cell? ⟨b, 1, none⟩ = some (.string t) ∧ w'.cell? ⟨b, 2, none⟩ = some (.bool g) ∧ w'.cell? ⟨b', 0, none⟩ = some (.int .u64 s') ∧ w'.cell? ⟨b', 1, none⟩ = some (.string t') ∧ w'.cell? ⟨b', 2, none⟩ = some (.bool g'))
    (first | go_keep | (refine In6.below ?_ k7; first | assumption | (simp; assumption)) | (refine In6.below ?_ k6; first | assumption | (simp; assumption)))
    (first | (go_at_call 22; refine (there_any s t g _).mono ?_; rintro e w6 ⟨rfl, k6⟩; go_wp2_with fail) | (go_at_call 22; refine (there_any s' t' g' _).mono ?_; rintro e w7 ⟨rfl, k7⟩; go_wp2_with fail) | (go_at_call 21; refine (Try.cmp_Compare_int _ _ _).mono ?_; rintro e w8 ⟨rfl, hw⟩; subst hw; go_wp2_with fail))
  go_wp2
  go_ret
  exact ⟨rfl, bstep (bstep (Below.drew (Below.refl _ _)) k6) k7⟩

/-- The order of cells. -/
def cmp (s : Int) (t : ByteArray) (g : Bool) (s' : Int) (t' : ByteArray) (g' : Bool) : Int :=
  if ord s s' = 0 then if Lib.compareInt (th g) (th g') = 0 then Lib.compareBytes t.data.toList t'.data.toList else Lib.compareInt (th g) (th g') else ord s s'
theorem cmp_1 {s s' : Int} (t t' : ByteArray) (g g' : Bool) (h : ord s s' ≠ 0) : cmp s t g s' t' g' = ord s s' := by rw [cmp, if_neg h]
theorem cmp_2 {s s' : Int} (t t' : ByteArray) {g g' : Bool} (h : ord s s' = 0) (h' : Lib.compareInt (th g) (th g') ≠ 0) : cmp s t g s' t' g' = Lib.compareInt (th g) (th g') := by rw [cmp, if_pos h, if_neg h']
theorem cmp_3 {s s' : Int} (t t' : ByteArray) {g g' : Bool} (h : ord s s' = 0) (h' : Lib.compareInt (th g) (th g') = 0) : cmp s t g s' t' g' = Lib.compareBytes t.data.toList t'.data.toList := by rw [cmp, if_pos h, if_pos h']

/-- The closures' row: three cells. -/
def Row (w : World) (b b' r : Nat) : Prop :=
  w.cell? ⟨r, 0, none⟩ = some (.func (.func 18) #[] #[.pointer (some ⟨b, 0, none⟩), .pointer (some ⟨b', 0, none⟩)]) ∧
  w.cell? ⟨r, 1, none⟩ = some (.func (.func 20) #[] #[.pointer (some ⟨b, 0, none⟩), .pointer (some ⟨b', 0, none⟩)]) ∧
  w.cell? ⟨r, 2, none⟩ = some (.func (.func 23) #[] #[.pointer (some ⟨b, 0, none⟩), .pointer (some ⟨b', 0, none⟩)])
theorem Row.below {w w' : World} {b b' r : Nat} (h : Row w b b' r) (k : Below w.heap.size w w') : Row w' b b' r := by
  obtain ⟨h1, h2, h3⟩ := h
  have hb : r < w.heap.size := World.block_lt_of_cell? w ⟨r, 0, none⟩ h1
  exact ⟨by rw [k.cell (p := ⟨r, 0, none⟩) hb]; exact h1, by rw [k.cell (p := ⟨r, 1, none⟩) hb]; exact h2, by rw [k.cell (p := ⟨r, 2, none⟩) hb]; exact h3⟩

theorem Row.new (w : World) (b b' r : Nat) (hr : r = w.heap.size) : Row (w.alloc (.cells #[.func (.func 18) #[] #[.pointer (some ⟨b, 0, none⟩), .pointer (some ⟨b', 0, none⟩)], .func (.func 20) #[] #[.pointer (some ⟨b, 0, none⟩), .pointer (some ⟨b', 0, none⟩)], .func (.func 23) #[] #[.pointer (some ⟨b, 0, none⟩), .pointer (some ⟨b', 0, none⟩)]] 42)) b b' r := by
  subst hr
  exact ⟨by rw [World.cell?_alloc_new]; rfl, by rw [World.cell?_alloc_new]; rfl, by rw [World.cell?_alloc_new]; rfl⟩

set_option maxRecDepth 100000 in
set_option maxHeartbeats 2000000 in
theorem compare_any (s s' : Int) (t t' : ByteArray) (g g' : Bool) (w : World) :
    Calls Try.prog 14 #[.agg #[.int .u64 s, .string t, .bool g], .agg #[.int .u64 s', .string t', .bool g']] w fun e w' => e = .returned (.int .i64 (cmp s t g s' t' g')) ∧ Below w.heap.size w w' := by
  have hmf : ∀ (fn : Fn) (first cap : Array Value) (w : World), (Instr.makeFunc fn first cap).run Try.prog w = .ok (.func fn first cap) w := fun _ _ _ _ => rfl
  go_enter Try.func14, Try.ntmps14
  go_wp2
  go_loopw [15] (fun i wr => ∃ k : Nat, k ≤ 3 ∧ i = .int .i64 k ∧ (1 ≤ k → ord s s' = 0) ∧ (2 ≤ k → Lib.compareInt (th g) (th g') = 0) ∧ (3 ≤ k → Lib.compareBytes t.data.toList t'.data.toList = 0) ∧ In wr w.heap.size s t g ∧ In wr (w.heap.size + 1) s' t' g' ∧ Row wr w.heap.size (w.heap.size + 1) (w.heap.size + 2) ∧ Below w.heap.size w wr) (fun i _ => 3 - (intOf i).toNat)
  case atStart =>
    exact ⟨0, by omega, rfl, by omega, by omega, by omega, ((In.new _ _ _ _ _ rfl).alloc _).alloc _, (In.new _ _ _ _ _ (by simp)).alloc _, Row.new _ _ _ _ (by simp), balloc (balloc (balloc (Below.refl _ _) _) _) _⟩
  case round =>
    obtain ⟨k, hk, rfl, h1, h2, h3, hi, hi', hr, hb⟩ := hrel
    obtain ⟨r1, r2, r3⟩ := id hr
    by_cases k0 : k = 0
    · subst k0
      have C := Lib.hid (one_any w.heap.size (w.heap.size + 1) s s' t t' g g' wr hi hi')
      have R := Lib.hid hr
      have I := Lib.hid hi
      have I' := Lib.hid hi'
      have H1 := Lib.hid h1
      have H2 := Lib.hid h2
      clear h1 h2 h3 hi hi' hr
      obtain ⟨x, hx⟩ : ∃ x, x = ord s s' := ⟨_, rfl⟩
      rw [← hx] at C
      by_cases hz : x = 0
      · have hq : (x != 0) = false := by rw [hz]; rfl
        have E := Lib.hid (hx.symm.trans hz)
        clear hx hz
        go_wp2_with fail
        refine C.out.mono ?_
        rintro e w' ⟨rfl, k'⟩
        go_wp2
        exact ⟨⟨1, by omega, rfl, fun h => E.out, fun h => by omega, fun h => by omega, I.out.below k', I'.out.below k', R.out.below k', bstep hb k'⟩, by simp [intOf]⟩
      · have hq : (x != 0) = true := by rw [bne_iff_ne]; exact hz
        have E := Lib.hid (show x = cmp s t g s' t' g' by rw [cmp_1 t t' g g' (by rw [← hx]; exact hz), hx])
        clear hx hz
        go_wp2_with fail
        refine C.out.mono ?_
        rintro e w' ⟨rfl, k'⟩
        go_wp2
        go_ret
        rw [← E.out]
        exact ⟨rfl, bstep hb k'⟩
    by_cases k1 : k = 1
    · subst k1
      have C := Lib.hid (two_any w.heap.size (w.heap.size + 1) s s' t t' g g' wr hi hi')
      have R := Lib.hid hr
      have I := Lib.hid hi
      have I' := Lib.hid hi'
      have H1 := Lib.hid h1
      have H2 := Lib.hid h2
      clear h1 h2 h3 hi hi' hr
      obtain ⟨x, hx⟩ : ∃ x, x = Lib.compareInt (th g) (th g') := ⟨_, rfl⟩
      rw [← hx] at C
      by_cases hz : x = 0
      · have hq : (x != 0) = false := by rw [hz]; rfl
        have E := Lib.hid (hx.symm.trans hz)
        clear hx hz
        go_wp2_with fail
        refine C.out.mono ?_
        rintro e w' ⟨rfl, k'⟩
        go_wp2
        exact ⟨⟨2, by omega, rfl, fun h => H1.out (by omega), fun h => E.out, fun h => by omega, I.out.below k', I'.out.below k', R.out.below k', bstep hb k'⟩, by simp [intOf]⟩
      · have hq : (x != 0) = true := by rw [bne_iff_ne]; exact hz
        have E := Lib.hid (show x = cmp s t g s' t' g' by rw [cmp_2 t t' (H1.out (by omega)) (by rw [← hx]; exact hz), hx])
        clear hx hz
        go_wp2_with fail
        refine C.out.mono ?_
        rintro e w' ⟨rfl, k'⟩
        go_wp2
        go_ret
        rw [← E.out]
        exact ⟨rfl, bstep hb k'⟩
    by_cases k2 : k = 2
    · subst k2
      have C := Lib.hid (three_any w.heap.size (w.heap.size + 1) s s' t t' g g' wr hi hi')
      have R := Lib.hid hr
      have I := Lib.hid hi
      have I' := Lib.hid hi'
      have H1 := Lib.hid h1
      have H2 := Lib.hid h2
      clear h1 h2 h3 hi hi' hr
      obtain ⟨x, hx⟩ : ∃ x, x = Lib.compareBytes t.data.toList t'.data.toList := ⟨_, rfl⟩
      rw [← hx] at C
      by_cases hz : x = 0
      · have hq : (x != 0) = false := by rw [hz]; rfl
        have E := Lib.hid (hx.symm.trans hz)
        clear hx hz
        go_wp2_with fail
        refine C.out.mono ?_
        rintro e w' ⟨rfl, k'⟩
        go_wp2
        exact ⟨⟨3, by omega, rfl, fun h => H1.out (by omega), fun h => H2.out (by omega), fun h => E.out, I.out.below k', I'.out.below k', R.out.below k', bstep hb k'⟩, by simp [intOf]⟩
      · have hq : (x != 0) = true := by rw [bne_iff_ne]; exact hz
        have E := Lib.hid (show x = cmp s t g s' t' g' by rw [cmp_3 t t' (H1.out (by omega)) (H2.out (by omega)), hx])
        clear hx hz
        go_wp2_with fail
        refine C.out.mono ?_
        rintro e w' ⟨rfl, k'⟩
        go_wp2
        go_ret
        rw [← E.out]
        exact ⟨rfl, bstep hb k'⟩
    obtain rfl : k = 3 := by omega
    have E := Lib.hid (show cmp s t g s' t' g' = 0 by rw [cmp_3 t t' (h1 (by omega)) (h2 (by omega)), h3 (by omega)])
    clear h1 h2 h3
    go_wp2
    go_ret
    rw [E.out]
    exact ⟨rfl, hb⟩

end Cell
end Go.Proofs.Ytenbhmickdokbaa
