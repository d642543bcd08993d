/- The laws' small known cases: alive() answers true. -/
import Derived.Test.YtenbhmickdokbaaCellRef
namespace Go.Proofs.Ytenbhmickdokbaa
namespace Cell
open Go.RowKit

theorem In.lt {w : World} {b : Nat} {s : Int} {t : ByteArray} {g : Bool} (h : In w b s t g) : b < w.heap.size := World.block_lt_of_cell? w ⟨b, 0, none⟩ h.1

theorem write_to {s : Int} {tx : ByteArray} {gone : Bool} {s2 : Int} {t2 : ByteArray} {g2 : Bool} {n : Int} (h : wrote s tx gone = ((s2, t2, g2), n)) (hs : 0 ≤ s) (t : ByteArray) (g : Bool) (w : World) :
    Calls Try.prog 8 #[.agg #[.int .u64 s, .string t, .bool g], .string tx, .bool gone] w fun e w' =>
      e = .returned (.tuple #[.agg #[.int .u64 s2, .string t2, .bool g2], .int .i64 n]) ∧ Below w.heap.size w w' := by
  have := write_any s t g tx gone w hs
  rwa [h] at this
theorem refwrite_to {s : Int} {tx : ByteArray} {gone : Bool} {s2 : Int} {t2 : ByteArray} {g2 : Bool} {n : Int} (h : wrote s tx gone = ((s2, t2, g2), n)) (hs : 0 ≤ s) (t : ByteArray) (g : Bool) (w : World) :
    Calls Try.prog 9 #[.agg #[.int .u64 s, .string t, .bool g], .string tx, .bool gone] w fun e w' =>
      e = .returned (.tuple #[.agg #[.int .u64 s2, .string t2, .bool g2], .int .i64 n]) ∧ Below w.heap.size w w' := by
  have := refwrite_any s t g tx gone w hs
  rwa [h] at this
theorem join_to {s s' : Int} {t t' : ByteArray} {g g' : Bool} {s2 : Int} {t2 : ByteArray} {g2 : Bool} (h : later s t g s' t' g' = (s2, t2, g2)) (w : World) :
    Calls Try.prog 16 #[.agg #[.int .u64 s, .string t, .bool g], .agg #[.int .u64 s', .string t', .bool g']] w fun e w' =>
      e = .returned (.agg #[.int .u64 s2, .string t2, .bool g2]) ∧ Below w.heap.size w w' := by
  have := join_any s s' t t' g g' w
  rwa [h] at this
theorem refjoin_to {s s' : Int} {t t' : ByteArray} {g g' : Bool} {s2 : Int} {t2 : ByteArray} {g2 : Bool} (h : later s t g s' t' g' = (s2, t2, g2)) (w : World) :
    Calls Try.prog 17 #[.agg #[.int .u64 s, .string t, .bool g], .agg #[.int .u64 s', .string t', .bool g']] w fun e w' =>
      e = .returned (.agg #[.int .u64 s2, .string t2, .bool g2]) ∧ Below w.heap.size w w' := by
  have := refjoin_any s s' t t' g g' w
  rwa [h] at this
theorem text_to {s : Int} {t : ByteArray} {g : Bool} {t2 : ByteArray} {b : Bool} (h : tell s t g = (t2, b)) (w : World) :
    Calls Try.prog 10 #[.agg #[.int .u64 s, .string t, .bool g]] w fun e w' => e = .returned (.tuple #[.string t2, .bool b]) ∧ Below w.heap.size w w' := by
  have := text_any s t g w
  rwa [h] at this
theorem reftext_to {s : Int} {t : ByteArray} {g : Bool} {t2 : ByteArray} {b : Bool} (h : tell s t g = (t2, b)) (w : World) :
    Calls Try.prog 11 #[.agg #[.int .u64 s, .string t, .bool g]] w fun e w' => e = .returned (.tuple #[.string t2, .bool b]) ∧ Below w.heap.size w w' := by
  have := reftext_any s t g w
  rwa [h] at this
theorem may_to {s : Int} {t : ByteArray} {g : Bool} {b : Bool} (h : may s t g = b) (w : World) :
    Calls Try.prog 12 #[.agg #[.int .u64 s, .string t, .bool g]] w fun e w' => e = .returned (.bool b) ∧ Below w.heap.size w w' := by
  have := may_any s t g w
  rwa [h] at this
theorem compare_to {s s' : Int} {t t' : ByteArray} {g g' : Bool} {n : Int} (h : cmp s t g s' t' g' = n) (w : World) :
    Calls Try.prog 14 #[.agg #[.int .u64 s, .string t, .bool g], .agg #[.int .u64 s', .string t', .bool g']] w fun e w' => e = .returned (.int .i64 n) ∧ Below w.heap.size w w' := by
  have := compare_any s s' t t' g g' w
  rwa [h] at this

set_option maxRecDepth 100000 in
set_option maxHeartbeats 2000000 in
theorem alive_any (w : World) : Calls Try.prog 7 #[] w fun e w' => e = .returned (.bool true) ∧ Below w.heap.size w w' := by
  have X := Lib.hid (write_to (s := 0) (tx := ⟨#[120]⟩) (gone := false) (s2 := 1) (t2 := ⟨#[120]⟩) (g2 := false) (n := 0) (by rfl) (by decide))
  have Y := Lib.hid (write_to (s := 1) (tx := ⟨#[121]⟩) (gone := false) (s2 := 2) (t2 := ⟨#[121]⟩) (g2 := false) (n := 0) (by rfl) (by decide))
  have Z := Lib.hid (write_to (s := 1) (tx := ⟨#[122]⟩) (gone := false) (s2 := 2) (t2 := ⟨#[122]⟩) (g2 := false) (n := 0) (by rfl) (by decide))
  have V := Lib.hid (write_to (s := 2) (tx := ⟨#[119]⟩) (gone := true) (s2 := 3) (t2 := ⟨#[]⟩) (g2 := true) (n := 0) (by rfl) (by decide))
  have JYZ := Lib.hid (join_to (s := 2) (t := ⟨#[121]⟩) (g := false) (s' := 2) (t' := ⟨#[122]⟩) (g' := false) (s2 := 2) (t2 := ⟨#[122]⟩) (g2 := false) (by rfl))
  have TZ := Lib.hid (text_to (s := 2) (t := ⟨#[122]⟩) (g := false) (t2 := ⟨#[122]⟩) (b := true) (by rfl))
  have JZV := Lib.hid (join_to (s := 2) (t := ⟨#[122]⟩) (g := false) (s' := 3) (t' := ⟨#[]⟩) (g' := true) (s2 := 3) (t2 := ⟨#[]⟩) (g2 := true) (by rfl))
  have TV := Lib.hid (text_to (s := 3) (t := ⟨#[]⟩) (g := true) (t2 := ⟨#[]⟩) (b := false) (by rfl))
  have CXY := Lib.hid (compare_to (s := 1) (t := ⟨#[120]⟩) (g := false) (s' := 2) (t' := ⟨#[121]⟩) (g' := false) (n := -1) (by rfl))
  have MV := Lib.hid (may_to (s := 3) (t := ⟨#[]⟩) (g := true) (b := true) (by simp [may, Lib.toList_data]; decide))
  have MX := Lib.hid (may_to (s := 0) (t := ⟨#[120]⟩) (g := false) (b := false) (by simp [may, Lib.toList_data]))
  have h0 := Below.refl w.heap.size w
  go_enter Try.func7, Try.ntmps7
  go_wp2_with fail
  refine (X.out _ _ _).mono ?_
  rintro e w1 ⟨rfl, k1⟩
  have h1 := bstep h0 k1
  clear k1
  go_wp2_with fail
  refine (Y.out _ _ _).mono ?_
  rintro e w2 ⟨rfl, k2⟩
  have h2 := bstep (balloc h1 _) k2
  have I1 := (In.new w1 1 ⟨#[120]⟩ false _ rfl).below k2
  obtain ⟨_, _, _⟩ := id I1
  have qI1 := I1.lt
  clear k2
  go_wp2_with fail
  refine (Z.out _ _ _).mono ?_
  rintro e w3 ⟨rfl, k3⟩
  have h3 := bstep (balloc h2 _) k3
  have I1 := (I1.alloc _).below k3
  have I2 := (In.new w2 2 ⟨#[121]⟩ false _ rfl).below k3
  obtain ⟨_, _, _⟩ := id I1
  have qI1 := I1.lt
  obtain ⟨_, _, _⟩ := id I2
  have qI2 := I2.lt
  clear k3
  go_wp2_with fail
  refine (V.out _ _ _).mono ?_
  rintro e w4 ⟨rfl, k4⟩
  have h4 := bstep (balloc h3 _) k4
  have I1 := (I1.alloc _).below k4
  have I2 := (I2.alloc _).below k4
  have I3 := (In.new w3 2 ⟨#[122]⟩ false _ rfl).below k4
  obtain ⟨_, _, _⟩ := id I1
  have qI1 := I1.lt
  obtain ⟨_, _, _⟩ := id I2
  have qI2 := I2.lt
  obtain ⟨_, _, _⟩ := id I3
  have qI3 := I3.lt
  clear k4
  go_wp2_with fail
  refine (JYZ.out _).mono ?_
  rintro e w5 ⟨rfl, k5⟩
  have h5 := bstep (balloc h4 _) k5
  have I1 := (I1.alloc _).below k5
  have I2 := (I2.alloc _).below k5
  have I3 := (I3.alloc _).below k5
  have I4 := (In.new w4 3 ⟨#[]⟩ true _ rfl).below k5
  obtain ⟨_, _, _⟩ := id I1
  have qI1 := I1.lt
  obtain ⟨_, _, _⟩ := id I2
  have qI2 := I2.lt
  obtain ⟨_, _, _⟩ := id I3
  have qI3 := I3.lt
  obtain ⟨_, _, _⟩ := id I4
  have qI4 := I4.lt
  clear k5
  go_wp2_with fail
  refine (TZ.out _).mono ?_
  rintro e w6 ⟨rfl, k6⟩
  have h6 := bstep h5 k6
  have I1 := I1.below k6
  have I2 := I2.below k6
  have I3 := I3.below k6
  have I4 := I4.below k6
  obtain ⟨_, _, _⟩ := id I1
  have qI1 := I1.lt
  obtain ⟨_, _, _⟩ := id I2
  have qI2 := I2.lt
  obtain ⟨_, _, _⟩ := id I3
  have qI3 := I3.lt
  obtain ⟨_, _, _⟩ := id I4
  have qI4 := I4.lt
  clear k6
  go_wp2_with fail
  refine (JZV.out _).mono ?_
  rintro e w7 ⟨rfl, k7⟩
  have h7 := bstep h6 k7
  have I1 := I1.below k7
  have I2 := I2.below k7
  have I3 := I3.below k7
  have I4 := I4.below k7
  obtain ⟨_, _, _⟩ := id I1
  have qI1 := I1.lt
  obtain ⟨_, _, _⟩ := id I2
  have qI2 := I2.lt
  obtain ⟨_, _, _⟩ := id I3
  have qI3 := I3.lt
  obtain ⟨_, _, _⟩ := id I4
  have qI4 := I4.lt
  clear k7
  go_wp2_with fail
  refine (TV.out _).mono ?_
  rintro e w8 ⟨rfl, k8⟩
  have h8 := bstep h7 k8
  have I1 := I1.below k8
  have I2 := I2.below k8
  have I3 := I3.below k8
  have I4 := I4.below k8
  obtain ⟨_, _, _⟩ := id I1
  have qI1 := I1.lt
  obtain ⟨_, _, _⟩ := id I2
  have qI2 := I2.lt
  obtain ⟨_, _, _⟩ := id I3
  have qI3 := I3.lt
  obtain ⟨_, _, _⟩ := id I4
  have qI4 := I4.lt
  clear k8
  go_wp2_with fail
  refine (CXY.out _).mono ?_
  rintro e w9 ⟨rfl, k9⟩
  have h9 := bstep h8 k9
  have I1 := I1.below k9
  have I2 := I2.below k9
  have I3 := I3.below k9
  have I4 := I4.below k9
  obtain ⟨_, _, _⟩ := id I1
  have qI1 := I1.lt
  obtain ⟨_, _, _⟩ := id I2
  have qI2 := I2.lt
  obtain ⟨_, _, _⟩ := id I3
  have qI3 := I3.lt
  obtain ⟨_, _, _⟩ := id I4
  have qI4 := I4.lt
  clear k9
  go_wp2_with fail
  refine (MV.out _).mono ?_
  rintro e w10 ⟨rfl, k10⟩
  have h10 := bstep h9 k10
  have I1 := I1.below k10
  have I2 := I2.below k10
  have I3 := I3.below k10
  have I4 := I4.below k10
  obtain ⟨_, _, _⟩ := id I1
  have qI1 := I1.lt
  obtain ⟨_, _, _⟩ := id I2
  have qI2 := I2.lt
  obtain ⟨_, _, _⟩ := id I3
  have qI3 := I3.lt
  obtain ⟨_, _, _⟩ := id I4
  have qI4 := I4.lt
  clear k10
  go_wp2_with fail
  refine (MX.out _).mono ?_
  rintro e w11 ⟨rfl, k11⟩
  have h11 := bstep h10 k11
  have I1 := I1.below k11
  have I2 := I2.below k11
  have I3 := I3.below k11
  have I4 := I4.below k11
  obtain ⟨_, _, _⟩ := id I1
  have qI1 := I1.lt
  obtain ⟨_, _, _⟩ := id I2
  have qI2 := I2.lt
  obtain ⟨_, _, _⟩ := id I3
  have qI3 := I3.lt
  obtain ⟨_, _, _⟩ := id I4
  have qI4 := I4.lt
  clear k11
  go_wp2
  go_ret
  exact ⟨rfl, h11⟩

end Cell
end Go.Proofs.Ytenbhmickdokbaa
