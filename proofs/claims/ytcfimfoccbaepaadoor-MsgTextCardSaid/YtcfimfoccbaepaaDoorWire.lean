
/- The contracts of package wire's reader. -/
import Derived.Test.YtcfimfoccbaepaaDoorNum
import Derived.Test.YtcfimfoccbaepaaDoorStr
import Derived.Test.YtcfimfoccbaepaaDoorFrame
import Derived.WalkKit
import Derived.WalkSpells
import Derived.WalkLawsBesides
import Derived.Lib.Hide
namespace Go.Proofs.YtcfimfoccbaepaaDoor
open Go.RowKit

/-- All blocks but one stand as they stood. -/
structure But (b : Nat) (w w' : World) : Prop where
  os : w'.os = w.os
  tape : w'.tape = w.tape
  output : w'.output = w.output
  size : w.heap.size ≤ w'.heap.size
  block : ∀ k, k < w.heap.size → k ≠ b → w'.heap[k]? = w.heap[k]?
namespace But
theorem refl (b : Nat) (w : World) : But b w w := ⟨rfl, rfl, rfl, Nat.le_refl _, fun _ _ _ => rfl⟩
theorem trans {b : Nat} {w x y : World} (h : But b w x) (k : But b x y) : But b w y :=
  ⟨k.os.trans h.os, k.tape.trans h.tape, k.output.trans h.output, Nat.le_trans h.size k.size, fun j hj hb => (k.block j (Nat.lt_of_lt_of_le hj h.size) hb).trans (h.block j hj hb)⟩
theorem of {b : Nat} {w x : World} (k : Below w.heap.size w x) : But b w x := ⟨k.os, k.tape, k.output, k.size, fun j hj _ => k.block j hj⟩
theorem alloc {b : Nat} {w x : World} (h : But b w x) (o : Obj) : But b w (x.alloc o) := h.trans (of (balloc (Below.refl _ _) o))
theorem set {b : Nat} {w x : World} (h : But b w x) (p : Addr) (hp : p.block = b) (v : Value) : But b w (x.setCell p v) :=
  h.trans ⟨rfl, rfl, rfl, by simp [World.setCell], fun j _ hb => Below.heap_setCell _ _ _ _ (by rw [hp]; exact hb)⟩
/-- A block above is set. -/
theorem put {b : Nat} {w x : World} (h : But b w x) (p : Addr) (hp : w.heap.size ≤ p.block) (v : Value) : But b w (x.setCell p v) :=
  ⟨h.os, h.tape, h.output, by simpa [World.setCell] using h.size, fun j hj hb => (Below.heap_setCell _ _ _ _ (by omega)).trans (h.block j hj hb)⟩
theorem below {B b : Nat} {w x y : World} (h : Below B w x) (k : But b x y) (hb : B ≤ b) (hB : B ≤ x.heap.size) : Below B w y :=
  h.trans ⟨k.os, k.tape, k.output, k.size, fun j hj => k.block j (by omega) (by omega)⟩
theorem cell {b : Nat} {w x : World} (h : But b w x) {p : Addr} (hp : p.block < w.heap.size) (hb : p.block ≠ b) : x.cell? p = w.cell? p := World.cell?_of_block (w := w) (h.block p.block hp hb)
theorem frozen {b : Nat} {w x : World} (h : But b w x) {p : Addr} (hp : p.block < w.heap.size) (hb : p.block ≠ b) : x.frozen? p = w.frozen? p := World.frozen?_of_block (w := w) (h.block p.block hp hb)
end But

namespace Wire
open Num

/-- A reader lies in block b: what is left, and its error. -/
def Rd (w : World) (b : Nat) (l : List UInt8) (E : Int) : Prop :=
  w.cell? ⟨b, 0, none⟩ = some (.bool true) ∧ w.cell? ⟨b, 1, none⟩ = some (.string ⟨l.toArray⟩) ∧ w.cell? ⟨b, 2, none⟩ = some (.int .i64 E) ∧ w.frozen? ⟨b, 1, none⟩ = false ∧ w.frozen? ⟨b, 2, none⟩ = false ∧ l.length ≤ maxLen
theorem Rd.lt {w : World} {b : Nat} {l : List UInt8} {E : Int} (h : Rd w b l E) : b < w.heap.size := World.block_lt_of_cell? w ⟨b, 0, none⟩ h.1
theorem Rd.below {w w' : World} {b : Nat} {l : List UInt8} {E : Int} (h : Rd w b l E) {B : Nat} (k : Below B w w') (hb : b < B) : Rd w' b l E := by
  obtain ⟨h1, h2, h3, h4, h5, h6⟩ := h
  exact ⟨(k.cell (p := ⟨b, 0, none⟩) hb).trans h1, (k.cell (p := ⟨b, 1, none⟩) hb).trans h2, (k.cell (p := ⟨b, 2, none⟩) hb).trans h3, (k.frozen (p := ⟨b, 1, none⟩) hb).trans h4, (k.frozen (p := ⟨b, 2, none⟩) hb).trans h5, h6⟩
theorem Rd.but {w w' : World} {b c : Nat} {l : List UInt8} {E : Int} (h : Rd w b l E) (k : But c w w') (hb : b ≠ c) : Rd w' b l E := by
  have q := h.lt
  obtain ⟨h1, h2, h3, h4, h5, h6⟩ := h
  exact ⟨(k.cell (p := ⟨b, 0, none⟩) q hb).trans h1, (k.cell (p := ⟨b, 1, none⟩) q hb).trans h2, (k.cell (p := ⟨b, 2, none⟩) q hb).trans h3, (k.frozen (p := ⟨b, 1, none⟩) q hb).trans h4, (k.frozen (p := ⟨b, 2, none⟩) q hb).trans h5, h6⟩
theorem Rd.alloc {w : World} {b : Nat} {l : List UInt8} {E : Int} (h : Rd w b l E) (o : Obj) : Rd (w.alloc o) b l E := h.below (balloc (Below.refl _ _) o) h.lt

/-- What Num takes: the number, how many bytes, the error. -/
def numT (l : List UInt8) (most : Int) : Int × Nat × Int :=
  if (rdL l).2.2 ≠ 0 then (0, 0, (rdL l).2.2) else if most < (rdL l).1 then (0, 0, 9) else (((rdL l).1 : Nat), (rdL l).2.1, 0)

theorem read_l (l : List UInt8) (w : World) (hs : l.length ≤ maxLen) :
    Calls Tryd.prog 60 #[.string ⟨l.toArray⟩] w fun e w' => e = .returned (.tuple #[.int .u64 ((rdL l).1 : Int), .int .i64 ((rdL l).2.1 : Int), .int .i64 (rdL l).2.2]) ∧ w = w' :=
  read_any ⟨l.toArray⟩ w (by rw [Str.size_mk]; exact hs)

set_option maxHeartbeats 1000000 in
theorem num_brick (l : List UInt8) (most : Int) (p q : Nat) (w : World) (hs : l.length ≤ maxLen) (hp : w.cell? ⟨p, 0, none⟩ = some (.int .u64 most)) (hq : w.cell? ⟨q, 0, none⟩ = some (.int .u64 0)) (hf : w.frozen? ⟨q, 0, none⟩ = false)
    (n : Int) (k : Nat) (E : Int) (hn : numT l most = (n, k, E)) :
    Calls Tryd.prog 59 #[.string ⟨l.toArray⟩, .pointer (some ⟨p, 0, none⟩), .pointer (some ⟨q, 0, none⟩)] w fun e w' => e = .returned (.tuple #[.int .i64 (k : Int), .int .i64 E]) ∧ w' = (if E = 0 then w.setCell ⟨q, 0, none⟩ (.int .u64 n) else w) := by
  have R := Lib.hid (fun w => read_l l w hs)
  unfold numT at hn
  generalize rdL l = r at R hn
  obtain ⟨rn, rk, re⟩ := r
  simp only at hn
  have qp := World.block_lt_of_cell? w ⟨p, 0, none⟩ hp
  have qq := World.block_lt_of_cell? w ⟨q, 0, none⟩ hq
  by_cases h1 : re = 0
  · subst h1
    rw [if_neg (by simp)] at hn
    by_cases h2 : most < (rn : Int)
    · rw [if_pos h2] at hn
      simp only [Prod.mk.injEq] at hn
      obtain ⟨rfl, rfl, rfl⟩ := hn
      have hd1 : decide (most < (rn : Int)) = true := decide_eq_true h2
      go_enter Tryd.func59, Tryd.ntmps59
      go_wp2_with fail
      refine (R.out _).mono ?_
      rintro e w' ⟨rfl, rfl⟩
      go_wp2
      go_ret2
      exact ⟨rfl, by simp⟩
    · rw [if_neg h2] at hn
      simp only [Prod.mk.injEq] at hn
      obtain ⟨rfl, rfl, rfl⟩ := hn
      have hd1 : decide (most < (rn : Int)) = false := decide_eq_false h2
      go_enter Tryd.func59, Tryd.ntmps59
      go_wp2_with fail
      refine (R.out _).mono ?_
      rintro e w' ⟨rfl, rfl⟩
      go_wp2
      go_ret2
      exact ⟨rfl, by simp⟩
  · rw [if_pos h1] at hn
    simp only [Prod.mk.injEq] at hn
    obtain ⟨rfl, rfl, rfl⟩ := hn
    have hb1 : (re == 0) = false := by rw [beq_eq_false_iff_ne]; exact h1
    go_enter Tryd.func59, Tryd.ntmps59
    go_wp2_with fail
    refine (R.out _).mono ?_
    rintro e w' ⟨rfl, rfl⟩
    go_wp2
    go_ret2
    exact ⟨rfl, by simp⟩

set_option maxHeartbeats 1000000 in
theorem err_any (b : Nat) (l : List UInt8) (E : Int) (w : World) (h : Rd w b l E) :
    Calls Tryd.prog 62 #[.pointer (some ⟨b, 0, none⟩)] w fun e w' => e = .returned (.int .i64 E) ∧ w = w' := by
  obtain ⟨h1, h2, h3, h4, h5, h6⟩ := h
  go_enter Tryd.func62, Tryd.ntmps62
  go_wp2
  go_ret
  exact ⟨rfl, rfl⟩

end Wire
end Go.Proofs.YtcfimfoccbaepaaDoor
