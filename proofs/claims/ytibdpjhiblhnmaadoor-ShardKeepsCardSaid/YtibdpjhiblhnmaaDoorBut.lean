
/- All blocks but one stand as they stood. -/
import Derived.Test.YtibdpjhiblhnmaaDoorFrame
import Derived.WalkKit
namespace Go.Proofs.YtibdpjhiblhnmaaDoor
open Go.RowKit
/-- All blocks but one stand as they stood. -/
structure But (b : Nat) (w w' : World) : Prop where
  os : w'.os = w.os
  tape : w'.tape = w.tape
  output : w'.output = w.output
  size : w.heap.size ≤ w'.heap.size
  block : ∀ k, k < w.heap.size → k ≠ b → w'.heap[k]? = w.heap[k]?
namespace But
theorem refl (b : Nat) (w : World) : But b w w := ⟨rfl, rfl, rfl, Nat.le_refl _, fun _ _ _ => rfl⟩
theorem trans {b : Nat} {w x y : World} (h : But b w x) (k : But b x y) : But b w y :=
  ⟨k.os.trans h.os, k.tape.trans h.tape, k.output.trans h.output, Nat.le_trans h.size k.size, fun j hj hb => (k.block j (Nat.lt_of_lt_of_le hj h.size) hb).trans (h.block j hj hb)⟩
theorem of {b : Nat} {w x : World} (k : Below w.heap.size w x) : But b w x := ⟨k.os, k.tape, k.output, k.size, fun j hj _ => k.block j hj⟩
theorem alloc {b : Nat} {w x : World} (h : But b w x) (o : Obj) : But b w (x.alloc o) := h.trans (of (balloc (Below.refl _ _) o))
theorem set {b : Nat} {w x : World} (h : But b w x) (p : Addr) (hp : p.block = b) (v : Value) : But b w (x.setCell p v) :=
  h.trans ⟨rfl, rfl, rfl, by simp [World.setCell], fun j _ hb => Below.heap_setCell _ _ _ _ (by rw [hp]; exact hb)⟩
/-- A block above is set. -/
theorem put {b : Nat} {w x : World} (h : But b w x) (p : Addr) (hp : w.heap.size ≤ p.block) (v : Value) : But b w (x.setCell p v) :=
  ⟨h.os, h.tape, h.output, by simpa [World.setCell] using h.size, fun j hj hb => (Below.heap_setCell _ _ _ _ (by omega)).trans (h.block j hj hb)⟩
theorem below {B b : Nat} {w x y : World} (h : Below B w x) (k : But b x y) (hb : B ≤ b) (hB : B ≤ x.heap.size) : Below B w y :=
  h.trans ⟨k.os, k.tape, k.output, k.size, fun j hj => k.block j (by omega) (by omega)⟩
theorem cell {b : Nat} {w x : World} (h : But b w x) {p : Addr} (hp : p.block < w.heap.size) (hb : p.block ≠ b) : x.cell? p = w.cell? p := World.cell?_of_block (w := w) (h.block p.block hp hb)
theorem frozen {b : Nat} {w x : World} (h : But b w x) {p : Addr} (hp : p.block < w.heap.size) (hb : p.block ≠ b) : x.frozen? p = w.frozen? p := World.frozen?_of_block (w := w) (h.block p.block hp hb)
theorem drew {b : Nat} {w x : World} (h : But b w x) : But b w x.drew := h.trans (of (Below.drew (Below.refl _ _)))
theorem drewN {b : Nat} {w x : World} (h : But b w x) (n : Nat) : But b w (x.drewN n) := h.trans (of (bdrewN (Below.refl _ _) n))
end But
end Go.Proofs.YtibdpjhiblhnmaaDoor
