/- 'string([]byte{..})': the bytes of a slice that has just been laid, as a string. -/
import Derived.Test.YtnlbgjghckbbcaaProg
import Derived.Test.YtnlbgjghckbbcaaTmStr
import Derived.WalkKit
namespace Go.Proofs.Ytnlbgjghckbbcaa
namespace Conv
open Go.RowKit

theorem cells_at (w : World) (l : List UInt8) (C : Array Value) (T : TypeId) (hC : C = (l.map fun b => Value.int .u8 (b.toNat : Int)).toArray) (j : Nat) (hj : j < l.length) :
    (w.alloc (.cells C T)).cell? ((⟨w.heap.size, 0, none⟩ : Addr).add j) = some (.int .u8 (l[j].toNat : Int)) := by
  rw [Go.WideShapes.add_plain, World.cell?_alloc_new, Nat.zero_add, hC]
  simp [hj]
theorem conv (w : World) (B : Nat) (hB : B = w.heap.size) (l : List UInt8) (n : Nat) (hn : n = l.length) (C : Array Value) (T : TypeId) (hC : C = (l.map fun b => Value.int .u8 (b.toNat : Int)).toArray) :
    (convert 57 9 (.slice (some ⟨B, 0, none⟩) n n)).run Try.prog (w.alloc (.cells C T)) = .ok (.string ⟨l.toArray⟩) (w.alloc (.cells C T)) := by
  subst hn hB
  exact run_convert_bytes_back (P := Try.prog) _ 57 9 5 ⟨w.heap.size, 0, none⟩ l.length l Try.underlying57 Try.underlying5 Try.underlying9 (fun j hj => cells_at w l C T hC j hj)
theorem conv1 (a : Int) (b : UInt8) (h : a = (b.toNat : Int)) (w : World) (B : Nat) (hB : B = w.heap.size) :
    (convert 57 9 (.slice (some ⟨B, 0, none⟩) 1 1)).run Try.prog (w.alloc (.cells #[.int .u8 a] 5)) = .ok (.string ⟨#[b]⟩) (w.alloc (.cells #[.int .u8 a] 5)) :=
  conv w B hB [b] 1 rfl _ _ (by rw [h]; rfl)
theorem conv2 (a1 a2 : Int) (b1 b2 : UInt8) (h1 : a1 = (b1.toNat : Int)) (h2 : a2 = (b2.toNat : Int)) (w : World) (B : Nat) (hB : B = w.heap.size) :
    (convert 57 9 (.slice (some ⟨B, 0, none⟩) 2 2)).run Try.prog (w.alloc (.cells #[.int .u8 a1, .int .u8 a2] 5)) = .ok (.string ⟨#[b1, b2]⟩) (w.alloc (.cells #[.int .u8 a1, .int .u8 a2] 5)) :=
  conv w B hB [b1, b2] 2 rfl _ _ (by rw [h1, h2]; rfl)
theorem conv3 (a1 a2 a3 : Int) (b1 b2 b3 : UInt8) (h1 : a1 = (b1.toNat : Int)) (h2 : a2 = (b2.toNat : Int)) (h3 : a3 = (b3.toNat : Int)) (w : World) (B : Nat) (hB : B = w.heap.size) :
    (convert 57 9 (.slice (some ⟨B, 0, none⟩) 3 3)).run Try.prog (w.alloc (.cells #[.int .u8 a1, .int .u8 a2, .int .u8 a3] 5)) = .ok (.string ⟨#[b1, b2, b3]⟩) (w.alloc (.cells #[.int .u8 a1, .int .u8 a2, .int .u8 a3] 5)) :=
  conv w B hB [b1, b2, b3] 3 rfl _ _ (by rw [h1, h2, h3]; rfl)
theorem conv4 (a1 a2 a3 a4 : Int) (b1 b2 b3 b4 : UInt8) (h1 : a1 = (b1.toNat : Int)) (h2 : a2 = (b2.toNat : Int)) (h3 : a3 = (b3.toNat : Int)) (h4 : a4 = (b4.toNat : Int)) (w : World) (B : Nat) (hB : B = w.heap.size) :
    (convert 57 9 (.slice (some ⟨B, 0, none⟩) 4 4)).run Try.prog (w.alloc (.cells #[.int .u8 a1, .int .u8 a2, .int .u8 a3, .int .u8 a4] 5)) = .ok (.string ⟨#[b1, b2, b3, b4]⟩) (w.alloc (.cells #[.int .u8 a1, .int .u8 a2, .int .u8 a3, .int .u8 a4] 5)) :=
  conv w B hB [b1, b2, b3, b4] 4 rfl _ _ (by rw [h1, h2, h3, h4]; rfl)
theorem conv1_drew (a : Int) (b : UInt8) (h : a = (b.toNat : Int)) (w : World) (B : Nat) (hB : B = w.heap.size) :
    (convert 57 9 (.slice (some ⟨B, 0, none⟩) 1 1)).run Try.prog (w.alloc (.cells #[.int .u8 a] 5)).drew = .ok (.string ⟨#[b]⟩) (w.alloc (.cells #[.int .u8 a] 5)).drew := by
  subst hB
  exact run_convert_bytes_back (P := Try.prog) _ 57 9 5 ⟨w.heap.size, 0, none⟩ 1 [b] Try.underlying57 Try.underlying5 Try.underlying9 (fun j hj => (cells_at w [b] _ _ (by rw [h]; rfl) j hj : _))

end Conv
end Go.Proofs.Ytnlbgjghckbbcaa
