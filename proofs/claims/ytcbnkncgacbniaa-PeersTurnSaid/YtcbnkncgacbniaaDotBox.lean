
/- dots: marks and dots that come in; two structs in blocks of their own. -/
import Derived.Test.YtcbnkncgacbniaaDotLive
import Derived.OpenShut
namespace Go.Proofs.Ytcbnkncgacbniaa
namespace Dots
open Go.RowKit Go.Shelf Go.Proofs.Ytcbnkncgacbniaa.Mark

theorem mark_of (s : ByteArray) (z : Int) (h : (Lit.int .u64 z).wf = true) : ∃ m : M, s = ⟨m.p.toArray⟩ ∧ z = (m.n : Int) ∧ m.n ≤ 18446744073709551615 := by
  obtain ⟨l, u⟩ := bounds_u64 h
  refine ⟨⟨s.data.toList, z.toNat⟩, ?_, ?_, ?_⟩
  · simp
  · simp only; omega
  · simp only; omega
theorem str_of (s : ByteArray) : ∃ q : List UInt8, s = ⟨q.toArray⟩ := ⟨s.data.toList, by simp⟩
theorem num_of (z : Int) (h : (Lit.int .u64 z).wf = true) : ∃ n : Nat, z = (n : Int) ∧ n ≤ 18446744073709551615 := by
  obtain ⟨l, u⟩ := bounds_u64 h
  exact ⟨z.toNat, by omega, by omega⟩
def boxM (m : M) (T : TypeId) : Obj := .cells #[.string ⟨m.p.toArray⟩, .int .u64 (m.n : Int)] T
theorem one_box (w : World) (a : M) (T : TypeId) :
    (w.alloc (boxM a T)).cell? ⟨w.heap.size, 0, none⟩ = some (.string ⟨a.p.toArray⟩) ∧ (w.alloc (boxM a T)).cell? ⟨w.heap.size, 1, none⟩ = some (.int .u64 (a.n : Int)) := by
  unfold boxM
  exact ⟨by rw [World.cell?_alloc_new]; rfl, by rw [World.cell?_alloc_new]; rfl⟩
theorem two_boxes (w : World) (a b : M) (T U : TypeId) :
    ((w.alloc (boxM a T)).alloc (boxM b U)).cell? ⟨w.heap.size, 0, none⟩ = some (.string ⟨a.p.toArray⟩) ∧ ((w.alloc (boxM a T)).alloc (boxM b U)).cell? ⟨w.heap.size, 1, none⟩ = some (.int .u64 (a.n : Int)) ∧
    ((w.alloc (boxM a T)).alloc (boxM b U)).cell? ⟨w.heap.size + 1, 0, none⟩ = some (.string ⟨b.p.toArray⟩) ∧ ((w.alloc (boxM a T)).alloc (boxM b U)).cell? ⟨w.heap.size + 1, 1, none⟩ = some (.int .u64 (b.n : Int)) := by
  obtain ⟨x1, x2⟩ := one_box w a T
  obtain ⟨y1, y2⟩ := one_box (w.alloc (boxM a T)) b U
  rw [World.size_alloc] at y1 y2
  exact ⟨keepC x1 (balloc (Below.refl _ _) _), keepC x2 (balloc (Below.refl _ _) _), y1, y2⟩

end Dots
end Go.Proofs.Ytcbnkncgacbniaa
