/- beats are compared; the law's same. -/
import Derived.Test.YtfdcmmafdgagoaaBeatGreater
import Derived.Laws.StructEq
namespace Go.Proofs.Ytfdcmmafdgagoaa
namespace Beat
open Go.RowKit

theorem eql_of (T : TypeId) (h : Try.prog.underlying T = Try.prog.underlying 28) (hp : Try.prog.stoodInHeld T = false) (m k : B) (w : World) : (Op.equalIn 10000 T (.agg (m.cells).toArray) (.agg (k.cells).toArray)).run Try.prog w = .ok (m.p == k.p && ((m.n : Int) == (k.n : Int) && m.bad == k.bad)) w := by
  have hS : Try.prog.underlying T = some (.struct (Try.prog.fieldsOf T)) := by rw [Program.fieldsOf, h]; kernel_rfl
  rw [show (10000 : Nat) = 9999 + 1 from rfl, run_equalIn_agg w 9999 T _ _ hS hp]
  simp only [Program.fieldsOf, h, Try.underlying28, B.cells]
  have u1 := Try.underlying9
  have u2 := Try.underlying26
  have u3 := Try.underlying4
  go_simp
  by_cases h1 : m.p = k.p <;> by_cases h2 : (m.n : Int) = (k.n : Int) <;> cases m.bad <;> cases k.bad <;> simp [h1, h2]
theorem eqB_iff (m k : B) : (m.p == k.p && ((m.n : Int) == (k.n : Int) && m.bad == k.bad)) = decide (m = k) := by
  obtain ⟨p, n, b⟩ := m
  obtain ⟨p', n', b'⟩ := k
  rw [Bool.eq_iff_iff]
  simp only [Bool.and_eq_true, beq_iff_eq, decide_eq_true_eq, B.mk.injEq]
  constructor
  · rintro ⟨h1, h2, h3⟩; exact ⟨h1, by omega, h3⟩
  · rintro ⟨h1, h2, h3⟩; exact ⟨h1, by omega, h3⟩
theorem neq_beat (m k : B) (w : World) : (binOp .neq 28 (.agg #[.string ⟨m.p.toArray⟩, .int .u64 (m.n : Int), .bool m.bad]) (.agg #[.string ⟨k.p.toArray⟩, .int .u64 (k.n : Int), .bool k.bad])).run Try.prog w = .ok (.bool (!decide (m = k))) w := by
  rw [run_neq_struct]
  have h := eql_of 28 rfl (by kernel_rfl) m k w
  rw [eqB_iff] at h
  unfold B.cells at h
  rw [h]; rfl
end Beat
end Go.Proofs.Ytfdcmmafdgagoaa
