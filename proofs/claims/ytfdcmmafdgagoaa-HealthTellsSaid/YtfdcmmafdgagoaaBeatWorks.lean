/- the law's works. -/
import Derived.Test.YtfdcmmafdgagoaaBeatDrop
import Derived.Test.YtfdcmmafdgagoaaBeatJoin
import Derived.Test.YtfdcmmafdgagoaaBeatLaw
namespace Go.Proofs.Ytfdcmmafdgagoaa
namespace Beat
open Go.RowKit Go.Proofs.Ytfdcmmafdgagoaa.Order
theorem eql_beat (m k : B) (w : World) : (binOp .eql 28 (.agg #[.string ⟨m.p.toArray⟩, .int .u64 (m.n : Int), .bool m.bad]) (.agg #[.string ⟨k.p.toArray⟩, .int .u64 (k.n : Int), .bool k.bad])).run Try.prog w = .ok (.bool (decide (m = k))) w := by
  rw [run_eql_struct]
  have h := eql_of 28 rfl (by kernel_rfl) m k w
  rw [eqB_iff] at h
  unfold B.cells at h
  rw [h]; rfl
def p12 : List UInt8 := [49, 46, 50]
theorem one_of {w : World} {B0 : Nat} {v : Value} {x : B} (h : Mine w B0 v [x]) : ∃ b o c, v = .slice (some ⟨b, o, none⟩) 1 c ∧ 1 ≤ c ∧ c ≤ maxLen ∧ Lies w (some ⟨b, o, none⟩) 1 [x] := by
  obtain ⟨a, c, rfl, h1, h2, h3, _⟩ := h.lies
  obtain ⟨b, o, rfl, _⟩ := lies_at h3 (by simp)
  exact ⟨b, o, c, rfl, h1, h2, h3⟩
theorem cells_one {w : World} {b o : Nat} {x : B} (h : Lies w (some ⟨b, o, none⟩) 1 [x]) : w.cell? ⟨b, o, none⟩ = some (.string ⟨x.p.toArray⟩) ∧ w.cell? ⟨b, o + 1, none⟩ = some (.int .u64 (x.n : Int)) ∧ w.cell? ⟨b, o + 2, none⟩ = some (.bool x.bad) := by
  obtain ⟨b', o', e, hc⟩ := lies_at h (by omega)
  cases e
  have := hc 0 (by simp)
  simpa using this
theorem small_one (n : Nat) (b : Bool) : Small [⟨p12, n, b⟩] := fun x hx => by
  obtain rfl := List.mem_singleton.1 hx
  show p12.length ≤ _
  decide
theorem w_sus : susB [] p12 = [⟨p12, 0, true⟩] := by decide +kernel
theorem w_ref : refB [⟨p12, 0, true⟩] p12 = [⟨p12, 1, false⟩] := by decide +kernel
theorem w_join : joinB [⟨p12, 0, true⟩] [⟨p12, 1, false⟩] = [⟨p12, 1, false⟩] := by decide +kernel
theorem w_bad : badS [⟨p12, 0, true⟩] = [p12] := by decide +kernel
theorem w_bad' : badS [⟨p12, 1, false⟩] = [] := by decide +kernel
theorem w_drop : dropB [⟨p12, 1, false⟩] [p12] = [] := by decide +kernel
theorem own_len {α : Type} {E : Row.Enc α} {te : TypeId} {w : World} {B0 : Nat} {v : Value} {L : List α} (h : Row.Own E te w B0 v L) (n : Nat) (hn : L.length = n) : ∃ a c, v = .slice a n c := by
  obtain ⟨a, c, rfl, _⟩ := h.lies
  exact ⟨a, c, by rw [hn]⟩
theorem works_sus (w : World) : Calls Try.prog 13 #[.slice none 0 0, .string ⟨#[49, 46, 50]⟩] w fun e w' => ∃ b o c, e = .returned (.slice (some ⟨b, o, none⟩) 1 c) ∧ 1 ≤ c ∧ c ≤ maxLen ∧ Lies w' (some ⟨b, o, none⟩) 1 [⟨p12, 0, true⟩] ∧ Below w.heap.size w w' := by
  refine (suspect_any [] p12 none 0 w (Row.Lies.nil _ _) (fun x hx => by cases hx) (by decide)).mono ?_
  rintro e w' ⟨v, rfl, o1, k1⟩
  rw [w_sus] at o1
  obtain ⟨b, o, c, rfl, h1, h2, h3⟩ := one_of o1
  exact ⟨b, o, c, rfl, h1, h2, h3, k1⟩
theorem works_ref (w : World) (b o c : Nat) (h : Lies w (some ⟨b, o, none⟩) 1 [⟨p12, 0, true⟩]) : Calls Try.prog 14 #[.slice (some ⟨b, o, none⟩) 1 c, .string ⟨#[49, 46, 50]⟩] w fun e w' => ∃ b o c, e = .returned (.slice (some ⟨b, o, none⟩) 1 c) ∧ 1 ≤ c ∧ c ≤ maxLen ∧ Lies w' (some ⟨b, o, none⟩) 1 [⟨p12, 1, false⟩] ∧ Below w.heap.size w w' := by
  refine (refute_any [⟨p12, 0, true⟩] p12 _ c w h (small_one _ _) (by decide)).mono ?_
  rintro e w' ⟨v, rfl, o1, k1⟩
  rw [w_ref] at o1
  obtain ⟨b, o, c, rfl, h1, h2, h3⟩ := one_of o1
  exact ⟨b, o, c, rfl, h1, h2, h3, k1⟩
theorem works_join (w : World) (b o c b2 o2 c2 : Nat) (h : Lies w (some ⟨b, o, none⟩) 1 [⟨p12, 0, true⟩]) (h2 : Lies w (some ⟨b2, o2, none⟩) 1 [⟨p12, 1, false⟩]) (hc : 1 ≤ c ∧ c ≤ maxLen) (hc2 : 1 ≤ c2 ∧ c2 ≤ maxLen) :
    Calls Try.prog 12 #[.slice (some ⟨b, o, none⟩) 1 c, .slice (some ⟨b2, o2, none⟩) 1 c2] w fun e w' => ∃ b o c, e = .returned (.slice (some ⟨b, o, none⟩) 1 c) ∧ Lies w' (some ⟨b, o, none⟩) 1 [⟨p12, 1, false⟩] ∧ Below w.heap.size w w' := by
  refine (join_any [⟨p12, 0, true⟩] [⟨p12, 1, false⟩] _ _ c c2 w h h2 (small_one _ _) (small_one _ _) hc.1 hc2.1 hc.2 hc2.2).mono ?_
  rintro e w' ⟨v, rfl, o1, k1⟩
  rw [w_join] at o1
  obtain ⟨b, o, c, rfl, h1, h2, h3⟩ := one_of o1
  exact ⟨b, o, c, rfl, h3, k1⟩
theorem works_bad (n : Nat) (bd : Bool) (m : Nat) (hm : (badS [⟨p12, n, bd⟩]).length = m) (w : World) (b o c : Nat) (h : Lies w (some ⟨b, o, none⟩) 1 [⟨p12, n, bd⟩]) : Calls Try.prog 11 #[.slice (some ⟨b, o, none⟩) 1 c] w fun e w' => ∃ a c, e = .returned (.slice a m c) ∧ Below w.heap.size w w' := by
  refine (bad_any [⟨p12, n, bd⟩] _ c w h (small_one _ _)).mono ?_
  rintro e w' ⟨v, rfl, o1, k1⟩
  obtain ⟨a, c, rfl⟩ := own_len o1 m hm
  exact ⟨a, c, rfl, k1⟩
theorem works_drop (w : World) (b o c b2 o2 c2 : Nat) (h : Lies w (some ⟨b, o, none⟩) 1 [⟨p12, 1, false⟩]) (h2 : Words.Lies w (some ⟨b2, o2, none⟩) 1 [p12]) : Calls Try.prog 15 #[.slice (some ⟨b, o, none⟩) 1 c, .slice (some ⟨b2, o2, none⟩) 1 c2] w fun e w' => ∃ a c, e = .returned (.slice a 0 c) ∧ Below w.heap.size w w' := by
  refine (drop_any [⟨p12, 1, false⟩] [p12] _ _ c c2 w h h2 (small_one _ _) (fun p hp => by obtain rfl := List.mem_singleton.1 hp; decide) (by decide)).mono ?_
  rintro e w' ⟨v, rfl, o1, k1⟩
  rw [w_drop] at o1
  obtain ⟨a, c, rfl⟩ := own_len o1 0 rfl
  exact ⟨a, c, rfl, k1⟩

set_option maxRecDepth 100000 in
set_option maxHeartbeats 8000000 in
theorem works_any (w : World) : Calls Try.prog 6 #[] w fun e w' => e = .returned (.bool true) ∧ Below w.heap.size w w' := by
  have hb := Below.refl w.heap.size w
  have q1 : ∀ w, (binOp .eql 28 (.agg #[.string ⟨#[49, 46, 50]⟩, .int .u64 0, .bool true]) (.agg #[.string ⟨#[49, 46, 50]⟩, .int .u64 0, .bool true])).run Try.prog w = .ok (.bool true) w := fun w => eql_beat ⟨p12, 0, true⟩ ⟨p12, 0, true⟩ w
  have q2 : ∀ w, (binOp .eql 28 (.agg #[.string ⟨#[49, 46, 50]⟩, .int .u64 1, .bool false]) (.agg #[.string ⟨#[49, 46, 50]⟩, .int .u64 1, .bool false])).run Try.prog w = .ok (.bool true) w := fun w => eql_beat ⟨p12, 1, false⟩ ⟨p12, 1, false⟩ w
  go_enter Try.func6, Try.ntmps6
  go_wp2_with fail
  refine (works_sus _).mono ?_
  rintro e v1 ⟨b1, o1, c1, rfl, x1, y1, l1, k1⟩
  replace hb := bstep hb k1
  clear k1
  have m1 := Lib.hid (And.intro x1 y1)
  clear x1 y1
  replace l1 := Lib.hid l1
  go_wp2_with fail
  refine (works_ref _ b1 o1 c1 l1.out).mono ?_
  rintro e v2 ⟨b2, o2, c2, rfl, x2, y2, l2, k2⟩
  replace l1 := Lib.hid ((l1.out).below k2)
  replace hb := bstep hb k2
  clear k2
  have m2 := Lib.hid (And.intro x2 y2)
  clear x2 y2
  replace l2 := Lib.hid l2
  go_wp2_with fail
  refine (works_join _ b1 o1 c1 b2 o2 c2 l1.out l2.out m1.out m2.out).mono ?_
  rintro e v3 ⟨b3, o3, c3, rfl, l3, k3⟩
  replace l1 := Lib.hid ((l1.out).below k3)
  replace l2 := Lib.hid ((l2.out).below k3)
  replace hb := bstep hb k3
  clear k3
  replace l3 := Lib.hid l3
  obtain ⟨u1, u2, u3⟩ := cells_one l1.out
  obtain ⟨z1, z2, z3⟩ := cells_one l3.out
  replace u1 : v3.cell? ⟨b1, o1, none⟩ = some (.string ⟨#[49, 46, 50]⟩) := u1
  replace u2 : v3.cell? ⟨b1, o1 + 1, none⟩ = some (.int .u64 0) := u2
  replace u3 : v3.cell? ⟨b1, o1 + 2, none⟩ = some (.bool true) := u3
  replace z1 : v3.cell? ⟨b3, o3, none⟩ = some (.string ⟨#[49, 46, 50]⟩) := z1
  replace z2 : v3.cell? ⟨b3, o3 + 1, none⟩ = some (.int .u64 1) := z2
  replace z3 : v3.cell? ⟨b3, o3 + 2, none⟩ = some (.bool false) := z3
  go_wp2_with fail
  refine (works_bad 0 true 1 (by rw [w_bad]; rfl) _ b1 o1 c1 l1.out).mono ?_
  rintro e v4 ⟨a4, c4, rfl, k4⟩
  replace l1 := Lib.hid ((l1.out).below k4)
  replace l2 := Lib.hid ((l2.out).below k4)
  replace l3 := Lib.hid ((l3.out).below k4)
  replace hb := bstep hb k4
  clear k4
  clear u1 u2 u3 z1 z2 z3
  go_wp2_with fail
  refine (works_bad 1 false 0 (by rw [w_bad']; rfl) _ b3 o3 c3 l3.out).mono ?_
  rintro e v5 ⟨a5, c5, rfl, k5⟩
  replace l1 := Lib.hid ((l1.out).below k5)
  replace l2 := Lib.hid ((l2.out).below k5)
  replace l3 := Lib.hid ((l3.out).below k5)
  replace hb := bstep hb k5
  clear k5
  go_wp2_with fail
  refine (works_drop _ b3 o3 c3 v5.heap.size 0 1 (l3.out.below (balloc (Below.refl _ _) _)) (Row.lies_new (E := Words.enc) v5 p12 9)).mono ?_
  rintro e v6 ⟨a6, c6, rfl, k6⟩
  go_wp2
  go_ret
  exact ⟨rfl, bstep (balloc hb _) k6⟩
end Beat
end Go.Proofs.Ytfdcmmafdgagoaa
