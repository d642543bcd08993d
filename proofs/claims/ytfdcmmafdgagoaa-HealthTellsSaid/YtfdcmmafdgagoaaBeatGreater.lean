/- of two beats of one member, the greater one: health.greater, the reference's Greater. -/
import Derived.Test.YtfdcmmafdgagoaaBeatAt
namespace Go.Proofs.Ytfdcmmafdgagoaa
namespace Beat
open Go.RowKit

set_option maxRecDepth 100000 in
set_option maxHeartbeats 2000000 in
theorem greater_any (x y : B) (w : World) :
    Calls Try.prog 24 #[.agg #[.string ⟨x.p.toArray⟩, .int .u64 (x.n : Int), .bool x.bad], .agg #[.string ⟨y.p.toArray⟩, .int .u64 (y.n : Int), .bool y.bad]] w fun e w' => e = .returned (.agg #[.string ⟨(greater x y).p.toArray⟩, .int .u64 ((greater x y).n : Int), .bool (greater x y).bad]) ∧ Below w.heap.size w w' := by
  have hb : Below w.heap.size w (((w.alloc (.cells #[.string ⟨x.p.toArray⟩, .int .u64 (x.n : Int), .bool x.bad] 28)).alloc (.cells #[.string ⟨y.p.toArray⟩, .int .u64 (y.n : Int), .bool y.bad] 28)).alloc (.cells #[.string ⟨#[]⟩, .int .u64 0, .bool false] 28)) := balloc (balloc (balloc (Below.refl _ _) _) _) _
  replace hb := Lib.hid hb
  by_cases h1 : x.n < y.n
  · skip
    have d1 : decide ((y.n : Int) > (x.n : Int)) = true := decide_eq_true (by omega)
    have d2 : decide ((x.n : Int) < (y.n : Int)) = true := decide_eq_true (by omega)
    have d3 : decide (x.n < y.n) = true := decide_eq_true h1
    have d4 : decide (y.n > x.n) = true := decide_eq_true h1
    have HV : Hid (greater x y = y) := Lib.hid (by unfold greater; rw [if_pos (Or.inl h1)])
    try replace h2 := Lib.hid h2
    try replace h3 := Lib.hid h3
    go_enter Try.func24, Try.ntmps24
    go_wp2
    refine bodyPost_ret (v := .agg #[.string ⟨y.p.toArray⟩, .int .u64 (y.n : Int), .bool y.bad]) (by simp [results, Try.results24, go_sem]) rfl ?_
    exact ⟨by rw [HV.out], by repeat (first | exact Below.refl _ _ | refine balloc ?_ _)⟩
  have d1 : decide ((y.n : Int) > (x.n : Int)) = false := decide_eq_false (by omega)
  have d2 : decide ((x.n : Int) < (y.n : Int)) = false := decide_eq_false (by omega)
  have d3 : decide (x.n < y.n) = false := decide_eq_false h1
  have d4 : decide (y.n > x.n) = false := decide_eq_false h1
  by_cases h2 : x.n = y.n
  rotate_left
  · skip
    have e1 : ((y.n : Int) == (x.n : Int)) = false := by rw [beq_eq_false_iff_ne]; omega
    have e2 : (y.n == x.n) = false := by rw [beq_eq_false_iff_ne]; omega
    have HV : Hid (greater x y = x) := Lib.hid (by unfold greater; rw [if_neg (by rintro (h | h); exact h1 h; exact h2 h.1)])
    try replace h2 := Lib.hid h2
    try replace h3 := Lib.hid h3
    go_enter Try.func24, Try.ntmps24
    go_wp2
    refine bodyPost_ret (v := .agg #[.string ⟨x.p.toArray⟩, .int .u64 (x.n : Int), .bool x.bad]) (by simp [results, Try.results24, go_sem]) rfl ?_
    exact ⟨by rw [HV.out], by repeat (first | exact Below.refl _ _ | refine balloc ?_ _)⟩
  have e1 : ((y.n : Int) == (x.n : Int)) = true := by rw [beq_iff_eq]; omega
  have e2 : (y.n == x.n) = true := by rw [beq_iff_eq]; omega
  cases h3 : y.bad
  · skip
    have HV : Hid (greater x y = x) := Lib.hid (by unfold greater; rw [if_neg (by rintro (h | h); exact h1 h; rw [h3] at h; cases h.2)])
    try replace h2 := Lib.hid h2
    try replace h3 := Lib.hid h3
    go_enter Try.func24, Try.ntmps24
    go_wp2
    refine bodyPost_ret (v := .agg #[.string ⟨x.p.toArray⟩, .int .u64 (x.n : Int), .bool x.bad]) (by simp [results, Try.results24, go_sem]) rfl ?_
    exact ⟨by rw [HV.out], by repeat (first | exact Below.refl _ _ | refine balloc ?_ _)⟩
  · skip
    have HV : Hid (greater x y = y) := Lib.hid (by unfold greater; rw [if_pos (Or.inr ⟨h2, h3⟩)])
    try replace h2 := Lib.hid h2
    try replace h3 := Lib.hid h3
    go_enter Try.func24, Try.ntmps24
    go_wp2
    refine bodyPost_ret (v := .agg #[.string ⟨y.p.toArray⟩, .int .u64 (y.n : Int), .bool true]) (by simp [results, Try.results24, go_sem]) rfl ?_
    exact ⟨by rw [HV.out, h3.out], by repeat (first | exact Below.refl _ _ | refine balloc ?_ _)⟩
set_option maxRecDepth 100000 in
set_option maxHeartbeats 2000000 in
theorem rgreater_any (x y : B) (w : World) :
    Calls Try.prog 27 #[.agg #[.string ⟨x.p.toArray⟩, .int .u64 (x.n : Int), .bool x.bad], .agg #[.string ⟨y.p.toArray⟩, .int .u64 (y.n : Int), .bool y.bad]] w fun e w' => e = .returned (.agg #[.string ⟨(greater x y).p.toArray⟩, .int .u64 ((greater x y).n : Int), .bool (greater x y).bad]) ∧ Below w.heap.size w w' := by
  have hb : Below w.heap.size w (((w.alloc (.cells #[.string ⟨x.p.toArray⟩, .int .u64 (x.n : Int), .bool x.bad] 28)).alloc (.cells #[.string ⟨y.p.toArray⟩, .int .u64 (y.n : Int), .bool y.bad] 28)).alloc (.cells #[.string ⟨#[]⟩, .int .u64 0, .bool false] 28)) := balloc (balloc (balloc (Below.refl _ _) _) _) _
  replace hb := Lib.hid hb
  by_cases h1 : x.n < y.n
  · skip
    have d1 : decide ((y.n : Int) > (x.n : Int)) = true := decide_eq_true (by omega)
    have d2 : decide ((x.n : Int) < (y.n : Int)) = true := decide_eq_true (by omega)
    have d3 : decide (x.n < y.n) = true := decide_eq_true h1
    have d4 : decide (y.n > x.n) = true := decide_eq_true h1
    have HV : Hid (greater x y = y) := Lib.hid (by unfold greater; rw [if_pos (Or.inl h1)])
    try replace h2 := Lib.hid h2
    try replace h3 := Lib.hid h3
    go_enter Try.func27, Try.ntmps27
    go_wp2
    refine bodyPost_ret (v := .agg #[.string ⟨y.p.toArray⟩, .int .u64 (y.n : Int), .bool y.bad]) (by simp [results, Try.results27, go_sem]) rfl ?_
    exact ⟨by rw [HV.out], by repeat (first | exact Below.refl _ _ | refine balloc ?_ _)⟩
  have d1 : decide ((y.n : Int) > (x.n : Int)) = false := decide_eq_false (by omega)
  have d2 : decide ((x.n : Int) < (y.n : Int)) = false := decide_eq_false (by omega)
  have d3 : decide (x.n < y.n) = false := decide_eq_false h1
  have d4 : decide (y.n > x.n) = false := decide_eq_false h1
  by_cases h2 : x.n = y.n
  rotate_left
  · skip
    have e1 : ((y.n : Int) == (x.n : Int)) = false := by rw [beq_eq_false_iff_ne]; omega
    have e2 : (y.n == x.n) = false := by rw [beq_eq_false_iff_ne]; omega
    have HV : Hid (greater x y = x) := Lib.hid (by unfold greater; rw [if_neg (by rintro (h | h); exact h1 h; exact h2 h.1)])
    try replace h2 := Lib.hid h2
    try replace h3 := Lib.hid h3
    go_enter Try.func27, Try.ntmps27
    go_wp2
    refine bodyPost_ret (v := .agg #[.string ⟨x.p.toArray⟩, .int .u64 (x.n : Int), .bool x.bad]) (by simp [results, Try.results27, go_sem]) rfl ?_
    exact ⟨by rw [HV.out], by repeat (first | exact Below.refl _ _ | refine balloc ?_ _)⟩
  have e1 : ((y.n : Int) == (x.n : Int)) = true := by rw [beq_iff_eq]; omega
  have e2 : (y.n == x.n) = true := by rw [beq_iff_eq]; omega
  cases h3 : y.bad
  · skip
    have HV : Hid (greater x y = x) := Lib.hid (by unfold greater; rw [if_neg (by rintro (h | h); exact h1 h; rw [h3] at h; cases h.2)])
    try replace h2 := Lib.hid h2
    try replace h3 := Lib.hid h3
    go_enter Try.func27, Try.ntmps27
    go_wp2
    refine bodyPost_ret (v := .agg #[.string ⟨x.p.toArray⟩, .int .u64 (x.n : Int), .bool x.bad]) (by simp [results, Try.results27, go_sem]) rfl ?_
    exact ⟨by rw [HV.out], by repeat (first | exact Below.refl _ _ | refine balloc ?_ _)⟩
  · skip
    have HV : Hid (greater x y = y) := Lib.hid (by unfold greater; rw [if_pos (Or.inr ⟨h2, h3⟩)])
    try replace h2 := Lib.hid h2
    try replace h3 := Lib.hid h3
    go_enter Try.func27, Try.ntmps27
    go_wp2
    refine bodyPost_ret (v := .agg #[.string ⟨y.p.toArray⟩, .int .u64 (y.n : Int), .bool true]) (by simp [results, Try.results27, go_sem]) rfl ?_
    exact ⟨by rw [HV.out, h3.out], by repeat (first | exact Below.refl _ _ | refine balloc ?_ _)⟩
end Beat
end Go.Proofs.Ytfdcmmafdgagoaa
