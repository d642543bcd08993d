
/- package path: the iterator over a text's numbers. -/
import Derived.RangeFuncNested
import Derived.RangeFuncBound
import Derived.RangeFuncCalls
import Derived.RangeFuncLeaves
import Derived.RangeFuncFrom
import Derived.Shelf.Abstract
import Derived.Shelf.RegionOpen
import Derived.WalkKit
import Derived.OwnWalkIn
import Derived.TacticsInMore
import Derived.LoopNIn
import Derived.LoopIn
import Derived.Test.YtfdcmmafdgagoaaPathCut
namespace Go.Proofs.Ytfdcmmafdgagoaa
namespace Path
open Go.RowKit Go.Shelf
attribute [local go_sem] Oper.semAt_some

/-- What the iterator yields of figures: up to the first that is no number. -/
def ys : List (List UInt8) → List Nat
  | [] => []
  | f :: r => num1 f :: (if num1 f = 0 then [] else ys r)
theorem ys_length : ∀ l, (ys l).length ≤ l.length
  | [] => by simp [ys]
  | f :: r => by
    have := ys_length r
    unfold ys
    split
    · simp
    · simp only [List.length_cons]; omega

def mOf (a b : Value) : Nat := (match a with | .string s => s.size | _ => 0) + (match b with | .bool true => 1 | _ => 0)
theorem mOf_eq (l : List UInt8) (b : Bool) : mOf (.string ⟨l.toArray⟩) (.bool b) = l.length + (if b then 1 else 0) := by
  rw [← Str.size_mk l]; cases b <;> rfl

theorem grown_of {A B : World} (h : Below A.heap.size A B) : A.grownBy B none := ⟨h.os, h.tape, h.output, h.size, fun k hk _ => h.block k hk⟩

set_option maxRecDepth 100000 in
set_option maxHeartbeats 2000000 in
theorem numbers_stops (n : Nat) (hn : 3 ≤ n) (p : List UInt8) (hp : p.length ≤ 1099511627776) (b : Nat) (w : World) (hb : b < w.heap.size) (hc : w.cell? ⟨b, 0, none⟩ = some (.string ⟨p.toArray⟩)) :
    SeqStops Fence.wide n Try.prog 41 #[.pointer (some ⟨b, 0, none⟩)] (fun x : Nat => Value.int .i64 (x : Int)) (fun xs => xs = ys (figs p)) (fun pre => pre ≠ [] ∧ pre <+: ys (figs p)) (p.length + 1) w := fun l J Jx W hW hJ _ hY h0 => by
  have hcW := (hW.cell (p := ⟨b, 0, none⟩) hb).trans hc
  refine callsIn_of_wp Try.func41 rfl trivial ?_ rfl
  simp only [Try.ntmps41, List.size_toArray, List.length_cons, List.length_nil, Nat.reduceAdd, Nat.reduceSub, Array.replicate_succ, Array.replicate_zero, List.push_toArray, List.append_toArray, List.nil_append, List.cons_append]
  gi_wp2_with fail
  gi_loopw [3, 4] (fun lv mv wr => ∃ (pre : List Nat) (left : List UInt8) (more : Bool), lv = .string ⟨left.toArray⟩ ∧ mv = .bool more ∧ Hid (pre ++ ys (if more then figs left else []) = ys (figs p)) ∧ left.length ≤ p.length ∧ J pre wr) (fun lv mv _ => mOf lv mv)
  case atStart => exact ⟨[], p, true, rfl, rfl, Lib.hid rfl, Nat.le_refl _, h0⟩
  case round =>
    obtain ⟨pre, left, more, rfl, rfl, HI, hlp, hj⟩ := hrel
    cases more with
    | false =>
      gi_wp2
      go_end0
      have hi := HI.out
      simp only [Bool.false_eq_true, if_false, ys, List.append_nil] at hi
      exact ⟨⟨_, rfl⟩, .inl ⟨pre, hi, hj⟩⟩
    | true =>
      gi_wp2_with fail
      refine ⟨trivial, fun _ => by omega, (callsIn_wide.2 (cut_any left _ (by omega))).mono ?_⟩
      rintro e w2 ⟨rfl, hb2⟩
      have hj2 : J pre w2 := hJ _ _ _ none hj (grown_of hb2) (fun r e => by cases e)
      have hf := figs_cut left
      have hlc := cutD_length left
      obtain ⟨⟨fg, lf, mr⟩, hcd⟩ : ∃ r, cutD left = r := ⟨_, rfl⟩
      rw [hcd] at hf hlc ⊢
      simp only at hf hlc
      have hi := HI.out
      rw [show (if True then figs left else []) = figs left from if_pos trivial, hf, ys] at hi
      have hnl := num1_le fg
      obtain ⟨m, hm⟩ : ∃ m, m = num1 fg := ⟨_, rfl⟩
      rw [← hm] at hi hnl
      have HM := Lib.hid hm
      have HI2 := Lib.hid hi
      have HL := Lib.hid hlc.2.2
      have hlen : pre.length < p.length + 1 := by
        have h1 := congrArg List.length hi
        have h2 := ys_length (figs p)
        have h3 := figs_length p
        simp only [List.length_append, List.length_cons] at h1
        omega
      obtain ⟨hl1, hl2, _⟩ := hlc
      clear hi hf hcd hm HI
      gi_wp2_with fail
      refine ⟨trivial, fun _ => by omega, (callsIn_wide.2 (number_any fg _ (by omega))).mono ?_⟩
      rintro e w3 ⟨rfl, rfl⟩
      rw [← HM.out]
      obtain ⟨fn, tmps, assign, body, hy, hR⟩ := hY pre m w2 hj2 hlen
      gi_wp2_with fail
      refine ⟨fun _ => by omega, hR.mono ?_⟩
      rintro e w4 (⟨rfl, hJ4, _⟩ | ⟨rfl, hx4⟩)
      · by_cases hm0 : m = 0
        · have hb0 : ((m : Int) == 0) = true := by rw [beq_iff_eq]; omega
          gi_wp2
          refine bodyPost_ret (results_none rfl _ _ _) rfl ?_
          have hi := HI2.out
          rw [if_pos hm0] at hi
          exact ⟨⟨_, rfl⟩, .inl ⟨_, hi, hJ4⟩⟩
        · have hb0 : ((m : Int) == 0) = false := by rw [beq_eq_false_iff_ne]; omega
          gi_wp2
          have hi := HI2.out
          rw [if_neg hm0] at hi
          refine ⟨⟨pre ++ [m], lf, mr, rfl, rfl, Lib.hid (by rw [List.append_assoc]; exact hi), by omega, hJ4⟩, ?_⟩
          rw [mOf_eq, mOf_eq]
          cases mr
          · simp; omega
          · have := HL.out rfl; simp; omega
      · gi_wp2
        refine bodyPost_ret (results_none rfl _ _ _) rfl ?_
        have hi := HI2.out
        refine ⟨⟨_, rfl⟩, .inr ⟨pre ++ [m], ⟨by simp, ?_⟩, hx4⟩⟩
        rw [← hi]
        exact ⟨if m = 0 then [] else ys (if mr = true then figs lf else []), by rw [List.append_assoc]; rfl⟩

end Path
end Go.Proofs.Ytfdcmmafdgagoaa
