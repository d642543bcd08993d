/- the law's copied; slices.Clone at beats. -/
import Derived.Test.YtfdcmmafdgagoaaBeatPlain
import Derived.Deep.DeepCutAuto
namespace Go.Proofs.Ytfdcmmafdgagoaa
namespace Beat
open Go.RowKit

theorem info_beat : (Try.prog.info? 28).map (fun i => (i.zero, i.size, i.bytes)) = some (some (.agg #[.string ⟨#[]⟩, .int .u64 0, .bool false]), 3, 32) := by kernel_rfl
theorem info_parts {i? : Option TypeInfo} {z : Option Value} {s b : Nat} (h : i?.map (fun i => (i.zero, i.size, i.bytes)) = some (z, s, b)) : ∃ i, i? = some i ∧ i.zero = z ∧ i.size = s ∧ i.bytes = b := by
  cases i? with
  | none => cases h
  | some i => simp only [Option.map_some, Option.some.injEq, Prod.mk.injEq] at h; exact ⟨i, rfl, h.1, h.2.1, h.2.2⟩
/-- A row of the call's own. -/
def Own (w : World) (B0 : Nat) (v : Value) (L : List B) : Prop := w.ownsRow B0 28 3 v L.length (flat L)
theorem Own.lies {w : World} {B0 : Nat} {v : Value} {L : List B} (h : Own w B0 v L) : ∃ a c, v = .slice a L.length c ∧ L.length ≤ c ∧ c ≤ maxLen ∧ Lies w a L.length L ∧ (∀ q, a = some q → B0 ≤ q.block) := Row.lies_own (E := enc) h
set_option maxRecDepth 100000 in
set_option maxHeartbeats 1000000 in
theorem copied_any (L : List B) (a : Option Addr) (c : Nat) (w : World) (hL : Lies w a L.length L) (hn : L.length ≤ 1099511627776) :
    Calls Try.prog 9 #[.slice a L.length c] w fun e w' => ∃ v, e = .returned v ∧ Own w' w.heap.size v L ∧ Below w.heap.size w w' := by
  obtain ⟨i0, hi, hz0, hz1, hz2⟩ := info_parts info_beat
  cases a with
  | none =>
    have hl0 : L = [] := by
      rcases Nat.eq_zero_or_pos L.length with h | h
      · exact List.length_eq_zero_iff.1 h
      · obtain ⟨_, _, e, _⟩ := hL.2 h; cases e
    subst hl0
    clear hL
    simp only [List.length_nil]
    go_enter Try.func9, Try.ntmps9
    go_wp2_with (at_builtin; refine Row.wpList_nil rfl _ _ 22 28 rfl i0 Try.underlying22 hi c rfl rfl ?_)
    go_ret
    exact ⟨_, rfl, World.ownsRow_nil _ _ _ _, Below.refl _ _⟩
  | some q =>
    have hnews : Hid (∀ j u, (flat L)[j]? = some u → w.cell? (q.add j) = some u) := Lib.hid (fun j u hu => by
      have hj : j < L.length * 3 := by have := (List.getElem?_eq_some_iff.1 hu).1; rw [Row.flat_length] at this; exact this
      obtain ⟨b, off, e, _⟩ := hL.2 (by omega)
      obtain rfl : q = ⟨b, off, none⟩ := Option.some.inj e
      exact Row.Lies.at hL j u hu)
    have HF : Hid ((flat L).length = L.length * 3) := Lib.hid (Row.flat_length enc L)
    clear hL
    go_enter Try.func9, Try.ntmps9
    go_wp2_with (at_builtin; refine wpList_append_own _ rfl _ _ 22 rfl w.heap.size 28 i0 (.agg #[.string ⟨#[]⟩, .int .u64 0, .bool false]) 3 32 Try.underlying22 hi hz0 hz1 hz2 rfl (by decide) _ 0 [] rfl (World.ownsRow_nil _ _ _ _) q L.length c (flat L) rfl HF.out hnews.out (Row.flat_one enc L) (by unfold maxLen; omega) (by omega) (Nat.le_refl _) ?_; intro u1 w1 hown hgrow _; rw [Nat.zero_add, List.nil_append] at hown; have kb : Below w.heap.size w w1 := Below.grown (Below.refl _ _) hgrow (Nat.le_refl _) (fun k hk => by cases hk); have HO := Lib.hid (And.intro hown kb))
    go_ret
    exact ⟨_, rfl, HO.out.1, HO.out.2⟩
end Beat
end Go.Proofs.Ytfdcmmafdgagoaa
