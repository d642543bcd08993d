/- What is read of bytes that were written, whole or cut off: in plain Lean. -/
import Derived.Test.YteladdjdmgjagaaWireDo
import Derived.Test.YteladdjdmgjagaaWireApartPlain
namespace Go.Proofs.Yteladdjdmgjagaa
namespace Wire
open Num

/-- R is still to come, of Sz bytes of which the first M are there; behind them stands beh. -/
def Inv (Sz M : Nat) (beh R left : List UInt8) (E : Int) (same : Bool) : Prop :=
  (E = 0 ∧ same = true ∧ R.length ≤ Sz ∧ ∃ M', left = (R ++ beh).take M' ∧ M = Sz - R.length + M') ∨ (E ≠ 0 ∧ M < Sz)

theorem rdL_le_err (l : List UInt8) (h : (rdL l).2.2 ≠ 0) : numT l 18446744073709551615 = (0, 0, (rdL l).2.2) := by rw [numT, if_pos h]
theorem take_left {α : Type} (a b : List α) (n : Nat) (h : a.length ≤ n) : (a ++ b).take n = a ++ b.take (n - a.length) := by
  rw [List.take_append, List.take_of_length_le h]
theorem take_short {α : Type} (a b : List α) (n : Nat) (h : n ≤ a.length) : (a ++ b).take n = a.take n := by
  rw [List.take_append, Nat.sub_eq_zero_of_le h, List.take_zero, List.append_nil]

theorem inv_num {Sz M : Nat} {beh R left : List UInt8} {E : Int} {same : Bool} {n : Nat} (h : Inv Sz M beh (upL n ++ R) left E same) (hn : n < 18446744073709551616) :
    ∃ x left' E', numS 18446744073709551615 left E = (x, left', E') ∧ (x = n → Inv Sz M beh R left' E' same) ∧ (x ≠ n → Inv Sz M beh R left' E' false) := by
  rcases h with ⟨rfl, rfl, hR, M', rfl, hM⟩ | ⟨hE, hM⟩
  · rw [List.length_append] at hR hM
    by_cases hc : (upL n).length ≤ M'
    · rw [List.append_assoc, take_left _ _ _ hc]
      have hr := rd_upL n hn ((R ++ beh).take (M' - (upL n).length))
      refine ⟨n, (R ++ beh).take (M' - (upL n).length), 0, ?_, fun _ => .inl ⟨rfl, rfl, by omega, _, rfl, by omega⟩, fun h => absurd rfl h⟩
      rw [numS, if_neg (by simp), numT, hr]
      simp only
      rw [if_neg (by simp), if_neg (by omega)]
      simp
    · rw [List.append_assoc, take_short _ _ _ (by omega)]
      have hr := rdL_cut n M' (by omega)
      refine ⟨0, (upL n).take M', 20, ?_, fun _ => .inr ⟨by decide, by omega⟩, fun _ => .inr ⟨by decide, by omega⟩⟩
      rw [numS, if_neg (by simp), numT, hr]
      simp
  · exact ⟨0, left, E, by rw [numS, if_pos hE], fun _ => .inr ⟨hE, hM⟩, fun _ => .inr ⟨hE, hM⟩⟩

theorem inv_text {Sz M : Nat} {beh R left : List UInt8} {E : Int} {same : Bool} {t : ByteArray} (h : Inv Sz M beh (one t ++ R) left E same) (hn : t.size ≤ 8192) :
    ∃ x left' E', textS 8192 left E = (x, left', E') ∧ (x = t.data.toList → Inv Sz M beh R left' E' same) ∧ (x ≠ t.data.toList → Inv Sz M beh R left' E' false) := by
  rcases h with ⟨rfl, rfl, hR, M', rfl, hM⟩ | ⟨hE, hM⟩
  · have hts := Str.size_eq t
    rw [List.length_append, one, List.length_append, ← hts] at hR hM
    rw [one, List.append_assoc, List.append_assoc]
    by_cases hc : (upL t.size).length ≤ M'
    · rw [take_left _ _ _ hc]
      by_cases hd : t.size ≤ M' - (upL t.size).length
      · rw [take_left _ _ _ (by omega), ← hts]
        have hr := rd_upL t.size (by omega) (t.data.toList ++ (R ++ beh).take (M' - (upL t.size).length - t.size))
        refine ⟨t.data.toList, (R ++ beh).take (M' - (upL t.size).length - t.size), 0, ?_, fun _ => .inl ⟨rfl, rfl, by omega, _, rfl, by omega⟩, fun h => absurd rfl h⟩
        rw [textS, if_neg (by simp), textT, hr]
        simp only
        rw [if_neg (by simp), if_neg (by omega), if_neg (by simp only [List.length_append]; omega)]
        simp only [List.drop_left, if_true]
        rw [hts, List.take_left', ← List.append_assoc, List.drop_left']
        · simp
        · rfl
      · rw [take_short _ _ _ (by omega)]
        have hr := rd_upL t.size (by omega) (t.data.toList.take (M' - (upL t.size).length))
        refine ⟨[], upL t.size ++ t.data.toList.take (M' - (upL t.size).length), 20, ?_, fun _ => .inr ⟨by decide, by omega⟩, fun _ => .inr ⟨by decide, by omega⟩⟩
        rw [textS, if_neg (by simp), textT, hr]
        simp only
        rw [if_neg (by simp), if_neg (by omega), if_pos (by simp only [List.length_append, List.length_take]; omega)]
        simp
    · rw [take_short _ _ _ (by omega)]
      have hr := rdL_cut t.size M' (by omega)
      refine ⟨[], (upL t.size).take M', 20, ?_, fun _ => .inr ⟨by decide, by omega⟩, fun _ => .inr ⟨by decide, by omega⟩⟩
      rw [textS, if_neg (by simp), textT, hr]
      simp
  · exact ⟨[], left, E, by rw [textS, if_pos hE], fun _ => .inr ⟨hE, hM⟩, fun _ => .inr ⟨hE, hM⟩⟩

theorem inv_bool {Sz M : Nat} {beh left : List UInt8} {E : Int} {same b : Bool} (h : Inv Sz M beh [tr b] left E same) :
    ∃ x left' E', boolS left E = (x, left', E') ∧ (x = b → Inv Sz M beh [] left' E' same) ∧ (x ≠ b → Inv Sz M beh [] left' E' false) := by
  rcases h with ⟨rfl, rfl, hR, M', rfl, hM⟩ | ⟨hE, hM⟩
  · rw [List.length_singleton] at hR hM
    cases M' with
    | zero =>
      refine ⟨false, [], 20, rfl, fun _ => .inr ⟨by decide, by omega⟩, fun _ => .inr ⟨by decide, by omega⟩⟩
    | succ m =>
      refine ⟨b, beh.take m, 0, ?_, fun _ => .inl ⟨rfl, rfl, by simp, m, by simp, by simp; omega⟩, fun h => absurd rfl h⟩
      cases b <;> simp [boolS, boolT, tr]
  · exact ⟨false, left, E, by rw [boolS, if_pos hE], fun _ => .inr ⟨hE, hM⟩, fun _ => .inr ⟨hE, hM⟩⟩

theorem inv_start (Sz M : Nat) (beh S : List UInt8) (h : S.length = Sz) : Inv Sz M beh S ((S ++ beh).take M) 0 true :=
  .inl ⟨rfl, rfl, by omega, M, rfl, by omega⟩
theorem inv_whole {Sz M : Nat} {beh left : List UInt8} {E : Int} {same : Bool} (h : Inv Sz M beh [] left E same) (hM : Sz + beh.length ≤ M) : E = 0 ∧ same = true ∧ left = beh := by
  rcases h with ⟨h1, h2, _, M', h3, h4⟩ | ⟨_, h⟩
  · refine ⟨h1, h2, ?_⟩
    rw [h3, List.nil_append, List.take_of_length_le (by simp at h4; omega)]
  · omega
theorem inv_cut {Sz M : Nat} {left : List UInt8} {E : Int} {same : Bool} (h : Inv Sz M [] [] left E same) (hM : M ≤ Sz) : E = 0 ↔ M = Sz := by
  rcases h with ⟨h1, _, _, M', _, h4⟩ | ⟨h1, h⟩
  · simp at h4
    exact ⟨fun _ => by omega, fun _ => h1⟩
  · exact ⟨fun e => absurd e h1, fun e => by omega⟩

end Wire
end Go.Proofs.Yteladdjdmgjagaa
