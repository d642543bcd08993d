/- The contracts of gossamerref01.Runes, Count. -/
import Derived.Test.YtpbefdabnjdeaaaTextRef
import Derived.Deep.LoopGhost
namespace Go.Proofs.Ytpbefdabnjdeaaa
namespace Text
open Go.RowKit

theorem info_int : (Try.prog.info? 3).map (fun i => (i.zero, i.size, i.bytes)) = some (some (.int .i64 0), 1, 8) := by kernel_rfl

/-- Numbers as values. -/
def ints (xs : List Nat) : List Value := xs.map fun (x : Nat) => Value.int .i64 (x : Int)
theorem ints_snoc (xs : List Nat) (x : Nat) : ints xs ++ [Value.int .i64 (x : Int)] = ints (xs ++ [x]) := by simp [ints]
theorem ints_at (xs : List Nat) (j : Nat) (h : j < xs.length) : (ints xs)[j]? = some (Value.int .i64 (xs[j] : Int)) := by simp [ints, h]

/-- What Runes hands back of a text: its runes in a slice of its own. -/
def RunesPost (xs : List Nat) (w : World) (e : Ending) (w' : World) : Prop :=
  ∃ v, e = .returned (.tuple #[v, .bool true]) ∧ w'.ownsRow w.heap.size 3 1 v xs.length (ints xs) ∧ Below w.heap.size w w'

/-- What is left of a string behind the runes xs. -/
def Rest (s : ByteArray) (xs : List Nat) (t : ByteArray) : Prop := (∀ x ∈ xs, Scalar x) ∧ s.data.toList = cat xs ++ t.data.toList
theorem Rest.zero (s : ByteArray) : Rest s [] s := ⟨(fun x hx => by cases hx), rfl⟩
theorem Rest.le {s t : ByteArray} {xs : List Nat} (h : Rest s xs t) : xs.length + t.size ≤ s.size := by
  have h1 := cat_len xs
  have h2 := congrArg List.length h.2
  rw [List.length_append, ← Str.size_eq, ← Str.size_eq] at h2
  omega
theorem Rest.next {s t : ByteArray} {xs : List Nat} (h : Rest s xs t) {x k : Nat} (hr : rune t.data.toList = some (x, k)) : Rest s (xs ++ [x]) (t.extract k t.size) ∧ 1 ≤ k ∧ k ≤ t.size ∧ x ≤ 1114111 := by
  obtain ⟨g1, g2, u, g3⟩ := rune_some hr
  have ge := enc_length x
  have hl := congrArg List.length g3
  rw [List.length_append, ← Str.size_eq] at hl
  refine ⟨⟨?_, ?_⟩, by omega, by omega, by unfold Scalar at g1; omega⟩
  · intro y hy
    rcases List.mem_append.1 hy with hy | hy
    · exact h.1 y hy
    · rw [List.mem_singleton.1 hy]; exact g1
  · rw [Str.extract_toList, List.take_of_length_le (by simp), cat_append, List.append_assoc, h.2]
    congr 1
    rw [show cat [x] = enc x by simp [cat], g2]
    conv => lhs; rw [g3]
    rw [g3, List.drop_left]
theorem Rest.stop {s t : ByteArray} {xs : List Nat} (h : Rest s xs t) (hr : rune t.data.toList = none) (ht : t.size ≠ 0) : runes s.data.toList = none := by
  rw [h.2, runes_behind xs _ h.1, rune_none hr (by intro e; rw [Str.size_eq, e] at ht; exact ht rfl)]; rfl
theorem Rest.last {s t : ByteArray} {xs : List Nat} (h : Rest s xs t) (ht : t.size = 0) : runes s.data.toList = some xs := by
  have e : t.data.toList = [] := List.length_eq_zero_iff.1 (by rw [← Str.size_eq]; exact ht)
  rw [h.2, e, List.append_nil]; exact runes_cat xs h.1
def Runes2 (s : ByteArray) (w : World) (e : Ending) (w' : World) : Prop :=
  match runes s.data.toList with
  | none => e = .returned (.tuple #[.slice none 0 0, .bool false]) ∧ Below w.heap.size w w'
  | some xs => RunesPost xs w e w'

set_option maxRecDepth 100000 in
set_option maxHeartbeats 1000000 in
theorem runes2_any (s : ByteArray) (w : World) (hs : s.size ≤ 65536) :
    Calls Try.prog 21 #[.string s] w (Runes2 s w) := by
  obtain ⟨i0, hi, hz0, hz1, hz2⟩ := info_parts info_int
  go_enter Try.func21, Try.ntmps21
  go_wp2
  go_loopw [0, 4] (fun sv v wr => ∃ (xs : List Nat) (t : ByteArray), Rest s xs t ∧ sv = .string t ∧ wr.ownsRow w.heap.size 3 1 v xs.length (ints xs) ∧ Below w.heap.size w wr) (fun sv _ _ => match sv with | .string t => t.size | _ => 0)
  case atStart => exact ⟨[], s, Rest.zero s, rfl, World.ownsRow_nil _ _ _ _, Below.refl _ _⟩
  case round =>
    obtain ⟨xs, t, hrest, rfl, hown, hb⟩ := hrel
    have hle := hrest.le
    by_cases h0 : t.size = 0
    · have he : (!t.toList.isEmpty) = false := by
        have e : t.data.toList = [] := List.length_eq_zero_iff.1 (by rw [← Str.size_eq]; exact h0)
        rw [Lib.toList_data, e]; rfl
      have Hl := Lib.hid (hrest.last h0)
      clear h0
      go_wp2
      go_ret2
      unfold Runes2
      rw [Hl.out]
      exact ⟨_, rfl, hown, hb⟩
    · have he : (!t.toList.isEmpty) = true := by
        rw [Lib.toList_data]
        cases h : t.data.toList with
        | nil => rw [Str.size_eq, h] at h0; exact absurd rfl h0
        | cons _ _ => rfl
      cases hr : rune t.data.toList with
      | none =>
        have hn := hrest.stop hr h0
        have hrd := read_any t wr (by unfold maxLen; omega)
        rw [hr] at hrd
        have Hrd := Lib.hid hrd
        have Hn := Lib.hid hn
        clear hrd hn hr
        go_wp2_with fail
        refine Hrd.out.mono ?_
        rintro e w' ⟨rfl, rfl⟩
        dsimp only [got, Option.getD]
        go_wp2
        go_ret2
        unfold Runes2
        rw [Hn.out]
        exact ⟨rfl, hb⟩
      | some y =>
        obtain ⟨x, k⟩ := y
        obtain ⟨hrest', hk1, hk2, hx⟩ := hrest.next hr
        have hrd := read_any t wr (by unfold maxLen; omega)
        rw [hr] at hrd
        have Hrd := Lib.hid hrd
        have hk0 : ((k : Int) == 0) = false := by rw [beq_eq_false_iff_ne]; omega
        clear hrd hr
        go_wp2_with fail
        refine Hrd.out.mono ?_
        rintro e w' ⟨rfl, rfl⟩
        dsimp only [got, Option.getD]
        have hbs := hb.size
        go_wp2_with (at_builtin; refine wpList_append_own _ rfl _ _ 29 rfl w.heap.size 3 i0 (.int .i64 0) 1 8 Try.underlying29 hi hz0 hz1 hz2 rfl (by decide) _ _ _ rfl (hown.alloc _) ⟨wr.heap.size, 0, none⟩ 1 1 [.int .i64 (x : Int)] rfl rfl (cell_one_new _ _ _) (by simp [Value.oneCell']) (by unfold maxLen; omega) (by omega) (by simp; omega) ?_; intro v' w1 hown' hgrow _)
        rw [ints_snoc] at hown'
        refine ⟨⟨xs ++ [x], _, hrest', rfl, by rw [List.length_append, List.length_singleton]; exact hown', Below.grown (hb.alloc hbs _) hgrow (by simp; omega) (fun j hj => (hown.lt _ hj).1)⟩, ?_⟩
        show (t.extract k t.size).size < t.size
        rw [ByteArray.size_extract]; omega

set_option maxHeartbeats 400000 in
theorem count_any (s : ByteArray) (w : World) (hs : s.size ≤ 65536) :
    Calls Try.prog 11 #[.string s] w fun e w' => e = .returned (.int .i64 (count (runes s.data.toList))) ∧ Below w.heap.size w w' := by
  have h := runes2_any s w hs
  unfold Runes2 at h
  cases hr : runes s.data.toList with
  | none =>
    rw [hr] at h
    have H := Lib.hid h
    clear h hr
    go_enter Try.func11, Try.ntmps11
    go_wp2_with fail
    refine H.out.mono ?_
    rintro e w' ⟨rfl, hb⟩
    go_wp2
    go_ret
    exact ⟨rfl, hb⟩
  | some xs =>
    rw [hr] at h
    have hl := (runes_some hr).1
    have hc := cat_len xs
    have hsz : xs.length ≤ 65536 := by rw [← hl, ← Str.size_eq] at hc; omega
    have H := Lib.hid h
    clear h hr hl hc
    go_enter Try.func11, Try.ntmps11
    go_wp2_with fail
    refine H.out.mono ?_
    rintro e w' ⟨v, rfl, hown, hb⟩
    rcases hown.2 with ⟨rfl, hn⟩ | ⟨g, cap, cur, rfl, _⟩
    · obtain rfl : xs = [] := List.length_eq_zero_iff.1 hn
      clear hown
      go_wp2
      go_ret
      exact ⟨rfl, hb⟩
    · clear hown
      go_wp2
      go_ret
      exact ⟨rfl, hb⟩

end Text
end Go.Proofs.Ytpbefdabnjdeaaa
