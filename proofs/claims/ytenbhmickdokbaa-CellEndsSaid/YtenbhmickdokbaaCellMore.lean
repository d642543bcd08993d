/- The contracts of package cell's other functions, and of the document's answer's. -/
import Derived.Test.YtenbhmickdokbaaCell
namespace Go.Proofs.Ytenbhmickdokbaa
namespace Cell
open Go.RowKit

/-- Which cells may be. -/
def may (s : Int) (t : ByteArray) (g : Bool) : Bool := if s = 0 then !g && t.toList.isEmpty else decide (s ≤ 281474976710656) && decide ((t.size : Int) ≤ 4096) && !(g && !t.toList.isEmpty)

set_option maxHeartbeats 1000000 in
theorem may_any (s : Int) (t : ByteArray) (g : Bool) (w : World) :
    Calls Try.prog 12 #[.agg #[.int .u64 s, .string t, .bool g]] w fun e w' => e = .returned (.bool (may s t g)) ∧ Below w.heap.size w w' := by
  go_enter Try.func12, Try.ntmps12
  go_wp2
  all_goals
    go_ret
    refine ⟨?_, balloc (Below.refl _ _) _⟩
    first
    | (simp_all [may]; done)
    | (simp_all [may]; omega)

set_option maxHeartbeats 1000000 in
theorem refmay_any (s : Int) (t : ByteArray) (g : Bool) (w : World) (hs : 0 ≤ s) :
    Calls Try.prog 13 #[.agg #[.int .u64 s, .string t, .bool g]] w fun e w' => e = .returned (.bool (may s t g)) ∧ Below w.heap.size w w' := by
  rcases (show s = 0 ∨ 0 < s by omega) with rfl | h
  · have hz : t.toList = [] → (t.size : Int) ≤ 4096 := fun e => by rw [Lib.toList_data] at e; rw [Str.size_eq, e]; decide
    clear hs
    go_enter Try.func13, Try.ntmps13
    go_wp2
    all_goals
      go_ret
      refine ⟨?_, balloc (Below.refl _ _) _⟩
      first
      | (simp_all [may]; done)
      | (simp_all [may]; omega)
      | (simp_all [may]; intro _ e; have h2 := hz e; omega)
  · have h0 : s ≠ 0 := by omega
    go_enter Try.func13, Try.ntmps13
    go_wp2
    all_goals
      go_ret
      refine ⟨?_, balloc (Below.refl _ _) _⟩
      first
      | (simp_all [may]; done)
      | (simp_all [may]; omega)
      | (rcases ‹(_ ∨ _) ∨ _› with (h | h) | h
         · omega
         · omega
         · simp_all [may])

/-- What is written: a cell, and a number of an error. -/
def wrote (s : Int) (tx : ByteArray) (gone : Bool) : (Int × ByteArray × Bool) × Int :=
  if 4096 < (tx.size : Int) then ((0, ⟨#[]⟩, false), 4) else if 281474976710656 ≤ s then ((0, ⟨#[]⟩, false), 9) else ((s + 1, (if gone then ⟨#[]⟩ else tx), gone), 0)

set_option maxHeartbeats 1000000 in
theorem write_any (s : Int) (t : ByteArray) (g : Bool) (tx : ByteArray) (gone : Bool) (w : World) (hs : 0 ≤ s) :
    Calls Try.prog 8 #[.agg #[.int .u64 s, .string t, .bool g], .string tx, .bool gone] w fun e w' =>
      e = .returned (.tuple #[.agg #[.int .u64 (wrote s tx gone).1.1, .string (wrote s tx gone).1.2.1, .bool (wrote s tx gone).1.2.2], .int .i64 (wrote s tx gone).2]) ∧ Below w.heap.size w w' := by
  by_cases h1 : 4096 < (tx.size : Int)
  · have E := Lib.hid (show wrote s tx gone = ((0, ⟨#[]⟩, false), 4) by rw [wrote, if_pos h1])
    go_enter Try.func8, Try.ntmps8
    go_wp2
    refine bodyPost_ret (v := _) (by simp [results, Try.results8, go_sem]; rfl) rfl ?_
    rw [E.out]
    exact ⟨rfl, balloc (balloc (Below.refl _ _) _) _⟩
  by_cases h2 : 281474976710656 ≤ s
  · have E := Lib.hid (show wrote s tx gone = ((0, ⟨#[]⟩, false), 9) by rw [wrote, if_neg h1, if_pos h2])
    go_enter Try.func8, Try.ntmps8
    go_wp2
    refine bodyPost_ret (v := _) (by simp [results, Try.results8, go_sem]; rfl) rfl ?_
    rw [E.out]
    exact ⟨rfl, balloc (balloc (Below.refl _ _) _) _⟩
  have E := Lib.hid (show wrote s tx gone = ((s + 1, (if gone then ⟨#[]⟩ else tx), gone), 0) by rw [wrote, if_neg h1, if_neg h2])
  cases gone
  · go_enter Try.func8, Try.ntmps8
    go_wp2
    refine bodyPost_ret (v := _) (by simp [results, Try.results8, go_sem]; rfl) rfl ?_
    rw [E.out]
    exact ⟨rfl, balloc (balloc (Below.refl _ _) _) _⟩
  · go_enter Try.func8, Try.ntmps8
    go_wp2
    refine bodyPost_ret (v := _) (by simp [results, Try.results8, go_sem]; rfl) rfl ?_
    rw [E.out]
    exact ⟨rfl, balloc (balloc (Below.refl _ _) _) _⟩

set_option maxHeartbeats 1000000 in
theorem refwrite_any (s : Int) (t : ByteArray) (g : Bool) (tx : ByteArray) (gone : Bool) (w : World) (hs : 0 ≤ s) :
    Calls Try.prog 9 #[.agg #[.int .u64 s, .string t, .bool g], .string tx, .bool gone] w fun e w' =>
      e = .returned (.tuple #[.agg #[.int .u64 (wrote s tx gone).1.1, .string (wrote s tx gone).1.2.1, .bool (wrote s tx gone).1.2.2], .int .i64 (wrote s tx gone).2]) ∧ Below w.heap.size w w' := by
  by_cases h1 : 4096 < (tx.size : Int)
  · have E := Lib.hid (show wrote s tx gone = ((0, ⟨#[]⟩, false), 4) by rw [wrote, if_pos h1])
    go_enter Try.func9, Try.ntmps9
    go_wp2
    refine bodyPost_ret (v := _) (by simp [results, Try.results9, go_sem]; rfl) rfl ?_
    rw [E.out]
    exact ⟨rfl, balloc (balloc (Below.refl _ _) _) _⟩
  by_cases h2 : 281474976710656 ≤ s
  · have E := Lib.hid (show wrote s tx gone = ((0, ⟨#[]⟩, false), 9) by rw [wrote, if_neg h1, if_pos h2])
    go_enter Try.func9, Try.ntmps9
    go_wp2
    refine bodyPost_ret (v := _) (by simp [results, Try.results9, go_sem]; rfl) rfl ?_
    rw [E.out]
    exact ⟨rfl, balloc (balloc (Below.refl _ _) _) _⟩
  have E := Lib.hid (show wrote s tx gone = ((s + 1, (if gone then ⟨#[]⟩ else tx), gone), 0) by rw [wrote, if_neg h1, if_neg h2])
  cases gone
  · go_enter Try.func9, Try.ntmps9
    go_wp2
    refine bodyPost_ret (v := _) (by simp [results, Try.results9, go_sem]; rfl) rfl ?_
    rw [E.out]
    exact ⟨rfl, balloc (balloc (Below.refl _ _) _) _⟩
  · go_enter Try.func9, Try.ntmps9
    go_wp2
    refine bodyPost_ret (v := _) (by simp [results, Try.results9, go_sem]; rfl) rfl ?_
    rw [E.out]
    exact ⟨rfl, balloc (balloc (Below.refl _ _) _) _⟩

/-- What a cell tells. -/
def tell (s : Int) (t : ByteArray) (g : Bool) : ByteArray × Bool := if s = 0 ∨ g = true then (⟨#[]⟩, false) else (t, true)

set_option maxHeartbeats 1000000 in
theorem text_any (s : Int) (t : ByteArray) (g : Bool) (w : World) :
    Calls Try.prog 10 #[.agg #[.int .u64 s, .string t, .bool g]] w fun e w' => e = .returned (.tuple #[.string (tell s t g).1, .bool (tell s t g).2]) ∧ Below w.heap.size w w' := by
  go_enter Try.func10, Try.ntmps10
  go_wp2
  all_goals
    go_ret2
    refine ⟨?_, balloc (Below.refl _ _) _⟩
    simp_all [tell]

set_option maxHeartbeats 1000000 in
theorem reftext_any (s : Int) (t : ByteArray) (g : Bool) (w : World) :
    Calls Try.prog 11 #[.agg #[.int .u64 s, .string t, .bool g]] w fun e w' => e = .returned (.tuple #[.string (tell s t g).1, .bool (tell s t g).2]) ∧ Below w.heap.size w w' := by
  go_enter Try.func11, Try.ntmps11
  go_wp2
  all_goals
    go_ret2
    refine ⟨?_, balloc (Below.refl _ _) _⟩
    simp_all [tell]

set_option maxHeartbeats 400000 in
theorem large_any (s : Int) (t : ByteArray) (g : Bool) (w : World) :
    Calls Try.prog 6 #[.agg #[.int .u64 s, .string t, .bool g]] w fun e w' => e = .returned (.bool (decide (8192 < (t.size : Int)))) ∧ Below w.heap.size w w' := by
  go_enter Try.func6, Try.ntmps6
  go_wp2
  go_ret
  exact ⟨rfl, balloc (Below.refl _ _) _⟩

/-- Two boxes and a struct's room, behind a call. -/
theorem boxes {w w' : World} {s s' : Int} {t t' : ByteArray} {g g' : Bool}
    (k : Below (((w.alloc (.cells #[.int .u64 s, .string t, .bool g] 24)).alloc (.cells #[.int .u64 s', .string t', .bool g'] 24)).alloc (.cells #[.int .u64 0, .string ⟨#[]⟩, .bool false] 24)).heap.size
      (((w.alloc (.cells #[.int .u64 s, .string t, .bool g] 24)).alloc (.cells #[.int .u64 s', .string t', .bool g'] 24)).alloc (.cells #[.int .u64 0, .string ⟨#[]⟩, .bool false] 24)) w') :
    In w' w.heap.size s t g ∧ In w' (w.heap.size + 1) s' t' g' ∧ In w' (w.heap.size + 1 + 1) 0 ⟨#[]⟩ false ∧ (∀ j, w'.frozen? ⟨w.heap.size + 1 + 1, j, none⟩ = false) ∧ w.heap.size + 1 + 1 < w'.heap.size ∧ Below w.heap.size w w' := by
  refine ⟨(((In.new w s t g _ rfl).alloc _).alloc _).below k, ((In.new _ s' t' g' _ (by simp)).alloc _).below k, (In.new _ _ _ _ _ (by simp)).below k, fun j => ?_, ?_, bstep (balloc (balloc (balloc (Below.refl _ _) _) _) _) k⟩
  · exact (k.frozen (p := ⟨w.heap.size + 1 + 1, j, none⟩) (by simp)).trans (World.frozen?_alloc_at _ _ _ _ (by simp))
  · have := k.size; simp at this; omega

/-- The later of both. -/
def later (s : Int) (t : ByteArray) (g : Bool) (s' : Int) (t' : ByteArray) (g' : Bool) : Int × ByteArray × Bool := if cmp s t g s' t' g' < 0 then (s', t', g') else (s, t, g)

set_option maxHeartbeats 1000000 in
theorem join_any (s s' : Int) (t t' : ByteArray) (g g' : Bool) (w : World) :
    Calls Try.prog 16 #[.agg #[.int .u64 s, .string t, .bool g], .agg #[.int .u64 s', .string t', .bool g']] w fun e w' =>
      e = .returned (.agg #[.int .u64 (later s t g s' t' g').1, .string (later s t g s' t' g').2.1, .bool (later s t g s' t' g').2.2]) ∧ Below w.heap.size w w' := by
  have C := Lib.hid (fun w => compare_any s s' t t' g g' w)
  obtain ⟨c, hc⟩ : ∃ c, c = cmp s t g s' t' g' := ⟨_, rfl⟩
  rw [← hc] at C
  by_cases h : c < 0
  · have E := Lib.hid (show later s t g s' t' g' = (s', t', g') by rw [later, ← hc, if_pos h])
    clear hc
    go_enter Try.func16, Try.ntmps16
    go_wp2_with fail
    refine (C.out _).mono ?_
    rintro e w' ⟨rfl, k⟩
    obtain ⟨⟨b1, b2, b3⟩, ⟨b4, b5, b6⟩, ⟨b7, b8, b9⟩, z, z0, hb⟩ := boxes k
    have z1 := z 0
    have z2 := z 1
    have z3 := z 2
    clear z
    go_wp2
    refine bodyPost_ret (v := .agg #[.int .u64 s', .string t', .bool g']) (by simp [results, Try.results16, go_sem, b7, b8, b9]) rfl ?_
    rw [E.out]
    exact ⟨rfl, bset (bset (bset hb (by simp; omega) _) (by simp; omega) _) (by simp; omega) _⟩
  · have E := Lib.hid (show later s t g s' t' g' = (s, t, g) by rw [later, ← hc, if_neg h])
    clear hc
    go_enter Try.func16, Try.ntmps16
    go_wp2_with fail
    refine (C.out _).mono ?_
    rintro e w' ⟨rfl, k⟩
    obtain ⟨⟨b1, b2, b3⟩, ⟨b4, b5, b6⟩, ⟨b7, b8, b9⟩, z, z0, hb⟩ := boxes k
    have z1 := z 0
    have z2 := z 1
    have z3 := z 2
    clear z
    go_wp2
    refine bodyPost_ret (v := .agg #[.int .u64 s, .string t, .bool g]) (by simp [results, Try.results16, go_sem, b7, b8, b9]) rfl ?_
    rw [E.out]
    exact ⟨rfl, bset (bset (bset hb (by simp; omega) _) (by simp; omega) _) (by simp; omega) _⟩

end Cell
end Go.Proofs.Ytenbhmickdokbaa
