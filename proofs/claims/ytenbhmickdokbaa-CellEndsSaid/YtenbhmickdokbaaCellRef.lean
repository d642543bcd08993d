/- The contracts of the document's answer's Compare and Join. -/
import Derived.Test.YtenbhmickdokbaaCellMore
import Derived.Test.YtenbhmickdokbaaOrder
namespace Go.Proofs.Ytenbhmickdokbaa
namespace Cell
open Go.RowKit

theorem ord_self (s : Int) : ord s s = 0 := by unfold ord; rw [if_neg (by omega), if_neg (by omega)]
theorem ord_lt {a b : Int} (h : a < b) : ord a b = -1 := by rw [ord, if_pos h]
theorem ord_gt {a b : Int} (h : b < a) : ord a b = 1 := by rw [ord, if_neg (by omega), if_pos h]

set_option maxHeartbeats 1000000 in
theorem refcompare_any (s s' : Int) (t t' : ByteArray) (g g' : Bool) (w : World) :
    Calls Try.prog 15 #[.agg #[.int .u64 s, .string t, .bool g], .agg #[.int .u64 s', .string t', .bool g']] w fun e w' => e = .returned (.int .i64 (cmp s t g s' t' g')) ∧ Below w.heap.size w w' := by
  by_cases h1 : s < s'
  · have E := Lib.hid (show cmp s t g s' t' g' = -1 by rw [cmp_1 _ _ _ _ (by rw [ord_lt h1]; decide), ord_lt h1])
    have hne : (s == s') = false := by rw [beq_eq_false_iff_ne]; omega
    go_enter Try.func15, Try.ntmps15
    go_wp2
    go_ret
    rw [E.out]
    exact ⟨rfl, balloc (balloc (Below.refl _ _) _) _⟩
  by_cases h2 : s' < s
  · have E := Lib.hid (show cmp s t g s' t' g' = 1 by rw [cmp_1 _ _ _ _ (by rw [ord_gt h2]; decide), ord_gt h2])
    have hne : (s == s') = false := by rw [beq_eq_false_iff_ne]; omega
    go_enter Try.func15, Try.ntmps15
    go_wp2
    go_ret
    rw [E.out]
    exact ⟨rfl, balloc (balloc (Below.refl _ _) _) _⟩
  obtain rfl : s = s' := by omega
  have e0 := ord_self s
  cases g <;> cases g'
  · have E := Lib.hid (show cmp s t false s t' false = Lib.compareBytes t.data.toList t'.data.toList by rw [cmp_3 t t' e0 rfl])
    go_enter Try.func15, Try.ntmps15
    clear h1 h2
    go_wp2
    · rename_i h
      go_ret
      rw [E.out, ← Lib.toList_data, ← Lib.toList_data, h, Order.cmp_self]
      exact ⟨rfl, balloc (balloc (Below.refl _ _) _) _⟩
    · rename_i h h'
      go_ret
      rw [E.out, ← Lib.toList_data, ← Lib.toList_data, Order.cmp_less _ _ h']
      exact ⟨rfl, balloc (balloc (Below.refl _ _) _) _⟩
    · rename_i h h'
      go_ret
      rw [E.out, ← Lib.toList_data, ← Lib.toList_data, Order.cmp_more _ _ h h']
      exact ⟨rfl, balloc (balloc (Below.refl _ _) _) _⟩
  · have E := Lib.hid (show cmp s t false s t' true = 1 by rw [cmp_2 t t' e0 (by decide)]; rfl)
    go_enter Try.func15, Try.ntmps15
    clear h1 h2
    go_wp2
    go_ret
    rw [E.out]
    exact ⟨rfl, balloc (balloc (Below.refl _ _) _) _⟩
  · have E := Lib.hid (show cmp s t true s t' false = -1 by rw [cmp_2 t t' e0 (by decide)]; rfl)
    go_enter Try.func15, Try.ntmps15
    clear h1 h2
    go_wp2
    go_ret
    rw [E.out]
    exact ⟨rfl, balloc (balloc (Below.refl _ _) _) _⟩
  · have E := Lib.hid (show cmp s t true s t' true = Lib.compareBytes t.data.toList t'.data.toList by rw [cmp_3 t t' e0 rfl])
    go_enter Try.func15, Try.ntmps15
    clear h1 h2
    go_wp2
    · rename_i h
      go_ret
      rw [E.out, ← Lib.toList_data, ← Lib.toList_data, h, Order.cmp_self]
      exact ⟨rfl, balloc (balloc (Below.refl _ _) _) _⟩
    · rename_i h h'
      go_ret
      rw [E.out, ← Lib.toList_data, ← Lib.toList_data, Order.cmp_less _ _ h']
      exact ⟨rfl, balloc (balloc (Below.refl _ _) _) _⟩
    · rename_i h h'
      go_ret
      rw [E.out, ← Lib.toList_data, ← Lib.toList_data, Order.cmp_more _ _ h h']
      exact ⟨rfl, balloc (balloc (Below.refl _ _) _) _⟩

set_option maxHeartbeats 1000000 in
theorem refjoin_any (s s' : Int) (t t' : ByteArray) (g g' : Bool) (w : World) :
    Calls Try.prog 17 #[.agg #[.int .u64 s, .string t, .bool g], .agg #[.int .u64 s', .string t', .bool g']] w fun e w' =>
      e = .returned (.agg #[.int .u64 (later s t g s' t' g').1, .string (later s t g s' t' g').2.1, .bool (later s t g s' t' g').2.2]) ∧ Below w.heap.size w w' := by
  have C := Lib.hid (fun w => refcompare_any s s' t t' g g' w)
  obtain ⟨c, hc⟩ : ∃ c, c = cmp s t g s' t' g' := ⟨_, rfl⟩
  rw [← hc] at C
  by_cases h : c < 0
  · have E := Lib.hid (show later s t g s' t' g' = (s', t', g') by rw [later, ← hc, if_pos h])
    clear hc
    go_enter Try.func17, Try.ntmps17
    go_wp2_with fail
    refine (C.out _).mono ?_
    rintro e w' ⟨rfl, k⟩
    obtain ⟨⟨b1, b2, b3⟩, ⟨b4, b5, b6⟩, ⟨b7, b8, b9⟩, z, z0, hb⟩ := boxes k
    have z1 := z 0
    have z2 := z 1
    have z3 := z 2
    clear z
    go_wp2
    refine bodyPost_ret (v := .agg #[.int .u64 s', .string t', .bool g']) (by simp [results, Try.results17, go_sem, b7, b8, b9]) rfl ?_
    rw [E.out]
    exact ⟨rfl, bset (bset (bset hb (by simp; omega) _) (by simp; omega) _) (by simp; omega) _⟩
  · have E := Lib.hid (show later s t g s' t' g' = (s, t, g) by rw [later, ← hc, if_neg h])
    clear hc
    go_enter Try.func17, Try.ntmps17
    go_wp2_with fail
    refine (C.out _).mono ?_
    rintro e w' ⟨rfl, k⟩
    obtain ⟨⟨b1, b2, b3⟩, ⟨b4, b5, b6⟩, ⟨b7, b8, b9⟩, z, z0, hb⟩ := boxes k
    have z1 := z 0
    have z2 := z 1
    have z3 := z 2
    clear z
    go_wp2
    refine bodyPost_ret (v := .agg #[.int .u64 s, .string t, .bool g]) (by simp [results, Try.results17, go_sem, b7, b8, b9]) rfl ?_
    rw [E.out]
    exact ⟨rfl, bset (bset (bset hb (by simp; omega) _) (by simp; omega) _) (by simp; omega) _⟩

end Cell
end Go.Proofs.Ytenbhmickdokbaa
