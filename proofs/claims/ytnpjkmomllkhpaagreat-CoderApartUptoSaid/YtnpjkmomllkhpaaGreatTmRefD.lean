/- Merged texts: RefDotOf, RefDotCmp. -/
import Derived.Test.YtnpjkmomllkhpaaGreatTake
import Derived.Test.YtnpjkmomllkhpaaGreatTmDotA
import Derived.Laws.StructEq
namespace Go.Proofs.YtnpjkmomllkhpaaGreat
namespace RefDots
open Go.RowKit Go.Proofs.YtnpjkmomllkhpaaGreat.Mark Go.Proofs.YtnpjkmomllkhpaaGreat.Dots

theorem eql_of (T : TypeId) (h : Tryz.prog.underlying T = Tryz.prog.underlying 54) (hp : Tryz.prog.stoodInHeld T = false) (m k : M) (w : World) : (Op.equalIn 10000 T (.agg (m.cells).toArray) (.agg (k.cells).toArray)).run Tryz.prog w = .ok (m.p == k.p && (m.n : Int) == (k.n : Int)) w := by
  have hS : Tryz.prog.underlying T = some (.struct (Tryz.prog.fieldsOf T)) := by rw [Program.fieldsOf, h]; kernel_rfl
  rw [show (10000 : Nat) = 9999 + 1 from rfl, run_equalIn_agg w 9999 T _ _ hS hp]
  simp only [Program.fieldsOf, h, Tryz.underlying54, M.cells]
  have u1 := Tryz.underlying9
  have u2 := Tryz.underlying25
  go_simp
  by_cases h1 : m.p = k.p <;> by_cases h2 : (m.n : Int) = (k.n : Int) <;> simp [h1, h2]


end RefDots
end Go.Proofs.YtnpjkmomllkhpaaGreat

namespace Go.Proofs.YtnpjkmomllkhpaaGreat
namespace RefDots
open Go.RowKit Go.Proofs.YtnpjkmomllkhpaaGreat.Mark Go.Proofs.YtnpjkmomllkhpaaGreat.Dots

instance : DecidableEq M := fun a b => if h : a.p = b.p ∧ a.n = b.n then .isTrue (M.ext' h.1 h.2) else .isFalse (fun e => h (by rw [e]; exact ⟨rfl, rfl⟩))
theorem eqM_iff (m k : M) : (m.p == k.p && (m.n : Int) == (k.n : Int)) = decide (m = k) := by
  by_cases h : m = k
  · subst h; simp
  · rw [decide_eq_false h]
    cases h1 : (m.p == k.p) with
    | false => rfl
    | true =>
      have e1 : m.p = k.p := by simpa using h1
      have : m.n ≠ k.n := fun e => h (M.ext' e1 e)
      simp; omega
theorem neq_mark (m k : M) (w : World) : (binOp .neq 54 (.agg #[.string ⟨m.p.toArray⟩, .int .u64 (m.n : Int)]) (.agg #[.string ⟨k.p.toArray⟩, .int .u64 (k.n : Int)])).run Tryz.prog w = .ok (.bool (!decide (m = k))) w := by
  rw [run_neq_struct]
  have h := eql_of 54 rfl (by kernel_rfl) m k w
  rw [eqM_iff] at h
  unfold M.cells at h
  rw [h]; rfl
theorem eql_dot (m k : M) (w : World) : (binOp .eql 96 (.agg #[.string ⟨m.p.toArray⟩, .int .u64 (m.n : Int)]) (.agg #[.string ⟨k.p.toArray⟩, .int .u64 (k.n : Int)])).run Tryz.prog w = .ok (.bool (decide (m = k))) w := by
  rw [run_eql_struct]
  have h := eql_of 96 (by kernel_rfl) (by kernel_rfl) m k w
  rw [eqM_iff] at h
  unfold M.cells at h
  rw [h]; rfl

theorem cmpD_ways (a b : M) : cmpD a b = if (Op.bytesLess a.p b.p || (a.p == b.p && decide (a.n < b.n))) then -1 else if a = b then 0 else 1 := by
  unfold cmpD
  rcases Order.cmp_ways a.p b.p with h | h | h
  · have hl : Op.bytesLess a.p b.p = true := by
      cases h' : Op.bytesLess a.p b.p with
      | true => rfl
      | false =>
        have hne : a.p ≠ b.p := fun e => by rw [e, Order.cmp_self] at h; omega
        have := Order.cmp_more _ _ hne h'; omega
    rw [hl, h]; rfl
  · have e := Order.cmp_zero _ _ h
    have hl : Op.bytesLess a.p b.p = false := by
      cases h' : Op.bytesLess a.p b.p with
      | false => rfl
      | true => have := Order.cmp_less _ _ h'; omega
    rw [hl, h, if_neg (by omega), Bool.false_or, e, beq_self_eq_true, Bool.true_and]
    unfold cmpI
    by_cases h1 : a.n < b.n
    · rw [if_pos h1, if_pos (decide_eq_true h1)]
    · rw [if_neg h1, if_neg (show ¬ decide (a.n < b.n) = true by rw [decide_eq_true_eq]; exact h1)]
      by_cases h2 : b.n < a.n
      · rw [if_pos h2, if_neg (fun e' => by rw [e'] at h2; omega)]
      · rw [if_neg h2, if_pos (M.ext' e (by omega))]
  · have hl : Op.bytesLess a.p b.p = false := by
      cases h' : Op.bytesLess a.p b.p with
      | false => rfl
      | true => have := Order.cmp_less _ _ h'; omega
    have hne : a.p ≠ b.p := fun e => by rw [e, Order.cmp_self] at h; omega
    have l1 : (a.p == b.p) = false := by rw [beq_eq_false_iff_ne]; exact hne
    rw [hl, h, l1, if_pos (by omega), if_neg (by rw [Bool.false_or, Bool.false_and]; decide), if_neg (fun e => hne (by rw [e]))]

set_option maxRecDepth 100000 in
set_option maxHeartbeats 1000000 in
theorem same_any (L K : List M) (a1 a2 : Option Addr) (n1 n2 c1 c2 : Nat) (w : World) (hL : Lies w a1 n1 L) (hK : Lies w a2 n2 K) (hn1 : n1 ≤ 1099511627776) (hn2 : n2 ≤ 1099511627776) :
    Calls Tryz.prog 10 #[.slice a1 n1 c1, .slice a2 n2 c2] w fun e w' => e = .returned (.bool (decide (L = K))) ∧ Below w.heap.size w w' := by
  have h0 := Below.refl w.heap.size w
  by_cases hne : n1 = n2
  · subst hne
    have HL := Lib.hid hL
    have HK := Lib.hid hK
    have hneq : ((n1 : Int) != (n1 : Int)) = false := by simp
    clear hL hK
    go_enter Tryz.func10, Tryz.ntmps10
    go_wp2_with fail
    go_loopw [5] (fun iv wr => ∃ k : Nat, k ≤ n1 ∧ iv = .int .i64 k ∧ L.take k = K.take k ∧ Below w.heap.size w wr) (fun iv _ => n1 - (intOf iv).toNat)
    case atStart => exact ⟨0, by omega, rfl, rfl, h0⟩
    case round =>
      obtain ⟨k, hk, rfl, hs, hb⟩ := hrel
      have hln := HL.out.1
      have hkn := HK.out.1
      by_cases hlt : k < n1
      · obtain ⟨b1, o1, rfl, hcell1⟩ := (HL.out.below hb).2 (by omega)
        obtain ⟨b2, o2, rfl, hcell2⟩ := (HK.out.below hb).2 (by omega)
        obtain ⟨d1, d2⟩ := hcell1 k (by omega)
        obtain ⟨d3, d4⟩ := hcell2 k (by omega)
        have hs1 : L.take (k + 1) = L.take k ++ [L[k]'(by omega)] := List.take_succ_eq_append_getElem (by omega)
        have hs2 : K.take (k + 1) = K.take k ++ [K[k]'(by omega)] := List.take_succ_eq_append_getElem (by omega)
        obtain ⟨m, hm⟩ : ∃ m, m = L[k]'(by omega) := ⟨_, rfl⟩
        obtain ⟨x, hx⟩ : ∃ x, x = K[k]'(by omega) := ⟨_, rfl⟩
        rw [← hm] at d1 d2 hs1
        rw [← hx] at d3 d4 hs2
        have hE := neq_mark m x
        by_cases he : m = x
        · rw [decide_eq_true he] at hE
          have HS : Hid (L.take (k + 1) = K.take (k + 1)) := Lib.hid (by rw [hs1, hs2, hs, he])
          clear hs hs1 hs2 hm hx hcell1 hcell2 hln hkn he
          go_wp2_with fail
          refine wp_region_noPanic ?_
          refine wp_region_held_drew (S := (fun w' => (w'.cell? ⟨b1, o1 + k * 2, none⟩ = some (.string ⟨m.p.toArray⟩) ∧ w'.cell? ⟨b1, o1 + k * 2 + 1, none⟩ = some (.int .u64 (m.n : Int))) ∧ w'.cell? ⟨b2, o2 + k * 2, none⟩ = some (.string ⟨x.p.toArray⟩) ∧ w'.cell? ⟨b2, o2 + k * 2 + 1, none⟩ = some (.int .u64 (x.n : Int)))) (by kernel_rfl) (⟨⟨d1, d2⟩, d3, d4⟩) (fun hHeld => ?_)
          refine tk 0 ?_
          try simp only [Act.put, List.setIfInBounds_toArray, List.set_cons_zero, List.set_cons_succ]
          refine tk 1 ?_
          try simp only [Act.put, List.setIfInBounds_toArray, List.set_cons_zero, List.set_cons_succ]
          refine tk 2 ?_
          try simp only [Act.put, List.setIfInBounds_toArray, List.set_cons_zero, List.set_cons_succ]
          refine tk 3 ?_
          try simp only [Act.put, List.setIfInBounds_toArray, List.set_cons_zero, List.set_cons_succ]
          refine tk 4 ?_
          try simp only [Act.put, List.setIfInBounds_toArray, List.set_cons_zero, List.set_cons_succ]
          refine tk 5 ?_
          try simp only [Act.put, List.setIfInBounds_toArray, List.set_cons_zero, List.set_cons_succ]
          refine tk 6 ?_
          try simp only [Act.put, List.setIfInBounds_toArray, List.set_cons_zero, List.set_cons_succ]
          refine tk 7 ?_
          try simp only [Act.put, List.setIfInBounds_toArray, List.set_cons_zero, List.set_cons_succ]
          refine tk 8 ?_
          try simp only [Act.put, List.setIfInBounds_toArray, List.set_cons_zero, List.set_cons_succ]
          refine wpAnyH_done (by kernel_rfl) ?_ _
          refine NoPanic.normal ?_
          go_wp2
          go_roundw
          case rel => exact ⟨k + 1, by omega, by go_num, HS.out, Below.drew hb⟩
          case measure => simp [intOf]; omega
        · rw [decide_eq_false he] at hE
          have HV : Hid (decide (L = K) = false) := Lib.hid (decide_eq_false fun e => he (by rw [hm, hx]; simp only [e]))
          clear hs hs1 hs2 hm hx hcell1 hcell2 hln hkn he
          go_wp2_with fail
          refine wp_region_noPanic ?_
          refine wp_region_held_drew (S := (fun w' => (w'.cell? ⟨b1, o1 + k * 2, none⟩ = some (.string ⟨m.p.toArray⟩) ∧ w'.cell? ⟨b1, o1 + k * 2 + 1, none⟩ = some (.int .u64 (m.n : Int))) ∧ w'.cell? ⟨b2, o2 + k * 2, none⟩ = some (.string ⟨x.p.toArray⟩) ∧ w'.cell? ⟨b2, o2 + k * 2 + 1, none⟩ = some (.int .u64 (x.n : Int)))) (by kernel_rfl) (⟨⟨d1, d2⟩, d3, d4⟩) (fun hHeld => ?_)
          refine tk 0 ?_
          try simp only [Act.put, List.setIfInBounds_toArray, List.set_cons_zero, List.set_cons_succ]
          refine tk 1 ?_
          try simp only [Act.put, List.setIfInBounds_toArray, List.set_cons_zero, List.set_cons_succ]
          refine tk 2 ?_
          try simp only [Act.put, List.setIfInBounds_toArray, List.set_cons_zero, List.set_cons_succ]
          refine tk 3 ?_
          try simp only [Act.put, List.setIfInBounds_toArray, List.set_cons_zero, List.set_cons_succ]
          refine tk 4 ?_
          try simp only [Act.put, List.setIfInBounds_toArray, List.set_cons_zero, List.set_cons_succ]
          refine tk 5 ?_
          try simp only [Act.put, List.setIfInBounds_toArray, List.set_cons_zero, List.set_cons_succ]
          refine tk 6 ?_
          try simp only [Act.put, List.setIfInBounds_toArray, List.set_cons_zero, List.set_cons_succ]
          refine tk 7 ?_
          try simp only [Act.put, List.setIfInBounds_toArray, List.set_cons_zero, List.set_cons_succ]
          refine tk 8 ?_
          try simp only [Act.put, List.setIfInBounds_toArray, List.set_cons_zero, List.set_cons_succ]
          refine wpAnyH_done (by kernel_rfl) ?_ _
          refine NoPanic.normal ?_
          go_wp2
          go_ret
          exact ⟨by rw [HV.out]; rfl, Below.drew hb⟩
      · obtain rfl : k = n1 := by omega
        have hv : L = K := by
          rw [← List.take_of_length_le (l := L) (i := k) (by omega), hs, List.take_of_length_le (by omega)]
        have HV : Hid (decide (L = K) = true) := Lib.hid (decide_eq_true hv)
        have hd : decide ((k : Int) < (k : Int)) = false := decide_eq_false (by omega)
        clear hln hkn hv hs
        go_wp2
        go_ret
        exact ⟨by rw [HV.out]; rfl, hb⟩
  · have HV : Hid (decide (L = K) = false) := Lib.hid (decide_eq_false fun e => hne (by rw [hL.1, hK.1, e]))
    have hneq : ((n1 : Int) != (n2 : Int)) = true := by rw [bne_iff_ne]; omega
    clear hL hK
    go_enter Tryz.func10, Tryz.ntmps10
    go_wp2
    go_ret
    exact ⟨by rw [HV.out]; rfl, h0⟩


end RefDots
end Go.Proofs.YtnpjkmomllkhpaaGreat
