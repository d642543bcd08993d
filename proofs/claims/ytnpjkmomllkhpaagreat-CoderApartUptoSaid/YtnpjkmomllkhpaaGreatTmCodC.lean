/- Merged texts: CoderSame, CoderSameE. -/
import Derived.Test.YtnpjkmomllkhpaaGreatTake
import Derived.Test.YtnpjkmomllkhpaaGreatTmCoderState
import Derived.Test.YtnpjkmomllkhpaaGreatTmRefD
import Derived.Test.YtnpjkmomllkhpaaGreatTmRefB
import Derived.Laws.StructEq
namespace Go.Proofs.YtnpjkmomllkhpaaGreat
namespace Coder
open Go.RowKit Go.Proofs.YtnpjkmomllkhpaaGreat.Mark Go.Proofs.YtnpjkmomllkhpaaGreat.Num Go.Proofs.YtnpjkmomllkhpaaGreat.Wire Go.Proofs.YtnpjkmomllkhpaaGreat.Bag Go.Proofs.YtnpjkmomllkhpaaGreat.Dots
theorem C.ext' {a b : C} (h1 : a.p = b.p) (h2 : a.a = b.a) (h3 : a.b = b.b) : a = b := by cases a; cases b; simp_all
theorem Cl.ext' {a b : Cl} (h1 : a.s = b.s) (h2 : a.t = b.t) (h3 : a.g = b.g) : a = b := by cases a; cases b; simp_all
theorem S.ext' {a b : S} (h1 : a.a = b.a) (h2 : a.e = b.e) (h3 : a.p = b.p) : a = b := by cases a; cases b; simp_all
instance : DecidableEq C := fun a b => if h : a.p = b.p ∧ a.a = b.a ∧ a.b = b.b then .isTrue (C.ext' h.1 h.2.1 h.2.2) else .isFalse fun e => h (by rw [e]; exact ⟨rfl, rfl, rfl⟩)
instance : DecidableEq Cl := fun a b => if h : a.s = b.s ∧ a.t = b.t ∧ a.g = b.g then .isTrue (Cl.ext' h.1 h.2.1 h.2.2) else .isFalse fun e => h (by rw [e]; exact ⟨rfl, rfl, rfl⟩)
instance : DecidableEq E := fun a b => if h : a.k = b.k ∧ a.s = b.s ∧ a.c = b.c ∧ a.i = b.i ∧ a.l = b.l then .isTrue (E.ext' h.1 h.2.1 h.2.2.1 h.2.2.2.1 h.2.2.2.2) else .isFalse fun e => h (by rw [e]; exact ⟨rfl, rfl, rfl, rfl, rfl⟩)
instance : DecidableEq S := fun a b => if h : a.a = b.a ∧ a.e = b.e ∧ a.p = b.p then .isTrue (S.ext' h.1 h.2.1 h.2.2) else .isFalse fun e => h (by rw [e]; exact ⟨rfl, rfl, rfl⟩)
theorem eql_of_count (m k : C) (w : World) : (Op.equalIn 10000 56 (.agg #[.string ⟨m.p.toArray⟩, .int .u64 (m.a : Int), .int .u64 (m.b : Int)]) (.agg #[.string ⟨k.p.toArray⟩, .int .u64 (k.a : Int), .int .u64 (k.b : Int)])).run Tryz.prog w = .ok (m.p == k.p && ((m.a : Int) == (k.a : Int) && (m.b : Int) == (k.b : Int))) w := by
  have hS : Tryz.prog.underlying 56 = some (.struct (Tryz.prog.fieldsOf 56)) := by kernel_rfl
  rw [show (10000 : Nat) = 9999 + 1 from rfl, run_equalIn_agg w 9999 56 _ _ hS (by kernel_rfl)]
  simp only [Program.fieldsOf, Tryz.underlying56]
  have u1 := Tryz.underlying9
  have u2 := Tryz.underlying25
  go_simp
  by_cases h1 : m.p = k.p <;> by_cases h2 : (m.a : Int) = (k.a : Int) <;> by_cases h3 : (m.b : Int) = (k.b : Int) <;> simp [h1, h2, h3]
theorem eqC_iff (m k : C) : (m.p == k.p && ((m.a : Int) == (k.a : Int) && (m.b : Int) == (k.b : Int))) = decide (m = k) := by
  obtain ⟨p, n, b⟩ := m
  obtain ⟨p', n', b'⟩ := k
  rw [Bool.eq_iff_iff]
  simp only [Bool.and_eq_true, beq_iff_eq, decide_eq_true_eq, C.mk.injEq]
  constructor
  · rintro ⟨h1, h2, h3⟩; exact ⟨h1, by omega, by omega⟩
  · rintro ⟨h1, h2, h3⟩; exact ⟨h1, by omega, by omega⟩
theorem neq_count (m k : C) (w : World) : (binOp .neq 56 (.agg #[.string ⟨m.p.toArray⟩, .int .u64 (m.a : Int), .int .u64 (m.b : Int)]) (.agg #[.string ⟨k.p.toArray⟩, .int .u64 (k.a : Int), .int .u64 (k.b : Int)])).run Tryz.prog w = .ok (.bool (!decide (m = k))) w := by
  rw [run_neq_struct, eql_of_count, eqC_iff]; rfl
theorem eql_of_cell (m k : Cl) (w : World) : (Op.equalIn 10000 27 (.agg #[.int .u64 (m.s : Int), .string ⟨m.t.toArray⟩, .bool m.g]) (.agg #[.int .u64 (k.s : Int), .string ⟨k.t.toArray⟩, .bool k.g])).run Tryz.prog w = .ok ((m.s : Int) == (k.s : Int) && (m.t == k.t && m.g == k.g)) w := by
  have hS : Tryz.prog.underlying 27 = some (.struct (Tryz.prog.fieldsOf 27)) := by kernel_rfl
  rw [show (10000 : Nat) = 9999 + 1 from rfl, run_equalIn_agg w 9999 27 _ _ hS (by kernel_rfl)]
  simp only [Program.fieldsOf, Tryz.underlying27]
  have u1 := Tryz.underlying9
  have u2 := Tryz.underlying25
  have u3 := Tryz.underlying4
  go_simp
  by_cases h1 : (m.s : Int) = (k.s : Int) <;> by_cases h2 : m.t = k.t <;> cases m.g <;> cases k.g <;> simp [h1, h2]
theorem eqL_iff (m k : Cl) : ((m.s : Int) == (k.s : Int) && (m.t == k.t && m.g == k.g)) = decide (m = k) := by
  obtain ⟨p, n, b⟩ := m
  obtain ⟨p', n', b'⟩ := k
  rw [Bool.eq_iff_iff]
  simp only [Bool.and_eq_true, beq_iff_eq, decide_eq_true_eq, Cl.mk.injEq]
  constructor
  · rintro ⟨h1, h2, h3⟩; exact ⟨by omega, h2, h3⟩
  · rintro ⟨h1, h2, h3⟩; exact ⟨by omega, h2, h3⟩
theorem eql_cell (m k : Cl) (w : World) : (binOp .eql 27 (.agg #[.int .u64 (m.s : Int), .string ⟨m.t.toArray⟩, .bool m.g]) (.agg #[.int .u64 (k.s : Int), .string ⟨k.t.toArray⟩, .bool k.g])).run Tryz.prog w = .ok (.bool (decide (m = k))) w := by
  rw [run_eql_struct, eql_of_cell, eqL_iff]; rfl
set_option maxRecDepth 100000 in
set_option maxHeartbeats 4000000 in
theorem sameC_any (L K : List (C)) (a1 a2 : Option Addr) (n1 n2 c1 c2 : Nat) (w : World) (hL : Row.Lies cE w a1 n1 L) (hK : Row.Lies cE w a2 n2 K) (hn1 : n1 ≤ 1099511627776) :
    Calls Tryz.prog 21 #[.slice a1 n1 c1, .slice a2 n2 c2] w fun e w' => e = .returned (.bool (decide (L = K))) ∧ Below w.heap.size w w' := by
  have h0 := Below.refl w.heap.size w
  by_cases hne : n1 = n2
  rotate_left
  · have HV : Hid (decide (L = K) = false) := Lib.hid (decide_eq_false fun e => hne (by rw [hL.1, hK.1, e]))
    have hneq : ((n1 : Int) != (n2 : Int)) = true := by rw [bne_iff_ne]; omega
    clear hL hK
    go_enter Tryz.func21, Tryz.ntmps21
    go_wp2
    go_ret
    exact ⟨by rw [HV.out]; rfl, h0⟩
  subst hne
  have HL := Lib.hid hL
  have HK := Lib.hid hK
  have hneq : ((n1 : Int) != (n1 : Int)) = false := by simp
  clear hL hK
  go_enter Tryz.func21, Tryz.ntmps21
  go_wp2_with fail
  go_loopw [5] (fun iv wr => ∃ k : Nat, k ≤ n1 ∧ iv = .int .i64 k ∧ L.take k = K.take k ∧ Below w.heap.size w wr) (fun iv _ => n1 - (intOf iv).toNat)
  case atStart => exact ⟨0, by omega, rfl, rfl, h0⟩
  case round =>
    clear h0
    obtain ⟨k, hk, rfl, hs, hb⟩ := hrel
    have hln := HL.out.1
    have hkn := HK.out.1
    by_cases hlt : k < n1
    rotate_left
    · obtain rfl : k = n1 := by omega
      have hv : L = K := by
        rw [← List.take_of_length_le (l := L) (i := k) (by omega), hs, List.take_of_length_le (by omega)]
      have HV : Hid (decide (L = K) = true) := Lib.hid (decide_eq_true hv)
      have hd : decide ((k : Int) < (k : Int)) = false := decide_eq_false (by omega)
      clear hln hkn hv hs
      go_wp2
      go_ret
      exact ⟨by rw [HV.out]; rfl, hb⟩
    obtain ⟨b1, o1, rfl, hcell1⟩ := (HL.out.below hb).2 (by omega)
    obtain ⟨b2, o2, rfl, hcell2⟩ := (HK.out.below hb).2 (by omega)
    have d0 : wr.cell? ⟨b1, o1 + k * 3, none⟩ = some (.string ⟨(L[k]'(by omega)).p.toArray⟩) := hcell1 k (by omega) 0 _ rfl
    have f0 : wr.cell? ⟨b2, o2 + k * 3, none⟩ = some (.string ⟨(K[k]'(by omega)).p.toArray⟩) := hcell2 k (by omega) 0 _ rfl
    have d1 : wr.cell? ⟨b1, o1 + k * 3 + 1, none⟩ = some (.int .u64 ((L[k]'(by omega)).a : Int)) := hcell1 k (by omega) 1 _ rfl
    have f1 : wr.cell? ⟨b2, o2 + k * 3 + 1, none⟩ = some (.int .u64 ((K[k]'(by omega)).a : Int)) := hcell2 k (by omega) 1 _ rfl
    have d2 : wr.cell? ⟨b1, o1 + k * 3 + 2, none⟩ = some (.int .u64 ((L[k]'(by omega)).b : Int)) := hcell1 k (by omega) 2 _ rfl
    have f2 : wr.cell? ⟨b2, o2 + k * 3 + 2, none⟩ = some (.int .u64 ((K[k]'(by omega)).b : Int)) := hcell2 k (by omega) 2 _ rfl
    have hs1 : L.take (k + 1) = L.take k ++ [L[k]'(by omega)] := List.take_succ_eq_append_getElem (by omega)
    have hs2 : K.take (k + 1) = K.take k ++ [K[k]'(by omega)] := List.take_succ_eq_append_getElem (by omega)
    obtain ⟨m, hm⟩ : ∃ m, m = L[k]'(by omega) := ⟨_, rfl⟩
    obtain ⟨x, hx⟩ : ∃ x, x = K[k]'(by omega) := ⟨_, rfl⟩
    rw [← hm] at hs1 d0 d1 d2
    rw [← hx] at hs2 f0 f1 f2
    have d9 : decide ((k : Int) < (n1 : Int)) = true := decide_eq_true (by omega)
    have j1 : (0 : Int) ≤ (k : Int) := by omega
    have j2 : (k : Int) < (n1 : Int) := by omega
    have HQ := Lib.hid hlt
    by_cases he : m = x
    · skip
      have hE := neq_count m x
      rw [decide_eq_true he] at hE
      have HS : Hid (L.take (k + 1) = K.take (k + 1)) := Lib.hid (by rw [hs1, hs2, hs, he])
      clear hs hs1 hs2 hm hx hcell1 hcell2 hln hkn he hlt
      go_wp2_with fail
      refine wp_region_noPanic ?_
      refine wp_region_held_drew (S := (fun w' => Below w.heap.size w w' ∧ w'.cell? ⟨b1, o1 + k * 3, none⟩ = some (.string ⟨m.p.toArray⟩) ∧ w'.cell? ⟨b1, o1 + k * 3 + 1, none⟩ = some (.int .u64 (m.a : Int)) ∧ w'.cell? ⟨b1, o1 + k * 3 + 2, none⟩ = some (.int .u64 (m.b : Int)) ∧ w'.cell? ⟨b2, o2 + k * 3, none⟩ = some (.string ⟨x.p.toArray⟩) ∧ w'.cell? ⟨b2, o2 + k * 3 + 1, none⟩ = some (.int .u64 (x.a : Int)) ∧ w'.cell? ⟨b2, o2 + k * 3 + 2, none⟩ = some (.int .u64 (x.b : Int)))) (by kernel_rfl) (⟨Below.drew hb, Coder.keepC d0 (Below.drew (Below.refl _ _)), Coder.keepC d1 (Below.drew (Below.refl _ _)), Coder.keepC d2 (Below.drew (Below.refl _ _)), Coder.keepC f0 (Below.drew (Below.refl _ _)), Coder.keepC f1 (Below.drew (Below.refl _ _)), Coder.keepC f2 (Below.drew (Below.refl _ _))⟩) (fun hHeld => ?_)
      refine tk 0 ?_
      try simp only [Act.put, List.setIfInBounds_toArray, List.set_cons_zero, List.set_cons_succ]
      refine tk 1 ?_
      try simp only [Act.put, List.setIfInBounds_toArray, List.set_cons_zero, List.set_cons_succ]
      refine tk 2 ?_
      try simp only [Act.put, List.setIfInBounds_toArray, List.set_cons_zero, List.set_cons_succ]
      refine tk 3 ?_
      try simp only [Act.put, List.setIfInBounds_toArray, List.set_cons_zero, List.set_cons_succ]
      refine tk 4 ?_
      try simp only [Act.put, List.setIfInBounds_toArray, List.set_cons_zero, List.set_cons_succ]
      refine tk 5 ?_
      try simp only [Act.put, List.setIfInBounds_toArray, List.set_cons_zero, List.set_cons_succ]
      refine tk 6 ?_
      try simp only [Act.put, List.setIfInBounds_toArray, List.set_cons_zero, List.set_cons_succ]
      refine tk 7 ?_
      try simp only [Act.put, List.setIfInBounds_toArray, List.set_cons_zero, List.set_cons_succ]
      refine tk 8 ?_
      try simp only [Act.put, List.setIfInBounds_toArray, List.set_cons_zero, List.set_cons_succ]
      refine wpAnyH_done (by kernel_rfl) ?_ _
      refine NoPanic.normal ?_
      clear hb d0 d1 d2 f0 f1 f2
      obtain ⟨hb, d0, d1, d2, f0, f1, f2⟩ := hHeld
      go_wp2
      go_roundw
      case rel => exact ⟨k + 1, by have := HQ.out; omega, by go_num, HS.out, hb⟩
      case measure => have := HQ.out; simp [intOf]; omega
    · skip
      have hE := neq_count m x
      rw [decide_eq_false he] at hE
      have HV : Hid (decide (L = K) = false) := Lib.hid (decide_eq_false fun e => he (by rw [hm, hx]; simp only [e]))
      clear hs hs1 hs2 hm hx hcell1 hcell2 hln hkn he hlt
      go_wp2_with fail
      refine wp_region_noPanic ?_
      refine wp_region_held_drew (S := (fun w' => Below w.heap.size w w' ∧ w'.cell? ⟨b1, o1 + k * 3, none⟩ = some (.string ⟨m.p.toArray⟩) ∧ w'.cell? ⟨b1, o1 + k * 3 + 1, none⟩ = some (.int .u64 (m.a : Int)) ∧ w'.cell? ⟨b1, o1 + k * 3 + 2, none⟩ = some (.int .u64 (m.b : Int)) ∧ w'.cell? ⟨b2, o2 + k * 3, none⟩ = some (.string ⟨x.p.toArray⟩) ∧ w'.cell? ⟨b2, o2 + k * 3 + 1, none⟩ = some (.int .u64 (x.a : Int)) ∧ w'.cell? ⟨b2, o2 + k * 3 + 2, none⟩ = some (.int .u64 (x.b : Int)))) (by kernel_rfl) (⟨Below.drew hb, Coder.keepC d0 (Below.drew (Below.refl _ _)), Coder.keepC d1 (Below.drew (Below.refl _ _)), Coder.keepC d2 (Below.drew (Below.refl _ _)), Coder.keepC f0 (Below.drew (Below.refl _ _)), Coder.keepC f1 (Below.drew (Below.refl _ _)), Coder.keepC f2 (Below.drew (Below.refl _ _))⟩) (fun hHeld => ?_)
      refine tk 0 ?_
      try simp only [Act.put, List.setIfInBounds_toArray, List.set_cons_zero, List.set_cons_succ]
      refine tk 1 ?_
      try simp only [Act.put, List.setIfInBounds_toArray, List.set_cons_zero, List.set_cons_succ]
      refine tk 2 ?_
      try simp only [Act.put, List.setIfInBounds_toArray, List.set_cons_zero, List.set_cons_succ]
      refine tk 3 ?_
      try simp only [Act.put, List.setIfInBounds_toArray, List.set_cons_zero, List.set_cons_succ]
      refine tk 4 ?_
      try simp only [Act.put, List.setIfInBounds_toArray, List.set_cons_zero, List.set_cons_succ]
      refine tk 5 ?_
      try simp only [Act.put, List.setIfInBounds_toArray, List.set_cons_zero, List.set_cons_succ]
      refine tk 6 ?_
      try simp only [Act.put, List.setIfInBounds_toArray, List.set_cons_zero, List.set_cons_succ]
      refine tk 7 ?_
      try simp only [Act.put, List.setIfInBounds_toArray, List.set_cons_zero, List.set_cons_succ]
      refine tk 8 ?_
      try simp only [Act.put, List.setIfInBounds_toArray, List.set_cons_zero, List.set_cons_succ]
      refine wpAnyH_done (by kernel_rfl) ?_ _
      refine NoPanic.normal ?_
      clear hb d0 d1 d2 f0 f1 f2
      obtain ⟨hb, d0, d1, d2, f0, f1, f2⟩ := hHeld
      go_wp2
      go_ret
      exact ⟨by rw [HV.out]; rfl, hb⟩
set_option maxRecDepth 100000 in
set_option maxHeartbeats 4000000 in
theorem texts_any (L K : List (List UInt8)) (a1 a2 : Option Addr) (n1 n2 c1 c2 : Nat) (w : World) (hL : Row.Lies wE w a1 n1 L) (hK : Row.Lies wE w a2 n2 K) (hn1 : n1 ≤ 1099511627776) :
    Calls Tryz.prog 26 #[.slice a1 n1 c1, .slice a2 n2 c2] w fun e w' => e = .returned (.bool (decide (L = K))) ∧ Below w.heap.size w w' := by
  have h0 := Below.refl w.heap.size w
  by_cases hne : n1 = n2
  rotate_left
  · have HV : Hid (decide (L = K) = false) := Lib.hid (decide_eq_false fun e => hne (by rw [hL.1, hK.1, e]))
    have hneq : ((n1 : Int) != (n2 : Int)) = true := by rw [bne_iff_ne]; omega
    clear hL hK
    go_enter Tryz.func26, Tryz.ntmps26
    go_wp2
    go_ret
    exact ⟨by rw [HV.out]; rfl, h0⟩
  subst hne
  have HL := Lib.hid hL
  have HK := Lib.hid hK
  have hneq : ((n1 : Int) != (n1 : Int)) = false := by simp
  clear hL hK
  go_enter Tryz.func26, Tryz.ntmps26
  go_wp2_with fail
  go_loopw [5] (fun iv wr => ∃ k : Nat, k ≤ n1 ∧ iv = .int .i64 k ∧ L.take k = K.take k ∧ Below w.heap.size w wr) (fun iv _ => n1 - (intOf iv).toNat)
  case atStart => exact ⟨0, by omega, rfl, rfl, h0⟩
  case round =>
    clear h0
    obtain ⟨k, hk, rfl, hs, hb⟩ := hrel
    have hln := HL.out.1
    have hkn := HK.out.1
    by_cases hlt : k < n1
    rotate_left
    · obtain rfl : k = n1 := by omega
      have hv : L = K := by
        rw [← List.take_of_length_le (l := L) (i := k) (by omega), hs, List.take_of_length_le (by omega)]
      have HV : Hid (decide (L = K) = true) := Lib.hid (decide_eq_true hv)
      have hd : decide ((k : Int) < (k : Int)) = false := decide_eq_false (by omega)
      clear hln hkn hv hs
      go_wp2
      go_ret
      exact ⟨by rw [HV.out]; rfl, hb⟩
    obtain ⟨b1, o1, rfl, hcell1⟩ := (HL.out.below hb).2 (by omega)
    obtain ⟨b2, o2, rfl, hcell2⟩ := (HK.out.below hb).2 (by omega)
    have zk : k * 1 = k := Nat.mul_one k
    have d0 : wr.cell? ⟨b1, o1 + k, none⟩ = some (.string ⟨(L[k]'(by omega)).toArray⟩) := by have q := hcell1 k (by omega) 0 _ rfl; rw [show o1 + k * wE.k + 0 = o1 + k by show o1 + k * 1 + 0 = o1 + k; omega] at q; exact q
    have f0 : wr.cell? ⟨b2, o2 + k, none⟩ = some (.string ⟨(K[k]'(by omega)).toArray⟩) := by have q := hcell2 k (by omega) 0 _ rfl; rw [show o2 + k * wE.k + 0 = o2 + k by show o2 + k * 1 + 0 = o2 + k; omega] at q; exact q
    have hs1 : L.take (k + 1) = L.take k ++ [L[k]'(by omega)] := List.take_succ_eq_append_getElem (by omega)
    have hs2 : K.take (k + 1) = K.take k ++ [K[k]'(by omega)] := List.take_succ_eq_append_getElem (by omega)
    obtain ⟨m, hm⟩ : ∃ m, m = L[k]'(by omega) := ⟨_, rfl⟩
    obtain ⟨x, hx⟩ : ∃ x, x = K[k]'(by omega) := ⟨_, rfl⟩
    rw [← hm] at hs1 d0
    rw [← hx] at hs2 f0
    have d9 : decide ((k : Int) < (n1 : Int)) = true := decide_eq_true (by omega)
    have j1 : (0 : Int) ≤ (k : Int) := by omega
    have j2 : (k : Int) < (n1 : Int) := by omega
    have HQ := Lib.hid hlt
    by_cases he : m = x
    · skip
      have e1 : (m == x) = true := by simp [he]
      have e2 : (m != x) = false := by simp [he]
      have HS : Hid (L.take (k + 1) = K.take (k + 1)) := Lib.hid (by rw [hs1, hs2, hs, he])
      clear hs hs1 hs2 hm hx hcell1 hcell2 hln hkn he hlt
      go_wp2_with fail
      refine wp_region_noPanic ?_
      refine wp_region_held_drew (S := (fun w' => Below w.heap.size w w' ∧ w'.cell? ⟨b1, o1 + k, none⟩ = some (.string ⟨m.toArray⟩) ∧ w'.cell? ⟨b2, o2 + k, none⟩ = some (.string ⟨x.toArray⟩))) (by kernel_rfl) (⟨Below.drew hb, Coder.keepC d0 (Below.drew (Below.refl _ _)), Coder.keepC f0 (Below.drew (Below.refl _ _))⟩) (fun hHeld => ?_)
      refine tk 0 ?_
      try simp only [Act.put, List.setIfInBounds_toArray, List.set_cons_zero, List.set_cons_succ]
      refine tk 1 ?_
      try simp only [Act.put, List.setIfInBounds_toArray, List.set_cons_zero, List.set_cons_succ]
      refine tk 2 ?_
      try simp only [Act.put, List.setIfInBounds_toArray, List.set_cons_zero, List.set_cons_succ]
      refine tk 3 ?_
      try simp only [Act.put, List.setIfInBounds_toArray, List.set_cons_zero, List.set_cons_succ]
      refine tk 4 ?_
      try simp only [Act.put, List.setIfInBounds_toArray, List.set_cons_zero, List.set_cons_succ]
      refine tk 5 ?_
      try simp only [Act.put, List.setIfInBounds_toArray, List.set_cons_zero, List.set_cons_succ]
      refine tk 6 ?_
      try simp only [Act.put, List.setIfInBounds_toArray, List.set_cons_zero, List.set_cons_succ]
      refine tk 7 ?_
      try simp only [Act.put, List.setIfInBounds_toArray, List.set_cons_zero, List.set_cons_succ]
      refine tk 8 ?_
      try simp only [Act.put, List.setIfInBounds_toArray, List.set_cons_zero, List.set_cons_succ]
      refine wpAnyH_done (by kernel_rfl) ?_ _
      refine NoPanic.normal ?_
      clear hb d0 f0
      obtain ⟨hb, d0, f0⟩ := hHeld
      go_wp2
      go_roundw
      case rel => exact ⟨k + 1, by have := HQ.out; omega, by go_num, HS.out, hb⟩
      case measure => have := HQ.out; simp [intOf]; omega
    · skip
      have e1 : (m == x) = false := by simp [he]
      have e2 : (m != x) = true := by simp [he]
      have HV : Hid (decide (L = K) = false) := Lib.hid (decide_eq_false fun e => he (by rw [hm, hx]; simp only [e]))
      clear hs hs1 hs2 hm hx hcell1 hcell2 hln hkn he hlt
      go_wp2_with fail
      refine wp_region_noPanic ?_
      refine wp_region_held_drew (S := (fun w' => Below w.heap.size w w' ∧ w'.cell? ⟨b1, o1 + k, none⟩ = some (.string ⟨m.toArray⟩) ∧ w'.cell? ⟨b2, o2 + k, none⟩ = some (.string ⟨x.toArray⟩))) (by kernel_rfl) (⟨Below.drew hb, Coder.keepC d0 (Below.drew (Below.refl _ _)), Coder.keepC f0 (Below.drew (Below.refl _ _))⟩) (fun hHeld => ?_)
      refine tk 0 ?_
      try simp only [Act.put, List.setIfInBounds_toArray, List.set_cons_zero, List.set_cons_succ]
      refine tk 1 ?_
      try simp only [Act.put, List.setIfInBounds_toArray, List.set_cons_zero, List.set_cons_succ]
      refine tk 2 ?_
      try simp only [Act.put, List.setIfInBounds_toArray, List.set_cons_zero, List.set_cons_succ]
      refine tk 3 ?_
      try simp only [Act.put, List.setIfInBounds_toArray, List.set_cons_zero, List.set_cons_succ]
      refine tk 4 ?_
      try simp only [Act.put, List.setIfInBounds_toArray, List.set_cons_zero, List.set_cons_succ]
      refine tk 5 ?_
      try simp only [Act.put, List.setIfInBounds_toArray, List.set_cons_zero, List.set_cons_succ]
      refine tk 6 ?_
      try simp only [Act.put, List.setIfInBounds_toArray, List.set_cons_zero, List.set_cons_succ]
      refine tk 7 ?_
      try simp only [Act.put, List.setIfInBounds_toArray, List.set_cons_zero, List.set_cons_succ]
      refine tk 8 ?_
      try simp only [Act.put, List.setIfInBounds_toArray, List.set_cons_zero, List.set_cons_succ]
      refine wpAnyH_done (by kernel_rfl) ?_ _
      refine NoPanic.normal ?_
      clear hb d0 f0
      obtain ⟨hb, d0, f0⟩ := hHeld
      go_wp2
      go_ret
      exact ⟨by rw [HV.out]; rfl, hb⟩
end Coder
end Go.Proofs.YtnpjkmomllkhpaaGreat

namespace Go.Proofs.YtnpjkmomllkhpaaGreat
namespace Coder
open Go.RowKit Go.Proofs.YtnpjkmomllkhpaaGreat.Mark Go.Proofs.YtnpjkmomllkhpaaGreat.Num Go.Proofs.YtnpjkmomllkhpaaGreat.Wire Go.Proofs.YtnpjkmomllkhpaaGreat.Bag Go.Proofs.YtnpjkmomllkhpaaGreat.Dots
theorem same_e (x y : RE) : decide (x.e = y.e) = (decide (x.k = y.k) && (decide (x.s = y.s) && (decide (x.c = y.c) && (decide (x.j.map RI.it = y.j.map RI.it) && decide (x.l = y.l))))) := by
  rw [Bool.eq_iff_iff]
  simp only [Bool.and_eq_true, decide_eq_true_eq, RE.e, E.mk.injEq]
theorem InnerI.lies {w : World} {x : RE} (h : InnerI w x) : Bag.Lies w x.ia x.j.length (x.j.map RI.it) := ⟨x.j, rfl, h.1, h.2⟩
set_option maxRecDepth 100000 in
set_option maxHeartbeats 8000000 in
theorem sameE_any (x y : RE) (w : World) (hx : InnerE w x) (hy : InnerE w y) (ox : x.Ok) (oy : y.Ok) :
    Calls Tryz.prog 8 #[.agg #[.string ⟨x.k.toArray⟩, .slice x.sa x.s.length x.sc, .slice x.ca x.c.length x.cc, .slice x.ia x.j.length x.ic, .int .u64 (x.l.s : Int), .string ⟨x.l.t.toArray⟩, .bool x.l.g], .agg #[.string ⟨y.k.toArray⟩, .slice y.sa y.s.length y.sc, .slice y.ca y.c.length y.cc, .slice y.ia y.j.length y.ic, .int .u64 (y.l.s : Int), .string ⟨y.l.t.toArray⟩, .bool y.l.g]] w fun e w' => e = .returned (.bool (decide (x.e = y.e))) ∧ Below w.heap.size w w' := by
  have kx := Lib.hid hx
  have ky := Lib.hid hy
  have HV : Hid (decide (x.e = y.e) = (decide (x.k = y.k) && (decide (x.s = y.s) && (decide (x.c = y.c) && (decide (x.j.map RI.it = y.j.map RI.it) && decide (x.l = y.l)))))) := Lib.hid (same_e x y)
  have OX := Lib.hid ox
  have OY := Lib.hid oy
  clear hx hy ox oy
  obtain ⟨q0, hq0⟩ : ∃ q, q = decide (x.k = y.k) := ⟨_, rfl⟩
  have e0 : (x.k == y.k) = q0 := by rw [hq0]; by_cases h : x.k = y.k <;> simp [h]
  obtain ⟨q1, hq1⟩ : ∃ q, q = decide (x.s = y.s) := ⟨_, rfl⟩
  obtain ⟨q2, hq2⟩ : ∃ q, q = decide (x.c = y.c) := ⟨_, rfl⟩
  obtain ⟨q3, hq3⟩ : ∃ q, q = decide (x.j.map RI.it = y.j.map RI.it) := ⟨_, rfl⟩
  obtain ⟨q4, hq4⟩ : ∃ q, q = decide (x.l = y.l) := ⟨_, rfl⟩
  rw [← hq0, ← hq1, ← hq2, ← hq3, ← hq4] at HV
  have CL := eql_cell x.l y.l
  rw [← hq4] at CL
  have C1 := Lib.hid (fun W (hx : InnerE W x) (hy : InnerE W y) => (by rw [hq1]; exact RefDots.same_any x.s y.s x.sa y.sa x.s.length y.s.length x.sc y.sc W hx.s hy.s (by have := OX.out.s; omega) (by have := OY.out.s; omega) : Calls Tryz.prog 10 #[.slice x.sa x.s.length x.sc, .slice y.sa y.s.length y.sc] W fun e W' => e = .returned (.bool q1) ∧ Below W.heap.size W W'))
  have C2 := Lib.hid (fun W (hx : InnerE W x) (hy : InnerE W y) => (by rw [hq2]; exact sameC_any x.c y.c x.ca y.ca x.c.length y.c.length x.cc y.cc W hx.c hy.c (by have := OX.out.c; omega) : Calls Tryz.prog 21 #[.slice x.ca x.c.length x.cc, .slice y.ca y.c.length y.cc] W fun e W' => e = .returned (.bool q2) ∧ Below W.heap.size W W'))
  have C3 := Lib.hid (fun W (hx : InnerE W x) (hy : InnerE W y) => (by rw [hq3]; exact RefBag.same_any (x.j.map RI.it) (y.j.map RI.it) x.ia y.ia x.j.length y.j.length x.ic y.ic W hx.i.lies hy.i.lies (by have := OX.out.j; omega) (fun z hz => by
    obtain ⟨u, hu, rfl⟩ := List.mem_map.1 hz
    have := (OX.out.jm u hu).2.1
    show u.d.length ≤ _
    omega) : Calls Tryz.prog 22 #[.slice x.ia x.j.length x.ic, .slice y.ia y.j.length y.ic] W fun e W' => e = .returned (.bool q3) ∧ Below W.heap.size W W'))
  clear hq0 hq1 hq2 hq3 hq4
  go_enter Tryz.func8, Tryz.ntmps8
  go_upto_region 1 with (fail)
  have hb0 := balloc (balloc (Below.refl w.heap.size w) (.cells #[.string ⟨x.k.toArray⟩, .slice x.sa x.s.length x.sc, .slice x.ca x.c.length x.cc, .slice x.ia x.j.length x.ic, .int .u64 (x.l.s : Int), .string ⟨x.l.t.toArray⟩, .bool x.l.g] 29)) (.cells #[.string ⟨y.k.toArray⟩, .slice y.sa y.s.length y.sc, .slice y.ca y.c.length y.cc, .slice y.ia y.j.length y.ic, .int .u64 (y.l.s : Int), .string ⟨y.l.t.toArray⟩, .bool y.l.g] 29)
  have p0 := Coder.keepC (box_cells w #[.string ⟨x.k.toArray⟩, .slice x.sa x.s.length x.sc, .slice x.ca x.c.length x.cc, .slice x.ia x.j.length x.ic, .int .u64 (x.l.s : Int), .string ⟨x.l.t.toArray⟩, .bool x.l.g] 29 0 (.string ⟨x.k.toArray⟩) rfl) (balloc (Below.refl _ _) (.cells #[.string ⟨y.k.toArray⟩, .slice y.sa y.s.length y.sc, .slice y.ca y.c.length y.cc, .slice y.ia y.j.length y.ic, .int .u64 (y.l.s : Int), .string ⟨y.l.t.toArray⟩, .bool y.l.g] 29))
  have p1 := Coder.keepC (box_cells w #[.string ⟨x.k.toArray⟩, .slice x.sa x.s.length x.sc, .slice x.ca x.c.length x.cc, .slice x.ia x.j.length x.ic, .int .u64 (x.l.s : Int), .string ⟨x.l.t.toArray⟩, .bool x.l.g] 29 1 (.slice x.sa x.s.length x.sc) rfl) (balloc (Below.refl _ _) (.cells #[.string ⟨y.k.toArray⟩, .slice y.sa y.s.length y.sc, .slice y.ca y.c.length y.cc, .slice y.ia y.j.length y.ic, .int .u64 (y.l.s : Int), .string ⟨y.l.t.toArray⟩, .bool y.l.g] 29))
  have p2 := Coder.keepC (box_cells w #[.string ⟨x.k.toArray⟩, .slice x.sa x.s.length x.sc, .slice x.ca x.c.length x.cc, .slice x.ia x.j.length x.ic, .int .u64 (x.l.s : Int), .string ⟨x.l.t.toArray⟩, .bool x.l.g] 29 2 (.slice x.ca x.c.length x.cc) rfl) (balloc (Below.refl _ _) (.cells #[.string ⟨y.k.toArray⟩, .slice y.sa y.s.length y.sc, .slice y.ca y.c.length y.cc, .slice y.ia y.j.length y.ic, .int .u64 (y.l.s : Int), .string ⟨y.l.t.toArray⟩, .bool y.l.g] 29))
  have p3 := Coder.keepC (box_cells w #[.string ⟨x.k.toArray⟩, .slice x.sa x.s.length x.sc, .slice x.ca x.c.length x.cc, .slice x.ia x.j.length x.ic, .int .u64 (x.l.s : Int), .string ⟨x.l.t.toArray⟩, .bool x.l.g] 29 3 (.slice x.ia x.j.length x.ic) rfl) (balloc (Below.refl _ _) (.cells #[.string ⟨y.k.toArray⟩, .slice y.sa y.s.length y.sc, .slice y.ca y.c.length y.cc, .slice y.ia y.j.length y.ic, .int .u64 (y.l.s : Int), .string ⟨y.l.t.toArray⟩, .bool y.l.g] 29))
  have p4 := Coder.keepC (box_cells w #[.string ⟨x.k.toArray⟩, .slice x.sa x.s.length x.sc, .slice x.ca x.c.length x.cc, .slice x.ia x.j.length x.ic, .int .u64 (x.l.s : Int), .string ⟨x.l.t.toArray⟩, .bool x.l.g] 29 4 (.int .u64 (x.l.s : Int)) rfl) (balloc (Below.refl _ _) (.cells #[.string ⟨y.k.toArray⟩, .slice y.sa y.s.length y.sc, .slice y.ca y.c.length y.cc, .slice y.ia y.j.length y.ic, .int .u64 (y.l.s : Int), .string ⟨y.l.t.toArray⟩, .bool y.l.g] 29))
  have p5 := Coder.keepC (box_cells w #[.string ⟨x.k.toArray⟩, .slice x.sa x.s.length x.sc, .slice x.ca x.c.length x.cc, .slice x.ia x.j.length x.ic, .int .u64 (x.l.s : Int), .string ⟨x.l.t.toArray⟩, .bool x.l.g] 29 5 (.string ⟨x.l.t.toArray⟩) rfl) (balloc (Below.refl _ _) (.cells #[.string ⟨y.k.toArray⟩, .slice y.sa y.s.length y.sc, .slice y.ca y.c.length y.cc, .slice y.ia y.j.length y.ic, .int .u64 (y.l.s : Int), .string ⟨y.l.t.toArray⟩, .bool y.l.g] 29))
  have p6 := Coder.keepC (box_cells w #[.string ⟨x.k.toArray⟩, .slice x.sa x.s.length x.sc, .slice x.ca x.c.length x.cc, .slice x.ia x.j.length x.ic, .int .u64 (x.l.s : Int), .string ⟨x.l.t.toArray⟩, .bool x.l.g] 29 6 (.bool x.l.g) rfl) (balloc (Below.refl _ _) (.cells #[.string ⟨y.k.toArray⟩, .slice y.sa y.s.length y.sc, .slice y.ca y.c.length y.cc, .slice y.ia y.j.length y.ic, .int .u64 (y.l.s : Int), .string ⟨y.l.t.toArray⟩, .bool y.l.g] 29))
  have r0 := box_cells (w.alloc (.cells #[.string ⟨x.k.toArray⟩, .slice x.sa x.s.length x.sc, .slice x.ca x.c.length x.cc, .slice x.ia x.j.length x.ic, .int .u64 (x.l.s : Int), .string ⟨x.l.t.toArray⟩, .bool x.l.g] 29)) #[.string ⟨y.k.toArray⟩, .slice y.sa y.s.length y.sc, .slice y.ca y.c.length y.cc, .slice y.ia y.j.length y.ic, .int .u64 (y.l.s : Int), .string ⟨y.l.t.toArray⟩, .bool y.l.g] 29 0 (.string ⟨y.k.toArray⟩) rfl
  simp only [World.size_alloc] at r0
  have r1 := box_cells (w.alloc (.cells #[.string ⟨x.k.toArray⟩, .slice x.sa x.s.length x.sc, .slice x.ca x.c.length x.cc, .slice x.ia x.j.length x.ic, .int .u64 (x.l.s : Int), .string ⟨x.l.t.toArray⟩, .bool x.l.g] 29)) #[.string ⟨y.k.toArray⟩, .slice y.sa y.s.length y.sc, .slice y.ca y.c.length y.cc, .slice y.ia y.j.length y.ic, .int .u64 (y.l.s : Int), .string ⟨y.l.t.toArray⟩, .bool y.l.g] 29 1 (.slice y.sa y.s.length y.sc) rfl
  simp only [World.size_alloc] at r1
  have r2 := box_cells (w.alloc (.cells #[.string ⟨x.k.toArray⟩, .slice x.sa x.s.length x.sc, .slice x.ca x.c.length x.cc, .slice x.ia x.j.length x.ic, .int .u64 (x.l.s : Int), .string ⟨x.l.t.toArray⟩, .bool x.l.g] 29)) #[.string ⟨y.k.toArray⟩, .slice y.sa y.s.length y.sc, .slice y.ca y.c.length y.cc, .slice y.ia y.j.length y.ic, .int .u64 (y.l.s : Int), .string ⟨y.l.t.toArray⟩, .bool y.l.g] 29 2 (.slice y.ca y.c.length y.cc) rfl
  simp only [World.size_alloc] at r2
  have r3 := box_cells (w.alloc (.cells #[.string ⟨x.k.toArray⟩, .slice x.sa x.s.length x.sc, .slice x.ca x.c.length x.cc, .slice x.ia x.j.length x.ic, .int .u64 (x.l.s : Int), .string ⟨x.l.t.toArray⟩, .bool x.l.g] 29)) #[.string ⟨y.k.toArray⟩, .slice y.sa y.s.length y.sc, .slice y.ca y.c.length y.cc, .slice y.ia y.j.length y.ic, .int .u64 (y.l.s : Int), .string ⟨y.l.t.toArray⟩, .bool y.l.g] 29 3 (.slice y.ia y.j.length y.ic) rfl
  simp only [World.size_alloc] at r3
  have r4 := box_cells (w.alloc (.cells #[.string ⟨x.k.toArray⟩, .slice x.sa x.s.length x.sc, .slice x.ca x.c.length x.cc, .slice x.ia x.j.length x.ic, .int .u64 (x.l.s : Int), .string ⟨x.l.t.toArray⟩, .bool x.l.g] 29)) #[.string ⟨y.k.toArray⟩, .slice y.sa y.s.length y.sc, .slice y.ca y.c.length y.cc, .slice y.ia y.j.length y.ic, .int .u64 (y.l.s : Int), .string ⟨y.l.t.toArray⟩, .bool y.l.g] 29 4 (.int .u64 (y.l.s : Int)) rfl
  simp only [World.size_alloc] at r4
  have r5 := box_cells (w.alloc (.cells #[.string ⟨x.k.toArray⟩, .slice x.sa x.s.length x.sc, .slice x.ca x.c.length x.cc, .slice x.ia x.j.length x.ic, .int .u64 (x.l.s : Int), .string ⟨x.l.t.toArray⟩, .bool x.l.g] 29)) #[.string ⟨y.k.toArray⟩, .slice y.sa y.s.length y.sc, .slice y.ca y.c.length y.cc, .slice y.ia y.j.length y.ic, .int .u64 (y.l.s : Int), .string ⟨y.l.t.toArray⟩, .bool y.l.g] 29 5 (.string ⟨y.l.t.toArray⟩) rfl
  simp only [World.size_alloc] at r5
  have r6 := box_cells (w.alloc (.cells #[.string ⟨x.k.toArray⟩, .slice x.sa x.s.length x.sc, .slice x.ca x.c.length x.cc, .slice x.ia x.j.length x.ic, .int .u64 (x.l.s : Int), .string ⟨x.l.t.toArray⟩, .bool x.l.g] 29)) #[.string ⟨y.k.toArray⟩, .slice y.sa y.s.length y.sc, .slice y.ca y.c.length y.cc, .slice y.ia y.j.length y.ic, .int .u64 (y.l.s : Int), .string ⟨y.l.t.toArray⟩, .bool y.l.g] 29 6 (.bool y.l.g) rfl
  simp only [World.size_alloc] at r6
  obtain ⟨w0, hw0⟩ : ∃ v, v = ((w.alloc (.cells #[.string ⟨x.k.toArray⟩, .slice x.sa x.s.length x.sc, .slice x.ca x.c.length x.cc, .slice x.ia x.j.length x.ic, .int .u64 (x.l.s : Int), .string ⟨x.l.t.toArray⟩, .bool x.l.g] 29)).alloc (.cells #[.string ⟨y.k.toArray⟩, .slice y.sa y.s.length y.sc, .slice y.ca y.c.length y.cc, .slice y.ia y.j.length y.ic, .int .u64 (y.l.s : Int), .string ⟨y.l.t.toArray⟩, .bool y.l.g] 29)) := ⟨_, rfl⟩
  rw [← hw0] at hb0 p0 p1 p2 p3 p4 p5 p6 r0 r1 r2 r3 r4 r5 r6 ⊢
  obtain ⟨br, hbr⟩ : ∃ b, b = w.heap.size + 1 := ⟨_, rfl⟩
  rw [← hbr] at r0 r1 r2 r3 r4 r5 r6 ⊢
  obtain ⟨bp, hbp⟩ : ∃ b, b = w.heap.size := ⟨_, rfl⟩
  rw [← hbp] at p0 p1 p2 p3 p4 p5 p6 ⊢
  have hb := hb0
  clear hb0 hw0 hbp hbr
  replace kx := Lib.hid (kx.out.below hb)
  replace ky := Lib.hid (ky.out.below hb)
  cases q0
  · skip
    have HV2 : Hid (decide (x.e = y.e) = false) := Lib.hid (by rw [HV.out]; try simp)
    go_wp2
    go_ret
    exact ⟨by rw [HV2.out]; rfl, hb⟩
  · skip
    go_wp2_with fail
    refine (C1.out _ kx.out ky.out).mono ?_
    rintro e v1 ⟨rfl, k1⟩
    replace p0 := (Coder.keepC p0 k1)
    replace p1 := (Coder.keepC p1 k1)
    replace p2 := (Coder.keepC p2 k1)
    replace p3 := (Coder.keepC p3 k1)
    replace p4 := (Coder.keepC p4 k1)
    replace p5 := (Coder.keepC p5 k1)
    replace p6 := (Coder.keepC p6 k1)
    replace r0 := (Coder.keepC r0 k1)
    replace r1 := (Coder.keepC r1 k1)
    replace r2 := (Coder.keepC r2 k1)
    replace r3 := (Coder.keepC r3 k1)
    replace r4 := (Coder.keepC r4 k1)
    replace r5 := (Coder.keepC r5 k1)
    replace r6 := (Coder.keepC r6 k1)
    replace kx := Lib.hid ((kx.out).below k1)
    replace ky := Lib.hid ((ky.out).below k1)
    replace hb := bstep hb k1
    clear k1
    cases q1
    · skip
      have HV2 : Hid (decide (x.e = y.e) = false) := Lib.hid (by rw [HV.out]; try simp)
      go_wp2
      go_ret
      exact ⟨by rw [HV2.out]; rfl, hb⟩
    · skip
      go_wp2_with fail
      refine (C2.out _ kx.out ky.out).mono ?_
      rintro e v2 ⟨rfl, k2⟩
      replace p0 := (Coder.keepC p0 k2)
      replace p1 := (Coder.keepC p1 k2)
      replace p2 := (Coder.keepC p2 k2)
      replace p3 := (Coder.keepC p3 k2)
      replace p4 := (Coder.keepC p4 k2)
      replace p5 := (Coder.keepC p5 k2)
      replace p6 := (Coder.keepC p6 k2)
      replace r0 := (Coder.keepC r0 k2)
      replace r1 := (Coder.keepC r1 k2)
      replace r2 := (Coder.keepC r2 k2)
      replace r3 := (Coder.keepC r3 k2)
      replace r4 := (Coder.keepC r4 k2)
      replace r5 := (Coder.keepC r5 k2)
      replace r6 := (Coder.keepC r6 k2)
      replace kx := Lib.hid ((kx.out).below k2)
      replace ky := Lib.hid ((ky.out).below k2)
      replace hb := bstep hb k2
      clear k2
      cases q2
      · skip
        have HV2 : Hid (decide (x.e = y.e) = false) := Lib.hid (by rw [HV.out]; try simp)
        go_wp2
        go_ret
        exact ⟨by rw [HV2.out]; rfl, hb⟩
      · skip
        go_wp2_with fail
        refine (C3.out _ kx.out ky.out).mono ?_
        rintro e v3 ⟨rfl, k3⟩
        replace p0 := (Coder.keepC p0 k3)
        replace p1 := (Coder.keepC p1 k3)
        replace p2 := (Coder.keepC p2 k3)
        replace p3 := (Coder.keepC p3 k3)
        replace p4 := (Coder.keepC p4 k3)
        replace p5 := (Coder.keepC p5 k3)
        replace p6 := (Coder.keepC p6 k3)
        replace r0 := (Coder.keepC r0 k3)
        replace r1 := (Coder.keepC r1 k3)
        replace r2 := (Coder.keepC r2 k3)
        replace r3 := (Coder.keepC r3 k3)
        replace r4 := (Coder.keepC r4 k3)
        replace r5 := (Coder.keepC r5 k3)
        replace r6 := (Coder.keepC r6 k3)
        replace kx := Lib.hid ((kx.out).below k3)
        replace ky := Lib.hid ((ky.out).below k3)
        replace hb := bstep hb k3
        clear k3
        cases q3
        · skip
          have HV2 : Hid (decide (x.e = y.e) = false) := Lib.hid (by rw [HV.out]; try simp)
          go_wp2
          go_ret
          exact ⟨by rw [HV2.out]; rfl, hb⟩
        · skip
          have HV2 : Hid (decide (x.e = y.e) = q4) := Lib.hid (by rw [HV.out]; simp only [Bool.true_and])
          go_wp2
          go_ret
          exact ⟨by rw [HV2.out]; rfl, hb⟩
end Coder
end Go.Proofs.YtnpjkmomllkhpaaGreat
