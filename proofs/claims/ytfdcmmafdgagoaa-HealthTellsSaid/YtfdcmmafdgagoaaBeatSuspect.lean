/- health.Suspect, health.Refute. -/
import Derived.Test.YtfdcmmafdgagoaaBeatInsert3
namespace Go.Proofs.Ytfdcmmafdgagoaa
namespace Row
open Go.RowKit
variable {α : Type} {E : Enc α} {te : TypeId}
theorem flat_set_field : ∀ (L : List α) (i : Nat) (hi : i < L.length) (f : Nat) (_ : f < E.k) (u : Value) (x' : α), E.cells x' = (E.cells L[i]).set f u → flat E (L.set i x') = (flat E L).set (i * E.k + f) u
  | x :: L, 0, _, f, hf, u, x', h => by
    rw [List.set_cons_zero, flat_cons, flat_cons, h, Nat.zero_mul, Nat.zero_add, List.set_append_left _ _ (by rw [E.len]; exact hf)]; rfl
  | x :: L, i + 1, hi, f, hf, u, x', h => by
    rw [List.set_cons_succ, flat_cons, flat_cons, flat_set_field L i (by simpa using hi) f hf u x' h, List.set_append_right _ _ (by rw [E.len, Nat.add_mul]; omega), E.len]
    congr 2
    rw [Nat.add_mul]; omega
/-- A field of an element of an own row, set. -/
theorem Own.set {w : World} {B g n cap : Nat} {L : List α} (h : Own E te w B (.slice (some ⟨g, 0, none⟩) n cap) L) (i : Nat) (hi : i < L.length) (f : Nat) (hf : f < E.k) (u : Value) (x' : α) (hx : E.cells x' = (E.cells L[i]).set f u) :
    Own E te (w.setCell ⟨g, i * E.k + f, none⟩ u) B (.slice (some ⟨g, 0, none⟩) n cap) (L.set i x') := by
  obtain ⟨cur, hB, hg, rfl, hc, hm, hs, ht⟩ := h.row
  have h1 := World.ownsRow.stored h (i * E.k + f) u
  unfold Own
  rw [List.length_set, flat_set_field L i hi f hf u x' hx]
  exact h1.1
theorem Own.cellAt {w : World} {B g n cap : Nat} {L : List α} (h : Own E te w B (.slice (some ⟨g, 0, none⟩) n cap) L) (i : Nat) (hi : i < L.length) (f : Nat) (hf : f < E.k) : w.cell? ⟨g, i * E.k + f, none⟩ = (E.cells L[i])[f]? := by
  obtain ⟨cur, hB, hg, rfl, hc, hm, hs, ht⟩ := h.row
  have hb : i * E.k + f < L.length * E.k := by
    have : (i + 1) * E.k ≤ L.length * E.k := Nat.mul_le_mul_right _ hi
    rw [Nat.add_mul] at this; omega
  exact (World.ownsRow.cellAt h (i * E.k + f) hb).trans (flat_get E L i hi f hf)
theorem Own.frozenAt {w : World} {B g n cap : Nat} {L : List α} (h : Own E te w B (.slice (some ⟨g, 0, none⟩) n cap) L) (j : Nat) : w.frozen? ⟨g, j, none⟩ = false := by
  obtain ⟨cur, hB, hg, rfl, hc, hm, hs, ht⟩ := h.row
  exact World.ownsRow.frozenAt h j
end Row
namespace Beat
open Go.RowKit Go.Proofs.Ytfdcmmafdgagoaa.Order

theorem cut_put : ∀ (L : List B) (b : B) (i : Nat), Cut L b.p i → hasB L b.p = false → L.take i ++ ([b] ++ L.drop i) = putL L b
  | [], b, i, h, _ => by
    obtain rfl : i = 0 := by have := h.1; simpa using this
    rfl
  | x :: L, b, i, h, hh => by
    rw [putL]
    have hx : x.p ≠ b.p := fun e => by
      unfold hasB at hh; rw [look_cons, if_pos e] at hh; cases hh
    have hh' : hasB L b.p = false := by unfold hasB at hh ⊢; rw [look_cons, if_neg hx] at hh; exact hh
    by_cases hl : lt x.p b.p
    · rw [if_pos hl]
      cases i with
      | zero => exact absurd hl (h.2.2 0 (by simp) (Nat.le_refl _))
      | succ i =>
        have hc : Cut L b.p i := ⟨by have := h.1; simpa using this, fun t ht h1 => h.2.1 (t + 1) (by simpa using ht) (by omega), fun t ht h1 => h.2.2 (t + 1) (by simpa using ht) (by omega)⟩
        rw [List.take_succ_cons, List.drop_succ_cons, List.cons_append, cut_put L b i hc hh']
    · rw [if_neg hl, if_neg hx]
      cases i with
      | zero => rfl
      | succ i => exact absurd (h.2.1 0 (by simp) (by omega)) hl
theorem cut_set : ∀ (L : List B) (b : B) (i : Nat) (hi : i < L.length), Cut L b.p i → L[i].p = b.p → L.set i b = putL L b
  | x :: L, b, i, hi, h, hh => by
    rw [putL]
    by_cases hl : lt x.p b.p
    · rw [if_pos hl]
      cases i with
      | zero => exact absurd hl (h.2.2 0 (by simp) (Nat.le_refl _))
      | succ i =>
        have hc : Cut L b.p i := ⟨by have := h.1; simpa using this, fun t ht h1 => h.2.1 (t + 1) (by simpa using ht) (by omega), fun t ht h1 => h.2.2 (t + 1) (by simpa using ht) (by omega)⟩
        rw [List.set_cons_succ, cut_set L b i (by simpa using hi) hc hh]
    · cases i with
      | zero => rw [if_neg hl, if_pos (show x.p = b.p from hh)]; rfl
      | succ i => exact absurd (h.2.1 0 (by simp) (by omega)) hl
/-- Suspected. -/
def susB (L : List B) (q : List UInt8) : List B := if mayB L && pathB q then putL L ⟨q, (((look L q).map (·.n)).getD 0), true⟩ else []
/-- Refuted. -/
def refB (L : List B) (q : List UInt8) : List B := if mayB L && pathB q then (match look L q with | some x => if x.bad && decide (x.n < 281474976710656) then putL L ⟨q, x.n + 1, false⟩ else L | none => L) else []
theorem sus_no {L : List B} {q : List UInt8} (h : (mayB L && pathB q) = false) : susB L q = [] := by unfold susB; rw [h]; rfl
theorem ref_no {L : List B} {q : List UInt8} (h : (mayB L && pathB q) = false) : refB L q = [] := by unfold refB; rw [h]; rfl
theorem look_p {L : List B} {q : List UInt8} (h : hasB L q = true) : ∃ x, look L q = some x := by
  unfold hasB at h
  cases h1 : look L q with
  | none => rw [h1] at h; cases h
  | some x => exact ⟨x, rfl⟩
theorem look_no {L : List B} {q : List UInt8} (h : hasB L q = false) : look L q = none := by
  unfold hasB at h
  cases h1 : look L q with
  | none => rfl
  | some x => rw [h1] at h; cases h

set_option maxRecDepth 100000 in
set_option maxHeartbeats 4000000 in
theorem suspect_any (L : List B) (q : List UInt8) (a : Option Addr) (c : Nat) (w : World) (hL : Lies w a L.length L) (hW : Small L) (hq : q.length ≤ 1099511627776) :
    Calls Try.prog 13 #[.slice a L.length c, .string ⟨q.toArray⟩] w fun e w' => ∃ v', e = .returned v' ∧ Mine w' w.heap.size v' (susB L q) ∧ Below w.heap.size w w' := by
  have hb := Below.refl w.heap.size w
  have lL := Lib.hid hL
  have CM := Lib.hid (fun w h => may_any L a c w h hW)
  have CP := Lib.hid (fun w => Path.may_any q w hq)
  have HO : Hid ((mayB L && pathB q) = false → susB L q = []) := Lib.hid sus_no
  clear hL hW hq
  cases h1 : mayB L
  · have hm := h1
    have H2 : Hid (susB L q = []) := Lib.hid (HO.out (by rw [h1]; rfl))
    clear h1
    go_enter Try.func13, Try.ntmps13
    go_wp2_with fail
    refine (CM.out _ lL.out).mono ?_
    rintro e v1 ⟨rfl, k1⟩
    replace lL := Lib.hid ((lL.out).below k1)
    replace hb := bstep hb k1
    clear k1
    rw [hm]
    go_wp2
    go_ret
    exact ⟨_, rfl, by rw [H2.out]; exact Row.Own.nil _ _, hb⟩
  have hm := h1
  have MF := may_facts h1
  have HP0 : (decide (0 < (Path.parse q).length)) = pathB q := rfl
  cases h2 : pathB q
  · rw [h2] at HP0
    have HP := Lib.hid HP0
    have H2 : Hid (susB L q = []) := Lib.hid (HO.out (by rw [h2, Bool.and_false]))
    clear h1 h2 HP0
    go_enter Try.func13, Try.ntmps13
    go_wp2_with fail
    refine (CM.out _ lL.out).mono ?_
    rintro e v2 ⟨rfl, k2⟩
    replace lL := Lib.hid ((lL.out).below k2)
    replace hb := bstep hb k2
    clear k2
    rw [hm]
    go_wp2_with fail
    refine (CP.out _).mono ?_
    rintro e v3 ⟨rfl, k3⟩
    replace lL := Lib.hid ((lL.out).below k3)
    replace hb := bstep hb k3
    clear k3
    have hp := HP.out
    rw [hp]
    go_wp2
    go_ret
    exact ⟨_, rfl, by rw [H2.out]; exact Row.Own.nil _ _, hb⟩
  rw [h2] at HP0
  have HP := Lib.hid HP0
  have CC := Lib.hid (fun w h => clone_any L a c w h (by omega))
  have CF := Lib.hid (fun a c w h => find_any L q a c w h (by omega) MF.2.2)
  have HR := Lib.hid MF
  clear HP0 MF
  have HV : Hid (susB L q = putL L ⟨q, (((look L q).map (·.n)).getD 0), true⟩) := Lib.hid (by unfold susB; rw [h1, h2]; rfl)
  clear h1 h2
  go_enter Try.func13, Try.ntmps13
  go_wp2_with fail
  refine (CM.out _ lL.out).mono ?_
  rintro e v4 ⟨rfl, k4⟩
  replace lL := Lib.hid ((lL.out).below k4)
  replace hb := bstep hb k4
  clear k4
  rw [hm]
  go_wp2_with fail
  refine (CP.out _).mono ?_
  rintro e v5 ⟨rfl, k5⟩
  replace lL := Lib.hid ((lL.out).below k5)
  replace hb := bstep hb k5
  clear k5
  have hp := HP.out
  rw [hp]
  have hbs := hb.size
  go_wp2_with fail
  refine (CC.out _ lL.out).mono ?_
  rintro e v6 ⟨v, rfl, hown, k6⟩
  replace lL := Lib.hid ((lL.out).below k6)
  replace hb := bstep hb k6
  clear k6
  have oN := Lib.hid (Row.Own.base hown hbs)
  have BB := Lib.hid (hown.lt)
  clear hown
  obtain ⟨a2, c2, rfl, hc1, hc2, l2, hb2⟩ := oN.out.lies
  have hrow := oN.out.2
  have l2h := Lib.hid l2
  clear l2
  cases h3 : hasB L q
  · skip
    have HN : Hid (susB L q = putL L ⟨q, 0, true⟩) := Lib.hid (by rw [HV.out, look_no h3]; rfl)
    have HH := Lib.hid h3
    rw [h3] at CF
    clear hrow hb2 h3
    go_wp2_with fail
    refine (CF.out a2 c2 _ l2h.out).mono ?_
    rintro e v7 ⟨i, rfl, hcut, k7⟩
    replace lL := Lib.hid ((lL.out).below k7)
    replace oN := Lib.hid ((oN.out).below k7)
    replace l2h := Lib.hid ((l2h.out).below k7)
    replace hb := bstep hb k7
    clear k7
    have HC := Lib.hid hcut
    clear hcut
    have hle := HC.out.1
    have hsz : (Row.flat enc [(⟨q, 0, true⟩ : B)]) = [.string ⟨q.toArray⟩, .int .u64 0, .bool true] := rfl
    have CI := Lib.hid (insert_any ⟨q, 0, true⟩ L (.slice a2 L.length c2) i w.heap.size v7.heap.size 28 (v7.alloc (.cells #[.string ⟨q.toArray⟩, .int .u64 0, .bool true] 28)) (oN.out.alloc _) hle (by have := HR.out.1; omega) (by have := hb.size; rw [World.size_alloc]; omega) (heap_alloc_new v7 _) (fun e => by have := (oN.out.lt _ e).2; omega))
    clear hsz hle
    go_wp2_with fail
    refine CI.out.mono ?_
    rintro e w9 ⟨v9, rfl, o9, k9⟩
    have HE := Lib.hid (cut_put L ⟨q, 0, true⟩ i HC.out HH.out)
    have HO9 := Lib.hid o9
    have HK9 := Lib.hid ((hb.alloc hb.size (.cells #[.string ⟨q.toArray⟩, .int .u64 0, .bool true] 28)).trans k9)
    clear o9 k9 hb
    go_wp2
    go_ret
    exact ⟨_, rfl, by rw [HN.out, ← HE.out]; exact HO9.out, HK9.out⟩
  · rw [h3] at CF
    have HH := Lib.hid h3
    clear hb2 h3
    go_wp2_with fail
    refine (CF.out a2 c2 _ l2h.out).mono ?_
    rintro e v8 ⟨i, rfl, hcut, k8⟩
    replace lL := Lib.hid ((lL.out).below k8)
    replace oN := Lib.hid ((oN.out).below k8)
    replace l2h := Lib.hid ((l2h.out).below k8)
    replace hb := bstep hb k8
    clear k8
    have HC := Lib.hid hcut
    clear hcut
    obtain ⟨hi, hip, hlk⟩ := cut_is HR.out.2.2 HC.out HH.out
    obtain ⟨G, rfl⟩ : ∃ G, a2 = some ⟨G, 0, none⟩ := by
      rcases hrow with ⟨h', h0⟩ | ⟨g, cap, cur, h', _⟩
      · omega
      · simp only [Value.slice.injEq] at h'; exact ⟨g, h'.1⟩
    have HN : Hid (susB L q = L.set i ⟨q, L[i].n, true⟩) := Lib.hid (by rw [HV.out, hlk]; exact (cut_set L ⟨q, L[i].n, true⟩ i hi HC.out hip).symm)
    have HS := Lib.hid (oN.out.set i hi 2 (by decide) (.bool true) ⟨q, L[i].n, true⟩ (by show _ = (enc.cells L[i]).set 2 _; rw [← hip]; rfl))
    have c3 := oN.out.cellAt i hi 2 (by decide)
    have f3 := oN.out.frozenAt (i * 3 + 2)
    rw [show (enc.cells L[i])[2]? = some (.bool L[i].bad) from rfl] at c3
    have hGl := Lib.hid ((oN.out.lt G rfl).1)
    have e3 : i * enc.k + 2 = i * 3 + 2 := rfl
    rw [e3] at c3
    have j1 : (0 : Int) ≤ (i : Int) := by omega
    have j2 : (i : Int) < (L.length : Int) := by omega
    obtain ⟨bd, hbd⟩ : ∃ bd, bd = L[i].bad := ⟨_, rfl⟩
    rw [← hbd] at c3
    clear hip hlk hbd hrow
    go_wp2
    go_ret
    exact ⟨_, rfl, by rw [HN.out]; exact HS.out, hb.setCell hGl.out _⟩
set_option maxRecDepth 100000 in
set_option maxHeartbeats 4000000 in
theorem refute_any (L : List B) (q : List UInt8) (a : Option Addr) (c : Nat) (w : World) (hL : Lies w a L.length L) (hW : Small L) (hq : q.length ≤ 1099511627776) :
    Calls Try.prog 14 #[.slice a L.length c, .string ⟨q.toArray⟩] w fun e w' => ∃ v', e = .returned v' ∧ Mine w' w.heap.size v' (refB L q) ∧ Below w.heap.size w w' := by
  have hb := Below.refl w.heap.size w
  have lL := Lib.hid hL
  have CM := Lib.hid (fun w h => may_any L a c w h hW)
  have CP := Lib.hid (fun w => Path.may_any q w hq)
  have HO : Hid ((mayB L && pathB q) = false → refB L q = []) := Lib.hid ref_no
  clear hL hW hq
  cases h1 : mayB L
  · have hm := h1
    have H2 : Hid (refB L q = []) := Lib.hid (HO.out (by rw [h1]; rfl))
    clear h1
    go_enter Try.func14, Try.ntmps14
    go_wp2_with fail
    refine (CM.out _ lL.out).mono ?_
    rintro e v9 ⟨rfl, k9⟩
    replace lL := Lib.hid ((lL.out).below k9)
    replace hb := bstep hb k9
    clear k9
    rw [hm]
    go_wp2
    go_ret
    exact ⟨_, rfl, by rw [H2.out]; exact Row.Own.nil _ _, hb⟩
  have hm := h1
  have MF := may_facts h1
  have HP0 : (decide (0 < (Path.parse q).length)) = pathB q := rfl
  cases h2 : pathB q
  · rw [h2] at HP0
    have HP := Lib.hid HP0
    have H2 : Hid (refB L q = []) := Lib.hid (HO.out (by rw [h2, Bool.and_false]))
    clear h1 h2 HP0
    go_enter Try.func14, Try.ntmps14
    go_wp2_with fail
    refine (CM.out _ lL.out).mono ?_
    rintro e v10 ⟨rfl, k10⟩
    replace lL := Lib.hid ((lL.out).below k10)
    replace hb := bstep hb k10
    clear k10
    rw [hm]
    go_wp2_with fail
    refine (CP.out _).mono ?_
    rintro e v11 ⟨rfl, k11⟩
    replace lL := Lib.hid ((lL.out).below k11)
    replace hb := bstep hb k11
    clear k11
    have hp := HP.out
    rw [hp]
    go_wp2
    go_ret
    exact ⟨_, rfl, by rw [H2.out]; exact Row.Own.nil _ _, hb⟩
  rw [h2] at HP0
  have HP := Lib.hid HP0
  have CC := Lib.hid (fun w h => clone_any L a c w h (by omega))
  have CF := Lib.hid (fun a c w h => find_any L q a c w h (by omega) MF.2.2)
  have HR := Lib.hid MF
  clear HP0 MF
  have HV : Hid (refB L q = (match look L q with | some x => if x.bad && decide (x.n < 281474976710656) then putL L ⟨q, x.n + 1, false⟩ else L | none => L)) := Lib.hid (by unfold refB; rw [h1, h2]; rfl)
  clear h1 h2
  go_enter Try.func14, Try.ntmps14
  go_wp2_with fail
  refine (CM.out _ lL.out).mono ?_
  rintro e v12 ⟨rfl, k12⟩
  replace lL := Lib.hid ((lL.out).below k12)
  replace hb := bstep hb k12
  clear k12
  rw [hm]
  go_wp2_with fail
  refine (CP.out _).mono ?_
  rintro e v13 ⟨rfl, k13⟩
  replace lL := Lib.hid ((lL.out).below k13)
  replace hb := bstep hb k13
  clear k13
  have hp := HP.out
  rw [hp]
  have hbs := hb.size
  go_wp2_with fail
  refine (CC.out _ lL.out).mono ?_
  rintro e v14 ⟨v, rfl, hown, k14⟩
  replace lL := Lib.hid ((lL.out).below k14)
  replace hb := bstep hb k14
  clear k14
  have oN := Lib.hid (Row.Own.base hown hbs)
  have BB := Lib.hid (hown.lt)
  clear hown
  obtain ⟨a2, c2, rfl, hc1, hc2, l2, hb2⟩ := oN.out.lies
  have hrow := oN.out.2
  have l2h := Lib.hid l2
  clear l2 hb2
  cases h3 : hasB L q
  · have HN : Hid (refB L q = L) := Lib.hid (by rw [HV.out, look_no h3])
    rw [h3] at CF
    clear hrow h3
    go_wp2_with fail
    refine (CF.out a2 c2 _ l2h.out).mono ?_
    rintro e v15 ⟨i, rfl, hcut, k15⟩
    replace lL := Lib.hid ((lL.out).below k15)
    replace oN := Lib.hid ((oN.out).below k15)
    replace l2h := Lib.hid ((l2h.out).below k15)
    replace hb := bstep hb k15
    clear k15
    have HC := Lib.hid hcut
    clear hcut
    go_wp2
    go_ret
    exact ⟨_, rfl, by rw [HN.out]; exact oN.out, hb⟩
  rw [h3] at CF
  have HH := Lib.hid h3
  clear h3
  go_wp2_with fail
  refine (CF.out a2 c2 _ l2h.out).mono ?_
  rintro e v16 ⟨i, rfl, hcut, k16⟩
  replace lL := Lib.hid ((lL.out).below k16)
  replace oN := Lib.hid ((oN.out).below k16)
  replace l2h := Lib.hid ((l2h.out).below k16)
  replace hb := bstep hb k16
  clear k16
  have HC := Lib.hid hcut
  clear hcut
  obtain ⟨hi, hip, hlk⟩ := cut_is HR.out.2.2 HC.out HH.out
  obtain ⟨G, rfl⟩ : ∃ G, a2 = some ⟨G, 0, none⟩ := by
    rcases hrow with ⟨h', h0⟩ | ⟨g, cap, cur, h', _⟩
    · omega
    · simp only [Value.slice.injEq] at h'; exact ⟨g, h'.1⟩
  have HX : Hid (refB L q = if L[i].bad && decide (L[i].n < 281474976710656) then L.set i ⟨q, L[i].n + 1, false⟩ else L) := Lib.hid (by rw [HV.out, hlk]; simp only []; rw [cut_set L ⟨q, L[i].n + 1, false⟩ i hi HC.out hip])
  have c2' := oN.out.cellAt i hi 1 (by decide)
  have c3 := oN.out.cellAt i hi 2 (by decide)
  have f2 := oN.out.frozenAt (i * 3 + 1)
  have f3 := oN.out.frozenAt (i * 3 + 2)
  rw [show (enc.cells L[i])[1]? = some (.int .u64 (L[i].n : Int)) from rfl, show i * enc.k + 1 = i * 3 + 1 from rfl] at c2'
  rw [show (enc.cells L[i])[2]? = some (.bool L[i].bad) from rfl, show i * enc.k + 2 = i * 3 + 2 from rfl] at c3
  have HS := Lib.hid ((oN.out.set i hi 2 (by decide) (.bool false) ⟨q, L[i].n, false⟩ (by show _ = (enc.cells L[i]).set 2 _; rw [← hip]; rfl)).set i (by simpa using hi) 1 (by decide) (.int .u64 ((L[i].n + 1 : Nat) : Int)) ⟨q, L[i].n + 1, false⟩ (by simp only [List.getElem_set_self]; rfl))
  rw [List.set_set] at HS
  have hGl := Lib.hid ((oN.out.lt G rfl).1)
  have j1 : (0 : Int) ≤ (i : Int) := by omega
  have j2 : (i : Int) < (L.length : Int) := by omega
  obtain ⟨bd, hbd⟩ : ∃ bd, bd = L[i].bad := ⟨_, rfl⟩
  obtain ⟨m, hm2⟩ : ∃ m, m = L[i].n := ⟨_, rfl⟩
  rw [← hbd] at c3 HX
  rw [← hm2] at c2' HX HS
  clear hip hlk hbd hrow hm2
  cases bd with
  | false =>
    have HN : Hid (refB L q = L) := Lib.hid (by rw [HX.out]; rfl)
    clear HX
    go_wp2
    go_ret
    exact ⟨_, rfl, by rw [HN.out]; exact oN.out, hb⟩
  | true =>
    by_cases hmx : m < 281474976710656
    · have HN : Hid (refB L q = L.set i ⟨q, m + 1, false⟩) := Lib.hid (by rw [HX.out, decide_eq_true hmx]; rfl)
      have d1 : decide ((m : Int) < 281474976710656) = true := decide_eq_true (by omega)
      have d2 : IntKind.u64.wrap ((m : Int) + 1) = ((m + 1 : Nat) : Int) := by rw [IntKind.wrap_u64]; omega
      clear HX
      go_wp2
      go_ret
      refine ⟨_, rfl, by rw [HN.out]; exact HS.out, (hb.setCell hGl.out _).setCell hGl.out _⟩
    · have HN : Hid (refB L q = L) := Lib.hid (by rw [HX.out, decide_eq_false hmx]; rfl)
      have d1 : decide ((m : Int) < 281474976710656) = false := decide_eq_false (by omega)
      clear HX
      go_wp2
      go_ret
      exact ⟨_, rfl, by rw [HN.out]; exact oN.out, hb⟩
end Beat
end Go.Proofs.Ytfdcmmafdgagoaa
