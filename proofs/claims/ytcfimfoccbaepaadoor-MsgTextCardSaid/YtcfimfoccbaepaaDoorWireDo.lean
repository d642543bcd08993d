
/- package wire's reader: its methods. -/
import Derived.Test.YtcfimfoccbaepaaDoorWireTake
namespace Go.Proofs.YtcfimfoccbaepaaDoor
open Go.RowKit
namespace Wire
open Num

theorem after {w wa w1 w' : World} {b q : Nat} {l : List UInt8} {k : Nat} {E : Int} {v0 v : Value} (hwa : But b w wa) (hq : w.heap.size ≤ q) (hqb : q ≠ b) (hc : wa.cell? ⟨q, 0, none⟩ = some v0)
    (h1 : w1 = if E = 0 then wa.setCell ⟨q, 0, none⟩ v else wa) (hv : E ≠ 0 → v = v0) (ht : Took w1 w' b l k E) : w'.cell? ⟨q, 0, none⟩ = some v ∧ But b w w' := by
  have hb := ht.but
  have ql := World.block_lt_of_cell? wa ⟨q, 0, none⟩ hc
  by_cases hE : E = 0
  · rw [if_pos hE] at h1
    subst h1
    refine ⟨?_, (hwa.put ⟨q, 0, none⟩ hq v).trans hb⟩
    rw [hb.cell (by simpa [World.setCell] using ql) hqb]
    exact World.cell?_setCell_same _ _ _ hc
  · rw [if_neg hE] at h1
    subst h1
    refine ⟨?_, hwa.trans hb⟩
    rw [hb.cell ql hqb, hc, hv hE]
theorem kept {wa : World} {b q : Nat} {l : List UInt8} {E : Int} {v : Value} (hr : Rd wa b l 0) (hqb : q ≠ b) : ∀ w1, w1 = (if E = 0 then wa.setCell ⟨q, 0, none⟩ v else wa) → Rd w1 b l 0 := by
  intro w1 h1
  split at h1
  · rw [h1]; exact hr.set hqb v
  · rw [h1]; exact hr

theorem numT_err {l : List UInt8} {most n : Int} {k : Nat} {E : Int} (h : numT l most = (n, k, E)) (hE : E ≠ 0) : n = 0 := by
  unfold numT at h
  split at h
  · simp only [Prod.mk.injEq] at h; exact h.1.symm
  split at h
  · simp only [Prod.mk.injEq] at h; exact h.1.symm
  · simp only [Prod.mk.injEq] at h; exact absurd h.2.2.symm hE
theorem textT_err {l : List UInt8} {most : Int} {x : List UInt8} {k : Nat} {E : Int} (h : textT l most = (x, k, E)) (hE : E ≠ 0) : x = [] := by
  unfold textT at h
  split at h
  · simp only [Prod.mk.injEq] at h; exact h.1.symm
  split at h
  · simp only [Prod.mk.injEq] at h; exact h.1.symm
  split at h
  · simp only [Prod.mk.injEq] at h; exact h.1.symm
  · simp only [Prod.mk.injEq] at h; exact absurd h.2.2.symm hE
theorem boolT_err {l : List UInt8} {x : Bool} {k : Nat} {E : Int} (h : boolT l = (x, k, E)) (hE : E ≠ 0) : x = false := by
  cases l with
  | nil => simp [boolT] at h; exact h.1
  | cons c r =>
    simp only [boolT] at h
    split at h
    · simp only [Prod.mk.injEq] at h; exact h.1.symm
    · simp only [Prod.mk.injEq] at h; exact absurd h.2.2.symm hE

/-- What the methods answer, and what they leave. -/
def numS (most : Int) (l : List UInt8) (E : Int) : Int × List UInt8 × Int :=
  if E ≠ 0 then (0, l, E) else ((numT l most).1, (if (numT l most).2.2 = 0 then l.drop (numT l most).2.1 else l), (numT l most).2.2)
def textS (most : Int) (l : List UInt8) (E : Int) : List UInt8 × List UInt8 × Int :=
  if E ≠ 0 then ([], l, E) else ((textT l most).1, (if (textT l most).2.2 = 0 then l.drop (textT l most).2.1 else l), (textT l most).2.2)
def boolS (l : List UInt8) (E : Int) : Bool × List UInt8 × Int :=
  if E ≠ 0 then (false, l, E) else ((boolT l).1, (if (boolT l).2.2 = 0 then l.drop (boolT l).2.1 else l), (boolT l).2.2)
def endS (l : List UInt8) (E : Int) : Int := if E ≠ 0 then E else if l.isEmpty then 0 else 8
theorem numS_le {most : Int} {l : List UInt8} {E n : Int} {l' : List UInt8} {E' : Int} (h : numS most l E = (n, l', E')) (h0 : 0 ≤ most) : 0 ≤ n ∧ n ≤ most := by
  unfold numS at h
  split at h
  · simp only [Prod.mk.injEq] at h; omega
  simp only [Prod.mk.injEq] at h
  obtain ⟨h, _⟩ := h
  unfold numT at h
  split at h
  · simp only at h; omega
  split at h
  · simp only at h; omega
  · simp only at h; omega
def intS (most : Int) (l : List UInt8) (E : Int) : Int × List UInt8 × Int :=
  if most < 0 then (0, l, if E ≠ 0 then E else 9) else numS most l E


set_option maxHeartbeats 1000000 in
theorem num_any (b : Nat) (l : List UInt8) (E : Int) (most : Int) (w : World) (h : Rd w b l E) (n : Int) (l' : List UInt8) (E' : Int) (hn : numS most l E = (n, l', E')) :
    Calls Tryd.prog 42 #[.pointer (some ⟨b, 0, none⟩), .int .u64 most] w fun e w' => e = .returned (.int .u64 n) ∧ Rd w' b l' E' ∧ But b w w' := by
  have hmf : ∀ (fn : Fn) (first cap : Array Value) (w : World), (Instr.makeFunc fn first cap).run Tryd.prog w = .ok (.func fn first cap) w := fun _ _ _ _ => rfl
  have q0 := h.lt
  have hl := h.2.2.2.2.2
  obtain ⟨wa, hwa⟩ : ∃ wa, wa = (w.alloc (.cells #[.int .u64 most] 22)).alloc (.cells #[.int .u64 0] 22) := ⟨_, rfl⟩
  have hr : Rd wa b l E := by rw [hwa]; exact (h.alloc _).alloc _
  have hbw : But b w wa := by rw [hwa]; exact ((But.refl b w).alloc _).alloc _
  have hc : wa.cell? ⟨w.heap.size + 1, 0, none⟩ = some (.int .u64 0) := by rw [hwa]; simp
  have hf : wa.frozen? ⟨w.heap.size + 1, 0, none⟩ = false := by rw [hwa]; exact World.frozen?_alloc_at _ _ _ _ (by simp)
  have hp : wa.cell? ⟨w.heap.size, 0, none⟩ = some (.int .u64 most) := by rw [hwa]; simp
  unfold numS at hn
  by_cases hE : E = 0
  · subst hE
    rw [if_neg (by simp)] at hn
    obtain ⟨⟨t1, t2, t3⟩, ht⟩ : ∃ t, numT l most = t := ⟨_, rfl⟩
    rw [ht] at hn
    simp only [Prod.mk.injEq] at hn
    obtain ⟨rfl, hl', rfl⟩ := hn
    have HL := Lib.hid hl'
    clear hl'
    have C := Lib.hid (take_Num b l w.heap.size (w.heap.size + 1) t2 t3 (fun w1 => w1 = if t3 = 0 then wa.setCell ⟨w.heap.size + 1, 0, none⟩ (.int .u64 t1) else wa) wa hr (num_brick l most w.heap.size (w.heap.size + 1) wa hl hp hc hf t1 t2 t3 ht) (kept hr (by omega)) (fun e => numT_size (ht.trans (by rw [e]))))
    go_enter Tryd.func42, Tryd.ntmps42
    go_wp2_with fail
    rw [← hwa]
    clear hwa
    refine C.out.mono ?_
    rintro e w2 ⟨rfl, w1, h1, tk⟩
    obtain ⟨c2, b2⟩ := after hbw (Nat.le_succ _) (by omega) hc h1 (fun e => by rw [numT_err ht e]) tk
    have q2 := World.block_lt_of_cell? w2 ⟨w.heap.size + 1, 0, none⟩ c2
    have r2 := tk.rd (kept hr (by omega) w1 h1)
    rw [HL.out] at r2
    clear h1 tk
    go_wp2
    go_ret
    exact ⟨rfl, r2, b2⟩
  · rw [if_pos hE] at hn
    simp only [Prod.mk.injEq] at hn
    obtain ⟨rfl, rfl, rfl⟩ := hn
    have C := Lib.hid (fun f => take_err b l E f wa hr hE)
    have q2 := World.block_lt_of_cell? wa ⟨w.heap.size + 1, 0, none⟩ hc
    go_enter Tryd.func42, Tryd.ntmps42
    go_wp2_with fail
    rw [← hwa]
    clear hwa
    refine (C.out _).mono ?_
    rintro e w2 ⟨rfl, rfl⟩
    go_wp2
    go_ret
    exact ⟨rfl, hr, hbw⟩

set_option maxHeartbeats 1000000 in
theorem text_any (b : Nat) (l : List UInt8) (E : Int) (most : Int) (m0 : -9223372036854775808 ≤ most) (m1 : most ≤ 9223372036854775807) (w : World) (h : Rd w b l E) (n : List UInt8) (l' : List UInt8) (E' : Int) (hn : textS most l E = (n, l', E')) :
    Calls Tryd.prog 43 #[.pointer (some ⟨b, 0, none⟩), .int .i64 most] w fun e w' => e = .returned (.string ⟨n.toArray⟩) ∧ Rd w' b l' E' ∧ But b w w' := by
  have hmf : ∀ (fn : Fn) (first cap : Array Value) (w : World), (Instr.makeFunc fn first cap).run Tryd.prog w = .ok (.func fn first cap) w := fun _ _ _ _ => rfl
  have q0 := h.lt
  have hl := h.2.2.2.2.2
  obtain ⟨wa, hwa⟩ : ∃ wa, wa = (w.alloc (.cells #[.int .i64 most] 3)).alloc (.cells #[.string ⟨#[]⟩] 9) := ⟨_, rfl⟩
  have hr : Rd wa b l E := by rw [hwa]; exact (h.alloc _).alloc _
  have hbw : But b w wa := by rw [hwa]; exact ((But.refl b w).alloc _).alloc _
  have hc : wa.cell? ⟨w.heap.size + 1, 0, none⟩ = some (.string ⟨#[]⟩) := by rw [hwa]; simp
  have hf : wa.frozen? ⟨w.heap.size + 1, 0, none⟩ = false := by rw [hwa]; exact World.frozen?_alloc_at _ _ _ _ (by simp)
  have hp : wa.cell? ⟨w.heap.size, 0, none⟩ = some (.int .i64 most) := by rw [hwa]; simp
  unfold textS at hn
  by_cases hE : E = 0
  · subst hE
    rw [if_neg (by simp)] at hn
    obtain ⟨⟨t1, t2, t3⟩, ht⟩ : ∃ t, textT l most = t := ⟨_, rfl⟩
    rw [ht] at hn
    simp only [Prod.mk.injEq] at hn
    obtain ⟨rfl, hl', rfl⟩ := hn
    have HL := Lib.hid hl'
    clear hl'
    have C := Lib.hid (take_Text b l w.heap.size (w.heap.size + 1) t2 t3 (fun w1 => w1 = if t3 = 0 then wa.setCell ⟨w.heap.size + 1, 0, none⟩ (.string ⟨t1.toArray⟩) else wa) wa hr (text_brick l most w.heap.size (w.heap.size + 1) wa hl m0 m1 hp hc hf t1 t2 t3 ht) (kept hr (by omega)) (fun e => textT_size (ht.trans (by rw [e]))))
    go_enter Tryd.func43, Tryd.ntmps43
    go_wp2_with fail
    rw [← hwa]
    clear hwa
    refine C.out.mono ?_
    rintro e w2 ⟨rfl, w1, h1, tk⟩
    obtain ⟨c2, b2⟩ := after hbw (Nat.le_succ _) (by omega) hc h1 (fun e => by rw [textT_err ht e]) tk
    have q2 := World.block_lt_of_cell? w2 ⟨w.heap.size + 1, 0, none⟩ c2
    have r2 := tk.rd (kept hr (by omega) w1 h1)
    rw [HL.out] at r2
    clear h1 tk
    go_wp2
    go_ret
    exact ⟨rfl, r2, b2⟩
  · rw [if_pos hE] at hn
    simp only [Prod.mk.injEq] at hn
    obtain ⟨rfl, rfl, rfl⟩ := hn
    have C := Lib.hid (fun f => take_err b l E f wa hr hE)
    have q2 := World.block_lt_of_cell? wa ⟨w.heap.size + 1, 0, none⟩ hc
    go_enter Tryd.func43, Tryd.ntmps43
    go_wp2_with fail
    rw [← hwa]
    clear hwa
    refine (C.out _).mono ?_
    rintro e w2 ⟨rfl, rfl⟩
    go_wp2
    go_ret
    exact ⟨rfl, hr, hbw⟩

set_option maxHeartbeats 1000000 in
theorem fail_any (b : Nat) (l : List UInt8) (E E2 : Int) (w : World) (h : Rd w b l E) (E' : Int) (hE' : E' = if E ≠ 0 then E else E2) :
    Calls Tryd.prog 63 #[.pointer (some ⟨b, 0, none⟩), .int .i64 E2] w fun e w' => e = .returned (.tuple #[]) ∧ Rd w' b l E' ∧ But b w w' := by
  have hmf : ∀ (fn : Fn) (first cap : Array Value) (w : World), (Instr.makeFunc fn first cap).run Tryd.prog w = .ok (.func fn first cap) w := fun _ _ _ _ => rfl
  have q0 := h.lt
  obtain ⟨wa, hwa⟩ : ∃ wa, wa = w.alloc (.cells #[.int .i64 E2] 30) := ⟨_, rfl⟩
  have hr : Rd wa b l E := by rw [hwa]; exact h.alloc _
  have hbw : But b w wa := by rw [hwa]; exact (But.refl b w).alloc _
  have hp : wa.cell? ⟨w.heap.size, 0, none⟩ = some (.int .i64 E2) := by rw [hwa]; simp
  by_cases hE : E = 0
  · subst hE
    rw [if_neg (by simp)] at hE'
    subst hE'
    have C := Lib.hid (take_Fail b l w.heap.size 0 E' (fun w1 => Below wa.heap.size wa w1) wa hr (fail_brick l E' w.heap.size wa hp) (fun w1 k => hr.below k hr.lt) (fun _ => Nat.zero_le _))
    go_enter Tryd.func63, Tryd.ntmps63
    go_wp2_with fail
    rw [← hwa]
    clear hwa
    refine C.out.mono ?_
    rintro e w2 ⟨rfl, w1, h1, tk⟩
    go_wp2
    go_end0
    have r2 := tk.rd (hr.below h1 hr.lt)
    rw [List.drop_zero, ite_self] at r2
    exact ⟨rfl, r2, (hbw.trans (But.of h1)).trans tk.but⟩
  · rw [if_pos hE] at hE'
    subst hE'
    have C := Lib.hid (fun f => take_err b l E' f wa hr hE)
    go_enter Tryd.func63, Tryd.ntmps63
    go_wp2_with fail
    rw [← hwa]
    clear hwa
    refine (C.out _).mono ?_
    rintro e w2 ⟨rfl, rfl⟩
    go_wp2
    go_end0
    exact ⟨rfl, hr, hbw⟩

set_option maxHeartbeats 1000000 in
theorem end_any (b : Nat) (l : List UInt8) (E : Int) (w : World) (h : Rd w b l E) (E' : Int) (hE' : endS l E = E') :
    Calls Tryd.prog 46 #[.pointer (some ⟨b, 0, none⟩)] w fun e w' => e = .returned (.int .i64 E') ∧ Rd w' b l E' ∧ But b w w' := by
  unfold endS at hE'
  by_cases hE : E = 0
  · subst hE
    rw [if_neg (by simp)] at hE'
    have C := Lib.hid (take_End b l 0 E' (fun w1 => w = w1) w h (end_brick l w E' hE'.symm) (fun w1 k => k ▸ h) (fun _ => Nat.zero_le _))
    go_enter Tryd.func46, Tryd.ntmps46
    go_wp2_with fail
    refine C.out.mono ?_
    rintro e w2 ⟨rfl, w1, rfl, tk⟩
    have r2 := tk.rd h
    rw [List.drop_zero, ite_self] at r2
    have X := Lib.hid (err_any b l E' w2 r2)
    go_wp2_with fail
    refine X.out.mono ?_
    rintro e w3 ⟨rfl, rfl⟩
    go_wp2
    go_ret
    exact ⟨rfl, r2, tk.but⟩
  · rw [if_pos hE] at hE'
    subst hE'
    have C := Lib.hid (fun f => take_err b l E f w h hE)
    have X := Lib.hid (err_any b l E w h)
    go_enter Tryd.func46, Tryd.ntmps46
    go_wp2_with fail
    refine (C.out _).mono ?_
    rintro e w2 ⟨rfl, rfl⟩
    go_wp2_with fail
    refine X.out.mono ?_
    rintro e w3 ⟨rfl, rfl⟩
    go_wp2
    go_ret
    exact ⟨rfl, h, But.refl _ _⟩

set_option maxHeartbeats 1000000 in
theorem int_any (b : Nat) (l : List UInt8) (E : Int) (most : Int) (m0 : -9223372036854775808 ≤ most) (m1 : most ≤ 9223372036854775807) (w : World) (h : Rd w b l E) (n : Int) (l' : List UInt8) (E' : Int) (hn : intS most l E = (n, l', E')) :
    Calls Tryd.prog 45 #[.pointer (some ⟨b, 0, none⟩), .int .i64 most] w fun e w' => e = .returned (.int .i64 n) ∧ Rd w' b l' E' ∧ But b w w' := by
  unfold intS at hn
  by_cases hm : most < 0
  · rw [if_pos hm] at hn
    simp only [Prod.mk.injEq] at hn
    obtain ⟨rfl, rfl, hE⟩ := hn
    have hd : decide (most < 0) = true := decide_eq_true hm
    have C := Lib.hid (fail_any b l E 9 w h E' hE.symm)
    go_enter Tryd.func45, Tryd.ntmps45
    go_wp2_with fail
    refine C.out.mono ?_
    rintro e w2 ⟨rfl, r2, b2⟩
    go_wp2
    go_ret
    exact ⟨rfl, r2, b2⟩
  · rw [if_neg hm] at hn
    have hd : decide (most < 0) = false := decide_eq_false hm
    have hw : IntKind.u64.wrap most = most := by rw [IntKind.wrap_u64]; omega
    have hwn : IntKind.i64.wrap n = n := by have := numS_le hn (by omega); rw [IntKind.wrap_i64]; omega
    have C := Lib.hid (num_any b l E most w h n l' E' hn)
    go_enter Tryd.func45, Tryd.ntmps45
    go_wp2_with fail
    refine C.out.mono ?_
    rintro e w2 ⟨rfl, r2, b2⟩
    go_wp2
    go_ret
    exact ⟨rfl, r2, b2⟩

set_option maxHeartbeats 1000000 in
theorem new_any (l : List UInt8) (w : World) (hl : l.length ≤ maxLen) :
    Calls Tryd.prog 41 #[.string ⟨l.toArray⟩] w fun e w' => e = .returned (.pointer (some ⟨w.heap.size, 0, none⟩)) ∧ Rd w' w.heap.size l 0 ∧ Below w.heap.size w w' := by
  go_enter Tryd.func41, Tryd.ntmps41
  go_wp2
  go_ret
  refine ⟨rfl, ⟨by simp, by simp, by simp, World.frozen?_alloc_at _ _ _ _ (by simp), World.frozen?_alloc_at _ _ _ _ (by simp), hl⟩, balloc (Below.refl _ _) _⟩

end Wire
end Go.Proofs.YtcfimfoccbaepaaDoor
