
/- merged: PathNum PathCut PathSeq PathSplit PathFns PathWrite Conv RefPathNum RefPathPlain RefPathRead. -/
import Derived.Test.YtcbnkncgacbniaaProg
import Derived.Test.YtcbnkncgacbniaaStr
import Derived.Test.YtcbnkncgacbniaaFrame
import Derived.WalkKit
import Derived.WalkSpells
import Derived.WalkLawsBesides
import Derived.Lib.Hide
import Derived.Test.YtcbnkncgacbniaaShelf
import Derived.RangeFuncNested
import Derived.RangeFuncBound
import Derived.RangeFuncCalls
import Derived.RangeFuncLeaves
import Derived.RangeFuncFrom
import Derived.Shelf.Abstract
import Derived.Shelf.RegionOpen
import Derived.OwnWalkIn
import Derived.TacticsInMore
import Derived.LoopNIn
import Derived.LoopIn
import Derived.Lib.ItoaNum
import Derived.Deep.RegionHeld3
import Derived.Deep.DeepCutAuto
import Derived.Laws.AppendOwn
import Derived.Laws.OwnMore
namespace Go.Proofs.Ytcbnkncgacbniaa
namespace Path
open Go.RowKit

/-- Figures, one by one. -/
def dec : List UInt8 → Nat → Option Nat
  | [], n => some n
  | c :: r, n => if c.toNat < 48 ∨ 57 < c.toNat then none else dec r (10 * n + (c.toNat - 48))
theorem dec_cons (c : UInt8) (r : List UInt8) (n : Nat) : dec (c :: r) n = if c.toNat < 48 ∨ 57 < c.toNat then none else dec r (10 * n + (c.toNat - 48)) := rfl
/-- The number that a figure is; 0: none. -/
def num1 (l : List UInt8) : Nat :=
  if l = [] ∨ 10 < l.length ∨ l.head? = some 48 then 0 else match dec l 0 with
    | none => 0
    | some n => if 1073741824 < n then 0 else n
theorem num1_le (l : List UInt8) : num1 l ≤ 1073741824 := by
  unfold num1
  split
  · omega
  split
  · omega
  split
  · omega
  · omega

set_option maxRecDepth 100000 in
set_option maxHeartbeats 2000000 in
theorem number_any (l : List UInt8) (w : World) (hl : l.length ≤ 1099511627776) :
    Calls Try.prog 95 #[.string ⟨l.toArray⟩] w fun e w' => e = .returned (.int .i64 (num1 l : Int)) ∧ w = w' := by
  have hsz := Str.size_mk l
  cases l with
  | nil =>
    go_enter Try.func95, Try.ntmps95
    go_wp2
    go_ret
    exact ⟨rfl, rfl⟩
  | cons c r =>
    have hget : ∀ (k : Nat) (h : k < ({ data := (c :: r).toArray } : ByteArray).size), ({ data := (c :: r).toArray } : ByteArray)[k]'h = (c :: r)[k]'(by rw [Str.size_mk] at h; exact h) := fun _ _ => rfl
    have h0 := hget 0
    rw [List.length_cons] at hsz hl
    by_cases h1 : 10 < r.length + 1
    · have hv : num1 (c :: r) = 0 := by rw [num1, if_pos (.inr (.inl (by rw [List.length_cons]; exact h1)))]
      have HV := Lib.hid hv
      have hd : decide ((10 : Int) < ((r.length + 1 : Nat) : Int)) = true := decide_eq_true (by omega)
      clear hv hget h0
      go_enter Try.func95, Try.ntmps95
      go_wp2
      go_ret
      exact ⟨by rw [HV.out]; rfl, rfl⟩
    have hd : decide ((10 : Int) < ((r.length + 1 : Nat) : Int)) = false := decide_eq_false (by omega)
    by_cases h2 : c = 48
    · subst h2
      have hv : num1 (48 :: r) = 0 := by rw [num1, if_pos (.inr (.inr rfl))]
      have HV := Lib.hid hv
      clear hv hget
      go_enter Try.func95, Try.ntmps95
      go_wp2
      go_ret
      exact ⟨by rw [HV.out]; rfl, rfl⟩
    have hv : num1 (c :: r) = match dec (c :: r) 0 with | none => 0 | some n => if 1073741824 < n then 0 else n := by
      rw [num1, if_neg (by rw [List.length_cons, List.head?_cons]; simp [h2]; omega)]
    have hc48 : ((c.toNat : Int) == 48) = false := by
      rw [beq_eq_false_iff_ne]; intro h; have : (48 : UInt8).toNat = 48 := rfl; exact h2 (UInt8.toNat_inj.1 (by omega))
    have HV := Lib.hid hv
    have HG := Lib.hid hget
    obtain ⟨m, hm⟩ : ∃ m, m = r.length + 1 := ⟨_, rfl⟩
    rw [← hm] at hsz hd h1
    have HM := Lib.hid hm
    have hm0 : 0 < m := by omega
    clear hv hget hm
    go_enter Try.func95, Try.ntmps95
    go_wp2_with fail
    go_loop [3, 4, 19] (fun n _ i => ∃ k v : Nat, k ≤ m ∧ i = .int .i64 k ∧ n = .int .i64 v ∧ Hid (dec (c :: r) 0 = dec ((c :: r).drop k) v) ∧ v < 10 ^ k) (fun _ _ i => m - (intOf i).toNat)
    case atStart => exact ⟨0, 0, by omega, rfl, rfl, Lib.hid rfl, by decide⟩
    case round =>
      obtain ⟨k, v, hk, rfl, rfl, HD, hv10⟩ := hrel
      have hlen := HM.out
      have hv11 : v < 10000000000 := by have : (10 : Nat) ^ k ≤ 10 ^ 10 := Nat.pow_le_pow_right (by omega) (by omega); omega
      by_cases hlt : k < m
      · have hd1 : decide ((k : Int) < (m : Int)) = true := decide_eq_true (by omega)
        have hkl : k < (c :: r).length := by rw [List.length_cons]; omega
        obtain ⟨x, hx⟩ : ∃ x, x = (c :: r)[k]'hkl := ⟨_, rfl⟩
        have hgk : ∀ h : k < ({ data := (c :: r).toArray } : ByteArray).size, ({ data := (c :: r).toArray } : ByteArray)[k]'h = x := fun h => (HG.out k h).trans hx.symm
        have hdr : (c :: r).drop k = x :: (c :: r).drop (k + 1) := by rw [List.drop_eq_getElem_cons hkl, ← hx]
        have hde := HD.out.trans ((congrArg (fun z => dec z v) hdr).trans (dec_cons x _ v))
        have HDE := Lib.hid hde
        have hx256 := x.toNat_lt
        have h0k : (0 : Int) ≤ (k : Int) := by omega
        clear hx hdr hde hlen h0
        by_cases hb1 : x.toNat < 48
        · have hd2 : decide ((x.toNat : Int) < 48) = true := decide_eq_true (by omega)
          go_wp2
          go_ret
          exact ⟨by rw [HV.out, HDE.out, if_pos (.inl hb1)]; rfl, rfl⟩
        have hd2 : decide ((x.toNat : Int) < 48) = false := decide_eq_false (by omega)
        by_cases hb2 : 57 < x.toNat
        · have hd3 : decide ((57 : Int) < (x.toNat : Int)) = true := decide_eq_true (by omega)
          have hd3' : decide ((x.toNat : Int) > 57) = true := decide_eq_true (by omega)
          go_wp2
          go_ret
          exact ⟨by rw [HV.out, HDE.out, if_pos (.inr hb2)]; rfl, rfl⟩
        have hd3 : decide ((57 : Int) < (x.toNat : Int)) = false := decide_eq_false (by omega)
        have hd3' : decide ((x.toNat : Int) > 57) = false := decide_eq_false (by omega)
        have hw1 : IntKind.u8.wrap ((x.toNat : Int) - 48) = ((x.toNat - 48 : Nat) : Int) := by rw [IntKind.wrap_u8']; omega
        have hw2 : IntKind.i64.wrap (10 * (v : Int)) = 10 * (v : Int) := by rw [IntKind.wrap_i64]; omega
        have hw3 : IntKind.i64.wrap (10 * (v : Int) + ((x.toNat - 48 : Nat) : Int)) = ((10 * v + (x.toNat - 48) : Nat) : Int) := by rw [IntKind.wrap_i64]; omega
        go_wp2
        go_round
        case rel => exact ⟨k + 1, 10 * v + (x.toNat - 48), by omega, by go_num, rfl, Lib.hid (by rw [HDE.out, if_neg (by omega)]), by rw [Nat.pow_succ]; omega⟩
        case measure => simp [intOf]; omega
      · obtain rfl : k = m := by omega
        have hde : dec (c :: r) 0 = some v := HD.out.trans (by rw [List.drop_of_length_le (by rw [List.length_cons]; omega)]; rfl)
        have HDE := Lib.hid hde
        clear hde hlen h0
        have hd1 : decide ((k : Int) < (k : Int)) = false := decide_eq_false (by omega)
        by_cases hb : 1073741824 < v
        · have hd2 : decide ((1073741824 : Int) < (v : Int)) = true := decide_eq_true (by omega)
          have hd2' : decide ((v : Int) > 1073741824) = true := decide_eq_true (by omega)
          go_wp2
          go_ret
          exact ⟨by rw [HV.out, HDE.out]; simp only; rw [if_pos hb]; rfl, rfl⟩
        · have hd2 : decide ((1073741824 : Int) < (v : Int)) = false := decide_eq_false (by omega)
          have hd2' : decide ((v : Int) > 1073741824) = false := decide_eq_false (by omega)
          go_wp2
          go_ret
          exact ⟨by rw [HV.out, HDE.out]; simp only; rw [if_neg hb]; rfl, rfl⟩

end Path
end Go.Proofs.Ytcbnkncgacbniaa

namespace Go.Proofs.Ytcbnkncgacbniaa
namespace Path
open Go.RowKit

/-- A text's figures: what stands between its points. -/
def figs : List UInt8 → List (List UInt8)
  | [] => [[]]
  | c :: r => if c = 46 then [] :: figs r else match figs r with
    | [] => [[c]]
    | f :: fs => (c :: f) :: fs
def cutD : List UInt8 → List UInt8 × List UInt8 × Bool
  | [] => ([], [], false)
  | c :: r => if c = 46 then ([], r, true) else (c :: (cutD r).1, (cutD r).2.1, (cutD r).2.2)
theorem figs_cons (c : UInt8) (r : List UInt8) : figs (c :: r) = if c = 46 then [] :: figs r else match figs r with
    | [] => [[c]]
    | f :: fs => (c :: f) :: fs := rfl
theorem cutD_cons (c : UInt8) (r : List UInt8) : cutD (c :: r) = if c = 46 then ([], r, true) else (c :: (cutD r).1, (cutD r).2.1, (cutD r).2.2) := rfl
theorem figs_cut : ∀ l : List UInt8, figs l = (cutD l).1 :: (if (cutD l).2.2 then figs (cutD l).2.1 else [])
  | [] => rfl
  | c :: r => by
    rw [figs_cons, cutD_cons]
    by_cases h : c = 46
    · rw [if_pos h, if_pos h]; rfl
    · rw [if_neg h, if_neg h, figs_cut r]
theorem figs_length : ∀ l : List UInt8, (figs l).length ≤ l.length + 1
  | [] => by simp [figs]
  | c :: r => by
    have h := figs_length r
    unfold figs
    split
    · simp; exact h
    · split
      · simp
      · rename_i heq
        rw [heq] at h
        simp only [List.length_cons] at h ⊢
        omega
theorem cutD_length : ∀ l : List UInt8, (cutD l).1.length ≤ l.length ∧ (cutD l).2.1.length ≤ l.length ∧ ((cutD l).2.2 = true → (cutD l).2.1.length < l.length)
  | [] => by simp [cutD]
  | c :: r => by
    have h := cutD_length r
    unfold cutD
    split
    · simp
    · simp only [List.length_cons]
      exact ⟨by omega, by omega, fun e => by have := h.2.2 e; omega⟩
theorem cutD_index : ∀ l : List UInt8, (Lib.indexByte l 46 < 0 ∧ cutD l = (l, [], false)) ∨ (∃ i : Nat, Lib.indexByte l 46 = (i : Int) ∧ i < l.length ∧ cutD l = (l.take i, l.drop (i + 1), true))
  | [] => .inl ⟨by simp [Lib.indexByte], rfl⟩
  | c :: r => by
    unfold cutD Lib.indexByte
    by_cases h : c = 46
    · exact .inr ⟨0, by simp [h], by simp, by simp [h]⟩
    · rcases cutD_index r with ⟨h1, h2⟩ | ⟨i, h1, h2, h3⟩
      · refine .inl ⟨?_, ?_⟩
        · simp [h]; omega
        · simp [h, h2]
      · refine .inr ⟨i + 1, ?_, by simp; omega, ?_⟩
        · simp [h]; omega
        · simp [h, h3]

theorem slice_from (l : List UInt8) (i : Nat) : ({ data := l.toArray } : ByteArray).extract i l.length = { data := (l.drop i).toArray } := Str.ext (by
  rw [Str.extract_toList, List.toList_toArray, List.toList_toArray, List.take_of_length_le (Nat.le_refl _)])
theorem slice_upto (l : List UInt8) (i : Nat) : ({ data := l.toArray } : ByteArray).extract 0 i = { data := (l.take i).toArray } := Str.ext (by
  rw [Str.extract_toList, List.toList_toArray, List.toList_toArray, List.drop_zero])

set_option maxRecDepth 100000 in
set_option maxHeartbeats 2000000 in
theorem lite_any (l : List UInt8) (w : World) (hl : l.length ≤ 1099511627776) :
    Calls Try.prog 100 #[.string ⟨l.toArray⟩, .string ⟨#[46]⟩] w fun e w' => e = .returned (.tuple #[.string ⟨(cutD l).1.toArray⟩, .string ⟨(cutD l).2.1.toArray⟩, .bool (cutD l).2.2]) ∧ Below w.heap.size w w' := by
  have hsz := Str.size_mk l
  have C := Lib.hid (fun w => Try.stringslite_Index_one ⟨l.toArray⟩ 46 w)
  rcases cutD_index l with ⟨h1, h2⟩ | ⟨i, h1, h2, h3⟩
  · rw [h2]
    simp only at C
    generalize Lib.indexByte l 46 = n at C h1
    have hd : decide (n ≥ 0) = false := decide_eq_false (by omega)
    have hd' : decide (0 ≤ n) = false := decide_eq_false (by omega)
    clear h2
    go_enter Try.func100, Try.ntmps100
    go_wp2_with fail
    refine (C.out _).mono ?_
    rintro e w' ⟨rfl, rfl⟩
    go_wp2
    go_ret3
    exact ⟨rfl, Below.refl _ _⟩
  · rw [h3]
    simp only at C
    rw [h1] at C
    have hd : decide ((i : Int) ≥ 0) = true := decide_eq_true (by omega)
    have hs1 := slice_upto l i
    have hs2 := slice_from l (i + 1)
    have hw : IntKind.i64.wrap ((i : Int) + 1) = (i : Int) + 1 := by rw [IntKind.wrap_i64]; omega
    have hi0 : (0 : Int) ≤ (i : Int) := by omega
    have hi1 : (i : Int) ≤ (l.length : Int) := by omega
    have hi2 : (i : Int) + 1 ≤ (l.length : Int) := by omega
    have hi3 : (0 : Int) ≤ (i : Int) + 1 := by omega
    clear h1 h3
    go_enter Try.func100, Try.ntmps100
    go_wp2_with fail
    refine (C.out _).mono ?_
    rintro e w' ⟨rfl, rfl⟩
    go_wp2_with fail
    go_region
    go_wp2
    go_ret3
    exact ⟨rfl, Below.drew (Below.refl _ _)⟩

theorem cut_any (l : List UInt8) (w : World) (hl : l.length ≤ 1099511627776) :
    Calls Try.prog 94 #[.string ⟨l.toArray⟩, .string ⟨#[46]⟩] w fun e w' => e = .returned (.tuple #[.string ⟨(cutD l).1.toArray⟩, .string ⟨(cutD l).2.1.toArray⟩, .bool (cutD l).2.2]) ∧ Below w.heap.size w w' := by
  have C := Lib.hid (fun w => lite_any l w hl)
  go_enter Try.func94, Try.ntmps94
  go_wp2_with fail
  refine (C.out _).mono ?_
  rintro e w' ⟨rfl, hb⟩
  go_wp2
  go_ret3
  exact ⟨rfl, hb⟩

end Path
end Go.Proofs.Ytcbnkncgacbniaa

namespace Go.Proofs.Ytcbnkncgacbniaa
namespace Path
open Go.RowKit Go.Shelf
attribute [local go_sem] Oper.semAt_some

/-- What the iterator yields of figures: up to the first that is no number. -/
def ys : List (List UInt8) → List Nat
  | [] => []
  | f :: r => num1 f :: (if num1 f = 0 then [] else ys r)
theorem ys_length : ∀ l, (ys l).length ≤ l.length
  | [] => by simp [ys]
  | f :: r => by
    have := ys_length r
    unfold ys
    split
    · simp
    · simp only [List.length_cons]; omega

def mOf (a b : Value) : Nat := (match a with | .string s => s.size | _ => 0) + (match b with | .bool true => 1 | _ => 0)
theorem mOf_eq (l : List UInt8) (b : Bool) : mOf (.string ⟨l.toArray⟩) (.bool b) = l.length + (if b then 1 else 0) := by
  rw [← Str.size_mk l]; cases b <;> rfl

theorem grown_of {A B : World} (h : Below A.heap.size A B) : A.grownBy B none := ⟨h.os, h.tape, h.output, h.size, fun k hk _ => h.block k hk⟩

set_option maxRecDepth 100000 in
set_option maxHeartbeats 2000000 in
theorem numbers_stops (n : Nat) (hn : 3 ≤ n) (p : List UInt8) (hp : p.length ≤ 1099511627776) (b : Nat) (w : World) (hb : b < w.heap.size) (hc : w.cell? ⟨b, 0, none⟩ = some (.string ⟨p.toArray⟩)) :
    SeqStops Fence.wide n Try.prog 93 #[.pointer (some ⟨b, 0, none⟩)] (fun x : Nat => Value.int .i64 (x : Int)) (fun xs => xs = ys (figs p)) (fun pre => pre ≠ [] ∧ pre <+: ys (figs p)) (p.length + 1) w := fun l J Jx W hW hJ _ hY h0 => by
  have hcW := (hW.cell (p := ⟨b, 0, none⟩) hb).trans hc
  refine callsIn_of_wp Try.func93 rfl trivial ?_ rfl
  simp only [Try.ntmps93, List.size_toArray, List.length_cons, List.length_nil, Nat.reduceAdd, Nat.reduceSub, Array.replicate_succ, Array.replicate_zero, List.push_toArray, List.append_toArray, List.nil_append, List.cons_append]
  gi_wp2_with fail
  gi_loopw [3, 4] (fun lv mv wr => ∃ (pre : List Nat) (left : List UInt8) (more : Bool), lv = .string ⟨left.toArray⟩ ∧ mv = .bool more ∧ Hid (pre ++ ys (if more then figs left else []) = ys (figs p)) ∧ left.length ≤ p.length ∧ J pre wr) (fun lv mv _ => mOf lv mv)
  case atStart => exact ⟨[], p, true, rfl, rfl, Lib.hid rfl, Nat.le_refl _, h0⟩
  case round =>
    obtain ⟨pre, left, more, rfl, rfl, HI, hlp, hj⟩ := hrel
    cases more with
    | false =>
      gi_wp2
      go_end0
      have hi := HI.out
      simp only [Bool.false_eq_true, if_false, ys, List.append_nil] at hi
      exact ⟨⟨_, rfl⟩, .inl ⟨pre, hi, hj⟩⟩
    | true =>
      gi_wp2_with fail
      refine ⟨trivial, fun _ => by omega, (callsIn_wide.2 (cut_any left _ (by omega))).mono ?_⟩
      rintro e w2 ⟨rfl, hb2⟩
      have hj2 : J pre w2 := hJ _ _ _ none hj (grown_of hb2) (fun r e => by cases e)
      have hf := figs_cut left
      have hlc := cutD_length left
      obtain ⟨⟨fg, lf, mr⟩, hcd⟩ : ∃ r, cutD left = r := ⟨_, rfl⟩
      rw [hcd] at hf hlc ⊢
      simp only at hf hlc
      have hi := HI.out
      rw [show (if True then figs left else []) = figs left from if_pos trivial, hf, ys] at hi
      have hnl := num1_le fg
      obtain ⟨m, hm⟩ : ∃ m, m = num1 fg := ⟨_, rfl⟩
      rw [← hm] at hi hnl
      have HM := Lib.hid hm
      have HI2 := Lib.hid hi
      have HL := Lib.hid hlc.2.2
      have hlen : pre.length < p.length + 1 := by
        have h1 := congrArg List.length hi
        have h2 := ys_length (figs p)
        have h3 := figs_length p
        simp only [List.length_append, List.length_cons] at h1
        omega
      obtain ⟨hl1, hl2, _⟩ := hlc
      clear hi hf hcd hm HI
      gi_wp2_with fail
      refine ⟨trivial, fun _ => by omega, (callsIn_wide.2 (number_any fg _ (by omega))).mono ?_⟩
      rintro e w3 ⟨rfl, rfl⟩
      rw [← HM.out]
      obtain ⟨fn, tmps, assign, body, hy, hR⟩ := hY pre m w2 hj2 hlen
      gi_wp2_with fail
      refine ⟨fun _ => by omega, hR.mono ?_⟩
      rintro e w4 (⟨rfl, hJ4, _⟩ | ⟨rfl, hx4⟩)
      · by_cases hm0 : m = 0
        · have hb0 : ((m : Int) == 0) = true := by rw [beq_iff_eq]; omega
          gi_wp2
          refine bodyPost_ret (results_none rfl _ _ _) rfl ?_
          have hi := HI2.out
          rw [if_pos hm0] at hi
          exact ⟨⟨_, rfl⟩, .inl ⟨_, hi, hJ4⟩⟩
        · have hb0 : ((m : Int) == 0) = false := by rw [beq_eq_false_iff_ne]; omega
          gi_wp2
          have hi := HI2.out
          rw [if_neg hm0] at hi
          refine ⟨⟨pre ++ [m], lf, mr, rfl, rfl, Lib.hid (by rw [List.append_assoc]; exact hi), by omega, hJ4⟩, ?_⟩
          rw [mOf_eq, mOf_eq]
          cases mr
          · simp; omega
          · have := HL.out rfl; simp; omega
      · gi_wp2
        refine bodyPost_ret (results_none rfl _ _ _) rfl ?_
        have hi := HI2.out
        refine ⟨⟨_, rfl⟩, .inr ⟨pre ++ [m], ⟨by simp, ?_⟩, hx4⟩⟩
        rw [← hi]
        exact ⟨if m = 0 then [] else ys (if mr = true then figs lf else []), by rw [List.append_assoc]; rfl⟩

end Path
end Go.Proofs.Ytcbnkncgacbniaa

namespace Go.Proofs.Ytcbnkncgacbniaa
namespace Path
open Go.RowKit Go.Shelf
attribute [local go_sem] Oper.semAt_some

theorem numbers_w (p : List UInt8) (w : World) :
    Calls Try.prog 77 #[.string ⟨p.toArray⟩] w fun e w' => e = .returned (.func (.func 93) #[] #[.pointer (some ⟨w.heap.size, 0, none⟩)]) ∧ w' = w.alloc (.cells #[.string ⟨p.toArray⟩] 9) := by
  have hmf : ∀ (fn : Fn) (first cap : Array Value) (w : World), (Instr.makeFunc fn first cap).run Try.prog w = .ok (.func fn first cap) w := fun _ _ _ _ => rfl
  go_enter Try.func77, Try.ntmps77
  go_wp2
  go_ret
  exact ⟨rfl, rfl⟩

/-- Eight cells that hold numbers. -/
def Arr (W : World) (b : Nat) (l : List Nat) : Prop := ∀ j, j < 8 → W.cell? ⟨b, j, none⟩ = some (.int .i64 ((l.getD j 0 : Nat) : Int)) ∧ W.frozen? ⟨b, j, none⟩ = false
def One (W : World) (b : Nat) (n : Nat) : Prop := W.cell? ⟨b, 0, none⟩ = some (.int .i64 (n : Int)) ∧ W.frozen? ⟨b, 0, none⟩ = false

theorem Arr.lt {W : World} {b : Nat} {l : List Nat} (h : Arr W b l) : b < W.heap.size := World.block_lt_of_cell? W ⟨b, 0, none⟩ (h 0 (by decide)).1
theorem One.lt {W : World} {b n : Nat} (h : One W b n) : b < W.heap.size := World.block_lt_of_cell? W ⟨b, 0, none⟩ h.1
theorem Arr.below {W W' : World} {b : Nat} {l : List Nat} (h : Arr W b l) (k : Below W.heap.size W W') : Arr W' b l := fun j hj =>
  ⟨(k.cell (p := ⟨b, j, none⟩) h.lt).trans (h j hj).1, (k.frozen (p := ⟨b, j, none⟩) h.lt).trans (h j hj).2⟩
theorem One.below {W W' : World} {b n : Nat} (h : One W b n) (k : Below W.heap.size W W') : One W' b n :=
  ⟨(k.cell (p := ⟨b, 0, none⟩) h.lt).trans h.1, (k.frozen (p := ⟨b, 0, none⟩) h.lt).trans h.2⟩
theorem cell_set (W : World) (a c : Addr) (v u : Value) (h : W.cell? c = some u) : (W.setCell a v).cell? c = if a = c then some v else some u := by
  split
  · rename_i e; subst e; exact World.cell?_setCell_same _ _ _ h
  · rename_i e; rw [World.cell?_setCell_other _ _ _ _ e]; exact h
def ArrF (W : World) (b : Nat) (f : Nat → Int) : Prop := ∀ j, j < 8 → W.cell? ⟨b, j, none⟩ = some (.int .i64 (f j)) ∧ W.frozen? ⟨b, j, none⟩ = false
theorem Arr.f {W : World} {b : Nat} {l : List Nat} (h : Arr W b l) : ArrF W b (fun j => ((l.getD j 0 : Nat) : Int)) := h
theorem ArrF.set {W : World} {b : Nat} {f : Nat → Int} (h : ArrF W b f) (k : Nat) (v : Int) : ArrF (W.setCell ⟨b, k, none⟩ (.int .i64 v)) b (fun j => if k = j then v else f j) := fun j hj => by
  obtain ⟨h1, h2⟩ := h j hj
  refine ⟨?_, by rw [World.frozen?_setCell]; exact h2⟩
  rw [cell_set _ _ _ _ _ h1]
  by_cases e : k = j
  · subst e; simp
  · rw [if_neg (fun h => e (by injection h))]; simp only [if_neg e]
theorem ArrF.other {W : World} {b : Nat} {f : Nat → Int} (h : ArrF W b f) (a : Addr) (v : Value) (ha : a.block ≠ b) : ArrF (W.setCell a v) b f := fun j hj => by
  obtain ⟨h1, h2⟩ := h j hj
  refine ⟨?_, by rw [World.frozen?_setCell]; exact h2⟩
  rw [cell_set _ _ _ _ _ h1, if_neg (by intro e; subst e; exact ha rfl)]
theorem Arr.of {W : World} {b : Nat} {f : Nat → Int} {l : List Nat} (h : ArrF W b f) (e : ∀ j, j < 8 → f j = ((l.getD j 0 : Nat) : Int)) : Arr W b l := fun j hj => by
  rw [← e j hj]; exact h j hj
theorem One.set {W : World} {b n : Nat} (h : One W b n) (m : Nat) : One (W.setCell ⟨b, 0, none⟩ (.int .i64 (m : Int))) b m :=
  ⟨World.cell?_setCell_same _ _ _ h.1, by rw [World.frozen?_setCell]; exact h.2⟩
theorem One.other {W : World} {b n : Nat} (h : One W b n) (a : Addr) (v : Value) (ha : a.block ≠ b) : One (W.setCell a v) b n :=
  ⟨by rw [cell_set _ _ _ _ _ h.1, if_neg (by intro e; subst e; exact ha rfl)], by rw [World.frozen?_setCell]; exact h.2⟩
/-- Eight cells are brought to eight values. -/
def put8 (W : World) (b : Nat) (v0 v1 v2 v3 v4 v5 v6 v7 : Int) : World :=
  (((((((W.setCell ⟨b, 0, none⟩ (.int .i64 v0)).setCell ⟨b, 1, none⟩ (.int .i64 v1)).setCell ⟨b, 2, none⟩ (.int .i64 v2)).setCell ⟨b, 3, none⟩ (.int .i64 v3)).setCell ⟨b, 4, none⟩ (.int .i64 v4)).setCell ⟨b, 5, none⟩ (.int .i64 v5)).setCell ⟨b, 6, none⟩ (.int .i64 v6)).setCell ⟨b, 7, none⟩ (.int .i64 v7)
theorem put8_arr {W : World} {b : Nat} {f : Nat → Int} (h : ArrF W b f) (v0 v1 v2 v3 v4 v5 v6 v7 : Int) (l : List Nat)
    (e : ((l.getD 0 0 : Nat) : Int) = v0 ∧ ((l.getD 1 0 : Nat) : Int) = v1 ∧ ((l.getD 2 0 : Nat) : Int) = v2 ∧ ((l.getD 3 0 : Nat) : Int) = v3 ∧ ((l.getD 4 0 : Nat) : Int) = v4 ∧ ((l.getD 5 0 : Nat) : Int) = v5 ∧ ((l.getD 6 0 : Nat) : Int) = v6 ∧ ((l.getD 7 0 : Nat) : Int) = v7) : Arr (put8 W b v0 v1 v2 v3 v4 v5 v6 v7) b l := by
  refine Arr.of ((((((((h.set 0 v0).set 1 v1).set 2 v2).set 3 v3).set 4 v4).set 5 v5).set 6 v6).set 7 v7) fun j hj => ?_
  obtain ⟨e0, e1, e2, e3, e4, e5, e6, e7⟩ := e
  match j, hj with
  | 0, _ => simp only [e0]; rfl
  | 1, _ => simp only [e1]; rfl
  | 2, _ => simp only [e2]; rfl
  | 3, _ => simp only [e3]; rfl
  | 4, _ => simp only [e4]; rfl
  | 5, _ => simp only [e5]; rfl
  | 6, _ => simp only [e6]; rfl
  | 7, _ => simp only [e7]; rfl
theorem put8_one {W : World} {b c n : Nat} (h : One W c n) (hc : b ≠ c) (v0 v1 v2 v3 v4 v5 v6 v7 : Int) : One (put8 W b v0 v1 v2 v3 v4 v5 v6 v7) c n :=
  (((((((h.other _ _ hc).other _ _ hc).other _ _ hc).other _ _ hc).other _ _ hc).other _ _ hc).other _ _ hc).other _ _ hc
theorem put8_keeps (W : World) (b : Nat) (v0 v1 v2 v3 v4 v5 v6 v7 : Int) : KeepsOthers W (put8 W b v0 v1 v2 v3 v4 v5 v6 v7) :=
  (((((((KeepsOthers.setCell _ _ _).trans (KeepsOthers.setCell _ _ _)).trans (KeepsOthers.setCell _ _ _)).trans (KeepsOthers.setCell _ _ _)).trans (KeepsOthers.setCell _ _ _)).trans (KeepsOthers.setCell _ _ _)).trans (KeepsOthers.setCell _ _ _)).trans (KeepsOthers.setCell _ _ _)
theorem put8_below {w W : World} {b : Nat} (h : Below w.heap.size w W) (hb : w.heap.size ≤ b) (v0 v1 v2 v3 v4 v5 v6 v7 : Int) : Below w.heap.size w (put8 W b v0 v1 v2 v3 v4 v5 v6 v7) :=
  bset (bset (bset (bset (bset (bset (bset (bset h hb _) hb _) hb _) hb _) hb _) hb _) hb _) hb _
theorem Arr.put {W : World} {b D : Nat} {l : List Nat} (h : Arr W b l) (hK : W.heap[D]? = some (.deferred (some []))) : Arr (W.putObj D (.deferred none)) b l := fun j hj =>
  ⟨cell_kept (h j hj).1 (grownBy_putObj' _ D (.deferred none)) (fun r e => by cases e; exact ⟨_, hK, rfl⟩), (frozen_kept (h j hj).1 (grownBy_putObj' _ D (.deferred none)) (fun r e => by cases e; exact ⟨_, hK, rfl⟩)).trans (h j hj).2⟩
theorem One.put {W : World} {b D n : Nat} (h : One W b n) (hK : W.heap[D]? = some (.deferred (some []))) : One (W.putObj D (.deferred none)) b n :=
  ⟨cell_kept h.1 (grownBy_putObj' _ D (.deferred none)) (fun r e => by cases e; exact ⟨_, hK, rfl⟩), (frozen_kept h.1 (grownBy_putObj' _ D (.deferred none)) (fun r e => by cases e; exact ⟨_, hK, rfl⟩)).trans h.2⟩
theorem drew_heap {W : World} {D : Nat} {o : Option Obj} (h : W.heap[D]? = o) : W.drew.heap[D]? = o := h
theorem Arr.drew {W : World} {b : Nat} {l : List Nat} (h : Arr W b l) : Arr W.drew b l := h.below (Below.drew (Below.refl _ _))
theorem One.drew {W : World} {b n : Nat} (h : One W b n) : One W.drew b n := h.below (Below.drew (Below.refl _ _))
/-- A path's numbers; none: it is no path. -/
def parse (p : List UInt8) : List Nat := if (∀ x ∈ ys (figs p), x ≠ 0) ∧ (ys (figs p)).length ≤ 8 ∧ (ys (figs p)).getD 0 0 = 1 then ys (figs p) else []
def arr8 (l : List Nat) : Value := .agg #[.int .i64 (l.getD 0 0 : Nat), .int .i64 (l.getD 1 0 : Nat), .int .i64 (l.getD 2 0 : Nat), .int .i64 (l.getD 3 0 : Nat), .int .i64 (l.getD 4 0 : Nat), .int .i64 (l.getD 5 0 : Nat), .int .i64 (l.getD 6 0 : Nat), .int .i64 (l.getD 7 0 : Nat)]
def zeros : Array Value := #[.int .i64 0, .int .i64 0, .int .i64 0, .int .i64 0, .int .i64 0, .int .i64 0, .int .i64 0, .int .i64 0]
theorem Arr.new (w : World) (t : TypeId) (b : Nat) (hb : b = w.heap.size) : Arr (w.alloc (.cells zeros t)) b [] := by
  subst hb
  intro j hj
  refine ⟨?_, World.frozen?_alloc_at _ _ _ _ (by simp)⟩
  rw [World.cell?_alloc_new]
  match j, hj with
  | 0, _ | 1, _ | 2, _ | 3, _ | 4, _ | 5, _ | 6, _ | 7, _ => rfl
theorem box_new (w : World) (v : Value) (t : TypeId) (b : Nat) (hb : b = w.heap.size) : (w.alloc (.cells #[v] t)).cell? ⟨b, 0, none⟩ = some v := by
  subst hb; rw [World.cell?_alloc_new]; rfl
theorem One.new (w : World) (t : TypeId) (b : Nat) (hb : b = w.heap.size) : One (w.alloc (.cells #[.int .i64 0] t)) b 0 := by
  subst hb
  exact ⟨by rw [World.cell?_alloc_new]; rfl, World.frozen?_alloc_at _ _ _ _ (by simp)⟩

set_option maxRecDepth 100000 in
set_option maxHeartbeats 1000000 in
theorem split_in (p : List UInt8) (w : World) (hp : p.length ≤ 1099511627776) :
    CallsIn Fence.wide 10 Try.prog 61 #[.string ⟨p.toArray⟩] w fun e w' => e = .returned (.tuple #[arr8 (parse p), .int .i64 ((parse p).length : Nat)]) ∧ Below w.heap.size w w' := by
  refine callsIn_of_wp_marks Try.func61 rfl trivial ?_ rfl
  simp only [Try.ntmps61, List.size_toArray, List.length_cons, List.length_nil, Nat.reduceAdd, Nat.reduceSub, Array.replicate_succ, Array.replicate_zero, List.push_toArray, List.append_toArray, List.nil_append, List.cons_append]
  gi_wp2_with fail
  refine ⟨trivial, (callsIn_wide.2 (numbers_w p _)).mono ?_⟩
  rintro e w1 ⟨rfl, rfl⟩
  gi_wp2_with fail
  obtain ⟨W0, hW0⟩ : ∃ W0, (((w.alloc (.cells zeros 92)).alloc (.cells #[.int .i64 0] 3)).alloc (.cells zeros 92)).alloc (.cells #[.string ⟨p.toArray⟩] 9) = W0 := ⟨_, rfl⟩
  have hB0 : Below w.heap.size w W0 := by rw [← hW0]; exact balloc (balloc (balloc (balloc (Below.refl _ _) _) _) _) _
  have hA0 : Arr W0 w.heap.size [] := by
    rw [← hW0]
    exact (((Arr.new w 92 _ rfl).below (balloc (Below.refl _ _) _)).below (balloc (Below.refl _ _) _)).below (balloc (Below.refl _ _) _)
  have hD0 : One W0 (w.heap.size + 1) 0 := by
    rw [← hW0]
    exact ((One.new _ 3 _ (by simp)).below (balloc (Below.refl _ _) _)).below (balloc (Below.refl _ _) _)
  have hN0 : Arr W0 (w.heap.size + 1 + 1) [] := by
    rw [← hW0]
    exact (Arr.new _ 92 _ (by simp)).below (balloc (Below.refl _ _) _)
  have hc0 : W0.cell? ⟨w.heap.size + 1 + 1 + 1, 0, none⟩ = some (.string ⟨p.toArray⟩) := by rw [← hW0]; exact box_new _ _ _ _ (by simp)
  have hs0 : W0.heap.size = w.heap.size + 1 + 1 + 1 + 1 := by rw [← hW0]; simp
  unfold zeros at hW0
  rw [hW0]
  clear hW0
  refine wpIn_rangeFunc_ownF (α := Nat) (encs := fun x => #[Value.int .i64 (x : Int)]) (Kp := KeepsWalks) rfl (by decide) (gf := 93) (lb := #[.pointer (some ⟨w.heap.size + 1 + 1 + 1, 0, none⟩)]) rfl trivial (enters_of Try.func93 (by kernel_rfl) rfl)
    (numbers_stops 9 (by decide) p hp (w.heap.size + 1 + 1 + 1) W0 (by omega) hc0) walksK_t walksK_b (Below.refl _ _) (fun _ => rfl)
    (fun pre W => (Arr W w.heap.size pre ∧ One W (w.heap.size + 1) pre.length ∧ Arr W (w.heap.size + 1 + 1) [] ∧ (∀ x ∈ pre, x ≠ 0) ∧ pre.length ≤ 8) ∧ Below w.heap.size w W)
    (fun c pre W => (c = .ret ∧ Arr W w.heap.size [] ∧ One W (w.heap.size + 1) 0 ∧ (0 ∈ pre ∨ 8 < pre.length)) ∧ Below w.heap.size w W)
    (OwnFrom.and (Own.from (fun s A B row hs hg hr => ⟨fun j hj => ⟨cell_kept (hs.1 j hj).1 hg hr, (frozen_kept (hs.1 j hj).1 hg hr).trans (hs.1 j hj).2⟩, ⟨cell_kept hs.2.1.1 hg hr, (frozen_kept hs.2.1.1 hg hr).trans hs.2.1.2⟩, fun j hj => ⟨cell_kept (hs.2.2.1 j hj).1 hg hr, (frozen_kept (hs.2.2.1 j hj).1 hg hr).trans (hs.2.2.1 j hj).2⟩, hs.2.2.2⟩) _) (ownFrom_below (Nat.le_refl _) (by omega)))
    (fun c => OwnFrom.and (Own.from (fun s A B row hs hg hr => ⟨hs.1, fun j hj => ⟨cell_kept (hs.2.1 j hj).1 hg hr, (frozen_kept (hs.2.1 j hj).1 hg hr).trans (hs.2.1 j hj).2⟩, ⟨cell_kept hs.2.2.1.1 hg hr, (frozen_kept hs.2.2.1.1 hg hr).trans hs.2.2.1.2⟩, hs.2.2.2⟩) _) (ownFrom_below (Nat.le_refl _) (by omega)))
    ⟨⟨hA0, hD0, hN0, by simp, by simp⟩, hB0⟩
    (fun x => { tmps := #[.string ⟨p.toArray⟩, undef, .pointer (some ⟨w.heap.size, 0, none⟩), .pointer (some ⟨w.heap.size + 1, 0, none⟩), .pointer (some ⟨w.heap.size + 1 + 1, 0, none⟩), .int .i64 (x : Int), .string ⟨p.toArray⟩, .func (.func 93) #[] #[.pointer (some ⟨w.heap.size + 1 + 1 + 1, 0, none⟩)], .int .i64 (x : Int), undef, undef, undef, undef, undef, undef, undef, undef, undef, undef, undef, undef, undef, undef, undef, undef, undef, undef], defers := [] }) ?assign ?body ?done ?stop
  case assign =>
    intro l x W K hK
    gi_wp2
    exact hK
  case body =>
    rintro l pre x W ⟨⟨hA, hD, hN, hne, hlen⟩, hB⟩ _
    have qA := hA.lt
    have qD := hD.lt
    have qN := hN.lt
    have n0 : W.cell? ⟨w.heap.size + 1 + 1, 0, none⟩ = some (.int .i64 0) := (hN 0 (by decide)).1
    have fa0 := (hA 0 (by decide)).2
    have n1 : W.cell? ⟨w.heap.size + 1 + 1, 1, none⟩ = some (.int .i64 0) := (hN 1 (by decide)).1
    have fa1 := (hA 1 (by decide)).2
    have n2 : W.cell? ⟨w.heap.size + 1 + 1, 2, none⟩ = some (.int .i64 0) := (hN 2 (by decide)).1
    have fa2 := (hA 2 (by decide)).2
    have n3 : W.cell? ⟨w.heap.size + 1 + 1, 3, none⟩ = some (.int .i64 0) := (hN 3 (by decide)).1
    have fa3 := (hA 3 (by decide)).2
    have n4 : W.cell? ⟨w.heap.size + 1 + 1, 4, none⟩ = some (.int .i64 0) := (hN 4 (by decide)).1
    have fa4 := (hA 4 (by decide)).2
    have n5 : W.cell? ⟨w.heap.size + 1 + 1, 5, none⟩ = some (.int .i64 0) := (hN 5 (by decide)).1
    have fa5 := (hA 5 (by decide)).2
    have n6 : W.cell? ⟨w.heap.size + 1 + 1, 6, none⟩ = some (.int .i64 0) := (hN 6 (by decide)).1
    have fa6 := (hA 6 (by decide)).2
    have n7 : W.cell? ⟨w.heap.size + 1 + 1, 7, none⟩ = some (.int .i64 0) := (hN 7 (by decide)).1
    have fa7 := (hA 7 (by decide)).2
    have ca0 := (hA 0 (by decide)).1
    have ca1 := (hA 1 (by decide)).1
    have ca2 := (hA 2 (by decide)).1
    have ca3 := (hA 3 (by decide)).1
    have ca4 := (hA 4 (by decide)).1
    have ca5 := (hA 5 (by decide)).1
    have ca6 := (hA 6 (by decide)).1
    have ca7 := (hA 7 (by decide)).1
    obtain ⟨hd1, hd2⟩ := id hD
    by_cases hx : x = 0
    · have hb0 : ((x : Int) == 0) = true := by rw [beq_iff_eq]; omega
      gi_wp2
      change ownPostK _ _ _ _ _ _ _ ((put8 W w.heap.size 0 0 0 0 0 0 0 0).setCell ⟨w.heap.size + 1, 0, none⟩ (.int .i64 0))
      have hz := put8_arr hA.f 0 0 0 0 0 0 0 0 [] (by simp)
      have ho := put8_one hD (b := w.heap.size) (by omega) 0 0 0 0 0 0 0 0
      exact ⟨(put8_keeps _ _ _ _ _ _ _ _ _ _).trans (KeepsOthers.setCell _ _ _), ⟨rfl, Arr.of (hz.f.other _ _ (by simp)) (fun _ _ => rfl), ho.set 0, .inl (by simp [hx])⟩, bset (put8_below hB (Nat.le_refl _) _ _ _ _ _ _ _ _) (by simp) _⟩
    · have hb0 : ((x : Int) == 0) = false := by rw [beq_eq_false_iff_ne]; omega
      by_cases h8 : pre.length = 8
      · have hb8 : ((pre.length : Int) == 8) = true := by rw [beq_iff_eq]; omega
        gi_wp2
        change ownPostK _ _ _ _ _ _ _ ((put8 W w.heap.size 0 0 0 0 0 0 0 0).setCell ⟨w.heap.size + 1, 0, none⟩ (.int .i64 0))
        have hz := put8_arr hA.f 0 0 0 0 0 0 0 0 [] (by simp)
        have ho := put8_one hD (b := w.heap.size) (by omega) 0 0 0 0 0 0 0 0
        exact ⟨(put8_keeps _ _ _ _ _ _ _ _ _ _).trans (KeepsOthers.setCell _ _ _), ⟨rfl, Arr.of (hz.f.other _ _ (by simp)) (fun _ _ => rfl), ho.set 0, .inr (by simp; omega)⟩, bset (put8_below hB (Nat.le_refl _) _ _ _ _ _ _ _ _) (by simp) _⟩
      · have hb8 : ((pre.length : Int) == 8) = false := by rw [beq_eq_false_iff_ne]; omega
        have hk0 : (0 : Int) ≤ (pre.length : Int) := by omega
        have hk8 : (pre.length : Int) < 8 := by omega
        have hw : IntKind.i64.wrap ((pre.length : Int) + 1) = (pre.length : Int) + 1 := by rw [IntKind.wrap_i64]; omega
        have ca := (hA pre.length (by omega)).1
        have fa := (hA pre.length (by omega)).2
        gi_wp2
        refine ⟨(KeepsOthers.setCell _ _ _).trans (KeepsOthers.setCell _ _ _), ((KeepsOthers.setCell _ _ _).trans (KeepsOthers.setCell _ _ _)).walks, ⟨?_, ?_, ?_, ?_, ?_⟩, bset (bset hB (by simp) _) (by simp) _⟩
        · refine Arr.of ((hA.f.set pre.length (x : Int)).other _ _ (by simp)) fun j hj => ?_
          by_cases e : pre.length = j
          · subst e; simp
          · simp only [if_neg e]
            by_cases e2 : j < pre.length
            · rw [List.getD_eq_getElem?_getD, List.getD_eq_getElem?_getD, List.getElem?_append_left e2]
            · rw [List.getD_eq_getElem?_getD, List.getD_eq_getElem?_getD, List.getElem?_eq_none (by omega), List.getElem?_eq_none (by simp; omega)]
        · have := (hD.other ⟨w.heap.size, pre.length, none⟩ (.int .i64 (x : Int)) (by simp)).set (pre ++ [x]).length
          simpa using this
        · exact Arr.of ((hN.f.other _ _ (by simp; omega)).other _ _ (by simp)) (fun _ _ => rfl)
        · intro y hy
          rcases List.mem_append.1 hy with h | h
          · exact hne y h
          · simp at h; rw [h]; exact hx
        · simp; omega
  case done =>
    rintro D xs W hD hxs ⟨⟨hA, hDp, hN, hne, hlen⟩, hB⟩ hK
    have qA := hA.lt
    have qD := hDp.lt
    have qN := hN.lt
    obtain ⟨hd1, hd2⟩ := id hDp
    obtain ⟨x0, ex0⟩ : ∃ x : Nat, x = xs.getD 0 0 := ⟨_, rfl⟩
    have cx0 := (hA 0 (by decide)).1
    have fx0 := (hA 0 (by decide)).2
    rw [← ex0] at cx0
    obtain ⟨x1, ex1⟩ : ∃ x : Nat, x = xs.getD 1 0 := ⟨_, rfl⟩
    have cx1 := (hA 1 (by decide)).1
    have fx1 := (hA 1 (by decide)).2
    rw [← ex1] at cx1
    obtain ⟨x2, ex2⟩ : ∃ x : Nat, x = xs.getD 2 0 := ⟨_, rfl⟩
    have cx2 := (hA 2 (by decide)).1
    have fx2 := (hA 2 (by decide)).2
    rw [← ex2] at cx2
    obtain ⟨x3, ex3⟩ : ∃ x : Nat, x = xs.getD 3 0 := ⟨_, rfl⟩
    have cx3 := (hA 3 (by decide)).1
    have fx3 := (hA 3 (by decide)).2
    rw [← ex3] at cx3
    obtain ⟨x4, ex4⟩ : ∃ x : Nat, x = xs.getD 4 0 := ⟨_, rfl⟩
    have cx4 := (hA 4 (by decide)).1
    have fx4 := (hA 4 (by decide)).2
    rw [← ex4] at cx4
    obtain ⟨x5, ex5⟩ : ∃ x : Nat, x = xs.getD 5 0 := ⟨_, rfl⟩
    have cx5 := (hA 5 (by decide)).1
    have fx5 := (hA 5 (by decide)).2
    rw [← ex5] at cx5
    obtain ⟨x6, ex6⟩ : ∃ x : Nat, x = xs.getD 6 0 := ⟨_, rfl⟩
    have cx6 := (hA 6 (by decide)).1
    have fx6 := (hA 6 (by decide)).2
    rw [← ex6] at cx6
    obtain ⟨x7, ex7⟩ : ∃ x : Nat, x = xs.getD 7 0 := ⟨_, rfl⟩
    have cx7 := (hA 7 (by decide)).1
    have fx7 := (hA 7 (by decide)).2
    rw [← ex7] at cx7
    have n0 : W.cell? ⟨w.heap.size + 1 + 1, 0, none⟩ = some (.int .i64 0) := (hN 0 (by decide)).1
    have n1 : W.cell? ⟨w.heap.size + 1 + 1, 1, none⟩ = some (.int .i64 0) := (hN 1 (by decide)).1
    have n2 : W.cell? ⟨w.heap.size + 1 + 1, 2, none⟩ = some (.int .i64 0) := (hN 2 (by decide)).1
    have n3 : W.cell? ⟨w.heap.size + 1 + 1, 3, none⟩ = some (.int .i64 0) := (hN 3 (by decide)).1
    have n4 : W.cell? ⟨w.heap.size + 1 + 1, 4, none⟩ = some (.int .i64 0) := (hN 4 (by decide)).1
    have n5 : W.cell? ⟨w.heap.size + 1 + 1, 5, none⟩ = some (.int .i64 0) := (hN 5 (by decide)).1
    have n6 : W.cell? ⟨w.heap.size + 1 + 1, 6, none⟩ = some (.int .i64 0) := (hN 6 (by decide)).1
    have n7 : W.cell? ⟨w.heap.size + 1 + 1, 7, none⟩ = some (.int .i64 0) := (hN 7 (by decide)).1
    have HEX := Lib.hid (And.intro ex0 (And.intro ex1 (And.intro ex2 (And.intro ex3 (And.intro ex4 (And.intro ex5 (And.intro ex6 ex7)))))))
    have HXS := Lib.hid hxs
    clear ex0 ex1 ex2 ex3 ex4 ex5 ex6 ex7 hxs
    by_cases h1 : x0 = 1
    · have hb1 : ((x0 : Int) == 1) = true := by rw [beq_iff_eq]; omega
      obtain ⟨ex0, ex1, ex2, ex3, ex4, ex5, ex6, ex7⟩ := HEX.out
      have hpar : parse p = xs := by
        rw [parse, ← HXS.out, if_pos ⟨hne, hlen, by rw [← ex0]; exact h1⟩]
      have hz := put8_arr hA.f 1 x1 x2 x3 x4 x5 x6 x7 xs (by rw [← ex0, ex1, ex2, ex3, ex4, ex5, ex6, ex7]; simp [h1])
      have ho := put8_one hDp (b := w.heap.size) (by omega) 1 x1 x2 x3 x4 x5 x6 x7
      have hPAR := Lib.hid hpar
      clear ex0 ex1 ex2 ex3 ex4 ex5 ex6 ex7 hpar
      gi_wp2
      gi_region
      all_goals gi_wp2
      change bodyPostM _ _ _ _ _ _ _ (((put8 W w.heap.size 1 x1 x2 x3 x4 x5 x6 x7).setCell ⟨w.heap.size + 1, 0, none⟩ (.int .i64 (xs.length : Int))).drew)
      have hK2 : (((put8 W w.heap.size 1 x1 x2 x3 x4 x5 x6 x7).setCell ⟨w.heap.size + 1, 0, none⟩ (.int .i64 (xs.length : Int))).drew).heap[D]? = some (.deferred (some [])) := drew_heap (((put8_keeps W w.heap.size 1 x1 x2 x3 x4 x5 x6 x7).trans (KeepsOthers.setCell _ _ _)).same D _ hK rfl)
      refine ⟨by simp, .inl ⟨_, _, rfl, run_takeDeferred hK2, ?_⟩⟩
      have hA9 : Arr ((((put8 W w.heap.size 1 x1 x2 x3 x4 x5 x6 x7).setCell ⟨w.heap.size + 1, 0, none⟩ (.int .i64 (xs.length : Int))).drew).putObj D (.deferred none)) w.heap.size xs := ((Arr.of (hz.f.other ⟨w.heap.size + 1, 0, none⟩ (.int .i64 (xs.length : Int)) (by simp)) (fun _ _ => rfl)).drew).put hK2
      have hD9 : One ((((put8 W w.heap.size 1 x1 x2 x3 x4 x5 x6 x7).setCell ⟨w.heap.size + 1, 0, none⟩ (.int .i64 (xs.length : Int))).drew).putObj D (.deferred none)) (w.heap.size + 1) xs.length := Path.One.put (W := ((put8 W w.heap.size 1 x1 x2 x3 x4 x5 x6 x7).setCell ⟨w.heap.size + 1, 0, none⟩ (.int .i64 (xs.length : Int))).drew) (ho.set xs.length).drew hK2
      have r0 := (hA9 0 (by decide)).1
      have r1 := (hA9 1 (by decide)).1
      have r2 := (hA9 2 (by decide)).1
      have r3 := (hA9 3 (by decide)).1
      have r4 := (hA9 4 (by decide)).1
      have r5 := (hA9 5 (by decide)).1
      have r6 := (hA9 6 (by decide)).1
      have r7 := (hA9 7 (by decide)).1
      have r8 := hD9.1
      rw [hPAR.out]
      refine ⟨_, ?_, rfl, (Below.drew (bset (put8_below hB (Nat.le_refl _) 1 x1 x2 x3 x4 x5 x6 x7) (by simp) _)).trans (belowK_b (w := w) (Nat.le_refl _) _ D _ _ (by omega) hK2 rfl rfl)⟩
      simp [results, Try.f61, go_sem, r0, r1, r2, r3, r4, r5, r6, r7, r8, arr8]
    · have hb1 : ((x0 : Int) == 1) = false := by rw [beq_eq_false_iff_ne]; omega
      have hpar : parse p = [] := by
        rw [parse, ← HXS.out, if_neg (fun h => h1 (by rw [HEX.out.1]; exact h.2.2))]
      have hPAR := Lib.hid hpar
      have hz := put8_arr hA.f 0 0 0 0 0 0 0 0 [] (by simp)
      have ho := put8_one hDp (b := w.heap.size) (by omega) 0 0 0 0 0 0 0 0
      clear hpar
      gi_wp2
      change bodyPostM _ _ _ _ _ _ _ ((put8 W w.heap.size 0 0 0 0 0 0 0 0).setCell ⟨w.heap.size + 1, 0, none⟩ (.int .i64 0))
      have hK2 : ((put8 W w.heap.size 0 0 0 0 0 0 0 0).setCell ⟨w.heap.size + 1, 0, none⟩ (.int .i64 0)).heap[D]? = some (.deferred (some [])) := ((put8_keeps W w.heap.size 0 0 0 0 0 0 0 0).trans (KeepsOthers.setCell _ _ _)).same D _ hK rfl
      refine ⟨by simp, .inl ⟨_, _, rfl, run_takeDeferred hK2, ?_⟩⟩
      have hA9 : Arr (((put8 W w.heap.size 0 0 0 0 0 0 0 0).setCell ⟨w.heap.size + 1, 0, none⟩ (.int .i64 0)).putObj D (.deferred none)) w.heap.size [] := (Arr.of (hz.f.other ⟨w.heap.size + 1, 0, none⟩ (.int .i64 0) (by simp)) (fun _ _ => rfl)).put hK2
      have hD9 : One (((put8 W w.heap.size 0 0 0 0 0 0 0 0).setCell ⟨w.heap.size + 1, 0, none⟩ (.int .i64 0)).putObj D (.deferred none)) (w.heap.size + 1) 0 := Path.One.put (W := (put8 W w.heap.size 0 0 0 0 0 0 0 0).setCell ⟨w.heap.size + 1, 0, none⟩ (.int .i64 0)) (ho.set 0) hK2
      have r0 := (hA9 0 (by decide)).1
      have r1 := (hA9 1 (by decide)).1
      have r2 := (hA9 2 (by decide)).1
      have r3 := (hA9 3 (by decide)).1
      have r4 := (hA9 4 (by decide)).1
      have r5 := (hA9 5 (by decide)).1
      have r6 := (hA9 6 (by decide)).1
      have r7 := (hA9 7 (by decide)).1
      have r8 := hD9.1
      rw [hPAR.out]
      refine ⟨_, ?_, rfl, (bset (put8_below hB (Nat.le_refl _) 0 0 0 0 0 0 0 0) (by simp) _).trans (belowK_b (w := w) (Nat.le_refl _) _ D _ _ (by omega) hK2 rfl rfl)⟩
      simp [results, Try.f61, go_sem, r0, r1, r2, r3, r4, r5, r6, r7, r8, arr8]
  case stop =>
    rintro D c pre W hD hpre ⟨⟨rfl, hA, hDp, hbad⟩, hB⟩ hK
    have hpar : parse p = [] := by
      rw [parse, if_neg]
      rintro ⟨h1, h2, _⟩
      rcases hbad with h | h
      · exact h1 0 (hpre.2.subset h) rfl
      · have := hpre.2.length_le; omega
    gi_wp2
    have hK2 : (W).heap[D]? = some (.deferred (some [])) := hK
    refine ⟨by simp, .inl ⟨_, _, rfl, run_takeDeferred hK2, ?_⟩⟩
    have hA9 : Arr ((W).putObj D (.deferred none)) w.heap.size [] := (hA).put hK2
    have hD9 : One ((W).putObj D (.deferred none)) (w.heap.size + 1) 0 := Path.One.put (W := W) (hDp) hK2
    have r0 := (hA9 0 (by decide)).1
    have r1 := (hA9 1 (by decide)).1
    have r2 := (hA9 2 (by decide)).1
    have r3 := (hA9 3 (by decide)).1
    have r4 := (hA9 4 (by decide)).1
    have r5 := (hA9 5 (by decide)).1
    have r6 := (hA9 6 (by decide)).1
    have r7 := (hA9 7 (by decide)).1
    have r8 := hD9.1
    rw [hpar]
    refine ⟨_, ?_, rfl, (hB).trans (belowK_b (w := w) (Nat.le_refl _) _ D _ _ (by omega) hK2 rfl rfl)⟩
    simp [results, Try.f61, go_sem, r0, r1, r2, r3, r4, r5, r6, r7, r8, arr8]

end Path
end Go.Proofs.Ytcbnkncgacbniaa

namespace Go.Proofs.Ytcbnkncgacbniaa
namespace Path
open Go.RowKit

theorem split_any (p : List UInt8) (w : World) (hp : p.length ≤ 1099511627776) :
    Calls Try.prog 61 #[.string ⟨p.toArray⟩] w fun e w' => e = .returned (.tuple #[arr8 (parse p), .int .i64 ((parse p).length : Nat)]) ∧ Below w.heap.size w w' :=
  callsIn_wide.1 (split_in p w hp)

theorem ys_le : ∀ l, ∀ x ∈ ys l, x ≤ 1073741824
  | [], x, h => by simp [ys] at h
  | f :: r, x, h => by
    unfold ys at h
    rcases List.mem_cons.1 h with h | h
    · rw [h]; exact num1_le f
    · split at h
      · cases h
      · exact ys_le r x h
theorem parse_length (p : List UInt8) : (parse p).length ≤ 8 := by
  unfold parse; split
  · rename_i h; exact h.2.1
  · simp
theorem parse_mem (p : List UInt8) : ∀ x ∈ parse p, 1 ≤ x ∧ x ≤ 1073741824 := by
  intro x hx
  unfold parse at hx
  split at hx
  · rename_i h; exact ⟨by have := h.1 x hx; omega, ys_le _ x hx⟩
  · cases hx

set_option maxRecDepth 100000 in
set_option maxHeartbeats 1000000 in
theorem deep_any (p : List UInt8) (w : World) (hp : p.length ≤ 1099511627776) :
    Calls Try.prog 43 #[.string ⟨p.toArray⟩] w fun e w' => e = .returned (.int .i64 ((parse p).length : Nat)) ∧ Below w.heap.size w w' := by
  have C := Lib.hid (fun w => split_any p w hp)
  go_enter Try.func43, Try.ntmps43
  go_wp2_with fail
  refine (C.out _).mono ?_
  rintro e w1 ⟨rfl, hb⟩
  unfold arr8
  go_wp2
  go_ret
  exact ⟨rfl, balloc hb _⟩

theorem may_any (p : List UInt8) (w : World) (hp : p.length ≤ 1099511627776) :
    Calls Try.prog 33 #[.string ⟨p.toArray⟩] w fun e w' => e = .returned (.bool (decide (0 < (parse p).length))) ∧ Below w.heap.size w w' := by
  have C := Lib.hid (fun w => deep_any p w hp)
  go_enter Try.func33, Try.ntmps33
  go_wp2_with fail
  refine (C.out _).mono ?_
  rintro e w1 ⟨rfl, hb⟩
  go_wp2
  go_ret
  exact ⟨congrArg (fun b => Ending.returned (.bool b)) (by rw [Bool.eq_iff_iff]), hb⟩

/-- A path's last number, of two or more. -/
def last (l : List Nat) : Nat := if l.length < 2 then 0 else l.getD (l.length - 1) 0
end Path
end Go.Proofs.Ytcbnkncgacbniaa

namespace Go.Proofs.Ytcbnkncgacbniaa
namespace Path

theorem dec_snoc : ∀ (l : List UInt8) (c : UInt8) (n : Nat), dec (l ++ [c]) n = match dec l n with
    | none => none
    | some m => if c.toNat < 48 ∨ 57 < c.toNat then none else some (10 * m + (c.toNat - 48))
  | [], c, n => by
    rw [List.nil_append, dec_cons]
    rfl
  | x :: l, c, n => by
    rw [List.cons_append, dec_cons, dec_cons]
    split
    · rfl
    · exact dec_snoc l c _
theorem dig_toNat (d : Nat) (h : d < 10) : (UInt8.ofNat (48 + d)).toNat = 48 + d := by simp; omega
theorem dec_digits (u : Nat) : dec (Lib.decDigits u) 0 = some u := by
  induction u using Nat.strongRecOn with
  | _ u ih =>
    rw [Lib.decDigits]
    split
    · rename_i h
      rw [dec_cons, dig_toNat u h, if_neg (by omega)]
      simp [dec]
    · rename_i h
      rw [dec_snoc, ih (u / 10) (by omega)]
      simp only
      rw [dig_toNat (u % 10) (by omega), if_neg (by omega)]
      congr 1; omega
theorem digits_ne (u : Nat) : Lib.decDigits u ≠ [] := by
  rw [Lib.decDigits]; split <;> simp
theorem digits_head (u : Nat) (h : 1 ≤ u) : (Lib.decDigits u).head? ≠ some 48 := by
  induction u using Nat.strongRecOn with
  | _ u ih =>
    rw [Lib.decDigits]
    split
    · rename_i h9
      rw [List.head?_cons]
      intro e
      have := congrArg UInt8.toNat (Option.some.inj e)
      rw [dig_toNat u h9] at this
      have h48 : (48 : UInt8).toNat = 48 := rfl
      omega
    · rename_i h9
      have := ih (u / 10) (by omega) (by omega)
      cases hd : Lib.decDigits (u / 10) with
      | nil => exact absurd hd (digits_ne _)
      | cons c r => rw [hd] at this; simpa using this
theorem digits_len : ∀ (k u : Nat), 1 ≤ k → u < 10 ^ k → (Lib.decDigits u).length ≤ k
  | 0, _, h, _ => absurd h (by omega)
  | k + 1, u, _, h => by
    rw [Lib.decDigits]
    split
    · simp
    · rename_i h9
      rw [List.length_append, List.length_singleton]
      have : 1 ≤ k := by
        rcases Nat.eq_zero_or_pos k with rfl | h0
        · simp at h; omega
        · exact h0
      have := digits_len k (u / 10) this (by rw [Nat.pow_succ] at h; omega)
      omega
theorem digits_of : ∀ (n : Nat) (f : List UInt8) (x : Nat), f.length ≤ n → f ≠ [] → f.head? ≠ some 48 → dec f 0 = some x → f = Lib.decDigits x ∧ 1 ≤ x
  | 0, f, x, h, h0, _, _ => absurd (List.length_eq_zero_iff.1 (by omega)) h0
  | n + 1, f, x, hl, h0, hh, hd => by
    have hs := List.dropLast_concat_getLast h0
    obtain ⟨g, hg⟩ : ∃ g, g = f.dropLast := ⟨_, rfl⟩
    obtain ⟨c, hc⟩ : ∃ c, c = f.getLast h0 := ⟨_, rfl⟩
    rw [← hg, ← hc] at hs
    have hgl : g.length + 1 = f.length := by rw [← hs]; simp
    rw [← hs, dec_snoc] at hd
    cases hm : dec g 0 with
    | none => rw [hm] at hd; cases hd
    | some m =>
      rw [hm] at hd
      simp only at hd
      split at hd
      · cases hd
      · rename_i hcd
        have hx := Option.some.inj hd
        by_cases hgn : g = []
        · subst hgn
          simp only [dec, Option.some.injEq] at hm
          have h48 : c ≠ 48 := by
            rw [← hs, List.nil_append, List.head?_cons] at hh
            intro e; exact hh (by rw [e])
          have h48' : c.toNat ≠ 48 := fun e => h48 (UInt8.toNat_inj.1 e)
          refine ⟨?_, by omega⟩
          rw [← hs, List.nil_append, Lib.decDigits, dif_pos (by omega)]
          congr 1
          apply UInt8.toNat_inj.1
          rw [dig_toNat x (by omega)]; omega
        · have hgh : g.head? ≠ some 48 := by
            cases g with
            | nil => exact absurd rfl hgn
            | cons y r => rw [← hs] at hh; simpa using hh
          obtain ⟨e1, e2⟩ := digits_of n g m (by omega) hgn hgh hm
          refine ⟨?_, by omega⟩
          rw [← hs, Lib.decDigits, dif_neg (by omega), show x / 10 = m by omega, ← e1]
          congr 2
          apply UInt8.toNat_inj.1
          rw [dig_toNat (x % 10) (by omega)]; omega
theorem dec_all : ∀ (l : List UInt8) (n x : Nat), dec l n = some x → ∀ c ∈ l, 48 ≤ c.toNat ∧ c.toNat ≤ 57
  | [], _, _, _, c, h => by cases h
  | y :: l, n, x, hd, c, h => by
    rw [dec_cons] at hd
    split at hd
    · cases hd
    · rename_i hb
      rcases List.mem_cons.1 h with rfl | h
      · omega
      · exact dec_all l _ x hd c h
theorem num1_digits (x : Nat) (h1 : 1 ≤ x) (h2 : x ≤ 1073741824) : num1 (Lib.decDigits x) = x := by
  have hl := digits_len 10 x (by decide) (by omega)
  rw [num1, if_neg, dec_digits]
  · simp only; rw [if_neg (by omega)]
  · rintro (h | h | h)
    · exact digits_ne x h
    · omega
    · exact digits_head x h1 h
theorem digits_num1 (f : List UInt8) (h : num1 f ≠ 0) : f = Lib.decDigits (num1 f) := by
  unfold num1 at h ⊢
  split at h
  · exact absurd rfl h
  rename_i h1
  rw [if_neg h1]
  split at h
  · exact absurd rfl h
  rename_i x hx
  split at h
  · exact absurd rfl h
  rename_i h2
  rw [if_neg h2]
  exact (digits_of f.length f x (Nat.le_refl _) (fun e => h1 (.inl e)) (fun e => h1 (.inr (.inr e))) hx).1
theorem digits_dot (x : Nat) : ∀ c ∈ Lib.decDigits x, c ≠ 46 := by
  intro c hc e
  have := dec_all _ 0 x (dec_digits x) c hc
  rw [e] at this
  exact absurd this.1 (by decide)

/-- Numbers as a path. -/
def write : List Nat → List UInt8
  | [] => []
  | [x] => Lib.decDigits x
  | x :: y :: r => Lib.decDigits x ++ 46 :: write (y :: r)
def unfigs : List (List UInt8) → List UInt8
  | [] => []
  | [f] => f
  | f :: g :: r => f ++ 46 :: unfigs (g :: r)
theorem write_unfigs : ∀ l, write l = unfigs (l.map Lib.decDigits)
  | [] => rfl
  | [x] => rfl
  | x :: y :: r => by
    have h := write_unfigs (y :: r)
    rw [write, h]; rfl
theorem figs_ne (l : List UInt8) : figs l ≠ [] := by rw [figs_cut]; simp
theorem unfigs_cons (f : List UInt8) (L : List (List UInt8)) (h : L ≠ []) : unfigs (f :: L) = f ++ 46 :: unfigs L := by
  cases L with
  | nil => exact absurd rfl h
  | cons g r => rfl
theorem unfigs_figs : ∀ l : List UInt8, unfigs (figs l) = l
  | [] => rfl
  | c :: r => by
    have ih := unfigs_figs r
    rw [figs_cons]
    by_cases h : c = 46
    · rw [if_pos h, unfigs_cons _ _ (figs_ne r), ih, h]; rfl
    · rw [if_neg h]
      cases hf : figs r with
      | nil => exact absurd hf (figs_ne r)
      | cons f fs =>
        rw [hf] at ih
        simp only
        cases fs with
        | nil => rw [unfigs] at ih ⊢; rw [ih]
        | cons g gs => rw [unfigs_cons _ _ (by simp)] at ih ⊢; rw [List.cons_append, ih]
theorem figs_one : ∀ f : List UInt8, (∀ c ∈ f, c ≠ 46) → figs f = [f]
  | [], _ => rfl
  | c :: r, h => by
    rw [figs_cons, if_neg (h c (List.mem_cons_self ..)), figs_one r (fun x hx => h x (List.mem_cons_of_mem _ hx))]
theorem figs_more : ∀ (f r : List UInt8), (∀ c ∈ f, c ≠ 46) → figs (f ++ 46 :: r) = f :: figs r
  | [], r, _ => by rw [List.nil_append, figs_cons, if_pos rfl]
  | c :: f, r, h => by
    rw [List.cons_append, figs_cons, if_neg (h c (List.mem_cons_self ..)), figs_more f r (fun x hx => h x (List.mem_cons_of_mem _ hx))]
theorem figs_write : ∀ l : List Nat, l ≠ [] → figs (write l) = l.map Lib.decDigits
  | [], h => absurd rfl h
  | [x], _ => figs_one _ (digits_dot x)
  | x :: y :: r, _ => by
    rw [write, figs_more _ _ (digits_dot x), figs_write (y :: r) (by simp)]; rfl
theorem ys_map : ∀ L : List (List UInt8), (∀ x ∈ ys L, x ≠ 0) → ys L = L.map num1
  | [], _ => rfl
  | f :: r, h => by
    have h0 : num1 f ≠ 0 := h _ (by rw [ys]; exact List.mem_cons_self ..)
    have hy : ys (f :: r) = num1 f :: ys r := by rw [ys, if_neg h0]
    rw [hy, List.map_cons, ys_map r (fun x hx => h x (by rw [hy]; exact List.mem_cons_of_mem _ hx))]
theorem ys_all : ∀ L : List (List UInt8), (∀ f ∈ L, num1 f ≠ 0) → ys L = L.map num1
  | [], _ => rfl
  | f :: r, h => by
    rw [ys, if_neg (h f (List.mem_cons_self ..)), ys_all r (fun g hg => h g (List.mem_cons_of_mem _ hg))]; rfl

/-- Numbers that a path has. -/
def Valid (l : List Nat) : Prop := l.getD 0 0 = 1 ∧ l.length ≤ 8 ∧ ∀ x ∈ l, 1 ≤ x ∧ x ≤ 1073741824
theorem Valid.ne {l : List Nat} (h : Valid l) : l ≠ [] := by rintro rfl; exact absurd h.1 (by decide)
theorem parse_write (l : List Nat) (h : Valid l) : parse (write l) = l := by
  have hn := h.ne
  have hy : ys (figs (write l)) = l := by
    rw [figs_write l hn, ys_all, List.map_map]
    · conv => rhs; rw [← List.map_id l]
      exact List.map_congr_left fun x hx => num1_digits x (h.2.2 x hx).1 (h.2.2 x hx).2
    · intro f hf
      obtain ⟨x, hx, rfl⟩ := List.mem_map.1 hf
      rw [num1_digits x (h.2.2 x hx).1 (h.2.2 x hx).2]
      have := (h.2.2 x hx).1; omega
  rw [parse, hy, if_pos ⟨fun x hx => by have := (h.2.2 x hx).1; omega, h.2.1, h.1⟩]
theorem parse_valid (p : List UInt8) (h : parse p ≠ []) : Valid (parse p) := by
  refine ⟨?_, parse_length p, parse_mem p⟩
  unfold parse at h ⊢
  split
  · rename_i e; exact e.2.2
  · rename_i e; rw [if_neg e] at h; exact absurd rfl h
theorem write_parse (p : List UInt8) (h : parse p ≠ []) : write (parse p) = p := by
  have hy : parse p = ys (figs p) ∧ (∀ x ∈ ys (figs p), x ≠ 0) := by
    unfold parse at h ⊢
    split
    · rename_i e; exact ⟨rfl, e.1⟩
    · rename_i e; rw [if_neg e] at h; exact absurd rfl h
  have hm := ys_map _ hy.2
  have hf : (figs p).map (fun f => Lib.decDigits (num1 f)) = figs p := by
    conv => rhs; rw [← List.map_id (figs p)]
    refine List.map_congr_left fun f hf => ?_
    have h0 : num1 f ≠ 0 := hy.2 _ (by rw [hm]; exact List.mem_map.2 ⟨f, hf, rfl⟩)
    exact (digits_num1 f h0).symm
  rw [write_unfigs, hy.1, hm, List.map_map]
  exact (congrArg unfigs hf).trans (unfigs_figs p)
theorem parse_inj {p q : List UInt8} (h : parse p ≠ []) (e : parse p = parse q) : p = q := by
  rw [← write_parse p h, ← write_parse q (by rw [← e]; exact h), e]

end Path
end Go.Proofs.Ytcbnkncgacbniaa

namespace Go.Proofs.Ytcbnkncgacbniaa
namespace Conv
open Go.RowKit

theorem cells_at (w : World) (l : List UInt8) (C : Array Value) (T : TypeId) (hC : C = (l.map fun b => Value.int .u8 (b.toNat : Int)).toArray) (j : Nat) (hj : j < l.length) :
    (w.alloc (.cells C T)).cell? ((⟨w.heap.size, 0, none⟩ : Addr).add j) = some (.int .u8 (l[j].toNat : Int)) := by
  rw [Go.WideShapes.add_plain, World.cell?_alloc_new, Nat.zero_add, hC]
  simp [hj]
theorem conv (w : World) (B : Nat) (hB : B = w.heap.size) (l : List UInt8) (n : Nat) (hn : n = l.length) (C : Array Value) (T : TypeId) (hC : C = (l.map fun b => Value.int .u8 (b.toNat : Int)).toArray) :
    (convert 96 9 (.slice (some ⟨B, 0, none⟩) n n)).run Try.prog (w.alloc (.cells C T)) = .ok (.string ⟨l.toArray⟩) (w.alloc (.cells C T)) := by
  subst hn hB
  exact run_convert_bytes_back (P := Try.prog) _ 96 9 5 ⟨w.heap.size, 0, none⟩ l.length l Try.underlying96 Try.underlying5 Try.underlying9 (fun j hj => cells_at w l C T hC j hj)
theorem conv1 (a : Int) (b : UInt8) (h : a = (b.toNat : Int)) (w : World) (B : Nat) (hB : B = w.heap.size) :
    (convert 96 9 (.slice (some ⟨B, 0, none⟩) 1 1)).run Try.prog (w.alloc (.cells #[.int .u8 a] 5)) = .ok (.string ⟨#[b]⟩) (w.alloc (.cells #[.int .u8 a] 5)) :=
  conv w B hB [b] 1 rfl _ _ (by rw [h]; rfl)
theorem conv2 (a1 a2 : Int) (b1 b2 : UInt8) (h1 : a1 = (b1.toNat : Int)) (h2 : a2 = (b2.toNat : Int)) (w : World) (B : Nat) (hB : B = w.heap.size) :
    (convert 96 9 (.slice (some ⟨B, 0, none⟩) 2 2)).run Try.prog (w.alloc (.cells #[.int .u8 a1, .int .u8 a2] 5)) = .ok (.string ⟨#[b1, b2]⟩) (w.alloc (.cells #[.int .u8 a1, .int .u8 a2] 5)) :=
  conv w B hB [b1, b2] 2 rfl _ _ (by rw [h1, h2]; rfl)
theorem conv3 (a1 a2 a3 : Int) (b1 b2 b3 : UInt8) (h1 : a1 = (b1.toNat : Int)) (h2 : a2 = (b2.toNat : Int)) (h3 : a3 = (b3.toNat : Int)) (w : World) (B : Nat) (hB : B = w.heap.size) :
    (convert 96 9 (.slice (some ⟨B, 0, none⟩) 3 3)).run Try.prog (w.alloc (.cells #[.int .u8 a1, .int .u8 a2, .int .u8 a3] 5)) = .ok (.string ⟨#[b1, b2, b3]⟩) (w.alloc (.cells #[.int .u8 a1, .int .u8 a2, .int .u8 a3] 5)) :=
  conv w B hB [b1, b2, b3] 3 rfl _ _ (by rw [h1, h2, h3]; rfl)
theorem conv4 (a1 a2 a3 a4 : Int) (b1 b2 b3 b4 : UInt8) (h1 : a1 = (b1.toNat : Int)) (h2 : a2 = (b2.toNat : Int)) (h3 : a3 = (b3.toNat : Int)) (h4 : a4 = (b4.toNat : Int)) (w : World) (B : Nat) (hB : B = w.heap.size) :
    (convert 96 9 (.slice (some ⟨B, 0, none⟩) 4 4)).run Try.prog (w.alloc (.cells #[.int .u8 a1, .int .u8 a2, .int .u8 a3, .int .u8 a4] 5)) = .ok (.string ⟨#[b1, b2, b3, b4]⟩) (w.alloc (.cells #[.int .u8 a1, .int .u8 a2, .int .u8 a3, .int .u8 a4] 5)) :=
  conv w B hB [b1, b2, b3, b4] 4 rfl _ _ (by rw [h1, h2, h3, h4]; rfl)
theorem conv1_drew (a : Int) (b : UInt8) (h : a = (b.toNat : Int)) (w : World) (B : Nat) (hB : B = w.heap.size) :
    (convert 96 9 (.slice (some ⟨B, 0, none⟩) 1 1)).run Try.prog (w.alloc (.cells #[.int .u8 a] 5)).drew = .ok (.string ⟨#[b]⟩) (w.alloc (.cells #[.int .u8 a] 5)).drew := by
  subst hB
  exact run_convert_bytes_back (P := Try.prog) _ 96 9 5 ⟨w.heap.size, 0, none⟩ 1 [b] Try.underlying96 Try.underlying5 Try.underlying9 (fun j hj => (cells_at w [b] _ _ (by rw [h]; rfl) j hj : _))

end Conv
end Go.Proofs.Ytcbnkncgacbniaa

namespace Go.Proofs.Ytcbnkncgacbniaa
namespace RefPath
open Go.RowKit Go.Proofs.Ytcbnkncgacbniaa.Path

theorem digits_step {m : Nat} (h : 9 < m) : Lib.decDigits m = Lib.decDigits (m / 10) ++ [UInt8.ofNat (48 + m % 10)] := by
  conv => lhs; rw [Lib.decDigits, dif_neg (by omega)]
theorem digits_last {m : Nat} (h : m ≤ 9) : Lib.decDigits m = [UInt8.ofNat (48 + m)] := by
  rw [Lib.decDigits, dif_pos (by omega)]

set_option maxRecDepth 100000 in
set_option maxHeartbeats 1000000 in
theorem num_any (n : Nat) (w : World) (hn : n ≤ 1099511627776) :
    Calls Try.prog 48 #[.int .i64 n] w fun e w' => e = .returned (.string ⟨(Lib.decDigits n).toArray⟩) ∧ Below w.heap.size w w' := by
  go_enter Try.func48, Try.ntmps48
  go_wp2_with fail
  go_loopw [0, 3] (fun nv sv wr => ∃ (m : Nat) (t : List UInt8), m ≤ n ∧ nv = .int .i64 m ∧ sv = .string ⟨t.toArray⟩ ∧ Hid (Lib.decDigits n = Lib.decDigits m ++ t) ∧ Below w.heap.size w wr) (fun nv _ _ => (intOf nv).toNat)
  case atStart => exact ⟨n, [], Nat.le_refl _, rfl, rfl, Lib.hid (by simp), Below.refl _ _⟩
  case round =>
    obtain ⟨m, t, hm, rfl, rfl, HI, hb⟩ := hrel
    have htl : t.length ≤ 13 := by
      have h1 := congrArg List.length HI.out
      have h2 := digits_len 13 n (by decide) (by omega)
      rw [List.length_append] at h1; omega
    have hst := Str.size_mk t
    by_cases hlt : 9 < m
    · have hd : decide ((9 : Int) < (m : Int)) = true := decide_eq_true (by omega)
      have hu : IntKind.u8.wrap (48 + (m : Int) % 10) = 48 + (m : Int) % 10 := by rw [IntKind.wrap_u8']; omega
      have hst1 := digits_step hlt
      obtain ⟨z, hz⟩ : ∃ z, z = UInt8.ofNat (48 + m % 10) := ⟨_, rfl⟩
      have hcv := fun w => Conv.conv1 (48 + (m : Int) % 10) z (by rw [hz]; simp; omega) w w.heap.size rfl
      rw [← hz] at hst1
      have HS := Lib.hid hst1
      clear hz hst1
      have hdiv : (m : Int) / 10 = ((m / 10 : Nat) : Int) := by omega
      have HD := Lib.hid hdiv
      clear hdiv
      go_wp2
      go_roundw
      case rel => exact ⟨m / 10, z :: t, by omega, by rw [HD.out], congrArg Value.string (Str.mk_append_mk [z] t), Lib.hid (by rw [HI.out, HS.out, List.append_assoc]; rfl), balloc hb _⟩
      case measure => simp [intOf]; omega
    · have hd : decide ((9 : Int) < (m : Int)) = false := decide_eq_false (by omega)
      have hu : IntKind.u8.wrap (48 + (m : Int)) = 48 + (m : Int) := by rw [IntKind.wrap_u8']; omega
      have hst1 := digits_last (m := m) (by omega)
      obtain ⟨z, hz⟩ : ∃ z, z = UInt8.ofNat (48 + m) := ⟨_, rfl⟩
      have hcv := fun w => Conv.conv1 (48 + (m : Int)) z (by rw [hz]; simp; omega) w w.heap.size rfl
      rw [← hz] at hst1
      have HS := Lib.hid hst1
      clear hz hst1
      go_wp2
      go_ret
      exact ⟨by rw [HI.out, HS.out, ← Str.mk_append_mk]; rfl, balloc hb _⟩

end RefPath
end Go.Proofs.Ytcbnkncgacbniaa

namespace Go.Proofs.Ytcbnkncgacbniaa
namespace RefPath
open Go.RowKit Go.Proofs.Ytcbnkncgacbniaa.Path

/-- A figure's number, as long as it is not too great on the way. -/
def seg : List UInt8 → Nat → Option Nat
  | [], n => some n
  | c :: r, n => if c.toNat < 48 ∨ 57 < c.toNat ∨ 1073741824 < n then none else seg r (10 * n + (c.toNat - 48))
theorem seg_cons (c : UInt8) (r : List UInt8) (n : Nat) : seg (c :: r) n = if c.toNat < 48 ∨ 57 < c.toNat ∨ 1073741824 < n then none else seg r (10 * n + (c.toNat - 48)) := rfl
theorem dec_le : ∀ (r : List UInt8) (n x : Nat), dec r n = some x → n ≤ x
  | [], n, x, h => by rw [dec] at h; have := Option.some.inj h; omega
  | c :: r, n, x, h => by
    rw [dec_cons] at h
    split at h
    · cases h
    · have := dec_le r _ x h; omega
theorem seg_dec : ∀ (r : List UInt8) (n x : Nat), dec r n = some x → x ≤ 1073741824 → seg r n = some x
  | [], n, x, h, _ => h
  | c :: r, n, x, h, hx => by
    have hn := dec_le _ _ _ h
    rw [dec_cons] at h
    split at h
    · cases h
    · rename_i hc
      rw [seg_cons, if_neg (by omega)]
      exact seg_dec r _ x h hx
/-- A figure's number is that which Read finds, where that is written so. -/
theorem num1_of {f : List UInt8} {x : Nat} (h1 : 1 ≤ x) (h2 : x ≤ 1073741824) (h3 : Lib.decDigits x = f) : num1 f = x := by
  rw [← h3]; exact num1_digits x h1 h2
theorem num1_none {f : List UInt8} (h : ∀ x, seg f 0 = some x → 1 ≤ x → x ≤ 1073741824 → Lib.decDigits x ≠ f) : num1 f = 0 := by
  rcases Nat.eq_zero_or_pos (num1 f) with h0 | h0
  · exact h0
  · exfalso
    have hf := digits_num1 f (by omega)
    have hle := num1_le f
    have hd := dec_digits (num1 f)
    rw [← hf] at hd
    exact h (num1 f) (seg_dec f 0 _ hd hle) (by omega) hle hf.symm
theorem cutD_split : ∀ l : List UInt8, (∀ c ∈ (cutD l).1, c ≠ 46) ∧ (((cutD l).2.2 = true ∧ l = (cutD l).1 ++ 46 :: (cutD l).2.1) ∨ ((cutD l).2.2 = false ∧ l = (cutD l).1))
  | [] => ⟨fun c h => (by cases h), .inr ⟨rfl, rfl⟩⟩
  | c :: r => by
    rw [cutD_cons]
    by_cases h : c = 46
    · rw [if_pos h]; exact ⟨fun c h => (by cases h), .inl ⟨rfl, by rw [h]; rfl⟩⟩
    · rw [if_neg h]
      obtain ⟨h1, h2⟩ := cutD_split r
      refine ⟨fun x hx => ?_, ?_⟩
      · rcases List.mem_cons.1 hx with rfl | hx
        · exact h
        · exact h1 x hx
      · rcases h2 with ⟨e1, e2⟩ | ⟨e1, e2⟩
        · exact .inl ⟨e1, congrArg (c :: ·) e2⟩
        · exact .inr ⟨e1, congrArg (c :: ·) e2⟩

/-- What is known between two figures: dn are read, F are still to come. -/
def Mid (p : List UInt8) (dn : List Nat) (F : List (List UInt8)) : Prop := figs p = dn.map Lib.decDigits ++ F ∧ ∀ x ∈ dn, 1 ≤ x ∧ x ≤ 1073741824
theorem Mid.next {p : List UInt8} {dn : List Nat} {f : List UInt8} {F : List (List UInt8)} {x : Nat} (h : Mid p dn (f :: F)) (h1 : 1 ≤ x) (h2 : x ≤ 1073741824) (h3 : Lib.decDigits x = f) : Mid p (dn ++ [x]) F := by
  refine ⟨by rw [h.1, List.map_append, List.append_assoc, ← h3]; rfl, fun y hy => ?_⟩
  rcases List.mem_append.1 hy with hy | hy
  · exact h.2 y hy
  · simp at hy; omega
theorem ys_dn (dn : List Nat) (F : List (List UInt8)) (h : ∀ x ∈ dn, 1 ≤ x ∧ x ≤ 1073741824) : ys (dn.map Lib.decDigits ++ F) = dn ++ ys F := by
  induction dn with
  | nil => rfl
  | cons x r ih =>
    have hx := h x (List.mem_cons_self ..)
    rw [List.map_cons, List.cons_append, ys, num1_digits x hx.1 hx.2, if_neg (by omega), ih (fun y hy => h y (List.mem_cons_of_mem _ hy))]; rfl
theorem Mid.bad {p : List UInt8} {dn : List Nat} {f : List UInt8} {F : List (List UInt8)} (h : Mid p dn (f :: F)) (h0 : num1 f = 0) : parse p = [] := by
  rw [parse, if_neg]
  rintro ⟨h1, _⟩
  refine h1 0 ?_ rfl
  rw [h.1, ys_dn dn _ h.2, ys, h0]; simp
theorem Mid.all {p : List UInt8} {dn : List Nat} (h : Mid p dn []) : parse p = if dn.length ≤ 8 ∧ dn.getD 0 0 = 1 then dn else [] := by
  have hy : ys (figs p) = dn := by rw [h.1, ys_dn dn _ h.2, ys, List.append_nil]
  rw [parse, hy]
  by_cases hc : dn.length ≤ 8 ∧ dn.getD 0 0 = 1
  · rw [if_pos hc, if_pos ⟨fun x hx => by have := h.2 x hx; omega, hc⟩]
  · rw [if_neg hc, if_neg (fun e => hc e.2)]
theorem Mid.ne {p : List UInt8} {dn : List Nat} (h : Mid p dn []) : dn ≠ [] := by
  intro e
  have := h.1
  rw [e] at this
  exact figs_ne p this

/-- Numbers that lie in block g. -/
def Ints (W : World) (g : Nat) (l : List Nat) : Prop := ∀ j, j < l.length → W.cell? ⟨g, j, none⟩ = some (.int .i64 ((l.getD j 0 : Nat) : Int))
theorem Ints.below {W W' : World} {g : Nat} {l : List Nat} (h : Ints W g l) (k : Below W.heap.size W W') : Ints W' g l := fun j hj =>
  (k.cell (p := ⟨g, j, none⟩) (World.block_lt_of_cell? _ _ (h j hj))).trans (h j hj)
def ints (l : List Nat) : List Value := l.map fun x => .int .i64 ((x : Nat) : Int)
theorem ints_snoc (l : List Nat) (x : Nat) : ints l ++ [.int .i64 ((x : Nat) : Int)] = ints (l ++ [x]) := by simp [ints]
theorem ints_of_own {W : World} {B : Nat} {t : TypeId} {v : Value} {l : List Nat} (h : W.ownsRow B t 1 v l.length (ints l)) (hl : l ≠ []) : ∃ g c, v = .slice (some ⟨g, 0, none⟩) l.length c ∧ l.length ≤ c ∧ Ints W g l := by
  rcases h.2 with ⟨rfl, hc⟩ | ⟨g, cap, cur, rfl, _, _, hle, _⟩
  · exact absurd (List.length_eq_zero_iff.1 hc) hl
  · refine ⟨g, cap, rfl, hle, fun j hj => ?_⟩
    have := h.cells (g := g) rfl j (.int .i64 ((l.getD j 0 : Nat) : Int)) (by simp [ints, hj])
    cases j with
    | zero => simpa [Addr.add] using this
    | succ j => simpa [Addr.add] using this
/-- What Read hands back. -/
def ReadPost (p : List UInt8) (w : World) (e : Ending) (w' : World) : Prop :=
  ∃ (a : Option Addr) (n c : Nat) (b : Bool), e = .returned (.tuple #[.slice a n c, .bool b]) ∧ b = decide (parse p ≠ []) ∧ (parse p ≠ [] → n = (parse p).length ∧ n ≤ c ∧ ∃ g, a = some ⟨g, 0, none⟩ ∧ Ints w' g (parse p)) ∧ Below w.heap.size w w'
theorem read_bad {p : List UInt8} {w w' : World} (h : parse p = []) (hb : Below w.heap.size w w') : ReadPost p w (.returned (.tuple #[.slice none 0 0, .bool false])) w' :=
  ⟨none, 0, 0, false, rfl, by rw [h]; rfl, fun e => absurd h e, hb⟩
theorem read_all {p : List UInt8} {w w' : World} {dn : List Nat} {g c : Nat} (h : Mid p dn []) (r : Ints w' g dn) (hle : dn.length ≤ c) (hb : Below w.heap.size w w') (b : Bool) (hbv : b = decide (dn.length ≤ 8 ∧ dn.getD 0 0 = 1)) :
    ReadPost p w (.returned (.tuple #[.slice (some ⟨g, 0, none⟩) dn.length c, .bool b])) w' := by
  have ha := h.all
  refine ⟨_, _, c, b, rfl, ?_, fun e => ?_, hb⟩
  · rw [hbv]
    by_cases hc : dn.length ≤ 8 ∧ dn.getD 0 0 = 1
    · rw [if_pos hc] at ha
      rw [ha, decide_eq_true hc, decide_eq_true h.ne]
    · rw [if_neg hc] at ha
      rw [ha, decide_eq_false hc]; rfl
  · by_cases hc : dn.length ≤ 8 ∧ dn.getD 0 0 = 1
    · rw [if_pos hc] at ha
      rw [ha]; exact ⟨rfl, hle, g, rfl, r⟩
    · rw [if_neg hc] at ha
      exact absurd ha e

end RefPath
end Go.Proofs.Ytcbnkncgacbniaa

namespace Go.Proofs.Ytcbnkncgacbniaa
namespace RefPath
open Go.RowKit Go.Proofs.Ytcbnkncgacbniaa.Path

theorem info_int : (Try.prog.info? 3).map (fun i => (i.zero, i.size, i.bytes)) = some (some (.int .i64 0), 1, 8) := by kernel_rfl
/-- What is known within a figure: f is it whole, x its number up to j. -/
def In (f : List UInt8) (j x : Nat) : Prop := seg f 0 = seg (f.drop j) x
theorem In.zero (f : List UInt8) : In f 0 0 := rfl
theorem In.step {f : List UInt8} {j x : Nat} (h : In f j x) (hj : j < f.length) (c : UInt8) (hc : f[j] = c) (h1 : ¬ (c.toNat < 48 ∨ 57 < c.toNat ∨ 1073741824 < x)) : In f (j + 1) (10 * x + (c.toNat - 48)) := by
  rw [In, h, List.drop_eq_getElem_cons hj, seg_cons, hc, if_neg h1]
theorem In.stop {f : List UInt8} {j x : Nat} (h : In f j x) (hj : j < f.length) (c : UInt8) (hc : f[j] = c) (h1 : c.toNat < 48 ∨ 57 < c.toNat ∨ 1073741824 < x) : num1 f = 0 := by
  refine num1_none fun y hy => ?_
  rw [In, List.drop_eq_getElem_cons hj, seg_cons, hc, if_pos h1] at h
  rw [h] at hy; cases hy
theorem In.done {f : List UInt8} {x : Nat} (h : In f f.length x) : seg f 0 = some x := by
  rw [In, List.drop_length] at h; exact h
theorem In.none {f : List UInt8} {x : Nat} (h : In f f.length x) (h1 : x < 1 ∨ 1073741824 < x ∨ Lib.decDigits x ≠ f) : num1 f = 0 := by
  refine num1_none fun y hy h2 h3 h4 => ?_
  rw [h.done] at hy
  obtain rfl := Option.some.inj hy
  rcases h1 with h1 | h1 | h1
  · omega
  · omega
  · exact h1 h4
theorem ext_mid (p f : List UInt8) (k e : Nat) (h : (p.drop k).take (e - k) = f) : ({ data := p.toArray } : ByteArray).extract k e = { data := f.toArray } := Str.ext (by
  rw [Str.extract_toList, List.drop_take]; simp [h])

set_option maxRecDepth 100000 in
set_option maxHeartbeats 4000000 in
theorem read_any (p : List UInt8) (w : World) (hp : p.length ≤ 1099511627776) :
    Calls Try.prog 36 #[.string ⟨p.toArray⟩] w (ReadPost p w) := by
  obtain ⟨i0, hi, hz0, hz1, hz2⟩ := info_parts info_int
  have hsz := Str.size_mk p
  have hget : ∀ (k : Nat) (h : k < ({ data := p.toArray } : ByteArray).size), ({ data := p.toArray } : ByteArray)[k]'h = p[k]'(by rw [Str.size_mk] at h; exact h) := fun _ _ => rfl
  have HG := Lib.hid hget
  clear hget
  obtain ⟨N, hN⟩ : ∃ N, N = p.length := ⟨_, rfl⟩
  rw [← hN] at hsz hp
  have HN := Lib.hid hN
  clear hN
  go_enter Try.func36, Try.ntmps36
  go_wp2_with fail
  go_loopw [4, 5] (fun v atv wr => ∃ (dn : List Nat) (F : List (List UInt8)) (k : Nat), atv = .int .i64 k ∧ Hid (Mid p dn F) ∧ Hid ((k ≤ N ∧ F = figs (p.drop k)) ∨ (k = N + 1 ∧ F = [])) ∧ k ≤ N + 1 ∧ dn.length ≤ k ∧ wr.ownsRow w.heap.size 3 1 v dn.length (ints dn) ∧ Below w.heap.size w wr) (fun _ atv _ => N + 1 - (intOf atv).toNat)
  case atStart => exact ⟨[], figs p, 0, rfl, Lib.hid ⟨rfl, fun x h => (by cases h)⟩, Lib.hid (.inl ⟨by omega, rfl⟩), by omega, by simp, World.ownsRow_nil _ _ _ _, Below.refl _ _⟩
  case round =>
    obtain ⟨dn, F, k, rfl, HM, HF, hkN, hdk, hown, hb⟩ := hrel
    obtain ⟨wo, rfl⟩ : ∃ wo : World, wo = wr := ⟨_, rfl⟩
    have hbs := hb.size
    have hn := HN.out
    by_cases hlt : k ≤ N
    · have hd1 : decide ((k : Int) ≤ (N : Int)) = true := decide_eq_true (by omega)
      have hF : F = figs (p.drop k) := by
        rcases HF.out with ⟨_, h⟩ | ⟨h, _⟩
        · exact h
        · omega
      clear HF
      rw [figs_cut] at hF
      obtain ⟨hdot, hsplit⟩ := cutD_split (p.drop k)
      obtain ⟨f, hf⟩ : ∃ f, f = (cutD (p.drop k)).1 := ⟨_, rfl⟩
      obtain ⟨more, hmore⟩ : ∃ b, b = (cutD (p.drop k)).2.2 := ⟨_, rfl⟩
      obtain ⟨tl, htl⟩ : ∃ t, t = (cutD (p.drop k)).2.1 := ⟨_, rfl⟩
      rw [← hf, ← hmore, ← htl] at hF hsplit
      rw [← hf] at hdot
      clear hf hmore htl
      have hdl : (p.drop k).length = N - k := by rw [List.length_drop, hn]
      have hfl : k + f.length ≤ N := by
        rcases hsplit with ⟨_, h⟩ | ⟨_, h⟩
        · have := congrArg List.length h; simp at this; omega
        · have := congrArg List.length h; omega
      have hfg : ∀ (j : Nat) (c : UInt8), f[j]? = some c → p[k + j]? = some c := by
        intro j c hc
        have h := (List.getElem?_eq_some_iff.1 hc).1
        have h1 : (p.drop k)[j]? = f[j]? := by
          rcases hsplit with ⟨_, e⟩ | ⟨_, e⟩
          · rw [e, List.getElem?_append_left h]
          · rw [e]
        rw [List.getElem?_drop] at h1
        exact h1.trans hc
      have htk : (p.drop k).take f.length = f := by
        rcases hsplit with ⟨_, e⟩ | ⟨_, e⟩
        · rw [e, List.take_left]
        · rw [e, List.take_length]
      obtain ⟨M, hM⟩ : ∃ M, M = f.length := ⟨_, rfl⟩
      rw [← hM] at hfl
      have hend : (more = true → k + M < N ∧ p[k + M]? = some 46) ∧ (more = false → k + M = N) := by
        rcases hsplit with ⟨e1, e⟩ | ⟨e1, e⟩
        · refine ⟨fun _ => ?_, fun h => (by rw [h] at e1; cases e1)⟩
          have h2 := congrArg List.length e
          simp at h2
          refine ⟨by omega, ?_⟩
          have h1 : (p.drop k)[M]? = some 46 := by rw [e, hM, List.getElem?_append_right (Nat.le_refl _)]; simp
          rw [List.getElem?_drop] at h1
          exact h1
        · refine ⟨fun h => (by rw [h] at e1; cases e1), fun _ => ?_⟩
          have := congrArg List.length e; omega
      have hrest : (more = true ∧ tl = p.drop (k + M + 1)) ∨ more = false := by
        rcases hsplit with ⟨e1, e⟩ | ⟨e1, e⟩
        · refine .inl ⟨e1, ?_⟩
          rw [show k + M + 1 = k + (M + 1) by omega, ← List.drop_drop, e, hM]
          rw [show f ++ 46 :: tl = (f ++ [46]) ++ tl by simp, show f.length + 1 = (f ++ [46]).length by simp, List.drop_left]
        · exact .inr e1
      have HFL := Lib.hid hM
      have HFG := Lib.hid hfg
      have HDOT := Lib.hid hdot
      have HEND := Lib.hid hend
      have HREST := Lib.hid hrest
      have HTK := Lib.hid htk
      have HFF := Lib.hid hF
      clear hM hfg hdot hend hrest htk hF hsplit hdl hn
      go_wp2_with fail
      go_loop [6, 7] (fun ev nv => ∃ j x : Nat, j ≤ M ∧ ev = .int .i64 ((k + j : Nat) : Int) ∧ nv = .int .i64 x ∧ Hid (In f j x) ∧ x ≤ 10737418249) (fun ev _ => N - (intOf ev).toNat)
      case atStart => exact ⟨0, 0, by omega, rfl, rfl, Lib.hid (In.zero f), by omega⟩
      case round =>
        obtain ⟨j, x, hj, rfl, rfl, HI, hx⟩ := hrel
        have hn := HN.out
        have hfl2 := HFL.out
        obtain ⟨e, he⟩ : ∃ e, e = k + j := ⟨_, rfl⟩
        rw [← he]
        have he0 : (0 : Int) ≤ (e : Int) := by omega
        by_cases hjm : j < M
        · have hd2 : decide ((e : Int) < (N : Int)) = true := decide_eq_true (by omega)
          have hjf : j < f.length := by omega
          have heN : e < N := by omega
          obtain ⟨c, hc⟩ : ∃ c, f[j]'hjf = c := ⟨_, rfl⟩
          have hpe : p[e]? = some c := by rw [he]; exact HFG.out j c (List.getElem?_eq_some_iff.2 ⟨hjf, hc⟩)
          have hgk : ∀ h : e < ({ data := p.toArray } : ByteArray).size, ({ data := p.toArray } : ByteArray)[e]'h = c := fun h => by
            rw [HG.out e h]; exact (List.getElem?_eq_some_iff.1 hpe).2
          have hc46 : c ≠ 46 := HDOT.out c (by rw [← hc]; exact List.getElem_mem _)
          have hb46 : ((c.toNat : Int) != 46) = true := by
            rw [bne_iff_ne]; intro h; have : (46 : UInt8).toNat = 46 := rfl; exact hc46 (UInt8.toNat_inj.1 (by omega))
          have hb46' : ((c.toNat : Int) == 46) = false := by rw [beq_eq_false_iff_ne]; exact bne_iff_ne.1 hb46
          have hc256 := c.toNat_lt
          have HC := Lib.hid hc
          have HE := Lib.hid he
          clear hc hn hfl2 he hc46 hpe
          by_cases b1 : c.toNat < 48
          · have x1 : decide ((c.toNat : Int) < 48) = true := decide_eq_true (by omega)
            go_wp2
            go_ret2
            exact read_bad (Mid.bad (p := p) (dn := dn) (f := f) (HFF.out ▸ HM.out) (HI.out.stop hjf _ HC.out (by omega))) hb
          have x1 : decide ((c.toNat : Int) < 48) = false := decide_eq_false (by omega)
          by_cases b2 : 57 < c.toNat
          · have x2 : decide ((c.toNat : Int) > 57) = true := decide_eq_true (by omega)
            have x2' : decide ((57 : Int) < (c.toNat : Int)) = true := decide_eq_true (by omega)
            go_wp2
            go_ret2
            exact read_bad (Mid.bad (p := p) (dn := dn) (f := f) (HFF.out ▸ HM.out) (HI.out.stop hjf _ HC.out (by omega))) hb
          have x2 : decide ((c.toNat : Int) > 57) = false := decide_eq_false (by omega)
          have x2' : decide ((57 : Int) < (c.toNat : Int)) = false := decide_eq_false (by omega)
          by_cases b3 : 1073741824 < x
          · have x3 : decide ((x : Int) > 1073741824) = true := decide_eq_true (by omega)
            have x3' : decide ((1073741824 : Int) < (x : Int)) = true := decide_eq_true (by omega)
            go_wp2
            go_ret2
            exact read_bad (Mid.bad (p := p) (dn := dn) (f := f) (HFF.out ▸ HM.out) (HI.out.stop hjf _ HC.out (by omega))) hb
          have x3 : decide ((x : Int) > 1073741824) = false := decide_eq_false (by omega)
          have x3' : decide ((1073741824 : Int) < (x : Int)) = false := decide_eq_false (by omega)
          have hw2 : IntKind.i64.wrap (10 * (x : Int)) = 10 * (x : Int) := by rw [IntKind.wrap_i64]; omega
          have hw3 : IntKind.i64.wrap (10 * (x : Int) + (c.toNat : Int)) = 10 * (x : Int) + (c.toNat : Int) := by rw [IntKind.wrap_i64]; omega
          have hw5 : IntKind.i64.wrap (c.toNat : Int) = (c.toNat : Int) := by rw [IntKind.wrap_i64]; omega
          have hw4 : IntKind.i64.wrap (10 * (x : Int) + (c.toNat : Int) - 48) = ((10 * x + (c.toNat - 48) : Nat) : Int) := by rw [IntKind.wrap_i64]; omega
          go_wp2
          go_round
          case rel => exact ⟨j + 1, 10 * x + (c.toNat - 48), by omega, by have := HE.out; simp only [Value.int.injEq, true_and]; omega, rfl, Lib.hid (HI.out.step hjf _ HC.out (by omega)), by omega⟩
          case measure => have := HE.out; simp [intOf]; omega
        · obtain rfl : j = M := by omega
          rw [hfl2] at HI
          obtain ⟨h1, h2⟩ := HEND.out
          have HI2 := Lib.hid HI.out
          clear HI
          have hex := ext_mid p f k e (by rw [he, show k + j - k = j by omega, hfl2]; exact HTK.out)
          have hke : (k : Int) ≤ (e : Int) := by omega
          have heN : (e : Int) ≤ (N : Int) := by omega
          have hk0 : (0 : Int) ≤ (k : Int) := by omega
          have HE := Lib.hid he
          have hek : k ≤ e ∧ e ≤ N := by omega
          obtain ⟨hek1, hek2⟩ := hek
          cases more with
          | true =>
            obtain ⟨h3, h4⟩ := h1 rfl
            have heN2 : e < N := by omega
            have hrest : tl = p.drop (e + 1) := by
              rcases HREST.out with ⟨_, h⟩ | h
              · rw [h, he]
              · cases h
            have hd2 : decide ((e : Int) < (N : Int)) = true := decide_eq_true (by omega)
            have hgk : ∀ h : e < ({ data := p.toArray } : ByteArray).size, ({ data := p.toArray } : ByteArray)[e]'h = 46 := fun h => by
              rw [HG.out e h]
              rw [← he] at h4
              exact (List.getElem?_eq_some_iff.1 h4).2
            have hFn : F = f :: figs (p.drop (e + 1)) := by rw [HFF.out, if_pos rfl, hrest]
            have hm := HM.out
            rw [hFn] at hm
            have HMM := Lib.hid hm
            clear hm hFn h1 h2 he hfl2 hn h3 h4 hrest
            by_cases b1 : x < 1
            · have x1 : decide ((x : Int) < 1) = true := decide_eq_true (by omega)
              go_upto_region 11 with fail
              refine wp_region_noPanic ?_
              refine wp_region_held_drew (S := (fun _ => True)) (by kernel_rfl) (trivial) (fun hHeld => ?_)
              refine wpAnyH_take (i := 0) (v := ?_) (by simp only [List.getElem?_toArray, List.getElem?_cons_zero]; rfl) (by kernel_rfl) (by kernel_rfl) (by kernel_rfl) (fun _ _ _ h => h) (Or.inl ⟨by rfl, ?_⟩) (by assumption) ?_
              rotate_left
              · (intro w hSw; (try dsimp only at hSw); go_simp; try with_reducible rfl)
              try simp only [Act.put, List.setIfInBounds_toArray, List.set_cons_zero, List.set_cons_succ]
              refine wpAnyH_take (i := 1) (v := ?_) (by simp only [List.getElem?_toArray, List.getElem?_cons_succ, List.getElem?_cons_zero]; rfl) (by kernel_rfl) (by kernel_rfl) (by kernel_rfl) (fun _ _ _ h => h) (Or.inl ⟨by rfl, ?_⟩) (by assumption) ?_
              rotate_left
              · (intro w hSw; (try dsimp only at hSw); go_simp; try with_reducible rfl)
              try simp only [Act.put, List.setIfInBounds_toArray, List.set_cons_zero, List.set_cons_succ]
              refine wpAnyH_take (i := 2) (v := ?_) (by simp only [List.getElem?_toArray, List.getElem?_cons_succ, List.getElem?_cons_zero]; rfl) (by kernel_rfl) (by kernel_rfl) (by kernel_rfl) (fun _ _ _ h => h) (Or.inl ⟨by rfl, ?_⟩) (by assumption) ?_
              rotate_left
              · (intro w hSw; (try dsimp only at hSw); go_simp; try with_reducible rfl)
              try simp only [Act.put, List.setIfInBounds_toArray, List.set_cons_zero, List.set_cons_succ]
              refine wpAnyH_take (i := 3) (v := undef) (by simp only [List.getElem?_toArray, List.getElem?_cons_succ, List.getElem?_cons_zero]; rfl) (by kernel_rfl) (by kernel_rfl) (by kernel_rfl) (fun _ _ _ h => h) (Or.inr ⟨by rfl, rfl⟩) (by assumption) ?_
              try simp only [Act.put, List.setIfInBounds_toArray, List.set_cons_zero, List.set_cons_succ]
              refine wpAnyH_take (i := 4) (v := undef) (by simp only [List.getElem?_toArray, List.getElem?_cons_succ, List.getElem?_cons_zero]; rfl) (by kernel_rfl) (by kernel_rfl) (by kernel_rfl) (fun _ _ _ h => h) (Or.inr ⟨by rfl, rfl⟩) (by assumption) ?_
              try simp only [Act.put, List.setIfInBounds_toArray, List.set_cons_zero, List.set_cons_succ]
              refine wpAnyH_take (i := 5) (v := ?_) (by simp only [List.getElem?_toArray, List.getElem?_cons_succ, List.getElem?_cons_zero]; rfl) (by kernel_rfl) (by kernel_rfl) (by kernel_rfl) (fun _ _ _ h => h) (Or.inl ⟨by rfl, ?_⟩) (by assumption) ?_
              rotate_left
              · (intro w hSw; (try dsimp only at hSw); go_simp; try with_reducible rfl)
              try simp only [Act.put, List.setIfInBounds_toArray, List.set_cons_zero, List.set_cons_succ]
              refine wpAnyH_take (i := 6) (v := ?_) (by simp only [List.getElem?_toArray, List.getElem?_cons_succ, List.getElem?_cons_zero]; rfl) (by kernel_rfl) (by kernel_rfl) (by kernel_rfl) (fun _ _ _ h => h) (Or.inl ⟨by rfl, ?_⟩) (by assumption) ?_
              rotate_left
              · (intro w hSw; (try dsimp only at hSw); go_simp; try with_reducible rfl)
              try simp only [Act.put, List.setIfInBounds_toArray, List.set_cons_zero, List.set_cons_succ]
              refine wpAnyH_take (i := 7) (v := undef) (by simp only [List.getElem?_toArray, List.getElem?_cons_succ, List.getElem?_cons_zero]; rfl) (by kernel_rfl) (by kernel_rfl) (by kernel_rfl) (fun _ _ _ h => h) (Or.inr ⟨by rfl, rfl⟩) (by assumption) ?_
              try simp only [Act.put, List.setIfInBounds_toArray, List.set_cons_zero, List.set_cons_succ]
              refine wpAnyH_take (i := 8) (v := undef) (by simp only [List.getElem?_toArray, List.getElem?_cons_succ, List.getElem?_cons_zero]; rfl) (by kernel_rfl) (by kernel_rfl) (by kernel_rfl) (fun _ _ _ h => h) (Or.inr ⟨by rfl, rfl⟩) (by assumption) ?_
              try simp only [Act.put, List.setIfInBounds_toArray, List.set_cons_zero, List.set_cons_succ]
              refine wpAnyH_take (i := 9) (v := undef) (by simp only [List.getElem?_toArray, List.getElem?_cons_succ, List.getElem?_cons_zero]; rfl) (by kernel_rfl) (by kernel_rfl) (by kernel_rfl) (fun _ _ _ h => h) (Or.inr ⟨by rfl, rfl⟩) (by assumption) ?_
              try simp only [Act.put, List.setIfInBounds_toArray, List.set_cons_zero, List.set_cons_succ]
              refine wpAnyH_take (i := 10) (v := undef) (by simp only [List.getElem?_toArray, List.getElem?_cons_succ, List.getElem?_cons_zero]; rfl) (by kernel_rfl) (by kernel_rfl) (by kernel_rfl) (fun _ _ _ h => h) (Or.inr ⟨by rfl, rfl⟩) (by assumption) ?_
              try simp only [Act.put, List.setIfInBounds_toArray, List.set_cons_zero, List.set_cons_succ]
              refine wpAnyH_take (i := 11) (v := undef) (by simp only [List.getElem?_toArray, List.getElem?_cons_succ, List.getElem?_cons_zero]; rfl) (by kernel_rfl) (by kernel_rfl) (by kernel_rfl) (fun _ _ _ h => h) (Or.inr ⟨by rfl, rfl⟩) (by assumption) ?_
              try simp only [Act.put, List.setIfInBounds_toArray, List.set_cons_zero, List.set_cons_succ]
              refine wpAnyH_take (i := 12) (v := undef) (by simp only [List.getElem?_toArray, List.getElem?_cons_succ, List.getElem?_cons_zero]; rfl) (by kernel_rfl) (by kernel_rfl) (by kernel_rfl) (fun _ _ _ h => h) (Or.inr ⟨by rfl, rfl⟩) (by assumption) ?_
              try simp only [Act.put, List.setIfInBounds_toArray, List.set_cons_zero, List.set_cons_succ]
              refine wpAnyH_take (i := 13) (v := undef) (by simp only [List.getElem?_toArray, List.getElem?_cons_succ, List.getElem?_cons_zero]; rfl) (by kernel_rfl) (by kernel_rfl) (by kernel_rfl) (fun _ _ _ h => h) (Or.inr ⟨by rfl, rfl⟩) (by assumption) ?_
              try simp only [Act.put, List.setIfInBounds_toArray, List.set_cons_zero, List.set_cons_succ]
              refine wpAnyH_take (i := 14) (v := ?_) (by simp only [List.getElem?_toArray, List.getElem?_cons_succ, List.getElem?_cons_zero]; rfl) (by kernel_rfl) (by kernel_rfl) (by kernel_rfl) (fun _ _ _ h => h) (Or.inl ⟨by rfl, ?_⟩) (by assumption) ?_
              rotate_left
              · (intro w hSw; (try dsimp only at hSw); go_simp; try with_reducible rfl)
              try simp only [Act.put, List.setIfInBounds_toArray, List.set_cons_zero, List.set_cons_succ]
              refine wpAnyH_done (by kernel_rfl) ?_ _
              refine NoPanic.normal ?_
              go_wp2
              go_ret2
              exact read_bad (HMM.out.bad (HI2.out.none (by omega))) (Below.drew hb)
            have x1 : decide ((x : Int) < 1) = false := decide_eq_false (by omega)
            by_cases b2 : 1073741824 < x
            · have x2 : decide ((x : Int) > 1073741824) = true := decide_eq_true (by omega)
              have x2' : decide ((1073741824 : Int) < (x : Int)) = true := decide_eq_true (by omega)
              go_upto_region 11 with fail
              refine wp_region_noPanic ?_
              refine wp_region_held_drew (S := (fun _ => True)) (by kernel_rfl) (trivial) (fun hHeld => ?_)
              refine wpAnyH_take (i := 0) (v := ?_) (by simp only [List.getElem?_toArray, List.getElem?_cons_zero]; rfl) (by kernel_rfl) (by kernel_rfl) (by kernel_rfl) (fun _ _ _ h => h) (Or.inl ⟨by rfl, ?_⟩) (by assumption) ?_
              rotate_left
              · (intro w hSw; (try dsimp only at hSw); go_simp; try with_reducible rfl)
              try simp only [Act.put, List.setIfInBounds_toArray, List.set_cons_zero, List.set_cons_succ]
              refine wpAnyH_take (i := 1) (v := ?_) (by simp only [List.getElem?_toArray, List.getElem?_cons_succ, List.getElem?_cons_zero]; rfl) (by kernel_rfl) (by kernel_rfl) (by kernel_rfl) (fun _ _ _ h => h) (Or.inl ⟨by rfl, ?_⟩) (by assumption) ?_
              rotate_left
              · (intro w hSw; (try dsimp only at hSw); go_simp; try with_reducible rfl)
              try simp only [Act.put, List.setIfInBounds_toArray, List.set_cons_zero, List.set_cons_succ]
              refine wpAnyH_take (i := 2) (v := ?_) (by simp only [List.getElem?_toArray, List.getElem?_cons_succ, List.getElem?_cons_zero]; rfl) (by kernel_rfl) (by kernel_rfl) (by kernel_rfl) (fun _ _ _ h => h) (Or.inl ⟨by rfl, ?_⟩) (by assumption) ?_
              rotate_left
              · (intro w hSw; (try dsimp only at hSw); go_simp; try with_reducible rfl)
              try simp only [Act.put, List.setIfInBounds_toArray, List.set_cons_zero, List.set_cons_succ]
              refine wpAnyH_take (i := 3) (v := ?_) (by simp only [List.getElem?_toArray, List.getElem?_cons_succ, List.getElem?_cons_zero]; rfl) (by kernel_rfl) (by kernel_rfl) (by kernel_rfl) (fun _ _ _ h => h) (Or.inl ⟨by rfl, ?_⟩) (by assumption) ?_
              rotate_left
              · (intro w hSw; (try dsimp only at hSw); go_simp; try with_reducible rfl)
              try simp only [Act.put, List.setIfInBounds_toArray, List.set_cons_zero, List.set_cons_succ]
              refine wpAnyH_take (i := 4) (v := ?_) (by simp only [List.getElem?_toArray, List.getElem?_cons_succ, List.getElem?_cons_zero]; rfl) (by kernel_rfl) (by kernel_rfl) (by kernel_rfl) (fun _ _ _ h => h) (Or.inl ⟨by rfl, ?_⟩) (by assumption) ?_
              rotate_left
              · (intro w hSw; (try dsimp only at hSw); go_simp; try with_reducible rfl)
              try simp only [Act.put, List.setIfInBounds_toArray, List.set_cons_zero, List.set_cons_succ]
              refine wpAnyH_take (i := 5) (v := ?_) (by simp only [List.getElem?_toArray, List.getElem?_cons_succ, List.getElem?_cons_zero]; rfl) (by kernel_rfl) (by kernel_rfl) (by kernel_rfl) (fun _ _ _ h => h) (Or.inl ⟨by rfl, ?_⟩) (by assumption) ?_
              rotate_left
              · (intro w hSw; (try dsimp only at hSw); go_simp; try with_reducible rfl)
              try simp only [Act.put, List.setIfInBounds_toArray, List.set_cons_zero, List.set_cons_succ]
              refine wpAnyH_take (i := 6) (v := ?_) (by simp only [List.getElem?_toArray, List.getElem?_cons_succ, List.getElem?_cons_zero]; rfl) (by kernel_rfl) (by kernel_rfl) (by kernel_rfl) (fun _ _ _ h => h) (Or.inl ⟨by rfl, ?_⟩) (by assumption) ?_
              rotate_left
              · (intro w hSw; (try dsimp only at hSw); go_simp; try with_reducible rfl)
              try simp only [Act.put, List.setIfInBounds_toArray, List.set_cons_zero, List.set_cons_succ]
              refine wpAnyH_take (i := 7) (v := undef) (by simp only [List.getElem?_toArray, List.getElem?_cons_succ, List.getElem?_cons_zero]; rfl) (by kernel_rfl) (by kernel_rfl) (by kernel_rfl) (fun _ _ _ h => h) (Or.inr ⟨by rfl, rfl⟩) (by assumption) ?_
              try simp only [Act.put, List.setIfInBounds_toArray, List.set_cons_zero, List.set_cons_succ]
              refine wpAnyH_take (i := 8) (v := undef) (by simp only [List.getElem?_toArray, List.getElem?_cons_succ, List.getElem?_cons_zero]; rfl) (by kernel_rfl) (by kernel_rfl) (by kernel_rfl) (fun _ _ _ h => h) (Or.inr ⟨by rfl, rfl⟩) (by assumption) ?_
              try simp only [Act.put, List.setIfInBounds_toArray, List.set_cons_zero, List.set_cons_succ]
              refine wpAnyH_take (i := 9) (v := undef) (by simp only [List.getElem?_toArray, List.getElem?_cons_succ, List.getElem?_cons_zero]; rfl) (by kernel_rfl) (by kernel_rfl) (by kernel_rfl) (fun _ _ _ h => h) (Or.inr ⟨by rfl, rfl⟩) (by assumption) ?_
              try simp only [Act.put, List.setIfInBounds_toArray, List.set_cons_zero, List.set_cons_succ]
              refine wpAnyH_take (i := 10) (v := undef) (by simp only [List.getElem?_toArray, List.getElem?_cons_succ, List.getElem?_cons_zero]; rfl) (by kernel_rfl) (by kernel_rfl) (by kernel_rfl) (fun _ _ _ h => h) (Or.inr ⟨by rfl, rfl⟩) (by assumption) ?_
              try simp only [Act.put, List.setIfInBounds_toArray, List.set_cons_zero, List.set_cons_succ]
              refine wpAnyH_take (i := 11) (v := undef) (by simp only [List.getElem?_toArray, List.getElem?_cons_succ, List.getElem?_cons_zero]; rfl) (by kernel_rfl) (by kernel_rfl) (by kernel_rfl) (fun _ _ _ h => h) (Or.inr ⟨by rfl, rfl⟩) (by assumption) ?_
              try simp only [Act.put, List.setIfInBounds_toArray, List.set_cons_zero, List.set_cons_succ]
              refine wpAnyH_take (i := 12) (v := undef) (by simp only [List.getElem?_toArray, List.getElem?_cons_succ, List.getElem?_cons_zero]; rfl) (by kernel_rfl) (by kernel_rfl) (by kernel_rfl) (fun _ _ _ h => h) (Or.inr ⟨by rfl, rfl⟩) (by assumption) ?_
              try simp only [Act.put, List.setIfInBounds_toArray, List.set_cons_zero, List.set_cons_succ]
              refine wpAnyH_take (i := 13) (v := undef) (by simp only [List.getElem?_toArray, List.getElem?_cons_succ, List.getElem?_cons_zero]; rfl) (by kernel_rfl) (by kernel_rfl) (by kernel_rfl) (fun _ _ _ h => h) (Or.inr ⟨by rfl, rfl⟩) (by assumption) ?_
              try simp only [Act.put, List.setIfInBounds_toArray, List.set_cons_zero, List.set_cons_succ]
              refine wpAnyH_take (i := 14) (v := ?_) (by simp only [List.getElem?_toArray, List.getElem?_cons_succ, List.getElem?_cons_zero]; rfl) (by kernel_rfl) (by kernel_rfl) (by kernel_rfl) (fun _ _ _ h => h) (Or.inl ⟨by rfl, ?_⟩) (by assumption) ?_
              rotate_left
              · (intro w hSw; (try dsimp only at hSw); go_simp; try with_reducible rfl)
              try simp only [Act.put, List.setIfInBounds_toArray, List.set_cons_zero, List.set_cons_succ]
              refine wpAnyH_done (by kernel_rfl) ?_ _
              refine NoPanic.normal ?_
              go_wp2
              go_ret2
              exact read_bad (HMM.out.bad (HI2.out.none (by omega))) (Below.drew hb)
            have x2 : decide ((x : Int) > 1073741824) = false := decide_eq_false (by omega)
            have x2' : decide ((1073741824 : Int) < (x : Int)) = false := decide_eq_false (by omega)
            have NU := Lib.hid (fun w => num_any x w (by omega))
            have b3 : 1 ≤ x := by omega
            have b4 : x ≤ 1073741824 := by omega
            clear b1 b2
            obtain ⟨t, ht⟩ : ∃ t, t = Lib.decDigits x := ⟨_, rfl⟩
            rw [← ht] at NU
            have HT := Lib.hid ht
            clear ht
            by_cases b5 : t = f
            ·
              subst b5
              go_upto_region 11 with fail
              refine wp_region_noPanic ?_
              refine wp_region_held_drew (S := (fun _ => True)) (by kernel_rfl) (trivial) (fun hHeld => ?_)
              refine wpAnyH_take (i := 0) (v := ?_) (by simp only [List.getElem?_toArray, List.getElem?_cons_zero]; rfl) (by kernel_rfl) (by kernel_rfl) (by kernel_rfl) (fun _ _ _ h => h) (Or.inl ⟨by rfl, ?_⟩) (by assumption) ?_
              rotate_left
              · (intro w hSw; (try dsimp only at hSw); go_simp; try with_reducible rfl)
              try simp only [Act.put, List.setIfInBounds_toArray, List.set_cons_zero, List.set_cons_succ]
              refine wpAnyH_take (i := 1) (v := ?_) (by simp only [List.getElem?_toArray, List.getElem?_cons_succ, List.getElem?_cons_zero]; rfl) (by kernel_rfl) (by kernel_rfl) (by kernel_rfl) (fun _ _ _ h => h) (Or.inl ⟨by rfl, ?_⟩) (by assumption) ?_
              rotate_left
              · (intro w hSw; (try dsimp only at hSw); go_simp; try with_reducible rfl)
              try simp only [Act.put, List.setIfInBounds_toArray, List.set_cons_zero, List.set_cons_succ]
              refine wpAnyH_take (i := 2) (v := ?_) (by simp only [List.getElem?_toArray, List.getElem?_cons_succ, List.getElem?_cons_zero]; rfl) (by kernel_rfl) (by kernel_rfl) (by kernel_rfl) (fun _ _ _ h => h) (Or.inl ⟨by rfl, ?_⟩) (by assumption) ?_
              rotate_left
              · (intro w hSw; (try dsimp only at hSw); go_simp; try with_reducible rfl)
              try simp only [Act.put, List.setIfInBounds_toArray, List.set_cons_zero, List.set_cons_succ]
              refine wpAnyH_take (i := 3) (v := ?_) (by simp only [List.getElem?_toArray, List.getElem?_cons_succ, List.getElem?_cons_zero]; rfl) (by kernel_rfl) (by kernel_rfl) (by kernel_rfl) (fun _ _ _ h => h) (Or.inl ⟨by rfl, ?_⟩) (by assumption) ?_
              rotate_left
              · (intro w hSw; (try dsimp only at hSw); go_simp; try with_reducible rfl)
              try simp only [Act.put, List.setIfInBounds_toArray, List.set_cons_zero, List.set_cons_succ]
              refine wpAnyH_take (i := 4) (v := ?_) (by simp only [List.getElem?_toArray, List.getElem?_cons_succ, List.getElem?_cons_zero]; rfl) (by kernel_rfl) (by kernel_rfl) (by kernel_rfl) (fun _ _ _ h => h) (Or.inl ⟨by rfl, ?_⟩) (by assumption) ?_
              rotate_left
              · (intro w hSw; (try dsimp only at hSw); go_simp; try with_reducible rfl)
              try simp only [Act.put, List.setIfInBounds_toArray, List.set_cons_zero, List.set_cons_succ]
              refine wpAnyH_take (i := 5) (v := ?_) (by simp only [List.getElem?_toArray, List.getElem?_cons_succ, List.getElem?_cons_zero]; rfl) (by kernel_rfl) (by kernel_rfl) (by kernel_rfl) (fun _ _ _ h => h) (Or.inl ⟨by rfl, ?_⟩) (by assumption) ?_
              rotate_left
              · (intro w hSw; (try dsimp only at hSw); go_simp; try with_reducible rfl)
              try simp only [Act.put, List.setIfInBounds_toArray, List.set_cons_zero, List.set_cons_succ]
              refine wpAnyH_take (i := 6) (v := ?_) (by simp only [List.getElem?_toArray, List.getElem?_cons_succ, List.getElem?_cons_zero]; rfl) (by kernel_rfl) (by kernel_rfl) (by kernel_rfl) (fun _ _ _ h => h) (Or.inl ⟨by rfl, ?_⟩) (by assumption) ?_
              rotate_left
              · (intro w hSw; (try dsimp only at hSw); go_simp; try with_reducible rfl)
              try simp only [Act.put, List.setIfInBounds_toArray, List.set_cons_zero, List.set_cons_succ]
              refine wpAnyH_take (i := 7) (v := ?_) (by simp only [List.getElem?_toArray, List.getElem?_cons_succ, List.getElem?_cons_zero]; rfl) (by kernel_rfl) (by kernel_rfl) (by kernel_rfl) (fun _ _ _ h => h) (Or.inl ⟨by rfl, ?_⟩) (by assumption) ?_
              rotate_left
              · (intro w hSw; (try dsimp only at hSw); go_simp; try with_reducible rfl)
              try simp only [Act.put, List.setIfInBounds_toArray, List.set_cons_zero, List.set_cons_succ]
              refine wpAnyH_take (i := 9) (v := ?_) (by simp only [List.getElem?_toArray, List.getElem?_cons_succ, List.getElem?_cons_zero]; rfl) (by kernel_rfl) (by kernel_rfl) (by kernel_rfl) (fun _ _ _ h => h) (Or.inl ⟨by rfl, ?_⟩) (by assumption) ?_
              rotate_left
              · (intro w hSw; (try dsimp only at hSw); go_simp; try with_reducible rfl)
              try simp only [Act.put, List.setIfInBounds_toArray, List.set_cons_zero, List.set_cons_succ]
              refine wpAnyH_take (i := 10) (v := ?_) (by simp only [List.getElem?_toArray, List.getElem?_cons_succ, List.getElem?_cons_zero]; rfl) (by kernel_rfl) (by kernel_rfl) (by kernel_rfl) (fun _ _ _ h => h) (Or.inl ⟨by rfl, ?_⟩) (by assumption) ?_
              rotate_left
              · (intro w hSw; (try dsimp only at hSw); go_simp; try with_reducible rfl)
              try simp only [Act.put, List.setIfInBounds_toArray, List.set_cons_zero, List.set_cons_succ]
              refine wpAnyH_take (i := 11) (v := ?_) (by simp only [List.getElem?_toArray, List.getElem?_cons_succ, List.getElem?_cons_zero]; rfl) (by kernel_rfl) (by kernel_rfl) (by kernel_rfl) (fun _ _ _ h => h) (Or.inl ⟨by rfl, ?_⟩) (by assumption) ?_
              rotate_left
              · (intro w hSw; (try dsimp only at hSw); go_simp; try with_reducible rfl)
              try simp only [Act.put, List.setIfInBounds_toArray, List.set_cons_zero, List.set_cons_succ]
              refine wpAnyH_take (i := 12) (v := ?_) (by simp only [List.getElem?_toArray, List.getElem?_cons_succ, List.getElem?_cons_zero]; rfl) (by kernel_rfl) (by kernel_rfl) (by kernel_rfl) (fun _ _ _ h => h) (Or.inl ⟨by rfl, ?_⟩) (by assumption) ?_
              rotate_left
              · (intro w hSw; (try dsimp only at hSw); go_simp; try with_reducible rfl)
              try simp only [Act.put, List.setIfInBounds_toArray, List.set_cons_zero, List.set_cons_succ]
              refine wpAnyH_ready (rs := [8]) (by kernel_rfl) (by simp) ?_
              refine AllReadyH.cons (by simp only [List.getElem?_toArray, List.getElem?_cons_succ, List.getElem?_cons_zero]; rfl) (fun K hK => ?_) AllReadyH.nil
              go_simp
              go_at_call 48
              refine (NU.out _).mono ?_
              rintro e v1 ⟨rfl, k1⟩
              have h1 := bstep (by first | exact hb | exact Below.drew hb) k1
              go_wp2_with fail
              refine hK.out _ _ (trivial) (fun hHeld => ?_)
              clear hK K
              try simp only [Act.put, List.setIfInBounds_toArray, List.set_cons_zero, List.set_cons_succ]
              refine wpAnyH_take (i := 13) (v := ?_) (by simp only [List.getElem?_toArray, List.getElem?_cons_succ, List.getElem?_cons_zero]; rfl) (by kernel_rfl) (by kernel_rfl) (by kernel_rfl) (fun _ _ _ h => h) (Or.inl ⟨by rfl, ?_⟩) (by assumption) ?_
              rotate_left
              · (intro w hSw; (try dsimp only at hSw); go_simp; try with_reducible rfl)
              try simp only [Act.put, List.setIfInBounds_toArray, List.set_cons_zero, List.set_cons_succ]
              refine wpAnyH_take (i := 14) (v := ?_) (by simp only [List.getElem?_toArray, List.getElem?_cons_succ, List.getElem?_cons_zero]; rfl) (by kernel_rfl) (by kernel_rfl) (by kernel_rfl) (fun _ _ _ h => h) (Or.inl ⟨by rfl, ?_⟩) (by assumption) ?_
              rotate_left
              · (intro w hSw; (try dsimp only at hSw); go_simp; try with_reducible rfl)
              try simp only [Act.put, List.setIfInBounds_toArray, List.set_cons_zero, List.set_cons_succ]
              refine wpAnyH_done (by kernel_rfl) ?_ _
              refine NoPanic.normal ?_
              have hown2 := hown.drew.kept (row := none) (grown_of k1) (Classical.em _)
              clear k1 hown
              have hs1 := h1.size
              go_wp2_with (at_builtin; refine wpList_append_own _ rfl _ _ 66 rfl w.heap.size 3 i0 (.int .i64 0) 1 8 Try.underlying66 hi hz0 hz1 hz2 rfl (by decide) _ _ _ rfl (hown2.alloc _) ⟨v1.heap.size, 0, none⟩ 1 1 [.int .i64 ((x : Nat) : Int)] rfl rfl (cell_one_new _ _ _) (by simp [Value.oneCell']) (by unfold maxLen; omega) (by omega) (by simp; omega) ?_; intro v' w1 hown' hgrow _)
              have hb1 : Below w.heap.size w w1 := Below.grown (h1.alloc hs1 _) hgrow (by simp; omega) (fun j hj => (hown2.lt _ hj).1)
              rw [ints_snoc] at hown'
              have ho2 : w1.ownsRow w.heap.size 3 1 v' (dn ++ [x]).length (ints (dn ++ [x])) := by rw [List.length_append]; exact hown'
              have HO := Lib.hid ho2
              clear ho2 hown' hown2 hgrow
              go_wp2
              go_roundw
              case rel => exact ⟨dn ++ [x], (figs (p.drop (e + 1))), e + 1, by go_num, Lib.hid (HMM.out.next b3 b4 HT.out.symm), Lib.hid (.inl ⟨by omega, rfl⟩), by omega, by rw [List.length_append]; simp; omega, HO.out, hb1⟩
              case measure => simp [intOf]; omega
            · have y5 : (t != f) = true := by rw [bne_iff_ne]; exact b5
              have y5b : (t == f) = false := by rw [beq_eq_false_iff_ne]; exact b5
              go_upto_region 11 with fail
              refine wp_region_noPanic ?_
              refine wp_region_held_drew (S := (fun _ => True)) (by kernel_rfl) (trivial) (fun hHeld => ?_)
              refine wpAnyH_take (i := 0) (v := ?_) (by simp only [List.getElem?_toArray, List.getElem?_cons_zero]; rfl) (by kernel_rfl) (by kernel_rfl) (by kernel_rfl) (fun _ _ _ h => h) (Or.inl ⟨by rfl, ?_⟩) (by assumption) ?_
              rotate_left
              · (intro w hSw; (try dsimp only at hSw); go_simp; try with_reducible rfl)
              try simp only [Act.put, List.setIfInBounds_toArray, List.set_cons_zero, List.set_cons_succ]
              refine wpAnyH_take (i := 1) (v := ?_) (by simp only [List.getElem?_toArray, List.getElem?_cons_succ, List.getElem?_cons_zero]; rfl) (by kernel_rfl) (by kernel_rfl) (by kernel_rfl) (fun _ _ _ h => h) (Or.inl ⟨by rfl, ?_⟩) (by assumption) ?_
              rotate_left
              · (intro w hSw; (try dsimp only at hSw); go_simp; try with_reducible rfl)
              try simp only [Act.put, List.setIfInBounds_toArray, List.set_cons_zero, List.set_cons_succ]
              refine wpAnyH_take (i := 2) (v := ?_) (by simp only [List.getElem?_toArray, List.getElem?_cons_succ, List.getElem?_cons_zero]; rfl) (by kernel_rfl) (by kernel_rfl) (by kernel_rfl) (fun _ _ _ h => h) (Or.inl ⟨by rfl, ?_⟩) (by assumption) ?_
              rotate_left
              · (intro w hSw; (try dsimp only at hSw); go_simp; try with_reducible rfl)
              try simp only [Act.put, List.setIfInBounds_toArray, List.set_cons_zero, List.set_cons_succ]
              refine wpAnyH_take (i := 3) (v := ?_) (by simp only [List.getElem?_toArray, List.getElem?_cons_succ, List.getElem?_cons_zero]; rfl) (by kernel_rfl) (by kernel_rfl) (by kernel_rfl) (fun _ _ _ h => h) (Or.inl ⟨by rfl, ?_⟩) (by assumption) ?_
              rotate_left
              · (intro w hSw; (try dsimp only at hSw); go_simp; try with_reducible rfl)
              try simp only [Act.put, List.setIfInBounds_toArray, List.set_cons_zero, List.set_cons_succ]
              refine wpAnyH_take (i := 4) (v := ?_) (by simp only [List.getElem?_toArray, List.getElem?_cons_succ, List.getElem?_cons_zero]; rfl) (by kernel_rfl) (by kernel_rfl) (by kernel_rfl) (fun _ _ _ h => h) (Or.inl ⟨by rfl, ?_⟩) (by assumption) ?_
              rotate_left
              · (intro w hSw; (try dsimp only at hSw); go_simp; try with_reducible rfl)
              try simp only [Act.put, List.setIfInBounds_toArray, List.set_cons_zero, List.set_cons_succ]
              refine wpAnyH_take (i := 5) (v := ?_) (by simp only [List.getElem?_toArray, List.getElem?_cons_succ, List.getElem?_cons_zero]; rfl) (by kernel_rfl) (by kernel_rfl) (by kernel_rfl) (fun _ _ _ h => h) (Or.inl ⟨by rfl, ?_⟩) (by assumption) ?_
              rotate_left
              · (intro w hSw; (try dsimp only at hSw); go_simp; try with_reducible rfl)
              try simp only [Act.put, List.setIfInBounds_toArray, List.set_cons_zero, List.set_cons_succ]
              refine wpAnyH_take (i := 6) (v := ?_) (by simp only [List.getElem?_toArray, List.getElem?_cons_succ, List.getElem?_cons_zero]; rfl) (by kernel_rfl) (by kernel_rfl) (by kernel_rfl) (fun _ _ _ h => h) (Or.inl ⟨by rfl, ?_⟩) (by assumption) ?_
              rotate_left
              · (intro w hSw; (try dsimp only at hSw); go_simp; try with_reducible rfl)
              try simp only [Act.put, List.setIfInBounds_toArray, List.set_cons_zero, List.set_cons_succ]
              refine wpAnyH_take (i := 7) (v := ?_) (by simp only [List.getElem?_toArray, List.getElem?_cons_succ, List.getElem?_cons_zero]; rfl) (by kernel_rfl) (by kernel_rfl) (by kernel_rfl) (fun _ _ _ h => h) (Or.inl ⟨by rfl, ?_⟩) (by assumption) ?_
              rotate_left
              · (intro w hSw; (try dsimp only at hSw); go_simp; try with_reducible rfl)
              try simp only [Act.put, List.setIfInBounds_toArray, List.set_cons_zero, List.set_cons_succ]
              refine wpAnyH_take (i := 9) (v := ?_) (by simp only [List.getElem?_toArray, List.getElem?_cons_succ, List.getElem?_cons_zero]; rfl) (by kernel_rfl) (by kernel_rfl) (by kernel_rfl) (fun _ _ _ h => h) (Or.inl ⟨by rfl, ?_⟩) (by assumption) ?_
              rotate_left
              · (intro w hSw; (try dsimp only at hSw); go_simp; try with_reducible rfl)
              try simp only [Act.put, List.setIfInBounds_toArray, List.set_cons_zero, List.set_cons_succ]
              refine wpAnyH_take (i := 10) (v := ?_) (by simp only [List.getElem?_toArray, List.getElem?_cons_succ, List.getElem?_cons_zero]; rfl) (by kernel_rfl) (by kernel_rfl) (by kernel_rfl) (fun _ _ _ h => h) (Or.inl ⟨by rfl, ?_⟩) (by assumption) ?_
              rotate_left
              · (intro w hSw; (try dsimp only at hSw); go_simp; try with_reducible rfl)
              try simp only [Act.put, List.setIfInBounds_toArray, List.set_cons_zero, List.set_cons_succ]
              refine wpAnyH_take (i := 11) (v := ?_) (by simp only [List.getElem?_toArray, List.getElem?_cons_succ, List.getElem?_cons_zero]; rfl) (by kernel_rfl) (by kernel_rfl) (by kernel_rfl) (fun _ _ _ h => h) (Or.inl ⟨by rfl, ?_⟩) (by assumption) ?_
              rotate_left
              · (intro w hSw; (try dsimp only at hSw); go_simp; try with_reducible rfl)
              try simp only [Act.put, List.setIfInBounds_toArray, List.set_cons_zero, List.set_cons_succ]
              refine wpAnyH_take (i := 12) (v := ?_) (by simp only [List.getElem?_toArray, List.getElem?_cons_succ, List.getElem?_cons_zero]; rfl) (by kernel_rfl) (by kernel_rfl) (by kernel_rfl) (fun _ _ _ h => h) (Or.inl ⟨by rfl, ?_⟩) (by assumption) ?_
              rotate_left
              · (intro w hSw; (try dsimp only at hSw); go_simp; try with_reducible rfl)
              try simp only [Act.put, List.setIfInBounds_toArray, List.set_cons_zero, List.set_cons_succ]
              refine wpAnyH_ready (rs := [8]) (by kernel_rfl) (by simp) ?_
              refine AllReadyH.cons (by simp only [List.getElem?_toArray, List.getElem?_cons_succ, List.getElem?_cons_zero]; rfl) (fun K hK => ?_) AllReadyH.nil
              go_simp
              go_at_call 48
              refine (NU.out _).mono ?_
              rintro e v2 ⟨rfl, k2⟩
              have h2 := bstep (by first | exact hb | exact Below.drew hb) k2
              go_wp2_with fail
              refine hK.out _ _ (trivial) (fun hHeld => ?_)
              clear hK K
              try simp only [Act.put, List.setIfInBounds_toArray, List.set_cons_zero, List.set_cons_succ]
              refine wpAnyH_take (i := 13) (v := ?_) (by simp only [List.getElem?_toArray, List.getElem?_cons_succ, List.getElem?_cons_zero]; rfl) (by kernel_rfl) (by kernel_rfl) (by kernel_rfl) (fun _ _ _ h => h) (Or.inl ⟨by rfl, ?_⟩) (by assumption) ?_
              rotate_left
              · (intro w hSw; (try dsimp only at hSw); go_simp; try with_reducible rfl)
              try simp only [Act.put, List.setIfInBounds_toArray, List.set_cons_zero, List.set_cons_succ]
              refine wpAnyH_take (i := 14) (v := ?_) (by simp only [List.getElem?_toArray, List.getElem?_cons_succ, List.getElem?_cons_zero]; rfl) (by kernel_rfl) (by kernel_rfl) (by kernel_rfl) (fun _ _ _ h => h) (Or.inl ⟨by rfl, ?_⟩) (by assumption) ?_
              rotate_left
              · (intro w hSw; (try dsimp only at hSw); go_simp; try with_reducible rfl)
              try simp only [Act.put, List.setIfInBounds_toArray, List.set_cons_zero, List.set_cons_succ]
              refine wpAnyH_done (by kernel_rfl) ?_ _
              refine NoPanic.normal ?_
              go_wp2
              go_ret2
              exact read_bad (HMM.out.bad (HI2.out.none (.inr (.inr (by rw [← HT.out]; exact b5))))) h2
          | false =>
            have h3 := h2 rfl
            have heN2 : N ≤ e := by omega
            have hd2 : decide ((e : Int) < (N : Int)) = false := decide_eq_false (by omega)
            have hFn : F = f :: [] := by rw [HFF.out, if_neg (by decide)]
            have hm := HM.out
            rw [hFn] at hm
            have HMM := Lib.hid hm
            clear hm hFn h1 h2 he hfl2 hn h3
            by_cases b1 : x < 1
            · have x1 : decide ((x : Int) < 1) = true := decide_eq_true (by omega)
              go_upto_region 11 with fail
              refine wp_region_noPanic ?_
              refine wp_region_held_drew (S := (fun _ => True)) (by kernel_rfl) (trivial) (fun hHeld => ?_)
              refine wpAnyH_take (i := 0) (v := ?_) (by simp only [List.getElem?_toArray, List.getElem?_cons_zero]; rfl) (by kernel_rfl) (by kernel_rfl) (by kernel_rfl) (fun _ _ _ h => h) (Or.inl ⟨by rfl, ?_⟩) (by assumption) ?_
              rotate_left
              · (intro w hSw; (try dsimp only at hSw); go_simp; try with_reducible rfl)
              try simp only [Act.put, List.setIfInBounds_toArray, List.set_cons_zero, List.set_cons_succ]
              refine wpAnyH_take (i := 1) (v := ?_) (by simp only [List.getElem?_toArray, List.getElem?_cons_succ, List.getElem?_cons_zero]; rfl) (by kernel_rfl) (by kernel_rfl) (by kernel_rfl) (fun _ _ _ h => h) (Or.inl ⟨by rfl, ?_⟩) (by assumption) ?_
              rotate_left
              · (intro w hSw; (try dsimp only at hSw); go_simp; try with_reducible rfl)
              try simp only [Act.put, List.setIfInBounds_toArray, List.set_cons_zero, List.set_cons_succ]
              refine wpAnyH_take (i := 2) (v := ?_) (by simp only [List.getElem?_toArray, List.getElem?_cons_succ, List.getElem?_cons_zero]; rfl) (by kernel_rfl) (by kernel_rfl) (by kernel_rfl) (fun _ _ _ h => h) (Or.inl ⟨by rfl, ?_⟩) (by assumption) ?_
              rotate_left
              · (intro w hSw; (try dsimp only at hSw); go_simp; try with_reducible rfl)
              try simp only [Act.put, List.setIfInBounds_toArray, List.set_cons_zero, List.set_cons_succ]
              refine wpAnyH_take (i := 3) (v := undef) (by simp only [List.getElem?_toArray, List.getElem?_cons_succ, List.getElem?_cons_zero]; rfl) (by kernel_rfl) (by kernel_rfl) (by kernel_rfl) (fun _ _ _ h => h) (Or.inr ⟨by rfl, rfl⟩) (by assumption) ?_
              try simp only [Act.put, List.setIfInBounds_toArray, List.set_cons_zero, List.set_cons_succ]
              refine wpAnyH_take (i := 4) (v := undef) (by simp only [List.getElem?_toArray, List.getElem?_cons_succ, List.getElem?_cons_zero]; rfl) (by kernel_rfl) (by kernel_rfl) (by kernel_rfl) (fun _ _ _ h => h) (Or.inr ⟨by rfl, rfl⟩) (by assumption) ?_
              try simp only [Act.put, List.setIfInBounds_toArray, List.set_cons_zero, List.set_cons_succ]
              refine wpAnyH_take (i := 5) (v := ?_) (by simp only [List.getElem?_toArray, List.getElem?_cons_succ, List.getElem?_cons_zero]; rfl) (by kernel_rfl) (by kernel_rfl) (by kernel_rfl) (fun _ _ _ h => h) (Or.inl ⟨by rfl, ?_⟩) (by assumption) ?_
              rotate_left
              · (intro w hSw; (try dsimp only at hSw); go_simp; try with_reducible rfl)
              try simp only [Act.put, List.setIfInBounds_toArray, List.set_cons_zero, List.set_cons_succ]
              refine wpAnyH_take (i := 6) (v := ?_) (by simp only [List.getElem?_toArray, List.getElem?_cons_succ, List.getElem?_cons_zero]; rfl) (by kernel_rfl) (by kernel_rfl) (by kernel_rfl) (fun _ _ _ h => h) (Or.inl ⟨by rfl, ?_⟩) (by assumption) ?_
              rotate_left
              · (intro w hSw; (try dsimp only at hSw); go_simp; try with_reducible rfl)
              try simp only [Act.put, List.setIfInBounds_toArray, List.set_cons_zero, List.set_cons_succ]
              refine wpAnyH_take (i := 7) (v := undef) (by simp only [List.getElem?_toArray, List.getElem?_cons_succ, List.getElem?_cons_zero]; rfl) (by kernel_rfl) (by kernel_rfl) (by kernel_rfl) (fun _ _ _ h => h) (Or.inr ⟨by rfl, rfl⟩) (by assumption) ?_
              try simp only [Act.put, List.setIfInBounds_toArray, List.set_cons_zero, List.set_cons_succ]
              refine wpAnyH_take (i := 8) (v := undef) (by simp only [List.getElem?_toArray, List.getElem?_cons_succ, List.getElem?_cons_zero]; rfl) (by kernel_rfl) (by kernel_rfl) (by kernel_rfl) (fun _ _ _ h => h) (Or.inr ⟨by rfl, rfl⟩) (by assumption) ?_
              try simp only [Act.put, List.setIfInBounds_toArray, List.set_cons_zero, List.set_cons_succ]
              refine wpAnyH_take (i := 9) (v := undef) (by simp only [List.getElem?_toArray, List.getElem?_cons_succ, List.getElem?_cons_zero]; rfl) (by kernel_rfl) (by kernel_rfl) (by kernel_rfl) (fun _ _ _ h => h) (Or.inr ⟨by rfl, rfl⟩) (by assumption) ?_
              try simp only [Act.put, List.setIfInBounds_toArray, List.set_cons_zero, List.set_cons_succ]
              refine wpAnyH_take (i := 10) (v := undef) (by simp only [List.getElem?_toArray, List.getElem?_cons_succ, List.getElem?_cons_zero]; rfl) (by kernel_rfl) (by kernel_rfl) (by kernel_rfl) (fun _ _ _ h => h) (Or.inr ⟨by rfl, rfl⟩) (by assumption) ?_
              try simp only [Act.put, List.setIfInBounds_toArray, List.set_cons_zero, List.set_cons_succ]
              refine wpAnyH_take (i := 11) (v := undef) (by simp only [List.getElem?_toArray, List.getElem?_cons_succ, List.getElem?_cons_zero]; rfl) (by kernel_rfl) (by kernel_rfl) (by kernel_rfl) (fun _ _ _ h => h) (Or.inr ⟨by rfl, rfl⟩) (by assumption) ?_
              try simp only [Act.put, List.setIfInBounds_toArray, List.set_cons_zero, List.set_cons_succ]
              refine wpAnyH_take (i := 12) (v := undef) (by simp only [List.getElem?_toArray, List.getElem?_cons_succ, List.getElem?_cons_zero]; rfl) (by kernel_rfl) (by kernel_rfl) (by kernel_rfl) (fun _ _ _ h => h) (Or.inr ⟨by rfl, rfl⟩) (by assumption) ?_
              try simp only [Act.put, List.setIfInBounds_toArray, List.set_cons_zero, List.set_cons_succ]
              refine wpAnyH_take (i := 13) (v := undef) (by simp only [List.getElem?_toArray, List.getElem?_cons_succ, List.getElem?_cons_zero]; rfl) (by kernel_rfl) (by kernel_rfl) (by kernel_rfl) (fun _ _ _ h => h) (Or.inr ⟨by rfl, rfl⟩) (by assumption) ?_
              try simp only [Act.put, List.setIfInBounds_toArray, List.set_cons_zero, List.set_cons_succ]
              refine wpAnyH_take (i := 14) (v := ?_) (by simp only [List.getElem?_toArray, List.getElem?_cons_succ, List.getElem?_cons_zero]; rfl) (by kernel_rfl) (by kernel_rfl) (by kernel_rfl) (fun _ _ _ h => h) (Or.inl ⟨by rfl, ?_⟩) (by assumption) ?_
              rotate_left
              · (intro w hSw; (try dsimp only at hSw); go_simp; try with_reducible rfl)
              try simp only [Act.put, List.setIfInBounds_toArray, List.set_cons_zero, List.set_cons_succ]
              refine wpAnyH_done (by kernel_rfl) ?_ _
              refine NoPanic.normal ?_
              go_wp2
              go_ret2
              exact read_bad (HMM.out.bad (HI2.out.none (by omega))) (Below.drew hb)
            have x1 : decide ((x : Int) < 1) = false := decide_eq_false (by omega)
            by_cases b2 : 1073741824 < x
            · have x2 : decide ((x : Int) > 1073741824) = true := decide_eq_true (by omega)
              have x2' : decide ((1073741824 : Int) < (x : Int)) = true := decide_eq_true (by omega)
              go_upto_region 11 with fail
              refine wp_region_noPanic ?_
              refine wp_region_held_drew (S := (fun _ => True)) (by kernel_rfl) (trivial) (fun hHeld => ?_)
              refine wpAnyH_take (i := 0) (v := ?_) (by simp only [List.getElem?_toArray, List.getElem?_cons_zero]; rfl) (by kernel_rfl) (by kernel_rfl) (by kernel_rfl) (fun _ _ _ h => h) (Or.inl ⟨by rfl, ?_⟩) (by assumption) ?_
              rotate_left
              · (intro w hSw; (try dsimp only at hSw); go_simp; try with_reducible rfl)
              try simp only [Act.put, List.setIfInBounds_toArray, List.set_cons_zero, List.set_cons_succ]
              refine wpAnyH_take (i := 1) (v := ?_) (by simp only [List.getElem?_toArray, List.getElem?_cons_succ, List.getElem?_cons_zero]; rfl) (by kernel_rfl) (by kernel_rfl) (by kernel_rfl) (fun _ _ _ h => h) (Or.inl ⟨by rfl, ?_⟩) (by assumption) ?_
              rotate_left
              · (intro w hSw; (try dsimp only at hSw); go_simp; try with_reducible rfl)
              try simp only [Act.put, List.setIfInBounds_toArray, List.set_cons_zero, List.set_cons_succ]
              refine wpAnyH_take (i := 2) (v := ?_) (by simp only [List.getElem?_toArray, List.getElem?_cons_succ, List.getElem?_cons_zero]; rfl) (by kernel_rfl) (by kernel_rfl) (by kernel_rfl) (fun _ _ _ h => h) (Or.inl ⟨by rfl, ?_⟩) (by assumption) ?_
              rotate_left
              · (intro w hSw; (try dsimp only at hSw); go_simp; try with_reducible rfl)
              try simp only [Act.put, List.setIfInBounds_toArray, List.set_cons_zero, List.set_cons_succ]
              refine wpAnyH_take (i := 3) (v := ?_) (by simp only [List.getElem?_toArray, List.getElem?_cons_succ, List.getElem?_cons_zero]; rfl) (by kernel_rfl) (by kernel_rfl) (by kernel_rfl) (fun _ _ _ h => h) (Or.inl ⟨by rfl, ?_⟩) (by assumption) ?_
              rotate_left
              · (intro w hSw; (try dsimp only at hSw); go_simp; try with_reducible rfl)
              try simp only [Act.put, List.setIfInBounds_toArray, List.set_cons_zero, List.set_cons_succ]
              refine wpAnyH_take (i := 4) (v := ?_) (by simp only [List.getElem?_toArray, List.getElem?_cons_succ, List.getElem?_cons_zero]; rfl) (by kernel_rfl) (by kernel_rfl) (by kernel_rfl) (fun _ _ _ h => h) (Or.inl ⟨by rfl, ?_⟩) (by assumption) ?_
              rotate_left
              · (intro w hSw; (try dsimp only at hSw); go_simp; try with_reducible rfl)
              try simp only [Act.put, List.setIfInBounds_toArray, List.set_cons_zero, List.set_cons_succ]
              refine wpAnyH_take (i := 5) (v := ?_) (by simp only [List.getElem?_toArray, List.getElem?_cons_succ, List.getElem?_cons_zero]; rfl) (by kernel_rfl) (by kernel_rfl) (by kernel_rfl) (fun _ _ _ h => h) (Or.inl ⟨by rfl, ?_⟩) (by assumption) ?_
              rotate_left
              · (intro w hSw; (try dsimp only at hSw); go_simp; try with_reducible rfl)
              try simp only [Act.put, List.setIfInBounds_toArray, List.set_cons_zero, List.set_cons_succ]
              refine wpAnyH_take (i := 6) (v := ?_) (by simp only [List.getElem?_toArray, List.getElem?_cons_succ, List.getElem?_cons_zero]; rfl) (by kernel_rfl) (by kernel_rfl) (by kernel_rfl) (fun _ _ _ h => h) (Or.inl ⟨by rfl, ?_⟩) (by assumption) ?_
              rotate_left
              · (intro w hSw; (try dsimp only at hSw); go_simp; try with_reducible rfl)
              try simp only [Act.put, List.setIfInBounds_toArray, List.set_cons_zero, List.set_cons_succ]
              refine wpAnyH_take (i := 7) (v := undef) (by simp only [List.getElem?_toArray, List.getElem?_cons_succ, List.getElem?_cons_zero]; rfl) (by kernel_rfl) (by kernel_rfl) (by kernel_rfl) (fun _ _ _ h => h) (Or.inr ⟨by rfl, rfl⟩) (by assumption) ?_
              try simp only [Act.put, List.setIfInBounds_toArray, List.set_cons_zero, List.set_cons_succ]
              refine wpAnyH_take (i := 8) (v := undef) (by simp only [List.getElem?_toArray, List.getElem?_cons_succ, List.getElem?_cons_zero]; rfl) (by kernel_rfl) (by kernel_rfl) (by kernel_rfl) (fun _ _ _ h => h) (Or.inr ⟨by rfl, rfl⟩) (by assumption) ?_
              try simp only [Act.put, List.setIfInBounds_toArray, List.set_cons_zero, List.set_cons_succ]
              refine wpAnyH_take (i := 9) (v := undef) (by simp only [List.getElem?_toArray, List.getElem?_cons_succ, List.getElem?_cons_zero]; rfl) (by kernel_rfl) (by kernel_rfl) (by kernel_rfl) (fun _ _ _ h => h) (Or.inr ⟨by rfl, rfl⟩) (by assumption) ?_
              try simp only [Act.put, List.setIfInBounds_toArray, List.set_cons_zero, List.set_cons_succ]
              refine wpAnyH_take (i := 10) (v := undef) (by simp only [List.getElem?_toArray, List.getElem?_cons_succ, List.getElem?_cons_zero]; rfl) (by kernel_rfl) (by kernel_rfl) (by kernel_rfl) (fun _ _ _ h => h) (Or.inr ⟨by rfl, rfl⟩) (by assumption) ?_
              try simp only [Act.put, List.setIfInBounds_toArray, List.set_cons_zero, List.set_cons_succ]
              refine wpAnyH_take (i := 11) (v := undef) (by simp only [List.getElem?_toArray, List.getElem?_cons_succ, List.getElem?_cons_zero]; rfl) (by kernel_rfl) (by kernel_rfl) (by kernel_rfl) (fun _ _ _ h => h) (Or.inr ⟨by rfl, rfl⟩) (by assumption) ?_
              try simp only [Act.put, List.setIfInBounds_toArray, List.set_cons_zero, List.set_cons_succ]
              refine wpAnyH_take (i := 12) (v := undef) (by simp only [List.getElem?_toArray, List.getElem?_cons_succ, List.getElem?_cons_zero]; rfl) (by kernel_rfl) (by kernel_rfl) (by kernel_rfl) (fun _ _ _ h => h) (Or.inr ⟨by rfl, rfl⟩) (by assumption) ?_
              try simp only [Act.put, List.setIfInBounds_toArray, List.set_cons_zero, List.set_cons_succ]
              refine wpAnyH_take (i := 13) (v := undef) (by simp only [List.getElem?_toArray, List.getElem?_cons_succ, List.getElem?_cons_zero]; rfl) (by kernel_rfl) (by kernel_rfl) (by kernel_rfl) (fun _ _ _ h => h) (Or.inr ⟨by rfl, rfl⟩) (by assumption) ?_
              try simp only [Act.put, List.setIfInBounds_toArray, List.set_cons_zero, List.set_cons_succ]
              refine wpAnyH_take (i := 14) (v := ?_) (by simp only [List.getElem?_toArray, List.getElem?_cons_succ, List.getElem?_cons_zero]; rfl) (by kernel_rfl) (by kernel_rfl) (by kernel_rfl) (fun _ _ _ h => h) (Or.inl ⟨by rfl, ?_⟩) (by assumption) ?_
              rotate_left
              · (intro w hSw; (try dsimp only at hSw); go_simp; try with_reducible rfl)
              try simp only [Act.put, List.setIfInBounds_toArray, List.set_cons_zero, List.set_cons_succ]
              refine wpAnyH_done (by kernel_rfl) ?_ _
              refine NoPanic.normal ?_
              go_wp2
              go_ret2
              exact read_bad (HMM.out.bad (HI2.out.none (by omega))) (Below.drew hb)
            have x2 : decide ((x : Int) > 1073741824) = false := decide_eq_false (by omega)
            have x2' : decide ((1073741824 : Int) < (x : Int)) = false := decide_eq_false (by omega)
            have NU := Lib.hid (fun w => num_any x w (by omega))
            have b3 : 1 ≤ x := by omega
            have b4 : x ≤ 1073741824 := by omega
            clear b1 b2
            obtain ⟨t, ht⟩ : ∃ t, t = Lib.decDigits x := ⟨_, rfl⟩
            rw [← ht] at NU
            have HT := Lib.hid ht
            clear ht
            by_cases b5 : t = f
            ·
              subst b5
              go_upto_region 11 with fail
              refine wp_region_noPanic ?_
              refine wp_region_held_drew (S := (fun _ => True)) (by kernel_rfl) (trivial) (fun hHeld => ?_)
              refine wpAnyH_take (i := 0) (v := ?_) (by simp only [List.getElem?_toArray, List.getElem?_cons_zero]; rfl) (by kernel_rfl) (by kernel_rfl) (by kernel_rfl) (fun _ _ _ h => h) (Or.inl ⟨by rfl, ?_⟩) (by assumption) ?_
              rotate_left
              · (intro w hSw; (try dsimp only at hSw); go_simp; try with_reducible rfl)
              try simp only [Act.put, List.setIfInBounds_toArray, List.set_cons_zero, List.set_cons_succ]
              refine wpAnyH_take (i := 1) (v := ?_) (by simp only [List.getElem?_toArray, List.getElem?_cons_succ, List.getElem?_cons_zero]; rfl) (by kernel_rfl) (by kernel_rfl) (by kernel_rfl) (fun _ _ _ h => h) (Or.inl ⟨by rfl, ?_⟩) (by assumption) ?_
              rotate_left
              · (intro w hSw; (try dsimp only at hSw); go_simp; try with_reducible rfl)
              try simp only [Act.put, List.setIfInBounds_toArray, List.set_cons_zero, List.set_cons_succ]
              refine wpAnyH_take (i := 2) (v := ?_) (by simp only [List.getElem?_toArray, List.getElem?_cons_succ, List.getElem?_cons_zero]; rfl) (by kernel_rfl) (by kernel_rfl) (by kernel_rfl) (fun _ _ _ h => h) (Or.inl ⟨by rfl, ?_⟩) (by assumption) ?_
              rotate_left
              · (intro w hSw; (try dsimp only at hSw); go_simp; try with_reducible rfl)
              try simp only [Act.put, List.setIfInBounds_toArray, List.set_cons_zero, List.set_cons_succ]
              refine wpAnyH_take (i := 3) (v := ?_) (by simp only [List.getElem?_toArray, List.getElem?_cons_succ, List.getElem?_cons_zero]; rfl) (by kernel_rfl) (by kernel_rfl) (by kernel_rfl) (fun _ _ _ h => h) (Or.inl ⟨by rfl, ?_⟩) (by assumption) ?_
              rotate_left
              · (intro w hSw; (try dsimp only at hSw); go_simp; try with_reducible rfl)
              try simp only [Act.put, List.setIfInBounds_toArray, List.set_cons_zero, List.set_cons_succ]
              refine wpAnyH_take (i := 4) (v := ?_) (by simp only [List.getElem?_toArray, List.getElem?_cons_succ, List.getElem?_cons_zero]; rfl) (by kernel_rfl) (by kernel_rfl) (by kernel_rfl) (fun _ _ _ h => h) (Or.inl ⟨by rfl, ?_⟩) (by assumption) ?_
              rotate_left
              · (intro w hSw; (try dsimp only at hSw); go_simp; try with_reducible rfl)
              try simp only [Act.put, List.setIfInBounds_toArray, List.set_cons_zero, List.set_cons_succ]
              refine wpAnyH_take (i := 5) (v := ?_) (by simp only [List.getElem?_toArray, List.getElem?_cons_succ, List.getElem?_cons_zero]; rfl) (by kernel_rfl) (by kernel_rfl) (by kernel_rfl) (fun _ _ _ h => h) (Or.inl ⟨by rfl, ?_⟩) (by assumption) ?_
              rotate_left
              · (intro w hSw; (try dsimp only at hSw); go_simp; try with_reducible rfl)
              try simp only [Act.put, List.setIfInBounds_toArray, List.set_cons_zero, List.set_cons_succ]
              refine wpAnyH_take (i := 6) (v := ?_) (by simp only [List.getElem?_toArray, List.getElem?_cons_succ, List.getElem?_cons_zero]; rfl) (by kernel_rfl) (by kernel_rfl) (by kernel_rfl) (fun _ _ _ h => h) (Or.inl ⟨by rfl, ?_⟩) (by assumption) ?_
              rotate_left
              · (intro w hSw; (try dsimp only at hSw); go_simp; try with_reducible rfl)
              try simp only [Act.put, List.setIfInBounds_toArray, List.set_cons_zero, List.set_cons_succ]
              refine wpAnyH_take (i := 7) (v := ?_) (by simp only [List.getElem?_toArray, List.getElem?_cons_succ, List.getElem?_cons_zero]; rfl) (by kernel_rfl) (by kernel_rfl) (by kernel_rfl) (fun _ _ _ h => h) (Or.inl ⟨by rfl, ?_⟩) (by assumption) ?_
              rotate_left
              · (intro w hSw; (try dsimp only at hSw); go_simp; try with_reducible rfl)
              try simp only [Act.put, List.setIfInBounds_toArray, List.set_cons_zero, List.set_cons_succ]
              refine wpAnyH_take (i := 9) (v := ?_) (by simp only [List.getElem?_toArray, List.getElem?_cons_succ, List.getElem?_cons_zero]; rfl) (by kernel_rfl) (by kernel_rfl) (by kernel_rfl) (fun _ _ _ h => h) (Or.inl ⟨by rfl, ?_⟩) (by assumption) ?_
              rotate_left
              · (intro w hSw; (try dsimp only at hSw); go_simp; try with_reducible rfl)
              try simp only [Act.put, List.setIfInBounds_toArray, List.set_cons_zero, List.set_cons_succ]
              refine wpAnyH_take (i := 10) (v := ?_) (by simp only [List.getElem?_toArray, List.getElem?_cons_succ, List.getElem?_cons_zero]; rfl) (by kernel_rfl) (by kernel_rfl) (by kernel_rfl) (fun _ _ _ h => h) (Or.inl ⟨by rfl, ?_⟩) (by assumption) ?_
              rotate_left
              · (intro w hSw; (try dsimp only at hSw); go_simp; try with_reducible rfl)
              try simp only [Act.put, List.setIfInBounds_toArray, List.set_cons_zero, List.set_cons_succ]
              refine wpAnyH_take (i := 11) (v := ?_) (by simp only [List.getElem?_toArray, List.getElem?_cons_succ, List.getElem?_cons_zero]; rfl) (by kernel_rfl) (by kernel_rfl) (by kernel_rfl) (fun _ _ _ h => h) (Or.inl ⟨by rfl, ?_⟩) (by assumption) ?_
              rotate_left
              · (intro w hSw; (try dsimp only at hSw); go_simp; try with_reducible rfl)
              try simp only [Act.put, List.setIfInBounds_toArray, List.set_cons_zero, List.set_cons_succ]
              refine wpAnyH_take (i := 12) (v := ?_) (by simp only [List.getElem?_toArray, List.getElem?_cons_succ, List.getElem?_cons_zero]; rfl) (by kernel_rfl) (by kernel_rfl) (by kernel_rfl) (fun _ _ _ h => h) (Or.inl ⟨by rfl, ?_⟩) (by assumption) ?_
              rotate_left
              · (intro w hSw; (try dsimp only at hSw); go_simp; try with_reducible rfl)
              try simp only [Act.put, List.setIfInBounds_toArray, List.set_cons_zero, List.set_cons_succ]
              refine wpAnyH_ready (rs := [8]) (by kernel_rfl) (by simp) ?_
              refine AllReadyH.cons (by simp only [List.getElem?_toArray, List.getElem?_cons_succ, List.getElem?_cons_zero]; rfl) (fun K hK => ?_) AllReadyH.nil
              go_simp
              go_at_call 48
              refine (NU.out _).mono ?_
              rintro e v3 ⟨rfl, k3⟩
              have h3 := bstep (by first | exact hb | exact Below.drew hb) k3
              go_wp2_with fail
              refine hK.out _ _ (trivial) (fun hHeld => ?_)
              clear hK K
              try simp only [Act.put, List.setIfInBounds_toArray, List.set_cons_zero, List.set_cons_succ]
              refine wpAnyH_take (i := 13) (v := ?_) (by simp only [List.getElem?_toArray, List.getElem?_cons_succ, List.getElem?_cons_zero]; rfl) (by kernel_rfl) (by kernel_rfl) (by kernel_rfl) (fun _ _ _ h => h) (Or.inl ⟨by rfl, ?_⟩) (by assumption) ?_
              rotate_left
              · (intro w hSw; (try dsimp only at hSw); go_simp; try with_reducible rfl)
              try simp only [Act.put, List.setIfInBounds_toArray, List.set_cons_zero, List.set_cons_succ]
              refine wpAnyH_take (i := 14) (v := ?_) (by simp only [List.getElem?_toArray, List.getElem?_cons_succ, List.getElem?_cons_zero]; rfl) (by kernel_rfl) (by kernel_rfl) (by kernel_rfl) (fun _ _ _ h => h) (Or.inl ⟨by rfl, ?_⟩) (by assumption) ?_
              rotate_left
              · (intro w hSw; (try dsimp only at hSw); go_simp; try with_reducible rfl)
              try simp only [Act.put, List.setIfInBounds_toArray, List.set_cons_zero, List.set_cons_succ]
              refine wpAnyH_done (by kernel_rfl) ?_ _
              refine NoPanic.normal ?_
              have hown2 := hown.drew.kept (row := none) (grown_of k3) (Classical.em _)
              clear k3 hown
              have hs3 := h3.size
              go_wp2_with (at_builtin; refine wpList_append_own _ rfl _ _ 66 rfl w.heap.size 3 i0 (.int .i64 0) 1 8 Try.underlying66 hi hz0 hz1 hz2 rfl (by decide) _ _ _ rfl (hown2.alloc _) ⟨v3.heap.size, 0, none⟩ 1 1 [.int .i64 ((x : Nat) : Int)] rfl rfl (cell_one_new _ _ _) (by simp [Value.oneCell']) (by unfold maxLen; omega) (by omega) (by simp; omega) ?_; intro v' w1 hown' hgrow _)
              have hb1 : Below w.heap.size w w1 := Below.grown (h3.alloc hs3 _) hgrow (by simp; omega) (fun j hj => (hown2.lt _ hj).1)
              rw [ints_snoc] at hown'
              have ho2 : w1.ownsRow w.heap.size 3 1 v' (dn ++ [x]).length (ints (dn ++ [x])) := by rw [List.length_append]; exact hown'
              have HO := Lib.hid ho2
              clear ho2 hown' hown2 hgrow
              go_wp2
              go_roundw
              case rel => exact ⟨dn ++ [x], [], e + 1, by go_num, Lib.hid (HMM.out.next b3 b4 HT.out.symm), Lib.hid (.inr ⟨by omega, rfl⟩), by omega, by rw [List.length_append]; simp; omega, HO.out, hb1⟩
              case measure => simp [intOf]; omega
            · have y5 : (t != f) = true := by rw [bne_iff_ne]; exact b5
              have y5b : (t == f) = false := by rw [beq_eq_false_iff_ne]; exact b5
              go_upto_region 11 with fail
              refine wp_region_noPanic ?_
              refine wp_region_held_drew (S := (fun _ => True)) (by kernel_rfl) (trivial) (fun hHeld => ?_)
              refine wpAnyH_take (i := 0) (v := ?_) (by simp only [List.getElem?_toArray, List.getElem?_cons_zero]; rfl) (by kernel_rfl) (by kernel_rfl) (by kernel_rfl) (fun _ _ _ h => h) (Or.inl ⟨by rfl, ?_⟩) (by assumption) ?_
              rotate_left
              · (intro w hSw; (try dsimp only at hSw); go_simp; try with_reducible rfl)
              try simp only [Act.put, List.setIfInBounds_toArray, List.set_cons_zero, List.set_cons_succ]
              refine wpAnyH_take (i := 1) (v := ?_) (by simp only [List.getElem?_toArray, List.getElem?_cons_succ, List.getElem?_cons_zero]; rfl) (by kernel_rfl) (by kernel_rfl) (by kernel_rfl) (fun _ _ _ h => h) (Or.inl ⟨by rfl, ?_⟩) (by assumption) ?_
              rotate_left
              · (intro w hSw; (try dsimp only at hSw); go_simp; try with_reducible rfl)
              try simp only [Act.put, List.setIfInBounds_toArray, List.set_cons_zero, List.set_cons_succ]
              refine wpAnyH_take (i := 2) (v := ?_) (by simp only [List.getElem?_toArray, List.getElem?_cons_succ, List.getElem?_cons_zero]; rfl) (by kernel_rfl) (by kernel_rfl) (by kernel_rfl) (fun _ _ _ h => h) (Or.inl ⟨by rfl, ?_⟩) (by assumption) ?_
              rotate_left
              · (intro w hSw; (try dsimp only at hSw); go_simp; try with_reducible rfl)
              try simp only [Act.put, List.setIfInBounds_toArray, List.set_cons_zero, List.set_cons_succ]
              refine wpAnyH_take (i := 3) (v := ?_) (by simp only [List.getElem?_toArray, List.getElem?_cons_succ, List.getElem?_cons_zero]; rfl) (by kernel_rfl) (by kernel_rfl) (by kernel_rfl) (fun _ _ _ h => h) (Or.inl ⟨by rfl, ?_⟩) (by assumption) ?_
              rotate_left
              · (intro w hSw; (try dsimp only at hSw); go_simp; try with_reducible rfl)
              try simp only [Act.put, List.setIfInBounds_toArray, List.set_cons_zero, List.set_cons_succ]
              refine wpAnyH_take (i := 4) (v := ?_) (by simp only [List.getElem?_toArray, List.getElem?_cons_succ, List.getElem?_cons_zero]; rfl) (by kernel_rfl) (by kernel_rfl) (by kernel_rfl) (fun _ _ _ h => h) (Or.inl ⟨by rfl, ?_⟩) (by assumption) ?_
              rotate_left
              · (intro w hSw; (try dsimp only at hSw); go_simp; try with_reducible rfl)
              try simp only [Act.put, List.setIfInBounds_toArray, List.set_cons_zero, List.set_cons_succ]
              refine wpAnyH_take (i := 5) (v := ?_) (by simp only [List.getElem?_toArray, List.getElem?_cons_succ, List.getElem?_cons_zero]; rfl) (by kernel_rfl) (by kernel_rfl) (by kernel_rfl) (fun _ _ _ h => h) (Or.inl ⟨by rfl, ?_⟩) (by assumption) ?_
              rotate_left
              · (intro w hSw; (try dsimp only at hSw); go_simp; try with_reducible rfl)
              try simp only [Act.put, List.setIfInBounds_toArray, List.set_cons_zero, List.set_cons_succ]
              refine wpAnyH_take (i := 6) (v := ?_) (by simp only [List.getElem?_toArray, List.getElem?_cons_succ, List.getElem?_cons_zero]; rfl) (by kernel_rfl) (by kernel_rfl) (by kernel_rfl) (fun _ _ _ h => h) (Or.inl ⟨by rfl, ?_⟩) (by assumption) ?_
              rotate_left
              · (intro w hSw; (try dsimp only at hSw); go_simp; try with_reducible rfl)
              try simp only [Act.put, List.setIfInBounds_toArray, List.set_cons_zero, List.set_cons_succ]
              refine wpAnyH_take (i := 7) (v := ?_) (by simp only [List.getElem?_toArray, List.getElem?_cons_succ, List.getElem?_cons_zero]; rfl) (by kernel_rfl) (by kernel_rfl) (by kernel_rfl) (fun _ _ _ h => h) (Or.inl ⟨by rfl, ?_⟩) (by assumption) ?_
              rotate_left
              · (intro w hSw; (try dsimp only at hSw); go_simp; try with_reducible rfl)
              try simp only [Act.put, List.setIfInBounds_toArray, List.set_cons_zero, List.set_cons_succ]
              refine wpAnyH_take (i := 9) (v := ?_) (by simp only [List.getElem?_toArray, List.getElem?_cons_succ, List.getElem?_cons_zero]; rfl) (by kernel_rfl) (by kernel_rfl) (by kernel_rfl) (fun _ _ _ h => h) (Or.inl ⟨by rfl, ?_⟩) (by assumption) ?_
              rotate_left
              · (intro w hSw; (try dsimp only at hSw); go_simp; try with_reducible rfl)
              try simp only [Act.put, List.setIfInBounds_toArray, List.set_cons_zero, List.set_cons_succ]
              refine wpAnyH_take (i := 10) (v := ?_) (by simp only [List.getElem?_toArray, List.getElem?_cons_succ, List.getElem?_cons_zero]; rfl) (by kernel_rfl) (by kernel_rfl) (by kernel_rfl) (fun _ _ _ h => h) (Or.inl ⟨by rfl, ?_⟩) (by assumption) ?_
              rotate_left
              · (intro w hSw; (try dsimp only at hSw); go_simp; try with_reducible rfl)
              try simp only [Act.put, List.setIfInBounds_toArray, List.set_cons_zero, List.set_cons_succ]
              refine wpAnyH_take (i := 11) (v := ?_) (by simp only [List.getElem?_toArray, List.getElem?_cons_succ, List.getElem?_cons_zero]; rfl) (by kernel_rfl) (by kernel_rfl) (by kernel_rfl) (fun _ _ _ h => h) (Or.inl ⟨by rfl, ?_⟩) (by assumption) ?_
              rotate_left
              · (intro w hSw; (try dsimp only at hSw); go_simp; try with_reducible rfl)
              try simp only [Act.put, List.setIfInBounds_toArray, List.set_cons_zero, List.set_cons_succ]
              refine wpAnyH_take (i := 12) (v := ?_) (by simp only [List.getElem?_toArray, List.getElem?_cons_succ, List.getElem?_cons_zero]; rfl) (by kernel_rfl) (by kernel_rfl) (by kernel_rfl) (fun _ _ _ h => h) (Or.inl ⟨by rfl, ?_⟩) (by assumption) ?_
              rotate_left
              · (intro w hSw; (try dsimp only at hSw); go_simp; try with_reducible rfl)
              try simp only [Act.put, List.setIfInBounds_toArray, List.set_cons_zero, List.set_cons_succ]
              refine wpAnyH_ready (rs := [8]) (by kernel_rfl) (by simp) ?_
              refine AllReadyH.cons (by simp only [List.getElem?_toArray, List.getElem?_cons_succ, List.getElem?_cons_zero]; rfl) (fun K hK => ?_) AllReadyH.nil
              go_simp
              go_at_call 48
              refine (NU.out _).mono ?_
              rintro e v4 ⟨rfl, k4⟩
              have h4 := bstep (by first | exact hb | exact Below.drew hb) k4
              go_wp2_with fail
              refine hK.out _ _ (trivial) (fun hHeld => ?_)
              clear hK K
              try simp only [Act.put, List.setIfInBounds_toArray, List.set_cons_zero, List.set_cons_succ]
              refine wpAnyH_take (i := 13) (v := ?_) (by simp only [List.getElem?_toArray, List.getElem?_cons_succ, List.getElem?_cons_zero]; rfl) (by kernel_rfl) (by kernel_rfl) (by kernel_rfl) (fun _ _ _ h => h) (Or.inl ⟨by rfl, ?_⟩) (by assumption) ?_
              rotate_left
              · (intro w hSw; (try dsimp only at hSw); go_simp; try with_reducible rfl)
              try simp only [Act.put, List.setIfInBounds_toArray, List.set_cons_zero, List.set_cons_succ]
              refine wpAnyH_take (i := 14) (v := ?_) (by simp only [List.getElem?_toArray, List.getElem?_cons_succ, List.getElem?_cons_zero]; rfl) (by kernel_rfl) (by kernel_rfl) (by kernel_rfl) (fun _ _ _ h => h) (Or.inl ⟨by rfl, ?_⟩) (by assumption) ?_
              rotate_left
              · (intro w hSw; (try dsimp only at hSw); go_simp; try with_reducible rfl)
              try simp only [Act.put, List.setIfInBounds_toArray, List.set_cons_zero, List.set_cons_succ]
              refine wpAnyH_done (by kernel_rfl) ?_ _
              refine NoPanic.normal ?_
              go_wp2
              go_ret2
              exact read_bad (HMM.out.bad (HI2.out.none (.inr (.inr (by rw [← HT.out]; exact b5))))) h4
    · obtain rfl : k = N + 1 := by omega
      have hd1 : decide (((N + 1 : Nat) : Int) ≤ (N : Int)) = false := decide_eq_false (by omega)
      have hF : F = [] := by
        rcases HF.out with ⟨h, _⟩ | ⟨_, h⟩
        · omega
        · exact h
      subst hF
      obtain ⟨g, c, rfl, hle, hr⟩ := ints_of_own hown HM.out.ne
      have hdn := List.length_pos_iff.2 HM.out.ne
      have hcell := hr 0 hdn
      have R := Lib.hid hr
      obtain ⟨n, hn2⟩ : ∃ n, n = dn.length := ⟨_, rfl⟩
      obtain ⟨x, hx⟩ : ∃ x, x = dn.getD 0 0 := ⟨_, rfl⟩
      rw [← hn2] at hdn hdk hle ⊢
      rw [← hx] at hcell
      have HNN := Lib.hid hn2
      have HXX := Lib.hid hx
      clear hn2 hx hr hown HF hn
      have y1 : decide ((n : Int) ≥ 1) = true := decide_eq_true (by omega)
      have y1' : decide ((1 : Int) ≤ (n : Int)) = true := decide_eq_true (by omega)
      by_cases y2 : n ≤ 8
      · have y3 : decide ((n : Int) ≤ 8) = true := decide_eq_true (by omega)
        by_cases y4 : x = 1
        · subst y4
          go_wp2_with fail
          go_upto_region 15 with fail
          refine wp_region_noPanic ?_
          refine wp_region_held_drew (S := (fun w' => w'.cell? ⟨g, 0, none⟩ = some (.int .i64 (1 : Int)))) (by kernel_rfl) (hcell) (fun hHeld => ?_)
          refine wpAnyH_take (i := 0) (v := ?_) (by simp only [List.getElem?_toArray, List.getElem?_cons_zero]; rfl) (by kernel_rfl) (by kernel_rfl) (by kernel_rfl) (fun _ _ _ h => h) (Or.inl ⟨by rfl, ?_⟩) (by assumption) ?_
          rotate_left
          · (intro w hSw; (try dsimp only at hSw); go_simp; try with_reducible rfl)
          try simp only [Act.put, List.setIfInBounds_toArray, List.set_cons_zero, List.set_cons_succ]
          refine wpAnyH_take (i := 1) (v := ?_) (by simp only [List.getElem?_toArray, List.getElem?_cons_succ, List.getElem?_cons_zero]; rfl) (by kernel_rfl) (by kernel_rfl) (by kernel_rfl) (fun _ _ _ h => h) (Or.inl ⟨by rfl, ?_⟩) (by assumption) ?_
          rotate_left
          · (intro w hSw; (try dsimp only at hSw); go_simp; try with_reducible rfl)
          try simp only [Act.put, List.setIfInBounds_toArray, List.set_cons_zero, List.set_cons_succ]
          refine wpAnyH_take (i := 2) (v := ?_) (by simp only [List.getElem?_toArray, List.getElem?_cons_succ, List.getElem?_cons_zero]; rfl) (by kernel_rfl) (by kernel_rfl) (by kernel_rfl) (fun _ _ _ h => h) (Or.inl ⟨by rfl, ?_⟩) (by assumption) ?_
          rotate_left
          · (intro w hSw; (try dsimp only at hSw); go_simp; try with_reducible rfl)
          try simp only [Act.put, List.setIfInBounds_toArray, List.set_cons_zero, List.set_cons_succ]
          refine wpAnyH_take (i := 3) (v := ?_) (by simp only [List.getElem?_toArray, List.getElem?_cons_succ, List.getElem?_cons_zero]; rfl) (by kernel_rfl) (by kernel_rfl) (by kernel_rfl) (fun _ _ _ h => h) (Or.inl ⟨by rfl, ?_⟩) (by assumption) ?_
          rotate_left
          · (intro w hSw; (try dsimp only at hSw); go_simp; try with_reducible rfl)
          try simp only [Act.put, List.setIfInBounds_toArray, List.set_cons_zero, List.set_cons_succ]
          refine wpAnyH_take (i := 4) (v := ?_) (by simp only [List.getElem?_toArray, List.getElem?_cons_succ, List.getElem?_cons_zero]; rfl) (by kernel_rfl) (by kernel_rfl) (by kernel_rfl) (fun _ _ _ h => h) (Or.inl ⟨by rfl, ?_⟩) (by assumption) ?_
          rotate_left
          · (intro w hSw; (try dsimp only at hSw); go_simp; try with_reducible rfl)
          try simp only [Act.put, List.setIfInBounds_toArray, List.set_cons_zero, List.set_cons_succ]
          refine wpAnyH_take (i := 5) (v := ?_) (by simp only [List.getElem?_toArray, List.getElem?_cons_succ, List.getElem?_cons_zero]; rfl) (by kernel_rfl) (by kernel_rfl) (by kernel_rfl) (fun _ _ _ h => h) (Or.inl ⟨by rfl, ?_⟩) (by assumption) ?_
          rotate_left
          · (intro w hSw; (try dsimp only at hSw); go_simp; try with_reducible rfl)
          try simp only [Act.put, List.setIfInBounds_toArray, List.set_cons_zero, List.set_cons_succ]
          refine wpAnyH_take (i := 6) (v := ?_) (by simp only [List.getElem?_toArray, List.getElem?_cons_succ, List.getElem?_cons_zero]; rfl) (by kernel_rfl) (by kernel_rfl) (by kernel_rfl) (fun _ _ _ h => h) (Or.inl ⟨by rfl, ?_⟩) (by assumption) ?_
          rotate_left
          · (intro w hSw; (try dsimp only at hSw); go_simp; try with_reducible rfl)
          try simp only [Act.put, List.setIfInBounds_toArray, List.set_cons_zero, List.set_cons_succ]
          refine wpAnyH_take (i := 7) (v := ?_) (by simp only [List.getElem?_toArray, List.getElem?_cons_succ, List.getElem?_cons_zero]; rfl) (by kernel_rfl) (by kernel_rfl) (by kernel_rfl) (fun _ _ _ h => h) (Or.inl ⟨by rfl, ?_⟩) (by assumption) ?_
          rotate_left
          · (intro w hSw; (try dsimp only at hSw); go_simp; try with_reducible rfl)
          try simp only [Act.put, List.setIfInBounds_toArray, List.set_cons_zero, List.set_cons_succ]
          refine wpAnyH_take (i := 8) (v := ?_) (by simp only [List.getElem?_toArray, List.getElem?_cons_succ, List.getElem?_cons_zero]; rfl) (by kernel_rfl) (by kernel_rfl) (by kernel_rfl) (fun _ _ _ h => h) (Or.inl ⟨by rfl, ?_⟩) (by assumption) ?_
          rotate_left
          · (intro w hSw; (try dsimp only at hSw); go_simp; try with_reducible rfl)
          try simp only [Act.put, List.setIfInBounds_toArray, List.set_cons_zero, List.set_cons_succ]
          refine wpAnyH_take (i := 9) (v := ?_) (by simp only [List.getElem?_toArray, List.getElem?_cons_succ, List.getElem?_cons_zero]; rfl) (by kernel_rfl) (by kernel_rfl) (by kernel_rfl) (fun _ _ _ h => h) (Or.inl ⟨by rfl, ?_⟩) (by assumption) ?_
          rotate_left
          · (intro w hSw; (try dsimp only at hSw); go_simp; try with_reducible rfl)
          try simp only [Act.put, List.setIfInBounds_toArray, List.set_cons_zero, List.set_cons_succ]
          refine wpAnyH_take (i := 10) (v := ?_) (by simp only [List.getElem?_toArray, List.getElem?_cons_succ, List.getElem?_cons_zero]; rfl) (by kernel_rfl) (by kernel_rfl) (by kernel_rfl) (fun _ _ _ h => h) (Or.inl ⟨by rfl, ?_⟩) (by assumption) ?_
          rotate_left
          · (intro w hSw; (try dsimp only at hSw); go_simp; try with_reducible rfl)
          try simp only [Act.put, List.setIfInBounds_toArray, List.set_cons_zero, List.set_cons_succ]
          refine wpAnyH_take (i := 11) (v := ?_) (by simp only [List.getElem?_toArray, List.getElem?_cons_succ, List.getElem?_cons_zero]; rfl) (by kernel_rfl) (by kernel_rfl) (by kernel_rfl) (fun _ _ _ h => h) (Or.inl ⟨by rfl, ?_⟩) (by assumption) ?_
          rotate_left
          · (intro w hSw; (try dsimp only at hSw); go_simp; try with_reducible rfl)
          try simp only [Act.put, List.setIfInBounds_toArray, List.set_cons_zero, List.set_cons_succ]
          refine wpAnyH_take (i := 12) (v := ?_) (by simp only [List.getElem?_toArray, List.getElem?_cons_succ, List.getElem?_cons_zero]; rfl) (by kernel_rfl) (by kernel_rfl) (by kernel_rfl) (fun _ _ _ h => h) (Or.inl ⟨by rfl, ?_⟩) (by assumption) ?_
          rotate_left
          · (intro w hSw; (try dsimp only at hSw); go_simp; try with_reducible rfl)
          try simp only [Act.put, List.setIfInBounds_toArray, List.set_cons_zero, List.set_cons_succ]
          refine wpAnyH_take (i := 13) (v := ?_) (by simp only [List.getElem?_toArray, List.getElem?_cons_succ, List.getElem?_cons_zero]; rfl) (by kernel_rfl) (by kernel_rfl) (by kernel_rfl) (fun _ _ _ h => h) (Or.inl ⟨by rfl, ?_⟩) (by assumption) ?_
          rotate_left
          · (intro w hSw; (try dsimp only at hSw); go_simp; try with_reducible rfl)
          try simp only [Act.put, List.setIfInBounds_toArray, List.set_cons_zero, List.set_cons_succ]
          refine wpAnyH_take (i := 14) (v := ?_) (by simp only [List.getElem?_toArray, List.getElem?_cons_succ, List.getElem?_cons_zero]; rfl) (by kernel_rfl) (by kernel_rfl) (by kernel_rfl) (fun _ _ _ h => h) (Or.inl ⟨by rfl, ?_⟩) (by assumption) ?_
          rotate_left
          · (intro w hSw; (try dsimp only at hSw); go_simp; try with_reducible rfl)
          try simp only [Act.put, List.setIfInBounds_toArray, List.set_cons_zero, List.set_cons_succ]
          refine wpAnyH_take (i := 15) (v := ?_) (by simp only [List.getElem?_toArray, List.getElem?_cons_succ, List.getElem?_cons_zero]; rfl) (by kernel_rfl) (by kernel_rfl) (by kernel_rfl) (fun _ _ _ h => h) (Or.inl ⟨by rfl, ?_⟩) (by assumption) ?_
          rotate_left
          · (intro w hSw; (try dsimp only at hSw); go_simp; try with_reducible rfl)
          try simp only [Act.put, List.setIfInBounds_toArray, List.set_cons_zero, List.set_cons_succ]
          refine wpAnyH_take (i := 16) (v := ?_) (by simp only [List.getElem?_toArray, List.getElem?_cons_succ, List.getElem?_cons_zero]; rfl) (by kernel_rfl) (by kernel_rfl) (by kernel_rfl) (fun _ _ _ h => h) (Or.inl ⟨by rfl, ?_⟩) (by assumption) ?_
          rotate_left
          · (intro w hSw; (try dsimp only at hSw); go_simp; try with_reducible rfl)
          try simp only [Act.put, List.setIfInBounds_toArray, List.set_cons_zero, List.set_cons_succ]
          refine wpAnyH_done (by kernel_rfl) ?_ _
          refine NoPanic.normal ?_
          go_wp2
          go_ret2
          exact HNN.out ▸ read_all HM.out (R.out.below (Below.drew (Below.refl _ _))) (by rw [← HNN.out]; exact hle) (Below.drew hb) true (by rw [← HNN.out, ← HXX.out]; simp; omega)
        · have y5 : ((x : Int) == 1) = false := by rw [beq_eq_false_iff_ne]; omega
          go_wp2_with fail
          go_upto_region 15 with fail
          refine wp_region_noPanic ?_
          refine wp_region_held_drew (S := (fun w' => w'.cell? ⟨g, 0, none⟩ = some (.int .i64 (x : Int)))) (by kernel_rfl) (hcell) (fun hHeld => ?_)
          refine wpAnyH_take (i := 0) (v := ?_) (by simp only [List.getElem?_toArray, List.getElem?_cons_zero]; rfl) (by kernel_rfl) (by kernel_rfl) (by kernel_rfl) (fun _ _ _ h => h) (Or.inl ⟨by rfl, ?_⟩) (by assumption) ?_
          rotate_left
          · (intro w hSw; (try dsimp only at hSw); go_simp; try with_reducible rfl)
          try simp only [Act.put, List.setIfInBounds_toArray, List.set_cons_zero, List.set_cons_succ]
          refine wpAnyH_take (i := 1) (v := ?_) (by simp only [List.getElem?_toArray, List.getElem?_cons_succ, List.getElem?_cons_zero]; rfl) (by kernel_rfl) (by kernel_rfl) (by kernel_rfl) (fun _ _ _ h => h) (Or.inl ⟨by rfl, ?_⟩) (by assumption) ?_
          rotate_left
          · (intro w hSw; (try dsimp only at hSw); go_simp; try with_reducible rfl)
          try simp only [Act.put, List.setIfInBounds_toArray, List.set_cons_zero, List.set_cons_succ]
          refine wpAnyH_take (i := 2) (v := ?_) (by simp only [List.getElem?_toArray, List.getElem?_cons_succ, List.getElem?_cons_zero]; rfl) (by kernel_rfl) (by kernel_rfl) (by kernel_rfl) (fun _ _ _ h => h) (Or.inl ⟨by rfl, ?_⟩) (by assumption) ?_
          rotate_left
          · (intro w hSw; (try dsimp only at hSw); go_simp; try with_reducible rfl)
          try simp only [Act.put, List.setIfInBounds_toArray, List.set_cons_zero, List.set_cons_succ]
          refine wpAnyH_take (i := 3) (v := ?_) (by simp only [List.getElem?_toArray, List.getElem?_cons_succ, List.getElem?_cons_zero]; rfl) (by kernel_rfl) (by kernel_rfl) (by kernel_rfl) (fun _ _ _ h => h) (Or.inl ⟨by rfl, ?_⟩) (by assumption) ?_
          rotate_left
          · (intro w hSw; (try dsimp only at hSw); go_simp; try with_reducible rfl)
          try simp only [Act.put, List.setIfInBounds_toArray, List.set_cons_zero, List.set_cons_succ]
          refine wpAnyH_take (i := 4) (v := ?_) (by simp only [List.getElem?_toArray, List.getElem?_cons_succ, List.getElem?_cons_zero]; rfl) (by kernel_rfl) (by kernel_rfl) (by kernel_rfl) (fun _ _ _ h => h) (Or.inl ⟨by rfl, ?_⟩) (by assumption) ?_
          rotate_left
          · (intro w hSw; (try dsimp only at hSw); go_simp; try with_reducible rfl)
          try simp only [Act.put, List.setIfInBounds_toArray, List.set_cons_zero, List.set_cons_succ]
          refine wpAnyH_take (i := 5) (v := ?_) (by simp only [List.getElem?_toArray, List.getElem?_cons_succ, List.getElem?_cons_zero]; rfl) (by kernel_rfl) (by kernel_rfl) (by kernel_rfl) (fun _ _ _ h => h) (Or.inl ⟨by rfl, ?_⟩) (by assumption) ?_
          rotate_left
          · (intro w hSw; (try dsimp only at hSw); go_simp; try with_reducible rfl)
          try simp only [Act.put, List.setIfInBounds_toArray, List.set_cons_zero, List.set_cons_succ]
          refine wpAnyH_take (i := 6) (v := ?_) (by simp only [List.getElem?_toArray, List.getElem?_cons_succ, List.getElem?_cons_zero]; rfl) (by kernel_rfl) (by kernel_rfl) (by kernel_rfl) (fun _ _ _ h => h) (Or.inl ⟨by rfl, ?_⟩) (by assumption) ?_
          rotate_left
          · (intro w hSw; (try dsimp only at hSw); go_simp; try with_reducible rfl)
          try simp only [Act.put, List.setIfInBounds_toArray, List.set_cons_zero, List.set_cons_succ]
          refine wpAnyH_take (i := 7) (v := ?_) (by simp only [List.getElem?_toArray, List.getElem?_cons_succ, List.getElem?_cons_zero]; rfl) (by kernel_rfl) (by kernel_rfl) (by kernel_rfl) (fun _ _ _ h => h) (Or.inl ⟨by rfl, ?_⟩) (by assumption) ?_
          rotate_left
          · (intro w hSw; (try dsimp only at hSw); go_simp; try with_reducible rfl)
          try simp only [Act.put, List.setIfInBounds_toArray, List.set_cons_zero, List.set_cons_succ]
          refine wpAnyH_take (i := 8) (v := ?_) (by simp only [List.getElem?_toArray, List.getElem?_cons_succ, List.getElem?_cons_zero]; rfl) (by kernel_rfl) (by kernel_rfl) (by kernel_rfl) (fun _ _ _ h => h) (Or.inl ⟨by rfl, ?_⟩) (by assumption) ?_
          rotate_left
          · (intro w hSw; (try dsimp only at hSw); go_simp; try with_reducible rfl)
          try simp only [Act.put, List.setIfInBounds_toArray, List.set_cons_zero, List.set_cons_succ]
          refine wpAnyH_take (i := 9) (v := ?_) (by simp only [List.getElem?_toArray, List.getElem?_cons_succ, List.getElem?_cons_zero]; rfl) (by kernel_rfl) (by kernel_rfl) (by kernel_rfl) (fun _ _ _ h => h) (Or.inl ⟨by rfl, ?_⟩) (by assumption) ?_
          rotate_left
          · (intro w hSw; (try dsimp only at hSw); go_simp; try with_reducible rfl)
          try simp only [Act.put, List.setIfInBounds_toArray, List.set_cons_zero, List.set_cons_succ]
          refine wpAnyH_take (i := 10) (v := ?_) (by simp only [List.getElem?_toArray, List.getElem?_cons_succ, List.getElem?_cons_zero]; rfl) (by kernel_rfl) (by kernel_rfl) (by kernel_rfl) (fun _ _ _ h => h) (Or.inl ⟨by rfl, ?_⟩) (by assumption) ?_
          rotate_left
          · (intro w hSw; (try dsimp only at hSw); go_simp; try with_reducible rfl)
          try simp only [Act.put, List.setIfInBounds_toArray, List.set_cons_zero, List.set_cons_succ]
          refine wpAnyH_take (i := 11) (v := ?_) (by simp only [List.getElem?_toArray, List.getElem?_cons_succ, List.getElem?_cons_zero]; rfl) (by kernel_rfl) (by kernel_rfl) (by kernel_rfl) (fun _ _ _ h => h) (Or.inl ⟨by rfl, ?_⟩) (by assumption) ?_
          rotate_left
          · (intro w hSw; (try dsimp only at hSw); go_simp; try with_reducible rfl)
          try simp only [Act.put, List.setIfInBounds_toArray, List.set_cons_zero, List.set_cons_succ]
          refine wpAnyH_take (i := 12) (v := ?_) (by simp only [List.getElem?_toArray, List.getElem?_cons_succ, List.getElem?_cons_zero]; rfl) (by kernel_rfl) (by kernel_rfl) (by kernel_rfl) (fun _ _ _ h => h) (Or.inl ⟨by rfl, ?_⟩) (by assumption) ?_
          rotate_left
          · (intro w hSw; (try dsimp only at hSw); go_simp; try with_reducible rfl)
          try simp only [Act.put, List.setIfInBounds_toArray, List.set_cons_zero, List.set_cons_succ]
          refine wpAnyH_take (i := 13) (v := ?_) (by simp only [List.getElem?_toArray, List.getElem?_cons_succ, List.getElem?_cons_zero]; rfl) (by kernel_rfl) (by kernel_rfl) (by kernel_rfl) (fun _ _ _ h => h) (Or.inl ⟨by rfl, ?_⟩) (by assumption) ?_
          rotate_left
          · (intro w hSw; (try dsimp only at hSw); go_simp; try with_reducible rfl)
          try simp only [Act.put, List.setIfInBounds_toArray, List.set_cons_zero, List.set_cons_succ]
          refine wpAnyH_take (i := 14) (v := ?_) (by simp only [List.getElem?_toArray, List.getElem?_cons_succ, List.getElem?_cons_zero]; rfl) (by kernel_rfl) (by kernel_rfl) (by kernel_rfl) (fun _ _ _ h => h) (Or.inl ⟨by rfl, ?_⟩) (by assumption) ?_
          rotate_left
          · (intro w hSw; (try dsimp only at hSw); go_simp; try with_reducible rfl)
          try simp only [Act.put, List.setIfInBounds_toArray, List.set_cons_zero, List.set_cons_succ]
          refine wpAnyH_take (i := 15) (v := ?_) (by simp only [List.getElem?_toArray, List.getElem?_cons_succ, List.getElem?_cons_zero]; rfl) (by kernel_rfl) (by kernel_rfl) (by kernel_rfl) (fun _ _ _ h => h) (Or.inl ⟨by rfl, ?_⟩) (by assumption) ?_
          rotate_left
          · (intro w hSw; (try dsimp only at hSw); go_simp; try with_reducible rfl)
          try simp only [Act.put, List.setIfInBounds_toArray, List.set_cons_zero, List.set_cons_succ]
          refine wpAnyH_take (i := 16) (v := ?_) (by simp only [List.getElem?_toArray, List.getElem?_cons_succ, List.getElem?_cons_zero]; rfl) (by kernel_rfl) (by kernel_rfl) (by kernel_rfl) (fun _ _ _ h => h) (Or.inl ⟨by rfl, ?_⟩) (by assumption) ?_
          rotate_left
          · (intro w hSw; (try dsimp only at hSw); go_simp; try with_reducible rfl)
          try simp only [Act.put, List.setIfInBounds_toArray, List.set_cons_zero, List.set_cons_succ]
          refine wpAnyH_done (by kernel_rfl) ?_ _
          refine NoPanic.normal ?_
          go_wp2
          go_ret2
          exact HNN.out ▸ read_all HM.out (R.out.below (Below.drew (Below.refl _ _))) (by rw [← HNN.out]; exact hle) (Below.drew hb) false (by rw [← HNN.out, ← HXX.out]; simp; omega)
      · have y3 : decide ((n : Int) ≤ 8) = false := decide_eq_false (by omega)
        go_wp2_with fail
        go_upto_region 15 with fail
        refine wp_region_noPanic ?_
        refine wp_region_held_drew (S := (fun w' => w'.cell? ⟨g, 0, none⟩ = some (.int .i64 (x : Int)))) (by kernel_rfl) (hcell) (fun hHeld => ?_)
        refine wpAnyH_take (i := 0) (v := ?_) (by simp only [List.getElem?_toArray, List.getElem?_cons_zero]; rfl) (by kernel_rfl) (by kernel_rfl) (by kernel_rfl) (fun _ _ _ h => h) (Or.inl ⟨by rfl, ?_⟩) (by assumption) ?_
        rotate_left
        · (intro w hSw; (try dsimp only at hSw); go_simp; try with_reducible rfl)
        try simp only [Act.put, List.setIfInBounds_toArray, List.set_cons_zero, List.set_cons_succ]
        refine wpAnyH_take (i := 1) (v := ?_) (by simp only [List.getElem?_toArray, List.getElem?_cons_succ, List.getElem?_cons_zero]; rfl) (by kernel_rfl) (by kernel_rfl) (by kernel_rfl) (fun _ _ _ h => h) (Or.inl ⟨by rfl, ?_⟩) (by assumption) ?_
        rotate_left
        · (intro w hSw; (try dsimp only at hSw); go_simp; try with_reducible rfl)
        try simp only [Act.put, List.setIfInBounds_toArray, List.set_cons_zero, List.set_cons_succ]
        refine wpAnyH_take (i := 2) (v := ?_) (by simp only [List.getElem?_toArray, List.getElem?_cons_succ, List.getElem?_cons_zero]; rfl) (by kernel_rfl) (by kernel_rfl) (by kernel_rfl) (fun _ _ _ h => h) (Or.inl ⟨by rfl, ?_⟩) (by assumption) ?_
        rotate_left
        · (intro w hSw; (try dsimp only at hSw); go_simp; try with_reducible rfl)
        try simp only [Act.put, List.setIfInBounds_toArray, List.set_cons_zero, List.set_cons_succ]
        refine wpAnyH_take (i := 3) (v := ?_) (by simp only [List.getElem?_toArray, List.getElem?_cons_succ, List.getElem?_cons_zero]; rfl) (by kernel_rfl) (by kernel_rfl) (by kernel_rfl) (fun _ _ _ h => h) (Or.inl ⟨by rfl, ?_⟩) (by assumption) ?_
        rotate_left
        · (intro w hSw; (try dsimp only at hSw); go_simp; try with_reducible rfl)
        try simp only [Act.put, List.setIfInBounds_toArray, List.set_cons_zero, List.set_cons_succ]
        refine wpAnyH_take (i := 4) (v := ?_) (by simp only [List.getElem?_toArray, List.getElem?_cons_succ, List.getElem?_cons_zero]; rfl) (by kernel_rfl) (by kernel_rfl) (by kernel_rfl) (fun _ _ _ h => h) (Or.inl ⟨by rfl, ?_⟩) (by assumption) ?_
        rotate_left
        · (intro w hSw; (try dsimp only at hSw); go_simp; try with_reducible rfl)
        try simp only [Act.put, List.setIfInBounds_toArray, List.set_cons_zero, List.set_cons_succ]
        refine wpAnyH_take (i := 5) (v := ?_) (by simp only [List.getElem?_toArray, List.getElem?_cons_succ, List.getElem?_cons_zero]; rfl) (by kernel_rfl) (by kernel_rfl) (by kernel_rfl) (fun _ _ _ h => h) (Or.inl ⟨by rfl, ?_⟩) (by assumption) ?_
        rotate_left
        · (intro w hSw; (try dsimp only at hSw); go_simp; try with_reducible rfl)
        try simp only [Act.put, List.setIfInBounds_toArray, List.set_cons_zero, List.set_cons_succ]
        refine wpAnyH_take (i := 6) (v := ?_) (by simp only [List.getElem?_toArray, List.getElem?_cons_succ, List.getElem?_cons_zero]; rfl) (by kernel_rfl) (by kernel_rfl) (by kernel_rfl) (fun _ _ _ h => h) (Or.inl ⟨by rfl, ?_⟩) (by assumption) ?_
        rotate_left
        · (intro w hSw; (try dsimp only at hSw); go_simp; try with_reducible rfl)
        try simp only [Act.put, List.setIfInBounds_toArray, List.set_cons_zero, List.set_cons_succ]
        refine wpAnyH_take (i := 7) (v := ?_) (by simp only [List.getElem?_toArray, List.getElem?_cons_succ, List.getElem?_cons_zero]; rfl) (by kernel_rfl) (by kernel_rfl) (by kernel_rfl) (fun _ _ _ h => h) (Or.inl ⟨by rfl, ?_⟩) (by assumption) ?_
        rotate_left
        · (intro w hSw; (try dsimp only at hSw); go_simp; try with_reducible rfl)
        try simp only [Act.put, List.setIfInBounds_toArray, List.set_cons_zero, List.set_cons_succ]
        refine wpAnyH_take (i := 8) (v := ?_) (by simp only [List.getElem?_toArray, List.getElem?_cons_succ, List.getElem?_cons_zero]; rfl) (by kernel_rfl) (by kernel_rfl) (by kernel_rfl) (fun _ _ _ h => h) (Or.inl ⟨by rfl, ?_⟩) (by assumption) ?_
        rotate_left
        · (intro w hSw; (try dsimp only at hSw); go_simp; try with_reducible rfl)
        try simp only [Act.put, List.setIfInBounds_toArray, List.set_cons_zero, List.set_cons_succ]
        refine wpAnyH_take (i := 9) (v := ?_) (by simp only [List.getElem?_toArray, List.getElem?_cons_succ, List.getElem?_cons_zero]; rfl) (by kernel_rfl) (by kernel_rfl) (by kernel_rfl) (fun _ _ _ h => h) (Or.inl ⟨by rfl, ?_⟩) (by assumption) ?_
        rotate_left
        · (intro w hSw; (try dsimp only at hSw); go_simp; try with_reducible rfl)
        try simp only [Act.put, List.setIfInBounds_toArray, List.set_cons_zero, List.set_cons_succ]
        refine wpAnyH_take (i := 10) (v := undef) (by simp only [List.getElem?_toArray, List.getElem?_cons_succ, List.getElem?_cons_zero]; rfl) (by kernel_rfl) (by kernel_rfl) (by kernel_rfl) (fun _ _ _ h => h) (Or.inr ⟨by rfl, rfl⟩) (by assumption) ?_
        try simp only [Act.put, List.setIfInBounds_toArray, List.set_cons_zero, List.set_cons_succ]
        refine wpAnyH_take (i := 11) (v := undef) (by simp only [List.getElem?_toArray, List.getElem?_cons_succ, List.getElem?_cons_zero]; rfl) (by kernel_rfl) (by kernel_rfl) (by kernel_rfl) (fun _ _ _ h => h) (Or.inr ⟨by rfl, rfl⟩) (by assumption) ?_
        try simp only [Act.put, List.setIfInBounds_toArray, List.set_cons_zero, List.set_cons_succ]
        refine wpAnyH_take (i := 12) (v := undef) (by simp only [List.getElem?_toArray, List.getElem?_cons_succ, List.getElem?_cons_zero]; rfl) (by kernel_rfl) (by kernel_rfl) (by kernel_rfl) (fun _ _ _ h => h) (Or.inr ⟨by rfl, rfl⟩) (by assumption) ?_
        try simp only [Act.put, List.setIfInBounds_toArray, List.set_cons_zero, List.set_cons_succ]
        refine wpAnyH_take (i := 13) (v := undef) (by simp only [List.getElem?_toArray, List.getElem?_cons_succ, List.getElem?_cons_zero]; rfl) (by kernel_rfl) (by kernel_rfl) (by kernel_rfl) (fun _ _ _ h => h) (Or.inr ⟨by rfl, rfl⟩) (by assumption) ?_
        try simp only [Act.put, List.setIfInBounds_toArray, List.set_cons_zero, List.set_cons_succ]
        refine wpAnyH_take (i := 14) (v := ?_) (by simp only [List.getElem?_toArray, List.getElem?_cons_succ, List.getElem?_cons_zero]; rfl) (by kernel_rfl) (by kernel_rfl) (by kernel_rfl) (fun _ _ _ h => h) (Or.inl ⟨by rfl, ?_⟩) (by assumption) ?_
        rotate_left
        · (intro w hSw; (try dsimp only at hSw); go_simp; try with_reducible rfl)
        try simp only [Act.put, List.setIfInBounds_toArray, List.set_cons_zero, List.set_cons_succ]
        refine wpAnyH_take (i := 15) (v := ?_) (by simp only [List.getElem?_toArray, List.getElem?_cons_succ, List.getElem?_cons_zero]; rfl) (by kernel_rfl) (by kernel_rfl) (by kernel_rfl) (fun _ _ _ h => h) (Or.inl ⟨by rfl, ?_⟩) (by assumption) ?_
        rotate_left
        · (intro w hSw; (try dsimp only at hSw); go_simp; try with_reducible rfl)
        try simp only [Act.put, List.setIfInBounds_toArray, List.set_cons_zero, List.set_cons_succ]
        refine wpAnyH_take (i := 16) (v := ?_) (by simp only [List.getElem?_toArray, List.getElem?_cons_succ, List.getElem?_cons_zero]; rfl) (by kernel_rfl) (by kernel_rfl) (by kernel_rfl) (fun _ _ _ h => h) (Or.inl ⟨by rfl, ?_⟩) (by assumption) ?_
        rotate_left
        · (intro w hSw; (try dsimp only at hSw); go_simp; try with_reducible rfl)
        try simp only [Act.put, List.setIfInBounds_toArray, List.set_cons_zero, List.set_cons_succ]
        refine wpAnyH_done (by kernel_rfl) ?_ _
        refine NoPanic.normal ?_
        go_wp2
        go_ret2
        exact HNN.out ▸ read_all HM.out (R.out.below (Below.drew (Below.refl _ _))) (by rw [← HNN.out]; exact hle) (Below.drew hb) false (by rw [← HNN.out, ← HXX.out]; simp; omega)

end RefPath
end Go.Proofs.Ytcbnkncgacbniaa
