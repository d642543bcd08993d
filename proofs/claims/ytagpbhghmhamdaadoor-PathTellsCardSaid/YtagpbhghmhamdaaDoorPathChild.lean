/- package path: Child. -/
import Derived.Test.YtagpbhghmhamdaaDoorPathChain
namespace Go.Proofs.YtagpbhghmhamdaaDoor
namespace Path
open Go.RowKit

/-- strconv's table lies as the program's text lays it. -/
def Tab (w : World) : Prop := Lib.TabIs Tryd.prog w "internal/strconv.uint64pow10" .u64 Lib.pow10Tab
theorem Tab.below {w w' : World} (h : Tab w) (k : Below w.heap.size w w') : Tab w' := by
  unfold Tab Lib.TabIs World.var? at h ⊢
  cases hg : Tryd.prog.globalNamed "internal/strconv.uint64pow10" with
  | none => rw [hg] at h; cases h
  | some g =>
    rw [hg] at h
    simp only [Option.bind_some] at h ⊢
    have hlt : g < w.heap.size := by
      rcases Nat.lt_or_ge g w.heap.size with h' | h'
      · exact h'
      · rw [Array.getElem?_eq_none h'] at h; cases h
    rw [k.block g hlt]
    exact h
theorem grow_below (w : World) (k : Nat) (os : Array Obj) : Below w.heap.size w (Sort.grow (w.drewN k) os) :=
  ⟨rfl, rfl, rfl, by show w.heap.size ≤ (w.heap ++ os).size; rw [Array.size_append]; omega, fun j hj => by show (w.heap ++ os)[j]? = w.heap[j]?; exact Array.getElem?_append_left hj⟩

/-- The child's text, and the error. -/
def childT (p : List UInt8) (n : Int) : List UInt8 × Int :=
  if parse p = [] then ([], 100) else if n < 1 ∨ 1073741824 < n then ([], 2) else if (parse p).length = 8 then ([], 6) else (p ++ 46 :: Lib.decDigits n.toNat, 0)

set_option maxRecDepth 100000 in
set_option maxHeartbeats 1000000 in
theorem child_any (p : List UInt8) (n : Int) (w : World) (hp : p.length ≤ 1099511627776) (ht : Tab w) :
    Calls Tryd.prog 8 #[.string ⟨p.toArray⟩, .int .i64 n] w fun e w' => e = .returned (.tuple #[.string ⟨(childT p n).1.toArray⟩, .int .i64 (childT p n).2]) ∧ Below w.heap.size w w' := by
  have C := Lib.hid (fun w => deep_any p w hp)
  have h8 := parse_length p
  have HT := Lib.hid (show childT p n = _ from rfl)
  obtain ⟨l, hl⟩ : ∃ l, l = parse p := ⟨_, rfl⟩
  have HU : Hid (childT p n = if l = [] then ([], 100) else if n < 1 ∨ 1073741824 < n then ([], 2) else if l.length = 8 then ([], 6) else (p ++ 46 :: Lib.decDigits n.toNat, 0)) := Lib.hid (by rw [childT, ← hl])
  rw [← hl] at C h8
  clear hl HT
  obtain ⟨d, hd⟩ : ∃ d, d = l.length := ⟨_, rfl⟩
  rw [← hd] at C
  have HD := Lib.hid hd
  have hle : Hid (d = 0 ↔ l = []) := Lib.hid (by rw [hd, List.length_eq_zero_iff])
  clear hd
  have hsz := Str.size_mk p
  have TT := Lib.hid ht
  clear ht
  by_cases c1 : d = 0
  · have e1 : ((d : Int) == 0) = true := by rw [beq_iff_eq]; omega
    go_enter Tryd.func8, Tryd.ntmps8
    go_wp2_with fail
    refine (C.out _).mono ?_
    rintro e w1 ⟨rfl, hb⟩
    go_wp2
    go_ret2
    exact ⟨by rw [HU.out, if_pos (hle.out.1 c1)]; rfl, hb⟩
  have e1 : ((d : Int) == 0) = false := by rw [beq_eq_false_iff_ne]; omega
  by_cases c2 : n < 1
  · have e2 : decide (n < 1) = true := decide_eq_true c2
    go_enter Tryd.func8, Tryd.ntmps8
    go_wp2_with fail
    refine (C.out _).mono ?_
    rintro e w1 ⟨rfl, hb⟩
    go_wp2
    go_ret2
    exact ⟨by rw [HU.out, if_neg (fun e => c1 (hle.out.2 e)), if_pos (.inl c2)]; rfl, hb⟩
  have e2 : decide (n < 1) = false := decide_eq_false c2
  by_cases c3 : 1073741824 < n
  · have e3 : decide (n > 1073741824) = true := decide_eq_true c3
    have e3' : decide (1073741824 < n) = true := decide_eq_true c3
    go_enter Tryd.func8, Tryd.ntmps8
    go_wp2_with fail
    refine (C.out _).mono ?_
    rintro e w1 ⟨rfl, hb⟩
    go_wp2
    go_ret2
    exact ⟨by rw [HU.out, if_neg (fun e => c1 (hle.out.2 e)), if_pos (.inr c3)]; rfl, hb⟩
  have e3 : decide (n > 1073741824) = false := decide_eq_false c3
  have e3' : decide (1073741824 < n) = false := decide_eq_false c3
  by_cases c4 : d = 8
  · have e4 : ((d : Int) == 8) = true := by rw [beq_iff_eq]; omega
    have hl8 := Lib.hid (show l.length = 8 by rw [← HD.out]; exact c4)
    go_enter Tryd.func8, Tryd.ntmps8
    go_wp2_with fail
    refine (C.out _).mono ?_
    rintro e w1 ⟨rfl, hb⟩
    go_wp2
    go_ret2
    exact ⟨by rw [HU.out, if_neg (fun e => c1 (hle.out.2 e)), if_neg (by omega), if_pos hl8.out]; rfl, hb⟩
  have e4 : ((d : Int) == 8) = false := by rw [beq_eq_false_iff_ne]; omega
  have hl8 := Lib.hid (show ¬ l.length = 8 by rw [← HD.out]; exact c4)
  have I := Lib.hid (fun (w : World) (t : Tab w) => Tryd.strconv_Itoa n (by omega) (by omega) w t)
  have hit : Lib.itoa n = Lib.decDigits n.toNat := by rw [Lib.itoa, if_neg (by omega)]
  rw [hit] at I
  have hdl := digits_len 10 n.toNat (by decide) (by omega)
  obtain ⟨dg, hdg⟩ : ∃ dg, dg = Lib.decDigits n.toNat := ⟨_, rfl⟩
  have HU2 : Hid (childT p n = (p ++ 46 :: dg, 0)) := Lib.hid (by rw [HU.out, if_neg (fun e => c1 (hle.out.2 e)), if_neg (by omega), if_neg hl8.out, hdg])
  rw [← hdg] at I hdl
  have s1 : ¬ (9223372036854775807 < p.length + 1) := by omega
  have s2 : ¬ (9223372036854775807 < p.length + 1 + dg.length) := by omega
  clear hit hdg
  go_enter Tryd.func8, Tryd.ntmps8
  go_wp2_with fail
  refine (C.out _).mono ?_
  rintro e w1 ⟨rfl, hb⟩
  go_wp2_with fail
  refine (I.out _ (TT.out.below hb)).mono ?_
  rintro e w2 ⟨rfl, kk, os, rfl⟩
  go_wp2
  go_ret2
  refine ⟨?_, bstep hb (grow_below _ _ _)⟩
  rw [HU2.out]
  have hcat : (({ data := p.toArray } : ByteArray) ++ { data := #[46] }) ++ { data := dg.toArray } = { data := (p ++ 46 :: dg).toArray } := Str.ext (by simp [ByteArray.data_append])
  rw [← hcat]
  rfl

end Path
end Go.Proofs.YtagpbhghmhamdaaDoor
