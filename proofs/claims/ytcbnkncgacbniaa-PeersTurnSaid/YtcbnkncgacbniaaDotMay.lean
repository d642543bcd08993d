
/- package dots: Compare, May. -/
import Derived.Test.YtcbnkncgacbniaaDotTidy
import Derived.Test.YtcbnkncgacbniaaVec
import Derived.Laws.Cover1
namespace Go.Proofs.Ytcbnkncgacbniaa
namespace Dots
open Go.RowKit Go.Proofs.Ytcbnkncgacbniaa.Mark

/-- May this mark not stand behind that path? -/
def badB (last : List UInt8) (m : M) : Bool := decide (Lib.compareBytes m.p last ≤ 0 ∨ m.n < 1 ∨ 281474976710656 < m.n)
def mayGo : List UInt8 → List M → Bool
  | _, [] => true
  | last, m :: r => if badB last m then false else mayGo m.p r
def mayL (L : List M) : Bool := if 512 < L.length then false else mayGo [] L
theorem leq_iff (a b : List UInt8) : (Op.bytesLess a b || a == b) = decide (Lib.compareBytes a b ≤ 0) := by
  by_cases he : a = b
  · subst he; rw [Order.cmp_self]; simp
  · have : (a == b) = false := by rw [beq_eq_false_iff_ne]; exact he
    rw [this, Bool.or_false]
    cases h : Op.bytesLess a b with
    | true => have := Order.cmp_less _ _ h; rw [this]; rfl
    | false => have := Order.cmp_more _ _ he h; rw [this]; rfl
theorem mayGo_step (last : List UInt8) (L : List M) (k : Nat) (h : k < L.length) : mayGo last (L.drop k) = if badB last L[k] then false else mayGo L[k].p (L.drop (k + 1)) := by
  rw [List.drop_eq_getElem_cons h, mayGo]

set_option maxRecDepth 100000 in
set_option maxHeartbeats 1000000 in
theorem may_any (L : List M) (a : Option Addr) (n c : Nat) (w : World) (hL : Lies w a n L) (hn : n ≤ 1099511627776) (hok : Ok L) :
    Calls Try.prog 27 #[.slice a n c] w fun e w' => e = .returned (.bool (mayL L)) ∧ Below w.heap.size w w' := by
  by_cases hbig : 512 < n
  · have HV := Lib.hid (show mayL L = false by rw [mayL, if_pos (by rw [← hL.1]; exact hbig)])
    have d : decide ((512 : Int) < (n : Int)) = true := decide_eq_true (by omega)
    have d2 : decide ((n : Int) > (512 : Int)) = true := decide_eq_true (by omega)
    have h0 := Below.refl w.heap.size w
    clear hL
    go_enter Try.func27, Try.ntmps27
    go_wp2
    go_ret
    exact ⟨by rw [HV.out]; rfl, h0⟩
  have HV := Lib.hid (show mayL L = mayGo [] L by rw [mayL, if_neg (by rw [← hL.1]; exact hbig)])
  have d : decide ((512 : Int) < (n : Int)) = false := decide_eq_false (by omega)
  have d2 : decide ((n : Int) > (512 : Int)) = false := decide_eq_false (by omega)
  have HL := Lib.hid hL
  have HO := Lib.hid hok
  clear hL hok hbig
  go_enter Try.func27, Try.ntmps27
  go_wp2_with fail
  go_loopw [3, 11] (fun nv iv wr => ∃ (k : Nat) (q : List UInt8), k ≤ n ∧ q.length ≤ 9223372036854775807 ∧ iv = .int .i64 k ∧ nv = .string ⟨q.toArray⟩ ∧ mayL L = mayGo q (L.drop k) ∧ Below w.heap.size w wr) (fun _ iv _ => n - (intOf iv).toNat)
  case atStart => exact ⟨0, [], by omega, by decide, rfl, rfl, HV.out, Below.refl _ _⟩
  case round =>
    obtain ⟨k, q, hk, hq, rfl, rfl, hs, hb⟩ := hrel
    have hln := HL.out.1
    by_cases hlt : k < n
    · obtain ⟨b, off, rfl, hcell⟩ := (HL.out.below hb).2 (by omega)
      obtain ⟨c1, c2⟩ := hcell k (by omega)
      rw [mayGo_step q L k (by omega)] at hs
      obtain ⟨m, hm⟩ : ∃ m, m = L[k]'(by omega) := ⟨_, rfl⟩
      have hmn : m.n ≤ 18446744073709551615 ∧ m.p.length ≤ 9223372036854775807 := HO.out m (by rw [hm]; exact List.getElem_mem _)
      rw [← hm] at c1 c2 hs
      have q1 := World.block_lt_of_cell? _ _ c2
      have hbad : badB q m = decide (Lib.compareBytes m.p q ≤ 0 ∨ m.n < 1 ∨ 281474976710656 < m.n) := rfl
      have l1 := leq_iff m.p q
      have HM := Lib.hid hmn.2
      by_cases g1 : Lib.compareBytes m.p q ≤ 0
      · rw [decide_eq_true g1] at l1
        rw [show badB q m = true by rw [hbad]; exact decide_eq_true (.inl g1), if_pos rfl] at hs
        have HS := Lib.hid hs
        clear hm hcell hln hs hbad g1
        go_wp2
        go_ret
        exact ⟨by rw [HS.out]; rfl, balloc hb _⟩
      rw [decide_eq_false g1] at l1
      by_cases g2 : m.n < 1
      · rw [show badB q m = true by rw [hbad]; exact decide_eq_true (.inr (.inl g2)), if_pos rfl] at hs
        have HS := Lib.hid hs
        have e1 : decide ((m.n : Int) < 1) = true := decide_eq_true (by omega)
        clear hm hcell hln hs hbad g1 g2
        go_wp2
        go_ret
        exact ⟨by rw [HS.out]; rfl, balloc hb _⟩
      have e1 : decide ((m.n : Int) < 1) = false := decide_eq_false (by omega)
      by_cases g3 : 281474976710656 < m.n
      · rw [show badB q m = true by rw [hbad]; exact decide_eq_true (.inr (.inr g3)), if_pos rfl] at hs
        have HS := Lib.hid hs
        have e2 : decide ((281474976710656 : Int) < (m.n : Int)) = true := decide_eq_true (by omega)
        have e3 : decide ((m.n : Int) > (281474976710656 : Int)) = true := decide_eq_true (by omega)
        clear hm hcell hln hs hbad g1 g2 g3
        go_wp2
        go_ret
        exact ⟨by rw [HS.out]; rfl, balloc hb _⟩
      have e2 : decide ((281474976710656 : Int) < (m.n : Int)) = false := decide_eq_false (by omega)
      have e3 : decide ((m.n : Int) > (281474976710656 : Int)) = false := decide_eq_false (by omega)
      rw [show badB q m = false by rw [hbad]; exact decide_eq_false (by omega), if_neg (by decide)] at hs
      have HS := Lib.hid hs
      clear hm hcell hln hs hbad g1 g2 g3
      go_wp2
      go_roundw
      case rel => exact ⟨k + 1, m.p, by omega, HM.out, by go_num, rfl, HS.out, balloc hb _⟩
      case measure => simp [intOf]; omega
    · obtain rfl : k = n := by omega
      have hv : mayL L = true := by rw [hs, List.drop_eq_nil_of_le (by omega)]; rfl
      have HV := Lib.hid hv
      have hd : decide ((k : Int) < (k : Int)) = false := decide_eq_false (by omega)
      clear hln hv hs
      go_wp2
      go_ret
      exact ⟨by rw [HV.out]; rfl, hb⟩

/-- The order of two dots. -/
def cmpD (a b : M) : Int := if Lib.compareBytes a.p b.p ≠ 0 then Lib.compareBytes a.p b.p else cmpI a.n b.n
end Dots
end Go.Proofs.Ytcbnkncgacbniaa
