/- dots: the laws' small known case, Long, tame. -/
import Derived.Test.YtafelgmppmfcaaaRefDotJoin
namespace Go.Proofs.Ytafelgmppmfcaaa
namespace Dots
open Go.RowKit Go.Shelf Go.Proofs.Ytafelgmppmfcaaa.Mark

section
variable {L K : List M} {a1 a2 : Option Addr} {n1 n2 c1 c2 : Nat} {w : World}
theorem covers_is (r : Bool) (h : (∀ q, ofL K q ≤ ofL L q) ↔ r = true) (hL : Lies w a1 n1 L) (hK : Lies w a2 n2 K) (hn1 : n1 ≤ 1099511627776) (hn2 : n2 ≤ 1099511627776) :
    Calls Try.prog 25 #[.slice a1 n1 c1, .slice a2 n2 c2] w fun e w' => e = .returned (.bool r) ∧ Below w.heap.size w w' :=
  (covers_any L K a1 a2 n1 n2 c1 c2 w hL hK hn1 hn2).mono fun e w' ⟨r', he, hr, hb⟩ => ⟨by rw [he]; congr 2; rw [Bool.eq_iff_iff, hr, h], hb⟩
theorem join_is (J : List M) (h : IsVec J (fun q => max (ofL L q) (ofL K q))) (hL : Lies w a1 n1 L) (hK : Lies w a2 n2 K) (hn1 : n1 ≤ 1099511627776) (hn2 : n2 ≤ 1099511627776) :
    Calls Try.prog 23 #[.slice a1 n1 c1, .slice a2 n2 c2] w fun e w' => ∃ v : Value, e = .returned v ∧ Mark.Own w' w.heap.size v J ∧ Below w.heap.size w w' :=
  (join_any L K a1 a2 n1 n2 c1 c2 w hL hK hn1 hn2).mono fun e w' ⟨v, J', he, hJ, _, ho, hb⟩ => ⟨v, he, by rw [IsVec.uniq h hJ]; exact ho, hb⟩
theorem set_is (q : List UInt8) (x : Nat) (J : List M) (h : IsVec J (setF (ofL L) q x)) (hL : Lies w a1 n1 L) (hn1 : n1 ≤ 549755813888) :
    Calls Try.prog 19 #[.slice a1 n1 c1, .string ⟨q.toArray⟩, .int .u64 (x : Nat)] w fun e w' => ∃ v : Value, e = .returned v ∧ Mark.Own w' w.heap.size v J ∧ Below w.heap.size w w' :=
  (set_any L q x a1 n1 c1 w hL hn1).mono fun e w' ⟨v, J', he, hJ, _, ho, hb⟩ => ⟨v, he, by rw [IsVec.uniq h hJ]; exact ho, hb⟩
theorem drop_is (q : List UInt8) (J : List M) (h : IsVec J (fun y => if y = q then 0 else ofL L y)) (hL : Lies w a1 n1 L) (hn1 : n1 ≤ 1099511627776) :
    Calls Try.prog 21 #[.slice a1 n1 c1, .string ⟨q.toArray⟩] w fun e w' => ∃ v : Value, e = .returned v ∧ Mark.Own w' w.heap.size v J ∧ Below w.heap.size w w' :=
  (drop_any L q a1 n1 c1 w hL hn1).mono fun e w' ⟨v, J', he, hJ, _, ho, hb⟩ => ⟨v, he, by rw [IsVec.uniq h hJ]; exact ho, hb⟩
end

theorem long_any (a : Option Addr) (n c : Nat) (w : World) : Calls Try.prog 17 #[.slice a n c] w fun e w' => e = .returned (.bool (decide (100 < n))) ∧ w = w' := by
  by_cases h : 100 < n
  · have d1 : decide ((n : Int) > 100) = true := decide_eq_true (by omega)
    have d2 : decide ((100 : Int) < (n : Int)) = true := decide_eq_true (by omega)
    have HV := Lib.hid (decide_eq_true h)
    go_enter Try.func17, Try.ntmps17
    go_wp2
    go_ret
    exact ⟨by rw [HV.out]; rfl, rfl⟩
  · have d1 : decide ((n : Int) > 100) = false := decide_eq_false (by omega)
    have d2 : decide ((100 : Int) < (n : Int)) = false := decide_eq_false (by omega)
    have HV := Lib.hid (decide_eq_false h)
    go_enter Try.func17, Try.ntmps17
    go_wp2
    go_ret
    exact ⟨by rw [HV.out]; rfl, rfl⟩

def tameL (L : List M) : Bool := L.all fun m => decide (m.n ≤ 281474976710656)
theorem tameL_take (L : List M) (k : Nat) (h : k < L.length) : tameL (L.take (k + 1)) = (tameL (L.take k) && decide (L[k].n ≤ 281474976710656)) := by
  unfold tameL; rw [List.take_succ_eq_append_getElem h, List.all_append]; simp
theorem tameL_not (L : List M) (k : Nat) (h : k < L.length) (hk : 281474976710656 < L[k].n) : tameL L = false := by
  unfold tameL
  rw [List.all_eq_false]
  exact ⟨_, List.getElem_mem h, by rw [decide_eq_true_eq]; omega⟩
set_option maxRecDepth 100000 in
theorem tame_any (L : List M) (a : Option Addr) (n c : Nat) (w : World) (hL : Lies w a n L) (hn : n ≤ 1099511627776) (hok : Ok L) :
    Calls Try.prog 27 #[.slice a n c] w fun e w' => e = .returned (.bool (tameL L)) ∧ w = w' := by
  have HL := Lib.hid hL
  have HO := Lib.hid hok
  clear hL hok
  go_enter Try.func27, Try.ntmps27
  go_wp2_with fail
  go_loop [3] (fun iv => ∃ k : Nat, k ≤ n ∧ iv = .int .i64 k ∧ tameL (L.take k) = true) (fun iv => n - (intOf iv).toNat)
  case atStart => exact ⟨0, by omega, rfl, rfl⟩
  case round =>
    obtain ⟨k, hk, rfl, hs⟩ := hrel
    have hln := HL.out.1
    by_cases hlt : k < n
    · obtain ⟨b, off, rfl, hcell⟩ := HL.out.2 (by omega)
      obtain ⟨c1, c2⟩ := hcell k (by omega)
      have hs1 := tameL_take L k (by omega)
      have hs2 := tameL_not L k (by omega)
      obtain ⟨m, hm⟩ : ∃ m, m = L[k]'(by omega) := ⟨_, rfl⟩
      have hmn : m.n ≤ 18446744073709551615 := (HO.out m (by rw [hm]; exact List.getElem_mem _)).1
      rw [← hm] at c1 c2 hs1 hs2
      by_cases h3 : 281474976710656 < m.n
      · have e2 : decide ((281474976710656 : Int) < (m.n : Int)) = true := decide_eq_true (by omega)
        have e3 : decide ((m.n : Int) > (281474976710656 : Int)) = true := decide_eq_true (by omega)
        have HV := Lib.hid (hs2 h3)
        clear hm hcell hln hs hs1 hs2 h3
        go_wp2
        go_ret
        exact ⟨by rw [HV.out]; rfl, rfl⟩
      · have e2 : decide ((281474976710656 : Int) < (m.n : Int)) = false := decide_eq_false (by omega)
        have e3 : decide ((m.n : Int) > (281474976710656 : Int)) = false := decide_eq_false (by omega)
        have HS : Hid (tameL (L.take (k + 1)) = true) := Lib.hid (by rw [hs1, hs, decide_eq_true (by omega)]; rfl)
        clear hm hcell hln hs hs1 hs2 h3
        go_wp2
        go_round
        case rel => exact ⟨k + 1, by omega, by go_num, HS.out⟩
        case measure => simp [intOf]; omega
    · obtain rfl : k = n := by omega
      rw [List.take_of_length_le (by omega)] at hs
      have HV := Lib.hid hs
      have hd : decide ((k : Int) < (k : Int)) = false := decide_eq_false (by omega)
      clear hln hs
      go_wp2
      go_ret
      exact ⟨by rw [HV.out]; rfl, rfl⟩


end Dots
end Go.Proofs.Ytafelgmppmfcaaa
