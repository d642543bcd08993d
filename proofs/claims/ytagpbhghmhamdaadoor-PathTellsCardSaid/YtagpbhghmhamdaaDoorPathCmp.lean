/- package path: Compare. -/
import Derived.Test.YtagpbhghmhamdaaDoorPathUnder
namespace Go.Proofs.YtagpbhghmhamdaaDoor
namespace Path
open Go.RowKit

/-- The order of two lists of numbers. -/
def cmpL : List Nat → List Nat → Int
  | [], [] => 0
  | [], _ :: _ => -1
  | _ :: _, [] => 1
  | x :: l, y :: r => if x < y then -1 else if y < x then 1 else cmpL l r

set_option maxRecDepth 100000 in
set_option maxHeartbeats 1000000 in
theorem slices_any (l r : List Nat) (b1 b2 n m : Nat) (w : World) (A1 : Arr w b1 l) (A2 : Arr w b2 r) (hn : n = l.length) (hm : m = r.length) (hl : l.length ≤ 8) (hr : r.length ≤ 8) :
    Calls Tryd.prog 33 #[.slice (some ⟨b1, 0, none⟩) n 8, .slice (some ⟨b2, 0, none⟩) m 8] w fun e w' => e = .returned (.int .i64 (cmpL l r)) ∧ w = w' := by
  have C := Lib.hid (fun (x y : Int) w => Tryd.cmp_Compare_int x y w)
  have HN := Lib.hid hn
  have HM := Lib.hid hm
  have q1 := A1.lt
  have q2 := A2.lt
  have hn8 : n ≤ 8 := by omega
  have hm8 : m ≤ 8 := by omega
  clear hn hm
  go_enter Tryd.func33, Tryd.ntmps33
  go_wp2_with fail
  go_loop [11] (fun i => ∃ k : Nat, k ≤ n ∧ k ≤ m ∧ i = .int .i64 k ∧ Hid (cmpL l r = cmpL (l.drop k) (r.drop k))) (fun i => n - (intOf i).toNat)
  case atStart => exact ⟨0, by omega, by omega, rfl, Lib.hid rfl⟩
  case round =>
    obtain ⟨k, hk, hkm, rfl, HI⟩ := hrel
    have hn' := HN.out
    have hm' := HM.out
    by_cases hlt : k < n
    · have hd1 : decide ((k : Int) < (n : Int)) = true := decide_eq_true (by omega)
      have hck := (A1 k (by omega)).1
      obtain ⟨x, hx⟩ : ∃ x, x = l.getD k 0 := ⟨_, rfl⟩
      rw [← hx] at hck
      have hdl : l.drop k = x :: l.drop (k + 1) := by
        rw [List.drop_eq_getElem_cons (by omega), hx, List.getD_eq_getElem?_getD, List.getElem?_eq_getElem (by omega)]; rfl
      have hk0 : (0 : Int) ≤ (k : Int) := by omega
      by_cases hmk : k < m
      · have hd2 : decide ((k : Int) ≥ (m : Int)) = false := decide_eq_false (by omega)
        have hd2' : decide ((m : Int) ≤ (k : Int)) = false := decide_eq_false (by omega)
        have hck2 := (A2 k (by omega)).1
        obtain ⟨y, hy⟩ : ∃ y, y = r.getD k 0 := ⟨_, rfl⟩
        rw [← hy] at hck2
        have hdr : r.drop k = y :: r.drop (k + 1) := by
          rw [List.drop_eq_getElem_cons (by omega), hy, List.getD_eq_getElem?_getD, List.getElem?_eq_getElem (by omega)]; rfl
        have hi := HI.out
        rw [hdl, hdr, cmpL] at hi
        have HI2 := Lib.hid hi
        clear hi hdl hdr hx hy hn' hm' HI
        have hci : Lib.compareInt (x : Int) (y : Int) = if x < y then -1 else if y < x then 1 else 0 := by unfold Lib.compareInt; simp
        by_cases h1 : x < y
        · rw [if_pos h1] at hci
          have HC := Lib.hid hci
          clear hci
          go_wp2_with fail
          refine (C.out _ _ _).mono ?_
          rintro e w' ⟨rfl, rfl⟩
          rw [HC.out]
          go_wp2
          go_ret
          exact ⟨by rw [HI2.out, if_pos h1]; rfl, rfl⟩
        by_cases h2 : y < x
        · rw [if_neg h1, if_pos h2] at hci
          have HC := Lib.hid hci
          clear hci
          go_wp2_with fail
          refine (C.out _ _ _).mono ?_
          rintro e w' ⟨rfl, rfl⟩
          rw [HC.out]
          go_wp2
          go_ret
          exact ⟨by rw [HI2.out, if_neg h1, if_pos h2]; rfl, rfl⟩
        rw [if_neg h1, if_neg h2] at hci
        have HC := Lib.hid hci
        clear hci
        go_wp2_with fail
        refine (C.out _ _ _).mono ?_
        rintro e w' ⟨rfl, rfl⟩
        rw [HC.out]
        go_wp2
        go_round
        case rel => exact ⟨k + 1, by omega, by omega, by go_num, Lib.hid (by rw [HI2.out, if_neg h1, if_neg h2])⟩
        case measure => simp [intOf]; omega
      · have hd2 : decide ((k : Int) ≥ (m : Int)) = true := decide_eq_true (by omega)
        have hd2' : decide ((m : Int) ≤ (k : Int)) = true := decide_eq_true (by omega)
        have hi := HI.out
        rw [hdl, show r.drop k = [] from List.drop_of_length_le (by omega), cmpL] at hi
        have HI2 := Lib.hid hi
        clear hi hdl hx hn' hm' HI
        go_wp2
        go_ret
        exact ⟨by rw [HI2.out]; rfl, rfl⟩
    · obtain rfl : k = n := by omega
      have hd1 : decide ((k : Int) < (k : Int)) = false := decide_eq_false (by omega)
      have hi := HI.out
      rw [show l.drop k = [] from List.drop_of_length_le (by omega)] at hi
      by_cases hmk : k < m
      · have hd2 : decide ((k : Int) < (m : Int)) = true := decide_eq_true (by omega)
        rw [List.drop_eq_getElem_cons (by omega), cmpL] at hi
        have HI2 := Lib.hid hi
        clear hi hn' hm' HI
        go_wp2
        go_ret
        exact ⟨by rw [HI2.out]; rfl, rfl⟩
      · have hd2 : decide ((k : Int) < (m : Int)) = false := decide_eq_false (by omega)
        rw [show r.drop k = [] from List.drop_of_length_le (by omega), cmpL] at hi
        have HI2 := Lib.hid hi
        clear hi hn' hm' HI
        go_wp2
        go_ret
        exact ⟨by rw [HI2.out]; rfl, rfl⟩

/-- The order of two texts. -/
def cmpP (a b : List UInt8) : Int :=
  if parse a = [] then (if parse b = [] then Lib.compareBytes a b else -1) else if parse b = [] then 1 else cmpL (parse a) (parse b)

end Path
end Go.Proofs.YtagpbhghmhamdaaDoor
