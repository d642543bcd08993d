
/- the reference's sha: a root's fraction; the primes. -/
import Derived.Test.YtibdpjhiblhnmaaDoorRefShaNum
import Derived.Test.YtibdpjhiblhnmaaDoorRefShaBlock
namespace Go.Proofs.YtibdpjhiblhnmaaDoor
namespace RefSha
open Go.RowKit Sha
set_option maxRecDepth 100000 in
set_option maxHeartbeats 1000000 in
theorem fraction_any (p : Int) (three : Bool) (w : World) :
    Calls Tryd.prog 28 #[.int .u64 p, .bool three] w fun e w' => e = .returned (.int .u32 (fracF p three)) ∧ w = w' := by
  have C := Lib.hid (fun x => cube_any x p w)
  have S := Lib.hid (fun x => square_any x p w)
  have HV : Hid (fracF p three = fracN p three 36 % 4294967296) := Lib.hid rfl
  go_enter Tryd.func28, Tryd.ntmps28
  go_wp2_with fail
  go_loop [5, 6] (fun x i => ∃ j : Nat, j ≤ 36 ∧ i = .int .i64 ((j : Int) - 1) ∧ x = .int .u64 (fracN p three (36 - j))) (fun _ i => (intOf i + 1).toNat)
  case atStart => exact ⟨36, by omega, rfl, rfl⟩
  case round =>
    obtain ⟨j, hj, rfl, rfl⟩ := hrel
    cases j with
    | zero =>
      have hd : decide ((-1 : Int) ≥ 0) = false := by decide
      have hd2 : decide ((0 : Int) ≤ -1) = false := by decide
      rw [show ((0 : Nat) : Int) - 1 = -1 from rfl, show 36 - 0 = 36 from rfl]
      generalize fracN p three 36 = z at HV
      go_wp2
      go_ret
      exact ⟨by rw [HV.out]; rfl, rfl⟩
    | succ m =>
      rw [show ((m + 1 : Nat) : Int) - 1 = (m : Int) by omega]
      have hd : decide ((m : Int) ≥ 0) = true := by simp
      have hd2 : decide ((0 : Int) ≤ (m : Int)) = true := by simp
      have HF : Hid (fracN p three (36 - m) = if testF three (bits .or .u64 (fracN p three (36 - (m + 1))) (IntKind.u64.wrap (2 ^ m))) p then bits .or .u64 (fracN p three (36 - (m + 1))) (IntKind.u64.wrap (2 ^ m)) else fracN p three (36 - (m + 1))) := Lib.hid (by
        rw [show 36 - m = (36 - (m + 1)) + 1 by omega, fracN, bitF, show 35 - (36 - (m + 1)) = m by omega])
      generalize fracN p three (36 - (m + 1)) = x at HF
      have m0 : (0 : Int) ≤ (m : Int) := by omega
      have m64 : (m : Int) ≤ 64 := by omega
      cases three
      · have HC : ∃ c, sqF (bits .or .u64 x (IntKind.u64.wrap (2 ^ m))) p = c := ⟨_, rfl⟩
        obtain ⟨c, hc⟩ := HC
        have S1 := Lib.hid (S.out (bits .or .u64 x (IntKind.u64.wrap (2 ^ m))))
        rw [show testF false (bits .or .u64 x (IntKind.u64.wrap (2 ^ m))) p = c from hc] at HF
        rw [hc] at S1
        clear hc
        cases c
        all_goals
          go_wp2_with fail
          refine S1.out.mono ?_
          rintro e w' ⟨rfl, rfl⟩
          go_wp2_with fail
          go_round
          case rel => exact ⟨m, by omega, by go_num, by rw [HF.out]; rfl⟩
          case measure => simp [intOf]
      · have HC : ∃ c, cuF (bits .or .u64 x (IntKind.u64.wrap (2 ^ m))) p = c := ⟨_, rfl⟩
        obtain ⟨c, hc⟩ := HC
        have S1 := Lib.hid (C.out (bits .or .u64 x (IntKind.u64.wrap (2 ^ m))))
        rw [show testF true (bits .or .u64 x (IntKind.u64.wrap (2 ^ m))) p = c from hc] at HF
        rw [hc] at S1
        clear hc
        cases c
        all_goals
          go_wp2_with fail
          refine S1.out.mono ?_
          rintro e w' ⟨rfl, rfl⟩
          go_wp2_with fail
          go_round
          case rel => exact ⟨m, by omega, by go_num, by rw [HF.out]; rfl⟩
          case measure => simp [intOf]
abbrev Own64 := Row.Own (Ones.enc .u64) 52
set_option maxRecDepth 100000 in
set_option maxHeartbeats 1000000 in
theorem primes_any (w : World) :
    Calls Tryd.prog 27 #[.int .i64 64] w fun e w' => ∃ v, e = .returned v ∧ Own64 w' w.heap.size v PR ∧ Below w.heap.size w w' := by
  have h0 := Below.refl w.heap.size w
  go_enter Tryd.func27, Tryd.ntmps27
  go_wp2_with fail
  go_loopw [3, 4] (fun v p wx => ∃ (k : Nat) (x : Value), k ≤ 310 ∧ x = v ∧ p = .int .u64 (2 + (k : Int)) ∧ Below w.heap.size w wx ∧ Hid (Own64 wx w.heap.size x (pl k))) (fun _ p _ => 312 - (intOf p).toNat)
  case atStart => exact ⟨0, _, by omega, rfl, rfl, h0, Lib.hid (Row.Own.nil _ _)⟩
  case round =>
    obtain ⟨k, v, hk, rfl, rfl, hb, HO⟩ := hrel
    obtain ⟨a, c, rfl, -, -, hL, -⟩ := HO.out.lies
    obtain ⟨q, hq⟩ : ∃ q, q = (pl k).length := ⟨_, rfl⟩
    rw [← hq] at hL HO ⊢
    by_cases hlt : q < 64
    · have hk2 : k ≤ 309 := by
        rcases Nat.lt_or_ge 309 k with h | h
        · have : k = 310 := by omega
          subst this
          rw [pl_310] at hq
          have : PR.length = 64 := rfl
          omega
        · exact h
      have hd : decide ((q : Int) < 64) = true := decide_eq_true (by omega)
      have HQ := Lib.hid hq
      have HL := Lib.hid hL
      obtain ⟨p, hp⟩ : ∃ p : Int, p = 2 + (k : Int) := ⟨_, rfl⟩
      have HP : Hid (pl (k + 1) = if (pl k).all (fun x => p % x != 0) then pl k ++ [p] else pl k) := Lib.hid (by rw [pl_succ, hp])
      rw [← hp]
      have hp1 : IntKind.u64.wrap (p + 1) = p + 1 := by rw [IntKind.wrap_u64]; omega
      have hp0 : 0 ≤ p := by omega
      have hp3 : p ≤ 311 := by omega
      have HK := Lib.hid hp
      clear hq hL hp
      go_wp2_with fail
      go_loop [5, 6] (fun b i => ∃ j : Nat, j ≤ q ∧ i = .int .i64 (j : Int) ∧ b = .bool (((pl k).take j).all (fun x => p % x != 0))) (fun _ i => q - (intOf i).toNat)
      case atStart => exact ⟨0, by omega, rfl, rfl⟩
      case round =>
        obtain ⟨j, hj, rfl, rfl⟩ := hrel
        have hql := HQ.out
        by_cases hlt2 : j < q
        · have hd2 : decide ((j : Int) < (q : Int)) = true := decide_eq_true (by omega)
          obtain ⟨b, o, rfl, hc⟩ := Ones.Lies.at HL.out (by omega)
          have hcj := hc j (by omega)
          have hjl : j < (pl k).length := by omega
          have hx := pl_pos k ((pl k).getD j 0) (by rw [List.getD_eq_getElem?_getD, List.getElem?_eq_getElem hjl]; exact List.getElem_mem _)
          have HT : Hid (((pl k).take (j + 1)).all (fun x => p % x != 0) = (((pl k).take j).all (fun x => p % x != 0) && (p % (pl k).getD j 0 != 0))) := Lib.hid (by
            rw [List.take_succ_eq_append_getElem hjl, List.all_append, List.getD_eq_getElem?_getD, List.getElem?_eq_getElem hjl]; simp)
          generalize (pl k).getD j 0 = x at hcj hx HT
          obtain ⟨hx0, hx1⟩ := hx
          have h0j : (0 : Int) ≤ (j : Int) := by omega
          have hxn : x ≠ 0 := by omega
          have hxb : (x == 0) = false := beq_eq_false_iff_ne.2 hxn
          clear hc hql
          cases hc1 : ((pl k).take j).all (fun x => p % x != 0) with
          | false =>
            rw [hc1, Bool.false_and] at HT
            go_wp2_with fail
            go_round
            case rel => exact ⟨j + 1, by omega, by go_num, by rw [HT.out]⟩
            case measure => simp [intOf]; omega
          | true =>
            rw [hc1, Bool.true_and] at HT
            have HM := Lib.hid hx1
            clear hx1
            go_wp2_with fail
            go_round
            case rel => exact ⟨j + 1, by omega, by go_num, by rw [HT.out]⟩
            case measure => simp [intOf]; omega
        · obtain rfl : j = q := by omega
          have hd2 : decide ((j : Int) < (j : Int)) = false := decide_eq_false (by omega)
          rw [hql, List.take_length, ← hql]
          have HKo := HK.out
          cases hc1 : (pl k).all (fun x => p % x != 0) with
          | false =>
            have HE : Hid (Own64 wr w.heap.size (.slice a j c) (pl (k + 1))) := Lib.hid (by rw [HP.out, hc1]; exact HO.out)
            clear HKo hql
            go_wp2_with fail
            go_roundw
            case rel => exact ⟨k + 1, _, by omega, rfl, by rw [HK.out]; congr 1, hb, HE⟩
            case measure => simp [intOf]; omega
          | true =>
            have HP2 : Hid (pl (k + 1) = pl k ++ [p]) := Lib.hid (by rw [HP.out, hc1]; rfl)
            clear HKo hql hc1
            have hlp : (pl k).length ≤ 64 := by have := HQ.out; omega
            go_wp2_with (at_builtin; refine Row.wpList_app typ64 rfl _ _ rfl w.heap.size _ _ rfl (HO.out.alloc _) _ 1 1 [p] rfl (Row.lies_new (E := Ones.enc .u64) wr p _) (by omega) (by have := hb.size; rw [World.size_alloc]; omega) ?_; intro v9 w9 o9 _ k9)
            have HO9 := Lib.hid o9
            have hb9 := (balloc hb _).trans k9
            clear o9 k9
            go_wp2_with fail
            go_roundw
            case rel => exact ⟨k + 1, _, by omega, rfl, by rw [HK.out]; congr 1, hb9, Lib.hid (by rw [HP2.out]; exact HO9.out)⟩
            case measure => simp [intOf]; omega
    · have hd : decide ((q : Int) < 64) = false := decide_eq_false (by omega)
      have hk3 : k = 310 := by
        rcases Nat.lt_or_ge k 310 with h | h
        · have := pl_short k (by omega); omega
        · omega
      subst hk3
      have HE : Hid (Own64 wr w.heap.size (.slice a q c) PR) := Lib.hid (by rw [← pl_310]; exact HO.out)
      clear HO hL hq
      go_wp2
      go_ret
      exact ⟨_, rfl, HE.out, hb⟩
end RefSha
end Go.Proofs.YtibdpjhiblhnmaaDoor
