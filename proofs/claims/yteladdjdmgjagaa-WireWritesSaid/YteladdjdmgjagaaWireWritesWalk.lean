/- The walk of WireWrites: it answers true. -/
import Derived.Test.YteladdjdmgjagaaWireAlive
import Derived.Test.YteladdjdmgjagaaWireRef
import Derived.Test.YteladdjdmgjagaaWireApartPlain
import Derived.Test.YteladdjdmgjagaaSized
import Derived.Deep.DeepCutAuto
import Derived.Deep.CutBlock
namespace Go.Proofs.Yteladdjdmgjagaa.WireWrites
open Go.RowKit Go.Proofs.Yteladdjdmgjagaa.Wire Go.Proofs.Yteladdjdmgjagaa.Num

set_option maxRecDepth 100000 in
set_option maxHeartbeats 4000000 in
theorem walk (a0 : Option Addr) (len0 cap0 : Nat) (z0 : List Int) (a1 : Option Addr) (len1 cap1 : Nat) (z1 : List ByteArray) (a2 : Bool) (w : World) (w0 : IsRow .u64 w a0 len0 cap0 z0) (r0 : len0 ≤ 140737488351232) (w1 : IsStrs w a1 len1 cap1 z1) (r1 : len1 ≤ 140737488351232) (q1 : StrsIn w a1 len1) :
    Calls Try.prog 3 #[.slice a0 len0 cap0, .slice a1 len1 cap1, .bool a2] w fun e w' => e = .returned (.bool true) ∧ Below w.heap.size w w' := by
  obtain ⟨_, la, hA⟩ := w0.nats
  obtain ⟨_, ls, hS⟩ := w1.txts
  clear w0 w1
  have HA := Lib.hid hA
  have HS := Lib.hid hS
  have LS := Lib.hid hS.1
  have Q2 := Lib.hid q1
  clear hA hS q1
  have h0 := Below.refl w.heap.size w
  go_enter Try.func3, Try.ntmps3
  go_upto_block 0 with fail
  go_cut [7] (fun n wx => ∃ N : Nat, n = .int .i64 N ∧ w = wx ∧ (N < 16384 → wsum ls = N))
  case first =>
    go_wp2_with fail
    go_loop [7, 8] (fun n i => ∃ k N : Nat, k ≤ len1 ∧ i = .int .i64 k ∧ n = .int .i64 N ∧ wsum (ls.take k) = N ∧ N < 140737488371232) (fun _ i => len1 - (intOf i).toNat)
    case atStart => exact ⟨0, 0, by omega, rfl, rfl, by rw [List.take_zero]; rfl, by decide⟩
    case round =>
      obtain ⟨k, N, hk, rfl, rfl, hN, hNb⟩ := hrel
      have hls := LS.out
      by_cases hlk : k < len1
      · have hd1 : decide ((k : Int) < (len1 : Int)) = true := decide_eq_true (by omega)
        by_cases hn8 : N < 16384
        · have hd2 : decide ((N : Int) < 16384) = true := decide_eq_true (by omega)
          obtain ⟨b, off, rfl, hblt, hc⟩ := HS.out.2.2 (by omega)
          have hck := hc k (by omega)
          have hst := wsum_take ls k (by omega)
          obtain ⟨x, hx⟩ : ∃ x, x = ls[k]'(by omega) := ⟨_, rfl⟩
          rw [← hx] at hck hst
          have hxs : x.size ≤ 140737488351232 := by have := Q2.out ⟨b, off, none⟩ rfl k (by omega) x (by rw [Go.WideShapes.add_plain]; exact hck); omega
          have HN := Lib.hid hN
          have HST := Lib.hid hst
          clear hN hst hc hx hls
          go_wp2
          go_round
          case rel => exact ⟨k + 1, N + 1 + x.size, by omega, by go_num, by go_num, by rw [HST.out, HN.out], by omega⟩
          case measure => simp [intOf]; omega
        · have hd2 : decide ((N : Int) < 16384) = false := decide_eq_false (by omega)
          clear hN hls
          go_wp2
          go_meet
          exact ⟨N, rfl, rfl, fun h => absurd h hn8⟩
      · have hd1 : decide ((k : Int) < (len1 : Int)) = false := decide_eq_false (by omega)
        have hkk : wsum ls = N := by rw [← hN, List.take_of_length_le (by omega)]
        have HK := Lib.hid hkk
        clear hN hls hkk
        go_wp2
        go_meet
        exact ⟨N, rfl, rfl, fun _ => HK.out⟩
  case rest =>
    obtain ⟨N, rfl, rfl, hN⟩ := hcut
    have HN := Lib.hid hN
    clear hN
    by_cases c0 : 500 < len0
    · have hd : decide ((500 : Int) < (len0 : Int)) = true := decide_eq_true (by omega)
      go_wp2_with fail
      refine (alive_any _).mono ?_
      rintro e w' ⟨rfl, hb⟩
      go_wp2
      go_ret
      exact ⟨rfl, hb⟩
    have hd0 : decide ((500 : Int) < (len0 : Int)) = false := decide_eq_false (by omega)
    by_cases c2 : 16384 ≤ N
    · have hd : decide ((16384 : Int) ≤ (N : Int)) = true := decide_eq_true (by omega)
      have hd' : decide ((N : Int) ≥ 16384) = true := decide_eq_true (by omega)
      go_wp2_with fail
      refine (alive_any _).mono ?_
      rintro e w' ⟨rfl, hb⟩
      go_wp2
      go_ret
      exact ⟨rfl, hb⟩
    have hd2 : decide ((16384 : Int) ≤ (N : Int)) = false := decide_eq_false (by omega)
    have hd2' : decide ((N : Int) ≥ 16384) = false := decide_eq_false (by omega)
    have bS : wsum ls < 16384 := by have := HN.out (by omega); omega
    have lS := wsum_length ls
    have tS := tcat_wsum ls
    have hls := LS.out
    have bl : len1 ≤ 1099511627776 := by omega
    have bt : (tcat ls).length ≤ 1099511627776 := by omega
    have X1 := Lib.hid (fun (w1 : World) (k : Below w.heap.size w w1) => nums_any a0 len0 cap0 la w1 (HA.out.below rfl k) (by omega))
    have X2 := Lib.hid (fun (w1 : World) (k : Below w.heap.size w w1) => refnums_any a0 len0 cap0 la w1 (HA.out.below rfl k) (by omega))
    have X3 := Lib.hid (fun (w1 : World) (k : Below w.heap.size w w1) => texts_any a1 len1 cap1 ls w1 (HS.out.below rfl k) bt bl)
    have X4 := Lib.hid (fun (w1 : World) (k : Below w.heap.size w w1) => reftexts_any a1 len1 cap1 ls w1 (HS.out.below rfl k) bt bl)
    clear hls HN
    go_wp2_with fail
    refine (X1.out _ h0).mono ?_
    rintro e w1 ⟨rfl, k1⟩
    have h1 := bstep h0 k1
    clear k1 X1
    go_wp2_with fail
    refine (X2.out _ h1).mono ?_
    rintro e w2 ⟨rfl, k2⟩
    have h2 := bstep h1 k2
    clear k2 X2
    go_wp2_with fail
    refine (X3.out _ h2).mono ?_
    rintro e w3 ⟨rfl, k3⟩
    have h3 := bstep h2 k3
    clear k3 X3
    go_wp2_with fail
    refine (X4.out _ h3).mono ?_
    rintro e w4 ⟨rfl, k4⟩
    have h4 := bstep h3 k4
    clear k4 X4
    go_wp2_with fail
    refine (bool_w _ _).mono ?_
    rintro e w' ⟨rfl, rfl⟩
    go_wp2_with fail
    refine (refbool_w _ _).mono ?_
    rintro e w' ⟨rfl, rfl⟩
    go_wp2_with fail
    refine (alive_any _).mono ?_
    rintro e w5 ⟨rfl, k5⟩
    go_wp2
    go_ret
    exact ⟨rfl, bstep h4 k5⟩

end Go.Proofs.Yteladdjdmgjagaa.WireWrites
