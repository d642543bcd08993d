/- BagJoins: the walk. -/
import Derived.Test.YtnlbgjghckbbcaaTmBagAlive
import Derived.Test.YtnlbgjghckbbcaaTmBagRefJoin
namespace Go.Proofs.Ytnlbgjghckbbcaa
namespace BagJoins
open Go.RowKit Go.Proofs.Ytnlbgjghckbbcaa.Mark Go.Proofs.Ytnlbgjghckbbcaa.Dots Go.Proofs.Ytnlbgjghckbbcaa.Bag Go.Proofs.Ytnlbgjghckbbcaa.BagLaw
set_option maxRecDepth 100000 in
set_option maxHeartbeats 4000000 in
theorem walk (a0 : List Bag.It) (s0 : Option Addr) (c0 : Nat) (a1 : List Mark.M) (s1 : Option Addr) (c1 : Nat) (a2 : List Bag.It) (s2 : Option Addr) (c2 : Nat) (a3 : List Mark.M) (s3 : Option Addr) (c3 : Nat) (w : World) (w0 : ∀ x ∈ a0, x.Was) (l0 : Bag.Lies w s0 a0.length a0) (_ : a0.length ≤ 140737488351232) (w1 : ∀ x ∈ a1, x.Was) (l1 : Mark.Lies w s1 a1.length a1) (_ : a1.length ≤ 140737488351232) (w2 : ∀ x ∈ a2, x.Was) (l2 : Bag.Lies w s2 a2.length a2) (_ : a2.length ≤ 140737488351232) (w3 : ∀ x ∈ a3, x.Was) (l3 : Mark.Lies w s3 a3.length a3) (_ : a3.length ≤ 140737488351232) :
    Calls Try.prog 3 #[.slice s0 a0.length c0, .slice s1 a1.length c1, .slice s2 a2.length c2, .slice s3 a3.length c3] w fun e w' => e = .returned (.bool true) ∧ Below w.heap.size w w' := by
  rename_i z0 z1 z2 z3
  have hb := Below.refl w.heap.size w
  have W0 := Lib.hid w0
  have W1 := Lib.hid w1
  have W2 := Lib.hid w2
  have W3 := Lib.hid w3
  replace l0 := Lib.hid l0
  replace l1 := Lib.hid l1
  replace l2 := Lib.hid l2
  replace l3 := Lib.hid l3
  have LA := Lib.hid (large_any a0 s0 a0.length c0 w l0.out z0 (fun x hx => ⟨(w0 x hx).1, (w0 x hx).2.1⟩))
  have LB := Lib.hid (fun W (k : Below w.heap.size w W) => large_any a2 s2 a2.length c2 W (l2.out.below k) z2 (fun x hx => ⟨(w2 x hx).1, (w2 x hx).2.1⟩))
  clear w0 w1 w2 w3
  go_enter Try.func3, Try.ntmps3
  go_wp2_with fail
  refine (LA.out).mono ?_
  rintro e v1 ⟨z, rfl, hz, k1⟩
  replace l0 := Lib.hid (Bag.Lies.below l0.out k1)
  replace l1 := Lib.hid (Mark.Lies.below l1.out k1)
  replace l2 := Lib.hid (Bag.Lies.below l2.out k1)
  replace l3 := Lib.hid (Mark.Lies.below l3.out k1)
  replace hb := bstep hb k1
  clear k1
  have HZA := Lib.hid hz
  clear hz LA
  cases z with
  | true =>
    go_wp2_with fail
    refine (alive_any _).mono ?_
    rintro e v2 ⟨rfl, k2⟩
    replace hb := bstep hb k2
    clear k2
    go_wp2
    go_ret
    exact ⟨rfl, hb⟩
  | false =>
    go_wp2_with fail
    refine (LB.out _ hb).mono ?_
    rintro e v3 ⟨z, rfl, hz, k3⟩
    replace l0 := Lib.hid (Bag.Lies.below l0.out k3)
    replace l1 := Lib.hid (Mark.Lies.below l1.out k3)
    replace l2 := Lib.hid (Bag.Lies.below l2.out k3)
    replace l3 := Lib.hid (Mark.Lies.below l3.out k3)
    replace hb := bstep hb k3
    clear k3
    have HZB := Lib.hid hz
    clear hz LB
    cases z with
    | true =>
      go_wp2_with fail
      refine (alive_any _).mono ?_
      rintro e v4 ⟨rfl, k4⟩
      replace hb := bstep hb k4
      clear k4
      go_wp2
      go_ret
      exact ⟨rfl, hb⟩
    | false =>
      by_cases hs : 60 < a1.length
      · have d1 : decide ((60 : Int) < (a1.length : Int)) = true := decide_eq_true (by omega)
        clear hs
        go_wp2_with fail
        refine (alive_any _).mono ?_
        rintro e v5 ⟨rfl, k5⟩
        replace hb := bstep hb k5
        clear k5
        go_wp2
        go_ret
        exact ⟨rfl, hb⟩
      have d1 : decide ((60 : Int) < (a1.length : Int)) = false := decide_eq_false (by omega)
      by_cases ho : 60 < a3.length
      · have d2 : decide ((60 : Int) < (a3.length : Int)) = true := decide_eq_true (by omega)
        clear hs ho
        go_wp2_with fail
        refine (alive_any _).mono ?_
        rintro e v6 ⟨rfl, k6⟩
        replace hb := bstep hb k6
        clear k6
        go_wp2
        go_ret
        exact ⟨rfl, hb⟩
      have d2 : decide ((60 : Int) < (a3.length : Int)) = false := decide_eq_false (by omega)
      have hwa : wt a0 ≤ 400 := by first | exact HZA.out rfl | exact HZA.out trivial | exact HZA.out
      have hwb : wt a2 ≤ 400 := by first | exact HZB.out rfl | exact HZB.out trivial | exact HZB.out
      have hpa := wt_pls a0
      have hpb := wt_pls a2
      have hla := wt_len a0
      have hlb := wt_len a2
      have FA := Lib.hid (fine_in W0.out hwa)
      have FB := Lib.hid (fine_in W2.out hwb)
      have KS := Lib.hid (ok_in W1.out)
      have KO := Lib.hid (ok_in W3.out)
      have JN := Lib.hid (fun W (x0 : Bag.Lies W s0 a0.length a0) (x1 : Mark.Lies W s1 a1.length a1) (x2 : Bag.Lies W s2 a2.length a2) (x3 : Mark.Lies W s3 a3.length a3) => Bag.join_any a0 a2 a1 a3 s0 s2 s1 s3 a0.length a2.length a1.length a3.length c0 c2 c1 c3 W x0 x2 x1 x3 FA.out FB.out (by omega) (by omega) KS.out KO.out (by omega))
      have RJ := Lib.hid (fun W (x0 : Bag.Lies W s0 a0.length a0) (x1 : Mark.Lies W s1 a1.length a1) (x2 : Bag.Lies W s2 a2.length a2) (x3 : Mark.Lies W s3 a3.length a3) => RefBag.join_any a0 a2 a1 a3 s0 s2 s1 s3 a0.length a2.length a1.length a3.length c0 c2 c1 c3 W x0 x2 x1 x3 (by omega) (by omega) (by omega) (by omega) KS.out KO.out (by omega))
      have HSUM : Hid ((pls a0).length + (pls a2).length ≤ 800) := Lib.hid (by omega)
      clear hs ho hwa hwb hpa hpb hla hlb HZA HZB W0 W1 W2 W3 KS KO FA FB
      go_wp2_with fail
      refine (JN.out _ l0.out l1.out l2.out l3.out).mono ?_
      rintro e v7 ⟨ja, jc, R, rfl, hR, hRl, lR, k7⟩
      replace l0 := Lib.hid (Bag.Lies.below l0.out k7)
      replace l1 := Lib.hid (Mark.Lies.below l1.out k7)
      replace l2 := Lib.hid (Bag.Lies.below l2.out k7)
      replace l3 := Lib.hid (Mark.Lies.below l3.out k7)
      replace hb := bstep hb k7
      clear k7
      have HR := Lib.hid hR
      have HRL := Lib.hid hRl
      replace lR := Lib.hid lR
      clear hR hRl
      go_wp2_with fail
      refine (RJ.out _ l0.out l1.out l2.out l3.out).mono ?_
      rintro e v8 ⟨qa, qc, Q, rfl, hQ, lQ, k8⟩
      replace l0 := Lib.hid (Bag.Lies.below l0.out k8)
      replace l1 := Lib.hid (Mark.Lies.below l1.out k8)
      replace l2 := Lib.hid (Bag.Lies.below l2.out k8)
      replace l3 := Lib.hid (Mark.Lies.below l3.out k8)
      replace lR := Lib.hid (Bag.Lies.below lR.out k8)
      replace hb := bstep hb k8
      clear k8
      obtain rfl : R = Q := HR.out.uniq hQ
      replace lQ := Lib.hid lQ
      clear hQ
      have hfew := few_of (V := pls a0 ++ pls a2) HR.out (fun t m h => by
        rw [List.mem_append, mem_pls, mem_pls]
        rcases h with h | h
        · exact .inl h.1
        · exact .inr h.1)
      rw [List.length_append] at hfew
      have SM := Lib.hid (fun W (x : Bag.Lies W ja R.length R) (y : Bag.Lies W qa R.length R) => RefBag.same_any R R ja qa R.length R.length jc qc W x y (by have := HRL.out; have := HSUM.out; omega) (fun x hx => by have := RefBag.dots_len hx; have := HSUM.out; omega))
      rw [decide_eq_true (rfl : R = R)] at SM
      clear hfew
      go_wp2_with fail
      refine (SM.out _ lR.out lQ.out).mono ?_
      rintro e v9 ⟨rfl, k9⟩
      replace l0 := Lib.hid (Bag.Lies.below l0.out k9)
      replace l1 := Lib.hid (Mark.Lies.below l1.out k9)
      replace l2 := Lib.hid (Bag.Lies.below l2.out k9)
      replace l3 := Lib.hid (Mark.Lies.below l3.out k9)
      replace lR := Lib.hid (Bag.Lies.below lR.out k9)
      replace lQ := Lib.hid (Bag.Lies.below lQ.out k9)
      replace hb := bstep hb k9
      clear k9
      go_wp2_with fail
      refine (alive_any _).mono ?_
      rintro e v10 ⟨rfl, k10⟩
      replace hb := bstep hb k10
      clear k10
      go_wp2
      go_ret
      exact ⟨rfl, hb⟩
end BagJoins
end Go.Proofs.Ytnlbgjghckbbcaa
