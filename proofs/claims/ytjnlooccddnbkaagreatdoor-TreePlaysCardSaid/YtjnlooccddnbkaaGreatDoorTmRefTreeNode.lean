/- The reference of Tree: Node. -/
import Derived.Test.YtjnlooccddnbkaaGreatDoorTmRefTreeLeaf
import Derived.Test.YtjnlooccddnbkaaGreatDoorTmTreeVec
namespace Go.Proofs.YtjnlooccddnbkaaGreatDoor
namespace RefTree
open Go.RowKit Go.Proofs.YtjnlooccddnbkaaGreatDoor.Mark Go.Proofs.YtjnlooccddnbkaaGreatDoor.Dots Go.Proofs.YtjnlooccddnbkaaGreatDoor.Tree
theorem seen_one (l : List It) (i : Nat) : Tree.seen l (i * 2 ^ 0) (2 ^ 0) = (items l i).flatMap It.s := by
  show [] ++ (items l (i * 2 ^ 0 + 0)).flatMap It.s = _
  rw [List.nil_append, Nat.pow_zero, Nat.mul_one, Nat.add_zero]
theorem dig_leaf (l : List It) (i : Nat) : dig l 0 i = Sha.of (txt (items l i)) := by rw [dig]
theorem dig_up (l : List It) (m i : Nat) : dig l (m + 1) i = Sha.of (1 :: (dig l m (2 * i) ++ dig l m (2 * i + 1))) := by rw [dig]
theorem seen_up (l : List It) (i m : Nat) (A B J : List M) (hA : IsVec A (ofL (Tree.seen l (2 * i * 2 ^ m) (2 ^ m)))) (hB : IsVec B (ofL (Tree.seen l ((2 * i + 1) * 2 ^ m) (2 ^ m)))) (hJ : IsVec J (fun q => max (ofL A q) (ofL B q))) :
    IsVec J (ofL (Tree.seen l (i * 2 ^ (m + 1)) (2 ^ (m + 1)))) := by
  refine ⟨hJ.1, fun q => ?_⟩
  rw [hJ.2 q]
  show max (ofL A q) (ofL B q) = _
  rw [hA.2 q, hB.2 q, ← RefDots.ofL_append]
  have e1 : i * 2 ^ (m + 1) = 2 * i * 2 ^ m := by rw [Nat.pow_succ]; rw [Nat.mul_comm 2 i, Nat.mul_assoc, Nat.mul_comm 2 (2 ^ m)]
  have e2 : (2 * i + 1) * 2 ^ m = 2 * i * 2 ^ m + 2 ^ m := by rw [Nat.add_mul, Nat.one_mul]
  have e3 : 2 ^ (m + 1) = 2 ^ m + 2 ^ m := by rw [Nat.pow_succ]; omega
  rw [e1, e2, e3, seen_add]
set_option maxRecDepth 100000 in
set_option maxHeartbeats 4000000 in
theorem node_any {w : World} {rb : Nat} {L : List RI} (hn : L.length ≤ 256) (hf : ∀ y ∈ L, y.k.length ≤ 1048576 ∧ y.b.length ≤ 1048576 ∧ Ok y.s ∧ y.s.length ≤ 512) : ∀ (m deep i : Nat) (x : World), deep + m = 4 → i < 2 ^ deep → Is w x rb L → Below w.heap.size w x →
    Calls Tryz.prog 28 #[.pointer (some ⟨rb, 0, none⟩), .int .i64 (deep : Int), .int .i64 (i : Int)] x fun e y => ∃ a c R, e = .returned (.tuple #[.string ⟨(dig (L.map RI.it) m i).toArray⟩, .slice a R.length c]) ∧ IsVec R (ofL (Tree.seen (L.map RI.it) (i * 2 ^ m) (2 ^ m))) ∧ R.length ≤ 131072 * 2 ^ m ∧ Ok R ∧ Mark.Lies y a R.length R ∧ Below x.heap.size x y
  | 0, deep, i, x, hd, hi, h, hw => by
    obtain rfl : deep = 4 := by omega
    have hi16 : i < 16 := hi
    have LE := Lib.hid (leaf_any i h hw hn hf)
    rw [← dig_leaf, ← seen_one] at LE
    obtain ⟨dg, hdg⟩ : ∃ d, d = dig (L.map RI.it) 0 i := ⟨_, rfl⟩
    rw [← hdg] at LE ⊢
    have d1 : decide ((i : Int) < 0) = false := decide_eq_false (by omega)
    have d2 : decide ((16 : Int) ≤ (i : Int)) = false := decide_eq_false (by omega)
    have d3 : decide ((i : Int) ≥ 16) = false := decide_eq_false (by omega)
    clear h hw hdg hi hd
    go_enter Tryz.func28, Tryz.ntmps28
    go_wp2_with fail
    refine LE.out.mono ?_
    rintro e v1 ⟨a1, c1, R1, rfl, hv, hl, ho, hm, k1⟩
    have HP := Lib.hid (And.intro hv (And.intro hl (And.intro ho hm)))
    obtain ⟨nr, hnr⟩ : ∃ n, n = R1.length := ⟨_, rfl⟩
    rw [← hnr]
    have HNR := Lib.hid hnr
    clear hv hl ho hm LE hnr
    go_wp2
    refine bodyPost_ret (v := .tuple #[.string ⟨dg.toArray⟩, .slice a1 nr c1]) (by simp [results, Tryz.f28, go_sem]) rfl ?_
    exact ⟨a1, c1, R1, by rw [HNR.out], HP.out.1, by have := HP.out.2.1; omega, HP.out.2.2.1, HP.out.2.2.2, k1⟩
  | m + 1, deep, i, x, hd, hi, h, hw => by
    have hd4 : deep < 4 := by omega
    have hi1 : 2 * i < 2 ^ (deep + 1) := by rw [Nat.pow_succ]; omega
    have hi2 : 2 * i + 1 < 2 ^ (deep + 1) := by rw [Nat.pow_succ]; omega
    obtain ⟨dd, hdd⟩ : ∃ d, d = 2 ^ deep := ⟨_, rfl⟩
    have hdd8 : dd ≤ 8 := by rw [hdd]; exact Nat.le_trans (Nat.pow_le_pow_right (by decide) (show deep ≤ 3 by omega)) (by decide)
    have hid : i < dd := by rw [hdd]; exact hi
    have I1 := Lib.hid (fun y (k : Below x.heap.size x y) => node_any hn hf m (deep + 1) (2 * i) y (by omega) hi1 (h.below k) (bstep hw k))
    have I2 := Lib.hid (fun y (k : Below x.heap.size x y) => node_any hn hf m (deep + 1) (2 * i + 1) y (by omega) hi2 (h.below k) (bstep hw k))
    have hu : IntKind.u64.wrap (deep : Int) = (deep : Int) := by rw [IntKind.wrap_u64]; omega
    have hs1 : wrap64 (2 ^ min (IntKind.u64.wrap (deep : Int)).toNat 64) = (dd : Int) := by rw [hu, Int.toNat_natCast, Nat.min_eq_left (by omega)]; exact shl_nat deep dd hdd (by omega)
    have d1 : decide ((deep : Int) < 0) = false := decide_eq_false (by omega)
    have d2 : decide ((deep : Int) > 4) = false := decide_eq_false (by omega)
    have d3 : decide ((4 : Int) < (deep : Int)) = false := decide_eq_false (by omega)
    have d4 : decide ((i : Int) < 0) = false := decide_eq_false (by omega)
    have d5 : decide ((dd : Int) ≤ (i : Int)) = false := decide_eq_false (by omega)
    have d6 : decide ((i : Int) ≥ (dd : Int)) = false := decide_eq_false (by omega)
    have d7 : decide (dd ≤ i) = false := decide_eq_false (by omega)
    have d8 : ((deep : Int) == 4) = false := by simp; omega
    have d9 : decide ((deep : Int) = 4) = false := decide_eq_false (by omega)
    obtain ⟨da, hda⟩ : ∃ d, d = dig (L.map RI.it) m (2 * i) := ⟨_, rfl⟩
    obtain ⟨db, hdb⟩ : ∃ d, d = dig (L.map RI.it) m (2 * i + 1) := ⟨_, rfl⟩
    have hla : da.length = 32 := by rw [hda]; exact dig_length _ _ _
    have hlb : db.length = 32 := by rw [hdb]; exact dig_length _ _ _
    have HV : Hid (dig (L.map RI.it) (m + 1) i = Sha.of (1 :: (da ++ db))) := Lib.hid (by rw [hda, hdb]; exact dig_up _ _ _)
    rw [← hda] at I1
    rw [← hdb] at I2
    obtain ⟨U1, hU1⟩ : ∃ u, u = 1 :: da := ⟨_, rfl⟩
    obtain ⟨U2, hU2⟩ : ∃ u, u = U1 ++ db := ⟨_, rfl⟩
    have a1 : ({ data := #[1] } : ByteArray) ++ { data := da.toArray } = { data := U1.toArray } := by rw [hU1]; exact Str.mk_append_mk [1] da
    have a2 : ({ data := U1.toArray } : ByteArray) ++ { data := db.toArray } = { data := U2.toArray } := by rw [hU2]; exact Str.mk_append_mk U1 db
    have q1 : U1.length = 33 := by rw [hU1, List.length_cons, hla]
    have q2 : U2.length = 65 := by rw [hU2, List.length_append, q1, hlb]
    have SO := Lib.hid (fun W => RefSha.of_any U2 W (by rw [q2]; decide))
    have hS : Sha.of U2 = Sha.of (1 :: (da ++ db)) := congrArg Sha.of (by rw [hU2, hU1]; rfl)
    rw [hS] at SO
    obtain ⟨dg, hdg⟩ : ∃ d, d = Sha.of (1 :: (da ++ db)) := ⟨_, rfl⟩
    rw [← hdg] at SO HV
    obtain ⟨de, hde⟩ : ∃ j, j = deep + 1 := ⟨_, rfl⟩
    obtain ⟨j2, hj2⟩ : ∃ j, j = 2 * i + 1 := ⟨_, rfl⟩
    obtain ⟨j1, hj1⟩ : ∃ j, j = 2 * i := ⟨_, rfl⟩
    rw [← hde, ← hj1] at I1
    rw [← hde, ← hj2] at I2
    have SU := Lib.hid (fun A B J => seen_up (L.map RI.it) i m A B J)
    rw [← hj1] at SU
    rw [show j1 + 1 = j2 by omega] at SU
    have w1 : IntKind.i64.wrap ((deep : Int) + 1) = (de : Int) := by rw [IntKind.wrap_i64]; omega
    have w2 : IntKind.i64.wrap (2 * (i : Int)) = (j1 : Int) := by rw [IntKind.wrap_i64]; omega
    have w3 : IntKind.i64.wrap ((j1 : Int) + 1) = (j2 : Int) := by rw [IntKind.wrap_i64]; omega
    have HP2 : Hid (2 ^ m ≤ 16) := Lib.hid (Nat.le_trans (Nat.pow_le_pow_right (by decide) (show m ≤ 4 by omega)) (by decide))
    have g1 : ¬ 9223372036854775807 < 1 + da.length := by rw [hla]; decide
    have g2 : ¬ 9223372036854775807 < U1.length + db.length := by rw [q1, hlb]; decide
    have g3 : ¬ 9223372036854775807 < 33 + db.length := by rw [hlb]; decide
    clear hde hj1 hj2 hS h hw hda hdb hd4 hi1 hi2 hi hd hdd hid hdd8 hu hU1 hU2 q1 q2 hdg hn
    go_enter Tryz.func28, Tryz.ntmps28
    go_wp2_with fail
    refine (I1.out _ (Below.refl _ _)).mono ?_
    rintro e v1 ⟨x1, c1, R1, rfl, hv1, hn1, ok1, y1, k1⟩
    have HB1 := Lib.hid k1
    have V1 := Lib.hid hv1
    have Y1 := Lib.hid y1
    have Z1 := Lib.hid (And.intro hn1 ok1)
    clear k1 hv1 y1 hn1 ok1 I1
    go_wp2_with fail
    refine (I2.out _ HB1.out).mono ?_
    rintro e v2 ⟨x2, c2, R2, rfl, hv2, hn2, ok2, y2, k2⟩
    have HB2 := Lib.hid (bstep HB1.out k2)
    have V2 := Lib.hid hv2
    have Y2 := Lib.hid y2
    have Z2 := Lib.hid (And.intro hn2 ok2)
    replace Y1 := Lib.hid (Y1.out.below k2)
    clear k2 hv2 y2 hn2 ok2 I2
    go_wp2_with fail
    refine (SO.out _).mono ?_
    rintro e v3 ⟨rfl, k3⟩
    have HB3 := Lib.hid (bstep HB2.out k3)
    replace Y1 := Lib.hid (Y1.out.below k3)
    replace Y2 := Lib.hid (Y2.out.below k3)
    clear k3 SO
    go_wp2_with fail
    refine (RefDots.join_any R1 R2 x1 x2 R1.length R2.length c1 c2 _ Y1.out Y2.out (by have := Z1.out.1; have := HP2.out; omega) (by have := Z2.out.1; have := HP2.out; omega) Z1.out.2 Z2.out.2).mono ?_
    rintro e v4 ⟨v, J, rfl, hJ, hlJ, oJ, k4⟩
    obtain ⟨aJ, cJ, rfl, -, -, lJ, -⟩ := oJ.lies
    have VJ := Lib.hid (SU.out R1 R2 J V1.out V2.out hJ)
    have OJ := Lib.hid (join_ok hJ Z1.out.2 Z2.out.2)
    have NJ : Hid (J.length ≤ 131072 * 2 ^ (m + 1)) := Lib.hid (by have := Z1.out.1; have := Z2.out.1; rw [Nat.pow_succ]; omega)
    have LJ := Lib.hid lJ
    have HB4 := Lib.hid (bstep HB3.out k4)
    obtain ⟨nj, hnj⟩ : ∃ n, n = J.length := ⟨_, rfl⟩
    rw [← hnj]
    have HNJ := Lib.hid hnj
    clear hJ hlJ oJ k4 lJ hnj
    go_wp2
    refine bodyPost_ret (v := .tuple #[.string ⟨dg.toArray⟩, .slice aJ nj cJ]) (by simp [results, Tryz.f28, go_sem]) rfl ?_
    exact ⟨aJ, cJ, J, by rw [HV.out, HNJ.out], VJ.out, NJ.out, OJ.out, LJ.out, HB4.out⟩
end RefTree
end Go.Proofs.YtjnlooccddnbkaaGreatDoor
