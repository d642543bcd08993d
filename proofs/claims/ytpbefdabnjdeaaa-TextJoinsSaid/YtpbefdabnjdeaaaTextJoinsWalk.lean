/- The walk of TextJoins: it answers true. -/
import Derived.Test.YtpbefdabnjdeaaaTextAlive
import Derived.Test.YtpbefdabnjdeaaaTextFirst
import Derived.Test.YtpbefdabnjdeaaaTextRef3
import Derived.Test.YtpbefdabnjdeaaaFrame
import Derived.Deep.RegionHeld3
namespace Go.Proofs.Ytpbefdabnjdeaaa.TextJoins
open Go.RowKit Go.Proofs.Ytpbefdabnjdeaaa.Text

theorem own_slice {w : World} {B : Nat} {v : Value} {xs : List Nat} (h : w.ownsRow B 3 1 v xs.length (ints xs)) :
    ∃ p c, v = .slice p xs.length c ∧ (∀ j (_ : j < xs.length), xs.length ≤ c ∧ c ≤ 9223372036854775807 ∧ ∃ g, p = some ⟨g, 0, none⟩ ∧ w.cell? ⟨g, j, none⟩ = some (.int .i64 (xs[j] : Nat))) := by
  rcases h.2 with ⟨rfl, hn⟩ | ⟨g, cap, cur, rfl, _, _, hncap, hcapm, _⟩
  · exact ⟨none, 0, by rw [hn], fun j hj => absurd hj (by omega)⟩
  · exact ⟨_, _, rfl, fun j hj => ⟨by omega, by unfold maxLen at hcapm; omega, g, rfl, ownsRow_at h j _ (Go.Proofs.Ytpbefdabnjdeaaa.Text.ints_at xs j hj)⟩⟩

set_option maxRecDepth 100000 in
set_option maxHeartbeats 2000000 in
theorem walk (a0 : ByteArray) (a1 : ByteArray) (a2 : Int) (w : World) (w0 : a0.size ≤ maxLen) (w1 : a1.size ≤ maxLen) (w2 : (Lit.int .u8 a2).wf = true) :
    Calls Try.prog 5 #[.string a0, .string a1, .int .u8 a2] w fun e w' => e = .returned (.bool true) ∧ Below w.heap.size w w' := by
  have W0 := Lib.hid w0
  have W1 := Lib.hid w1
  obtain ⟨l2, u2⟩ := bounds_u8 w2
  clear w2
  unfold maxLen at w0 w1
  have h0 := Below.refl w.heap.size w
  by_cases hs : 4096 < a0.size
  · go_enter Try.func5, Try.ntmps5
    go_wp2_with fail
    refine (alive_any _).mono ?_
    rintro e w1 ⟨rfl, k1⟩
    have h1 : Below w.heap.size w w1 := bstep (by repeat (first | exact h0 | refine balloc ?_ _ | refine Below.drew ?_ | refine bdrewN ?_ _)) k1
    clear k1
    go_wp2
    go_ret
    exact ⟨rfl, by repeat (first | exact h1 | refine balloc ?_ _ | refine Below.drew ?_ | refine bdrewN ?_ _)⟩
  by_cases hs1 : 4096 < a1.size
  · go_enter Try.func5, Try.ntmps5
    go_wp2_with fail
    refine (alive_any _).mono ?_
    rintro e w2 ⟨rfl, k2⟩
    have h2 : Below w.heap.size w w2 := bstep (by repeat (first | exact h0 | refine balloc ?_ _ | refine Below.drew ?_ | refine bdrewN ?_ _)) k2
    clear k2
    go_wp2
    go_ret
    exact ⟨rfl, by repeat (first | exact h2 | refine balloc ?_ _ | refine Below.drew ?_ | refine bdrewN ?_ _)⟩
  have Va := Lib.hid (fun w => valid_any a0 w W0.out)
  have Vb := Lib.hid (fun w => valid_any a1 w W1.out)
  cases ho : runes a0.data.toList with
  | none =>
    rw [ho] at Va
    rw [show (none : Option (List Nat)).isSome = false from rfl] at Va
    go_enter Try.func5, Try.ntmps5
    go_wp2_with fail
    refine (Va.out _).mono ?_
    rintro e w3 ⟨rfl, k3⟩
    have h3 : Below w.heap.size w w3 := bstep (by repeat (first | exact h0 | refine balloc ?_ _ | refine Below.drew ?_ | refine bdrewN ?_ _)) k3
    clear k3
    go_wp2_with fail
    refine (Va.out _).mono ?_
    rintro e w4 ⟨rfl, k4⟩
    have h4 : Below w.heap.size w w4 := bstep (by repeat (first | exact h3 | refine balloc ?_ _ | refine Below.drew ?_ | refine bdrewN ?_ _)) k4
    clear k4
    go_wp2_with fail
    refine (Va.out _).mono ?_
    rintro e w5 ⟨rfl, k5⟩
    have h5 : Below w.heap.size w w5 := bstep (by repeat (first | exact h4 | refine balloc ?_ _ | refine Below.drew ?_ | refine bdrewN ?_ _)) k5
    clear k5
    go_wp2_with fail
    refine (alive_any _).mono ?_
    rintro e w6 ⟨rfl, k6⟩
    have h6 : Below w.heap.size w w6 := bstep (by repeat (first | exact h5 | refine balloc ?_ _ | refine Below.drew ?_ | refine bdrewN ?_ _)) k6
    clear k6
    go_wp2
    go_ret
    exact ⟨rfl, by repeat (first | exact h6 | refine balloc ?_ _ | refine Below.drew ?_ | refine bdrewN ?_ _)⟩
  | some xs =>
  simp only [ho] at Va
  rw [show (some xs).isSome = true from rfl] at Va
  obtain ⟨ha, hx⟩ := runes_some ho
  have hal : a0.size = (cat xs).length := by rw [← ha, ← Str.size_eq]
  obtain rfl : a0 = ⟨(cat xs).toArray⟩ := Str.ext (by rw [List.toList_toArray]; exact ha)
  clear ha ho W0
  have hbig : (cat xs).length ≤ 4096 := by omega
  have hcl := cat_len xs
  cases ho : runes a1.data.toList with
  | none =>
    have Vab := valid_const (cat xs ++ a1.data.toList) none (by rw [runes_behind xs _ hx, ho]; rfl) (by rw [List.length_append, ← Str.size_eq]; omega)
    rw [show (none : Option (List Nat)).isSome = false from rfl, ← Str.append_mk] at Vab
    have HVab := Lib.hid Vab
    rw [ho] at Vb
    rw [show (none : Option (List Nat)).isSome = false from rfl] at Vb
    obtain ⟨L, hL⟩ : ∃ L, L = cat xs := ⟨_, rfl⟩
    rw [← hL] at hbig Va HVab w0 hs hal ⊢
    clear Vab hal hcl hx hL ho
    rw [Str.size_mk] at w0 hs
    go_enter Try.func5, Try.ntmps5
    go_wp2_with fail
    refine (Va.out _).mono ?_
    rintro e w7 ⟨rfl, k7⟩
    have h7 : Below w.heap.size w w7 := bstep (by repeat (first | exact h0 | refine balloc ?_ _ | refine Below.drew ?_ | refine bdrewN ?_ _)) k7
    clear k7
    go_wp2_with fail
    refine (Vb.out _).mono ?_
    rintro e w8 ⟨rfl, k8⟩
    have h8 : Below w.heap.size w w8 := bstep (by repeat (first | exact h7 | refine balloc ?_ _ | refine Below.drew ?_ | refine bdrewN ?_ _)) k8
    clear k8
    go_wp2_with fail
    refine (Va.out _).mono ?_
    rintro e w9 ⟨rfl, k9⟩
    have h9 : Below w.heap.size w w9 := bstep (by repeat (first | exact h8 | refine balloc ?_ _ | refine Below.drew ?_ | refine bdrewN ?_ _)) k9
    clear k9
    go_wp2_with fail
    refine (HVab.out _).mono ?_
    rintro e w10 ⟨rfl, k10⟩
    have h10 : Below w.heap.size w w10 := bstep (by repeat (first | exact h9 | refine balloc ?_ _ | refine Below.drew ?_ | refine bdrewN ?_ _)) k10
    clear k10
    go_wp2_with fail
    refine (Vb.out _).mono ?_
    rintro e w11 ⟨rfl, k11⟩
    have h11 : Below w.heap.size w w11 := bstep (by repeat (first | exact h10 | refine balloc ?_ _ | refine Below.drew ?_ | refine bdrewN ?_ _)) k11
    clear k11
    go_wp2_with fail
    refine (Va.out _).mono ?_
    rintro e w12 ⟨rfl, k12⟩
    have h12 : Below w.heap.size w w12 := bstep (by repeat (first | exact h11 | refine balloc ?_ _ | refine Below.drew ?_ | refine bdrewN ?_ _)) k12
    clear k12
    go_wp2_with fail
    refine (Vb.out _).mono ?_
    rintro e w13 ⟨rfl, k13⟩
    have h13 : Below w.heap.size w w13 := bstep (by repeat (first | exact h12 | refine balloc ?_ _ | refine Below.drew ?_ | refine bdrewN ?_ _)) k13
    clear k13
    go_wp2_with fail
    refine (alive_any _).mono ?_
    rintro e w14 ⟨rfl, k14⟩
    have h14 : Below w.heap.size w w14 := bstep (by repeat (first | exact h13 | refine balloc ?_ _ | refine Below.drew ?_ | refine bdrewN ?_ _)) k14
    clear k14
    go_wp2
    go_ret
    exact ⟨rfl, by repeat (first | exact h14 | refine balloc ?_ _ | refine Below.drew ?_ | refine bdrewN ?_ _)⟩
  | some ys =>
  simp only [ho] at Vb
  rw [show (some ys).isSome = true from rfl] at Vb
  obtain ⟨ha, hy⟩ := runes_some ho
  have hal1 : a1.size = (cat ys).length := by rw [← ha, ← Str.size_eq]
  obtain rfl : a1 = ⟨(cat ys).toArray⟩ := Str.ext (by rw [List.toList_toArray]; exact ha)
  clear ha ho W1
  have hbig1 : (cat ys).length ≤ 4096 := by omega
  have hcl1 := cat_len ys
  have hxl : xs.length ≤ 4096 := by omega
  have hyl : ys.length ≤ 4096 := by omega
  have hrab : runes (cat xs ++ cat ys) = some (xs ++ ys) := by rw [runes_behind xs _ hx, runes_cat ys hy]; rfl
  have Vab := valid_const (cat xs ++ cat ys) _ hrab (by rw [List.length_append]; omega)
  rw [show (some (xs ++ ys)).isSome = true from rfl, ← Str.mk_append_mk] at Vab
  have HVab := Lib.hid Vab
  have Rab := runes_const (cat xs ++ cat ys) _ hrab (by rw [List.length_append]; omega)
  rw [count_some, List.length_append, Int.natCast_add, ← Str.mk_append_mk] at Rab
  have HRab := Lib.hid Rab
  have Ra := runes_const (cat xs) _ (runes_cat xs hx) (by omega)
  have Rb := runes_const (cat ys) _ (runes_cat ys hy) (by omega)
  rw [count_some] at Ra Rb
  have HRa := Lib.hid Ra
  have HRb := Lib.hid Rb
  obtain ⟨n, rfl⟩ : ∃ n : Nat, a2 = n := ⟨a2.toNat, by omega⟩
  have Ca := cut_const (cat xs) _ (runes_cat xs hx) (by omega) n (by omega) (by omega) (cat (xs.take n)) (by rw [cutL_some, Int.toNat_natCast])
  have HCa := Lib.hid Ca
  have hle : (cat (xs.take n)).length ≤ (cat xs).length := by
    have h1 := congrArg List.length (cat_take_drop xs n)
    rw [List.length_append] at h1
    omega
  have Vc := valid_const (cat (xs.take n)) _ (runes_cut hx n) (by omega)
  rw [show (some (xs.take n)).isSome = true from rfl] at Vc
  have HVc := Lib.hid Vc
  have Rc := runes_const (cat (xs.take n)) _ (runes_cut hx n) (by omega)
  rw [count_some, List.length_take] at Rc
  have HRc := Lib.hid Rc
  have hdr : (cat xs).drop (cat (xs.take n)).length = cat (xs.drop n) := by
    conv => lhs; rw [cat_take_drop xs n]
    rw [List.drop_left]
  have Vd := valid_const (cat (xs.drop n)) _ (runes_cat _ (scalar_drop hx n)) (by rw [← hdr, List.length_drop]; omega)
  rw [show (some (xs.drop n)).isSome = true from rfl, show ({ data := (cat (xs.drop n)).toArray } : ByteArray) = ({ data := (cat xs).toArray } : ByteArray).extract (cat (xs.take n)).length (cat xs).length from Str.ext (by rw [Str.extract_toList, List.toList_toArray, List.toList_toArray, List.take_of_length_le (Nat.le_refl _), hdr])] at Vd
  have HVd := Lib.hid Vd
  have hpre : ({ data := (cat xs).toArray } : ByteArray).extract 0 (cat (xs.take n)).length = { data := (cat (xs.take n)).toArray } := Str.ext (by
    rw [Str.extract_toList, List.toList_toArray, List.toList_toArray, List.drop_zero]
    conv => lhs; arg 2; rw [cat_take_drop xs n]
    rw [List.take_left])
  have F1 := fun w => runes2_any ({ data := (cat xs).toArray } : ByteArray) w (by rw [Str.size_mk]; omega)
  have F2 := fun w => runes2_any ({ data := (cat ys).toArray } : ByteArray) w (by rw [Str.size_mk]; omega)
  unfold Runes2 at F1 F2
  rw [show ({ data := (cat xs).toArray } : ByteArray).data.toList = cat xs from List.toList_toArray, runes_cat xs hx] at F1
  rw [show ({ data := (cat ys).toArray } : ByteArray).data.toList = cat ys from List.toList_toArray, runes_cat ys hy] at F2
  have HF1 := Lib.hid F1
  have HF2 := Lib.hid F2
  have K1 := Lib.hid (fun k (h1 : k < xs.length) (h2 : k < ys.length) he hn => cmp_first hx hy h1 h2 he hn)
  have K2 := Lib.hid (fun k h h1 h2 he => cmp_ends (xs := xs) (ys := ys) k h h1 h2 he)
  have Cm := Lib.hid (fun c h w => compare_const (cat xs) (cat ys) c h w)
  obtain ⟨A, hA⟩ : ∃ A, A = cat xs := ⟨_, rfl⟩
  obtain ⟨B, hB⟩ : ∃ B, B = cat ys := ⟨_, rfl⟩
  obtain ⟨C, hC⟩ : ∃ C, C = cat (xs.take n) := ⟨_, rfl⟩
  clear Vab Rab Ra Rb Ca Vc Rc Vd F1 F2 hrab hdr hal hal1 hcl hcl1 hx hy
  rw [Str.size_mk] at w0 w1 hs hs1
  rw [← hA] at Va HVab HRab HRa HCa hle HVd hpre HF1 K1 K2 Cm w0 hs hbig ⊢
  rw [← hB] at Vb HVab HRab HRb HF2 K1 K2 Cm w1 hs1 hbig1 ⊢
  rw [← hC] at HCa hle HVc HRc HVd hpre
  clear hA hB hC
  go_enter Try.func5, Try.ntmps5
  go_wp2_with fail
  refine (Va.out _).mono ?_
  rintro e w15 ⟨rfl, k15⟩
  have h15 : Below w.heap.size w w15 := bstep (by repeat (first | exact h0 | refine balloc ?_ _ | refine Below.drew ?_ | refine bdrewN ?_ _)) k15
  clear k15
  go_wp2_with fail
  refine (Vb.out _).mono ?_
  rintro e w16 ⟨rfl, k16⟩
  have h16 : Below w.heap.size w w16 := bstep (by repeat (first | exact h15 | refine balloc ?_ _ | refine Below.drew ?_ | refine bdrewN ?_ _)) k16
  clear k16
  go_wp2_with fail
  refine (HRab.out _).mono ?_
  rintro e w17 ⟨rfl, k17⟩
  have h17 : Below w.heap.size w w17 := bstep (by repeat (first | exact h16 | refine balloc ?_ _ | refine Below.drew ?_ | refine bdrewN ?_ _)) k17
  clear k17
  go_wp2_with fail
  refine (HRa.out _).mono ?_
  rintro e w18 ⟨rfl, k18⟩
  have h18 : Below w.heap.size w w18 := bstep (by repeat (first | exact h17 | refine balloc ?_ _ | refine Below.drew ?_ | refine bdrewN ?_ _)) k18
  clear k18
  go_wp2_with fail
  refine (HRb.out _).mono ?_
  rintro e w19 ⟨rfl, k19⟩
  have h19 : Below w.heap.size w w19 := bstep (by repeat (first | exact h18 | refine balloc ?_ _ | refine Below.drew ?_ | refine bdrewN ?_ _)) k19
  clear k19
  go_wp2_with fail
  refine (Va.out _).mono ?_
  rintro e w20 ⟨rfl, k20⟩
  have h20 : Below w.heap.size w w20 := bstep (by repeat (first | exact h19 | refine balloc ?_ _ | refine Below.drew ?_ | refine bdrewN ?_ _)) k20
  clear k20
  go_wp2_with fail
  refine (HVab.out _).mono ?_
  rintro e w21 ⟨rfl, k21⟩
  have h21 : Below w.heap.size w w21 := bstep (by repeat (first | exact h20 | refine balloc ?_ _ | refine Below.drew ?_ | refine bdrewN ?_ _)) k21
  clear k21
  go_wp2_with fail
  refine (Vb.out _).mono ?_
  rintro e w22 ⟨rfl, k22⟩
  have h22 : Below w.heap.size w w22 := bstep (by repeat (first | exact h21 | refine balloc ?_ _ | refine Below.drew ?_ | refine bdrewN ?_ _)) k22
  clear k22
  go_wp2_with fail
  refine (Va.out _).mono ?_
  rintro e w23 ⟨rfl, k23⟩
  have h23 : Below w.heap.size w w23 := bstep (by repeat (first | exact h22 | refine balloc ?_ _ | refine Below.drew ?_ | refine bdrewN ?_ _)) k23
  clear k23
  go_wp2_with fail
  refine (Vb.out _).mono ?_
  rintro e w24 ⟨rfl, k24⟩
  have h24 : Below w.heap.size w w24 := bstep (by repeat (first | exact h23 | refine balloc ?_ _ | refine Below.drew ?_ | refine bdrewN ?_ _)) k24
  clear k24
  go_wp2_with fail
  refine (HCa.out _).mono ?_
  rintro e w25 ⟨rfl, k25⟩
  have h25 : Below w.heap.size w w25 := bstep (by repeat (first | exact h24 | refine balloc ?_ _ | refine Below.drew ?_ | refine bdrewN ?_ _)) k25
  clear k25
  go_wp2_with fail
  refine (HVc.out _).mono ?_
  rintro e w26 ⟨rfl, k26⟩
  have h26 : Below w.heap.size w w26 := bstep (by repeat (first | exact h25 | refine balloc ?_ _ | refine Below.drew ?_ | refine bdrewN ?_ _)) k26
  clear k26
  go_wp2_with fail
  refine (HVd.out _).mono ?_
  rintro e w27 ⟨rfl, k27⟩
  have h27 : Below w.heap.size w w27 := bstep (by repeat (first | exact h26 | refine balloc ?_ _ | refine Below.drew ?_ | refine bdrewN ?_ _)) k27
  clear k27
  go_wp2_with fail
  refine (HRc.out _).mono ?_
  rintro e w28 ⟨rfl, k28⟩
  have h28 : Below w.heap.size w w28 := bstep (by repeat (first | exact h27 | refine balloc ?_ _ | refine Below.drew ?_ | refine bdrewN ?_ _)) k28
  clear k28
  go_wp2_with fail
  refine (HRa.out _).mono ?_
  rintro e w29 ⟨rfl, k29⟩
  have h29 : Below w.heap.size w w29 := bstep (by repeat (first | exact h28 | refine balloc ?_ _ | refine Below.drew ?_ | refine bdrewN ?_ _)) k29
  clear k29
  have hmin : (((min n xs.length : Nat) : Int) != min (n : Int) (xs.length : Int)) = false := by
    rw [show ((min n xs.length : Nat) : Int) = min (n : Int) (xs.length : Int) by omega]; simp
  go_wp2_with fail
  refine (HF1.out _).mono ?_
  rintro e w30 ⟨v1, rfl, hown1, k30⟩
  have h30 : Below w.heap.size w w30 := bstep (by repeat (first | exact h29 | refine balloc ?_ _ | refine Below.drew ?_ | refine bdrewN ?_ _)) k30
  obtain ⟨p1, c1, rfl, hp1⟩ := own_slice hown1
  have hp1' : ∀ j (_ : j < xs.length), xs.length ≤ c1 ∧ c1 ≤ 9223372036854775807 ∧ ∃ g, p1 = some ⟨g, 0, none⟩ ∧ g < w30.heap.size ∧ w30.cell? ⟨g, j, none⟩ = some (.int .i64 (xs[j] : Nat)) := fun j hj => by
    obtain ⟨a, b, g, c, d⟩ := hp1 j hj
    exact ⟨a, b, g, c, World.block_lt_of_cell? _ _ d, d⟩
  have HP1 := Lib.hid hp1'
  clear hp1 hp1' hown1 k30
  go_wp2_with fail
  refine (HF2.out _).mono ?_
  rintro e w31 ⟨v2, rfl, hown2, k31⟩
  obtain ⟨p2, c2, rfl, hp2⟩ := own_slice hown2
  have hp1' : ∀ j (_ : j < xs.length), xs.length ≤ c1 ∧ c1 ≤ 9223372036854775807 ∧ ∃ g, p1 = some ⟨g, 0, none⟩ ∧ g < w31.heap.size ∧ w31.cell? ⟨g, j, none⟩ = some (.int .i64 (xs[j] : Nat)) := fun j hj => by
    obtain ⟨a, b, g, c, e, d⟩ := HP1.out j hj
    exact ⟨a, b, g, c, Nat.lt_of_lt_of_le e k31.size, by rw [k31.cell (p := ⟨g, j, none⟩) e]; exact d⟩
  have hp2' : ∀ j (_ : j < ys.length), ys.length ≤ c2 ∧ c2 ≤ 9223372036854775807 ∧ ∃ g, p2 = some ⟨g, 0, none⟩ ∧ g < w31.heap.size ∧ w31.cell? ⟨g, j, none⟩ = some (.int .i64 (ys[j] : Nat)) := fun j hj => by
    obtain ⟨a, b, g, c, d⟩ := hp2 j hj
    exact ⟨a, b, g, c, World.block_lt_of_cell? _ _ d, d⟩
  have h31 : Below w.heap.size w w31 := bstep h30 k31
  have P1 := Lib.hid hp1'
  have P2 := Lib.hid hp2'
  clear hp1' hp2' hp2 hown2 k31 HP1 HF1 HF2 hmin HVd HVc HRc HCa HRa HRb HRab HVab Va Vb hpre hle
  go_wp2_with fail
  go_loopw [12] (fun i wr => ∃ k : Nat, k ≤ xs.length ∧ k ≤ ys.length ∧ i = .int .i64 k ∧ xs.take k = ys.take k ∧ Below w31.heap.size w31 wr) (fun i _ => xs.length - (intOf i).toNat)
  case atStart => exact ⟨0, by omega, by omega, rfl, by simp, Below.refl _ _⟩
  case round =>
    obtain ⟨k, hk1, hk2, rfl, htk, hbw⟩ := hrel
    have Htk := Lib.hid htk
    clear htk
    by_cases hlt : k < xs.length ∧ k < ys.length
    · obtain ⟨hl1, hl2⟩ := hlt
      obtain ⟨hc1, hc1', g1, rfl, hg1, d1⟩ := P1.out k hl1
      obtain ⟨hc2, hc2', g2, rfl, hg2, d2⟩ := P2.out k hl2
      have e1 : wr.cell? ⟨g1, k, none⟩ = some (.int .i64 (xs[k] : Nat)) := by rw [hbw.cell (p := ⟨g1, k, none⟩) hg1]; exact d1
      have e2 : wr.cell? ⟨g2, k, none⟩ = some (.int .i64 (ys[k] : Nat)) := by rw [hbw.cell (p := ⟨g2, k, none⟩) hg2]; exact d2
      have K := Lib.hid (K1.out k hl1 hl2 Htk.out)
      have N := Lib.hid (fun h : xs[k] = ys[k] => show xs.take (k + 1) = ys.take (k + 1) by rw [List.take_succ_eq_append_getElem hl1, List.take_succ_eq_append_getElem hl2, Htk.out, h])
      obtain ⟨x, hx⟩ : ∃ x, x = xs[k] := ⟨_, rfl⟩
      obtain ⟨y, hy⟩ : ∃ y, y = ys[k] := ⟨_, rfl⟩
      rw [← hx] at e1 K N
      rw [← hy] at e2 K N
      clear d1 d2 P1 P2 hx hy K1 K2
      by_cases hxy : x = y
      · have hne : ((x : Int) != (y : Int)) = false := by rw [hxy]; simp
        have n1 := N.out hxy
        have HN := Lib.hid n1
        clear n1 N K
        go_wp2
        go_quiet (fail)
        go_wp2
        exact ⟨⟨k + 1, by omega, by omega, by go_num, HN.out, below_drewN hbw _⟩, by simp [intOf]; omega⟩
      · have hne : ((x : Int) != (y : Int)) = true := by rw [bne_iff_ne]; omega
        go_wp2
        go_quiet (fail)
        go_wp2
        have K' := K.out hxy
        obtain ⟨c, hc⟩ : ∃ c, c = Lib.compareBytes A B := ⟨_, rfl⟩
        have CC := Lib.hid (Cm.out c hc.symm)
        rw [← hc] at K'
        clear hc K N hne hxy
        by_cases hq : x < y
        · have q1 : decide ((x : Int) < (y : Int)) = true := by simp; omega
          rw [q1] at K'
          go_region_held3 (fun w' => w'.cell? ⟨g1, k, none⟩ = some (.int .i64 x) ∧ w'.cell? ⟨g2, k, none⟩ = some (.int .i64 y)) (first | go_keep | exact ⟨by rw [k7.cell (p := ⟨g1, k, none⟩) (by simp; have := hbw.size; omega)]; simp; assumption, by rw [k7.cell (p := ⟨g2, k, none⟩) (by simp; have := hbw.size; omega)]; simp; assumption⟩) (first | (go_at_call 17; refine (CC.out _).mono ?_; rintro e w6 ⟨rfl, rfl⟩; go_wp2_with fail) | (go_at_call 10; refine (alive_any _).mono ?_; rintro e w7 ⟨rfl, k7⟩; go_wp2_with fail))
          go_wp2
          go_ret
          exact ⟨rfl, bstep (bstep h31 (below_drewN hbw _)) k7⟩
        · have q1 : decide ((x : Int) < (y : Int)) = false := by simp; omega
          rw [q1] at K'
          go_region_held3 (fun w' => w'.cell? ⟨g1, k, none⟩ = some (.int .i64 x) ∧ w'.cell? ⟨g2, k, none⟩ = some (.int .i64 y)) (first | go_keep | exact ⟨by rw [k7.cell (p := ⟨g1, k, none⟩) (by simp; have := hbw.size; omega)]; simp; assumption, by rw [k7.cell (p := ⟨g2, k, none⟩) (by simp; have := hbw.size; omega)]; simp; assumption⟩) (first | (go_at_call 17; refine (CC.out _).mono ?_; rintro e w6 ⟨rfl, rfl⟩; go_wp2_with fail) | (go_at_call 10; refine (alive_any _).mono ?_; rintro e w7 ⟨rfl, k7⟩; go_wp2_with fail))
          go_wp2
          go_ret
          exact ⟨rfl, bstep (bstep h31 (below_drewN hbw _)) k7⟩
    · have E := K2.out k hlt hk1 hk2 Htk.out
      clear K1 K2 P1 P2 Htk
      by_cases q1 : xs.length < ys.length
      · rw [if_pos q1] at E
        have CC := Lib.hid (Cm.out (-1) E)
        have d1 : decide ((xs.length : Int) < (ys.length : Int)) = true := by simp; omega
        have d2 : ((xs.length : Int) == (ys.length : Int)) = false := by rw [beq_eq_false_iff_ne]; omega
        clear E Cm
        go_wp2_with fail
        refine (CC.out _).mono ?_
        rintro e w' ⟨rfl, rfl⟩
        go_wp2_with fail
        refine (CC.out _).mono ?_
        rintro e w' ⟨rfl, rfl⟩
        go_wp2_with fail
        refine (alive_any _).mono ?_
        rintro e w8 ⟨rfl, k8⟩
        go_wp2
        go_ret
        exact ⟨rfl, bstep (bstep h31 hbw) k8⟩
      · rw [if_neg q1] at E
        by_cases q2 : ys.length < xs.length
        · rw [if_pos q2] at E
          have CC := Lib.hid (Cm.out 1 E)
          have d1 : decide ((xs.length : Int) < (ys.length : Int)) = false := by simp; omega
          have d2 : ((xs.length : Int) == (ys.length : Int)) = false := by rw [beq_eq_false_iff_ne]; omega
          clear E Cm
          go_wp2_with fail
          refine (CC.out _).mono ?_
          rintro e w' ⟨rfl, rfl⟩
          go_wp2_with fail
          refine (CC.out _).mono ?_
          rintro e w' ⟨rfl, rfl⟩
          go_wp2_with fail
          refine (alive_any _).mono ?_
          rintro e w8 ⟨rfl, k8⟩
          go_wp2
          go_ret
          exact ⟨rfl, bstep (bstep h31 hbw) k8⟩
        · rw [if_neg q2] at E
          have CC := Lib.hid (Cm.out 0 E)
          have d1 : decide ((xs.length : Int) < (ys.length : Int)) = false := by simp; omega
          have d2 : ((xs.length : Int) == (ys.length : Int)) = true := by rw [beq_iff_eq]; omega
          clear E Cm
          go_wp2_with fail
          refine (CC.out _).mono ?_
          rintro e w' ⟨rfl, rfl⟩
          go_wp2_with fail
          refine (CC.out _).mono ?_
          rintro e w' ⟨rfl, rfl⟩
          go_wp2_with fail
          refine (alive_any _).mono ?_
          rintro e w8 ⟨rfl, k8⟩
          go_wp2
          go_ret
          exact ⟨rfl, bstep (bstep h31 hbw) k8⟩

end Go.Proofs.Ytpbefdabnjdeaaa.TextJoins
