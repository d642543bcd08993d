/- The walk of WireApart: it answers true. -/
import Derived.Test.YteladdjdmgjagaaWireAlive
import Derived.Test.YteladdjdmgjagaaWireApartPlain
import Derived.Test.YteladdjdmgjagaaSized
import Derived.Deep.DeepCutAuto
import Derived.Deep.CutBlock
namespace Go.Proofs.Yteladdjdmgjagaa.WireApart
open Go.RowKit Go.Proofs.Yteladdjdmgjagaa.Wire Go.Proofs.Yteladdjdmgjagaa.Num

theorem both (s t : List ByteArray) (k : Nat) (h1 : k < s.length) : wsum ((s ++ t).take (k + 1)) = wsum ((s ++ t).take k) + 1 + s[k].size := by
  rw [wsum_take (s ++ t) k (by rw [List.length_append]; omega), List.getElem_append_left h1]
theorem both2 (s t : List ByteArray) (k : Nat) (h1 : s.length ≤ k) (h2 : k - s.length < t.length) : wsum ((s ++ t).take (k + 1)) = wsum ((s ++ t).take k) + 1 + t[k - s.length].size := by
  rw [wsum_take (s ++ t) k (by rw [List.length_append]; omega), List.getElem_append_right h1]
theorem take_next {α : Type} [DecidableEq α] {a b : List α} {k : Nat} (h : a.take k = b.take k) (ha : k < a.length) (hb : k < b.length) : (a.take (k + 1) = b.take (k + 1)) ↔ a[k] = b[k] := by
  rw [List.take_succ_eq_append_getElem ha, List.take_succ_eq_append_getElem hb, h]
  constructor
  · intro e; exact (List.cons.inj (List.append_cancel_left e)).1
  · intro e; rw [e]
theorem take_all {α : Type} {a b : List α} (h : a.length = b.length) : (a.take a.length = b.take a.length) ↔ a = b := by
  rw [List.take_of_length_le (Nat.le_refl _), List.take_of_length_le (by omega)]

set_option maxRecDepth 100000 in
set_option maxHeartbeats 4000000 in
theorem walk (a0 : Option Addr) (len0 cap0 : Nat) (z0 : List Int) (a1 : Option Addr) (len1 cap1 : Nat) (z1 : List Int) (a2 : Option Addr) (len2 cap2 : Nat) (z2 : List ByteArray) (a3 : Option Addr) (len3 cap3 : Nat) (z3 : List ByteArray) (w : World) (w0 : IsRow .u64 w a0 len0 cap0 z0) (r0 : len0 ≤ 140737488351232) (w1 : IsRow .u64 w a1 len1 cap1 z1) (r1 : len1 ≤ 140737488351232) (w2 : IsStrs w a2 len2 cap2 z2) (r2 : len2 ≤ 140737488351232) (q2 : StrsIn w a2 len2) (w3 : IsStrs w a3 len3 cap3 z3) (r3 : len3 ≤ 140737488351232) (q3 : StrsIn w a3 len3) :
    Calls Try.prog 5 #[.slice a0 len0 cap0, .slice a1 len1 cap1, .slice a2 len2 cap2, .slice a3 len3 cap3] w fun e w' => e = .returned (.bool true) ∧ Below w.heap.size w w' := by
  obtain ⟨_, la, hA⟩ := w0.nats
  obtain ⟨_, lb, hB⟩ := w1.nats
  obtain ⟨_, ls, hS⟩ := w2.txts
  obtain ⟨_, lt, hT⟩ := w3.txts
  clear w0 w1 w2 w3
  have HA := Lib.hid hA
  have HB := Lib.hid hB
  have HS := Lib.hid hS
  have HT := Lib.hid hT
  have LA := Lib.hid hA.1
  have LB := Lib.hid hB.1
  have LS := Lib.hid hS.1
  have LT := Lib.hid hT.1
  clear hA hB hS hT
  have Q2 := Lib.hid q2
  have Q3 := Lib.hid q3
  clear q2 q3
  have h0 := Below.refl w.heap.size w
  go_enter Try.func5, Try.ntmps5
  go_upto_block 0 with fail
  go_cut [9] (fun n wx => ∃ N : Nat, n = .int .i64 N ∧ w = wx ∧ (N < 8192 → wsum (ls ++ lt) = N))
  case first =>
    go_wp2_with fail
    go_loop [9, 10] (fun n i => ∃ k N : Nat, k ≤ len2 + len3 ∧ i = .int .i64 k ∧ n = .int .i64 N ∧ wsum ((ls ++ lt).take k) = N ∧ N < 140737488361232) (fun _ i => len2 + len3 - (intOf i).toNat)
    case atStart => exact ⟨0, 0, by omega, rfl, rfl, by rw [List.take_zero]; rfl, by decide⟩
    case round =>
      obtain ⟨k, N, hk, rfl, rfl, hN, hNb⟩ := hrel
      have hls := LS.out
      have hlt := LT.out
      have hw1 : IntKind.i64.wrap ((len2 : Int) + (len3 : Int)) = (len2 : Int) + (len3 : Int) := by rw [IntKind.wrap_i64]; omega
      by_cases hlk : k < len2 + len3
      · have hd1 : decide ((k : Int) < (len2 : Int) + (len3 : Int)) = true := decide_eq_true (by omega)
        by_cases hn8 : N < 8192
        · have hd2 : decide ((N : Int) < 8192) = true := decide_eq_true (by omega)
          by_cases h2 : k < len2
          · have hd3 : decide ((k : Int) < (len2 : Int)) = true := decide_eq_true (by omega)
            obtain ⟨b, off, rfl, hblt, hc⟩ := HS.out.2.2 (by omega)
            have hck := hc k (by omega)
            have hst := both ls lt k (by omega)
            obtain ⟨x, hx⟩ : ∃ x, x = ls[k]'(by omega) := ⟨_, rfl⟩
            rw [← hx] at hck hst
            have hxs : x.size ≤ 140737488351232 := by have := Q2.out ⟨b, off, none⟩ rfl k (by omega) x (by rw [Go.WideShapes.add_plain]; exact hck); omega
            have HN := Lib.hid hN
            have HST := Lib.hid hst
            clear hN hst hc hx hls hlt
            go_wp2
            go_round
            case rel => exact ⟨k + 1, N + 1 + x.size, by omega, by go_num, by go_num, by rw [HST.out, HN.out], by omega⟩
            case measure => simp [intOf]; omega
          · have hd3 : decide ((k : Int) < (len2 : Int)) = false := decide_eq_false (by omega)
            obtain ⟨b, off, rfl, hblt, hc⟩ := HT.out.2.2 (by omega)
            have hck := hc (k - len2) (by omega)
            have hst := both2 ls lt k (by omega) (by omega)
            have hsub : IntKind.i64.wrap ((k : Int) - (len2 : Int)) = ((k - len2 : Nat) : Int) := by rw [IntKind.wrap_i64]; omega
            have hkk : k - ls.length = k - len2 := by rw [hls]
            simp only [hkk] at hst
            obtain ⟨x, hx⟩ : ∃ x, x = lt[k - len2]'(by omega) := ⟨_, rfl⟩
            rw [← hx] at hck hst
            have hxs : x.size ≤ 140737488351232 := by have := Q3.out ⟨b, off, none⟩ rfl (k - len2) (by omega) x (by rw [Go.WideShapes.add_plain]; exact hck); omega
            have HN := Lib.hid hN
            have HST := Lib.hid hst
            have hkl : k - len2 < len3 := by omega
            clear hN hst hc hx hls hlt hkk
            go_wp2
            go_round
            case rel => exact ⟨k + 1, N + 1 + x.size, by omega, by go_num, by go_num, by rw [HST.out, HN.out], by omega⟩
            case measure => simp [intOf]; omega
        · have hd2 : decide ((N : Int) < 8192) = false := decide_eq_false (by omega)
          clear hN hls hlt
          go_wp2
          go_meet
          exact ⟨N, rfl, rfl, fun h => absurd h hn8⟩
      · have hd1 : decide ((k : Int) < (len2 : Int) + (len3 : Int)) = false := decide_eq_false (by omega)
        have hkk : wsum (ls ++ lt) = N := by rw [← hN, List.take_of_length_le (by rw [List.length_append]; omega)]
        have HK := Lib.hid hkk
        clear hN hls hlt hkk
        go_wp2
        go_meet
        exact ⟨N, rfl, rfl, fun _ => HK.out⟩
  case rest =>
    obtain ⟨N, rfl, rfl, hN⟩ := hcut
    have HN := Lib.hid hN
    clear hN
    by_cases c0 : 200 < len0
    · have hd : decide ((200 : Int) < (len0 : Int)) = true := decide_eq_true (by omega)
      go_wp2_with fail
      refine (alive_any _).mono ?_
      rintro e w' ⟨rfl, hb⟩
      go_wp2
      go_ret
      exact ⟨rfl, hb⟩
    have hd0 : decide ((200 : Int) < (len0 : Int)) = false := decide_eq_false (by omega)
    by_cases c1 : 200 < len1
    · have hd : decide ((200 : Int) < (len1 : Int)) = true := decide_eq_true (by omega)
      go_wp2_with fail
      refine (alive_any _).mono ?_
      rintro e w' ⟨rfl, hb⟩
      go_wp2
      go_ret
      exact ⟨rfl, hb⟩
    have hd1 : decide ((200 : Int) < (len1 : Int)) = false := decide_eq_false (by omega)
    by_cases c2 : 8192 ≤ N
    · have hd : decide ((8192 : Int) ≤ (N : Int)) = true := decide_eq_true (by omega)
      have hd' : decide ((N : Int) ≥ 8192) = true := decide_eq_true (by omega)
      go_wp2_with fail
      refine (alive_any _).mono ?_
      rintro e w' ⟨rfl, hb⟩
      go_wp2
      go_ret
      exact ⟨rfl, hb⟩
    have hd2 : decide ((8192 : Int) ≤ (N : Int)) = false := decide_eq_false (by omega)
    have hd2' : decide ((N : Int) ≥ 8192) = false := decide_eq_false (by omega)
    have bS : wsum ls < 8192 := by have := HN.out (by omega); rw [wsum_append] at this; omega
    have bT : wsum lt < 8192 := by have := HN.out (by omega); rw [wsum_append] at this; omega
    have lS := wsum_length ls
    have lT := wsum_length lt
    have tS := tcat_wsum ls
    have tT := tcat_wsum lt
    clear HN
    go_upto_block 2 with fail
    go_cut [11] (fun sm wx => sm = .bool (decide (la = lb)) ∧ Below w.heap.size w wx)
    case first =>
      go_wp2_with fail
      go_loopw [11, 12] (fun sm i wr => ∃ k : Nat, k ≤ len0 ∧ i = .int .i64 k ∧ sm = .bool (decide (len0 = len1 ∧ la.take k = lb.take k)) ∧ Below w.heap.size w wr) (fun _ i _ => len0 - (intOf i).toNat)
      case atStart => exact ⟨0, by omega, rfl, congrArg Value.bool (by rw [Bool.eq_iff_iff]; simp; omega), h0⟩
      case round =>
        obtain ⟨k, hk, rfl, rfl, hb⟩ := hrel
        have hla := LA.out
        have hlb := LB.out
        by_cases hlk : k < len0
        · have hd3 : decide ((k : Int) < (len0 : Int)) = true := decide_eq_true (by omega)
          by_cases hP : len0 = len1 ∧ la.take k = lb.take k
          · rw [decide_eq_true hP]
            obtain ⟨_, hmA, hcA⟩ := HA.out.below rfl hb
            obtain ⟨_, hmB, hcB⟩ := HB.out.below rfl hb
            obtain ⟨b, off, rfl, hblt, hc⟩ := hcA (by omega)
            have hck := hc k (by omega)
            obtain ⟨b2, off2, rfl, hblt2, hc2⟩ := hcB (by omega)
            have hck2 := hc2 k (by omega)
            have hstep := take_next hP.2 (by omega) (by omega)
            obtain ⟨x, hx⟩ : ∃ x, x = la[k]'(by omega) := ⟨_, rfl⟩
            obtain ⟨y, hy⟩ : ∃ y, y = lb[k]'(by omega) := ⟨_, rfl⟩
            rw [← hx] at hck hstep
            rw [← hy] at hck2 hstep
            have hlk2 : k < len1 := by omega
            have hres : ((x : Int) == (y : Int)) = decide (len0 = len1 ∧ la.take (k + 1) = lb.take (k + 1)) := by
              rw [Bool.eq_iff_iff, beq_iff_eq, decide_eq_true_eq]; exact ⟨fun h => ⟨hP.1, hstep.2 (by omega)⟩, fun h => by rw [hstep.1 h.2]⟩
            have HR := Lib.hid hres
            clear hc hc2 hx hy hcA hcB hmA hmB hstep hP hla hlb hres
            go_wp2_with fail
            go_region
            go_wp2
            go_roundw
            case rel => exact ⟨k + 1, by omega, by go_num, congrArg Value.bool HR.out, Below.drew hb⟩
            case measure => simp [intOf]; omega
          · rw [decide_eq_false hP]
            have hne : decide (la = lb) = false := decide_eq_false (fun h => hP ⟨by rw [← hla, ← hlb, h], by rw [h]⟩)
            have HR := Lib.hid hne
            clear hla hlb hne hP
            go_wp2_with fail
            go_meet
            exact ⟨congrArg Value.bool HR.out.symm, hb⟩
        · obtain rfl : k = len0 := by omega
          have hd3 : decide ((k : Int) < (k : Int)) = false := decide_eq_false (by omega)
          have hres : decide (k = len1 ∧ la.take k = lb.take k) = decide (la = lb) := by
            rw [decide_eq_decide]
            constructor
            · rintro ⟨h1, h2⟩; rw [← hla] at h2; exact (take_all (by omega)).1 h2
            · intro h; exact ⟨by rw [← hla, ← hlb, h], by rw [h]⟩
          rw [hres]
          clear hla hlb hres
          go_wp2_with fail
          go_meet
          exact ⟨rfl, hb⟩
    case rest =>
      obtain ⟨rfl, hb⟩ := hcut
      obtain ⟨sm, hsm⟩ : ∃ sm, sm = decide (la = lb) := ⟨_, rfl⟩
      rw [← hsm]
      have HSM := Lib.hid hsm
      clear hsm h0
      go_upto_block 4 with fail
      go_cut [13] (fun fs wx => fs = .bool (decide (len2 ≤ len3 ∧ ls = lt.take len2)) ∧ Below w.heap.size w wx)
      case first =>
        go_wp2_with fail
        go_loopw [13, 14] (fun fs i wr => ∃ k : Nat, k ≤ len2 ∧ i = .int .i64 k ∧ fs = .bool (decide (len2 ≤ len3 ∧ ls.take k = lt.take k)) ∧ Below w.heap.size w wr) (fun _ i _ => len2 - (intOf i).toNat)
        case atStart => exact ⟨0, by omega, rfl, congrArg Value.bool (by rw [Bool.eq_iff_iff]; simp), hb⟩
        case round =>
          obtain ⟨k, hk, rfl, rfl, hb⟩ := hrel
          have hls := LS.out
          have hlt := LT.out
          by_cases hlk : k < len2
          · have hd3 : decide ((k : Int) < (len2 : Int)) = true := decide_eq_true (by omega)
            by_cases hP : len2 ≤ len3 ∧ ls.take k = lt.take k
            · rw [decide_eq_true hP]
              obtain ⟨_, hmA, hcA⟩ := HS.out.below rfl hb
              obtain ⟨_, hmB, hcB⟩ := HT.out.below rfl hb
              obtain ⟨b, off, rfl, hblt, hc⟩ := hcA (by omega)
              have hck := hc k (by omega)
              obtain ⟨b2, off2, rfl, hblt2, hc2⟩ := hcB (by omega)
              have hck2 := hc2 k (by omega)
              have hstep := take_next hP.2 (by omega) (by omega)
              obtain ⟨x, hx⟩ : ∃ x, x = ls[k]'(by omega) := ⟨_, rfl⟩
              obtain ⟨y, hy⟩ : ∃ y, y = lt[k]'(by omega) := ⟨_, rfl⟩
              rw [← hx] at hck hstep
              rw [← hy] at hck2 hstep
              have hlk2 : k < len3 := by omega
              clear hc hc2 hx hy hcA hcB hmA hmB hls hlt
              have hres : (x.toList == y.toList) = decide (len2 ≤ len3 ∧ ls.take (k + 1) = lt.take (k + 1)) := by
                rw [Lib.toList_data, Lib.toList_data, Bool.eq_iff_iff, beq_iff_eq, decide_eq_true_eq]
                exact ⟨fun h => ⟨hP.1, hstep.2 (Str.ext h)⟩, fun h => by rw [hstep.1 h.2]⟩
              have HR := Lib.hid hres
              clear hP hstep hres
              go_wp2_with fail
              go_region
              go_wp2
              go_roundw
              case rel => exact ⟨k + 1, by omega, by go_num, congrArg Value.bool HR.out, Below.drew hb⟩
              case measure => simp [intOf]; omega
            · rw [decide_eq_false hP]
              have hne : decide (len2 ≤ len3 ∧ ls = lt.take len2) = false := decide_eq_false (fun h => hP ⟨h.1, by rw [h.2, List.take_take, Nat.min_eq_left hk]⟩)
              have HR := Lib.hid hne
              clear hls hlt hne hP
              go_wp2_with fail
              go_meet
              exact ⟨congrArg Value.bool HR.out.symm, hb⟩
          · obtain rfl : k = len2 := by omega
            have hd3 : decide ((k : Int) < (k : Int)) = false := decide_eq_false (by omega)
            rw [List.take_of_length_le (Nat.le_of_eq hls)]
            clear hls hlt
            go_wp2_with fail
            go_meet
            exact ⟨rfl, hb⟩
      case rest =>
        obtain ⟨rfl, hb⟩ := hcut
        obtain ⟨fs, hfs⟩ : ∃ fs, fs = decide (len2 ≤ len3 ∧ ls = lt.take len2) := ⟨_, rfl⟩
        rw [← hfs]
        have HFS := Lib.hid hfs
        clear hfs
        have hls := LS.out
        have hlt := LT.out
        have bs2 : len2 ≤ 1099511627776 := by omega
        have bt2 : len3 ≤ 1099511627776 := by omega
        have X1 := Lib.hid (fun (w1 : World) (k : Below w.heap.size w w1) => texts_any a2 len2 cap2 ls w1 (HS.out.below rfl k) (by omega) bs2)
        have X2 := Lib.hid (fun (w1 : World) (k : Below w.heap.size w w1) => texts_any a3 len3 cap3 lt w1 (HT.out.below rfl k) (by omega) bt2)
        have X3 := Lib.hid (fun (w1 : World) (k : Below w.heap.size w w1) => nums_any a0 len0 cap0 la w1 (HA.out.below rfl k) (by omega))
        have X4 := Lib.hid (fun (w1 : World) (k : Below w.heap.size w w1) => nums_any a1 len1 cap1 lb w1 (HB.out.below rfl k) (by omega))
        clear hls hlt
        go_wp2_with fail
        refine (X1.out _ hb).mono ?_
        rintro e w1 ⟨rfl, k1⟩
        have h1 := bstep hb k1
        clear k1 X1
        go_wp2_with fail
        refine (X2.out _ h1).mono ?_
        rintro e w2 ⟨rfl, k2⟩
        have h2 := bstep h1 k2
        clear k2 X2
        go_wp2_with fail
        refine (X3.out _ h2).mono ?_
        rintro e w3 ⟨rfl, k3⟩
        have h3 := bstep h2 k3
        clear k3 X3
        go_wp2_with fail
        refine (X4.out _ h3).mono ?_
        rintro e w4 ⟨rfl, k4⟩
        have h4 := bstep h3 k4
        clear k4 X4
        have hc1 : (cat la == cat lb) = sm := by
          rw [HSM.out, Bool.eq_iff_iff, beq_iff_eq, decide_eq_true_eq]
          exact ⟨fun h => cat_inj la lb HA.out.2.1 HB.out.2.1 h, fun h => by rw [h]⟩
        have hm := texts_first ls lt HS.out.2.1 HT.out.2.1
        have hsame := texts_same ls lt HS.out.2.1 HT.out.2.1
        have hshort := texts_short ls lt
        have hls := LS.out
        have hlt := LT.out
        rw [hls, hlt] at hm hshort
        have e1 : ∀ x y : ByteArray, (x.toList == y.data.toList) = true ↔ x = y := fun x y => by rw [Lib.toList_data, beq_iff_eq]; exact ⟨Str.ext, fun h => by rw [h]⟩
        by_cases hF : len2 ≤ len3 ∧ ls = lt.take len2
        · obtain rfl : fs = true := by rw [HFS.out]; exact decide_eq_true hF
          have hc2 : (tcat ls).length ≤ (tcat lt).length := Nat.le_of_not_lt (fun h => hshort h hF)
          have hc3 : ((({ data := (tcat lt).toArray } : ByteArray).extract 0 (tcat ls).length).toList == tcat ls) = true := by
            have := (e1 (({ data := (tcat lt).toArray } : ByteArray).extract 0 (tcat ls).length) { data := (tcat ls).toArray }).2 ((hm hc2).2 hF)
            simpa using this
          by_cases hE : len2 = len3
          · have hc4 : (tcat ls == tcat lt) = true := by
              rw [beq_iff_eq]
              have : ls = lt := by have := hF.2; rwa [hE, ← hlt, List.take_of_length_le (Nat.le_refl _)] at this
              rw [this]
            have hc5 : ((len2 : Int) == (len3 : Int)) = true := by rw [beq_iff_eq]; omega
            clear hm hsame hshort hls hlt e1 hF HSM HFS
            go_wp2_with fail
            refine (alive_any _).mono ?_
            rintro e w5 ⟨rfl, k5⟩
            go_wp2
            go_ret
            exact ⟨rfl, bstep h4 k5⟩
          · have hc4 : (tcat ls == tcat lt) = false := by
              rw [beq_eq_false_iff_ne]
              intro h
              have := hsame.1 (by rw [h])
              exact hE (by rw [← hls, ← hlt, this])
            have hc5 : ((len2 : Int) == (len3 : Int)) = false := by rw [beq_eq_false_iff_ne]; omega
            clear hm hsame hshort hls hlt e1 hF HSM HFS
            go_wp2_with fail
            refine (alive_any _).mono ?_
            rintro e w5 ⟨rfl, k5⟩
            go_wp2
            go_ret
            exact ⟨rfl, bstep h4 k5⟩
        · obtain rfl : fs = false := by rw [HFS.out]; exact decide_eq_false hF
          have hc4 : (tcat ls == tcat lt) = false := by
            rw [beq_eq_false_iff_ne]
            intro h
            have h2 := hsame.1 (by rw [h])
            exact hF ⟨by rw [← hls, ← hlt, h2]; exact Nat.le_refl _, by rw [← hls, h2]; exact (List.take_of_length_le (Nat.le_refl _)).symm⟩
          by_cases hc2 : (tcat ls).length ≤ (tcat lt).length
          · have hc3 : ((({ data := (tcat lt).toArray } : ByteArray).extract 0 (tcat ls).length).toList == tcat ls) = false := by
              have := e1 (({ data := (tcat lt).toArray } : ByteArray).extract 0 (tcat ls).length) { data := (tcat ls).toArray }
              rw [Bool.eq_false_iff]
              intro h
              exact hF ((hm hc2).1 (this.1 (by simpa using h)))
            clear hm hsame hshort hls hlt e1 hF HSM HFS
            go_wp2_with fail
            refine (alive_any _).mono ?_
            rintro e w5 ⟨rfl, k5⟩
            go_wp2
            go_ret
            exact ⟨rfl, bstep h4 k5⟩
          · have hc6 : decide ((tcat ls).length ≤ (tcat lt).length) = false := decide_eq_false hc2
            clear hm hsame hshort hls hlt e1 hF HSM HFS
            go_wp2_with fail
            refine (alive_any _).mono ?_
            rintro e w5 ⟨rfl, k5⟩
            go_wp2
            go_ret
            exact ⟨rfl, bstep h4 k5⟩

end Go.Proofs.Yteladdjdmgjagaa.WireApart
