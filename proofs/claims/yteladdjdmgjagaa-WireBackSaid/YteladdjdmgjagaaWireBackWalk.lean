/- The walk of WireBack: it answers true. -/
import Derived.Test.YteladdjdmgjagaaWireAlive
import Derived.Test.YteladdjdmgjagaaWireBackPlain
import Derived.Test.YteladdjdmgjagaaSized
import Derived.Deep.DeepCutAuto
import Derived.Deep.CutBlock
import Derived.Deep.RegionHeld3
namespace Go.Proofs.Yteladdjdmgjagaa.WireBack
open Go.RowKit Go.Proofs.Yteladdjdmgjagaa.Wire Go.Proofs.Yteladdjdmgjagaa.Num

theorem keepB {w w' : World} {b o c : Nat} {v : Value} (h : w.cell? ⟨b, o, none⟩ = some v) (k : But c w w') (hne : b ≠ c) : w'.cell? ⟨b, o, none⟩ = some v :=
  (k.cell (p := ⟨b, o, none⟩) (World.block_lt_of_cell? _ _ h) hne).trans h
theorem Rd.drew {w : World} {b : Nat} {l : List UInt8} {E : Int} (h : Rd w b l E) : Rd w.drew b l E := h.below (Below.drew (Below.refl w.heap.size w)) h.lt

set_option maxRecDepth 100000 in
set_option maxHeartbeats 8000000 in
theorem walk (a0 : Option Addr) (len0 cap0 : Nat) (z0 : List Int) (a1 : Option Addr) (len1 cap1 : Nat) (z1 : List ByteArray) (a2 : Bool) (a3 : ByteArray) (a4 : Int) (w : World) (w0 : IsRow .u64 w a0 len0 cap0 z0) (r0 : len0 ≤ 140737488351232) (w1 : IsStrs w a1 len1 cap1 z1) (r1 : len1 ≤ 140737488351232) (q1 : StrsIn w a1 len1) (w3 : a3.size ≤ maxLen) (r3 : a3.size ≤ 140737488351232) (w4 : (Lit.int .u16 a4).wf = true) :
    Calls Try.prog 4 #[.slice a0 len0 cap0, .slice a1 len1 cap1, .bool a2, .string a3, .int .u16 a4] w fun e w' => e = .returned (.bool true) ∧ Below w.heap.size w w' := by
  obtain ⟨_, la, hA⟩ := w0.nats
  obtain ⟨_, ls, hS⟩ := w1.txts
  obtain ⟨l4, u4⟩ := bounds_u16 w4
  clear w0 w1 w3 w4
  obtain ⟨B, rfl⟩ : ∃ B : List UInt8, a3 = ⟨B.toArray⟩ := ⟨a3.data.toList, (Str.mk_toList a3).symm⟩
  have hsB := Str.size_mk B
  rw [hsB] at r3
  have HA := Lib.hid hA
  have HS := Lib.hid hS
  have LA := Lib.hid hA.1
  have LS := Lib.hid hS.1
  have Q2 := Lib.hid q1
  clear hA hS q1
  have h0 := Below.refl w.heap.size w
  go_enter Try.func4, Try.ntmps4
  go_upto_block 0 with fail
  go_cut [11] (fun n wx => ∃ N : Nat, n = .int .i64 N ∧ w = wx ∧ (N < 8192 → wsum ls = N))
  case first =>
    go_wp2_with fail
    go_loop [11, 12] (fun n i => ∃ k N : Nat, k ≤ len1 ∧ i = .int .i64 k ∧ n = .int .i64 N ∧ wsum (ls.take k) = N ∧ N < 140737488371232) (fun _ i => len1 - (intOf i).toNat)
    case atStart => exact ⟨0, 0, by omega, rfl, rfl, by rw [List.take_zero]; rfl, by decide⟩
    case round =>
      obtain ⟨k, N, hk, rfl, rfl, hN, hNb⟩ := hrel
      have hls := LS.out
      by_cases hlk : k < len1
      · have hd1 : decide ((k : Int) < (len1 : Int)) = true := decide_eq_true (by omega)
        by_cases hn8 : N < 8192
        · have hd2 : decide ((N : Int) < 8192) = true := decide_eq_true (by omega)
          obtain ⟨b, off, rfl, hblt, hc⟩ := HS.out.2.2 (by omega)
          have hck := hc k (by omega)
          have hst := wsum_take ls k (by omega)
          obtain ⟨x, hx⟩ : ∃ x, x = ls[k]'(by omega) := ⟨_, rfl⟩
          rw [← hx] at hck hst
          have hxs : x.size ≤ 140737488351232 := by have := Q2.out ⟨b, off, none⟩ rfl k (by omega) x (by rw [Go.WideShapes.add_plain]; exact hck); omega
          have HN := Lib.hid hN
          have HST := Lib.hid hst
          clear hN hst hc hx hls
          go_wp2
          go_round
          case rel => exact ⟨k + 1, N + 1 + x.size, by omega, by go_num, by go_num, by rw [HST.out, HN.out], by omega⟩
          case measure => simp [intOf]; omega
        · have hd2 : decide ((N : Int) < 8192) = false := decide_eq_false (by omega)
          clear hN hls
          go_wp2
          go_meet
          exact ⟨N, rfl, rfl, fun h => absurd h hn8⟩
      · have hd1 : decide ((k : Int) < (len1 : Int)) = false := decide_eq_false (by omega)
        have hkk : wsum ls = N := by rw [← hN, List.take_of_length_le (by omega)]
        have HK := Lib.hid hkk
        clear hN hls hkk
        go_wp2
        go_meet
        exact ⟨N, rfl, rfl, fun _ => HK.out⟩
  case rest =>
    obtain ⟨N, rfl, rfl, hN⟩ := hcut
    have HN := Lib.hid hN
    clear hN
    by_cases c0 : 200 < len0
    · have hd : decide ((200 : Int) < (len0 : Int)) = true := decide_eq_true (by omega)
      go_wp2_with fail
      refine (alive_any _).mono ?_
      rintro e w' ⟨rfl, hb⟩
      go_wp2
      go_ret
      exact ⟨rfl, hb⟩
    have hd0 : decide ((200 : Int) < (len0 : Int)) = false := decide_eq_false (by omega)
    by_cases c2 : 8192 ≤ N
    · have hd : decide ((8192 : Int) ≤ (N : Int)) = true := decide_eq_true (by omega)
      have hd' : decide ((N : Int) ≥ 8192) = true := decide_eq_true (by omega)
      go_wp2_with fail
      refine (alive_any _).mono ?_
      rintro e w' ⟨rfl, hb⟩
      go_wp2
      go_ret
      exact ⟨rfl, hb⟩
    have hd2 : decide ((8192 : Int) ≤ (N : Int)) = false := decide_eq_false (by omega)
    have hd2' : decide ((N : Int) ≥ 8192) = false := decide_eq_false (by omega)
    by_cases c3 : 1024 < B.length
    · have hd : decide ((1024 : Int) < (B.length : Int)) = true := decide_eq_true (by omega)
      go_wp2_with fail
      refine (alive_any _).mono ?_
      rintro e w' ⟨rfl, hb⟩
      go_wp2
      go_ret
      exact ⟨rfl, hb⟩
    have hd3 : decide ((1024 : Int) < (B.length : Int)) = false := decide_eq_false (by omega)
    have bS : wsum ls < 8192 := by have := HN.out (by omega); omega
    have tS := tcat_wsum ls
    have tA := cat_length la
    have hla := LA.out
    have hls := LS.out
    have lS := wsum_length ls
    have hsz : ∀ j (h : j < ls.length), ls[j].size ≤ 8192 := fun j h => by
      have := wsum_take ls j h
      have h2 := congrArg wsum (List.take_append_drop (j + 1) ls)
      rw [wsum_append] at h2
      omega
    have HSZ := Lib.hid hsz
    have X1 := Lib.hid (nums_any a0 len0 cap0 la w HA.out (by omega))
    have X2 := Lib.hid (fun (w1 : World) (k : Below w.heap.size w w1) => texts_any a1 len1 cap1 ls w1 (HS.out.below rfl k) (by omega) (by omega))
    obtain ⟨S, hSe⟩ : ∃ S, S = cat la ++ tcat ls ++ [tr a2] := ⟨_, rfl⟩
    have hSl : S.length ≤ 90000 := by rw [hSe]; simp only [List.length_append, List.length_singleton]; omega
    have hcat : (({ data := (cat la).toArray } : ByteArray) ++ { data := (tcat ls).toArray }) ++ { data := #[tr a2] } = { data := S.toArray } := by
      rw [hSe, Str.mk_append_mk]; exact Str.mk_append_mk _ [tr a2]
    have HSE := Lib.hid hSe
    have hs1 : ¬ (9223372036854775807 < (cat la).length + (tcat ls).length) := by omega
    have hs2 : ¬ (9223372036854775807 < (cat la).length + (tcat ls).length + 1) := by omega
    clear hSe hsz hla HN tS tA lS
    go_wp2_with fail
    refine X1.out.mono ?_
    rintro e w1 ⟨rfl, k1⟩
    have h1 := bstep h0 k1
    clear k1 X1
    go_wp2_with fail
    refine (X2.out _ h1).mono ?_
    rintro e w2 ⟨rfl, k2⟩
    have h2 := bstep h1 k2
    clear k2 X2
    go_wp2_with fail
    refine (bool_w _ _).mono ?_
    rintro e w' ⟨rfl, rfl⟩
    clear h0 h1
    go_wp2_with fail
    clear hcat hs1 hs2
    have hsS := Str.size_mk S
    have hcat2 : ({ data := S.toArray } : ByteArray) ++ { data := B.toArray } = { data := (S ++ B).toArray } := Str.mk_append_mk S B
    have hs3 : ¬ (9223372036854775807 < S.length + B.length) := by omega
    obtain ⟨m, hm⟩ : ∃ m : Nat, m = a4.toNat % (S.length + 1) := ⟨_, rfl⟩
    have hmS : m ≤ S.length := by have := Nat.mod_lt a4.toNat (show 0 < S.length + 1 by omega); omega
    have hw1 : IntKind.i64.wrap a4 = a4 := by rw [IntKind.wrap_i64]; omega
    have hw2 : IntKind.i64.wrap ((S.length : Int) + 1) = (S.length : Int) + 1 := by rw [IntKind.wrap_i64]; omega
    have hw3 : Int.tmod a4 ((S.length : Int) + 1) = (m : Int) := by
      have ha : ((a4.toNat : Nat) : Int) = a4 := Int.toNat_of_nonneg l4
      rw [Int.tmod_eq_emod_of_nonneg l4, hm, Int.natCast_emod, ha]; rfl
    have hex : ({ data := S.toArray } : ByteArray).extract 0 m = { data := (S.take m).toArray } := Str.ext (by rw [Str.extract_toList]; simp)
    clear hm
    go_loopw [14] (fun i wr => ∃ k : Nat, k ≤ 2 ∧ i = .int .i64 k ∧ Below w.heap.size w wr) (fun i _ => 2 - (intOf i).toNat)
    case atStart => exact ⟨0, by omega, rfl, h2⟩
    case round =>
      obtain ⟨k, hk, rfl, hb⟩ := hrel
      clear h2
      by_cases hk2 : k < 2
      · have hd4 : decide ((k : Int) < 2) = true := decide_eq_true (by omega)
        go_upto_if 68 with (fail)
        go_cut [15] (fun tx wx => wr = wx ∧ ∃ (M : Nat) (beh : List UInt8), tx = .string ⟨((S ++ beh).take M).toArray⟩ ∧ (k = 0 → beh = B ∧ M = S.length + B.length) ∧ (k = 1 → beh = [] ∧ M ≤ S.length))
        case first =>
          by_cases hk1 : k = 1
          · have hd5 : ((k : Int) == 1) = true := by rw [beq_iff_eq]; omega
            go_wp2_with fail
            go_meet
            exact ⟨rfl, m, [], by rw [List.append_nil], fun h => by omega, fun _ => ⟨rfl, hmS⟩⟩
          · have hd5 : ((k : Int) == 1) = false := by rw [beq_eq_false_iff_ne]; omega
            go_wp2_with fail
            go_meet
            exact ⟨rfl, S.length + B.length, B, by rw [List.take_of_length_le (by rw [List.length_append]; omega)], fun _ => ⟨rfl, rfl⟩, fun h => absurd h hk1⟩
        case rest =>
          obtain ⟨rfl, M, beh, rfl, hw0, hw1'⟩ := hcut
          have HW0 := Lib.hid hw0
          have HW1 := Lib.hid hw1'
          have hTl : ((S ++ beh).take M).length ≤ 100000 := by
            rw [List.length_take, List.length_append]
            have : beh.length ≤ B.length := by
              rcases (show k = 0 ∨ k = 1 by omega) with h | h
              · rw [(hw0 h).1]; exact Nat.le_refl _
              · rw [(hw1' h).1]; simp
            omega
          have hinv := Lib.hid (inv_start S.length M beh S rfl)
          obtain ⟨T, hT⟩ : ∃ T, T = (S ++ beh).take M := ⟨_, rfl⟩
          rw [← hT] at hTl hinv ⊢
          have HT := Lib.hid hT
          clear hw0 hw1' hT hex hcat2
          go_wp2_with fail
          refine (new_any T _ (by unfold maxLen; omega)).mono ?_
          rintro e w3 ⟨rfl, r3', k3⟩
          have h3 := bstep hb k3
          have hrb := hb.size
          obtain ⟨rb, hrbe⟩ : ∃ rb, rb = wr.heap.size := ⟨_, rfl⟩
          rw [← hrbe] at r3' hrb ⊢
          have hi3 : Inv S.length M beh (cat (la.drop 0) ++ (tcat ls ++ [tr a2])) T 0 true := by rw [List.drop_zero, ← List.append_assoc, ← HSE.out]; exact hinv.out
          have HI3 := Lib.hid hi3
          clear k3 hrbe hi3 hinv
          go_wp2_with fail
          go_loopw [17, 18] (fun sm i wr => ∃ (j : Nat) (same : Bool) (left : List UInt8) (E : Int), j ≤ len0 ∧ i = .int .i64 j ∧ sm = .bool same ∧ Rd wr rb left E ∧ Hid (Inv S.length M beh (cat (la.drop j) ++ (tcat ls ++ [tr a2])) left E same) ∧ Below w.heap.size w wr) (fun _ i _ => len0 - (intOf i).toNat)
          case atStart => exact ⟨0, true, T, 0, by omega, rfl, rfl, r3', HI3, h3⟩
          case round =>
            obtain ⟨j, same, left, E, hj, rfl, rfl, r4, HI, h4⟩ := hrel
            clear r3' h3 HI3
            have hla := LA.out
            by_cases hlj : j < len0
            · obtain ⟨_, hmem, hcell⟩ := HA.out.below rfl h4
              obtain ⟨b, off, rfl, hblt, hc⟩ := hcell (by omega)
              have hck := hc j (by omega)
              obtain ⟨bb, boff, be, hbw, _⟩ := HA.out.2.2 (by omega)
              obtain ⟨rfl, rfl⟩ : b = bb ∧ off = boff := by simpa using be
              have hne : b ≠ rb := by omega
              have hle : la[j] ≤ 18446744073709551615 := hmem _ (List.getElem_mem _)
              have hi := HI.out
              rw [cat_drop la j (by omega), List.append_assoc] at hi
              obtain ⟨x, left', E', hx, hi1, hi2⟩ := inv_num hi (by omega)
              obtain ⟨n, hn⟩ : ∃ n, n = la[j]'(by omega) := ⟨_, rfl⟩
              rw [← hn] at hck hle hi1 hi2
              have HX := Lib.hid hx
              have HI1 := Lib.hid hi1
              have HI2 := Lib.hid hi2
              clear hx hi1 hi2 hi HI hn hc hcell hmem hla be
              by_cases hxn : x = n
              · subst hxn
                go_wp2_with fail
                refine wp_region_noPanic ?_
                refine wp_region_held_drew (S := (fun w' => w'.cell? ⟨b, off + j, none⟩ = some (.int .u64 (n : Int)))) (by kernel_rfl) (by go_keep) (fun hHeld => ?_)
                refine wpAnyH_take (i := 0) (v := ?_) (by simp only [List.getElem?_toArray, List.getElem?_cons_zero]; rfl) (by kernel_rfl) (by kernel_rfl) (by kernel_rfl) (fun _ _ _ h => h) (Or.inl ⟨by rfl, ?_⟩) (by assumption) ?_
                rotate_left
                · (intro w hSw; (try dsimp only at hSw); go_simp; try with_reducible rfl)
                try simp only [Act.put, List.setIfInBounds_toArray, List.set_cons_zero, List.set_cons_succ]
                refine wpAnyH_take (i := 2) (v := ?_) (by simp only [List.getElem?_toArray, List.getElem?_cons_succ, List.getElem?_cons_zero]; rfl) (by kernel_rfl) (by kernel_rfl) (by kernel_rfl) (fun _ _ _ h => h) (Or.inl ⟨by rfl, ?_⟩) (by assumption) ?_
                rotate_left
                · (intro w hSw; (try dsimp only at hSw); go_simp; try with_reducible rfl)
                try simp only [Act.put, List.setIfInBounds_toArray, List.set_cons_zero, List.set_cons_succ]
                refine wpAnyH_take (i := 3) (v := ?_) (by simp only [List.getElem?_toArray, List.getElem?_cons_succ, List.getElem?_cons_zero]; rfl) (by kernel_rfl) (by kernel_rfl) (by kernel_rfl) (fun _ _ _ h => h) (Or.inl ⟨by rfl, ?_⟩) (by assumption) ?_
                rotate_left
                · (intro w hSw; (try dsimp only at hSw); go_simp; try with_reducible rfl)
                try simp only [Act.put, List.setIfInBounds_toArray, List.set_cons_zero, List.set_cons_succ]
                refine wpAnyH_take (i := 4) (v := ?_) (by simp only [List.getElem?_toArray, List.getElem?_cons_succ, List.getElem?_cons_zero]; rfl) (by kernel_rfl) (by kernel_rfl) (by kernel_rfl) (fun _ _ _ h => h) (Or.inl ⟨by rfl, ?_⟩) (by assumption) ?_
                rotate_left
                · (intro w hSw; (try dsimp only at hSw); go_simp; try with_reducible rfl)
                try simp only [Act.put, List.setIfInBounds_toArray, List.set_cons_zero, List.set_cons_succ]
                refine wpAnyH_take (i := 5) (v := ?_) (by simp only [List.getElem?_toArray, List.getElem?_cons_succ, List.getElem?_cons_zero]; rfl) (by kernel_rfl) (by kernel_rfl) (by kernel_rfl) (fun _ _ _ h => h) (Or.inl ⟨by rfl, ?_⟩) (by assumption) ?_
                rotate_left
                · (intro w hSw; (try dsimp only at hSw); go_simp; try with_reducible rfl)
                try simp only [Act.put, List.setIfInBounds_toArray, List.set_cons_zero, List.set_cons_succ]
                refine wpAnyH_ready (rs := [1]) (by kernel_rfl) (by simp) ?_
                refine AllReadyH.cons (by simp only [List.getElem?_toArray, List.getElem?_cons_succ, List.getElem?_cons_zero]; rfl) (fun K hK => ?_) AllReadyH.nil
                go_simp
                go_at_call 16
                refine (num_any rb left E 18446744073709551615 _ (Rd.drew r4) n left' E' HX.out).mono ?_
                rintro e w5 ⟨rfl, r5, k5⟩
                go_wp2_with fail
                refine hK.out _ _ (keepB hHeld k5 hne) (fun hHeld => ?_)
                clear hK K
                try simp only [Act.put, List.setIfInBounds_toArray, List.set_cons_zero, List.set_cons_succ]
                refine wpAnyH_take (i := 6) (v := ?_) (by simp only [List.getElem?_toArray, List.getElem?_cons_succ, List.getElem?_cons_zero]; rfl) (by kernel_rfl) (by kernel_rfl) (by kernel_rfl) (fun _ _ _ h => h) (Or.inl ⟨by rfl, ?_⟩) (by assumption) ?_
                rotate_left
                · (intro w hSw; (try dsimp only at hSw); go_simp; try with_reducible rfl)
                try simp only [Act.put, List.setIfInBounds_toArray, List.set_cons_zero, List.set_cons_succ]
                refine wpAnyH_take (i := 7) (v := ?_) (by simp only [List.getElem?_toArray, List.getElem?_cons_succ, List.getElem?_cons_zero]; rfl) (by kernel_rfl) (by kernel_rfl) (by kernel_rfl) (fun _ _ _ h => h) (Or.inl ⟨by rfl, ?_⟩) (by assumption) ?_
                rotate_left
                · (intro w hSw; (try dsimp only at hSw); go_simp; try with_reducible rfl)
                try simp only [Act.put, List.setIfInBounds_toArray, List.set_cons_zero, List.set_cons_succ]
                refine wpAnyH_take (i := 8) (v := ?_) (by simp only [List.getElem?_toArray, List.getElem?_cons_succ, List.getElem?_cons_zero]; rfl) (by kernel_rfl) (by kernel_rfl) (by kernel_rfl) (fun _ _ _ h => h) (Or.inl ⟨by rfl, ?_⟩) (by assumption) ?_
                rotate_left
                · (intro w hSw; (try dsimp only at hSw); go_simp; try with_reducible rfl)
                try simp only [Act.put, List.setIfInBounds_toArray, List.set_cons_zero, List.set_cons_succ]
                refine wpAnyH_take (i := 9) (v := ?_) (by simp only [List.getElem?_toArray, List.getElem?_cons_succ, List.getElem?_cons_zero]; rfl) (by kernel_rfl) (by kernel_rfl) (by kernel_rfl) (fun _ _ _ h => h) (Or.inl ⟨by rfl, ?_⟩) (by assumption) ?_
                rotate_left
                · (intro w hSw; (try dsimp only at hSw); go_simp; try with_reducible rfl)
                try simp only [Act.put, List.setIfInBounds_toArray, List.set_cons_zero, List.set_cons_succ]
                refine wpAnyH_take (i := 10) (v := ?_) (by simp only [List.getElem?_toArray, List.getElem?_cons_succ, List.getElem?_cons_zero]; rfl) (by kernel_rfl) (by kernel_rfl) (by kernel_rfl) (fun _ _ _ h => h) (Or.inl ⟨by rfl, ?_⟩) (by assumption) ?_
                rotate_left
                · (intro w hSw; (try dsimp only at hSw); go_simp; try with_reducible rfl)
                try simp only [Act.put, List.setIfInBounds_toArray, List.set_cons_zero, List.set_cons_succ]
                refine wpAnyH_done (by kernel_rfl) ?_ _
                refine NoPanic.normal ?_
                have h5 := But.below (Below.drew h4) k5 hrb (Below.drew h4).size
                go_wp2
                go_roundw
                case rel => exact ⟨j + 1, same, left', E', by omega, by go_num, rfl, r5, Lib.hid (HI1.out (by simp)), h5⟩
                case measure => simp [intOf]; omega
              · have hbq : (x == (n : Int)) = false := by rw [beq_eq_false_iff_ne]; exact hxn
                go_wp2_with fail
                refine wp_region_noPanic ?_
                refine wp_region_held_drew (S := (fun w' => w'.cell? ⟨b, off + j, none⟩ = some (.int .u64 (n : Int)))) (by kernel_rfl) (by go_keep) (fun hHeld => ?_)
                refine wpAnyH_take (i := 0) (v := ?_) (by simp only [List.getElem?_toArray, List.getElem?_cons_zero]; rfl) (by kernel_rfl) (by kernel_rfl) (by kernel_rfl) (fun _ _ _ h => h) (Or.inl ⟨by rfl, ?_⟩) (by assumption) ?_
                rotate_left
                · (intro w hSw; (try dsimp only at hSw); go_simp; try with_reducible rfl)
                try simp only [Act.put, List.setIfInBounds_toArray, List.set_cons_zero, List.set_cons_succ]
                refine wpAnyH_take (i := 2) (v := ?_) (by simp only [List.getElem?_toArray, List.getElem?_cons_succ, List.getElem?_cons_zero]; rfl) (by kernel_rfl) (by kernel_rfl) (by kernel_rfl) (fun _ _ _ h => h) (Or.inl ⟨by rfl, ?_⟩) (by assumption) ?_
                rotate_left
                · (intro w hSw; (try dsimp only at hSw); go_simp; try with_reducible rfl)
                try simp only [Act.put, List.setIfInBounds_toArray, List.set_cons_zero, List.set_cons_succ]
                refine wpAnyH_take (i := 3) (v := ?_) (by simp only [List.getElem?_toArray, List.getElem?_cons_succ, List.getElem?_cons_zero]; rfl) (by kernel_rfl) (by kernel_rfl) (by kernel_rfl) (fun _ _ _ h => h) (Or.inl ⟨by rfl, ?_⟩) (by assumption) ?_
                rotate_left
                · (intro w hSw; (try dsimp only at hSw); go_simp; try with_reducible rfl)
                try simp only [Act.put, List.setIfInBounds_toArray, List.set_cons_zero, List.set_cons_succ]
                refine wpAnyH_take (i := 4) (v := ?_) (by simp only [List.getElem?_toArray, List.getElem?_cons_succ, List.getElem?_cons_zero]; rfl) (by kernel_rfl) (by kernel_rfl) (by kernel_rfl) (fun _ _ _ h => h) (Or.inl ⟨by rfl, ?_⟩) (by assumption) ?_
                rotate_left
                · (intro w hSw; (try dsimp only at hSw); go_simp; try with_reducible rfl)
                try simp only [Act.put, List.setIfInBounds_toArray, List.set_cons_zero, List.set_cons_succ]
                refine wpAnyH_take (i := 5) (v := ?_) (by simp only [List.getElem?_toArray, List.getElem?_cons_succ, List.getElem?_cons_zero]; rfl) (by kernel_rfl) (by kernel_rfl) (by kernel_rfl) (fun _ _ _ h => h) (Or.inl ⟨by rfl, ?_⟩) (by assumption) ?_
                rotate_left
                · (intro w hSw; (try dsimp only at hSw); go_simp; try with_reducible rfl)
                try simp only [Act.put, List.setIfInBounds_toArray, List.set_cons_zero, List.set_cons_succ]
                refine wpAnyH_ready (rs := [1]) (by kernel_rfl) (by simp) ?_
                refine AllReadyH.cons (by simp only [List.getElem?_toArray, List.getElem?_cons_succ, List.getElem?_cons_zero]; rfl) (fun K hK => ?_) AllReadyH.nil
                go_simp
                go_at_call 16
                refine (num_any rb left E 18446744073709551615 _ (Rd.drew r4) x left' E' HX.out).mono ?_
                rintro e w5 ⟨rfl, r5, k5⟩
                go_wp2_with fail
                refine hK.out _ _ (keepB hHeld k5 hne) (fun hHeld => ?_)
                clear hK K
                try simp only [Act.put, List.setIfInBounds_toArray, List.set_cons_zero, List.set_cons_succ]
                refine wpAnyH_take (i := 6) (v := ?_) (by simp only [List.getElem?_toArray, List.getElem?_cons_succ, List.getElem?_cons_zero]; rfl) (by kernel_rfl) (by kernel_rfl) (by kernel_rfl) (fun _ _ _ h => h) (Or.inl ⟨by rfl, ?_⟩) (by assumption) ?_
                rotate_left
                · (intro w hSw; (try dsimp only at hSw); go_simp; try with_reducible rfl)
                try simp only [Act.put, List.setIfInBounds_toArray, List.set_cons_zero, List.set_cons_succ]
                refine wpAnyH_take (i := 7) (v := ?_) (by simp only [List.getElem?_toArray, List.getElem?_cons_succ, List.getElem?_cons_zero]; rfl) (by kernel_rfl) (by kernel_rfl) (by kernel_rfl) (fun _ _ _ h => h) (Or.inl ⟨by rfl, ?_⟩) (by assumption) ?_
                rotate_left
                · (intro w hSw; (try dsimp only at hSw); go_simp; try with_reducible rfl)
                try simp only [Act.put, List.setIfInBounds_toArray, List.set_cons_zero, List.set_cons_succ]
                refine wpAnyH_take (i := 8) (v := undef) (by simp only [List.getElem?_toArray, List.getElem?_cons_succ, List.getElem?_cons_zero]; rfl) (by kernel_rfl) (by kernel_rfl) (by kernel_rfl) (fun _ _ _ h => h) (Or.inr ⟨by rfl, rfl⟩) (by assumption) ?_
                try simp only [Act.put, List.setIfInBounds_toArray, List.set_cons_zero, List.set_cons_succ]
                refine wpAnyH_take (i := 9) (v := ?_) (by simp only [List.getElem?_toArray, List.getElem?_cons_succ, List.getElem?_cons_zero]; rfl) (by kernel_rfl) (by kernel_rfl) (by kernel_rfl) (fun _ _ _ h => h) (Or.inl ⟨by rfl, ?_⟩) (by assumption) ?_
                rotate_left
                · (intro w hSw; (try dsimp only at hSw); go_simp; try with_reducible rfl)
                try simp only [Act.put, List.setIfInBounds_toArray, List.set_cons_zero, List.set_cons_succ]
                refine wpAnyH_take (i := 10) (v := ?_) (by simp only [List.getElem?_toArray, List.getElem?_cons_succ, List.getElem?_cons_zero]; rfl) (by kernel_rfl) (by kernel_rfl) (by kernel_rfl) (fun _ _ _ h => h) (Or.inl ⟨by rfl, ?_⟩) (by assumption) ?_
                rotate_left
                · (intro w hSw; (try dsimp only at hSw); go_simp; try with_reducible rfl)
                try simp only [Act.put, List.setIfInBounds_toArray, List.set_cons_zero, List.set_cons_succ]
                refine wpAnyH_done (by kernel_rfl) ?_ _
                refine NoPanic.normal ?_
                have h5 := But.below (Below.drew h4) k5 hrb (Below.drew h4).size
                go_wp2
                go_roundw
                case rel => exact ⟨j + 1, false, left', E', by omega, by go_num, rfl, r5, Lib.hid (HI2.out hxn), h5⟩
                case measure => simp [intOf]; omega
            · obtain rfl : j = len0 := by omega
              have hi := HI.out
              rw [show la.drop j = [] from List.drop_of_length_le (by omega), cat_nil, List.nil_append] at hi
              have hi5 : Inv S.length M beh (tcat (ls.drop 0) ++ [tr a2]) left E same := by rw [List.drop_zero]; exact hi
              have HI5 := Lib.hid hi5
              clear hi hi5 HI hla
              go_wp2_with fail
              go_loopw [17, 19] (fun sm i wr => ∃ (j : Nat) (same : Bool) (left : List UInt8) (E : Int), j ≤ len1 ∧ i = .int .i64 j ∧ sm = .bool same ∧ Rd wr rb left E ∧ Hid (Inv S.length M beh (tcat (ls.drop j) ++ [tr a2]) left E same) ∧ Below w.heap.size w wr) (fun _ i _ => len1 - (intOf i).toNat)
              case atStart => exact ⟨0, same, left, E, by omega, rfl, rfl, r4, HI5, h4⟩
              case round =>
                obtain ⟨j, same, left, E, hj, rfl, rfl, r5, HI, h5⟩ := hrel
                clear r4 h4 HI5
                have hls := LS.out
                by_cases hlj : j < len1
                · obtain ⟨_, hmem, hcell⟩ := HS.out.below rfl h5
                  obtain ⟨b, off, rfl, hblt, hc⟩ := hcell (by omega)
                  have hck := hc j (by omega)
                  obtain ⟨bb, boff, be, hbw, _⟩ := HS.out.2.2 (by omega)
                  obtain ⟨rfl, rfl⟩ : b = bb ∧ off = boff := by simpa using be
                  have hne : b ≠ rb := by omega
                  have hi := HI.out
                  rw [tcat_drop ls j (by omega), List.append_assoc] at hi
                  obtain ⟨x, left', E', hx, hi1, hi2⟩ := inv_text hi (HSZ.out j (by omega))
                  obtain ⟨t, ht⟩ : ∃ t, t = ls[j]'(by omega) := ⟨_, rfl⟩
                  rw [← ht] at hck hi1 hi2
                  have HX := Lib.hid hx
                  have HI1 := Lib.hid hi1
                  have HI2 := Lib.hid hi2
                  clear hx hi1 hi2 hi HI ht hc hcell hmem hls be
                  by_cases hxt : x = t.data.toList
                  · have hbq : (x == t.toList) = true := by rw [Lib.toList_data, beq_iff_eq]; exact hxt
                    have HXT := Lib.hid hxt
                    clear hxt
                    go_wp2_with fail
                    refine wp_region_noPanic ?_
                    refine wp_region_held_drew (S := (fun w' => w'.cell? ⟨b, off + j, none⟩ = some (.string t))) (by kernel_rfl) (by go_keep) (fun hHeld => ?_)
                    refine wpAnyH_take (i := 0) (v := ?_) (by simp only [List.getElem?_toArray, List.getElem?_cons_zero]; rfl) (by kernel_rfl) (by kernel_rfl) (by kernel_rfl) (fun _ _ _ h => h) (Or.inl ⟨by rfl, ?_⟩) (by assumption) ?_
                    rotate_left
                    · (intro w hSw; (try dsimp only at hSw); go_simp; try with_reducible rfl)
                    try simp only [Act.put, List.setIfInBounds_toArray, List.set_cons_zero, List.set_cons_succ]
                    refine wpAnyH_take (i := 2) (v := ?_) (by simp only [List.getElem?_toArray, List.getElem?_cons_succ, List.getElem?_cons_zero]; rfl) (by kernel_rfl) (by kernel_rfl) (by kernel_rfl) (fun _ _ _ h => h) (Or.inl ⟨by rfl, ?_⟩) (by assumption) ?_
                    rotate_left
                    · (intro w hSw; (try dsimp only at hSw); go_simp; try with_reducible rfl)
                    try simp only [Act.put, List.setIfInBounds_toArray, List.set_cons_zero, List.set_cons_succ]
                    refine wpAnyH_take (i := 3) (v := ?_) (by simp only [List.getElem?_toArray, List.getElem?_cons_succ, List.getElem?_cons_zero]; rfl) (by kernel_rfl) (by kernel_rfl) (by kernel_rfl) (fun _ _ _ h => h) (Or.inl ⟨by rfl, ?_⟩) (by assumption) ?_
                    rotate_left
                    · (intro w hSw; (try dsimp only at hSw); go_simp; try with_reducible rfl)
                    try simp only [Act.put, List.setIfInBounds_toArray, List.set_cons_zero, List.set_cons_succ]
                    refine wpAnyH_take (i := 4) (v := ?_) (by simp only [List.getElem?_toArray, List.getElem?_cons_succ, List.getElem?_cons_zero]; rfl) (by kernel_rfl) (by kernel_rfl) (by kernel_rfl) (fun _ _ _ h => h) (Or.inl ⟨by rfl, ?_⟩) (by assumption) ?_
                    rotate_left
                    · (intro w hSw; (try dsimp only at hSw); go_simp; try with_reducible rfl)
                    try simp only [Act.put, List.setIfInBounds_toArray, List.set_cons_zero, List.set_cons_succ]
                    refine wpAnyH_take (i := 5) (v := ?_) (by simp only [List.getElem?_toArray, List.getElem?_cons_succ, List.getElem?_cons_zero]; rfl) (by kernel_rfl) (by kernel_rfl) (by kernel_rfl) (fun _ _ _ h => h) (Or.inl ⟨by rfl, ?_⟩) (by assumption) ?_
                    rotate_left
                    · (intro w hSw; (try dsimp only at hSw); go_simp; try with_reducible rfl)
                    try simp only [Act.put, List.setIfInBounds_toArray, List.set_cons_zero, List.set_cons_succ]
                    refine wpAnyH_ready (rs := [1]) (by kernel_rfl) (by simp) ?_
                    refine AllReadyH.cons (by simp only [List.getElem?_toArray, List.getElem?_cons_succ, List.getElem?_cons_zero]; rfl) (fun K hK => ?_) AllReadyH.nil
                    go_simp
                    go_at_call 17
                    refine (text_any rb left E 8192 (by decide) (by decide) _ (Rd.drew r5) x left' E' HX.out).mono ?_
                    rintro e w6 ⟨rfl, r6, k6⟩
                    go_wp2_with fail
                    refine hK.out _ _ (keepB hHeld k6 hne) (fun hHeld => ?_)
                    clear hK K
                    try simp only [Act.put, List.setIfInBounds_toArray, List.set_cons_zero, List.set_cons_succ]
                    refine wpAnyH_take (i := 6) (v := ?_) (by simp only [List.getElem?_toArray, List.getElem?_cons_succ, List.getElem?_cons_zero]; rfl) (by kernel_rfl) (by kernel_rfl) (by kernel_rfl) (fun _ _ _ h => h) (Or.inl ⟨by rfl, ?_⟩) (by assumption) ?_
                    rotate_left
                    · (intro w hSw; (try dsimp only at hSw); go_simp; try with_reducible rfl)
                    try simp only [Act.put, List.setIfInBounds_toArray, List.set_cons_zero, List.set_cons_succ]
                    refine wpAnyH_take (i := 7) (v := ?_) (by simp only [List.getElem?_toArray, List.getElem?_cons_succ, List.getElem?_cons_zero]; rfl) (by kernel_rfl) (by kernel_rfl) (by kernel_rfl) (fun _ _ _ h => h) (Or.inl ⟨by rfl, ?_⟩) (by assumption) ?_
                    rotate_left
                    · (intro w hSw; (try dsimp only at hSw); go_simp; try with_reducible rfl)
                    try simp only [Act.put, List.setIfInBounds_toArray, List.set_cons_zero, List.set_cons_succ]
                    refine wpAnyH_take (i := 8) (v := ?_) (by simp only [List.getElem?_toArray, List.getElem?_cons_succ, List.getElem?_cons_zero]; rfl) (by kernel_rfl) (by kernel_rfl) (by kernel_rfl) (fun _ _ _ h => h) (Or.inl ⟨by rfl, ?_⟩) (by assumption) ?_
                    rotate_left
                    · (intro w hSw; (try dsimp only at hSw); go_simp; try with_reducible rfl)
                    try simp only [Act.put, List.setIfInBounds_toArray, List.set_cons_zero, List.set_cons_succ]
                    refine wpAnyH_take (i := 9) (v := ?_) (by simp only [List.getElem?_toArray, List.getElem?_cons_succ, List.getElem?_cons_zero]; rfl) (by kernel_rfl) (by kernel_rfl) (by kernel_rfl) (fun _ _ _ h => h) (Or.inl ⟨by rfl, ?_⟩) (by assumption) ?_
                    rotate_left
                    · (intro w hSw; (try dsimp only at hSw); go_simp; try with_reducible rfl)
                    try simp only [Act.put, List.setIfInBounds_toArray, List.set_cons_zero, List.set_cons_succ]
                    refine wpAnyH_take (i := 10) (v := ?_) (by simp only [List.getElem?_toArray, List.getElem?_cons_succ, List.getElem?_cons_zero]; rfl) (by kernel_rfl) (by kernel_rfl) (by kernel_rfl) (fun _ _ _ h => h) (Or.inl ⟨by rfl, ?_⟩) (by assumption) ?_
                    rotate_left
                    · (intro w hSw; (try dsimp only at hSw); go_simp; try with_reducible rfl)
                    try simp only [Act.put, List.setIfInBounds_toArray, List.set_cons_zero, List.set_cons_succ]
                    refine wpAnyH_done (by kernel_rfl) ?_ _
                    refine NoPanic.normal ?_
                    have h6 := But.below (Below.drew h5) k6 hrb (Below.drew h5).size
                    go_wp2
                    go_roundw
                    case rel => exact ⟨j + 1, same, left', E', by omega, by go_num, rfl, r6, Lib.hid (HI1.out HXT.out), h6⟩
                    case measure => simp [intOf]; omega
                  · have hbq : (x == t.toList) = false := by rw [Lib.toList_data, beq_eq_false_iff_ne]; exact hxt
                    have HXT := Lib.hid hxt
                    clear hxt
                    go_wp2_with fail
                    refine wp_region_noPanic ?_
                    refine wp_region_held_drew (S := (fun w' => w'.cell? ⟨b, off + j, none⟩ = some (.string t))) (by kernel_rfl) (by go_keep) (fun hHeld => ?_)
                    refine wpAnyH_take (i := 0) (v := ?_) (by simp only [List.getElem?_toArray, List.getElem?_cons_zero]; rfl) (by kernel_rfl) (by kernel_rfl) (by kernel_rfl) (fun _ _ _ h => h) (Or.inl ⟨by rfl, ?_⟩) (by assumption) ?_
                    rotate_left
                    · (intro w hSw; (try dsimp only at hSw); go_simp; try with_reducible rfl)
                    try simp only [Act.put, List.setIfInBounds_toArray, List.set_cons_zero, List.set_cons_succ]
                    refine wpAnyH_take (i := 2) (v := ?_) (by simp only [List.getElem?_toArray, List.getElem?_cons_succ, List.getElem?_cons_zero]; rfl) (by kernel_rfl) (by kernel_rfl) (by kernel_rfl) (fun _ _ _ h => h) (Or.inl ⟨by rfl, ?_⟩) (by assumption) ?_
                    rotate_left
                    · (intro w hSw; (try dsimp only at hSw); go_simp; try with_reducible rfl)
                    try simp only [Act.put, List.setIfInBounds_toArray, List.set_cons_zero, List.set_cons_succ]
                    refine wpAnyH_take (i := 3) (v := ?_) (by simp only [List.getElem?_toArray, List.getElem?_cons_succ, List.getElem?_cons_zero]; rfl) (by kernel_rfl) (by kernel_rfl) (by kernel_rfl) (fun _ _ _ h => h) (Or.inl ⟨by rfl, ?_⟩) (by assumption) ?_
                    rotate_left
                    · (intro w hSw; (try dsimp only at hSw); go_simp; try with_reducible rfl)
                    try simp only [Act.put, List.setIfInBounds_toArray, List.set_cons_zero, List.set_cons_succ]
                    refine wpAnyH_take (i := 4) (v := ?_) (by simp only [List.getElem?_toArray, List.getElem?_cons_succ, List.getElem?_cons_zero]; rfl) (by kernel_rfl) (by kernel_rfl) (by kernel_rfl) (fun _ _ _ h => h) (Or.inl ⟨by rfl, ?_⟩) (by assumption) ?_
                    rotate_left
                    · (intro w hSw; (try dsimp only at hSw); go_simp; try with_reducible rfl)
                    try simp only [Act.put, List.setIfInBounds_toArray, List.set_cons_zero, List.set_cons_succ]
                    refine wpAnyH_take (i := 5) (v := ?_) (by simp only [List.getElem?_toArray, List.getElem?_cons_succ, List.getElem?_cons_zero]; rfl) (by kernel_rfl) (by kernel_rfl) (by kernel_rfl) (fun _ _ _ h => h) (Or.inl ⟨by rfl, ?_⟩) (by assumption) ?_
                    rotate_left
                    · (intro w hSw; (try dsimp only at hSw); go_simp; try with_reducible rfl)
                    try simp only [Act.put, List.setIfInBounds_toArray, List.set_cons_zero, List.set_cons_succ]
                    refine wpAnyH_ready (rs := [1]) (by kernel_rfl) (by simp) ?_
                    refine AllReadyH.cons (by simp only [List.getElem?_toArray, List.getElem?_cons_succ, List.getElem?_cons_zero]; rfl) (fun K hK => ?_) AllReadyH.nil
                    go_simp
                    go_at_call 17
                    refine (text_any rb left E 8192 (by decide) (by decide) _ (Rd.drew r5) x left' E' HX.out).mono ?_
                    rintro e w6 ⟨rfl, r6, k6⟩
                    go_wp2_with fail
                    refine hK.out _ _ (keepB hHeld k6 hne) (fun hHeld => ?_)
                    clear hK K
                    try simp only [Act.put, List.setIfInBounds_toArray, List.set_cons_zero, List.set_cons_succ]
                    refine wpAnyH_take (i := 6) (v := ?_) (by simp only [List.getElem?_toArray, List.getElem?_cons_succ, List.getElem?_cons_zero]; rfl) (by kernel_rfl) (by kernel_rfl) (by kernel_rfl) (fun _ _ _ h => h) (Or.inl ⟨by rfl, ?_⟩) (by assumption) ?_
                    rotate_left
                    · (intro w hSw; (try dsimp only at hSw); go_simp; try with_reducible rfl)
                    try simp only [Act.put, List.setIfInBounds_toArray, List.set_cons_zero, List.set_cons_succ]
                    refine wpAnyH_take (i := 7) (v := ?_) (by simp only [List.getElem?_toArray, List.getElem?_cons_succ, List.getElem?_cons_zero]; rfl) (by kernel_rfl) (by kernel_rfl) (by kernel_rfl) (fun _ _ _ h => h) (Or.inl ⟨by rfl, ?_⟩) (by assumption) ?_
                    rotate_left
                    · (intro w hSw; (try dsimp only at hSw); go_simp; try with_reducible rfl)
                    try simp only [Act.put, List.setIfInBounds_toArray, List.set_cons_zero, List.set_cons_succ]
                    refine wpAnyH_take (i := 8) (v := undef) (by simp only [List.getElem?_toArray, List.getElem?_cons_succ, List.getElem?_cons_zero]; rfl) (by kernel_rfl) (by kernel_rfl) (by kernel_rfl) (fun _ _ _ h => h) (Or.inr ⟨by rfl, rfl⟩) (by assumption) ?_
                    try simp only [Act.put, List.setIfInBounds_toArray, List.set_cons_zero, List.set_cons_succ]
                    refine wpAnyH_take (i := 9) (v := ?_) (by simp only [List.getElem?_toArray, List.getElem?_cons_succ, List.getElem?_cons_zero]; rfl) (by kernel_rfl) (by kernel_rfl) (by kernel_rfl) (fun _ _ _ h => h) (Or.inl ⟨by rfl, ?_⟩) (by assumption) ?_
                    rotate_left
                    · (intro w hSw; (try dsimp only at hSw); go_simp; try with_reducible rfl)
                    try simp only [Act.put, List.setIfInBounds_toArray, List.set_cons_zero, List.set_cons_succ]
                    refine wpAnyH_take (i := 10) (v := ?_) (by simp only [List.getElem?_toArray, List.getElem?_cons_succ, List.getElem?_cons_zero]; rfl) (by kernel_rfl) (by kernel_rfl) (by kernel_rfl) (fun _ _ _ h => h) (Or.inl ⟨by rfl, ?_⟩) (by assumption) ?_
                    rotate_left
                    · (intro w hSw; (try dsimp only at hSw); go_simp; try with_reducible rfl)
                    try simp only [Act.put, List.setIfInBounds_toArray, List.set_cons_zero, List.set_cons_succ]
                    refine wpAnyH_done (by kernel_rfl) ?_ _
                    refine NoPanic.normal ?_
                    have h6 := But.below (Below.drew h5) k6 hrb (Below.drew h5).size
                    go_wp2
                    go_roundw
                    case rel => exact ⟨j + 1, false, left', E', by omega, by go_num, rfl, r6, Lib.hid (HI2.out HXT.out), h6⟩
                    case measure => simp [intOf]; omega
                · obtain rfl : j = len1 := by omega
                  have hi := HI.out
                  rw [show ls.drop j = [] from List.drop_of_length_le (by omega), show tcat [] = [] from rfl, List.nil_append] at hi
                  obtain ⟨x, left', E', hx, hi1, hi2⟩ := inv_bool hi
                  have HX := Lib.hid hx
                  obtain ⟨same2, hs2, hi7⟩ : ∃ s2 : Bool, s2 = (if x = a2 then same else false) ∧ Inv S.length M beh [] left' E' s2 := by
                    by_cases h : x = a2
                    · exact ⟨_, rfl, by rw [if_pos h]; exact hi1 h⟩
                    · exact ⟨_, rfl, by rw [if_neg h]; exact hi2 h⟩
                  have HI7 := Lib.hid hi7
                  have HS2 := Lib.hid hs2
                  clear hx hi1 hi2 hi HI hls hi7 hs2
                  go_wp2_with fail
                  refine (bool_any rb left E _ r5 x left' E' HX.out).mono ?_
                  rintro e w6 ⟨rfl, r6, k6⟩
                  have h6 := But.below h5 k6 hrb h5.size
                  clear k6
                  rcases (show k = 0 ∨ k = 1 by omega) with rfl | rfl
                  · obtain ⟨rfl, hM⟩ := HW0.out rfl
                    obtain ⟨rfl, e2, rfl⟩ := inv_whole HI7.out (by omega)
                    have hs2 := HS2.out
                    rw [e2] at hs2
                    by_cases hxa : x = a2
                    · rw [if_pos hxa] at hs2
                      subst hxa
                      rw [← hs2]
                      have hbq : (x == x) = true := by simp
                      clear hs2 e2 HW0 HW1 HS2 HI7 HT hM
                      go_wp2_with fail
                      refine (err_any rb left' 0 _ r6).mono ?_
                      rintro e w' ⟨rfl, rfl⟩
                      by_cases hB0 : left'.isEmpty = true
                      · go_wp2_with fail
                        refine (end_any rb left' 0 _ r6 0 (by rw [endS, if_neg (by simp), if_pos hB0])).mono ?_
                        rintro e w7 ⟨rfl, r7, k7⟩
                        have h7 := But.below h6 k7 hrb h6.size
                        clear k7
                        go_wp2
                        go_roundw
                        case rel => exact ⟨1, by omega, by go_num, h7⟩
                        case measure => simp [intOf]
                      · have hB1 : left'.isEmpty = false := by simpa using hB0
                        go_wp2_with fail
                        refine (end_any rb left' 0 _ r6 8 (by rw [endS, if_neg (by simp), if_neg hB0])).mono ?_
                        rintro e w7 ⟨rfl, r7, k7⟩
                        have h7 := But.below h6 k7 hrb h6.size
                        clear k7 hB0
                        go_wp2
                        go_roundw
                        case rel => exact ⟨1, by omega, by go_num, h7⟩
                        case measure => simp [intOf]
                    · rw [if_neg hxa] at hs2
                      exact absurd hs2 (by decide)
                  · obtain ⟨rfl, hM⟩ := HW1.out rfl
                    have hcut := inv_cut HI7.out hM
                    have hTl2 : T.length = M := by rw [HT.out, List.append_nil, List.length_take]; omega
                    have hsT := Str.size_mk T
                    have X := Lib.hid (err_any rb left' E' _ r6)
                    have hbools : ∃ q : Bool, (E' == 0) = q ∧ ((M : Int) == (S.length : Int)) = q ∧ (x == a2) = decide (x = a2) := by
                      by_cases hq : M = S.length
                      · exact ⟨true, by rw [beq_iff_eq]; exact hcut.2 hq, by rw [beq_iff_eq]; omega, by cases x <;> cases a2 <;> rfl⟩
                      · exact ⟨false, by rw [beq_eq_false_iff_ne]; exact fun h => hq (hcut.1 h), by rw [beq_eq_false_iff_ne]; omega, by cases x <;> cases a2 <;> rfl⟩
                    obtain ⟨q, hq1, hq2, _⟩ := hbools
                    have hq3 : (T.length : Int) = (M : Int) := by omega
                    clear hcut HW0 HW1 HS2 HI7 HT hM
                    by_cases hxa : x = a2
                    · subst hxa
                      cases q <;>
                      · go_wp2_with fail
                        refine X.out.mono ?_
                        rintro e w' ⟨rfl, rfl⟩
                        go_wp2
                        go_roundw
                        case rel => exact ⟨2, by omega, by go_num, h6⟩
                        case measure => simp [intOf]
                    · obtain rfl : a2 = !x := by cases x <;> cases a2 <;> first | rfl | exact absurd rfl hxa
                      have hbq : (x == !x) = false := by cases x <;> rfl
                      clear hxa
                      cases q <;>
                      · go_wp2_with fail
                        refine X.out.mono ?_
                        rintro e w' ⟨rfl, rfl⟩
                        go_wp2
                        go_roundw
                        case rel => exact ⟨2, by omega, by go_num, h6⟩
                        case measure => simp [intOf]
      · obtain rfl : k = 2 := by omega
        go_wp2_with fail
        refine (alive_any _).mono ?_
        rintro e w' ⟨rfl, hb'⟩
        go_wp2
        go_ret
        exact ⟨rfl, bstep hb hb'⟩

end Go.Proofs.Yteladdjdmgjagaa.WireBack
