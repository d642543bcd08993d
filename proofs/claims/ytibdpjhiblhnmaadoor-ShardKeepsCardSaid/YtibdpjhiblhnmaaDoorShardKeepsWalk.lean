/- ShardKeeps: the walk. -/
import Derived.Test.YtibdpjhiblhnmaaDoorShardKeepsPlain
import Derived.Test.YtibdpjhiblhnmaaDoorShaLaid
import Derived.Test.YtibdpjhiblhnmaaDoorWordsIn
namespace Go.Proofs.YtibdpjhiblhnmaaDoor
namespace ShardKeeps
open Go.RowKit Shard
theorem keepC {w w' : World} {p : Addr} {v : Value} (h : w.cell? p = some v) (k : Below w.heap.size w w') : w'.cell? p = some v := (k.cell (World.block_lt_of_cell? _ _ h)).trans h
theorem own_low {w : World} {B n cap : Nat} {a : Option Addr} {L : List (List UInt8)} (h : Words.Mine w B (.slice a n cap) L) : ∀ x, a = some x → x.block < w.heap.size := fun x hx => by
  subst hx
  rcases h.2 with ⟨e, _⟩ | ⟨g, c, cur, e, _, hg, _⟩
  · cases e
  · simp only [Value.slice.injEq, Option.some.injEq] at e
    rw [e.1]
    exact (Array.getElem?_eq_some_iff.1 hg).1

set_option maxRecDepth 100000 in
set_option maxHeartbeats 4000000 in
theorem walk (a0 : List (List UInt8)) (s0 : Option Addr) (c0 : Nat) (a1 : List (List UInt8)) (s1 : Option Addr) (c1 : Nat) (w : World) (w0 : ∀ x ∈ a0, x.length ≤ 140737488351232) (l0 : Words.Lies w s0 a0.length a0) (r0 : a0.length ≤ 140737488351232) (w1 : ∀ x ∈ a1, x.length ≤ 140737488351232) (l1 : Words.Lies w s1 a1.length a1) (r1 : a1.length ≤ 140737488351232) (ht : Sha.Tabs w) :
    Calls Tryd.prog 4 #[.slice s0 a0.length c0, .slice s1 a1.length c1] w fun e w' => e = .returned (.bool true) ∧ Below w.heap.size w w' := by
  have hb := Below.refl w.heap.size w
  have HT := Lib.hid ht
  have HW := Lib.hid (fun w ht => works_any w ht)
  have B0 := Lib.hid (wsum_le a0 w0)
  have B1 := Lib.hid (wsum_le a1 w1)
  have M0 := Lib.hid (wsum_mem a0 a0.length rfl)
  have M1 := Lib.hid (wsum_mem a1 a1.length rfl)
  obtain ⟨n0, hn0⟩ : ∃ n, n = a0.length := ⟨_, rfl⟩
  obtain ⟨n1, hn1⟩ : ∃ n, n = a1.length := ⟨_, rfl⟩
  rw [← hn0] at M0 l0 r0 ⊢
  rw [← hn1] at M1 l1 r1 ⊢
  have N0 := Lib.hid hn0
  have N1 := Lib.hid hn1
  have L0 := Lib.hid l0
  have L1 := Lib.hid l1
  clear ht w0 w1 l0 l1 hn0 hn1
  go_enter Tryd.func4, Tryd.ntmps4
  go_wp2_with fail
  go_loopw [5, 6] (fun c iv wx => ∃ k : Nat, k ≤ n0 ∧ k ≤ 200 ∧ c = .int .i64 ((0 + wsum a0 k : Nat) : Int) ∧ iv = .int .i64 (k : Int) ∧ wx = w) (fun _ iv _ => n0 - (intOf iv).toNat)
  case atStart => exact ⟨0, by omega, by omega, rfl, rfl, rfl⟩
  case round =>
    obtain ⟨k, hk, hk2, rfl, rfl, hwx⟩ := hrel
    have hwx2 := hwx.symm
    clear hwx
    subst hwx2
    have hs := B0.out k
    have hk3 : k * 140737488351233 ≤ 200 * 140737488351233 := Nat.mul_le_mul_right _ hk2
    obtain ⟨u, hue⟩ : ∃ u, u = 0 + wsum a0 k := ⟨_, rfl⟩
    have hs2 : u ≤ 0 + 200 * 140737488351233 := by omega
    rw [← hue]
    by_cases hlt : k < n0
    · have d1 : decide ((k : Int) < (n0 : Int)) = true := decide_eq_true (by omega)
      by_cases hl2 : k < 200
      · have d2 : decide ((k : Int) < 200) = true := decide_eq_true (by omega)
        have hkl : k < a0.length := by have := N0.out; omega
        obtain ⟨b, o, rfl, hc⟩ := Words.words_at L0.out (by omega)
        have hcx := hc k hkl
        have HX : Hid (wsum a0 (k + 1) = wsum a0 k + 1 + (a0[k]).length) := Lib.hid (by show wsum a0 k + 1 + (a0.getD k []).length = _; rw [List.getD_eq_getElem?_getD, List.getElem?_eq_getElem hkl]; rfl)
        have hs3 := B0.out (k + 1)
        rw [HX.out] at hs3
        have hk4 : (k + 1) * 140737488351233 ≤ 201 * 140737488351233 := Nat.mul_le_mul_right _ (by omega)
        obtain ⟨x, hx⟩ : ∃ x, x = a0[k] := ⟨_, rfl⟩
        rw [← hx] at hcx HX hs3
        have h0k : (0 : Int) ≤ (k : Int) := by omega
        have hkn : (k : Int) < (n0 : Int) := by omega
        have hsz := Str.size_mk x
        have wr1 : IntKind.i64.wrap ((u : Int) + 1) = (u : Int) + 1 := by rw [IntKind.wrap_i64]; omega
        have wr2 : IntKind.i64.wrap ((u : Int) + 1 + (x.length : Int)) = ((u + 1 + x.length : Nat) : Int) := by rw [IntKind.wrap_i64]; omega
        have HTE : Hid (0 + wsum a0 (k + 1) = u + 1 + x.length) := Lib.hid (by rw [HX.out, hue]; omega)
        clear hc hkl hx hue hs hs3 HX
        go_wp2_with fail
        go_roundw
        case rel => exact ⟨k + 1, by omega, by omega, by rw [HTE.out]; go_num, by go_num, trivial⟩
        case measure => simp [intOf]; omega
      · obtain rfl : k = 200 := by omega
        have d2 : decide ((200 : Int) < 200) = false := by decide
        have big : 80 < n0 := by omega
        have hz := hs2
        obtain ⟨t, ht0⟩ : ∃ t, t = u := ⟨_, rfl⟩
        rw [← ht0]
        rw [← ht0] at hs2 hue
        have HS0 := Lib.hid hue
        clear hs hue ht0 hz u
        have hm0 : 80 < n0 := big
        go_wp2_with fail
        go_loopw [5, 7] (fun c iv wx => ∃ k : Nat, k ≤ n1 ∧ k ≤ 200 ∧ c = .int .i64 ((t + wsum a1 k : Nat) : Int) ∧ iv = .int .i64 (k : Int) ∧ wx = w) (fun _ iv _ => n1 - (intOf iv).toNat)
        case atStart => exact ⟨0, by omega, by omega, rfl, rfl, rfl⟩
        case round =>
          obtain ⟨k, hk, hk2, rfl, rfl, hwx⟩ := hrel
          have hwx2 := hwx.symm
          clear hwx
          subst hwx2
          have hs := B1.out k
          have hk3 : k * 140737488351233 ≤ 200 * 140737488351233 := Nat.mul_le_mul_right _ hk2
          obtain ⟨u, hue⟩ : ∃ u, u = t + wsum a1 k := ⟨_, rfl⟩
          have hs2 : u ≤ t + 200 * 140737488351233 := by omega
          rw [← hue]
          by_cases hlt : k < n1
          · have d1 : decide ((k : Int) < (n1 : Int)) = true := decide_eq_true (by omega)
            by_cases hl2 : k < 200
            · have d2 : decide ((k : Int) < 200) = true := decide_eq_true (by omega)
              have hkl : k < a1.length := by have := N1.out; omega
              obtain ⟨b, o, rfl, hc⟩ := Words.words_at L1.out (by omega)
              have hcx := hc k hkl
              have HX : Hid (wsum a1 (k + 1) = wsum a1 k + 1 + (a1[k]).length) := Lib.hid (by show wsum a1 k + 1 + (a1.getD k []).length = _; rw [List.getD_eq_getElem?_getD, List.getElem?_eq_getElem hkl]; rfl)
              have hs3 := B1.out (k + 1)
              rw [HX.out] at hs3
              have hk4 : (k + 1) * 140737488351233 ≤ 201 * 140737488351233 := Nat.mul_le_mul_right _ (by omega)
              obtain ⟨x, hx⟩ : ∃ x, x = a1[k] := ⟨_, rfl⟩
              rw [← hx] at hcx HX hs3
              have h0k : (0 : Int) ≤ (k : Int) := by omega
              have hkn : (k : Int) < (n1 : Int) := by omega
              have hsz := Str.size_mk x
              have wr1 : IntKind.i64.wrap ((u : Int) + 1) = (u : Int) + 1 := by rw [IntKind.wrap_i64]; omega
              have wr2 : IntKind.i64.wrap ((u : Int) + 1 + (x.length : Int)) = ((u + 1 + x.length : Nat) : Int) := by rw [IntKind.wrap_i64]; omega
              have HTE : Hid (t + wsum a1 (k + 1) = u + 1 + x.length) := Lib.hid (by rw [HX.out, hue]; omega)
              clear hc hkl hx hue hs hs3 HX
              go_wp2_with fail
              go_roundw
              case rel => exact ⟨k + 1, by omega, by omega, by rw [HTE.out]; go_num, by go_num, trivial⟩
              case measure => simp [intOf]; omega
            · obtain rfl : k = 200 := by omega
              have d2 : decide ((200 : Int) < 200) = false := by decide
              have big : 80 < n1 := by omega
              have HU := Lib.hid hue
              have HS2 := Lib.hid hs2
              clear hue hs hs2 hk3
              have e1n0 : decide ((n0 : Int) > 80) = true := decide_eq_true (by omega)
              have e2n0 : decide ((80 : Int) < (n0 : Int)) = true := decide_eq_true (by omega)
              go_wp2_with fail
              refine (HW.out _ HT.out).mono ?_
              rintro e w2 ⟨rfl, k2⟩
              go_wp2
              go_ret
              exact ⟨rfl, k2⟩
          · obtain rfl : k = n1 := by omega
            have d1 : decide ((k : Int) < (k : Int)) = false := decide_eq_false (by omega)
            have HU := Lib.hid hue
            have HS2 := Lib.hid hs2
            clear hue hs hs2 hk3
            have e1n0 : decide ((n0 : Int) > 80) = true := decide_eq_true (by omega)
            have e2n0 : decide ((80 : Int) < (n0 : Int)) = true := decide_eq_true (by omega)
            go_wp2_with fail
            refine (HW.out _ HT.out).mono ?_
            rintro e w2 ⟨rfl, k2⟩
            go_wp2
            go_ret
            exact ⟨rfl, k2⟩
    · obtain rfl : k = n0 := by omega
      have d1 : decide ((k : Int) < (k : Int)) = false := decide_eq_false (by omega)
      have hz := hs2
      obtain ⟨t, ht0⟩ : ∃ t, t = u := ⟨_, rfl⟩
      rw [← ht0]
      rw [← ht0] at hs2 hue
      have HS0 := Lib.hid hue
      clear hs hue ht0 hz u
      have M0' := M0
      obtain ⟨m0, hm0⟩ : ∃ m, m = k := ⟨_, rfl⟩
      rw [← hm0] at HS0 M0 N0 L0 d1 r0 hlt ⊢
      clear hm0 hk hk2 hk3
      go_wp2_with fail
      go_loopw [5, 7] (fun c iv wx => ∃ k : Nat, k ≤ n1 ∧ k ≤ 200 ∧ c = .int .i64 ((t + wsum a1 k : Nat) : Int) ∧ iv = .int .i64 (k : Int) ∧ wx = w) (fun _ iv _ => n1 - (intOf iv).toNat)
      case atStart => exact ⟨0, by omega, by omega, rfl, rfl, rfl⟩
      case round =>
        obtain ⟨k, hk, hk2, rfl, rfl, hwx⟩ := hrel
        have hwx2 := hwx.symm
        clear hwx
        subst hwx2
        have hs := B1.out k
        have hk3 : k * 140737488351233 ≤ 200 * 140737488351233 := Nat.mul_le_mul_right _ hk2
        obtain ⟨u, hue⟩ : ∃ u, u = t + wsum a1 k := ⟨_, rfl⟩
        have hs2 : u ≤ t + 200 * 140737488351233 := by omega
        rw [← hue]
        by_cases hlt : k < n1
        · have d1 : decide ((k : Int) < (n1 : Int)) = true := decide_eq_true (by omega)
          by_cases hl2 : k < 200
          · have d2 : decide ((k : Int) < 200) = true := decide_eq_true (by omega)
            have hkl : k < a1.length := by have := N1.out; omega
            obtain ⟨b, o, rfl, hc⟩ := Words.words_at L1.out (by omega)
            have hcx := hc k hkl
            have HX : Hid (wsum a1 (k + 1) = wsum a1 k + 1 + (a1[k]).length) := Lib.hid (by show wsum a1 k + 1 + (a1.getD k []).length = _; rw [List.getD_eq_getElem?_getD, List.getElem?_eq_getElem hkl]; rfl)
            have hs3 := B1.out (k + 1)
            rw [HX.out] at hs3
            have hk4 : (k + 1) * 140737488351233 ≤ 201 * 140737488351233 := Nat.mul_le_mul_right _ (by omega)
            obtain ⟨x, hx⟩ : ∃ x, x = a1[k] := ⟨_, rfl⟩
            rw [← hx] at hcx HX hs3
            have h0k : (0 : Int) ≤ (k : Int) := by omega
            have hkn : (k : Int) < (n1 : Int) := by omega
            have hsz := Str.size_mk x
            have wr1 : IntKind.i64.wrap ((u : Int) + 1) = (u : Int) + 1 := by rw [IntKind.wrap_i64]; omega
            have wr2 : IntKind.i64.wrap ((u : Int) + 1 + (x.length : Int)) = ((u + 1 + x.length : Nat) : Int) := by rw [IntKind.wrap_i64]; omega
            have HTE : Hid (t + wsum a1 (k + 1) = u + 1 + x.length) := Lib.hid (by rw [HX.out, hue]; omega)
            clear hc hkl hx hue hs hs3 HX
            go_wp2_with fail
            go_roundw
            case rel => exact ⟨k + 1, by omega, by omega, by rw [HTE.out]; go_num, by go_num, trivial⟩
            case measure => simp [intOf]; omega
          · obtain rfl : k = 200 := by omega
            have d2 : decide ((200 : Int) < 200) = false := by decide
            have big : 80 < n1 := by omega
            have HU := Lib.hid hue
            have HS2 := Lib.hid hs2
            clear hue hs hs2 hk3
            by_cases hb0 : 80 < m0
            · skip
              have e1m0 : decide ((m0 : Int) > 80) = true := decide_eq_true (by omega)
              have e2m0 : decide ((80 : Int) < (m0 : Int)) = true := decide_eq_true (by omega)
              go_wp2_with fail
              refine (HW.out _ HT.out).mono ?_
              rintro e w2 ⟨rfl, k2⟩
              go_wp2
              go_ret
              exact ⟨rfl, k2⟩
            · skip
              have e1m0 : decide ((m0 : Int) > 80) = false := decide_eq_false (by omega)
              have e2m0 : decide ((80 : Int) < (m0 : Int)) = false := decide_eq_false (by omega)
              have e1n1 : decide ((n1 : Int) > 80) = true := decide_eq_true (by omega)
              have e2n1 : decide ((80 : Int) < (n1 : Int)) = true := decide_eq_true (by omega)
              go_wp2_with fail
              refine (HW.out _ HT.out).mono ?_
              rintro e w2 ⟨rfl, k2⟩
              go_wp2
              go_ret
              exact ⟨rfl, k2⟩
        · obtain rfl : k = n1 := by omega
          have d1 : decide ((k : Int) < (k : Int)) = false := decide_eq_false (by omega)
          have HU := Lib.hid hue
          have HS2 := Lib.hid hs2
          clear hue hs hs2 hk3
          by_cases hb0 : 80 < m0
          · skip
            have e1m0 : decide ((m0 : Int) > 80) = true := decide_eq_true (by omega)
            have e2m0 : decide ((80 : Int) < (m0 : Int)) = true := decide_eq_true (by omega)
            go_wp2_with fail
            refine (HW.out _ HT.out).mono ?_
            rintro e w2 ⟨rfl, k2⟩
            go_wp2
            go_ret
            exact ⟨rfl, k2⟩
          · skip
            have e1m0 : decide ((m0 : Int) > 80) = false := decide_eq_false (by omega)
            have e2m0 : decide ((80 : Int) < (m0 : Int)) = false := decide_eq_false (by omega)
            by_cases hb1 : 80 < k
            · skip
              have e1k : decide ((k : Int) > 80) = true := decide_eq_true (by omega)
              have e2k : decide ((80 : Int) < (k : Int)) = true := decide_eq_true (by omega)
              go_wp2_with fail
              refine (HW.out _ HT.out).mono ?_
              rintro e w2 ⟨rfl, k2⟩
              go_wp2
              go_ret
              exact ⟨rfl, k2⟩
            · skip
              have e1k : decide ((k : Int) > 80) = false := decide_eq_false (by omega)
              have e2k : decide ((80 : Int) < (k : Int)) = false := decide_eq_false (by omega)
              by_cases hb2 : 4096 < u
              · skip
                have e1u : decide ((u : Int) > 4096) = true := decide_eq_true (by omega)
                have e2u : decide ((4096 : Int) < (u : Int)) = true := decide_eq_true (by omega)
                go_wp2_with fail
                refine (HW.out _ HT.out).mono ?_
                rintro e w2 ⟨rfl, k2⟩
                go_wp2
                go_ret
                exact ⟨rfl, k2⟩
              · skip
                have e1u : decide ((u : Int) > 4096) = false := decide_eq_false (by omega)
                have e2u : decide ((4096 : Int) < (u : Int)) = false := decide_eq_false (by omega)
                have hu := HU.out
                have ht4 : t ≤ 4096 := by omega
                have hu4 : u ≤ 4096 := by omega
                have hw1 : wsum a1 k ≤ 4096 := by omega
                have hw0 : wsum a0 m0 ≤ 4096 := by have := HS0.out; omega
                have Z0 : Hid (∀ x ∈ a0, x.length ≤ 4096) := Lib.hid (fun x hx => Nat.le_trans (M0.out x hx) hw0)
                have Z1 : Hid (∀ x ∈ a1, x.length ≤ 4096) := Lib.hid (fun x hx => Nat.le_trans (M1.out x hx) hw1)
                have Z01 : Hid (∀ x ∈ a0 ++ a1, x.length ≤ 4096) := Lib.hid (fun x hx => (List.mem_append.1 hx).elim (Z0.out x) (Z1.out x))
                have hm80 : m0 ≤ 80 := by omega
                have hk80 : k ≤ 80 := by omega
                obtain ⟨m1, hm1⟩ : ∃ m, m = k := ⟨_, rfl⟩
                rw [← hm1] at L1 N1 hk80 e1k e2k ⊢
                clear hu HU hw0 hw1 M0 M1 HS0 HS2 hs2 B0 B1 d1 hlt hk2 hk r1 M0' hm1 hb1 ht4
                go_wp2_with (at_builtin; refine Row.wpList_app Words.typ rfl _ _ rfl w.heap.size _ [] rfl (Row.Own.nil _ _) s0 m0 c0 a0 rfl L0.out (by simp only [List.length_nil]; omega) (Nat.le_refl _) ?_; intro v4 w4 o4 _ k4; rw [List.nil_append] at o4; obtain ⟨sa, ca, rfl, -, -, la, -⟩ := Row.Own.lies o4; have lowA := Lib.hid (own_low o4); clear o4)
                refine (split_any sa _ ca a0 w4 la lowA.out (HT.out.below k4) (by have := N0.out; omega) (fun x hx => by have := Z0.out x hx; omega)).mono ?_
                rintro e w5 ⟨gx, VX, rfl, hX, k5⟩
                have hb5 := bstep k4 k5
                have HX := Lib.hid hX
                clear hX k4 k5 la lowA
                have L05 := Lib.hid (L0.out.below hb5)
                have L15 := Lib.hid (L1.out.below hb5)
                go_wp2_with (at_builtin; first | (refine Row.wpList_app Words.typ rfl _ _ rfl w5.heap.size _ a0 rfl o6.out s1 m1 c1 a1 rfl (L15.out.below k6) (by have := N0.out; have := N1.out; omega) k6.size ?_; intro v7 w7 o7 _ k7; obtain ⟨sb, cb, rfl, -, -, lb, -⟩ := Row.Own.lies o7; have lowB := Lib.hid (own_low o7); clear o7; generalize hnb : (a0 ++ a1).length = nb at lb lowB ⊢; replace hnb := Lib.hid hnb; replace lb := Lib.hid lb) | (refine Row.wpList_app Words.typ rfl _ _ rfl w5.heap.size _ [] rfl (Row.Own.nil _ _) s0 m0 c0 a0 rfl L05.out (by simp only [List.length_nil]; omega) (Nat.le_refl _) ?_; intro v6 w6 o6 _ k6; rw [List.nil_append] at o6; replace o6 := Lib.hid o6))
                have k7b := k6.trans k7
                have hb7 := bstep hb5 k7b
                have HX7 := Lib.hid (HX.out.below k7b)
                refine (split_any sb nb cb (a0 ++ a1) w7 lb.out lowB.out (HT.out.below hb7) (by have := N0.out; have := N1.out; have := hnb.out; rw [List.length_append] at this; omega) (fun x hx => Nat.le_trans (Z01.out x hx) (by decide))).mono ?_
                rintro e w8 ⟨gy, VY, rfl, hY, k8⟩
                have hb8 := bstep hb7 k8
                have HY := Lib.hid hY
                replace HX := Lib.hid (HX7.out.below k8)
                have ZP : Hid (∀ j, ∀ x ∈ Shard.part (keys (a0 ++ a1)) j, x.length ≤ 4096) := Lib.hid (fun j x hx => Z01.out x (mem_keys _ _ (List.mem_filter.1 hx).1))
                have LP : Hid (∀ j, (Shard.part (keys (a0 ++ a1)) j).length ≤ 160) := Lib.hid (fun j => by have h1 := part_length (keys (a0 ++ a1)) j; have h2 := keys_length (a0 ++ a1); rw [List.length_append] at h2; have := N0.out; have := N1.out; omega)
                have LX : Hid (∀ j, (Shard.part (keys a0) j).length ≤ 80) := Lib.hid (fun j => by have h1 := part_length (keys a0) j; have h2 := keys_length a0; have := N0.out; omega)
                have MP := Lib.hid (fun j x => part_more a0 a1 j x)
                generalize Shard.part (keys a0) = KX at HX MP LX
                generalize Shard.part (keys (a0 ++ a1)) = KY at HY MP ZP LP
                clear hY k8 lb lowB k6 k7 k7b hb7 HX7 hb5 o6 L05 L15
                go_wp2_with fail
                go_loopw [10] (fun iv wx => ∃ q : Nat, q ≤ 16 ∧ iv = .int .i64 (q : Int) ∧ Below w.heap.size w wx ∧ Hid (Parts.Is wx w4.heap.size gx 16 VX KX) ∧ Hid (Parts.Is wx w7.heap.size gy 16 VY KY)) (fun iv _ => 16 - (intOf iv).toNat)
                case atStart => exact ⟨0, by omega, rfl, hb8, HX, HY⟩
                case round =>
                  clear hb8 HX HY
                  obtain ⟨q, hq, rfl, hb8, HX, HY⟩ := hrel
                  obtain ⟨wo, hwo⟩ : ∃ v, v = wr := ⟨_, rfl⟩
                  subst hwo
                  by_cases hq16 : q < 16
                  · have d1 : decide ((q : Int) < 16) = true := decide_eq_true (by omega)
                    have h0q : (0 : Int) ≤ (q : Int) := by omega
                    have hq2 : (q : Int) < 16 := by omega
                    obtain ⟨aX, cX, hvX, lX, -, -⟩ := HX.out.row hq16
                    have rX := HX.out.cell hq16
                    rw [hvX] at rX
                    obtain ⟨nX, hnX⟩ : ∃ n, n = (KX q).length := ⟨_, rfl⟩
                    rw [← hnX] at lX rX
                    have WX := Lib.hid lX
                    have NX := Lib.hid hnX
                    clear hvX lX
                    obtain ⟨aY, cY, hvY, lY, -, -⟩ := HY.out.row hq16
                    have rY := HY.out.cell hq16
                    rw [hvY] at rY
                    obtain ⟨nY, hnY⟩ : ∃ n, n = (KY q).length := ⟨_, rfl⟩
                    rw [← hnY] at lY rY
                    have WY := Lib.hid lY
                    have NY := Lib.hid hnY
                    clear hvY lY
                    have hmm := @run_makeMap Tryd.prog
                    have hy160 : nY ≤ 160 := by rw [hnY]; exact LP.out q
                    have hx80 : nX ≤ 80 := by rw [hnX]; exact LX.out q
                    clear hnX hnY
                    go_wp2_with fail
                    go_loopw [12] (fun iv wx => ∃ k : Nat, k ≤ nY ∧ iv = .int .i64 (k : Int) ∧ Hid (TextMap.Is Tryd.prog 9 wx wo.heap.size k (mk ((KY q).take k))) ∧ Below wo.heap.size wo wx) (fun iv _ => nY - (intOf iv).toNat)
                    case atStart => exact ⟨0, by omega, rfl, Lib.hid (TextMap.Is.ext (TextMap.Is.made _) (fun _ => by simp [mk])), balloc (Below.refl _ _) _⟩
                    case round =>
                      obtain ⟨k, hk, rfl, hM, hb9⟩ := hrel
                      obtain ⟨wi, hwi⟩ : ∃ v, v = wr := ⟨_, rfl⟩
                      subst hwi
                      have rX9 := keepC rX hb9
                      have rY9 := keepC rY hb9
                      by_cases hlt : k < nY
                      · have d2 : decide ((k : Int) < (nY : Int)) = true := decide_eq_true (by omega)
                        have hkl : k < (KY q).length := by have := NY.out; omega
                        obtain ⟨b, o, rfl, hc⟩ := Words.words_at WY.out (by omega)
                        have hcx := keepC (hc k hkl) hb9
                        have HXL := Lib.hid (ZP.out q _ (List.getElem_mem hkl))
                        have HF := Lib.hid (List.take_succ_eq_append_getElem hkl)
                        obtain ⟨x, hx⟩ : ∃ x, x = (KY q)[k] := ⟨_, rfl⟩
                        rw [← hx] at hcx HXL HF
                        have h0k : (0 : Int) ≤ (k : Int) := by omega
                        have hkn : (k : Int) < (nY : Int) := by omega
                        have HK := Lib.hid (show k < maxLen by unfold maxLen; omega)
                        clear hc hkl hx
                        go_wp2_with (at_mapUpdate; refine TextMap.wpList_put Tryd.underlying28 Tryd.underlying9 rfl _ _ _ rfl wo.heap.size k (mk ((KY q).take k)) x (.int .i64 1) rfl hM.out HK.out rfl (by have := HXL.out; unfold maxLen; omega) rfl ?_; intro w10 S10 k10)
                        have hb10 := Below.grown hb9 k10 hb9.size (fun p e => by cases e; exact Nat.le_refl _)
                        go_roundw
                        case rel => exact ⟨k + 1, by omega, by go_num, Lib.hid (TextMap.Is.ext S10 (fun p => by rw [HF.out, mk_snoc])), hb10⟩
                        case measure => simp [intOf]; omega
                      · obtain rfl : k = nY := by omega
                        have d2 : decide ((k : Int) < (k : Int)) = false := decide_eq_false (by omega)
                        have HM : Hid (TextMap.Is Tryd.prog 9 wi wo.heap.size k (mk (KY q))) := Lib.hid (by have h := hM.out; rwa [List.take_of_length_le (by have := NY.out; omega)] at h)
                        clear hM hlt hk
                        clear rX rY
                        go_wp2_with fail
                        go_loopw [13] (fun iv wx => ∃ k : Nat, k ≤ nX ∧ iv = .int .i64 (k : Int) ∧ wx = wi) (fun iv _ => nX - (intOf iv).toNat)
                        case atStart => exact ⟨0, by omega, rfl, rfl⟩
                        case round =>
                          obtain ⟨p, hp, rfl, hwx⟩ := hrel
                          have hwx2 := hwx.symm
                          clear hwx
                          subst hwx2
                          by_cases hlt : p < nX
                          · have d3 : decide ((p : Int) < (nX : Int)) = true := decide_eq_true (by omega)
                            have hkl : p < (KX q).length := by have := NX.out; omega
                            obtain ⟨b, o, rfl, hc⟩ := Words.words_at WX.out (by omega)
                            have hcx := keepC (hc p hkl) hb9
                            have HXM := MP.out q _ (List.getElem_mem hkl)
                            obtain ⟨x, hx⟩ : ∃ x, x = (KX q)[p] := ⟨_, rfl⟩
                            rw [← hx] at hcx HXM
                            have HPL := Lib.hid hlt
                            have HXL := Lib.hid (ZP.out q x HXM)
                            have HGV := Lib.hid (mk_mem (KY q) x HXM)
                            have h0k : (0 : Int) ≤ (p : Int) := by omega
                            have hkn : (p : Int) < (nX : Int) := by omega
                            clear hc hkl hx HXM
                            go_wp2_with (at_lookup; refine TextMap.wpList_look Tryd.underlying28 Tryd.underlying9 zero_int rfl _ _ rfl wo.heap.size _ (mk (KY q)) x rfl HM.out rfl (by have := HXL.out; unfold maxLen; omega) _ HGV.out ?_)
                            go_roundw
                            case rel => exact ⟨p + 1, by have := HPL.out; omega, by go_num, trivial⟩
                            case measure => have := HPL.out; simp [intOf]; omega
                          · obtain rfl : p = nX := by omega
                            have d3 : decide ((p : Int) < (p : Int)) = false := decide_eq_false (by omega)
                            have HX2 := Lib.hid (HX.out.below hb9)
                            have HY2 := Lib.hid (HY.out.below hb9)
                            have hbE := bstep hb8 hb9
                            clear HX HY hb8 hb9
                            go_wp2_with fail
                            go_roundw
                            case rel => exact ⟨q + 1, by omega, by go_num, hbE, HX2, HY2⟩
                            case measure => simp [intOf]; omega
                  · obtain rfl : q = 16 := by omega
                    have d1 : decide ((16 : Int) < 16) = false := by decide
                    go_wp2_with fail
                    refine (HW.out _ (HT.out.below hb8)).mono ?_
                    rintro e w2 ⟨rfl, k2⟩
                    go_wp2
                    go_ret
                    exact ⟨rfl, bstep hb8 k2⟩
end ShardKeeps
end Go.Proofs.YtibdpjhiblhnmaaDoor
