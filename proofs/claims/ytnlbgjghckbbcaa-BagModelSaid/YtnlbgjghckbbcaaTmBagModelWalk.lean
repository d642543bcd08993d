/- BagModel: the walk. -/
import Derived.Test.YtnlbgjghckbbcaaTmBagDeeds
namespace Go.Proofs.Ytnlbgjghckbbcaa
namespace BagModel
open Go.RowKit Go.Proofs.Ytnlbgjghckbbcaa.Mark Go.Proofs.Ytnlbgjghckbbcaa.Dots Go.Proofs.Ytnlbgjghckbbcaa.Bag Go.Proofs.Ytnlbgjghckbbcaa.BagEv Go.Proofs.Ytnlbgjghckbbcaa.BagLaw
set_option maxRecDepth 100000 in
set_option maxHeartbeats 8000000 in
theorem walk (a0 : Int) (a1 : Option Addr) (len1 cap1 : Nat) (w : World) (w0 : (Lit.int .u8 a0).wf = true) (w1 : Recs w [.int .u8, .int .u8, .int .u8, .int .u8] a1 len1) (r1 : len1 ≤ 140737488351232) :
    Calls Try.prog 5 #[.int .u8 a0, .slice a1 len1 cap1] w fun e w' => e = .returned (.bool true) ∧ Below w.heap.size w w' := by
  have hb := Below.refl w.heap.size w
  obtain ⟨z0, z1⟩ := wf_u8 w0
  obtain ⟨q, hq, eq4⟩ := mod_is (N := 4) z0 (by decide)
  have eq5 : a0.tmod 4 = (q : Int) := eq4
  obtain ⟨N, hN⟩ : ∃ N, N = q + 1 := ⟨_, rfl⟩
  have n1 : IntKind.i64.wrap a0 = a0 := by rw [IntKind.wrap_i64]; omega
  have n2 : IntKind.i64.wrap (q : Int) = (q : Int) := by rw [IntKind.wrap_i64]; omega
  have n3 : IntKind.i64.wrap (1 + (q : Int)) = (N : Int) := by rw [IntKind.wrap_i64]; omega
  have hmk : ∀ W, (Instr.makeSlice 48 (.int .i64 (N : Int)) (.int .i64 (N : Int))).run Try.prog W = .ok (.slice (some ⟨W.heap.size, 0, none⟩) N N) (W.alloc (.cells (repZ N) 56)) := fun W => make_reps N (by omega) W
  have HD := Lib.hid w1
  have HN : Hid (1 ≤ N ∧ N ≤ 4) := Lib.hid (by omega)
  clear w0 w1 hN
  go_enter Try.func5, Try.ntmps5
  by_cases hl : 60 < len1
  · have d0 : decide ((60 : Int) < (len1 : Int)) = true := decide_eq_true (by omega)
    clear hl hmk n1 n2 n3
    go_wp2_with fail
    refine (alive_any _).mono ?_
    rintro e v1 ⟨rfl, k1⟩
    replace hb := bstep hb k1
    clear k1
    go_wp2
    go_ret
    exact ⟨rfl, hb⟩
  have d0 : decide ((60 : Int) < (len1 : Int)) = false := decide_eq_false (by omega)
  have HLN : Hid (len1 ≤ 60) := Lib.hid (by omega)
  clear hl
  go_upto_region 4 with (fail)
  have hb1 := balloc hb (.cells (repZ N) 56)
  have P0 := Lib.hid (play_start N HN.out.2 w)
  obtain ⟨wa, hwa⟩ : ∃ v, v = w.alloc (.cells (repZ N) 56) := ⟨_, rfl⟩
  rw [← hwa] at hb1 P0 ⊢
  obtain ⟨rb, hrb⟩ : ∃ b, b = w.heap.size := ⟨_, rfl⟩
  rw [show Play none wa w.heap.size w.heap.size = Play none wa w.heap.size rb by rw [← hrb]] at P0
  try rw [← hrb]
  have HR0 := Lib.hid (Rel.start N (by have := HN.out.2; omega))
  clear hwa hmk n1 n2 n3 eq5 eq4 hb hrb z0 z1 hq
  go_wp2_with fail
  go_loopw [6, 7] (fun av iv wr => ∃ (i : Nat) (aa : Option Addr) (ac : Nat) (Ls : List Rp) (Es : List Er) (es : List Ev) (K : Nat → List Bool) (v : Nat → Nat → Nat), i ≤ len1 ∧ iv = .int .i64 i ∧ av = .slice aa Es.length ac ∧ Hid (Play none wr w.heap.size rb (.slice aa Es.length ac) Ls Es) ∧ Hid (Rel N Ls Es es K v) ∧ Hid (es.length ≤ i) ∧ Below w.heap.size w wr) (fun _ iv _ => len1 - (intOf iv).toNat)
  case atStart => exact ⟨0, none, 0, _, [], [], _, _, by omega, rfl, rfl, P0, HR0, Lib.hid (Nat.le_refl _), hb1⟩
  case round =>
    clear P0 HR0 hb1
    obtain ⟨i, aa, ac, Ls, Es, es, K, v, hi, rfl, rfl, PL, HR, HE, hb⟩ := hrel
    have hl60 := HLN.out
    by_cases hlt : i < len1
    rotate_left
    · have hin : len1 = i := by omega
      subst hin
      have d1 : decide ((len1 : Int) < (len1 : Int)) = false := decide_eq_false (by omega)
      clear PL HR HE
      go_wp2_with fail
      refine (alive_any _).mono ?_
      rintro e v2 ⟨rfl, k2⟩
      replace hb := bstep hb k2
      clear k2
      go_wp2
      go_ret
      exact ⟨rfl, hb⟩
    have d1 : decide ((i : Int) < (len1 : Int)) = true := decide_eq_true (by omega)
    have i1 : (0 : Int) ≤ (i : Int) := by omega
    have i2 : (i : Int) < (len1 : Int) := by omega
    obtain ⟨b, off, rfl, hbl, hdc⟩ := deed_at HD.out (by omega)
    obtain ⟨d, n, tx, ot, bd, bn, bt, bo, c0, c1, c2, c3⟩ := hdc i hlt
    replace c0 := Dots.keepC c0 hb
    replace c1 := Dots.keepC c1 hb
    replace c2 := Dots.keepC c2 hb
    replace c3 := Dots.keepC c3 hb
    have DO := Lib.hid (does_any N w.heap.size rb Ls Es es K v aa ac d n tx ot wr bd bn bt bo PL.out HR.out HN.out (by have := HE.out; omega) hb.size)
    have HI := Lib.hid hlt
    have HEI := HE
    clear hdc hbl bd bn bt bo PL HR HE hlt
    go_wp2_with fail
    refine DO.out.mono ?_
    rintro e vd ⟨aa2, ac2, Ls2, Es2, es2, K2, v2, rfl, hP, hR, hes, kd⟩
    have PL := Lib.hid hP
    have HR := Lib.hid hR
    have HE2 : Hid (es2.length ≤ i + 1) := Lib.hid (by have := HEI.out; omega)
    have hbd := hb.trans kd
    have h0 := Below.refl vd.heap.size vd
    have HLL : Hid (Ls2.length = N) := Lib.hid hR.len
    obtain ⟨en, hen⟩ : ∃ m, m = Es2.length := ⟨_, rfl⟩
    have HEN := Lib.hid hen
    rw [← hen] at PL ⊢
    clear hP hR hes kd DO c0 c1 c2 c3 HEI hb hen
    go_wp2_with fail
    go_loopw [10] (fun kv wk => ∃ k : Nat, k ≤ N ∧ kv = .int .i64 k ∧ Below vd.heap.size vd wk) (fun kv _ => N - (intOf kv).toNat)
    case atStart => exact ⟨0, by omega, rfl, h0⟩
    case round =>
      clear h0
      obtain ⟨k, hk, rfl, hbk⟩ := hrel
      have hn4 := HN.out.2
      by_cases hkn : k < N
      rotate_left
      · have hkk : N = k := by omega
        subst hkk
        have d2 : decide ((N : Int) < (N : Int)) = false := decide_eq_false (by omega)
        have hbw := hbd.trans (hbk.mono hbd.size)
        have PE := Lib.hid (PL.out.below hbk)
        have hjw := HI.out
        go_wp2
        go_roundw
        case rel => exact ⟨i + 1, aa2, ac2, Ls2, Es2, es2, K2, v2, by omega, by go_num, by rw [← HEN.out], by rw [← HEN.out]; exact PE, HR, HE2, hbw⟩
        case measure => simp [intOf]; omega
      have d2 : decide ((k : Int) < (N : Int)) = true := decide_eq_true (by omega)
      have k1 : (0 : Int) ≤ (k : Int) := by omega
      have k2 : (k : Int) < (N : Int) := by omega
      have hkl : k < Ls2.length := by rw [HLL.out]; exact hkn
      have he100 : es2.length ≤ 100 := by have := HE2.out; omega
      have hsz := HR.out.sizes hkl he100
      have htx := HR.out.texts hkl
      have hmay := HR.out.may hkl he100
      have hpc := (PL.out.below hbk).cells hkl
      have TX := Lib.hid (fun W (hp : Play none W w.heap.size rb (.slice aa2 en ac2) Ls2 Es2) => texts_any Ls2[k].R Ls2[k].la Ls2[k].R.length Ls2[k].lc W (hp.bag _ (List.getElem_mem hkl)).lies hsz.1 Ls2[k].R (IsBag.self (HR.out.bag k hkl).1))
      have MY := Lib.hid (fun W (hp : Play none W w.heap.size rb (.slice aa2 en ac2) Ls2 Es2) => may_any Ls2[k].R Ls2[k].la Ls2[k].R.length Ls2[k].lc W (hp.bag _ (List.getElem_mem hkl)).lies hsz.1)
      have MO := Lib.hid (fun W (hp : Play none W w.heap.size rb (.slice aa2 en ac2) Ls2 Es2) (bt : UInt8) => model_is (by rw [HEN.out] at hp; exact hp) HR.out hkl he100 bt)
      rw [hmay] at MY
      have hkL : Ls2[k].K.length = en := by rw [HEN.out, HR.out.evl]; exact hsz.2.2.2.2.2
      unfold Rp.lv Rp.kv at hpc
      rw [hkL] at hpc
      rw [← HEN.out] at MO
      have HRL : Hid (Ls2[k].R.length ≤ 100) := Lib.hid hsz.2.2.1
      obtain ⟨X, hX⟩ : ∃ X, X = Ls2[k] := ⟨_, rfl⟩
      rw [← hX] at hpc TX MY MO htx HRL
      obtain ⟨T, hT⟩ : ∃ T, T = X.R.map It.t := ⟨_, rfl⟩
      have HTL : Hid (X.R.length = T.length) := Lib.hid (by rw [hT, List.length_map])
      rw [← hT] at TX MO htx
      have HTX := Lib.hid htx
      obtain ⟨c0, -, c2⟩ := hpc
      have HKN := Lib.hid hkn
      have PK := Lib.hid (PL.out.below hbk)
      clear hsz htx hmay hkL hX hT hkl hkn
      go_wp2_with fail
      refine (TX.out _ PK.out).mono ?_
      rintro e vt ⟨xa, xc, rfl, lX, kt⟩
      have hbt := hbk.trans (kt.mono hbk.size)
      have PT := Lib.hid (PK.out.below kt)
      replace c0 := Dots.keepC c0 kt
      replace c2 := Dots.keepC c2 kt
      have HW := Lib.hid lX
      have C0 := Lib.hid c0
      have C2 := Lib.hid c2
      have ht0 := Below.refl vt.heap.size vt
      have HC0 : Hid (0 = cnt (fun t => decide (t ∈ T)) 0) := Lib.hid rfl
      have HT3 : Hid (T.length ≤ 3) := Lib.hid (by
        have h9 := HTX.out
        have h8 : (three.filter (fun t => decide (t ∈ T))).length ≤ three.length := List.length_filter_le _ _
        rw [← h9] at h8; exact h8)
      obtain ⟨rn, hrn⟩ : ∃ m, m = X.R.length := ⟨_, rfl⟩
      have HRN := Lib.hid hrn
      rw [← hrn] at HW C0 ⊢
      clear c0 c2 lX kt PK hrn
      go_wp2_with fail
      go_loopw [12, 13] (fun nv tv wk => ∃ (t m : Nat), t ≤ 3 ∧ tv = .int .i64 t ∧ nv = .int .i64 m ∧ Hid (m = cnt (fun t => decide (t ∈ T)) t) ∧ Below vt.heap.size vt wk) (fun _ tv _ => 3 - (intOf tv).toNat)
      case atStart => exact ⟨0, 0, by omega, rfl, rfl, HC0, ht0⟩
      case round =>
        clear HC0 ht0
        obtain ⟨t, m, ht, rfl, rfl, HM, hbm⟩ := hrel
        have hbv := hbt.trans (hbm.mono hbt.size)
        by_cases ht3 : t < 3
        rotate_left
        · have htt : t = 3 := by omega
          subst htt
          have hmr : m = rn := by
            have h9 := HM.out
            rw [cnt_all, ← HTX.out, ← HTL.out, ← HRN.out] at h9
            exact h9
          subst hmr
          have d3 : decide ((3 : Int) < (3 : Int)) = false := by decide
          have c0 := Dots.keepC C0.out hbm
          have PM := Lib.hid (PT.out.below hbm)
          have q1 : ((m : Int) != (m : Int)) = false := by simp
          have MY1 := Lib.hid (MY.out _ PM.out)
          rw [← HRN.out] at MY1
          go_wp2_with fail
          refine MY1.out.mono ?_
          rintro e vm ⟨rfl, km⟩
          have hbz := hbv.trans (km.mono hbv.size)
          have hjw := HKN.out
          go_wp2
          go_roundw
          case rel => exact ⟨k + 1, by omega, by go_num, hbz⟩
          case measure => simp [intOf]; omega
        have d3 : decide ((t : Int) < (3 : Int)) = true := decide_eq_true (by omega)
        obtain ⟨bt, hbt2⟩ : ∃ b : UInt8, ((97 + t : Nat) : Int) = (b.toNat : Int) := ⟨UInt8.ofNat (97 + t), by rw [UInt8.toNat_ofNat']; omega⟩
        have h3l : t < three.length := ht3
        have hbth : [bt] = three[t] := by
          have key : ∀ n, bt.toNat = n → bt = UInt8.ofNat n := fun n h => by rw [← h, UInt8.ofNat_toNat]
          have h3 : t = 0 ∨ t = 1 ∨ t = 2 := by omega
          rcases h3 with h | h | h <;> subst h
          · rw [key 97 (by omega)]; rfl
          · rw [key 98 (by omega)]; rfl
          · rw [key 99 (by omega)]; rfl
        have u1 : IntKind.i64.wrap (97 + (t : Int)) = 97 + (t : Int) := by rw [IntKind.wrap_i64]; omega
        have u2 : IntKind.u8.wrap (97 + (t : Int)) = 97 + (t : Int) := by rw [IntKind.wrap_u8]; omega
        have cv := Conv.conv1 (97 + (t : Int)) bt (by rw [← hbt2]; push_cast; rfl) wr wr.heap.size rfl
        have HST := Lib.hid (cnt_step (fun t => decide (t ∈ T)) h3l)
        have HAT := Lib.hid (cnt_at (fun t => decide (t ∈ T)) h3l)
        rw [← hbth] at HST HAT
        have HTT := Lib.hid ht3
        clear hbth hbt2
        go_upto_region 21 with (fail)
        have kb := balloc hbm (.cells #[.int .u8 (97 + (t : Int))] 5)
        obtain ⟨wb, hwb⟩ : ∃ x, x = wr.alloc (.cells #[.int .u8 (97 + (t : Int))] 5) := ⟨_, rfl⟩
        rw [← hwb] at kb ⊢
        have c2 := Dots.keepC C2.out kb
        have PM := Lib.hid (PT.out.below kb)
        clear hwb cv u1 u2 hbm hbv
        go_wp2_with fail
        refine (MO.out _ PM.out bt).mono ?_
        rintro e vm ⟨rfl, km⟩
        have hbm2 := kb.trans (km.mono kb.size)
        clear km kb PM c2
        by_cases hin : [bt] ∈ T
        · have q1 : decide ([bt] ∈ T) = true := decide_eq_true hin
          obtain ⟨hml, hma⟩ := HAT.out q1
          have HS1 : Hid (m + 1 = cnt (fun t => decide (t ∈ T)) (t + 1)) := Lib.hid (by rw [HST.out, if_pos q1, ← HM.out])
          have hmn : m < T.length := by
            rw [← HM.out, ← HTX.out] at hml; exact hml
          have hmr : m < rn := by rw [HRN.out, HTL.out]; exact hmn
          obtain ⟨wb2, wo2, rfl, hwc⟩ := Words.words_at (Row.Lies.below HW.out hbm2) (by omega)
          have w0 := hwc m hmn
          have hTm : T[m] = [bt] := by
            have h9 := HTX.out
            have h8 := HM.out
            have h7 : T[m]? = some [bt] := by
              rw [h9, h8, List.getElem?_eq_getElem hml, hma]
            rw [List.getElem?_eq_getElem hmn] at h7
            exact Option.some.inj h7
          rw [hTm] at w0
          have e1 : decide ((rn : Int) ≤ (m : Int)) = false := decide_eq_false (by omega)
          have e2 : decide ((m : Int) ≥ (rn : Int)) = false := decide_eq_false (by omega)
          have m1 : (0 : Int) ≤ (m : Int) := by omega
          have m2 : (m : Int) < (rn : Int) := by omega
          have hm3 : m ≤ 3 := by have := HT3.out; omega
          rw [q1]
          clear hin hml hma hwc hTm hmn
          go_wp2
          go_roundw
          case rel => exact ⟨t + 1, m + 1, by have := HTT.out; omega, by go_num, by go_num, HS1, hbm2⟩
          case measure => have := HTT.out; simp [intOf]; omega
        · have q1 : decide ([bt] ∈ T) = false := decide_eq_false hin
          have HS1 : Hid (m = cnt (fun t => decide (t ∈ T)) (t + 1)) := Lib.hid (by rw [HST.out, if_neg (by rw [q1]; decide), ← HM.out]; rfl)
          rw [q1]
          clear hin
          go_wp2
          go_roundw
          case rel => exact ⟨t + 1, m, by have := HTT.out; omega, by go_num, rfl, HS1, hbm2⟩
          case measure => have := HTT.out; simp [intOf]; omega
end BagModel
end Go.Proofs.Ytnlbgjghckbbcaa
