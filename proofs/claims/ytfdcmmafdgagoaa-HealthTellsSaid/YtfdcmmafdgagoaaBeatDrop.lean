/- health.Drop. -/
import Derived.Test.YtfdcmmafdgagoaaBeatRefJoin
import Derived.Test.YtfdcmmafdgagoaaTextSet
namespace Go.Proofs.Ytfdcmmafdgagoaa
namespace Beat
open Go.RowKit Go.Proofs.Ytfdcmmafdgagoaa.Order
/-- Beats without those of some members. -/
def dropL (L : List B) (ps : List (List UInt8)) : List B := L.filter (fun x => !ps.contains x.p)
def dropB (L : List B) (ps : List (List UInt8)) : List B := if mayB L && ps.all pathB then dropL L ps else []
theorem dropL_step (L : List B) (ps : List (List UInt8)) (k : Nat) (h : k < L.length) : dropL (L.take (k + 1)) ps = dropL (L.take k) ps ++ (if ps.contains L[k].p then [] else [L[k]]) := by
  unfold dropL
  rw [← List.take_append_getElem h, List.filter_append]
  cases hb : ps.contains L[k].p
  · rw [List.filter_cons_of_pos (by rw [hb]; rfl)]; simp
  · rw [List.filter_cons_of_neg (by rw [hb]; decide)]; simp
theorem dropL_length (L : List B) (ps : List (List UInt8)) : (dropL L ps).length ≤ L.length := List.length_filter_le _ _
theorem all_false {ps : List (List UInt8)} {k : Nat} (h : k < ps.length) (hb : pathB ps[k] = false) : ps.all pathB = false := by
  rw [List.all_eq_false]
  exact ⟨ps[k], List.getElem_mem h, by rw [hb]; exact Bool.false_ne_true⟩
theorem all_step {ps : List (List UInt8)} {k : Nat} (h : k < ps.length) (hb : pathB ps[k] = true) (hk : (ps.take k).all pathB = true) : (ps.take (k + 1)).all pathB = true := by
  rw [← List.take_append_getElem h, List.all_append, hk]
  simp [hb]
theorem contains_def (ps : List (List UInt8)) (q : List UInt8) : ∃ b, ps.contains q = b := ⟨_, rfl⟩
theorem zero_unit (w : World) : (zeroValue 47).run Try.prog w = .ok (.agg #[]) w := by kernel_rfl
abbrev IsSet := TextSet.Is Try.prog 9
theorem words_at {w : World} {n : Nat} {L : List (List UInt8)} {a : Option Addr} (h : Words.Lies w a n L) (hn : 0 < n) : ∃ b off, a = some ⟨b, off, none⟩ ∧ ∀ j (hj : j < L.length), w.cell? ⟨b, off + j, none⟩ = some (.string ⟨(L[j]).toArray⟩) := by
  obtain ⟨b, off, e, hc⟩ := h.2 hn
  exact ⟨b, off, e, fun j hj => by have := hc j hj 0 _ rfl; simpa [Words.enc] using this⟩
set_option maxRecDepth 100000 in
set_option maxHeartbeats 8000000 in
theorem drop_any (L : List B) (ps : List (List UInt8)) (a a2 : Option Addr) (c c2 : Nat) (w : World) (hL : Lies w a L.length L) (hP : Words.Lies w a2 ps.length ps) (hW : Small L) (hV : ∀ p ∈ ps, p.length ≤ 1099511627776) (hn : ps.length ≤ 1099511627776) :
    Calls Try.prog 15 #[.slice a L.length c, .slice a2 ps.length c2] w fun e w' => ∃ v', e = .returned v' ∧ Mine w' w.heap.size v' (dropB L ps) ∧ Below w.heap.size w w' := by
  have hb := Below.refl w.heap.size w
  have HL := Lib.hid hL
  have HP := Lib.hid hP
  have C1 := Lib.hid (fun w h => may_any L a c w h hW)
  have C2 := Lib.hid (fun (p : List UInt8) (hp : p ∈ ps) w => Path.may_any p w (hV p hp))
  have HO : Hid (dropB L ps = if mayB L && ps.all pathB then dropL L ps else []) := Lib.hid rfl
  have hmm := @TextSet.run_make Try.prog _ _ _ Try.underlying46
  have HV := Lib.hid hV
  clear hL hP hV
  cases h1 : mayB L
  · have hm := h1
    have H2 : Hid (dropB L ps = []) := Lib.hid (by rw [HO.out, h1]; rfl)
    clear h1
    go_enter Try.func15, Try.ntmps15
    go_wp2_with fail
    refine (C1.out _ (HL.out.below hb)).mono ?_
    rintro e v1 ⟨rfl, k1⟩
    replace hb := bstep hb k1
    clear k1
    rw [hm]
    go_wp2
    go_ret
    exact ⟨_, rfl, by rw [H2.out]; exact Row.Own.nil _ _, hb⟩
  have hm := h1
  have F1 := (may_facts h1).1
  have HO : Hid (dropB L ps = if ps.all pathB then dropL L ps else []) := Lib.hid (by rw [HO.out, h1]; rfl)
  clear h1
  obtain ⟨i0, hi, hz0, hz1, hz2⟩ := info_parts info_beat
  obtain ⟨n1, hn1⟩ : ∃ n, n = L.length := ⟨_, rfl⟩
  obtain ⟨n2, hn2⟩ : ∃ n, n = ps.length := ⟨_, rfl⟩
  have C1 := C1
  rw [← hn1] at HL C1 F1 ⊢
  rw [← hn2] at HP hn ⊢
  have HN := Lib.hid (And.intro hn1 hn2)
  have HB0 := Lib.hid (And.intro hn F1)
  clear hn1 hn2 hn F1
  go_enter Try.func15, Try.ntmps15
  go_wp2_with fail
  refine (C1.out _ (HL.out.below hb)).mono ?_
  rintro e v1 ⟨rfl, k1⟩
  replace hb := bstep hb k1
  have k1s := hb.size
  clear k1
  rw [hm]
  go_wp2_with fail
  have hs := TextSet.Is.made (P := Try.prog) (ks := 9) v1
  replace hb := balloc hb (.map #[] 0)
  generalize hg0 : v1.heap.size = g at *
  have HG : Hid (w.heap.size ≤ g) := Lib.hid (by have := k1s; omega)
  generalize hw0 : v1.alloc _ = w0 at *
  clear hw0 hg0 k1s
  go_loopw [21] (fun iv wr => ∃ k : Nat, k ≤ n2 ∧ iv = .int .i64 k ∧ Hid (IsSet wr g k (ps.take k)) ∧ Hid ((ps.take k).all pathB = true) ∧ Below w.heap.size w wr) (fun iv _ => n2 - (intOf iv).toNat)
  case atStart => exact ⟨0, by omega, rfl, Lib.hid hs, Lib.hid rfl, hb⟩
  case round =>
    clear hb hs
    obtain ⟨k, hk, rfl, S, HA, hb⟩ := hrel
    have hbn := HB0.out.1
    by_cases hlt : k < n2
    · obtain ⟨b, o, rfl, hcell⟩ := words_at (HP.out.below hb) (by omega)
      have hll : k < ps.length := by have := HN.out; omega
      have c1 := hcell k hll
      have d1 : decide ((k : Int) < (n2 : Int)) = true := decide_eq_true (by omega)
      have j1 : (0 : Int) ≤ (k : Int) := by omega
      have j2 : (k : Int) < (n2 : Int) := by omega
      have CP := Lib.hid (C2.out ps[k] (List.getElem_mem hll))
      have HL2 : Hid (ps[k].length ≤ maxLen) := Lib.hid (Nat.le_trans (HV.out _ (List.getElem_mem hll)) (by decide))
      have HT : Hid (ps.take (k + 1) = ps.take k ++ [ps[k]]) := Lib.hid (by rw [List.take_append_getElem hll])
      cases e1 : pathB ps[k]
      · have H2 : Hid (dropB L ps = []) := Lib.hid (by rw [HO.out, all_false hll e1]; rfl)
        have e2 : decide (0 < (Path.parse ps[k]).length) = false := e1
        have HE := Lib.hid e2
        generalize ps[k] = q at *
        clear e1 e2 hcell hll hlt
        go_wp2_with fail
        refine (CP.out _).mono ?_
        rintro e v2 ⟨rfl, k2⟩
        replace hb := bstep hb k2
        clear k2
        rw [HE.out]
        go_wp2
        go_ret
        exact ⟨_, rfl, by rw [H2.out]; exact Row.Own.nil _ _, hb⟩
      · have HA2 := Lib.hid (all_step hll e1 HA.out)
        have e2 : decide (0 < (Path.parse ps[k]).length) = true := e1
        have HE := Lib.hid e2
        generalize ps[k] = q at *
        have HK := Lib.hid (And.intro hlt HB0.out.1)
        clear e1 e2 hcell hll hlt
        go_wp2_with fail
        refine (CP.out _).mono ?_
        rintro e v2 ⟨rfl, k2⟩
        replace S := Lib.hid (S.out.below k2)
        replace hb := bstep hb k2
        clear k2
        rw [HE.out]
        go_wp2_with (at_mapUpdate; refine TextSet.wpList_put Try.underlying46 Try.underlying9 rfl _ _ _ rfl g k (ps.take k) q rfl S.out (by have := HK.out; unfold maxLen; omega) rfl HL2.out rfl ?_; intro w3 S3 k3)
        go_roundw
        case rel => exact ⟨k + 1, by have := HK.out; omega, by go_num, Lib.hid (by rw [HT.out]; exact S3), HA2, Below.grown hb k3 hb.size (fun j hj => by cases hj; exact HG.out)⟩
        case measure => have := HK.out; simp [intOf]; omega
    · obtain rfl : k = n2 := by omega
      have d1 : decide ((k : Int) < (k : Int)) = false := decide_eq_false (by omega)
      have HT : Hid (ps.take k = ps) := Lib.hid (List.take_of_length_le (by have := HN.out; omega))
      replace S : Hid (IsSet wr g k ps) := Lib.hid (by have := S.out; rw [HT.out] at this; exact this)
      have HV2 : Hid (dropB L ps = dropL L ps) := Lib.hid (by have := HA.out; rw [HT.out] at this; rw [HO.out, this]; rfl)
      clear HA HT hk hlt
      obtain ⟨wo, hwo⟩ : ∃ wo : World, wo = wr := ⟨_, rfl⟩
      rw [← hwo] at S hb ⊢
      clear hwo wr
      have HB := Lib.hid hb
      have HBS := Lib.hid hb.size
      clear hb
      go_wp2_with (at_make; refine wpList_make_own _ rfl _ _ 22 rfl wo.heap.size 28 i0 (.agg #[.string ⟨#[]⟩, .int .u64 0, .bool false]) 3 Try.underlying22 hi hz0 hz1 _ _ _ n1 rfl rfl (by omega) (by rw [hz2]; have := HB0.out; omega) (by have := HB0.out; unfold maxLen; omega) (Nat.le_refl _) ?_; intro wm hrow hgm; have KM := Lib.hid (Below.grown HB.out hgm HBS.out (fun k hk => by cases hk)); have RO := Lib.hid hrow; have SM := Lib.hid (S.out.kept hgm (by simp)))
      have HGL := Lib.hid S.out.lt
      have HF := Lib.hid hi
      have HSZ := Lib.hid hgm.size
      clear hgm hrow hi hz0 hz1 hz2 d1 S HB hbn
      have hf1 := HB0.out.2
      go_loopw [8, 37] (fun lv iv wr => ∃ j : Nat, j ≤ n1 ∧ iv = .int .i64 j ∧ Hid (Mine wr wo.heap.size lv (dropL (L.take j) ps)) ∧ Hid (IsSet wr g k ps) ∧ Hid (wo.heap.size ≤ wr.heap.size) ∧ Below w.heap.size w wr) (fun _ iv _ => n1 - (intOf iv).toNat)
      case atStart => exact ⟨0, by omega, rfl, Lib.hid RO.out, SM, HSZ, KM.out⟩
      case round =>
        clear RO SM KM
        obtain ⟨j, hj, rfl, oO, S, HWR, hb⟩ := hrel
        by_cases hlt : j < n1
        · obtain ⟨b, o, rfl, hcell⟩ := lies_at (HL.out.below hb) (by omega)
          have hll : j < L.length := by have := HN.out; omega
          obtain ⟨c1, c2, c3⟩ := hcell j hll
          have HS := dropL_step L ps j hll
          have HNL := dropL_length (L.take j) ps
          rw [List.length_take] at HNL
          have HQ := Lib.hid (hW _ (List.getElem_mem hll))
          obtain ⟨m, hm'⟩ : ∃ m, m = L[j] := ⟨_, rfl⟩
          rw [← hm'] at c1 c2 c3 HS HQ
          have d1 : decide ((j : Int) < (n1 : Int)) = true := decide_eq_true (by omega)
          have j1 : (0 : Int) ≤ (j : Int) := by omega
          have j2 : (j : Int) < (n1 : Int) := by omega
          have HNL := Lib.hid HNL
          have HK := Lib.hid (And.intro hlt hf1)
          obtain ⟨ok, hok⟩ := contains_def ps m.p
          have HOK := Lib.hid hok
          rw [hok] at HS
          have hwl := Lib.hid (oO.out.lt)
          have HWO : Hid (wo.heap.size ≤ wr.heap.size) := HWR
          clear hcell hm' hlt hll hok
          cases ok
          · have HS := Lib.hid HS
            go_wp2_with (first | (at_lookup; refine TextSet.wpList_has Try.underlying46 Try.underlying9 zero_unit rfl _ _ rfl g k ps m.p rfl (S.out.alloc _) rfl (by have := HQ.out; unfold maxLen; omega) false HOK.out ?_) | (at_builtin; refine Row.wpList_app typ rfl _ _ rfl wo.heap.size _ _ rfl (((oO.out.alloc _).alloc _).alloc _) _ 1 1 [m] rfl (Row.lies_new' _ m _ (by simp only [World.size_alloc])) (by have := HNL.out; have := HK.out; omega) (by have := hb.size; have := HWO.out; simp only [World.size_alloc]; omega) ?_; intro v9 w9 o9 g9 k9))
            go_roundw
            case rel => exact ⟨j + 1, by have := HK.out; omega, by go_num, Lib.hid (by rw [HS.out]; exact o9), Lib.hid ((((S.out.alloc _).alloc _).alloc _).kept g9 (fun e => by have h1 := oO.out.lt g e.symm; have := HGL.out; omega)), Lib.hid (by have h1 := g9.size; have := HWO.out; simp only [World.size_alloc] at h1; omega), (balloc (balloc (balloc hb _) _) _).trans (k9.mono HBS.out)⟩
            case measure => have := HK.out; simp [intOf]; omega
          · have HS := Lib.hid HS
            go_wp2_with (at_lookup; refine TextSet.wpList_has Try.underlying46 Try.underlying9 zero_unit rfl _ _ rfl g k ps m.p rfl (S.out.alloc _) rfl (by have := HQ.out; unfold maxLen; omega) true HOK.out ?_)
            go_roundw
            case rel => exact ⟨j + 1, by have := HK.out; omega, by go_num, Lib.hid (by rw [HS.out]; simpa using (oO.out.alloc _).alloc _), Lib.hid ((S.out.alloc _).alloc _), Lib.hid (by have := HWO.out; simp only [World.size_alloc]; omega), balloc (balloc hb _) _⟩
            case measure => have := HK.out; simp [intOf]; omega
        · obtain rfl : j = n1 := by omega
          have d1 : decide ((j : Int) < (j : Int)) = false := decide_eq_false (by omega)
          have HT : Hid (L.take j = L) := Lib.hid (List.take_of_length_le (by have := HN.out; omega))
          go_wp2
          go_ret
          exact ⟨_, rfl, by have h := oO.out; rw [HT.out] at h; rw [HV2.out]; exact h.base HBS.out, hb⟩
end Beat
end Go.Proofs.Ytfdcmmafdgagoaa
