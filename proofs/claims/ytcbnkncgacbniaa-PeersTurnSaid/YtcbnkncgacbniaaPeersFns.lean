/- peers: Known, Next, Set. -/
import Derived.Test.YtcbnkncgacbniaaPeersAll
import Derived.Test.YtcbnkncgacbniaaDotTidy
import Derived.Lib.SmallJoins
import Derived.WalkMore
import Derived.Laws.Cover1
namespace Go.Proofs.Ytcbnkncgacbniaa
namespace Peers
open Go.RowKit Go.Proofs.Ytcbnkncgacbniaa.Mark
theorem zero_marks (w : World) : (zeroValue 25).run Try.prog w = .ok (.slice none 0 0) w := by kernel_rfl
abbrev und := Try.underlying56
/-- An answer that is a slice: these marks. -/
def GotM (R : List M) (w : World) (e : Ending) (w' : World) : Prop := ∃ a c, e = .returned (.slice a R.length c) ∧ Mark.Lies w' a R.length R ∧ (∀ x, a = some x → w.heap.size ≤ x.block) ∧ Below w.heap.size w w'
set_option maxRecDepth 100000 in
theorem known_any (q : List UInt8) (hq : q.length ≤ 1099511627776) (w : World) (pb mb : Nat) (T : List (List UInt8)) (V : List UInt8 → List M) (last : List UInt8) (h : Is w pb mb T V last) (hV : (val T V q).length ≤ 1099511627776) :
    Calls Try.prog 11 #[.pointer (some ⟨pb, 0, none⟩), .string ⟨q.toArray⟩] w (GotM (val T V q) w) := by
  obtain ⟨c0, c1, fz⟩ := h.cells
  have TH := Lib.hid (there_any w pb mb T V last h)
  obtain ⟨f, hm, -, a, c, hv, hl, -⟩ := h.look q
  have HM := Lib.hid hm
  have HV := Lib.hid hv
  have CL := Lib.hid (Mark.clone_any (val T V q) a _ c w hl hV)
  have HQ := Lib.hid hq
  clear h hm hv hl hq hV
  obtain ⟨R, hR⟩ : ∃ R, R = val T V q := ⟨_, rfl⟩
  rw [← hR] at HV CL ⊢
  clear hR
  go_enter Try.func11, Try.ntmps11
  go_wp2_with fail
  refine TH.out.mono ?_
  rintro e w1 ⟨rfl, rfl⟩
  go_wp2_with (at_lookup; refine TextMap.wpList_look und Try.underlying9 (zero_marks _) rfl _ _ rfl mb _ f q rfl HM.out rfl (by have := HQ.out; unfold maxLen; omega) _ HV.out ?_)
  go_wp2_with fail
  refine CL.out.mono ?_
  rintro e w2 ⟨v, rfl, ho, k2⟩
  go_wp2
  go_ret
  obtain ⟨a', c', rfl, -, -, h3, h4⟩ := ho.lies
  exact ⟨a', c', rfl, h3, h4, k2⟩
set_option maxRecDepth 100000 in
theorem known_nil (q : List UInt8) (w : World) : Calls Try.prog 11 #[.pointer none, .string ⟨q.toArray⟩] w fun e w' => e = .returned (.slice none 0 0) ∧ w = w' := by
  go_enter Try.func11, Try.ntmps11
  go_wp2_with fail
  refine (there_nil _).mono ?_
  rintro e w1 ⟨rfl, rfl⟩
  go_wp2
  go_ret
  exact ⟨rfl, rfl⟩
/-- A cell of the struct is set: who was told last. -/
theorem Is.told {w : World} {pb mb : Nat} {T : List (List UInt8)} {V : List UInt8 → List M} {last : List UInt8} (h : Is w pb mb T V last) (x : List UInt8) : Is (w.setCell ⟨pb, 1, none⟩ (.string ⟨x.toArray⟩)) pb mb T V x ∧ ∀ c, Save pb c w (w.setCell ⟨pb, 1, none⟩ (.string ⟨x.toArray⟩)) := by
  have k : ∀ c, Save pb c w (w.setCell ⟨pb, 1, none⟩ (.string ⟨x.toArray⟩)) := fun c => Save.set1 (p := ⟨pb, 1, none⟩) rfl _
  obtain ⟨f, hm, h1, h2⟩ := h.map
  have hne := h.ne
  refine ⟨⟨?_, ⟨f, hm.moved ?_, h1, fun q v e => (h2 q v e).save (k mb) hm.isMap⟩, h.up, h.small⟩, k⟩
  · exact Joins.block_setCell (i := 1) h.box (.string ⟨x.toArray⟩)
  · exact Below.heap_setCell _ _ _ _ (fun e => hne e.symm)
set_option maxRecDepth 100000 in
set_option maxHeartbeats 4000000 in
/-- Next, of nobody. -/
theorem next_none (w : World) (pb mb : Nat) (V : List UInt8 → List M) (last : List UInt8) (h : Is w pb mb [] V last) :
    Calls Try.prog 17 #[.pointer (some ⟨pb, 0, none⟩)] w fun e w' => e = .returned (.tuple #[.string ⟨#[]⟩, .bool false]) ∧ Below w.heap.size w w' := by
  have AL := Lib.hid (all_any w pb mb [] V last h)
  clear h
  go_enter Try.func17, Try.ntmps17
  go_wp2_with fail
  go_step3
  go_wp2_with fail
  refine AL.out.mono ?_
  rintro e w1 ⟨v, rfl, o1, k1⟩
  obtain ⟨a, c, rfl, -, -, -, -⟩ := Row.Own.lies o1
  go_wp2
  rw [Exit.noGoto_ret]
  go_ret2
  exact ⟨rfl, k1⟩
set_option maxRecDepth 100000 in
theorem next_nil (w : World) : Calls Try.prog 17 #[.pointer none] w fun e w' => e = .returned (.tuple #[.string ⟨#[]⟩, .bool false]) ∧ w = w' := by
  go_enter Try.func17, Try.ntmps17
  go_wp2_with fail
  go_step3
  go_wp2_with fail
  refine (all_nil _).mono ?_
  rintro e w1 ⟨rfl, rfl⟩
  go_wp2
  rw [Exit.noGoto_ret]
  go_ret2
  exact ⟨rfl, rfl⟩
set_option maxRecDepth 100000 in
set_option maxHeartbeats 8000000 in
theorem next_any (w : World) (pb mb : Nat) (T : List (List UInt8)) (V : List UInt8 → List M) (last : List UInt8) (h : Is w pb mb T V last) (hT : 0 < T.length) :
    Calls Try.prog 17 #[.pointer (some ⟨pb, 0, none⟩)] w fun e w' => e = .returned (.tuple #[.string ⟨(nextL T last).toArray⟩, .bool true]) ∧ Is w' pb mb T V (nextL T last) ∧ ∀ c, Save pb c w w' := by
  have AL := Lib.hid (all_any w pb mb T V last h)
  obtain ⟨n, hn⟩ : ∃ n, n = T.length := ⟨_, rfl⟩
  have HS := Lib.hid h.small
  replace h := Lib.hid h
  have HN := Lib.hid hn
  have hz : ((n : Int) == 0) = false := by rw [hn]; simp; intro e; rw [e] at hT; simp at hT
  have h0 : 0 < n := by omega
  have hnl : n ≤ 1000000 := by rw [hn]; exact HS.out
  clear hn hT HS
  go_enter Try.func17, Try.ntmps17
  go_wp2_with fail
  go_step3
  go_wp2_with fail
  refine AL.out.mono ?_
  rintro e w1 ⟨v, rfl, o1, k1⟩
  obtain ⟨a, c, rfl, -, -, l1, -⟩ := Row.Own.lies o1
  rw [← HN.out] at l1 ⊢
  obtain ⟨b, o, rfl, hcell⟩ := Words.words_at l1 h0
  have hp := h.out.below k1
  have hsv := fun c => Save.of (b := pb) (c := c) k1
  have IS := Lib.hid hp
  have SV := Lib.hid hsv
  obtain ⟨c0, c1, fz⟩ := hp.cells
  have z0 := hcell 0 (by rw [← HN.out]; exact h0)
  rw [Nat.add_zero] at z0
  have HC := Lib.hid hcell
  have NM := Lib.hid (fun h hb => next_miss (T := T) (last := last) h hb)
  obtain ⟨t0, ht0⟩ : ∃ t, t = T[0]'(by rw [← HN.out]; exact h0) := ⟨_, rfl⟩
  rw [← ht0] at z0
  have HT0 := Lib.hid ht0
  clear hp hsv l1 o1 k1 hcell c0 ht0
  go_wp2_with fail
  go_step3
  go_wp2_with fail
  go_loop [5, 18] (fun nv iv => ∃ k : Nat, k ≤ n ∧ iv = .int .i64 k ∧ nv = .string ⟨t0.toArray⟩ ∧ Hid (∀ j (hj : j < T.length), j < k → ¬ last < T[j])) (fun _ iv => n - (intOf iv).toNat)
  case atStart => exact ⟨0, by omega, rfl, rfl, Lib.hid (fun j _ hj => by omega)⟩
  case round =>
    obtain ⟨k, hk, rfl, rfl, HL⟩ := hrel
    by_cases hlt : k < n
    · have hll : k < T.length := by rw [← HN.out]; exact hlt
      have c2 := HC.out k hll
      have d1 : decide ((k : Int) < (n : Int)) = true := decide_eq_true (by omega)
      have j1 : (0 : Int) ≤ (k : Int) := by omega
      have j2 : (k : Int) < (n : Int) := by omega
      by_cases hg : last < T[k]
      · have HX : Hid (nextL T last = T[k]) := Lib.hid (next_hit hll hg HL.out)
        have hgb : (!(Op.bytesLess T[k] last || T[k] == last)) = true := by rw [gtr_iff]; exact decide_eq_true hg
        have TL := Lib.hid (IS.out.told T[k])
        obtain ⟨t, ht⟩ : ∃ t, t = T[k] := ⟨_, rfl⟩
        rw [← ht] at c2 HX hgb TL
        clear ht hg hll hlt
        go_wp2
        go_ret2
        exact ⟨by rw [HX.out]; rfl, by rw [HX.out]; exact TL.out.1, fun c => (SV.out c).trans (TL.out.2 c)⟩
      · have HL2 : Hid (∀ j (hj : j < T.length), j < k + 1 → ¬ last < T[j]) := Lib.hid (fun j hj hjk => by
          by_cases e : j = k
          · subst e; exact hg
          · exact HL.out j hj (by omega))
        have hgb : (!(Op.bytesLess T[k] last || T[k] == last)) = false := by rw [gtr_iff]; exact decide_eq_false hg
        have HK := Lib.hid hlt
        obtain ⟨t, ht⟩ : ∃ t, t = T[k] := ⟨_, rfl⟩
        rw [← ht] at c2 hgb
        clear ht hg hll hlt
        go_wp2
        go_round
        case rel => exact ⟨k + 1, by have := HK.out; omega, by go_num, rfl, HL2⟩
        case measure => have := HK.out; simp [intOf]; omega
    · obtain rfl : n = k := by omega
      have d1 : decide ((n : Int) < (n : Int)) = false := decide_eq_false (by omega)
      have HX : Hid (nextL T last = t0) := Lib.hid (by rw [HT0.out]; exact NM.out (by rw [← HN.out]; exact h0) (fun j hj => HL.out j hj (by rw [HN.out]; exact hj)))
      have TL := Lib.hid (IS.out.told t0)
      clear hlt
      go_wp2
      go_ret2
      exact ⟨by rw [HX.out]; rfl, by rw [HX.out]; exact TL.out.1, fun c => (SV.out c).trans (TL.out.2 c)⟩
/-- The map is another one. -/
theorem Is.anew {w : World} {pb mb : Nat} {T : List (List UInt8)} {V : List UInt8 → List M} {last : List UInt8} (h : Is w pb mb T V last) {g n : Nat} {f' : List UInt8 → Option Value} {L : List (List UInt8)} (hm : IsM w g n f') (hL : L.length ≤ 1000000)
    (h1 : ∀ q, (f' q).isSome = decide (q ∈ L)) (h2 : ∀ q v, f' q = some v → Slot pb w v (val T V q)) :
    Is (w.setCell ⟨pb, 0, none⟩ (.map (some g))) pb g (sortU L) (val T V) last ∧ Save pb mb w (w.setCell ⟨pb, 0, none⟩ (.map (some g))) := by
  have k : ∀ c, Save pb c w (w.setCell ⟨pb, 0, none⟩ (.map (some g))) := fun c => Save.set1 (p := ⟨pb, 0, none⟩) rfl _
  have h1' : ∀ q, (f' q).isSome = decide (q ∈ sortU L) := fun q => by rw [h1 q]; exact decide_eq_decide.2 (mem_sortU L q).symm
  have hg : g ≠ pb := fun e => by
    obtain ⟨es, clock, hb⟩ := hm.isMap
    rw [e, h.box] at hb
    cases hb
  refine ⟨⟨Joins.block_setCell (i := 0) h.box (.map (some g)), ⟨f', tight (hm.moved ?_) (up_sortU L) h1', h1', fun q v e => (h2 q v e).save (k g) hm.isMap⟩, up_sortU L, Nat.le_trans (sortU_len L) hL⟩, k mb⟩
  exact Below.heap_setCell _ _ _ _ hg
set_option maxRecDepth 100000 in
set_option maxHeartbeats 8000000 in
theorem set_any (L : List (List UInt8)) (a : Option Addr) (c : Nat) (w : World) (pb mb : Nat) (T : List (List UInt8)) (V : List UInt8 → List M) (last : List UInt8) (h : Is w pb mb T V last) (hl : Words.Lies w a L.length L) (hs : ∀ q ∈ L, q.length ≤ 1099511627776) (hn : L.length ≤ 1000000) :
    Calls Try.prog 10 #[.pointer (some ⟨pb, 0, none⟩), .slice a L.length c] w fun e w' => e = .returned (.tuple #[]) ∧ ∃ g, Is w' pb g (sortU L) (val T V) last ∧ w.heap.size ≤ g ∧ Save pb mb w w' := by
  have TH := Lib.hid (there_any w pb mb T V last h)
  obtain ⟨f, hm, h1, h2⟩ := h.map
  have LK := Lib.hid (fun q => h.look q)
  have HP := Lib.hid h
  have HL := Lib.hid hl
  have HM := Lib.hid hm
  have HS := Lib.hid hs
  have H2 : Hid (∀ q v, (f q).getD (.slice none 0 0) = v → Slot pb w v (val T V q)) := Lib.hid (fun q v e => by
    rw [← e]
    have h3 := h1 q
    cases hf : f q with
    | none =>
      rw [hf] at h3
      have hq : ¬ q ∈ T := of_decide_eq_false h3.symm
      unfold val; rw [if_neg hq]
      exact ⟨none, 0, rfl, Mark.Lies.nil _ _, fun x e => by cases e⟩
    | some y =>
      rw [hf] at h3
      have hq : q ∈ T := of_decide_eq_true h3.symm
      unfold val; rw [if_pos hq]
      exact h2 q y hf)
  have hmm := @TextSet.run_make Try.prog _ _ _ und
  obtain ⟨n, hnn⟩ : ∃ n, n = L.length := ⟨_, rfl⟩
  rw [← hnn] at HL hn ⊢
  have HN := Lib.hid hnn
  have hb := Below.refl w.heap.size w
  clear hnn h hl hm hs h1 h2 LK
  go_enter Try.func10, Try.ntmps10
  go_wp2_with fail
  refine TH.out.mono ?_
  rintro e w1 ⟨rfl, rfl⟩
  go_wp2_with fail
  have hnew := TextMap.Is.made (P := Try.prog) (ks := 9) w
  replace hb := balloc hb (.map #[] 0)
  obtain ⟨g, hg⟩ : ∃ g, g = w.heap.size := ⟨_, rfl⟩
  have HG := Lib.hid hg
  rw [← hg] at hnew ⊢
  clear hg
  generalize hw0 : w.alloc _ = w0 at *
  clear hw0
  go_loopw [15] (fun iv wr => ∃ k : Nat, k ≤ n ∧ iv = .int .i64 k ∧ Hid (∃ f', IsM wr g k f' ∧ (∀ q, (f' q).isSome = decide (q ∈ L.take k)) ∧ ∀ q v, f' q = some v → (f q).getD (.slice none 0 0) = v) ∧ Below w.heap.size w wr) (fun iv _ => n - (intOf iv).toNat)
  case atStart => exact ⟨0, by omega, rfl, Lib.hid ⟨_, hnew, fun q => by simp, fun q v e => by cases e⟩, hb⟩
  case round =>
    clear hb hnew
    obtain ⟨k, hk, rfl, S, hb⟩ := hrel
    have hp := HP.out.below hb
    have IS := Lib.hid hp
    obtain ⟨c0, c1, fz⟩ := hp.cells
    clear hp
    obtain ⟨f', hf', e1, e2⟩ := S.out
    have HF := Lib.hid hf'
    have HE1 := Lib.hid e1
    have HE2 := Lib.hid e2
    clear hf' e1 e2 S
    by_cases hlt : k < n
    · obtain ⟨b, o, rfl, hcell⟩ := Words.words_at (HL.out.below hb) (by omega)
      have hll : k < L.length := by rw [← HN.out]; exact hlt
      have c2 := hcell k hll
      have d1 : decide ((k : Int) < (n : Int)) = true := decide_eq_true (by omega)
      have j1 : (0 : Int) ≤ (k : Int) := by omega
      have j2 : (k : Int) < (n : Int) := by omega
      have HQ := Lib.hid (HS.out _ (List.getElem_mem hll))
      have HT : Hid (L.take (k + 1) = L.take k ++ [L[k]]) := Lib.hid (by rw [List.take_append_getElem hll])
      obtain ⟨q, hq⟩ : ∃ q, q = L[k] := ⟨_, rfl⟩
      rw [← hq] at c2 HQ HT
      have HK := Lib.hid hlt
      obtain ⟨v, hv⟩ : ∃ v, (f q).getD (.slice none 0 0) = v := ⟨_, rfl⟩
      have HV := Lib.hid hv
      have HMB := Lib.hid (HM.out.below hb)
      clear hcell hq hll hlt hv
      go_wp2_with (first | (at_lookup; refine TextMap.wpList_look und Try.underlying9 (zero_marks _) rfl _ _ rfl mb _ f q rfl HMB.out rfl (by have := HQ.out; unfold maxLen; omega) _ HV.out ?_) | (at_mapUpdate; refine TextMap.wpList_put und Try.underlying9 rfl _ _ _ rfl g k f' q v rfl HF.out (by unfold maxLen; omega) rfl (by have := HQ.out; unfold maxLen; omega) rfl ?_; intro w3 S3 k3))
      go_roundw
      case rel =>
        refine ⟨k + 1, by have := HK.out; omega, by go_num, Lib.hid ⟨_, S3, fun x => ?_, fun x y e => ?_⟩, Below.grown hb k3 hb.size (fun j hj => by cases hj; exact Nat.le_of_eq HG.out.symm)⟩
        · unfold TextMap.put
          rw [HT.out]
          by_cases ex : x = q
          · rw [if_pos ex, ex]; simp
          · rw [if_neg ex, HE1.out x]; simp [ex]
        · unfold TextMap.put at e
          by_cases ex : x = q
          · rw [if_pos ex] at e; rw [ex, HV.out]; exact Option.some.inj e
          · rw [if_neg ex] at e; exact HE2.out x y e
      case measure => have := HK.out; simp [intOf]; omega
    · obtain rfl : n = k := by omega
      have d1 : decide ((n : Int) < (n : Int)) = false := decide_eq_false (by omega)
      have HT : Hid (L.take n = L) := Lib.hid (List.take_of_length_le (by rw [HN.out]; exact Nat.le_refl _))
      have AN := Lib.hid (IS.out.anew HF.out (L := L) (by rw [← HN.out]; exact hn) (fun q => by rw [HE1.out q, HT.out]) (fun q v e => (H2.out q v (HE2.out q v e)).below hb))
      have HB := Lib.hid hb
      clear hlt hb
      go_wp2
      go_end0
      exact ⟨rfl, g, AN.out.1, Nat.le_of_eq HG.out.symm, (Save.of HB.out).trans AN.out.2⟩
set_option maxRecDepth 100000 in
theorem set_nil (v : Value) (w : World) : Calls Try.prog 10 #[.pointer none, v] w fun e w' => e = .returned (.tuple #[]) ∧ w = w' := by
  go_enter Try.func10, Try.ntmps10
  go_wp2_with fail
  refine (there_nil _).mono ?_
  rintro e w1 ⟨rfl, rfl⟩
  go_wp2
  exact bodyPost_ret (results_none (by kernel_rfl) _ _ _) rfl ⟨rfl, rfl⟩
end Peers
end Go.Proofs.Ytcbnkncgacbniaa
