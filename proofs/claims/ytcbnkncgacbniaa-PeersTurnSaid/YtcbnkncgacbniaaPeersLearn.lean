/- peers: Learn, Lacks. -/
import Derived.Test.YtcbnkncgacbniaaPeersFns
import Derived.Test.YtcbnkncgacbniaaDotAlive
namespace Go.Proofs.Ytcbnkncgacbniaa
namespace Peers
open Go.RowKit Go.Proofs.Ytcbnkncgacbniaa.Mark Go.Proofs.Ytcbnkncgacbniaa.Dots
def upd (V : List UInt8 → List M) (q : List UInt8) (J : List M) : List UInt8 → List M := fun x => if x = q then J else V x
/-- What Learn does. -/
def Learnt (T : List (List UInt8)) (V : List UInt8 → List M) (q : List UInt8) (L : List M) (r : Bool) (V' : List UInt8 → List M) : Prop :=
  (r = false ∧ V' = V ∧ (mayL L = false ∨ ¬ q ∈ T ∨ ∀ x, ofL L x ≤ ofL (V q) x)) ∨
  (r = true ∧ mayL L = true ∧ q ∈ T ∧ (¬ ∀ x, ofL L x ≤ ofL (V q) x) ∧ ∃ J, V' = upd V q J ∧ IsVec J (fun x => max (ofL (V q) x) (ofL L x)) ∧ J.length ≤ (V q).length + L.length)
theorem Is.learnt {w w' : World} {pb mb : Nat} {T : List (List UInt8)} {V : List UInt8 → List M} {last : List UInt8} (h : Is w pb mb T V last) {f : List UInt8 → Option Value} (hf : IsM w mb T.length f) (h1 : ∀ q, (f q).isSome = decide (q ∈ T)) (h2 : ∀ q v, f q = some v → Slot pb w v (V q))
    {q : List UInt8} {J : List M} {v : Value} (hq : q ∈ T) (hJ : Slot pb w v J) (hm : IsM w' mb (T.length + 1) (TextMap.put f q v)) (k : w.grownBy w' (some mb)) : Is w' pb mb T (upd V q J) last ∧ Save pb mb w w' := by
  have hs : Save pb mb w w' := Save.grown2 k
  have hne := h.ne
  have hlt := h.lt.1
  have h1' : ∀ x, ((TextMap.put f q v) x).isSome = decide (x ∈ T) := fun x => by
    unfold TextMap.put
    by_cases e : x = q
    · rw [if_pos e, e, decide_eq_true hq]; rfl
    · rw [if_neg e]; exact h1 x
  refine ⟨⟨((Save.grown2 (b := w.heap.size) k).block pb hlt (by omega) hne).trans h.box, ⟨_, tight hm h.up h1', h1', fun x y e => ?_⟩, h.up, h.small⟩, hs⟩
  unfold TextMap.put at e
  unfold upd
  by_cases ex : x = q
  · rw [if_pos ex] at e ⊢
    cases e
    exact hJ.save hs hf.isMap
  · rw [if_neg ex] at e ⊢
    exact (h2 x y e).save hs hf.isMap
/-- A new row is no slot of the struct's. -/
theorem slot_new {w w' : World} {pb : Nat} {v : Value} {J : List M} (hp : pb < w.heap.size) (h : Mark.Own w' w.heap.size v J) : Slot pb w' v J := by
  obtain ⟨a, c, rfl, -, -, h3, h4⟩ := h.lies
  exact ⟨a, c, rfl, h3, fun x e => by have := h4 x e; omega⟩

set_option maxRecDepth 100000 in
set_option maxHeartbeats 8000000 in
theorem learn_any (q : List UInt8) (L : List M) (a : Option Addr) (c : Nat) (w : World) (pb mb : Nat) (T : List (List UInt8)) (V : List UInt8 → List M) (last : List UInt8) (h : Is w pb mb T V last) (hl : Mark.Lies w a L.length L) (hok : Ok L) (hq : q.length ≤ 1099511627776) (hn : L.length ≤ 549755813888) (hV : (val T V q).length ≤ 549755813888) :
    Calls Try.prog 12 #[.pointer (some ⟨pb, 0, none⟩), .string ⟨q.toArray⟩, .slice a L.length c] w fun e w' => ∃ r V', e = .returned (.bool r) ∧ Learnt T V q L r V' ∧ Is w' pb mb T V' last ∧ Save pb mb w w' := by
  have hb := Below.refl w.heap.size w
  have TH := Lib.hid (fun w h => there_any w pb mb T V last h)
  have MY := Lib.hid (fun w h => Dots.may_any L a L.length c w h (by omega) hok)
  replace h := Lib.hid h
  replace hl := Lib.hid hl
  have HQ := Lib.hid hq
  have HN := Lib.hid (And.intro hn hV)
  clear hq hok hn hV
  cases hm : mayL L
  · have HM := Lib.hid hm
    clear hm
    go_enter Try.func12, Try.ntmps12
    go_wp2_with fail
    refine (TH.out _ h.out).mono ?_
    rintro e w1 ⟨rfl, rfl⟩
    go_wp2_with fail
    refine (MY.out _ hl.out).mono ?_
    rintro e v2 ⟨rfl, k2⟩
    replace h := Lib.hid ((h.out).below k2)
    replace hl := Lib.hid ((hl.out).below k2)
    replace hb := bstep hb k2
    clear k2
    rw [HM.out]
    go_wp2
    go_ret
    exact ⟨_, _, rfl, .inl ⟨rfl, rfl, .inl HM.out⟩, h.out, Save.of hb⟩
  have HM := Lib.hid hm
  clear hm
  by_cases hqT : q ∈ T
  rotate_left
  · have HT := Lib.hid hqT
    clear hqT
    go_enter Try.func12, Try.ntmps12
    go_wp2_with fail
    refine (TH.out _ h.out).mono ?_
    rintro e w3 ⟨rfl, rfl⟩
    go_wp2_with fail
    refine (MY.out _ hl.out).mono ?_
    rintro e v4 ⟨rfl, k4⟩
    replace h := Lib.hid ((h.out).below k4)
    replace hl := Lib.hid ((hl.out).below k4)
    replace hb := bstep hb k4
    clear k4
    rw [HM.out]
    have hp := h.out
    obtain ⟨c0, c1, fz⟩ := hp.cells
    obtain ⟨f, hm, h1, h2⟩ := hp.map
    have HF := Lib.hid hm
    have HF1 := Lib.hid h1
    have HF2 := Lib.hid h2
    clear hm h2 hp
    have HIS : Hid ((f q).isSome = false) := Lib.hid (by rw [h1 q]; exact decide_eq_false HT.out)
    have HGD : Hid ((f q).getD (.slice none 0 0) = .slice none 0 0) := Lib.hid (by have := HIS.out; cases hf : f q with | none => rfl | some y => rw [hf] at this; cases this)
    clear h1
    go_wp2_with (at_lookup; refine TextMap.wpList_look_ok und Try.underlying9 (zero_marks _) rfl _ _ rfl mb _ f q rfl HF.out rfl (by have := HQ.out; unfold maxLen; omega) (.slice none 0 0) HGD.out false HIS.out ?_)
    go_ret
    exact ⟨_, _, rfl, .inl ⟨rfl, rfl, .inr (.inl HT.out)⟩, h.out, Save.of hb⟩
  have HT := Lib.hid hqT
  have HVL : Hid ((V q).length ≤ 549755813888) := Lib.hid (by have := HN.out.2; unfold val at this; rw [if_pos hqT] at this; exact this)
  clear hqT
  go_enter Try.func12, Try.ntmps12
  go_wp2_with fail
  refine (TH.out _ h.out).mono ?_
  rintro e w5 ⟨rfl, rfl⟩
  go_wp2_with fail
  refine (MY.out _ hl.out).mono ?_
  rintro e v6 ⟨rfl, k6⟩
  replace h := Lib.hid ((h.out).below k6)
  replace hl := Lib.hid ((hl.out).below k6)
  replace hb := bstep hb k6
  clear k6
  rw [HM.out]
  have hp := h.out
  obtain ⟨c0, c1, fz⟩ := hp.cells
  obtain ⟨f, hm, h1, h2⟩ := hp.map
  have HF := Lib.hid hm
  have HF1 := Lib.hid h1
  have HF2 := Lib.hid h2
  clear hm h2 hp
  obtain ⟨v, hv⟩ : ∃ v, f q = some v := Option.isSome_iff_exists.1 (by rw [h1 q]; exact decide_eq_true HT.out)
  have HV := Lib.hid hv
  obtain ⟨av, cv, rfl, lv, hpv⟩ := HF2.out q v hv
  replace lv := Lib.hid lv
  have HGD : Hid ((f q).getD (.slice none 0 0) = .slice av (V q).length cv) := Lib.hid (by rw [hv]; rfl)
  have HIS : Hid ((f q).isSome = true) := Lib.hid (by rw [hv]; rfl)
  clear h1 hv hpv
  go_wp2_with (at_lookup; refine TextMap.wpList_look_ok und Try.underlying9 (zero_marks _) rfl _ _ rfl mb _ f q rfl HF.out rfl (by have := HQ.out; unfold maxLen; omega) (.slice av (V q).length cv) HGD.out true HIS.out ?_)
  refine (Dots.covers_any (V q) L av a (V q).length L.length cv c _ lv.out hl.out (by have := HVL.out; omega) (by have := HN.out; omega)).mono ?_
  rintro e v9 ⟨r, rfl, hr, k9⟩
  have HR := Lib.hid hr
  clear hr c1 fz
  have HF9 := Lib.hid (HF.out.below k9)
  have HG9 : Hid (∀ x y, f x = some y → Slot pb v9 y (V x)) := Lib.hid (fun x y e => (HF2.out x y e).below k9)
  replace h := Lib.hid ((h.out).below k9)
  replace hl := Lib.hid ((hl.out).below k9)
  replace lv := Lib.hid ((lv.out).below k9)
  replace c0 := (Dots.keepC c0 k9)
  replace hb := bstep hb k9
  clear k9
  cases r
  rotate_left
  · go_wp2
    go_ret
    exact ⟨_, _, rfl, .inl ⟨rfl, rfl, .inr (.inr (HR.out.1 trivial))⟩, h.out, Save.of hb⟩
  have HB9 := Lib.hid hb
  have hc9 := c0
  go_wp2_with fail
  refine wp_region_noPanic ?_
  refine wp_region_held_drew (S := (fun w' => w'.cell? ⟨pb, 0, none⟩ = some (.map (some mb)))) (by kernel_rfl) ((Below.drew (Below.refl _ _)).cell (p := ⟨pb, 0, none⟩) h.out.lt.1 |>.trans c0) (fun hHeld => ?_)
  refine wpAnyH_take (i := 0) (v := ?_) (by simp only [List.getElem?_toArray, List.getElem?_cons_zero]; rfl) (by kernel_rfl) (by kernel_rfl) (by kernel_rfl) (fun _ _ _ h => h) (Or.inl ⟨by rfl, ?_⟩) (by assumption) ?_
  rotate_left
  · (intro w hSw; (try dsimp only at hSw); go_simp; try with_reducible rfl)
  try simp only [Act.put, List.setIfInBounds_toArray, List.set_cons_zero, List.set_cons_succ]
  refine wpAnyH_take (i := 1) (v := ?_) (by simp only [List.getElem?_toArray, List.getElem?_cons_succ, List.getElem?_cons_zero]; rfl) (by kernel_rfl) (by kernel_rfl) (by kernel_rfl) (fun _ _ _ h => h) (Or.inl ⟨by rfl, ?_⟩) (by assumption) ?_
  rotate_left
  · (intro w hSw; (try dsimp only at hSw); go_simp; try with_reducible rfl)
  try simp only [Act.put, List.setIfInBounds_toArray, List.set_cons_zero, List.set_cons_succ]
  refine wpAnyH_take (i := 2) (v := ?_) (by simp only [List.getElem?_toArray, List.getElem?_cons_succ, List.getElem?_cons_zero]; rfl) (by kernel_rfl) (by kernel_rfl) (by kernel_rfl) (fun _ _ _ h => h) (Or.inl ⟨by rfl, ?_⟩) (by assumption) ?_
  rotate_left
  · (intro w hSw; (try dsimp only at hSw); go_simp; try with_reducible rfl)
  try simp only [Act.put, List.setIfInBounds_toArray, List.set_cons_zero, List.set_cons_succ]
  refine wpAnyH_take (i := 3) (v := ?_) (by simp only [List.getElem?_toArray, List.getElem?_cons_succ, List.getElem?_cons_zero]; rfl) (by kernel_rfl) (by kernel_rfl) (by kernel_rfl) (fun _ _ _ h => h) (Or.inl ⟨by rfl, ?_⟩) (by assumption) ?_
  rotate_left
  · (intro w hSw; (try dsimp only at hSw); go_simp; try with_reducible rfl)
  try simp only [Act.put, List.setIfInBounds_toArray, List.set_cons_zero, List.set_cons_succ]
  refine wpAnyH_take (i := 4) (v := ?_) (by simp only [List.getElem?_toArray, List.getElem?_cons_succ, List.getElem?_cons_zero]; rfl) (by kernel_rfl) (by kernel_rfl) (by kernel_rfl) (fun _ _ _ h => h) (Or.inl ⟨by rfl, ?_⟩) (by assumption) ?_
  rotate_left
  · (intro w hSw; (try dsimp only at hSw); go_simp; try with_reducible rfl)
  try simp only [Act.put, List.setIfInBounds_toArray, List.set_cons_zero, List.set_cons_succ]
  refine wpAnyH_take (i := 5) (v := ?_) (by simp only [List.getElem?_toArray, List.getElem?_cons_succ, List.getElem?_cons_zero]; rfl) (by kernel_rfl) (by kernel_rfl) (by kernel_rfl) (fun _ _ _ h => h) (Or.inl ⟨by rfl, ?_⟩) (by assumption) ?_
  rotate_left
  · (intro w hSw; (try dsimp only at hSw); go_simp; try with_reducible rfl)
  try simp only [Act.put, List.setIfInBounds_toArray, List.set_cons_zero, List.set_cons_succ]
  refine wpAnyH_take (i := 6) (v := ?_) (by simp only [List.getElem?_toArray, List.getElem?_cons_succ, List.getElem?_cons_zero]; rfl) (by kernel_rfl) (by kernel_rfl) (by kernel_rfl) (fun _ _ _ h => h) (Or.inl ⟨by rfl, ?_⟩) (by assumption) ?_
  rotate_left
  · (intro w hSw; (try dsimp only at hSw); go_simp; try with_reducible rfl)
  try simp only [Act.put, List.setIfInBounds_toArray, List.set_cons_zero, List.set_cons_succ]
  refine wpAnyH_ready (rs := [7]) (by kernel_rfl) (by simp) ?_
  refine AllReadyH.cons (by simp only [List.getElem?_toArray, List.getElem?_cons_succ, List.getElem?_cons_zero]; rfl) (fun K hK => ?_) AllReadyH.nil
  go_simp
  go_at_call 29
  refine (Dots.join_any (V q) L av a (V q).length L.length cv c _ (lv.out.below (Below.drew (Below.refl _ _))) (hl.out.below (Below.drew (Below.refl _ _))) (by have := HVL.out; omega) (by have := HN.out; omega)).mono ?_
  rintro e v10 ⟨v, J, rfl, hJ, hJl, ho, k10⟩
  have k11 : Below v9.heap.size v9 v10 := (Below.drew (Below.refl _ _)).trans k10
  have HJ := Lib.hid (And.intro hJ hJl)
  have SJ := Lib.hid (slot_new (pb := pb) h.out.lt.1 ho)
  have HFA := Lib.hid (HF9.out.below k11)
  have HGA : Hid (∀ x y, f x = some y → Slot pb v10 y (V x)) := Lib.hid (fun x y e => (HG9.out x y e).below k11)
  have HA := Lib.hid (h.out.below k11)
  have HBA := Lib.hid (bstep HB9.out k11)
  have hca := Dots.keepC c0 k11
  clear hJ hJl ho k10 k11
  go_wp2_with fail
  refine hK.out _ _ (hca) (fun hHeld => ?_)
  clear hK K
  try simp only [Act.put, List.setIfInBounds_toArray, List.set_cons_zero, List.set_cons_succ]
  refine wpAnyH_ready (rs := [8]) (by kernel_rfl) (by simp) ?_
  refine AllReadyH.cons (by simp only [List.getElem?_toArray, List.getElem?_cons_succ, List.getElem?_cons_zero]; rfl) (fun K hK => ?_) AllReadyH.nil
  refine TextMap.step_put und Try.underlying9 rfl _ _ _ rfl mb _ f q v rfl HFA.out (by have := HA.out.small; unfold maxLen; omega) rfl (by have := HQ.out; unfold maxLen; omega) rfl ?_
  intro w8 S8 k8
  have LE := Lib.hid (HA.out.learnt HFA.out HF1.out HGA.out HT.out SJ.out S8 k8)
  refine hK.out _ _ (LE.out.1.cells.1) (fun hHeld => ?_)
  clear hK K
  refine wpAnyH_done (by kernel_rfl) ?_ _
  refine NoPanic.normal ?_
  clear hHeld
  go_wp2
  go_ret
  exact ⟨_, _, rfl, .inr ⟨rfl, HM.out, HT.out, fun hh => absurd (HR.out.2 hh) (by decide), J, rfl, HJ.out.1, HJ.out.2⟩, LE.out.1, (Save.of HBA.out).trans LE.out.2⟩
/-- Who lacks something. -/
def LackIs (T : List (List UInt8)) (V : List UInt8 → List M) (L : List M) (R : List (List UInt8)) : Prop := ∃ c : List UInt8 → Bool, (∀ q, c q = true ↔ ∀ x, ofL L x ≤ ofL (val T V q) x) ∧ R = T.filter (fun q => !c q)
theorem cov_ex (T : List (List UInt8)) (V : List UInt8 → List M) (L : List M) : ∃ c : List UInt8 → Bool, ∀ q, c q = true ↔ ∀ x, ofL L x ≤ ofL (val T V q) x :=
  ⟨fun q => @decide _ (Classical.propDecidable (∀ x, ofL L x ≤ ofL (val T V q) x)), fun _ => @decide_eq_true_iff _ (Classical.propDecidable _)⟩
theorem filter_step (f : List UInt8 → Bool) (T : List (List UInt8)) (k : Nat) (h : k < T.length) : (T.take (k + 1)).filter f = (T.take k).filter f ++ (if f T[k] then [T[k]] else []) := by
  rw [← List.take_append_getElem h, List.filter_append]
  cases hb : f T[k]
  · rw [List.filter_cons_of_neg (by rw [hb]; decide)]; simp
  · rw [List.filter_cons_of_pos (by rw [hb])]; simp
set_option maxRecDepth 100000 in
set_option maxHeartbeats 8000000 in
theorem lacks_no (L : List M) (a : Option Addr) (c : Nat) (w : World) (pb mb : Nat) (T : List (List UInt8)) (V : List UInt8 → List M) (last : List UInt8) (h : Is w pb mb T V last) (hl : Mark.Lies w a L.length L) (hok : Ok L) (hn : L.length ≤ 549755813888) (hm : mayL L = false) :
    Calls Try.prog 20 #[.pointer (some ⟨pb, 0, none⟩), .slice a L.length c] w fun e w' => e = .returned (.slice none 0 0) ∧ Below w.heap.size w w' := by
  have hb := Below.refl w.heap.size w
  have TH := Lib.hid (fun w h => there_any w pb mb T V last h)
  have MY := Lib.hid (fun w h => Dots.may_any L a L.length c w h (by omega) hok)
  replace h := Lib.hid h
  replace hl := Lib.hid hl
  have HM := Lib.hid hm
  clear hok hn hm
  go_enter Try.func20, Try.ntmps20
  go_wp2_with fail
  refine (TH.out _ h.out).mono ?_
  rintro e w1 ⟨rfl, rfl⟩
  go_wp2_with fail
  refine (MY.out _ hl.out).mono ?_
  rintro e v2 ⟨rfl, k2⟩
  replace h := Lib.hid ((h.out).below k2)
  replace hl := Lib.hid ((hl.out).below k2)
  replace hb := bstep hb k2
  clear k2
  rw [HM.out]
  go_wp2
  go_ret
  exact ⟨rfl, hb⟩
set_option maxRecDepth 100000 in
set_option maxHeartbeats 8000000 in
theorem lacks_any (L : List M) (a : Option Addr) (c : Nat) (w : World) (pb mb : Nat) (T : List (List UInt8)) (V : List UInt8 → List M) (last : List UInt8) (h : Is w pb mb T V last) (hl : Mark.Lies w a L.length L) (hok : Ok L) (hn : L.length ≤ 549755813888) (hm : mayL L = true)
    (hs : ∀ q ∈ T, q.length ≤ 1099511627776) (hV : ∀ q, (val T V q).length ≤ 549755813888) :
    Calls Try.prog 20 #[.pointer (some ⟨pb, 0, none⟩), .slice a L.length c] w fun e w' => ∃ v R, e = .returned v ∧ LackIs T V L R ∧ Words.Mine w' w.heap.size v R ∧ Below w.heap.size w w' := by
  have hb := Below.refl w.heap.size w
  have TH := Lib.hid (fun w h => there_any w pb mb T V last h)
  have MY := Lib.hid (fun w h => Dots.may_any L a L.length c w h (by omega) hok)
  have HS := Lib.hid hs
  have HVL := Lib.hid hV
  obtain ⟨n, hnn⟩ : ∃ n, n = T.length := ⟨_, rfl⟩
  have HSM : Hid (n ≤ 1000000) := Lib.hid (by rw [hnn]; exact h.small)
  have HN := Lib.hid hnn
  have HLN := Lib.hid hn
  obtain ⟨cv, hcv⟩ := cov_ex T V L
  have HC := Lib.hid hcv
  replace h := Lib.hid h
  replace hl := Lib.hid hl
  have HM := Lib.hid hm
  clear hok hn hm hs hV hnn hcv
  go_enter Try.func20, Try.ntmps20
  go_wp2_with fail
  refine (TH.out _ h.out).mono ?_
  rintro e w1 ⟨rfl, rfl⟩
  go_wp2_with fail
  refine (MY.out _ hl.out).mono ?_
  rintro e v2 ⟨rfl, k2⟩
  replace h := Lib.hid ((h.out).below k2)
  replace hl := Lib.hid ((hl.out).below k2)
  replace hb := bstep hb k2
  clear k2
  rw [HM.out]
  go_wp2_with fail
  refine (all_any _ pb mb T V last h.out).mono ?_
  rintro e v3 ⟨rv, rfl, o3, k3⟩
  obtain ⟨ra, rc, rfl, -, -, l3, -, -⟩ := o3.lies'
  rw [← HN.out] at l3 ⊢
  replace l3 := Lib.hid l3
  clear o3
  replace h := Lib.hid ((h.out).below k3)
  replace hl := Lib.hid ((hl.out).below k3)
  replace hb := bstep hb k3
  clear k3
  go_wp2_with fail
  go_loopw [5, 19] (fun lv iv wr => ∃ k : Nat, k ≤ n ∧ iv = .int .i64 k ∧ Hid (Words.Mine wr v3.heap.size lv ((T.take k).filter (fun q => !cv q))) ∧ Below v3.heap.size v3 wr) (fun _ iv _ => n - (intOf iv).toNat)
  case atStart => exact ⟨0, by omega, rfl, Lib.hid (Row.Own.nil _ _), Below.refl _ _⟩
  case round =>
    obtain ⟨k, hk, rfl, oO, kb⟩ := hrel
    have hnl := HSM.out
    by_cases hlt : k < n
    · obtain ⟨b, o, rfl, hcell⟩ := Words.words_at (l3.out.below kb) (by omega)
      have hll : k < T.length := by rw [← HN.out]; exact hlt
      have c2 := hcell k hll
      have FS := filter_step (fun q => !cv q) T k hll
      have FL : ((T.take k).filter (fun q => !cv q)).length ≤ k := Nat.le_trans (List.length_filter_le _ _) (List.length_take_le _ _)
      have HQ := Lib.hid (HS.out _ (List.getElem_mem hll))
      have d1 : decide ((k : Int) < (n : Int)) = true := decide_eq_true (by omega)
      have j1 : (0 : Int) ≤ (k : Int) := by omega
      have j2 : (k : Int) < (n : Int) := by omega
      obtain ⟨q, hq⟩ : ∃ q, q = T[k] := ⟨_, rfl⟩
      rw [← hq] at c2 HQ FS
      have hp := h.out.below kb
      obtain ⟨c0, c1, fz⟩ := hp.cells
      obtain ⟨f, hmf, -, av, cvv, hv, hlv, -⟩ := hp.look q
      have HF := Lib.hid hmf
      have HV := Lib.hid hv
      have CV := Lib.hid (Dots.covers_any (val T V q) L av a (val T V q).length L.length cvv c _ hlv (hl.out.below kb) (by have := HVL.out q; omega) (by have := HLN.out; omega))
      have HK := Lib.hid (And.intro hlt FL)
      have HCQ := Lib.hid (HC.out q)
      replace FS := Lib.hid FS
      clear hcell hq hll hlt FL hp hmf hv hlv c1
      obtain ⟨vn, hvn⟩ : ∃ m, m = (val T V q).length := ⟨_, rfl⟩
      rw [← hvn] at HV CV
      clear hvn
      go_wp2_with (at_lookup; refine TextMap.wpList_look und Try.underlying9 (zero_marks _) rfl _ _ rfl mb _ f q rfl HF.out rfl (by have := HQ.out; unfold maxLen; omega) _ HV.out ?_)
      refine CV.out.mono ?_
      rintro e v5 ⟨r, rfl, hr, k5⟩
      have hrc : cv q = r := by rw [Bool.eq_iff_iff, HCQ.out, hr]
      have HRC := Lib.hid hrc
      clear hr hrc
      cases r
      · have FS2 : Hid ((T.take (k + 1)).filter (fun q => !cv q) = (T.take k).filter (fun q => !cv q) ++ [q]) := Lib.hid (by rw [FS.out, HRC.out]; rfl)
        have oB := Lib.hid (oO.out.below k5)
        have hsz := Nat.le_trans kb.size k5.size
        go_wp2_with (at_builtin; refine Row.wpList_app Words.typ rfl _ _ rfl v3.heap.size _ _ rfl (oB.out.alloc _) _ 1 1 [q] rfl (Row.lies_new' _ q _ rfl) (by have := HK.out; omega) (by simp only [World.size_alloc]; omega) ?_; intro v9 w9 o9 _ k9)
        go_roundw
        case rel => exact ⟨k + 1, by have := HK.out; omega, by go_num, Lib.hid (by rw [FS2.out]; exact o9), (balloc (bstepB (Nat.le_refl _) kb k5) _).trans k9⟩
        case measure => have := HK.out.1; simp [intOf]; omega
      · have FS2 : Hid ((T.take (k + 1)).filter (fun q => !cv q) = (T.take k).filter (fun q => !cv q)) := Lib.hid (by rw [FS.out, HRC.out]; simp)
        go_wp2_with fail
        go_roundw
        case rel => exact ⟨k + 1, by have := HK.out; omega, by go_num, Lib.hid (by rw [FS2.out]; exact oO.out.below k5), kb.trans (k5.mono kb.size)⟩
        case measure => have := HK.out.1; simp [intOf]; omega
    · obtain rfl : n = k := by omega
      have d1 : decide ((n : Int) < (n : Int)) = false := decide_eq_false (by omega)
      have HT : Hid (T.take n = T) := Lib.hid (List.take_of_length_le (by rw [HN.out]; exact Nat.le_refl _))
      have HO := Lib.hid (oO.out.base hb.size)
      have HB := Lib.hid (bstep hb kb)
      clear hlt oO hb kb
      go_wp2
      go_ret
      exact ⟨_, _, rfl, ⟨cv, HC.out, rfl⟩, by have := HO.out; rw [HT.out] at this; exact this, HB.out⟩
end Peers
end Go.Proofs.Ytcbnkncgacbniaa
