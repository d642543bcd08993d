/- bag: May. -/
import Derived.Test.YtnpjkmomllkhpaaGreatTake
import Derived.Test.YtnpjkmomllkhpaaGreatTmBagA
import Derived.Test.YtnpjkmomllkhpaaGreatTmDotA
import Derived.Test.YtnpjkmomllkhpaaGreatTmDotJ
namespace Go.Proofs.YtnpjkmomllkhpaaGreat
namespace Bag
open Go.RowKit Go.Maps Go.Proofs.YtnpjkmomllkhpaaGreat.Mark Go.Proofs.YtnpjkmomllkhpaaGreat.Dots
/-- May this item not stand behind that text? -/
def badI (o : Option (List UInt8)) (x : It) : Bool := (match o with | none => false | some p => !(decide (TL p x.t))) || (decide (4096 < x.t.length) || decide (x.d.length = 0))
/-- May this dot not stand behind that one? -/
def beh (o : Option M) (m : M) : Bool := match o with | none => false | some q => !(decide (DL q m))
def badD (o : Option M) (m : M) : Bool := decide (m.p = []) || (decide (m.n < 1) || (decide (281474976710656 < m.n) || beh o m))
def dotsGo (s : List M) (o : Option M) : List M → Bool
  | [] => true
  | m :: r => !(badD o m) && (!(decide (m ∈ s)) && dotsGo (s ++ [m]) (some m) r)
def mayGo (s : List M) (o : Option (List UInt8)) : List It → Bool
  | [] => true
  | x :: r => !(badI o x) && (dotsGo s none x.d && mayGo (s ++ x.d) (some x.t) r)
def mayB (L : List It) : Bool := mayGo [] none L
def pT (L : List It) (k : Nat) : Option (List UInt8) := if k = 0 then none else (L[k - 1]?).map It.t
def pM (d : List M) (k : Nat) : Option M := if k = 0 then none else d[k - 1]?
theorem pT_next {L : List It} {k : Nat} (h : k < L.length) : pT L (k + 1) = some L[k].t := by
  unfold pT
  rw [if_neg (by omega), Nat.add_sub_cancel, List.getElem?_eq_getElem h]
  rfl
theorem pM_next {d : List M} {k : Nat} (h : k < d.length) : pM d (k + 1) = some d[k] := by
  unfold pM
  rw [if_neg (by omega), Nat.add_sub_cancel, List.getElem?_eq_getElem h]
theorem may_step (s : List M) {L : List It} {k : Nat} (h : k < L.length) : mayGo s (pT L k) (L.drop k) = (!(badI (pT L k) L[k]) && (dotsGo s none L[k].d && mayGo (s ++ L[k].d) (pT L (k + 1)) (L.drop (k + 1)))) := by
  rw [List.drop_eq_getElem_cons h, mayGo, pT_next h]
theorem dots_step (s : List M) {d : List M} {k : Nat} (h : k < d.length) : dotsGo s (pM d k) (d.drop k) = (!(badD (pM d k) d[k]) && (!(decide (d[k] ∈ s)) && dotsGo (s ++ [d[k]]) (pM d (k + 1)) (d.drop (k + 1)))) := by
  rw [List.drop_eq_getElem_cons h, dotsGo, pM_next h]
theorem ways_less {a b : List UInt8} (h : TL a b) : Op.bytesLess a b = true ∧ Op.bytesLess b a = false ∧ (a == b) = false ∧ (b == a) = false := by
  have h1 := tl_lt h
  have hne : a ≠ b := fun e => by rw [e] at h1; exact List.lt_irrefl b h1
  refine ⟨by rw [Go.Proofs.bytesLess_eq]; exact decide_eq_true h1, by rw [Go.Proofs.bytesLess_eq]; exact decide_eq_false (fun h2 => List.lt_irrefl a (List.lt_trans h1 h2)), by simpa using hne, by simpa using fun e => hne e.symm⟩
theorem less_self (a : List UInt8) : Op.bytesLess a a = false := by rw [Go.Proofs.bytesLess_eq]; exact decide_eq_false (List.lt_irrefl a)
theorem tl_ways (a b : List UInt8) : TL a b ∨ a = b ∨ TL b a := by
  unfold TL
  rcases Order.cmp_ways a b with h | h | h
  · exact .inl h
  · exact .inr (.inl (Order.cmp_zero _ _ h))
  · refine .inr (.inr ?_)
    rw [Order.cmp_flip, h]
theorem not_dl (a b : M) : (!(decide (DL a b))) = decide ((0 : Int) ≤ cmpD a b) := by
  rcases Bag.cmpD_ways a b with h | ⟨h, -⟩ | ⟨h, -, -⟩
  · rw [decide_eq_true (show DL a b from h), h]; rfl
  · rw [decide_eq_false (show ¬ DL a b by unfold DL; rw [h]; decide), h]; rfl
  · rw [decide_eq_false (show ¬ DL a b by unfold DL; rw [h]; decide), h]; rfl
/-- Block b has these dots. -/
def DS (w : World) (b n : Nat) (V : List M) : Prop := KMap.Is dotsC w b n (setF V)
theorem DS.put {w : World} {b n : Nat} {V : List M} {x : M} (h : KMap.Is dotsC w b (n + 1) (KMap.put (setF V) x unit)) : DS w b (n + 1) (V ++ [x]) := KMap.Is.ext h fun p => setF_put V x p
set_option maxRecDepth 100000 in
set_option maxHeartbeats 4000000 in
theorem may_any (L : List It) (a : Option Addr) (n c : Nat) (w : World) (hL : Lies w a n L) (hf : Fine L) :
    Calls Tryz.prog 39 #[.slice a n c] w fun e w' => e = .returned (.bool (mayB L)) ∧ Below w.heap.size w w' := by
  obtain ⟨J, rfl, hJ, hD⟩ := hL
  have hn := hJ.1
  have HN := Lib.hid hn
  have HJ := Lib.hid hJ
  have HD := Lib.hid hD
  have HF := Lib.hid hf
  have hmm := @run_makeMap Tryz.prog
  clear hJ hD hf hn
  go_enter Tryz.func39, Tryz.ntmps39
  go_upto_region 2 with (fail)
  have P0 : DS (w.alloc (.map #[] 0)) w.heap.size 0 [] := KMap.Is.ext (KMap.Is.made dotsC w) (fun _ => rfl)
  have hb := balloc (Below.refl w.heap.size w) (.map #[] 0)
  obtain ⟨mb, hmb⟩ : ∃ b, b = w.heap.size := ⟨_, rfl⟩
  have HMB : Hid (w.heap.size ≤ mb) := Lib.hid (by omega)
  obtain ⟨w1, hw1⟩ : ∃ v, v = w.alloc (.map #[] 0) := ⟨_, rfl⟩
  rw [← hmb, ← hw1] at P0
  rw [← hw1] at hb ⊢
  rw [← hmb]
  have PP := Lib.hid P0
  have HM : Hid (mayB (J.map RI.it) = mayGo [] (pT (J.map RI.it) 0) ((J.map RI.it).drop 0)) := Lib.hid rfl
  have HV0 : Hid (([] : List M).length ≤ (pls ((J.map RI.it).take 0)).length) := Lib.hid (Nat.zero_le _)
  clear P0 hmb hw1
  go_wp2_with fail
  go_loopw [13] (fun iv wr => ∃ (i : Nat) (V : List M), i ≤ n ∧ iv = .int .i64 i ∧ Hid (DS wr mb V.length V) ∧ Hid (mayB (J.map RI.it) = mayGo V (pT (J.map RI.it) i) ((J.map RI.it).drop i)) ∧ Hid (V.length ≤ (pls ((J.map RI.it).take i)).length) ∧ Below w.heap.size w wr) (fun iv _ => n - (intOf iv).toNat)
  case atStart => exact ⟨0, [], by omega, rfl, PP, HM, HV0, hb⟩
  case round =>
    clear PP HM HV0 hb
    obtain ⟨i, V, hi, rfl, PP, HM, HVL, hb⟩ := hrel
    by_cases hlt : i < n
    rotate_left
    · obtain rfl : i = n := by omega
      have d1 : decide ((i : Int) < (i : Int)) = false := decide_eq_false (by omega)
      have HE : Hid (mayB (J.map RI.it) = true) := Lib.hid (by
        rw [HM.out, List.drop_eq_nil_of_le (by rw [List.length_map]; have := HN.out; omega)]; rfl)
      go_wp2
      go_ret
      exact ⟨by rw [HE.out]; rfl, hb⟩
    have d1 : decide ((i : Int) < (n : Int)) = true := decide_eq_true (by omega)
    have j1 : (0 : Int) ≤ (i : Int) := by omega
    have j2 : (i : Int) < (n : Int) := by omega
    have hil : i < J.length := by have := HN.out; omega
    obtain ⟨b, o, rfl, hc⟩ := items_at (HJ.out.below hb) (by omega)
    obtain ⟨c0, c1⟩ := hc i hil
    have hdx := HD.out _ (List.getElem_mem hil)
    have hml : i < (J.map RI.it).length := by rw [List.length_map]; exact hil
    have hts := pls_take hml
    obtain ⟨hsl, hsm⟩ := pls_sub hml
    have hms := may_step V hml
    rw [← HM.out] at hms
    rw [List.getElem_map] at hts hsl hsm hms
    have HPV : Hid (∀ k', i = k' + 1 → ∃ pv, pT (J.map RI.it) i = some pv ∧ wr.cell? ⟨b, o + k' * 2, none⟩ = some (.string ⟨pv.toArray⟩)) := Lib.hid (fun k' hk => by
      subst hk
      have hkl : k' < J.length := by omega
      refine ⟨J[k'].t, ?_, (hc k' hkl).1⟩
      rw [pT_next (by rw [List.length_map]; exact hkl), List.getElem_map]; rfl)
    obtain ⟨x, hx⟩ : ∃ x, x = J[i] := ⟨_, rfl⟩
    rw [← hx] at c0 c1 hdx hts hsl hsm hms
    have HTS := Lib.hid hts
    have HFM : Hid (∀ m ∈ x.d, (⟨x.t, m⟩ : Pl).fine) := Lib.hid (fun m hm => HF.out.fine _ (hsm m hm))
    have HLN : Hid (V.length + x.d.length ≤ 1099511627776) := Lib.hid (by have := HVL.out; have := HF.out.few; simp only [RI.it] at hsl; omega)
    have HDX := Lib.hid hdx
    have HI := Lib.hid hlt
    have HML : Hid (mayB (J.map RI.it) = (!(badI (pT (J.map RI.it) i) x.it) && (dotsGo V none x.d && mayGo (V ++ x.d) (pT (J.map RI.it) (i + 1)) ((J.map RI.it).drop (i + 1))))) := Lib.hid hms
    obtain ⟨t, xa, xc, d⟩ := x
    simp only [RI.it] at HTS HML
    unfold Inner at HDX
    simp only at c0 c1 HDX HFM HLN HTS HML
    obtain ⟨nd, hnd⟩ : ∃ k, k = d.length := ⟨_, rfl⟩
    rw [← hnd] at c1 HDX HLN
    have HND := Lib.hid hnd
    have HVN : Hid (V.length + nd ≤ (pls ((J.map RI.it).take (i + 1))).length) := Lib.hid (by rw [HTS.out, List.length_append, onT_len]; have := HVL.out; have := HND.out; omega)
    clear hc hts hsl hsm hx hdx hml hil hlt hnd hms HM HTS HVL
    go_upto_region 5 with (fail)
    have kS := balloc (Below.refl wr.heap.size wr) (.cells #[.string ⟨t.toArray⟩, .slice xa nd xc] 74)
    have s0 : (wr.alloc (.cells #[.string ⟨t.toArray⟩, .slice xa nd xc] 74)).cell? ⟨wr.heap.size, 0, none⟩ = some (.string ⟨t.toArray⟩) := by rw [World.cell?_alloc_new]; rfl
    have s1 : (wr.alloc (.cells #[.string ⟨t.toArray⟩, .slice xa nd xc] 74)).cell? ⟨wr.heap.size, 1, none⟩ = some (.slice xa nd xc) := by rw [World.cell?_alloc_new]; rfl
    have PQ : Hid (DS (wr.alloc (.cells #[.string ⟨t.toArray⟩, .slice xa nd xc] 74)) mb V.length V) := Lib.hid (KMap.Is.alloc PP.out (.cells #[.string ⟨t.toArray⟩, .slice xa nd xc] 74))
    obtain ⟨sb, hsb⟩ : ∃ b, b = wr.heap.size := ⟨_, rfl⟩
    have HSB : Hid (sb ≠ mb) := Lib.hid (by have := KMap.Is.lt PP.out; omega)
    obtain ⟨ws, hws⟩ : ∃ v, v = wr.alloc (.cells #[.string ⟨t.toArray⟩, .slice xa nd xc] 74) := ⟨_, rfl⟩
    rw [← hws] at kS s0 s1 PQ ⊢
    rw [← hsb] at s0 s1 ⊢
    replace HPV : Hid (∀ k', i = k' + 1 → ∃ pv, pT (J.map RI.it) i = some pv ∧ ws.cell? ⟨b, o + k' * 2, none⟩ = some (.string ⟨pv.toArray⟩)) := Lib.hid (fun k' hk => by
      obtain ⟨pv, h1, h2⟩ := HPV.out k' hk
      exact ⟨pv, h1, Dots.keepC h2 kS⟩)
    replace hb := bstep hb kS
    obtain ⟨o', ho'⟩ : ∃ o', o' = pT (J.map RI.it) i := ⟨_, rfl⟩
    rw [← ho'] at HML
    have HO' := Lib.hid ho'
    have hnb : n ≤ 9223372036854775807 := by have := HN.out; have := HF.out.items; rw [List.length_map] at this; omega
    have HTLN : Hid (⟨t, d⟩ = (⟨t, d⟩ : It)) := Lib.hid rfl
    clear kS hsb hws c0 c1 PP ho'
    go_cut [42] (fun zv wx => zv = .bool (badI o' ⟨t, d⟩) ∧ Hid (DS wx mb V.length V) ∧ wx.cell? ⟨sb, 1, none⟩ = some (.slice xa nd xc) ∧ Below w.heap.size w wx)
    case first =>
      obtain ⟨tn, htn⟩ : ∃ k, k = t.length := ⟨_, rfl⟩
      clear htn tn
      by_cases hi0 : i = 0
      · have z1 : decide ((0 : Int) < (i : Int)) = false := decide_eq_false (by omega); have z1n : decide (0 < i) = false := decide_eq_false (by omega)
        have z2 : o' = none := by rw [HO'.out, hi0]; rfl
        have Z2 := Lib.hid z2
        clear z2 hi0 HPV
        by_cases hlong : 4096 < t.length
        · have e1 : decide ((4096 : Int) < (t.length : Int)) = true := decide_eq_true (by omega)
          have HZ : Hid (badI o' ⟨t, d⟩ = true) := Lib.hid (by unfold badI; rw [decide_eq_true (show 4096 < (⟨t, d⟩ : It).t.length from hlong)]; simp)
          clear hlong
          go_wp2_with fail
          refine wp_region_noPanic ?_
          refine wp_region_held_drew (S := (fun w' => w'.cell? ⟨sb, 0, none⟩ = some (.string ⟨t.toArray⟩) ∧ w'.cell? ⟨sb, 1, none⟩ = some (.slice xa nd xc))) (by kernel_rfl) (⟨Dots.keepC s0 (Below.drew (Below.refl _ _)), Dots.keepC s1 (Below.drew (Below.refl _ _))⟩) (fun hHeld => ?_)
          refine tk 0 ?_
          try simp only [Act.put, List.setIfInBounds_toArray, List.set_cons_zero, List.set_cons_succ]
          refine tk 1 ?_
          try simp only [Act.put, List.setIfInBounds_toArray, List.set_cons_zero, List.set_cons_succ]
          refine tk 2 ?_
          try simp only [Act.put, List.setIfInBounds_toArray, List.set_cons_zero, List.set_cons_succ]
          refine tku 3 ?_
          try simp only [Act.put, List.setIfInBounds_toArray, List.set_cons_zero, List.set_cons_succ]
          refine tku 4 ?_
          try simp only [Act.put, List.setIfInBounds_toArray, List.set_cons_zero, List.set_cons_succ]
          refine tku 5 ?_
          try simp only [Act.put, List.setIfInBounds_toArray, List.set_cons_zero, List.set_cons_succ]
          refine tku 6 ?_
          try simp only [Act.put, List.setIfInBounds_toArray, List.set_cons_zero, List.set_cons_succ]
          refine tku 7 ?_
          try simp only [Act.put, List.setIfInBounds_toArray, List.set_cons_zero, List.set_cons_succ]
          refine tku 8 ?_
          try simp only [Act.put, List.setIfInBounds_toArray, List.set_cons_zero, List.set_cons_succ]
          refine tku 9 ?_
          try simp only [Act.put, List.setIfInBounds_toArray, List.set_cons_zero, List.set_cons_succ]
          refine tku 10 ?_
          try simp only [Act.put, List.setIfInBounds_toArray, List.set_cons_zero, List.set_cons_succ]
          refine tku 11 ?_
          try simp only [Act.put, List.setIfInBounds_toArray, List.set_cons_zero, List.set_cons_succ]
          refine tk 12 ?_
          try simp only [Act.put, List.setIfInBounds_toArray, List.set_cons_zero, List.set_cons_succ]
          refine tk 13 ?_
          try simp only [Act.put, List.setIfInBounds_toArray, List.set_cons_zero, List.set_cons_succ]
          refine tk 14 ?_
          try simp only [Act.put, List.setIfInBounds_toArray, List.set_cons_zero, List.set_cons_succ]
          refine tk 15 ?_
          try simp only [Act.put, List.setIfInBounds_toArray, List.set_cons_zero, List.set_cons_succ]
          refine tk 16 ?_
          try simp only [Act.put, List.setIfInBounds_toArray, List.set_cons_zero, List.set_cons_succ]
          refine tk 17 ?_
          try simp only [Act.put, List.setIfInBounds_toArray, List.set_cons_zero, List.set_cons_succ]
          refine tk 18 ?_
          try simp only [Act.put, List.setIfInBounds_toArray, List.set_cons_zero, List.set_cons_succ]
          refine tk 19 ?_
          try simp only [Act.put, List.setIfInBounds_toArray, List.set_cons_zero, List.set_cons_succ]
          refine tku 20 ?_
          try simp only [Act.put, List.setIfInBounds_toArray, List.set_cons_zero, List.set_cons_succ]
          refine tku 21 ?_
          try simp only [Act.put, List.setIfInBounds_toArray, List.set_cons_zero, List.set_cons_succ]
          refine tku 22 ?_
          try simp only [Act.put, List.setIfInBounds_toArray, List.set_cons_zero, List.set_cons_succ]
          refine tku 23 ?_
          try simp only [Act.put, List.setIfInBounds_toArray, List.set_cons_zero, List.set_cons_succ]
          refine tk 24 ?_
          try simp only [Act.put, List.setIfInBounds_toArray, List.set_cons_zero, List.set_cons_succ]
          refine wpAnyH_done (by kernel_rfl) ?_ _
          refine NoPanic.normal ?_
          clear hHeld
          go_wp2_with fail
          go_meet
          exact ⟨by rw [HZ.out], Lib.hid (KMap.Is.below PQ.out (Below.drew (Below.refl _ _))), Dots.keepC s1 (Below.drew (Below.refl _ _)), Below.drew hb⟩
        · have e1 : decide ((4096 : Int) < (t.length : Int)) = false := decide_eq_false (by omega)
          have HZ : Hid (badI o' ⟨t, d⟩ = ((nd : Int) == 0)) := Lib.hid (by
                    unfold badI
                    rw [decide_eq_false (show ¬ 4096 < (⟨t, d⟩ : It).t.length from hlong), Z2.out]
                    have h9 : (⟨t, d⟩ : It).d.length = nd := HND.out.symm
                    rw [h9]
                    by_cases h8 : nd = 0
                    · subst h8; rfl
                    · rw [decide_eq_false h8]; symm; rw [Bool.false_or, Bool.false_or, beq_eq_false_iff_ne]; omega)
          clear hlong
          go_wp2_with fail
          refine wp_region_noPanic ?_
          refine wp_region_held_drew (S := (fun w' => w'.cell? ⟨sb, 0, none⟩ = some (.string ⟨t.toArray⟩) ∧ w'.cell? ⟨sb, 1, none⟩ = some (.slice xa nd xc))) (by kernel_rfl) (⟨Dots.keepC s0 (Below.drew (Below.refl _ _)), Dots.keepC s1 (Below.drew (Below.refl _ _))⟩) (fun hHeld => ?_)
          refine tk 0 ?_
          try simp only [Act.put, List.setIfInBounds_toArray, List.set_cons_zero, List.set_cons_succ]
          refine tk 1 ?_
          try simp only [Act.put, List.setIfInBounds_toArray, List.set_cons_zero, List.set_cons_succ]
          refine tk 2 ?_
          try simp only [Act.put, List.setIfInBounds_toArray, List.set_cons_zero, List.set_cons_succ]
          refine tku 3 ?_
          try simp only [Act.put, List.setIfInBounds_toArray, List.set_cons_zero, List.set_cons_succ]
          refine tku 4 ?_
          try simp only [Act.put, List.setIfInBounds_toArray, List.set_cons_zero, List.set_cons_succ]
          refine tku 5 ?_
          try simp only [Act.put, List.setIfInBounds_toArray, List.set_cons_zero, List.set_cons_succ]
          refine tku 6 ?_
          try simp only [Act.put, List.setIfInBounds_toArray, List.set_cons_zero, List.set_cons_succ]
          refine tku 7 ?_
          try simp only [Act.put, List.setIfInBounds_toArray, List.set_cons_zero, List.set_cons_succ]
          refine tku 8 ?_
          try simp only [Act.put, List.setIfInBounds_toArray, List.set_cons_zero, List.set_cons_succ]
          refine tku 9 ?_
          try simp only [Act.put, List.setIfInBounds_toArray, List.set_cons_zero, List.set_cons_succ]
          refine tku 10 ?_
          try simp only [Act.put, List.setIfInBounds_toArray, List.set_cons_zero, List.set_cons_succ]
          refine tku 11 ?_
          try simp only [Act.put, List.setIfInBounds_toArray, List.set_cons_zero, List.set_cons_succ]
          refine tk 12 ?_
          try simp only [Act.put, List.setIfInBounds_toArray, List.set_cons_zero, List.set_cons_succ]
          refine tk 13 ?_
          try simp only [Act.put, List.setIfInBounds_toArray, List.set_cons_zero, List.set_cons_succ]
          refine tk 14 ?_
          try simp only [Act.put, List.setIfInBounds_toArray, List.set_cons_zero, List.set_cons_succ]
          refine tk 15 ?_
          try simp only [Act.put, List.setIfInBounds_toArray, List.set_cons_zero, List.set_cons_succ]
          refine tk 16 ?_
          try simp only [Act.put, List.setIfInBounds_toArray, List.set_cons_zero, List.set_cons_succ]
          refine tk 17 ?_
          try simp only [Act.put, List.setIfInBounds_toArray, List.set_cons_zero, List.set_cons_succ]
          refine tk 18 ?_
          try simp only [Act.put, List.setIfInBounds_toArray, List.set_cons_zero, List.set_cons_succ]
          refine tk 19 ?_
          try simp only [Act.put, List.setIfInBounds_toArray, List.set_cons_zero, List.set_cons_succ]
          refine tk 20 ?_
          try simp only [Act.put, List.setIfInBounds_toArray, List.set_cons_zero, List.set_cons_succ]
          refine tk 21 ?_
          try simp only [Act.put, List.setIfInBounds_toArray, List.set_cons_zero, List.set_cons_succ]
          refine tk 22 ?_
          try simp only [Act.put, List.setIfInBounds_toArray, List.set_cons_zero, List.set_cons_succ]
          refine tk 23 ?_
          try simp only [Act.put, List.setIfInBounds_toArray, List.set_cons_zero, List.set_cons_succ]
          refine tk 24 ?_
          try simp only [Act.put, List.setIfInBounds_toArray, List.set_cons_zero, List.set_cons_succ]
          refine wpAnyH_done (by kernel_rfl) ?_ _
          refine NoPanic.normal ?_
          clear hHeld
          go_wp2_with fail
          go_meet
          exact ⟨by rw [HZ.out], Lib.hid (KMap.Is.below PQ.out (Below.drew (Below.refl _ _))), Dots.keepC s1 (Below.drew (Below.refl _ _)), Below.drew hb⟩
      · obtain ⟨k', hk'⟩ : ∃ k', i = k' + 1 := ⟨i - 1, by omega⟩
        obtain ⟨pv, hpv, hp0⟩ := HPV.out k' hk'
        have z1 : decide ((0 : Int) < (i : Int)) = true := decide_eq_true (by omega); have z1n : decide (0 < i) = true := decide_eq_true (by omega)
        have w1 : IntKind.i64.wrap ((i : Int) - 1) = (k' : Int) := by rw [IntKind.wrap_i64]; omega
        have j5 : (0 : Int) ≤ (k' : Int) := by omega
        have j6 : (k' : Int) < (n : Int) := by omega
        have z2 : o' = some pv := HO'.out.trans hpv
        have Z2 := Lib.hid z2
        have HK' := Lib.hid hk'
        clear z2 hi0 HPV hpv hk'
        rcases tl_ways pv t with hw | hw | hw
        · obtain ⟨q1, q2, q3, q4⟩ := ways_less hw
          have HW := Lib.hid hw
          clear hw
          by_cases hlong : 4096 < t.length
          · have e1 : decide ((4096 : Int) < (t.length : Int)) = true := decide_eq_true (by omega)
            have HZ : Hid (badI o' ⟨t, d⟩ = true) := Lib.hid (by unfold badI; rw [decide_eq_true (show 4096 < (⟨t, d⟩ : It).t.length from hlong)]; simp)
            clear hlong
            go_wp2_with fail
            refine wp_region_noPanic ?_
            refine wp_region_held_drew (S := (fun w' => w'.cell? ⟨sb, 0, none⟩ = some (.string ⟨t.toArray⟩) ∧ w'.cell? ⟨sb, 1, none⟩ = some (.slice xa nd xc) ∧ w'.cell? ⟨b, o + k' * 2, none⟩ = some (.string ⟨pv.toArray⟩))) (by kernel_rfl) (⟨Dots.keepC s0 (Below.drew (Below.refl _ _)), Dots.keepC s1 (Below.drew (Below.refl _ _)), Dots.keepC hp0 (Below.drew (Below.refl _ _))⟩) (fun hHeld => ?_)
            refine tk 0 ?_
            try simp only [Act.put, List.setIfInBounds_toArray, List.set_cons_zero, List.set_cons_succ]
            refine tk 1 ?_
            try simp only [Act.put, List.setIfInBounds_toArray, List.set_cons_zero, List.set_cons_succ]
            refine tk 2 ?_
            try simp only [Act.put, List.setIfInBounds_toArray, List.set_cons_zero, List.set_cons_succ]
            refine tk 3 ?_
            try simp only [Act.put, List.setIfInBounds_toArray, List.set_cons_zero, List.set_cons_succ]
            refine tk 4 ?_
            try simp only [Act.put, List.setIfInBounds_toArray, List.set_cons_zero, List.set_cons_succ]
            refine tk 5 ?_
            try simp only [Act.put, List.setIfInBounds_toArray, List.set_cons_zero, List.set_cons_succ]
            refine tk 6 ?_
            try simp only [Act.put, List.setIfInBounds_toArray, List.set_cons_zero, List.set_cons_succ]
            refine tk 7 ?_
            try simp only [Act.put, List.setIfInBounds_toArray, List.set_cons_zero, List.set_cons_succ]
            refine tk 8 ?_
            try simp only [Act.put, List.setIfInBounds_toArray, List.set_cons_zero, List.set_cons_succ]
            refine tk 9 ?_
            try simp only [Act.put, List.setIfInBounds_toArray, List.set_cons_zero, List.set_cons_succ]
            refine tk 10 ?_
            try simp only [Act.put, List.setIfInBounds_toArray, List.set_cons_zero, List.set_cons_succ]
            refine tk 11 ?_
            try simp only [Act.put, List.setIfInBounds_toArray, List.set_cons_zero, List.set_cons_succ]
            refine tk 12 ?_
            try simp only [Act.put, List.setIfInBounds_toArray, List.set_cons_zero, List.set_cons_succ]
            refine tk 13 ?_
            try simp only [Act.put, List.setIfInBounds_toArray, List.set_cons_zero, List.set_cons_succ]
            refine tk 14 ?_
            try simp only [Act.put, List.setIfInBounds_toArray, List.set_cons_zero, List.set_cons_succ]
            refine tk 15 ?_
            try simp only [Act.put, List.setIfInBounds_toArray, List.set_cons_zero, List.set_cons_succ]
            refine tk 16 ?_
            try simp only [Act.put, List.setIfInBounds_toArray, List.set_cons_zero, List.set_cons_succ]
            refine tk 17 ?_
            try simp only [Act.put, List.setIfInBounds_toArray, List.set_cons_zero, List.set_cons_succ]
            refine tk 18 ?_
            try simp only [Act.put, List.setIfInBounds_toArray, List.set_cons_zero, List.set_cons_succ]
            refine tk 19 ?_
            try simp only [Act.put, List.setIfInBounds_toArray, List.set_cons_zero, List.set_cons_succ]
            refine tku 20 ?_
            try simp only [Act.put, List.setIfInBounds_toArray, List.set_cons_zero, List.set_cons_succ]
            refine tku 21 ?_
            try simp only [Act.put, List.setIfInBounds_toArray, List.set_cons_zero, List.set_cons_succ]
            refine tku 22 ?_
            try simp only [Act.put, List.setIfInBounds_toArray, List.set_cons_zero, List.set_cons_succ]
            refine tku 23 ?_
            try simp only [Act.put, List.setIfInBounds_toArray, List.set_cons_zero, List.set_cons_succ]
            refine tk 24 ?_
            try simp only [Act.put, List.setIfInBounds_toArray, List.set_cons_zero, List.set_cons_succ]
            refine wpAnyH_done (by kernel_rfl) ?_ _
            refine NoPanic.normal ?_
            clear hHeld
            go_wp2_with fail
            go_meet
            exact ⟨by rw [HZ.out], Lib.hid (KMap.Is.below PQ.out (Below.drew (Below.refl _ _))), Dots.keepC s1 (Below.drew (Below.refl _ _)), Below.drew hb⟩
          · have e1 : decide ((4096 : Int) < (t.length : Int)) = false := decide_eq_false (by omega)
            have HZ : Hid (badI o' ⟨t, d⟩ = ((nd : Int) == 0)) := Lib.hid (by
                        unfold badI
                        rw [decide_eq_false (show ¬ 4096 < (⟨t, d⟩ : It).t.length from hlong), Z2.out, show (match some pv with | none => false | some p => !(decide (TL p (⟨t, d⟩ : It).t))) = false by show (!(decide (TL pv t))) = false; rw [decide_eq_true HW.out]; rfl]
                        have h9 : (⟨t, d⟩ : It).d.length = nd := HND.out.symm
                        rw [h9]
                        by_cases h8 : nd = 0
                        · subst h8; rfl
                        · rw [decide_eq_false h8]; symm; rw [Bool.false_or, Bool.false_or, beq_eq_false_iff_ne]; omega)
            clear hlong
            go_wp2_with fail
            refine wp_region_noPanic ?_
            refine wp_region_held_drew (S := (fun w' => w'.cell? ⟨sb, 0, none⟩ = some (.string ⟨t.toArray⟩) ∧ w'.cell? ⟨sb, 1, none⟩ = some (.slice xa nd xc) ∧ w'.cell? ⟨b, o + k' * 2, none⟩ = some (.string ⟨pv.toArray⟩))) (by kernel_rfl) (⟨Dots.keepC s0 (Below.drew (Below.refl _ _)), Dots.keepC s1 (Below.drew (Below.refl _ _)), Dots.keepC hp0 (Below.drew (Below.refl _ _))⟩) (fun hHeld => ?_)
            refine tk 0 ?_
            try simp only [Act.put, List.setIfInBounds_toArray, List.set_cons_zero, List.set_cons_succ]
            refine tk 1 ?_
            try simp only [Act.put, List.setIfInBounds_toArray, List.set_cons_zero, List.set_cons_succ]
            refine tk 2 ?_
            try simp only [Act.put, List.setIfInBounds_toArray, List.set_cons_zero, List.set_cons_succ]
            refine tk 3 ?_
            try simp only [Act.put, List.setIfInBounds_toArray, List.set_cons_zero, List.set_cons_succ]
            refine tk 4 ?_
            try simp only [Act.put, List.setIfInBounds_toArray, List.set_cons_zero, List.set_cons_succ]
            refine tk 5 ?_
            try simp only [Act.put, List.setIfInBounds_toArray, List.set_cons_zero, List.set_cons_succ]
            refine tk 6 ?_
            try simp only [Act.put, List.setIfInBounds_toArray, List.set_cons_zero, List.set_cons_succ]
            refine tk 7 ?_
            try simp only [Act.put, List.setIfInBounds_toArray, List.set_cons_zero, List.set_cons_succ]
            refine tk 8 ?_
            try simp only [Act.put, List.setIfInBounds_toArray, List.set_cons_zero, List.set_cons_succ]
            refine tk 9 ?_
            try simp only [Act.put, List.setIfInBounds_toArray, List.set_cons_zero, List.set_cons_succ]
            refine tk 10 ?_
            try simp only [Act.put, List.setIfInBounds_toArray, List.set_cons_zero, List.set_cons_succ]
            refine tk 11 ?_
            try simp only [Act.put, List.setIfInBounds_toArray, List.set_cons_zero, List.set_cons_succ]
            refine tk 12 ?_
            try simp only [Act.put, List.setIfInBounds_toArray, List.set_cons_zero, List.set_cons_succ]
            refine tk 13 ?_
            try simp only [Act.put, List.setIfInBounds_toArray, List.set_cons_zero, List.set_cons_succ]
            refine tk 14 ?_
            try simp only [Act.put, List.setIfInBounds_toArray, List.set_cons_zero, List.set_cons_succ]
            refine tk 15 ?_
            try simp only [Act.put, List.setIfInBounds_toArray, List.set_cons_zero, List.set_cons_succ]
            refine tk 16 ?_
            try simp only [Act.put, List.setIfInBounds_toArray, List.set_cons_zero, List.set_cons_succ]
            refine tk 17 ?_
            try simp only [Act.put, List.setIfInBounds_toArray, List.set_cons_zero, List.set_cons_succ]
            refine tk 18 ?_
            try simp only [Act.put, List.setIfInBounds_toArray, List.set_cons_zero, List.set_cons_succ]
            refine tk 19 ?_
            try simp only [Act.put, List.setIfInBounds_toArray, List.set_cons_zero, List.set_cons_succ]
            refine tk 20 ?_
            try simp only [Act.put, List.setIfInBounds_toArray, List.set_cons_zero, List.set_cons_succ]
            refine tk 21 ?_
            try simp only [Act.put, List.setIfInBounds_toArray, List.set_cons_zero, List.set_cons_succ]
            refine tk 22 ?_
            try simp only [Act.put, List.setIfInBounds_toArray, List.set_cons_zero, List.set_cons_succ]
            refine tk 23 ?_
            try simp only [Act.put, List.setIfInBounds_toArray, List.set_cons_zero, List.set_cons_succ]
            refine tk 24 ?_
            try simp only [Act.put, List.setIfInBounds_toArray, List.set_cons_zero, List.set_cons_succ]
            refine wpAnyH_done (by kernel_rfl) ?_ _
            refine NoPanic.normal ?_
            clear hHeld
            go_wp2_with fail
            go_meet
            exact ⟨by rw [HZ.out], Lib.hid (KMap.Is.below PQ.out (Below.drew (Below.refl _ _))), Dots.keepC s1 (Below.drew (Below.refl _ _)), Below.drew hb⟩
        · skip
          have q1 := less_self t
          have HZ : Hid (badI o' ⟨t, d⟩ = true) := Lib.hid (by unfold badI; rw [Z2.out]; show ((!(decide (TL pv t))) || _) = true; rw [decide_eq_false (by rw [hw]; exact linT.irr t)]; rfl)
          have q3 : (pv == t) = true := by simp [hw]
          have q4 : (t == pv) = true := by simp [hw]
          have q5 : Op.bytesLess pv t = false := by rw [hw]; exact q1
          have q6 : Op.bytesLess t pv = false := by rw [hw]; exact q1
          clear hw
          go_wp2_with fail
          refine wp_region_noPanic ?_
          refine wp_region_held_drew (S := (fun w' => w'.cell? ⟨sb, 0, none⟩ = some (.string ⟨t.toArray⟩) ∧ w'.cell? ⟨sb, 1, none⟩ = some (.slice xa nd xc) ∧ w'.cell? ⟨b, o + k' * 2, none⟩ = some (.string ⟨pv.toArray⟩))) (by kernel_rfl) (⟨Dots.keepC s0 (Below.drew (Below.refl _ _)), Dots.keepC s1 (Below.drew (Below.refl _ _)), Dots.keepC hp0 (Below.drew (Below.refl _ _))⟩) (fun hHeld => ?_)
          refine tk 0 ?_
          try simp only [Act.put, List.setIfInBounds_toArray, List.set_cons_zero, List.set_cons_succ]
          refine tk 1 ?_
          try simp only [Act.put, List.setIfInBounds_toArray, List.set_cons_zero, List.set_cons_succ]
          refine tk 2 ?_
          try simp only [Act.put, List.setIfInBounds_toArray, List.set_cons_zero, List.set_cons_succ]
          refine tk 3 ?_
          try simp only [Act.put, List.setIfInBounds_toArray, List.set_cons_zero, List.set_cons_succ]
          refine tk 4 ?_
          try simp only [Act.put, List.setIfInBounds_toArray, List.set_cons_zero, List.set_cons_succ]
          refine tk 5 ?_
          try simp only [Act.put, List.setIfInBounds_toArray, List.set_cons_zero, List.set_cons_succ]
          refine tk 6 ?_
          try simp only [Act.put, List.setIfInBounds_toArray, List.set_cons_zero, List.set_cons_succ]
          refine tk 7 ?_
          try simp only [Act.put, List.setIfInBounds_toArray, List.set_cons_zero, List.set_cons_succ]
          refine tk 8 ?_
          try simp only [Act.put, List.setIfInBounds_toArray, List.set_cons_zero, List.set_cons_succ]
          refine tk 9 ?_
          try simp only [Act.put, List.setIfInBounds_toArray, List.set_cons_zero, List.set_cons_succ]
          refine tk 10 ?_
          try simp only [Act.put, List.setIfInBounds_toArray, List.set_cons_zero, List.set_cons_succ]
          refine tk 11 ?_
          try simp only [Act.put, List.setIfInBounds_toArray, List.set_cons_zero, List.set_cons_succ]
          refine tk 12 ?_
          try simp only [Act.put, List.setIfInBounds_toArray, List.set_cons_zero, List.set_cons_succ]
          refine tk 13 ?_
          try simp only [Act.put, List.setIfInBounds_toArray, List.set_cons_zero, List.set_cons_succ]
          refine tku 14 ?_
          try simp only [Act.put, List.setIfInBounds_toArray, List.set_cons_zero, List.set_cons_succ]
          refine tku 15 ?_
          try simp only [Act.put, List.setIfInBounds_toArray, List.set_cons_zero, List.set_cons_succ]
          refine tku 16 ?_
          try simp only [Act.put, List.setIfInBounds_toArray, List.set_cons_zero, List.set_cons_succ]
          refine tku 17 ?_
          try simp only [Act.put, List.setIfInBounds_toArray, List.set_cons_zero, List.set_cons_succ]
          refine tk 18 ?_
          try simp only [Act.put, List.setIfInBounds_toArray, List.set_cons_zero, List.set_cons_succ]
          refine tk 19 ?_
          try simp only [Act.put, List.setIfInBounds_toArray, List.set_cons_zero, List.set_cons_succ]
          refine tku 20 ?_
          try simp only [Act.put, List.setIfInBounds_toArray, List.set_cons_zero, List.set_cons_succ]
          refine tku 21 ?_
          try simp only [Act.put, List.setIfInBounds_toArray, List.set_cons_zero, List.set_cons_succ]
          refine tku 22 ?_
          try simp only [Act.put, List.setIfInBounds_toArray, List.set_cons_zero, List.set_cons_succ]
          refine tku 23 ?_
          try simp only [Act.put, List.setIfInBounds_toArray, List.set_cons_zero, List.set_cons_succ]
          refine tk 24 ?_
          try simp only [Act.put, List.setIfInBounds_toArray, List.set_cons_zero, List.set_cons_succ]
          refine wpAnyH_done (by kernel_rfl) ?_ _
          refine NoPanic.normal ?_
          clear hHeld
          go_wp2_with fail
          go_meet
          exact ⟨by rw [HZ.out], Lib.hid (KMap.Is.below PQ.out (Below.drew (Below.refl _ _))), Dots.keepC s1 (Below.drew (Below.refl _ _)), Below.drew hb⟩
        · skip
          obtain ⟨q1, q2, q3, q4⟩ := ways_less hw
          have HZ : Hid (badI o' ⟨t, d⟩ = true) := Lib.hid (by unfold badI; rw [Z2.out]; show ((!(decide (TL pv t))) || _) = true; rw [decide_eq_false (fun h => linT.irr _ (linT.trans hw h))]; rfl)
          clear hw
          go_wp2_with fail
          refine wp_region_noPanic ?_
          refine wp_region_held_drew (S := (fun w' => w'.cell? ⟨sb, 0, none⟩ = some (.string ⟨t.toArray⟩) ∧ w'.cell? ⟨sb, 1, none⟩ = some (.slice xa nd xc) ∧ w'.cell? ⟨b, o + k' * 2, none⟩ = some (.string ⟨pv.toArray⟩))) (by kernel_rfl) (⟨Dots.keepC s0 (Below.drew (Below.refl _ _)), Dots.keepC s1 (Below.drew (Below.refl _ _)), Dots.keepC hp0 (Below.drew (Below.refl _ _))⟩) (fun hHeld => ?_)
          refine tk 0 ?_
          try simp only [Act.put, List.setIfInBounds_toArray, List.set_cons_zero, List.set_cons_succ]
          refine tk 1 ?_
          try simp only [Act.put, List.setIfInBounds_toArray, List.set_cons_zero, List.set_cons_succ]
          refine tk 2 ?_
          try simp only [Act.put, List.setIfInBounds_toArray, List.set_cons_zero, List.set_cons_succ]
          refine tk 3 ?_
          try simp only [Act.put, List.setIfInBounds_toArray, List.set_cons_zero, List.set_cons_succ]
          refine tk 4 ?_
          try simp only [Act.put, List.setIfInBounds_toArray, List.set_cons_zero, List.set_cons_succ]
          refine tk 5 ?_
          try simp only [Act.put, List.setIfInBounds_toArray, List.set_cons_zero, List.set_cons_succ]
          refine tk 6 ?_
          try simp only [Act.put, List.setIfInBounds_toArray, List.set_cons_zero, List.set_cons_succ]
          refine tk 7 ?_
          try simp only [Act.put, List.setIfInBounds_toArray, List.set_cons_zero, List.set_cons_succ]
          refine tk 8 ?_
          try simp only [Act.put, List.setIfInBounds_toArray, List.set_cons_zero, List.set_cons_succ]
          refine tk 9 ?_
          try simp only [Act.put, List.setIfInBounds_toArray, List.set_cons_zero, List.set_cons_succ]
          refine tk 10 ?_
          try simp only [Act.put, List.setIfInBounds_toArray, List.set_cons_zero, List.set_cons_succ]
          refine tk 11 ?_
          try simp only [Act.put, List.setIfInBounds_toArray, List.set_cons_zero, List.set_cons_succ]
          refine tk 12 ?_
          try simp only [Act.put, List.setIfInBounds_toArray, List.set_cons_zero, List.set_cons_succ]
          refine tk 13 ?_
          try simp only [Act.put, List.setIfInBounds_toArray, List.set_cons_zero, List.set_cons_succ]
          refine tku 14 ?_
          try simp only [Act.put, List.setIfInBounds_toArray, List.set_cons_zero, List.set_cons_succ]
          refine tku 15 ?_
          try simp only [Act.put, List.setIfInBounds_toArray, List.set_cons_zero, List.set_cons_succ]
          refine tku 16 ?_
          try simp only [Act.put, List.setIfInBounds_toArray, List.set_cons_zero, List.set_cons_succ]
          refine tku 17 ?_
          try simp only [Act.put, List.setIfInBounds_toArray, List.set_cons_zero, List.set_cons_succ]
          refine tk 18 ?_
          try simp only [Act.put, List.setIfInBounds_toArray, List.set_cons_zero, List.set_cons_succ]
          refine tk 19 ?_
          try simp only [Act.put, List.setIfInBounds_toArray, List.set_cons_zero, List.set_cons_succ]
          refine tku 20 ?_
          try simp only [Act.put, List.setIfInBounds_toArray, List.set_cons_zero, List.set_cons_succ]
          refine tku 21 ?_
          try simp only [Act.put, List.setIfInBounds_toArray, List.set_cons_zero, List.set_cons_succ]
          refine tku 22 ?_
          try simp only [Act.put, List.setIfInBounds_toArray, List.set_cons_zero, List.set_cons_succ]
          refine tku 23 ?_
          try simp only [Act.put, List.setIfInBounds_toArray, List.set_cons_zero, List.set_cons_succ]
          refine tk 24 ?_
          try simp only [Act.put, List.setIfInBounds_toArray, List.set_cons_zero, List.set_cons_succ]
          refine wpAnyH_done (by kernel_rfl) ?_ _
          refine NoPanic.normal ?_
          clear hHeld
          go_wp2_with fail
          go_meet
          exact ⟨by rw [HZ.out], Lib.hid (KMap.Is.below PQ.out (Below.drew (Below.refl _ _))), Dots.keepC s1 (Below.drew (Below.refl _ _)), Below.drew hb⟩
    clear PQ s0 s1 hb
    obtain ⟨rfl, PQ, s1, hb⟩ := hcut
    obtain ⟨z, hz⟩ : ∃ z, z = badI o' ⟨t, d⟩ := ⟨_, rfl⟩
    rw [← hz] at HML ⊢
    clear hz
    cases z with
    | true =>
      have HE : Hid (mayB (J.map RI.it) = false) := Lib.hid (by rw [HML.out]; rfl)
      go_wp2
      go_ret
      exact ⟨by rw [HE.out]; rfl, hb⟩
    | false =>
      have PQ0 : Hid (DS wc mb (V ++ d.take 0).length (V ++ d.take 0)) := Lib.hid (by rw [List.take_zero, List.append_nil]; exact PQ.out)
      have HG0 : Hid (mayB (J.map RI.it) = (dotsGo (V ++ d.take 0) (pM d 0) (d.drop 0) && mayGo (V ++ d) (pT (J.map RI.it) (i + 1)) ((J.map RI.it).drop (i + 1)))) := Lib.hid (by rw [HML.out, List.take_zero, List.append_nil]; rfl)
      clear PQ
      go_wp2_with fail
      go_loopw [46] (fun jv wr => ∃ j : Nat, j ≤ nd ∧ jv = .int .i64 j ∧ Hid (DS wr mb (V ++ d.take j).length (V ++ d.take j)) ∧ Hid (mayB (J.map RI.it) = (dotsGo (V ++ d.take j) (pM d j) (d.drop j) && mayGo (V ++ d) (pT (J.map RI.it) (i + 1)) ((J.map RI.it).drop (i + 1)))) ∧ wr.cell? ⟨sb, 1, none⟩ = some (.slice xa nd xc) ∧ Below w.heap.size w wr) (fun jv _ => nd - (intOf jv).toNat)
      case atStart => exact ⟨0, by omega, rfl, PQ0, HG0, s1, hb⟩
      case round =>
        clear PQ0 HG0 s1 hb
        obtain ⟨j, hj, rfl, PQ, HG, s1, hb⟩ := hrel
        by_cases hjd : j < nd
        rotate_left
        · obtain rfl : j = nd := by omega
          have d2 : decide ((j : Int) < (j : Int)) = false := decide_eq_false (by omega)
          have e9 : d.take j = d := List.take_of_length_le (by have := HND.out; omega)
          have PE : Hid (DS wr (mb) (V ++ d).length (V ++ d)) := Lib.hid (by have := PQ.out; rw [e9] at this; exact this)
          have ME : Hid (mayB (J.map RI.it) = mayGo (V ++ d) (pT (J.map RI.it) (i + 1)) ((J.map RI.it).drop (i + 1))) := Lib.hid (by
            have := HG.out
            rw [List.drop_eq_nil_of_le (by have := HND.out; omega)] at this
            exact this)
          have VE : Hid ((V ++ d).length ≤ (pls ((J.map RI.it).take (i + 1))).length) := Lib.hid (by rw [List.length_append]; have := HVN.out; have := HND.out; omega)
          clear e9
          go_wp2
          go_roundw
          case rel => exact ⟨i + 1, V ++ d, by have := HI.out; omega, by go_num, PE, ME, VE, hb⟩
          case measure => have := HI.out; simp [intOf]; omega
        have d2 : decide ((j : Int) < (nd : Int)) = true := decide_eq_true (by omega)
        have j3 : (0 : Int) ≤ (j : Int) := by omega
        have j4 : (j : Int) < (nd : Int) := by omega
        have hjl : j < d.length := by have := HND.out; omega
        obtain ⟨b2, o2, rfl, hc2⟩ := dots_at (Row.Lies.below HDX.out hb) (by omega)
        obtain ⟨e0, e1⟩ := hc2 j hjl
        have hts2 : d.take (j + 1) = d.take j ++ [d[j]] := List.take_succ_eq_append_getElem hjl
        have hfm := HFM.out _ (List.getElem_mem hjl)
        have hds := dots_step (V ++ d.take j) hjl
        have HGS := HG.out
        rw [hds, List.append_assoc, ← hts2] at HGS
        have HPM : Hid (∀ k', j = k' + 1 → ∃ pm : M, pM d j = some pm ∧ wr.cell? ⟨b2, o2 + k' * 2, none⟩ = some (.string ⟨pm.p.toArray⟩) ∧ wr.cell? ⟨b2, o2 + k' * 2 + 1, none⟩ = some (.int .u64 (pm.n : Int))) := Lib.hid (fun k' hk => by
          subst hk
          have hkl : k' < d.length := by omega
          exact ⟨d[k'], pM_next hkl, hc2 k' hkl⟩)
        obtain ⟨m, hm⟩ : ∃ m, m = d[j] := ⟨_, rfl⟩
        rw [← hm] at e0 e1 hts2 hfm HGS
        have HT2 : Hid ((V ++ d.take j) ++ [m] = V ++ d.take (j + 1)) := Lib.hid (by rw [hts2, List.append_assoc])
        have HFQ : Hid (dFine m) := Lib.hid hfm.2
        have HVL : Hid ((V ++ d.take j).length < 1099511627777) := Lib.hid (by rw [List.length_append, List.length_take]; have := HLN.out; omega)
        have HJ1 := Lib.hid hjd
        have HGN := Lib.hid HGS
        obtain ⟨U, hU⟩ : ∃ U, U = V ++ d.take j := ⟨_, rfl⟩
        rw [← hU] at PQ HT2 HVL HGN
        obtain ⟨o3, ho3⟩ : ∃ o3, o3 = pM d j := ⟨_, rfl⟩
        rw [← ho3] at HGN
        have HO3 := Lib.hid ho3
        obtain ⟨p, q⟩ := m
        clear hc2 hts2 hfm hm hU hjl hjd hds HGS HG ho3
        simp only at e0 e1
        go_upto_region 10 with (fail)
        have kD := balloc (Below.refl wr.heap.size wr) (.cells #[.string ⟨p.toArray⟩, .int .u64 (q : Int)] 96)
        have f0 : (wr.alloc (.cells #[.string ⟨p.toArray⟩, .int .u64 (q : Int)] 96)).cell? ⟨wr.heap.size, 0, none⟩ = some (.string ⟨p.toArray⟩) := by rw [World.cell?_alloc_new]; rfl
        have f1 : (wr.alloc (.cells #[.string ⟨p.toArray⟩, .int .u64 (q : Int)] 96)).cell? ⟨wr.heap.size, 1, none⟩ = some (.int .u64 (q : Int)) := by rw [World.cell?_alloc_new]; rfl
        obtain ⟨db, hdb⟩ : ∃ b, b = wr.heap.size := ⟨_, rfl⟩
        obtain ⟨wd, hwd⟩ : ∃ v, v = wr.alloc (.cells #[.string ⟨p.toArray⟩, .int .u64 (q : Int)] 96) := ⟨_, rfl⟩
        rw [← hwd] at kD f0 f1 ⊢
        rw [← hdb] at f0 f1 ⊢
        replace s1 := Dots.keepC s1 kD
        replace HPM : Hid (∀ k', j = k' + 1 → ∃ pm : M, o3 = some pm ∧ wd.cell? ⟨b2, o2 + k' * 2, none⟩ = some (.string ⟨pm.p.toArray⟩) ∧ wd.cell? ⟨b2, o2 + k' * 2 + 1, none⟩ = some (.int .u64 (pm.n : Int))) := Lib.hid (fun k' hk => by
          obtain ⟨pm, h1, h2, h3⟩ := HPM.out k' hk
          exact ⟨pm, HO3.out.trans h1, Dots.keepC h2 kD, Dots.keepC h3 kD⟩)
        replace hb := bstep hb kD
        replace PQ : Hid (DS wd mb U.length U) := Lib.hid (KMap.Is.below PQ.out kD)
        clear kD hdb hwd e0 e1
        go_cut [78] (fun zv wx => zv = .bool (badD o3 ⟨p, q⟩) ∧ Hid (DS wx mb U.length U) ∧ wx.cell? ⟨sb, 1, none⟩ = some (.slice (some ⟨b2, o2, none⟩) nd xc) ∧ wx.cell? ⟨db, 0, none⟩ = some (.string ⟨p.toArray⟩) ∧ wx.cell? ⟨db, 1, none⟩ = some (.int .u64 (q : Int)) ∧ Below w.heap.size w wx)
        case first =>
          by_cases hp : p = []
          · have q1 : (p == []) = true := by simp [hp]
            have q2 : p.isEmpty = true := by simp [hp]
            have q3 : decide (p = []) = true := decide_eq_true hp
            have q4 : (p.toArray == #[]) = true := by simp [hp]
            have HZ : Hid (badD o3 ⟨p, q⟩ = true) := Lib.hid (by unfold badD; rw [decide_eq_true (show (⟨p, q⟩ : M).p = [] from hp)]; rfl)
            have HP := Lib.hid hp
            clear hp
            go_wp2_with fail
            refine wp_region_noPanic ?_
            refine wp_region_held_drew (S := (fun w' => w'.cell? ⟨db, 0, none⟩ = some (.string ⟨p.toArray⟩) ∧ w'.cell? ⟨db, 1, none⟩ = some (.int .u64 (q : Int)))) (by kernel_rfl) (⟨Dots.keepC f0 (Below.drew (Below.refl _ _)), Dots.keepC f1 (Below.drew (Below.refl _ _))⟩) (fun hHeld => ?_)
            refine tk 0 ?_
            try simp only [Act.put, List.setIfInBounds_toArray, List.set_cons_zero, List.set_cons_succ]
            refine tk 1 ?_
            try simp only [Act.put, List.setIfInBounds_toArray, List.set_cons_zero, List.set_cons_succ]
            refine tk 2 ?_
            try simp only [Act.put, List.setIfInBounds_toArray, List.set_cons_zero, List.set_cons_succ]
            refine tk 3 ?_
            try simp only [Act.put, List.setIfInBounds_toArray, List.set_cons_zero, List.set_cons_succ]
            refine tku 4 ?_
            try simp only [Act.put, List.setIfInBounds_toArray, List.set_cons_zero, List.set_cons_succ]
            refine tku 5 ?_
            try simp only [Act.put, List.setIfInBounds_toArray, List.set_cons_zero, List.set_cons_succ]
            refine tku 6 ?_
            try simp only [Act.put, List.setIfInBounds_toArray, List.set_cons_zero, List.set_cons_succ]
            refine tk 7 ?_
            try simp only [Act.put, List.setIfInBounds_toArray, List.set_cons_zero, List.set_cons_succ]
            refine tk 8 ?_
            try simp only [Act.put, List.setIfInBounds_toArray, List.set_cons_zero, List.set_cons_succ]
            refine tku 9 ?_
            try simp only [Act.put, List.setIfInBounds_toArray, List.set_cons_zero, List.set_cons_succ]
            refine tku 10 ?_
            try simp only [Act.put, List.setIfInBounds_toArray, List.set_cons_zero, List.set_cons_succ]
            refine tku 11 ?_
            try simp only [Act.put, List.setIfInBounds_toArray, List.set_cons_zero, List.set_cons_succ]
            refine tk 12 ?_
            try simp only [Act.put, List.setIfInBounds_toArray, List.set_cons_zero, List.set_cons_succ]
            refine tk 13 ?_
            try simp only [Act.put, List.setIfInBounds_toArray, List.set_cons_zero, List.set_cons_succ]
            refine tku 14 ?_
            try simp only [Act.put, List.setIfInBounds_toArray, List.set_cons_zero, List.set_cons_succ]
            refine tku 15 ?_
            try simp only [Act.put, List.setIfInBounds_toArray, List.set_cons_zero, List.set_cons_succ]
            refine tku 16 ?_
            try simp only [Act.put, List.setIfInBounds_toArray, List.set_cons_zero, List.set_cons_succ]
            refine tku 17 ?_
            try simp only [Act.put, List.setIfInBounds_toArray, List.set_cons_zero, List.set_cons_succ]
            refine tku 18 ?_
            try simp only [Act.put, List.setIfInBounds_toArray, List.set_cons_zero, List.set_cons_succ]
            refine tku 19 ?_
            try simp only [Act.put, List.setIfInBounds_toArray, List.set_cons_zero, List.set_cons_succ]
            refine tku 20 ?_
            try simp only [Act.put, List.setIfInBounds_toArray, List.set_cons_zero, List.set_cons_succ]
            refine tku 21 ?_
            try simp only [Act.put, List.setIfInBounds_toArray, List.set_cons_zero, List.set_cons_succ]
            refine tku 22 ?_
            try simp only [Act.put, List.setIfInBounds_toArray, List.set_cons_zero, List.set_cons_succ]
            refine tku 23 ?_
            try simp only [Act.put, List.setIfInBounds_toArray, List.set_cons_zero, List.set_cons_succ]
            refine tku 24 ?_
            try simp only [Act.put, List.setIfInBounds_toArray, List.set_cons_zero, List.set_cons_succ]
            refine tku 25 ?_
            try simp only [Act.put, List.setIfInBounds_toArray, List.set_cons_zero, List.set_cons_succ]
            refine tku 26 ?_
            try simp only [Act.put, List.setIfInBounds_toArray, List.set_cons_zero, List.set_cons_succ]
            refine tk 27 ?_
            try simp only [Act.put, List.setIfInBounds_toArray, List.set_cons_zero, List.set_cons_succ]
            refine wpAnyH_done (by kernel_rfl) ?_ _
            refine NoPanic.normal ?_
            clear hHeld
            go_wp2_with fail
            go_meet
            exact ⟨by rw [HZ.out], Lib.hid (KMap.Is.below PQ.out (Below.drew (Below.refl _ _))), Dots.keepC s1 (Below.drew (Below.refl _ _)), Dots.keepC f0 (Below.drew (Below.refl _ _)), Dots.keepC f1 (Below.drew (Below.refl _ _)), Below.drew hb⟩
          have q1 : (p == []) = false := by simpa using hp
          have q2 : p.isEmpty = false := by simpa using hp
          have q3 : decide (p = []) = false := decide_eq_false hp
          have q4 : (p.toArray == #[]) = false := by simpa using hp
          have HP := Lib.hid hp
          clear hp
          by_cases hq1 : q < 1
          · have e1 : decide ((q : Int) < 1) = true := decide_eq_true (by omega)
            have HZ : Hid (badD o3 ⟨p, q⟩ = true) := Lib.hid (by unfold badD; rw [decide_eq_true (show (⟨p, q⟩ : M).n < 1 from hq1)]; simp)
            clear hq1
            go_wp2_with fail
            refine wp_region_noPanic ?_
            refine wp_region_held_drew (S := (fun w' => w'.cell? ⟨db, 0, none⟩ = some (.string ⟨p.toArray⟩) ∧ w'.cell? ⟨db, 1, none⟩ = some (.int .u64 (q : Int)))) (by kernel_rfl) (⟨Dots.keepC f0 (Below.drew (Below.refl _ _)), Dots.keepC f1 (Below.drew (Below.refl _ _))⟩) (fun hHeld => ?_)
            refine tk 0 ?_
            try simp only [Act.put, List.setIfInBounds_toArray, List.set_cons_zero, List.set_cons_succ]
            refine tk 1 ?_
            try simp only [Act.put, List.setIfInBounds_toArray, List.set_cons_zero, List.set_cons_succ]
            refine tk 2 ?_
            try simp only [Act.put, List.setIfInBounds_toArray, List.set_cons_zero, List.set_cons_succ]
            refine tk 3 ?_
            try simp only [Act.put, List.setIfInBounds_toArray, List.set_cons_zero, List.set_cons_succ]
            refine tk 4 ?_
            try simp only [Act.put, List.setIfInBounds_toArray, List.set_cons_zero, List.set_cons_succ]
            refine tk 5 ?_
            try simp only [Act.put, List.setIfInBounds_toArray, List.set_cons_zero, List.set_cons_succ]
            refine tk 6 ?_
            try simp only [Act.put, List.setIfInBounds_toArray, List.set_cons_zero, List.set_cons_succ]
            refine tk 7 ?_
            try simp only [Act.put, List.setIfInBounds_toArray, List.set_cons_zero, List.set_cons_succ]
            refine tk 8 ?_
            try simp only [Act.put, List.setIfInBounds_toArray, List.set_cons_zero, List.set_cons_succ]
            refine tku 9 ?_
            try simp only [Act.put, List.setIfInBounds_toArray, List.set_cons_zero, List.set_cons_succ]
            refine tku 10 ?_
            try simp only [Act.put, List.setIfInBounds_toArray, List.set_cons_zero, List.set_cons_succ]
            refine tku 11 ?_
            try simp only [Act.put, List.setIfInBounds_toArray, List.set_cons_zero, List.set_cons_succ]
            refine tk 12 ?_
            try simp only [Act.put, List.setIfInBounds_toArray, List.set_cons_zero, List.set_cons_succ]
            refine tk 13 ?_
            try simp only [Act.put, List.setIfInBounds_toArray, List.set_cons_zero, List.set_cons_succ]
            refine tku 14 ?_
            try simp only [Act.put, List.setIfInBounds_toArray, List.set_cons_zero, List.set_cons_succ]
            refine tku 15 ?_
            try simp only [Act.put, List.setIfInBounds_toArray, List.set_cons_zero, List.set_cons_succ]
            refine tku 16 ?_
            try simp only [Act.put, List.setIfInBounds_toArray, List.set_cons_zero, List.set_cons_succ]
            refine tku 17 ?_
            try simp only [Act.put, List.setIfInBounds_toArray, List.set_cons_zero, List.set_cons_succ]
            refine tku 18 ?_
            try simp only [Act.put, List.setIfInBounds_toArray, List.set_cons_zero, List.set_cons_succ]
            refine tku 19 ?_
            try simp only [Act.put, List.setIfInBounds_toArray, List.set_cons_zero, List.set_cons_succ]
            refine tku 20 ?_
            try simp only [Act.put, List.setIfInBounds_toArray, List.set_cons_zero, List.set_cons_succ]
            refine tku 21 ?_
            try simp only [Act.put, List.setIfInBounds_toArray, List.set_cons_zero, List.set_cons_succ]
            refine tku 22 ?_
            try simp only [Act.put, List.setIfInBounds_toArray, List.set_cons_zero, List.set_cons_succ]
            refine tku 23 ?_
            try simp only [Act.put, List.setIfInBounds_toArray, List.set_cons_zero, List.set_cons_succ]
            refine tku 24 ?_
            try simp only [Act.put, List.setIfInBounds_toArray, List.set_cons_zero, List.set_cons_succ]
            refine tku 25 ?_
            try simp only [Act.put, List.setIfInBounds_toArray, List.set_cons_zero, List.set_cons_succ]
            refine tku 26 ?_
            try simp only [Act.put, List.setIfInBounds_toArray, List.set_cons_zero, List.set_cons_succ]
            refine tk 27 ?_
            try simp only [Act.put, List.setIfInBounds_toArray, List.set_cons_zero, List.set_cons_succ]
            refine wpAnyH_done (by kernel_rfl) ?_ _
            refine NoPanic.normal ?_
            clear hHeld
            go_wp2_with fail
            go_meet
            exact ⟨by rw [HZ.out], Lib.hid (KMap.Is.below PQ.out (Below.drew (Below.refl _ _))), Dots.keepC s1 (Below.drew (Below.refl _ _)), Dots.keepC f0 (Below.drew (Below.refl _ _)), Dots.keepC f1 (Below.drew (Below.refl _ _)), Below.drew hb⟩
          have e1 : decide ((q : Int) < 1) = false := decide_eq_false (by omega)
          by_cases hq2 : 281474976710656 < q
          · have e2 : decide ((281474976710656 : Int) < (q : Int)) = true := decide_eq_true (by omega)
            have HZ : Hid (badD o3 ⟨p, q⟩ = true) := Lib.hid (by unfold badD; rw [decide_eq_true (show 281474976710656 < (⟨p, q⟩ : M).n from hq2)]; simp)
            clear hq1 hq2
            go_wp2_with fail
            refine wp_region_noPanic ?_
            refine wp_region_held_drew (S := (fun w' => w'.cell? ⟨db, 0, none⟩ = some (.string ⟨p.toArray⟩) ∧ w'.cell? ⟨db, 1, none⟩ = some (.int .u64 (q : Int)))) (by kernel_rfl) (⟨Dots.keepC f0 (Below.drew (Below.refl _ _)), Dots.keepC f1 (Below.drew (Below.refl _ _))⟩) (fun hHeld => ?_)
            refine tk 0 ?_
            try simp only [Act.put, List.setIfInBounds_toArray, List.set_cons_zero, List.set_cons_succ]
            refine tk 1 ?_
            try simp only [Act.put, List.setIfInBounds_toArray, List.set_cons_zero, List.set_cons_succ]
            refine tk 2 ?_
            try simp only [Act.put, List.setIfInBounds_toArray, List.set_cons_zero, List.set_cons_succ]
            refine tk 3 ?_
            try simp only [Act.put, List.setIfInBounds_toArray, List.set_cons_zero, List.set_cons_succ]
            refine tk 4 ?_
            try simp only [Act.put, List.setIfInBounds_toArray, List.set_cons_zero, List.set_cons_succ]
            refine tk 5 ?_
            try simp only [Act.put, List.setIfInBounds_toArray, List.set_cons_zero, List.set_cons_succ]
            refine tk 6 ?_
            try simp only [Act.put, List.setIfInBounds_toArray, List.set_cons_zero, List.set_cons_succ]
            refine tk 7 ?_
            try simp only [Act.put, List.setIfInBounds_toArray, List.set_cons_zero, List.set_cons_succ]
            refine tk 8 ?_
            try simp only [Act.put, List.setIfInBounds_toArray, List.set_cons_zero, List.set_cons_succ]
            refine tk 9 ?_
            try simp only [Act.put, List.setIfInBounds_toArray, List.set_cons_zero, List.set_cons_succ]
            refine tk 10 ?_
            try simp only [Act.put, List.setIfInBounds_toArray, List.set_cons_zero, List.set_cons_succ]
            refine tk 11 ?_
            try simp only [Act.put, List.setIfInBounds_toArray, List.set_cons_zero, List.set_cons_succ]
            refine tk 12 ?_
            try simp only [Act.put, List.setIfInBounds_toArray, List.set_cons_zero, List.set_cons_succ]
            refine tk 13 ?_
            try simp only [Act.put, List.setIfInBounds_toArray, List.set_cons_zero, List.set_cons_succ]
            refine tku 14 ?_
            try simp only [Act.put, List.setIfInBounds_toArray, List.set_cons_zero, List.set_cons_succ]
            refine tku 15 ?_
            try simp only [Act.put, List.setIfInBounds_toArray, List.set_cons_zero, List.set_cons_succ]
            refine tku 16 ?_
            try simp only [Act.put, List.setIfInBounds_toArray, List.set_cons_zero, List.set_cons_succ]
            refine tku 17 ?_
            try simp only [Act.put, List.setIfInBounds_toArray, List.set_cons_zero, List.set_cons_succ]
            refine tku 18 ?_
            try simp only [Act.put, List.setIfInBounds_toArray, List.set_cons_zero, List.set_cons_succ]
            refine tku 19 ?_
            try simp only [Act.put, List.setIfInBounds_toArray, List.set_cons_zero, List.set_cons_succ]
            refine tku 20 ?_
            try simp only [Act.put, List.setIfInBounds_toArray, List.set_cons_zero, List.set_cons_succ]
            refine tku 21 ?_
            try simp only [Act.put, List.setIfInBounds_toArray, List.set_cons_zero, List.set_cons_succ]
            refine tku 22 ?_
            try simp only [Act.put, List.setIfInBounds_toArray, List.set_cons_zero, List.set_cons_succ]
            refine tku 23 ?_
            try simp only [Act.put, List.setIfInBounds_toArray, List.set_cons_zero, List.set_cons_succ]
            refine tku 24 ?_
            try simp only [Act.put, List.setIfInBounds_toArray, List.set_cons_zero, List.set_cons_succ]
            refine tku 25 ?_
            try simp only [Act.put, List.setIfInBounds_toArray, List.set_cons_zero, List.set_cons_succ]
            refine tku 26 ?_
            try simp only [Act.put, List.setIfInBounds_toArray, List.set_cons_zero, List.set_cons_succ]
            refine tk 27 ?_
            try simp only [Act.put, List.setIfInBounds_toArray, List.set_cons_zero, List.set_cons_succ]
            refine wpAnyH_done (by kernel_rfl) ?_ _
            refine NoPanic.normal ?_
            clear hHeld
            go_wp2_with fail
            go_meet
            exact ⟨by rw [HZ.out], Lib.hid (KMap.Is.below PQ.out (Below.drew (Below.refl _ _))), Dots.keepC s1 (Below.drew (Below.refl _ _)), Dots.keepC f0 (Below.drew (Below.refl _ _)), Dots.keepC f1 (Below.drew (Below.refl _ _)), Below.drew hb⟩
          have e2 : decide ((281474976710656 : Int) < (q : Int)) = false := decide_eq_false (by omega)
          have HB3 : Hid (badD o3 ⟨p, q⟩ = beh o3 ⟨p, q⟩) := Lib.hid (by unfold badD; rw [decide_eq_false (show ¬ (⟨p, q⟩ : M).p = [] from HP.out), decide_eq_false (show ¬ (⟨p, q⟩ : M).n < 1 from hq1), decide_eq_false (show ¬ 281474976710656 < (⟨p, q⟩ : M).n from hq2)]; simp)
          clear hq1 hq2
          by_cases hj0 : j = 0
          · have z1 : decide ((0 : Int) < (j : Int)) = false := decide_eq_false (by omega); have z1n : decide (0 < j) = false := decide_eq_false (by omega)
            have HZ : Hid (badD o3 ⟨p, q⟩ = false) := Lib.hid (by rw [HB3.out, HO3.out, hj0]; rfl)
            clear hj0 HPM
            go_wp2_with fail
            refine wp_region_noPanic ?_
            refine wp_region_held_drew (S := (fun w' => w'.cell? ⟨db, 0, none⟩ = some (.string ⟨p.toArray⟩) ∧ w'.cell? ⟨db, 1, none⟩ = some (.int .u64 (q : Int)))) (by kernel_rfl) (⟨Dots.keepC f0 (Below.drew (Below.refl _ _)), Dots.keepC f1 (Below.drew (Below.refl _ _))⟩) (fun hHeld => ?_)
            refine tk 0 ?_
            try simp only [Act.put, List.setIfInBounds_toArray, List.set_cons_zero, List.set_cons_succ]
            refine tk 1 ?_
            try simp only [Act.put, List.setIfInBounds_toArray, List.set_cons_zero, List.set_cons_succ]
            refine tk 2 ?_
            try simp only [Act.put, List.setIfInBounds_toArray, List.set_cons_zero, List.set_cons_succ]
            refine tk 3 ?_
            try simp only [Act.put, List.setIfInBounds_toArray, List.set_cons_zero, List.set_cons_succ]
            refine tk 4 ?_
            try simp only [Act.put, List.setIfInBounds_toArray, List.set_cons_zero, List.set_cons_succ]
            refine tk 5 ?_
            try simp only [Act.put, List.setIfInBounds_toArray, List.set_cons_zero, List.set_cons_succ]
            refine tk 6 ?_
            try simp only [Act.put, List.setIfInBounds_toArray, List.set_cons_zero, List.set_cons_succ]
            refine tk 7 ?_
            try simp only [Act.put, List.setIfInBounds_toArray, List.set_cons_zero, List.set_cons_succ]
            refine tk 8 ?_
            try simp only [Act.put, List.setIfInBounds_toArray, List.set_cons_zero, List.set_cons_succ]
            refine tk 9 ?_
            try simp only [Act.put, List.setIfInBounds_toArray, List.set_cons_zero, List.set_cons_succ]
            refine tk 10 ?_
            try simp only [Act.put, List.setIfInBounds_toArray, List.set_cons_zero, List.set_cons_succ]
            refine tk 11 ?_
            try simp only [Act.put, List.setIfInBounds_toArray, List.set_cons_zero, List.set_cons_succ]
            refine tk 12 ?_
            try simp only [Act.put, List.setIfInBounds_toArray, List.set_cons_zero, List.set_cons_succ]
            refine tk 13 ?_
            try simp only [Act.put, List.setIfInBounds_toArray, List.set_cons_zero, List.set_cons_succ]
            refine tk 14 ?_
            try simp only [Act.put, List.setIfInBounds_toArray, List.set_cons_zero, List.set_cons_succ]
            refine tk 15 ?_
            try simp only [Act.put, List.setIfInBounds_toArray, List.set_cons_zero, List.set_cons_succ]
            refine tk 16 ?_
            try simp only [Act.put, List.setIfInBounds_toArray, List.set_cons_zero, List.set_cons_succ]
            refine tku 17 ?_
            try simp only [Act.put, List.setIfInBounds_toArray, List.set_cons_zero, List.set_cons_succ]
            refine tku 18 ?_
            try simp only [Act.put, List.setIfInBounds_toArray, List.set_cons_zero, List.set_cons_succ]
            refine tku 19 ?_
            try simp only [Act.put, List.setIfInBounds_toArray, List.set_cons_zero, List.set_cons_succ]
            refine tku 20 ?_
            try simp only [Act.put, List.setIfInBounds_toArray, List.set_cons_zero, List.set_cons_succ]
            refine tku 21 ?_
            try simp only [Act.put, List.setIfInBounds_toArray, List.set_cons_zero, List.set_cons_succ]
            refine tku 22 ?_
            try simp only [Act.put, List.setIfInBounds_toArray, List.set_cons_zero, List.set_cons_succ]
            refine tku 23 ?_
            try simp only [Act.put, List.setIfInBounds_toArray, List.set_cons_zero, List.set_cons_succ]
            refine tku 24 ?_
            try simp only [Act.put, List.setIfInBounds_toArray, List.set_cons_zero, List.set_cons_succ]
            refine tku 25 ?_
            try simp only [Act.put, List.setIfInBounds_toArray, List.set_cons_zero, List.set_cons_succ]
            refine tk 26 ?_
            try simp only [Act.put, List.setIfInBounds_toArray, List.set_cons_zero, List.set_cons_succ]
            refine tk 27 ?_
            try simp only [Act.put, List.setIfInBounds_toArray, List.set_cons_zero, List.set_cons_succ]
            refine wpAnyH_done (by kernel_rfl) ?_ _
            refine NoPanic.normal ?_
            clear hHeld
            go_wp2_with fail
            go_meet
            exact ⟨by rw [HZ.out], Lib.hid (KMap.Is.below PQ.out (Below.drew (Below.refl _ _))), Dots.keepC s1 (Below.drew (Below.refl _ _)), Dots.keepC f0 (Below.drew (Below.refl _ _)), Dots.keepC f1 (Below.drew (Below.refl _ _)), Below.drew hb⟩
          · obtain ⟨k', hk'⟩ : ∃ k', j = k' + 1 := ⟨j - 1, by omega⟩
            obtain ⟨pm, hpm, g0, g1⟩ := HPM.out k' hk'
            obtain ⟨pp, pn⟩ := pm
            simp only at g0 g1
            have z1 : decide ((0 : Int) < (j : Int)) = true := decide_eq_true (by omega); have z1n : decide (0 < j) = true := decide_eq_true (by omega)
            have w1 : IntKind.i64.wrap ((j : Int) - 1) = (k' : Int) := by rw [IntKind.wrap_i64]; have := HLN.out; omega
            have j5 : (0 : Int) ≤ (k' : Int) := by omega
            have j6 : (k' : Int) < (nd : Int) := by omega
            obtain ⟨cz, hcz⟩ : ∃ z, z = cmpD ⟨pp, pn⟩ ⟨p, q⟩ := ⟨_, rfl⟩
            have CM := Lib.hid (fun W => compare_any ⟨pp, pn⟩ ⟨p, q⟩ W)
            rw [← hcz] at CM
            have HZ : Hid (badD o3 ⟨p, q⟩ = decide ((0 : Int) ≤ cz)) := Lib.hid (by
              rw [HB3.out, hpm, hcz]
              exact not_dl _ _)
            clear hj0 HPM hpm hk' hcz
            go_wp2_with fail
            refine wp_region_noPanic ?_
            refine wp_region_held_drew (S := (fun w' => Below wd.heap.size wd w' ∧ w'.cell? ⟨db, 0, none⟩ = some (.string ⟨p.toArray⟩) ∧ w'.cell? ⟨db, 1, none⟩ = some (.int .u64 (q : Int)) ∧ w'.cell? ⟨sb, 1, none⟩ = some (.slice (some ⟨b2, o2, none⟩) nd xc) ∧ w'.cell? ⟨b2, o2 + k' * 2, none⟩ = some (.string ⟨pp.toArray⟩) ∧ w'.cell? ⟨b2, o2 + k' * 2 + 1, none⟩ = some (.int .u64 (pn : Int)))) (by kernel_rfl) (⟨(Below.drew (Below.refl _ _)), Dots.keepC f0 (Below.drew (Below.refl _ _)), Dots.keepC f1 (Below.drew (Below.refl _ _)), Dots.keepC s1 (Below.drew (Below.refl _ _)), Dots.keepC g0 (Below.drew (Below.refl _ _)), Dots.keepC g1 (Below.drew (Below.refl _ _))⟩) (fun hHeld => ?_)
            refine tk 0 ?_
            try simp only [Act.put, List.setIfInBounds_toArray, List.set_cons_zero, List.set_cons_succ]
            refine tk 1 ?_
            try simp only [Act.put, List.setIfInBounds_toArray, List.set_cons_zero, List.set_cons_succ]
            refine tk 2 ?_
            try simp only [Act.put, List.setIfInBounds_toArray, List.set_cons_zero, List.set_cons_succ]
            refine tk 3 ?_
            try simp only [Act.put, List.setIfInBounds_toArray, List.set_cons_zero, List.set_cons_succ]
            refine tk 4 ?_
            try simp only [Act.put, List.setIfInBounds_toArray, List.set_cons_zero, List.set_cons_succ]
            refine tk 5 ?_
            try simp only [Act.put, List.setIfInBounds_toArray, List.set_cons_zero, List.set_cons_succ]
            refine tk 6 ?_
            try simp only [Act.put, List.setIfInBounds_toArray, List.set_cons_zero, List.set_cons_succ]
            refine tk 7 ?_
            try simp only [Act.put, List.setIfInBounds_toArray, List.set_cons_zero, List.set_cons_succ]
            refine tk 8 ?_
            try simp only [Act.put, List.setIfInBounds_toArray, List.set_cons_zero, List.set_cons_succ]
            refine tk 9 ?_
            try simp only [Act.put, List.setIfInBounds_toArray, List.set_cons_zero, List.set_cons_succ]
            refine tk 10 ?_
            try simp only [Act.put, List.setIfInBounds_toArray, List.set_cons_zero, List.set_cons_succ]
            refine tk 11 ?_
            try simp only [Act.put, List.setIfInBounds_toArray, List.set_cons_zero, List.set_cons_succ]
            refine tk 12 ?_
            try simp only [Act.put, List.setIfInBounds_toArray, List.set_cons_zero, List.set_cons_succ]
            refine tk 13 ?_
            try simp only [Act.put, List.setIfInBounds_toArray, List.set_cons_zero, List.set_cons_succ]
            refine tk 14 ?_
            try simp only [Act.put, List.setIfInBounds_toArray, List.set_cons_zero, List.set_cons_succ]
            refine tk 15 ?_
            try simp only [Act.put, List.setIfInBounds_toArray, List.set_cons_zero, List.set_cons_succ]
            refine tk 16 ?_
            try simp only [Act.put, List.setIfInBounds_toArray, List.set_cons_zero, List.set_cons_succ]
            refine tk 17 ?_
            try simp only [Act.put, List.setIfInBounds_toArray, List.set_cons_zero, List.set_cons_succ]
            refine tk 18 ?_
            try simp only [Act.put, List.setIfInBounds_toArray, List.set_cons_zero, List.set_cons_succ]
            refine tk 19 ?_
            try simp only [Act.put, List.setIfInBounds_toArray, List.set_cons_zero, List.set_cons_succ]
            refine tk 20 ?_
            try simp only [Act.put, List.setIfInBounds_toArray, List.set_cons_zero, List.set_cons_succ]
            refine tk 21 ?_
            try simp only [Act.put, List.setIfInBounds_toArray, List.set_cons_zero, List.set_cons_succ]
            refine tk 22 ?_
            try simp only [Act.put, List.setIfInBounds_toArray, List.set_cons_zero, List.set_cons_succ]
            refine tk 23 ?_
            try simp only [Act.put, List.setIfInBounds_toArray, List.set_cons_zero, List.set_cons_succ]
            refine wpAnyH_ready (rs := [24]) (by kernel_rfl) (by simp) ?_
            refine AllReadyH.cons (by simp only [List.getElem?_toArray, List.getElem?_cons_succ, List.getElem?_cons_zero]; rfl) (fun K hK => ?_) AllReadyH.nil
            go_simp
            go_at_call 72
            refine (CM.out _).mono ?_
            rintro e w9 ⟨rfl, k9⟩
            go_wp2_with fail
            refine hK.out _ _ (⟨bstep hHeld.1 k9, Dots.keepC hHeld.2.1 k9, Dots.keepC hHeld.2.2.1 k9, Dots.keepC hHeld.2.2.2.1 k9, Dots.keepC hHeld.2.2.2.2.1 k9, Dots.keepC hHeld.2.2.2.2.2 k9⟩) (fun hHeld => ?_)
            clear hK K
            try simp only [Act.put, List.setIfInBounds_toArray, List.set_cons_zero, List.set_cons_succ]
            refine tk 25 ?_
            try simp only [Act.put, List.setIfInBounds_toArray, List.set_cons_zero, List.set_cons_succ]
            refine tk 26 ?_
            try simp only [Act.put, List.setIfInBounds_toArray, List.set_cons_zero, List.set_cons_succ]
            refine tk 27 ?_
            try simp only [Act.put, List.setIfInBounds_toArray, List.set_cons_zero, List.set_cons_succ]
            refine wpAnyH_done (by kernel_rfl) ?_ _
            refine NoPanic.normal ?_
            have kH := hHeld.1
            clear hHeld k9
            go_wp2_with fail
            go_meet
            exact ⟨by rw [HZ.out], Lib.hid (KMap.Is.below PQ.out kH), Dots.keepC s1 kH, Dots.keepC f0 kH, Dots.keepC f1 kH, bstep hb kH⟩
        clear PQ s1 hb f0 f1 HPM
        obtain ⟨rfl, PQ, s1, f0, f1, hb⟩ := hcut
        obtain ⟨z, hz⟩ : ∃ z, z = badD o3 ⟨p, q⟩ := ⟨_, rfl⟩
        rw [← hz] at HGN ⊢
        clear hz
        cases z with
        | true =>
          have HE : Hid (mayB (J.map RI.it) = false) := Lib.hid (by rw [HGN.out]; rfl)
          go_wp2
          go_ret
          exact ⟨by rw [HE.out]; rfl, hb⟩
        | false =>
          obtain ⟨z2, hz2⟩ : ∃ z, z = decide ((⟨p, q⟩ : M) ∈ U) := ⟨_, rfl⟩
          have HZ1 : Hid ((setF U ⟨p, q⟩).isSome = z2) := Lib.hid (by rw [setF_some, hz2])
          have HZU : Hid ((setF U ⟨p, q⟩).getD (.agg #[]) = .agg #[]) := Lib.hid (by unfold setF; split <;> rfl)
          rw [← hz2] at HGN
          clear hz2
          go_upto_region 13 with (at_lookup; refine KMap.wpList_look_ok (C := dotsC) Tryz.underlying119 zero_unit rfl _ _ rfl mb U.length (setF U) ⟨p, q⟩ rfl PQ.out rfl HFQ.out (.agg #[]) HZU.out z2 HZ1.out ?_)
          have kU := balloc (Below.refl wc.heap.size wc) (.cells #[] 121)
          obtain ⟨ws, hws⟩ : ∃ v, v = wc.alloc (.cells #[] 121) := ⟨_, rfl⟩
          rw [← hws] at kU ⊢
          replace f0 := Dots.keepC f0 kU
          replace f1 := Dots.keepC f1 kU
          replace s1 := Dots.keepC s1 kU
          replace hb := bstep hb kU
          replace PQ : Hid (DS ws mb U.length U) := Lib.hid (KMap.Is.below PQ.out kU)
          clear kU hws
          cases z2 with
          | true =>
            have HE : Hid (mayB (J.map RI.it) = false) := Lib.hid (by rw [HGN.out]; rfl)
            go_wp2
            go_ret
            exact ⟨by rw [HE.out]; rfl, hb⟩
          | false =>
            go_wp2_with (at_mapUpdate; refine KMap.wpList_put (C := dotsC) Tryz.underlying119 rfl _ _ _ rfl mb U.length (setF U) ⟨p, q⟩ unit rfl PQ.out (by have := HVL.out; unfold maxLen; omega) rfl HFQ.out rfl ?_; intro w9 S9 k9)
            have PQ9 : Hid (DS w9 mb (V ++ d.take (j + 1)).length (V ++ d.take (j + 1))) := Lib.hid (by
              have h1 := DS.put S9
              rw [HT2.out] at h1
              have h2 : (V ++ d.take (j + 1)).length = U.length + 1 := by rw [← HT2.out, List.length_append]; rfl
              rw [h2]
              exact h1)
            have HG9 : Hid (mayB (J.map RI.it) = (dotsGo (V ++ d.take (j + 1)) (pM d (j + 1)) (d.drop (j + 1)) && mayGo (V ++ d) (pT (J.map RI.it) (i + 1)) ((J.map RI.it).drop (i + 1)))) := Lib.hid (by rw [HGN.out]; rfl)
            have s9 := ((but_grown k9).cell (p := ⟨sb, 1, none⟩) (World.block_lt_of_cell? _ _ s1) HSB.out).trans s1
            have hb9 := But.below hb (but_grown k9) HMB.out hb.size
            clear S9 k9
            have hjw : wrap64 ((j : Int) + 1) = ((j + 1 : Nat) : Int) := by have := HJ1.out; have := HLN.out; unfold wrap64; omega
            go_roundw
            case rel => exact ⟨j + 1, by have := HJ1.out; omega, by rw [hjw], PQ9, HG9, s9, hb9⟩
            case measure => rw [hjw]; have := HJ1.out; simp only [intOf]; omega
end Bag
end Go.Proofs.YtnpjkmomllkhpaaGreat
