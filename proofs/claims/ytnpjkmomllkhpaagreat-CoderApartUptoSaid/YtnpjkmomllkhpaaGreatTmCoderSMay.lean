/- state.May, coder.mayDelta. -/
import Derived.Test.YtnpjkmomllkhpaaGreatTake
import Derived.Test.YtnpjkmomllkhpaaGreatTmCoderEMay
import Derived.Test.YtnpjkmomllkhpaaGreatTmDotJ
namespace Go.Proofs.YtnpjkmomllkhpaaGreat
namespace Coder
open Go.RowKit Go.Proofs.YtnpjkmomllkhpaaGreat.Mark Go.Proofs.YtnpjkmomllkhpaaGreat.Num Go.Proofs.YtnpjkmomllkhpaaGreat.Wire Go.Proofs.YtnpjkmomllkhpaaGreat.Bag Go.Proofs.YtnpjkmomllkhpaaGreat.Dots
theorem cov_any (L K : List M) (a1 a2 : Option Addr) (n1 n2 c1 c2 : Nat) (w : World) (hL : Mark.Lies w a1 n1 L) (hK : Mark.Lies w a2 n2 K) (hn1 : n1 ≤ 1099511627776) (hn2 : n2 ≤ 1099511627776) :
    Calls Tryz.prog 83 #[.slice a1 n1 c1, .slice a2 n2 c2] w fun e w' => e = .returned (.bool (covB L K)) ∧ Below w.heap.size w w' :=
  (covers_any L K a1 a2 n1 n2 c1 c2 w hL hK hn1 hn2).mono fun e w' ⟨r', he, hr, hb⟩ => ⟨by rw [he]; congr 2; rw [Bool.eq_iff_iff, hr, cov_iff], hb⟩
def pE (L : List RE) (k : Nat) : Option (List UInt8) := if k = 0 then none else (L[k - 1]?).map RE.k
theorem pE_next {L : List RE} {k : Nat} (h : k < L.length) : pE L (k + 1) = some L[k].k := by
  unfold pE
  rw [if_neg (by omega), Nat.add_sub_cancel, List.getElem?_eq_getElem h]
  rfl
def mayRs (s : List M) : Option (List UInt8) → List RE → Bool
  | _, [] => true
  | o, e :: l => (mayE e.e && (!befT o e.k && covB s e.s)) && mayRs s (some e.k) l
theorem mayRs_is (s : List M) : ∀ (o : Option (List UInt8)) (L : List RE), mayEs s o (L.map RE.e) = mayRs s o L
  | _, [] => rfl
  | o, e :: l => by
    show ((mayE e.e && (!befT o e.k && covB s e.s)) && mayEs s (some e.k) (l.map RE.e)) = ((mayE e.e && (!befT o e.k && covB s e.s)) && mayRs s (some e.k) l)
    rw [mayRs_is s (some e.k) l]
theorem mayRs_step (s : List M) {L : List RE} {k : Nat} (h : k < L.length) : mayRs s (pE L k) (L.drop k) = ((mayE L[k].e && (!befT (pE L k) L[k].k && covB s L[k].s)) && mayRs s (pE L (k + 1)) (L.drop (k + 1))) := by
  rw [List.drop_eq_getElem_cons h, pE_next h]; rfl
def pW (L : List (List UInt8)) (k : Nat) : Option (List UInt8) := if k = 0 then none else L[k - 1]?
theorem pW_next {L : List (List UInt8)} {k : Nat} (h : k < L.length) : pW L (k + 1) = some L[k] := by
  unfold pW
  rw [if_neg (by omega), Nat.add_sub_cancel, List.getElem?_eq_getElem h]
theorem mayPr_step (s : List M) {L : List (List UInt8)} {k : Nat} (h : k < L.length) : mayPr s (pW L k) (L.drop k) = ((!decide (L[k] = []) && (!befT (pW L k) L[k] && decide (ofL s L[k] = 0))) && mayPr s (pW L (k + 1)) (L.drop (k + 1))) := by
  rw [List.drop_eq_getElem_cons h, pW_next h]; rfl
/-- What bag.May asks of entries. -/
def RS.Fine (x : RS) : Prop := ∀ y ∈ x.e, Bag.Fine (y.j.map RI.it)
set_option maxRecDepth 100000 in
set_option maxHeartbeats 40000000 in
theorem mayS_any (x : RS) (w : World) (hx : InnerS w x) (ox : x.Ok) (of : x.Fine) :
    Calls Tryz.prog 52 #[.agg #[.slice x.aa x.a.length x.ac, .slice x.ea x.e.length x.ec, .slice x.pa x.p.length x.pc]] w fun e w' => e = .returned (.bool (mayS x.s)) ∧ Below w.heap.size w w' := by
  have lx := Lib.hid hx
  have OX := Lib.hid ox
  have OF := Lib.hid of
  have hne := ox.e
  have hnp := ox.p
  clear hx ox of
  obtain ⟨q0, hq0⟩ : ∃ q, q = mayL x.a := ⟨_, rfl⟩
  have HV : Hid (mayS x.s = (q0 && (mayRs x.a none x.e && mayPr x.a none x.p))) := Lib.hid (by rw [hq0, ← mayRs_is]; rfl)
  have C0 := Lib.hid (fun W (hx : InnerS W x) => (by rw [hq0]; exact Dots.may_any x.a x.aa x.a.length x.ac W hx.a (by have := OX.out.a; omega) (ok_of OX.out.am) : Calls Tryz.prog 34 #[.slice x.aa x.a.length x.ac] W fun e W' => e = .returned (.bool q0) ∧ Below W.heap.size W W'))
  clear hq0
  go_enter Tryz.func52, Tryz.ntmps52
  go_upto_region 1 with (fail)
  have hb0 := balloc (Below.refl w.heap.size w) (.cells #[.slice x.aa x.a.length x.ac, .slice x.ea x.e.length x.ec, .slice x.pa x.p.length x.pc] 33)
  have p0 := box_cells w #[.slice x.aa x.a.length x.ac, .slice x.ea x.e.length x.ec, .slice x.pa x.p.length x.pc] 33 0 (.slice x.aa x.a.length x.ac) rfl
  have p1 := box_cells w #[.slice x.aa x.a.length x.ac, .slice x.ea x.e.length x.ec, .slice x.pa x.p.length x.pc] 33 1 (.slice x.ea x.e.length x.ec) rfl
  have p2 := box_cells w #[.slice x.aa x.a.length x.ac, .slice x.ea x.e.length x.ec, .slice x.pa x.p.length x.pc] 33 2 (.slice x.pa x.p.length x.pc) rfl
  obtain ⟨w0, hw0⟩ : ∃ v, v = (w.alloc (.cells #[.slice x.aa x.a.length x.ac, .slice x.ea x.e.length x.ec, .slice x.pa x.p.length x.pc] 33)) := ⟨_, rfl⟩
  rw [← hw0] at hb0 p0 p1 p2 ⊢
  obtain ⟨bp, hbp⟩ : ∃ b, b = w.heap.size := ⟨_, rfl⟩
  rw [← hbp] at p0 p1 p2 ⊢
  have hb := hb0
  clear hb0 hw0 hbp
  replace lx := Lib.hid (lx.out.below hb)
  go_wp2_with fail
  refine (C0.out _ lx.out).mono ?_
  rintro e v1 ⟨rfl, k1⟩
  replace p0 := (Coder.keepC p0 k1)
  replace p1 := (Coder.keepC p1 k1)
  replace p2 := (Coder.keepC p2 k1)
  replace lx := Lib.hid ((lx.out).below k1)
  replace hb := bstep hb k1
  clear k1
  clear C0
  cases q0
  · have HV2 : Hid (mayS x.s = false) := Lib.hid (by rw [HV.out]; rfl)
    go_wp2
    go_ret
    exact ⟨by rw [HV2.out]; rfl, hb⟩
  obtain ⟨U, hU⟩ : ∃ U, U = mayPr x.a none x.p := ⟨_, rfl⟩
  have HV0 : Hid (mayS x.s = (mayRs x.a (pE x.e 0) (x.e.drop 0) && U)) := Lib.hid (by rw [HV.out, hU]; rfl)
  have HU := Lib.hid hU
  clear HV hU
  go_wp2_with fail
  go_loopw [14] (fun iv wr => ∃ i : Nat, i ≤ x.e.length ∧ iv = .int .i64 i ∧ Hid (mayS x.s = (mayRs x.a (pE x.e i) (x.e.drop i) && U)) ∧ Below w.heap.size w wr ∧ (wr.cell? ⟨bp, 0, none⟩ = some (.slice x.aa x.a.length x.ac)) ∧ (wr.cell? ⟨bp, 1, none⟩ = some (.slice x.ea x.e.length x.ec)) ∧ (wr.cell? ⟨bp, 2, none⟩ = some (.slice x.pa x.p.length x.pc)) ∧ Hid (InnerS wr x)) (fun iv _ => x.e.length - (intOf iv).toNat)
  case atStart => exact ⟨0, by omega, rfl, HV0, hb, p0, p1, p2, lx⟩
  case round =>
    clear HV0 hb p0 p1 p2 lx
    obtain ⟨i, hi, rfl, HM, hb, p0, p1, p2, lx⟩ := hrel
    by_cases hlt : i < x.e.length
    · skip
      have d1 : decide ((i : Int) < (x.e.length : Int)) = true := decide_eq_true (by omega)
      have j1 : (0 : Int) ≤ (i : Int) := by omega
      have j2 : (i : Int) < (x.e.length : Int) := by omega
      obtain ⟨b, o, hea, hc⟩ := lx.out.e.1.2 (by omega)
      rw [hea]
      rw [hea] at p1
      have c0 : wr.cell? ⟨b, o + i * 7, none⟩ = some (.string ⟨(x.e[i]).k.toArray⟩) := hc i hlt 0 _ rfl
      have c1 : wr.cell? ⟨b, o + i * 7 + 1, none⟩ = some (.slice (x.e[i]).sa (x.e[i]).s.length (x.e[i]).sc) := hc i hlt 1 _ rfl
      have c2 : wr.cell? ⟨b, o + i * 7 + 2, none⟩ = some (.slice (x.e[i]).ca (x.e[i]).c.length (x.e[i]).cc) := hc i hlt 2 _ rfl
      have c3 : wr.cell? ⟨b, o + i * 7 + 3, none⟩ = some (.slice (x.e[i]).ia (x.e[i]).j.length (x.e[i]).ic) := hc i hlt 3 _ rfl
      have c4 : wr.cell? ⟨b, o + i * 7 + 4, none⟩ = some (.int .u64 ((x.e[i]).l.s : Int)) := hc i hlt 4 _ rfl
      have c5 : wr.cell? ⟨b, o + i * 7 + 5, none⟩ = some (.string ⟨(x.e[i]).l.t.toArray⟩) := hc i hlt 5 _ rfl
      have c6 : wr.cell? ⟨b, o + i * 7 + 6, none⟩ = some (.bool (x.e[i]).l.g) := hc i hlt 6 _ rfl
      have hst := mayRs_step x.a hlt
      have HPV : Hid (∀ k', i = k' + 1 → ∃ pv, pE x.e i = some pv ∧ wr.cell? ⟨b, o + k' * 7, none⟩ = some (.string ⟨pv.toArray⟩)) := Lib.hid (fun k' hk => by
        subst hk
        have hkl : k' < x.e.length := by omega
        exact ⟨(x.e[k']).k, pE_next hkl, hc k' hkl 0 _ rfl⟩)
      have ly : Hid (InnerE wr (x.e[i])) := Lib.hid (lx.out.e.2 _ (List.getElem_mem hlt))
      have OY := Lib.hid (OX.out.em _ (List.getElem_mem hlt))
      have FY := Lib.hid (OF.out _ (List.getElem_mem hlt))
      obtain ⟨y, hy⟩ : ∃ y, y = x.e[i] := ⟨_, rfl⟩
      rw [← hy] at hst ly OY FY c0 c1 c2 c3 c4 c5 c6
      obtain ⟨q1, hq1⟩ : ∃ q, q = mayE y.e := ⟨_, rfl⟩
      obtain ⟨r, hr⟩ : ∃ q, q = covB x.a y.s := ⟨_, rfl⟩
      have D0 := Lib.hid (fun W (h : InnerE W y) => (by rw [hq1]; exact mayE_any y W h OY.out.1 FY.out : Calls Tryz.prog 19 #[.agg #[.string ⟨y.k.toArray⟩, .slice y.sa y.s.length y.sc, .slice y.ca y.c.length y.cc, .slice y.ia y.j.length y.ic, .int .u64 (y.l.s : Int), .string ⟨y.l.t.toArray⟩, .bool y.l.g]] W fun e W' => e = .returned (.bool q1) ∧ Below W.heap.size W W'))
      have D1 := Lib.hid (fun W (h : InnerS W x) (h2 : InnerE W y) => (by rw [hr]; exact cov_any x.a y.s x.aa y.sa x.a.length y.s.length x.ac y.sc W h.a h2.s (by have := OX.out.a; omega) (by have := OY.out.1.s; omega) : Calls Tryz.prog 83 #[.slice x.aa x.a.length x.ac, .slice y.sa y.s.length y.sc] W fun e W' => e = .returned (.bool r) ∧ Below W.heap.size W W'))
      rw [← hq1, ← hr] at hst
      obtain ⟨o', ho'⟩ : ∃ o', o' = pE x.e i := ⟨_, rfl⟩
      rw [← ho'] at hst
      have HO' := Lib.hid ho'
      obtain ⟨bad, hbad⟩ : ∃ z, z = !(q1 && (!befT o' y.k && r)) := ⟨_, rfl⟩
      have HBD := Lib.hid hbad
      have HST : Hid (mayS x.s = ((!bad && mayRs x.a (pE x.e (i + 1)) (x.e.drop (i + 1))) && U)) := Lib.hid (by rw [HM.out, ← ho', hst, hbad, Bool.not_not])
      have HEA := Lib.hid hea
      have HI := Lib.hid hlt
      clear hc hy hst hlt HM hq1 hr OY FY ho' hbad hea
      go_upto_region 6 with (fail)
      have kS := balloc (Below.refl wr.heap.size wr) (.cells #[.string ⟨y.k.toArray⟩, .slice y.sa y.s.length y.sc, .slice y.ca y.c.length y.cc, .slice y.ia y.j.length y.ic, .int .u64 (y.l.s : Int), .string ⟨y.l.t.toArray⟩, .bool y.l.g] 29)
      have s0 := box_cells wr #[.string ⟨y.k.toArray⟩, .slice y.sa y.s.length y.sc, .slice y.ca y.c.length y.cc, .slice y.ia y.j.length y.ic, .int .u64 (y.l.s : Int), .string ⟨y.l.t.toArray⟩, .bool y.l.g] 29 0 (.string ⟨y.k.toArray⟩) rfl
      have s1 := box_cells wr #[.string ⟨y.k.toArray⟩, .slice y.sa y.s.length y.sc, .slice y.ca y.c.length y.cc, .slice y.ia y.j.length y.ic, .int .u64 (y.l.s : Int), .string ⟨y.l.t.toArray⟩, .bool y.l.g] 29 1 (.slice y.sa y.s.length y.sc) rfl
      have s2 := box_cells wr #[.string ⟨y.k.toArray⟩, .slice y.sa y.s.length y.sc, .slice y.ca y.c.length y.cc, .slice y.ia y.j.length y.ic, .int .u64 (y.l.s : Int), .string ⟨y.l.t.toArray⟩, .bool y.l.g] 29 2 (.slice y.ca y.c.length y.cc) rfl
      have s3 := box_cells wr #[.string ⟨y.k.toArray⟩, .slice y.sa y.s.length y.sc, .slice y.ca y.c.length y.cc, .slice y.ia y.j.length y.ic, .int .u64 (y.l.s : Int), .string ⟨y.l.t.toArray⟩, .bool y.l.g] 29 3 (.slice y.ia y.j.length y.ic) rfl
      have s4 := box_cells wr #[.string ⟨y.k.toArray⟩, .slice y.sa y.s.length y.sc, .slice y.ca y.c.length y.cc, .slice y.ia y.j.length y.ic, .int .u64 (y.l.s : Int), .string ⟨y.l.t.toArray⟩, .bool y.l.g] 29 4 (.int .u64 (y.l.s : Int)) rfl
      have s5 := box_cells wr #[.string ⟨y.k.toArray⟩, .slice y.sa y.s.length y.sc, .slice y.ca y.c.length y.cc, .slice y.ia y.j.length y.ic, .int .u64 (y.l.s : Int), .string ⟨y.l.t.toArray⟩, .bool y.l.g] 29 5 (.string ⟨y.l.t.toArray⟩) rfl
      have s6 := box_cells wr #[.string ⟨y.k.toArray⟩, .slice y.sa y.s.length y.sc, .slice y.ca y.c.length y.cc, .slice y.ia y.j.length y.ic, .int .u64 (y.l.s : Int), .string ⟨y.l.t.toArray⟩, .bool y.l.g] 29 6 (.bool y.l.g) rfl
      obtain ⟨sb, hsb⟩ : ∃ b, b = wr.heap.size := ⟨_, rfl⟩
      obtain ⟨ws, hws⟩ : ∃ v, v = wr.alloc (.cells #[.string ⟨y.k.toArray⟩, .slice y.sa y.s.length y.sc, .slice y.ca y.c.length y.cc, .slice y.ia y.j.length y.ic, .int .u64 (y.l.s : Int), .string ⟨y.l.t.toArray⟩, .bool y.l.g] 29) := ⟨_, rfl⟩
      rw [← hws] at kS s0 s1 s2 s3 s4 s5 s6 ⊢
      rw [← hsb] at s0 s1 s2 s3 s4 s5 s6 ⊢
      replace HPV : Hid (∀ k', i = k' + 1 → ∃ pv, pE x.e i = some pv ∧ ws.cell? ⟨b, o + k' * 7, none⟩ = some (.string ⟨pv.toArray⟩)) := Lib.hid (fun k' hk => by
        obtain ⟨pv, h1, h2⟩ := HPV.out k' hk
        exact ⟨pv, h1, Coder.keepC h2 kS⟩)
      replace p0 := (Coder.keepC p0 kS)
      replace p1 := (Coder.keepC p1 kS)
      replace p2 := (Coder.keepC p2 kS)
      replace lx := Lib.hid ((lx.out).below kS)
      replace ly := Lib.hid ((ly.out).below kS)
      replace hb := bstep hb kS
      clear kS hsb hws c0 c1 c2 c3 c4 c5 c6
      go_cut [45] (fun zv wx => zv = .bool bad ∧ Below w.heap.size w wx ∧ wx.cell? ⟨bp, 0, none⟩ = some (.slice x.aa x.a.length x.ac) ∧ wx.cell? ⟨bp, 1, none⟩ = some (.slice (some ⟨b, o, none⟩) x.e.length x.ec) ∧ wx.cell? ⟨bp, 2, none⟩ = some (.slice x.pa x.p.length x.pc) ∧ InnerS wx x)
      case first =>
        cases q1
        · have HZ : Hid (bad = true) := Lib.hid (by rw [HBD.out]; rfl)
          clear HPV HBD
          go_wp2_with fail
          refine wp_region_noPanic ?_
          refine wp_region_held_drew (S := (fun w' => Below w.heap.size w w' ∧ w'.cell? ⟨bp, 0, none⟩ = some (.slice x.aa x.a.length x.ac) ∧ w'.cell? ⟨bp, 1, none⟩ = some (.slice (some ⟨b, o, none⟩) x.e.length x.ec) ∧ w'.cell? ⟨bp, 2, none⟩ = some (.slice x.pa x.p.length x.pc) ∧ InnerS w' x ∧ InnerE w' y ∧ w'.cell? ⟨sb, 0, none⟩ = some (.string ⟨y.k.toArray⟩) ∧ w'.cell? ⟨sb, 1, none⟩ = some (.slice y.sa y.s.length y.sc) ∧ w'.cell? ⟨sb, 2, none⟩ = some (.slice y.ca y.c.length y.cc) ∧ w'.cell? ⟨sb, 3, none⟩ = some (.slice y.ia y.j.length y.ic) ∧ w'.cell? ⟨sb, 4, none⟩ = some (.int .u64 (y.l.s : Int)) ∧ w'.cell? ⟨sb, 5, none⟩ = some (.string ⟨y.l.t.toArray⟩) ∧ w'.cell? ⟨sb, 6, none⟩ = some (.bool y.l.g))) (by kernel_rfl) (⟨Below.drew hb, Coder.keepC p0 (Below.drew (Below.refl _ _)), Coder.keepC p1 (Below.drew (Below.refl _ _)), Coder.keepC p2 (Below.drew (Below.refl _ _)), (lx.out).below (Below.drew (Below.refl _ _)), (ly.out).below (Below.drew (Below.refl _ _)), Coder.keepC s0 (Below.drew (Below.refl _ _)), Coder.keepC s1 (Below.drew (Below.refl _ _)), Coder.keepC s2 (Below.drew (Below.refl _ _)), Coder.keepC s3 (Below.drew (Below.refl _ _)), Coder.keepC s4 (Below.drew (Below.refl _ _)), Coder.keepC s5 (Below.drew (Below.refl _ _)), Coder.keepC s6 (Below.drew (Below.refl _ _))⟩) (fun hHeld => ?_)
          refine tk 0 ?_
          try simp only [Act.put, List.setIfInBounds_toArray, List.set_cons_zero, List.set_cons_succ]
          refine wpAnyH_ready (rs := [1]) (by kernel_rfl) (by simp) ?_
          refine AllReadyH.cons (by simp only [List.getElem?_toArray, List.getElem?_cons_succ, List.getElem?_cons_zero]; rfl) (fun K hK => ?_) AllReadyH.nil
          go_simp
          go_at_call 19
          refine (D0.out _ hHeld.2.2.2.2.2.1).mono ?_
          rintro e v2 ⟨rfl, k2⟩
          go_wp2_with fail
          refine hK.out _ _ (⟨bstep hHeld.1 k2, Coder.keepC hHeld.2.1 k2, Coder.keepC hHeld.2.2.1 k2, Coder.keepC hHeld.2.2.2.1 k2, (hHeld.2.2.2.2.1).below k2, (hHeld.2.2.2.2.2.1).below k2, Coder.keepC hHeld.2.2.2.2.2.2.1 k2, Coder.keepC hHeld.2.2.2.2.2.2.2.1 k2, Coder.keepC hHeld.2.2.2.2.2.2.2.2.1 k2, Coder.keepC hHeld.2.2.2.2.2.2.2.2.2.1 k2, Coder.keepC hHeld.2.2.2.2.2.2.2.2.2.2.1 k2, Coder.keepC hHeld.2.2.2.2.2.2.2.2.2.2.2.1 k2, Coder.keepC hHeld.2.2.2.2.2.2.2.2.2.2.2.2 k2⟩) (fun hHeld => ?_)
          clear hK K k2
          try simp only [Act.put, List.setIfInBounds_toArray, List.set_cons_zero, List.set_cons_succ]
          refine tk 2 ?_
          try simp only [Act.put, List.setIfInBounds_toArray, List.set_cons_zero, List.set_cons_succ]
          refine tk 3 ?_
          try simp only [Act.put, List.setIfInBounds_toArray, List.set_cons_zero, List.set_cons_succ]
          refine tku 4 ?_
          try simp only [Act.put, List.setIfInBounds_toArray, List.set_cons_zero, List.set_cons_succ]
          refine tku 5 ?_
          try simp only [Act.put, List.setIfInBounds_toArray, List.set_cons_zero, List.set_cons_succ]
          refine tku 6 ?_
          try simp only [Act.put, List.setIfInBounds_toArray, List.set_cons_zero, List.set_cons_succ]
          refine tku 7 ?_
          try simp only [Act.put, List.setIfInBounds_toArray, List.set_cons_zero, List.set_cons_succ]
          refine tku 8 ?_
          try simp only [Act.put, List.setIfInBounds_toArray, List.set_cons_zero, List.set_cons_succ]
          refine tku 9 ?_
          try simp only [Act.put, List.setIfInBounds_toArray, List.set_cons_zero, List.set_cons_succ]
          refine tku 10 ?_
          try simp only [Act.put, List.setIfInBounds_toArray, List.set_cons_zero, List.set_cons_succ]
          refine tku 11 ?_
          try simp only [Act.put, List.setIfInBounds_toArray, List.set_cons_zero, List.set_cons_succ]
          refine tku 12 ?_
          try simp only [Act.put, List.setIfInBounds_toArray, List.set_cons_zero, List.set_cons_succ]
          refine tku 13 ?_
          try simp only [Act.put, List.setIfInBounds_toArray, List.set_cons_zero, List.set_cons_succ]
          refine tku 14 ?_
          try simp only [Act.put, List.setIfInBounds_toArray, List.set_cons_zero, List.set_cons_succ]
          refine tku 15 ?_
          try simp only [Act.put, List.setIfInBounds_toArray, List.set_cons_zero, List.set_cons_succ]
          refine tku 16 ?_
          try simp only [Act.put, List.setIfInBounds_toArray, List.set_cons_zero, List.set_cons_succ]
          refine tku 17 ?_
          try simp only [Act.put, List.setIfInBounds_toArray, List.set_cons_zero, List.set_cons_succ]
          refine tk 18 ?_
          try simp only [Act.put, List.setIfInBounds_toArray, List.set_cons_zero, List.set_cons_succ]
          refine tk 19 ?_
          try simp only [Act.put, List.setIfInBounds_toArray, List.set_cons_zero, List.set_cons_succ]
          refine tku 20 ?_
          try simp only [Act.put, List.setIfInBounds_toArray, List.set_cons_zero, List.set_cons_succ]
          refine tku 21 ?_
          try simp only [Act.put, List.setIfInBounds_toArray, List.set_cons_zero, List.set_cons_succ]
          refine tku 22 ?_
          try simp only [Act.put, List.setIfInBounds_toArray, List.set_cons_zero, List.set_cons_succ]
          refine tku 23 ?_
          try simp only [Act.put, List.setIfInBounds_toArray, List.set_cons_zero, List.set_cons_succ]
          refine tku 24 ?_
          try simp only [Act.put, List.setIfInBounds_toArray, List.set_cons_zero, List.set_cons_succ]
          refine tku 25 ?_
          try simp only [Act.put, List.setIfInBounds_toArray, List.set_cons_zero, List.set_cons_succ]
          refine tk 26 ?_
          try simp only [Act.put, List.setIfInBounds_toArray, List.set_cons_zero, List.set_cons_succ]
          refine wpAnyH_done (by kernel_rfl) ?_ _
          refine NoPanic.normal ?_
          clear hb p0 p1 p2 lx ly s0 s1 s2 s3 s4 s5 s6
          obtain ⟨hb, p0, p1, p2, lx, ly, s0, s1, s2, s3, s4, s5, s6⟩ := hHeld
          replace lx := Lib.hid lx
          replace ly := Lib.hid ly
          go_wp2_with fail
          go_meet
          exact ⟨by rw [HZ.out], hb, p0, p1, p2, lx.out⟩
        have HY : Hid (bad = !(!befT o' y.k && r)) := Lib.hid (by rw [HBD.out]; rfl)
        clear HBD
        by_cases hi0 : i = 0
        · have z1 : decide ((0 : Int) < (i : Int)) = false := decide_eq_false (by omega)
          have z1n : decide (0 < i) = false := decide_eq_false (by omega)
          have HZ : Hid (bad = !r) := Lib.hid (by rw [HY.out, HO'.out, hi0]; rfl)
          clear hi0 HPV HY
          go_wp2_with fail
          refine wp_region_noPanic ?_
          refine wp_region_held_drew (S := (fun w' => Below w.heap.size w w' ∧ w'.cell? ⟨bp, 0, none⟩ = some (.slice x.aa x.a.length x.ac) ∧ w'.cell? ⟨bp, 1, none⟩ = some (.slice (some ⟨b, o, none⟩) x.e.length x.ec) ∧ w'.cell? ⟨bp, 2, none⟩ = some (.slice x.pa x.p.length x.pc) ∧ InnerS w' x ∧ InnerE w' y ∧ w'.cell? ⟨sb, 0, none⟩ = some (.string ⟨y.k.toArray⟩) ∧ w'.cell? ⟨sb, 1, none⟩ = some (.slice y.sa y.s.length y.sc) ∧ w'.cell? ⟨sb, 2, none⟩ = some (.slice y.ca y.c.length y.cc) ∧ w'.cell? ⟨sb, 3, none⟩ = some (.slice y.ia y.j.length y.ic) ∧ w'.cell? ⟨sb, 4, none⟩ = some (.int .u64 (y.l.s : Int)) ∧ w'.cell? ⟨sb, 5, none⟩ = some (.string ⟨y.l.t.toArray⟩) ∧ w'.cell? ⟨sb, 6, none⟩ = some (.bool y.l.g))) (by kernel_rfl) (⟨Below.drew hb, Coder.keepC p0 (Below.drew (Below.refl _ _)), Coder.keepC p1 (Below.drew (Below.refl _ _)), Coder.keepC p2 (Below.drew (Below.refl _ _)), (lx.out).below (Below.drew (Below.refl _ _)), (ly.out).below (Below.drew (Below.refl _ _)), Coder.keepC s0 (Below.drew (Below.refl _ _)), Coder.keepC s1 (Below.drew (Below.refl _ _)), Coder.keepC s2 (Below.drew (Below.refl _ _)), Coder.keepC s3 (Below.drew (Below.refl _ _)), Coder.keepC s4 (Below.drew (Below.refl _ _)), Coder.keepC s5 (Below.drew (Below.refl _ _)), Coder.keepC s6 (Below.drew (Below.refl _ _))⟩) (fun hHeld => ?_)
          refine tk 0 ?_
          try simp only [Act.put, List.setIfInBounds_toArray, List.set_cons_zero, List.set_cons_succ]
          refine wpAnyH_ready (rs := [1]) (by kernel_rfl) (by simp) ?_
          refine AllReadyH.cons (by simp only [List.getElem?_toArray, List.getElem?_cons_succ, List.getElem?_cons_zero]; rfl) (fun K hK => ?_) AllReadyH.nil
          go_simp
          go_at_call 19
          refine (D0.out _ hHeld.2.2.2.2.2.1).mono ?_
          rintro e v3 ⟨rfl, k3⟩
          go_wp2_with fail
          refine hK.out _ _ (⟨bstep hHeld.1 k3, Coder.keepC hHeld.2.1 k3, Coder.keepC hHeld.2.2.1 k3, Coder.keepC hHeld.2.2.2.1 k3, (hHeld.2.2.2.2.1).below k3, (hHeld.2.2.2.2.2.1).below k3, Coder.keepC hHeld.2.2.2.2.2.2.1 k3, Coder.keepC hHeld.2.2.2.2.2.2.2.1 k3, Coder.keepC hHeld.2.2.2.2.2.2.2.2.1 k3, Coder.keepC hHeld.2.2.2.2.2.2.2.2.2.1 k3, Coder.keepC hHeld.2.2.2.2.2.2.2.2.2.2.1 k3, Coder.keepC hHeld.2.2.2.2.2.2.2.2.2.2.2.1 k3, Coder.keepC hHeld.2.2.2.2.2.2.2.2.2.2.2.2 k3⟩) (fun hHeld => ?_)
          clear hK K k3
          try simp only [Act.put, List.setIfInBounds_toArray, List.set_cons_zero, List.set_cons_succ]
          refine tk 2 ?_
          try simp only [Act.put, List.setIfInBounds_toArray, List.set_cons_zero, List.set_cons_succ]
          refine tk 3 ?_
          try simp only [Act.put, List.setIfInBounds_toArray, List.set_cons_zero, List.set_cons_succ]
          refine tk 4 ?_
          try simp only [Act.put, List.setIfInBounds_toArray, List.set_cons_zero, List.set_cons_succ]
          refine tk 5 ?_
          try simp only [Act.put, List.setIfInBounds_toArray, List.set_cons_zero, List.set_cons_succ]
          refine tk 6 ?_
          try simp only [Act.put, List.setIfInBounds_toArray, List.set_cons_zero, List.set_cons_succ]
          refine tku 7 ?_
          try simp only [Act.put, List.setIfInBounds_toArray, List.set_cons_zero, List.set_cons_succ]
          refine tku 8 ?_
          try simp only [Act.put, List.setIfInBounds_toArray, List.set_cons_zero, List.set_cons_succ]
          refine tku 9 ?_
          try simp only [Act.put, List.setIfInBounds_toArray, List.set_cons_zero, List.set_cons_succ]
          refine tku 10 ?_
          try simp only [Act.put, List.setIfInBounds_toArray, List.set_cons_zero, List.set_cons_succ]
          refine tku 11 ?_
          try simp only [Act.put, List.setIfInBounds_toArray, List.set_cons_zero, List.set_cons_succ]
          refine tku 12 ?_
          try simp only [Act.put, List.setIfInBounds_toArray, List.set_cons_zero, List.set_cons_succ]
          refine tku 13 ?_
          try simp only [Act.put, List.setIfInBounds_toArray, List.set_cons_zero, List.set_cons_succ]
          refine tku 14 ?_
          try simp only [Act.put, List.setIfInBounds_toArray, List.set_cons_zero, List.set_cons_succ]
          refine tku 15 ?_
          try simp only [Act.put, List.setIfInBounds_toArray, List.set_cons_zero, List.set_cons_succ]
          refine tku 16 ?_
          try simp only [Act.put, List.setIfInBounds_toArray, List.set_cons_zero, List.set_cons_succ]
          refine tk 17 ?_
          try simp only [Act.put, List.setIfInBounds_toArray, List.set_cons_zero, List.set_cons_succ]
          refine tk 18 ?_
          try simp only [Act.put, List.setIfInBounds_toArray, List.set_cons_zero, List.set_cons_succ]
          refine tk 19 ?_
          try simp only [Act.put, List.setIfInBounds_toArray, List.set_cons_zero, List.set_cons_succ]
          refine tk 20 ?_
          try simp only [Act.put, List.setIfInBounds_toArray, List.set_cons_zero, List.set_cons_succ]
          refine tk 21 ?_
          try simp only [Act.put, List.setIfInBounds_toArray, List.set_cons_zero, List.set_cons_succ]
          refine tk 22 ?_
          try simp only [Act.put, List.setIfInBounds_toArray, List.set_cons_zero, List.set_cons_succ]
          refine tk 23 ?_
          try simp only [Act.put, List.setIfInBounds_toArray, List.set_cons_zero, List.set_cons_succ]
          refine wpAnyH_ready (rs := [24]) (by kernel_rfl) (by simp) ?_
          refine AllReadyH.cons (by simp only [List.getElem?_toArray, List.getElem?_cons_succ, List.getElem?_cons_zero]; rfl) (fun K hK => ?_) AllReadyH.nil
          go_simp
          go_at_call 83
          refine (D1.out _ hHeld.2.2.2.2.1 hHeld.2.2.2.2.2.1).mono ?_
          rintro e v4 ⟨rfl, k4⟩
          go_wp2_with fail
          refine hK.out _ _ (⟨bstep hHeld.1 k4, Coder.keepC hHeld.2.1 k4, Coder.keepC hHeld.2.2.1 k4, Coder.keepC hHeld.2.2.2.1 k4, (hHeld.2.2.2.2.1).below k4, (hHeld.2.2.2.2.2.1).below k4, Coder.keepC hHeld.2.2.2.2.2.2.1 k4, Coder.keepC hHeld.2.2.2.2.2.2.2.1 k4, Coder.keepC hHeld.2.2.2.2.2.2.2.2.1 k4, Coder.keepC hHeld.2.2.2.2.2.2.2.2.2.1 k4, Coder.keepC hHeld.2.2.2.2.2.2.2.2.2.2.1 k4, Coder.keepC hHeld.2.2.2.2.2.2.2.2.2.2.2.1 k4, Coder.keepC hHeld.2.2.2.2.2.2.2.2.2.2.2.2 k4⟩) (fun hHeld => ?_)
          clear hK K k4
          try simp only [Act.put, List.setIfInBounds_toArray, List.set_cons_zero, List.set_cons_succ]
          refine tk 25 ?_
          try simp only [Act.put, List.setIfInBounds_toArray, List.set_cons_zero, List.set_cons_succ]
          refine tk 26 ?_
          try simp only [Act.put, List.setIfInBounds_toArray, List.set_cons_zero, List.set_cons_succ]
          refine wpAnyH_done (by kernel_rfl) ?_ _
          refine NoPanic.normal ?_
          clear hb p0 p1 p2 lx ly s0 s1 s2 s3 s4 s5 s6
          obtain ⟨hb, p0, p1, p2, lx, ly, s0, s1, s2, s3, s4, s5, s6⟩ := hHeld
          replace lx := Lib.hid lx
          replace ly := Lib.hid ly
          go_wp2_with fail
          go_meet
          exact ⟨by rw [HZ.out], hb, p0, p1, p2, lx.out⟩
        obtain ⟨k', hk'⟩ : ∃ k', i = k' + 1 := ⟨i - 1, by omega⟩
        obtain ⟨pv, hpv, hp0⟩ := HPV.out k' hk'
        have z1 : decide ((0 : Int) < (i : Int)) = true := decide_eq_true (by omega)
        have z1n : decide (0 < i) = true := decide_eq_true (by omega)
        have w1 : IntKind.i64.wrap ((i : Int) - 1) = (k' : Int) := by rw [IntKind.wrap_i64]; omega
        have j5 : (0 : Int) ≤ (k' : Int) := by omega
        have j6 : (k' : Int) < (x.e.length : Int) := by omega
        have z2 : o' = some pv := HO'.out.trans hpv
        have HY2 : Hid (bad = !(decide (TL pv y.k) && r)) := Lib.hid (by rw [HY.out, z2]; show (!(!!(decide (TL pv y.k)) && r)) = _; rw [Bool.not_not])
        have HK' := Lib.hid hk'
        clear z2 hi0 HPV hpv hk' HY
        obtain ⟨t, ht⟩ : ∃ t, t = y.k := ⟨_, rfl⟩
        have HT := Lib.hid ht
        rcases tl_ways pv y.k with hw | hw | hw
        · obtain ⟨q1, q2, q3, q4⟩ := ways_less hw
          have HZ : Hid (bad = !r) := Lib.hid (by rw [HY2.out, decide_eq_true hw]; rfl)
          clear hw ht
          go_wp2_with fail
          refine wp_region_noPanic ?_
          refine wp_region_held_drew (S := (fun w' => Below w.heap.size w w' ∧ w'.cell? ⟨bp, 0, none⟩ = some (.slice x.aa x.a.length x.ac) ∧ w'.cell? ⟨bp, 1, none⟩ = some (.slice (some ⟨b, o, none⟩) x.e.length x.ec) ∧ w'.cell? ⟨bp, 2, none⟩ = some (.slice x.pa x.p.length x.pc) ∧ InnerS w' x ∧ InnerE w' y ∧ w'.cell? ⟨sb, 0, none⟩ = some (.string ⟨y.k.toArray⟩) ∧ w'.cell? ⟨sb, 1, none⟩ = some (.slice y.sa y.s.length y.sc) ∧ w'.cell? ⟨sb, 2, none⟩ = some (.slice y.ca y.c.length y.cc) ∧ w'.cell? ⟨sb, 3, none⟩ = some (.slice y.ia y.j.length y.ic) ∧ w'.cell? ⟨sb, 4, none⟩ = some (.int .u64 (y.l.s : Int)) ∧ w'.cell? ⟨sb, 5, none⟩ = some (.string ⟨y.l.t.toArray⟩) ∧ w'.cell? ⟨sb, 6, none⟩ = some (.bool y.l.g) ∧ w'.cell? ⟨b, o + k' * 7, none⟩ = some (.string ⟨pv.toArray⟩))) (by kernel_rfl) (⟨Below.drew hb, Coder.keepC p0 (Below.drew (Below.refl _ _)), Coder.keepC p1 (Below.drew (Below.refl _ _)), Coder.keepC p2 (Below.drew (Below.refl _ _)), (lx.out).below (Below.drew (Below.refl _ _)), (ly.out).below (Below.drew (Below.refl _ _)), Coder.keepC s0 (Below.drew (Below.refl _ _)), Coder.keepC s1 (Below.drew (Below.refl _ _)), Coder.keepC s2 (Below.drew (Below.refl _ _)), Coder.keepC s3 (Below.drew (Below.refl _ _)), Coder.keepC s4 (Below.drew (Below.refl _ _)), Coder.keepC s5 (Below.drew (Below.refl _ _)), Coder.keepC s6 (Below.drew (Below.refl _ _)), Coder.keepC hp0 (Below.drew (Below.refl _ _))⟩) (fun hHeld => ?_)
          refine tk 0 ?_
          try simp only [Act.put, List.setIfInBounds_toArray, List.set_cons_zero, List.set_cons_succ]
          refine wpAnyH_ready (rs := [1]) (by kernel_rfl) (by simp) ?_
          refine AllReadyH.cons (by simp only [List.getElem?_toArray, List.getElem?_cons_succ, List.getElem?_cons_zero]; rfl) (fun K hK => ?_) AllReadyH.nil
          go_simp
          go_at_call 19
          refine (D0.out _ hHeld.2.2.2.2.2.1).mono ?_
          rintro e v5 ⟨rfl, k5⟩
          go_wp2_with fail
          refine hK.out _ _ (⟨bstep hHeld.1 k5, Coder.keepC hHeld.2.1 k5, Coder.keepC hHeld.2.2.1 k5, Coder.keepC hHeld.2.2.2.1 k5, (hHeld.2.2.2.2.1).below k5, (hHeld.2.2.2.2.2.1).below k5, Coder.keepC hHeld.2.2.2.2.2.2.1 k5, Coder.keepC hHeld.2.2.2.2.2.2.2.1 k5, Coder.keepC hHeld.2.2.2.2.2.2.2.2.1 k5, Coder.keepC hHeld.2.2.2.2.2.2.2.2.2.1 k5, Coder.keepC hHeld.2.2.2.2.2.2.2.2.2.2.1 k5, Coder.keepC hHeld.2.2.2.2.2.2.2.2.2.2.2.1 k5, Coder.keepC hHeld.2.2.2.2.2.2.2.2.2.2.2.2.1 k5, Coder.keepC hHeld.2.2.2.2.2.2.2.2.2.2.2.2.2 k5⟩) (fun hHeld => ?_)
          clear hK K k5
          try simp only [Act.put, List.setIfInBounds_toArray, List.set_cons_zero, List.set_cons_succ]
          refine tk 2 ?_
          try simp only [Act.put, List.setIfInBounds_toArray, List.set_cons_zero, List.set_cons_succ]
          refine tk 3 ?_
          try simp only [Act.put, List.setIfInBounds_toArray, List.set_cons_zero, List.set_cons_succ]
          refine tk 4 ?_
          try simp only [Act.put, List.setIfInBounds_toArray, List.set_cons_zero, List.set_cons_succ]
          refine tk 5 ?_
          try simp only [Act.put, List.setIfInBounds_toArray, List.set_cons_zero, List.set_cons_succ]
          refine tk 6 ?_
          try simp only [Act.put, List.setIfInBounds_toArray, List.set_cons_zero, List.set_cons_succ]
          refine tk 7 ?_
          try simp only [Act.put, List.setIfInBounds_toArray, List.set_cons_zero, List.set_cons_succ]
          refine tk 8 ?_
          try simp only [Act.put, List.setIfInBounds_toArray, List.set_cons_zero, List.set_cons_succ]
          refine tk 9 ?_
          try simp only [Act.put, List.setIfInBounds_toArray, List.set_cons_zero, List.set_cons_succ]
          refine tk 10 ?_
          try simp only [Act.put, List.setIfInBounds_toArray, List.set_cons_zero, List.set_cons_succ]
          refine tk 11 ?_
          try simp only [Act.put, List.setIfInBounds_toArray, List.set_cons_zero, List.set_cons_succ]
          refine tk 12 ?_
          try simp only [Act.put, List.setIfInBounds_toArray, List.set_cons_zero, List.set_cons_succ]
          refine tk 13 ?_
          try simp only [Act.put, List.setIfInBounds_toArray, List.set_cons_zero, List.set_cons_succ]
          refine tk 14 ?_
          try simp only [Act.put, List.setIfInBounds_toArray, List.set_cons_zero, List.set_cons_succ]
          refine tk 15 ?_
          try simp only [Act.put, List.setIfInBounds_toArray, List.set_cons_zero, List.set_cons_succ]
          refine tk 16 ?_
          try simp only [Act.put, List.setIfInBounds_toArray, List.set_cons_zero, List.set_cons_succ]
          refine tk 17 ?_
          try simp only [Act.put, List.setIfInBounds_toArray, List.set_cons_zero, List.set_cons_succ]
          refine tk 18 ?_
          try simp only [Act.put, List.setIfInBounds_toArray, List.set_cons_zero, List.set_cons_succ]
          refine tk 19 ?_
          try simp only [Act.put, List.setIfInBounds_toArray, List.set_cons_zero, List.set_cons_succ]
          refine tk 20 ?_
          try simp only [Act.put, List.setIfInBounds_toArray, List.set_cons_zero, List.set_cons_succ]
          refine tk 21 ?_
          try simp only [Act.put, List.setIfInBounds_toArray, List.set_cons_zero, List.set_cons_succ]
          refine tk 22 ?_
          try simp only [Act.put, List.setIfInBounds_toArray, List.set_cons_zero, List.set_cons_succ]
          refine tk 23 ?_
          try simp only [Act.put, List.setIfInBounds_toArray, List.set_cons_zero, List.set_cons_succ]
          refine wpAnyH_ready (rs := [24]) (by kernel_rfl) (by simp) ?_
          refine AllReadyH.cons (by simp only [List.getElem?_toArray, List.getElem?_cons_succ, List.getElem?_cons_zero]; rfl) (fun K hK => ?_) AllReadyH.nil
          go_simp
          go_at_call 83
          refine (D1.out _ hHeld.2.2.2.2.1 hHeld.2.2.2.2.2.1).mono ?_
          rintro e v6 ⟨rfl, k6⟩
          go_wp2_with fail
          refine hK.out _ _ (⟨bstep hHeld.1 k6, Coder.keepC hHeld.2.1 k6, Coder.keepC hHeld.2.2.1 k6, Coder.keepC hHeld.2.2.2.1 k6, (hHeld.2.2.2.2.1).below k6, (hHeld.2.2.2.2.2.1).below k6, Coder.keepC hHeld.2.2.2.2.2.2.1 k6, Coder.keepC hHeld.2.2.2.2.2.2.2.1 k6, Coder.keepC hHeld.2.2.2.2.2.2.2.2.1 k6, Coder.keepC hHeld.2.2.2.2.2.2.2.2.2.1 k6, Coder.keepC hHeld.2.2.2.2.2.2.2.2.2.2.1 k6, Coder.keepC hHeld.2.2.2.2.2.2.2.2.2.2.2.1 k6, Coder.keepC hHeld.2.2.2.2.2.2.2.2.2.2.2.2.1 k6, Coder.keepC hHeld.2.2.2.2.2.2.2.2.2.2.2.2.2 k6⟩) (fun hHeld => ?_)
          clear hK K k6
          try simp only [Act.put, List.setIfInBounds_toArray, List.set_cons_zero, List.set_cons_succ]
          refine tk 25 ?_
          try simp only [Act.put, List.setIfInBounds_toArray, List.set_cons_zero, List.set_cons_succ]
          refine tk 26 ?_
          try simp only [Act.put, List.setIfInBounds_toArray, List.set_cons_zero, List.set_cons_succ]
          refine wpAnyH_done (by kernel_rfl) ?_ _
          refine NoPanic.normal ?_
          clear hb p0 p1 p2 lx ly s0 s1 s2 s3 s4 s5 s6 hp0
          obtain ⟨hb, p0, p1, p2, lx, ly, s0, s1, s2, s3, s4, s5, s6, hp0⟩ := hHeld
          replace lx := Lib.hid lx
          replace ly := Lib.hid ly
          go_wp2_with fail
          go_meet
          exact ⟨by rw [HZ.out], hb, p0, p1, p2, lx.out⟩
        · have q1 := less_self y.k
          have HZ : Hid (bad = true) := Lib.hid (by rw [HY2.out, decide_eq_false (by rw [hw]; exact linT.irr y.k)]; rfl)
          have q3 : (pv == y.k) = true := by simp [hw]
          have q4 : (y.k == pv) = true := by simp [hw]
          have q5 : Op.bytesLess pv y.k = false := by rw [hw]; exact q1
          have q6 : Op.bytesLess y.k pv = false := by rw [hw]; exact q1
          clear hw ht
          go_wp2_with fail
          refine wp_region_noPanic ?_
          refine wp_region_held_drew (S := (fun w' => Below w.heap.size w w' ∧ w'.cell? ⟨bp, 0, none⟩ = some (.slice x.aa x.a.length x.ac) ∧ w'.cell? ⟨bp, 1, none⟩ = some (.slice (some ⟨b, o, none⟩) x.e.length x.ec) ∧ w'.cell? ⟨bp, 2, none⟩ = some (.slice x.pa x.p.length x.pc) ∧ InnerS w' x ∧ InnerE w' y ∧ w'.cell? ⟨sb, 0, none⟩ = some (.string ⟨y.k.toArray⟩) ∧ w'.cell? ⟨sb, 1, none⟩ = some (.slice y.sa y.s.length y.sc) ∧ w'.cell? ⟨sb, 2, none⟩ = some (.slice y.ca y.c.length y.cc) ∧ w'.cell? ⟨sb, 3, none⟩ = some (.slice y.ia y.j.length y.ic) ∧ w'.cell? ⟨sb, 4, none⟩ = some (.int .u64 (y.l.s : Int)) ∧ w'.cell? ⟨sb, 5, none⟩ = some (.string ⟨y.l.t.toArray⟩) ∧ w'.cell? ⟨sb, 6, none⟩ = some (.bool y.l.g) ∧ w'.cell? ⟨b, o + k' * 7, none⟩ = some (.string ⟨pv.toArray⟩))) (by kernel_rfl) (⟨Below.drew hb, Coder.keepC p0 (Below.drew (Below.refl _ _)), Coder.keepC p1 (Below.drew (Below.refl _ _)), Coder.keepC p2 (Below.drew (Below.refl _ _)), (lx.out).below (Below.drew (Below.refl _ _)), (ly.out).below (Below.drew (Below.refl _ _)), Coder.keepC s0 (Below.drew (Below.refl _ _)), Coder.keepC s1 (Below.drew (Below.refl _ _)), Coder.keepC s2 (Below.drew (Below.refl _ _)), Coder.keepC s3 (Below.drew (Below.refl _ _)), Coder.keepC s4 (Below.drew (Below.refl _ _)), Coder.keepC s5 (Below.drew (Below.refl _ _)), Coder.keepC s6 (Below.drew (Below.refl _ _)), Coder.keepC hp0 (Below.drew (Below.refl _ _))⟩) (fun hHeld => ?_)
          refine tk 0 ?_
          try simp only [Act.put, List.setIfInBounds_toArray, List.set_cons_zero, List.set_cons_succ]
          refine wpAnyH_ready (rs := [1]) (by kernel_rfl) (by simp) ?_
          refine AllReadyH.cons (by simp only [List.getElem?_toArray, List.getElem?_cons_succ, List.getElem?_cons_zero]; rfl) (fun K hK => ?_) AllReadyH.nil
          go_simp
          go_at_call 19
          refine (D0.out _ hHeld.2.2.2.2.2.1).mono ?_
          rintro e v7 ⟨rfl, k7⟩
          go_wp2_with fail
          refine hK.out _ _ (⟨bstep hHeld.1 k7, Coder.keepC hHeld.2.1 k7, Coder.keepC hHeld.2.2.1 k7, Coder.keepC hHeld.2.2.2.1 k7, (hHeld.2.2.2.2.1).below k7, (hHeld.2.2.2.2.2.1).below k7, Coder.keepC hHeld.2.2.2.2.2.2.1 k7, Coder.keepC hHeld.2.2.2.2.2.2.2.1 k7, Coder.keepC hHeld.2.2.2.2.2.2.2.2.1 k7, Coder.keepC hHeld.2.2.2.2.2.2.2.2.2.1 k7, Coder.keepC hHeld.2.2.2.2.2.2.2.2.2.2.1 k7, Coder.keepC hHeld.2.2.2.2.2.2.2.2.2.2.2.1 k7, Coder.keepC hHeld.2.2.2.2.2.2.2.2.2.2.2.2.1 k7, Coder.keepC hHeld.2.2.2.2.2.2.2.2.2.2.2.2.2 k7⟩) (fun hHeld => ?_)
          clear hK K k7
          try simp only [Act.put, List.setIfInBounds_toArray, List.set_cons_zero, List.set_cons_succ]
          refine tk 2 ?_
          try simp only [Act.put, List.setIfInBounds_toArray, List.set_cons_zero, List.set_cons_succ]
          refine tk 3 ?_
          try simp only [Act.put, List.setIfInBounds_toArray, List.set_cons_zero, List.set_cons_succ]
          refine tk 4 ?_
          try simp only [Act.put, List.setIfInBounds_toArray, List.set_cons_zero, List.set_cons_succ]
          refine tk 5 ?_
          try simp only [Act.put, List.setIfInBounds_toArray, List.set_cons_zero, List.set_cons_succ]
          refine tk 6 ?_
          try simp only [Act.put, List.setIfInBounds_toArray, List.set_cons_zero, List.set_cons_succ]
          refine tk 7 ?_
          try simp only [Act.put, List.setIfInBounds_toArray, List.set_cons_zero, List.set_cons_succ]
          refine tk 8 ?_
          try simp only [Act.put, List.setIfInBounds_toArray, List.set_cons_zero, List.set_cons_succ]
          refine tk 9 ?_
          try simp only [Act.put, List.setIfInBounds_toArray, List.set_cons_zero, List.set_cons_succ]
          refine tk 10 ?_
          try simp only [Act.put, List.setIfInBounds_toArray, List.set_cons_zero, List.set_cons_succ]
          refine tk 11 ?_
          try simp only [Act.put, List.setIfInBounds_toArray, List.set_cons_zero, List.set_cons_succ]
          refine tk 12 ?_
          try simp only [Act.put, List.setIfInBounds_toArray, List.set_cons_zero, List.set_cons_succ]
          refine tk 13 ?_
          try simp only [Act.put, List.setIfInBounds_toArray, List.set_cons_zero, List.set_cons_succ]
          refine tk 14 ?_
          try simp only [Act.put, List.setIfInBounds_toArray, List.set_cons_zero, List.set_cons_succ]
          refine tk 15 ?_
          try simp only [Act.put, List.setIfInBounds_toArray, List.set_cons_zero, List.set_cons_succ]
          refine tk 16 ?_
          try simp only [Act.put, List.setIfInBounds_toArray, List.set_cons_zero, List.set_cons_succ]
          refine tk 17 ?_
          try simp only [Act.put, List.setIfInBounds_toArray, List.set_cons_zero, List.set_cons_succ]
          refine tk 18 ?_
          try simp only [Act.put, List.setIfInBounds_toArray, List.set_cons_zero, List.set_cons_succ]
          refine tk 19 ?_
          try simp only [Act.put, List.setIfInBounds_toArray, List.set_cons_zero, List.set_cons_succ]
          refine tku 20 ?_
          try simp only [Act.put, List.setIfInBounds_toArray, List.set_cons_zero, List.set_cons_succ]
          refine tku 21 ?_
          try simp only [Act.put, List.setIfInBounds_toArray, List.set_cons_zero, List.set_cons_succ]
          refine tku 22 ?_
          try simp only [Act.put, List.setIfInBounds_toArray, List.set_cons_zero, List.set_cons_succ]
          refine tku 23 ?_
          try simp only [Act.put, List.setIfInBounds_toArray, List.set_cons_zero, List.set_cons_succ]
          refine tku 24 ?_
          try simp only [Act.put, List.setIfInBounds_toArray, List.set_cons_zero, List.set_cons_succ]
          refine tku 25 ?_
          try simp only [Act.put, List.setIfInBounds_toArray, List.set_cons_zero, List.set_cons_succ]
          refine tk 26 ?_
          try simp only [Act.put, List.setIfInBounds_toArray, List.set_cons_zero, List.set_cons_succ]
          refine wpAnyH_done (by kernel_rfl) ?_ _
          refine NoPanic.normal ?_
          clear hb p0 p1 p2 lx ly s0 s1 s2 s3 s4 s5 s6 hp0
          obtain ⟨hb, p0, p1, p2, lx, ly, s0, s1, s2, s3, s4, s5, s6, hp0⟩ := hHeld
          replace lx := Lib.hid lx
          replace ly := Lib.hid ly
          go_wp2_with fail
          go_meet
          exact ⟨by rw [HZ.out], hb, p0, p1, p2, lx.out⟩
        · obtain ⟨q1, q2, q3, q4⟩ := ways_less hw
          have HZ : Hid (bad = true) := Lib.hid (by rw [HY2.out, decide_eq_false (fun h => linT.irr _ (linT.trans hw h))]; rfl)
          clear hw ht
          go_wp2_with fail
          refine wp_region_noPanic ?_
          refine wp_region_held_drew (S := (fun w' => Below w.heap.size w w' ∧ w'.cell? ⟨bp, 0, none⟩ = some (.slice x.aa x.a.length x.ac) ∧ w'.cell? ⟨bp, 1, none⟩ = some (.slice (some ⟨b, o, none⟩) x.e.length x.ec) ∧ w'.cell? ⟨bp, 2, none⟩ = some (.slice x.pa x.p.length x.pc) ∧ InnerS w' x ∧ InnerE w' y ∧ w'.cell? ⟨sb, 0, none⟩ = some (.string ⟨y.k.toArray⟩) ∧ w'.cell? ⟨sb, 1, none⟩ = some (.slice y.sa y.s.length y.sc) ∧ w'.cell? ⟨sb, 2, none⟩ = some (.slice y.ca y.c.length y.cc) ∧ w'.cell? ⟨sb, 3, none⟩ = some (.slice y.ia y.j.length y.ic) ∧ w'.cell? ⟨sb, 4, none⟩ = some (.int .u64 (y.l.s : Int)) ∧ w'.cell? ⟨sb, 5, none⟩ = some (.string ⟨y.l.t.toArray⟩) ∧ w'.cell? ⟨sb, 6, none⟩ = some (.bool y.l.g) ∧ w'.cell? ⟨b, o + k' * 7, none⟩ = some (.string ⟨pv.toArray⟩))) (by kernel_rfl) (⟨Below.drew hb, Coder.keepC p0 (Below.drew (Below.refl _ _)), Coder.keepC p1 (Below.drew (Below.refl _ _)), Coder.keepC p2 (Below.drew (Below.refl _ _)), (lx.out).below (Below.drew (Below.refl _ _)), (ly.out).below (Below.drew (Below.refl _ _)), Coder.keepC s0 (Below.drew (Below.refl _ _)), Coder.keepC s1 (Below.drew (Below.refl _ _)), Coder.keepC s2 (Below.drew (Below.refl _ _)), Coder.keepC s3 (Below.drew (Below.refl _ _)), Coder.keepC s4 (Below.drew (Below.refl _ _)), Coder.keepC s5 (Below.drew (Below.refl _ _)), Coder.keepC s6 (Below.drew (Below.refl _ _)), Coder.keepC hp0 (Below.drew (Below.refl _ _))⟩) (fun hHeld => ?_)
          refine tk 0 ?_
          try simp only [Act.put, List.setIfInBounds_toArray, List.set_cons_zero, List.set_cons_succ]
          refine wpAnyH_ready (rs := [1]) (by kernel_rfl) (by simp) ?_
          refine AllReadyH.cons (by simp only [List.getElem?_toArray, List.getElem?_cons_succ, List.getElem?_cons_zero]; rfl) (fun K hK => ?_) AllReadyH.nil
          go_simp
          go_at_call 19
          refine (D0.out _ hHeld.2.2.2.2.2.1).mono ?_
          rintro e v8 ⟨rfl, k8⟩
          go_wp2_with fail
          refine hK.out _ _ (⟨bstep hHeld.1 k8, Coder.keepC hHeld.2.1 k8, Coder.keepC hHeld.2.2.1 k8, Coder.keepC hHeld.2.2.2.1 k8, (hHeld.2.2.2.2.1).below k8, (hHeld.2.2.2.2.2.1).below k8, Coder.keepC hHeld.2.2.2.2.2.2.1 k8, Coder.keepC hHeld.2.2.2.2.2.2.2.1 k8, Coder.keepC hHeld.2.2.2.2.2.2.2.2.1 k8, Coder.keepC hHeld.2.2.2.2.2.2.2.2.2.1 k8, Coder.keepC hHeld.2.2.2.2.2.2.2.2.2.2.1 k8, Coder.keepC hHeld.2.2.2.2.2.2.2.2.2.2.2.1 k8, Coder.keepC hHeld.2.2.2.2.2.2.2.2.2.2.2.2.1 k8, Coder.keepC hHeld.2.2.2.2.2.2.2.2.2.2.2.2.2 k8⟩) (fun hHeld => ?_)
          clear hK K k8
          try simp only [Act.put, List.setIfInBounds_toArray, List.set_cons_zero, List.set_cons_succ]
          refine tk 2 ?_
          try simp only [Act.put, List.setIfInBounds_toArray, List.set_cons_zero, List.set_cons_succ]
          refine tk 3 ?_
          try simp only [Act.put, List.setIfInBounds_toArray, List.set_cons_zero, List.set_cons_succ]
          refine tk 4 ?_
          try simp only [Act.put, List.setIfInBounds_toArray, List.set_cons_zero, List.set_cons_succ]
          refine tk 5 ?_
          try simp only [Act.put, List.setIfInBounds_toArray, List.set_cons_zero, List.set_cons_succ]
          refine tk 6 ?_
          try simp only [Act.put, List.setIfInBounds_toArray, List.set_cons_zero, List.set_cons_succ]
          refine tk 7 ?_
          try simp only [Act.put, List.setIfInBounds_toArray, List.set_cons_zero, List.set_cons_succ]
          refine tk 8 ?_
          try simp only [Act.put, List.setIfInBounds_toArray, List.set_cons_zero, List.set_cons_succ]
          refine tk 9 ?_
          try simp only [Act.put, List.setIfInBounds_toArray, List.set_cons_zero, List.set_cons_succ]
          refine tk 10 ?_
          try simp only [Act.put, List.setIfInBounds_toArray, List.set_cons_zero, List.set_cons_succ]
          refine tk 11 ?_
          try simp only [Act.put, List.setIfInBounds_toArray, List.set_cons_zero, List.set_cons_succ]
          refine tk 12 ?_
          try simp only [Act.put, List.setIfInBounds_toArray, List.set_cons_zero, List.set_cons_succ]
          refine tk 13 ?_
          try simp only [Act.put, List.setIfInBounds_toArray, List.set_cons_zero, List.set_cons_succ]
          refine tk 14 ?_
          try simp only [Act.put, List.setIfInBounds_toArray, List.set_cons_zero, List.set_cons_succ]
          refine tk 15 ?_
          try simp only [Act.put, List.setIfInBounds_toArray, List.set_cons_zero, List.set_cons_succ]
          refine tk 16 ?_
          try simp only [Act.put, List.setIfInBounds_toArray, List.set_cons_zero, List.set_cons_succ]
          refine tk 17 ?_
          try simp only [Act.put, List.setIfInBounds_toArray, List.set_cons_zero, List.set_cons_succ]
          refine tk 18 ?_
          try simp only [Act.put, List.setIfInBounds_toArray, List.set_cons_zero, List.set_cons_succ]
          refine tk 19 ?_
          try simp only [Act.put, List.setIfInBounds_toArray, List.set_cons_zero, List.set_cons_succ]
          refine tku 20 ?_
          try simp only [Act.put, List.setIfInBounds_toArray, List.set_cons_zero, List.set_cons_succ]
          refine tku 21 ?_
          try simp only [Act.put, List.setIfInBounds_toArray, List.set_cons_zero, List.set_cons_succ]
          refine tku 22 ?_
          try simp only [Act.put, List.setIfInBounds_toArray, List.set_cons_zero, List.set_cons_succ]
          refine tku 23 ?_
          try simp only [Act.put, List.setIfInBounds_toArray, List.set_cons_zero, List.set_cons_succ]
          refine tku 24 ?_
          try simp only [Act.put, List.setIfInBounds_toArray, List.set_cons_zero, List.set_cons_succ]
          refine tku 25 ?_
          try simp only [Act.put, List.setIfInBounds_toArray, List.set_cons_zero, List.set_cons_succ]
          refine tk 26 ?_
          try simp only [Act.put, List.setIfInBounds_toArray, List.set_cons_zero, List.set_cons_succ]
          refine wpAnyH_done (by kernel_rfl) ?_ _
          refine NoPanic.normal ?_
          clear hb p0 p1 p2 lx ly s0 s1 s2 s3 s4 s5 s6 hp0
          obtain ⟨hb, p0, p1, p2, lx, ly, s0, s1, s2, s3, s4, s5, s6, hp0⟩ := hHeld
          replace lx := Lib.hid lx
          replace ly := Lib.hid ly
          go_wp2_with fail
          go_meet
          exact ⟨by rw [HZ.out], hb, p0, p1, p2, lx.out⟩
      clear hb ly s0 s1 s2 s3 s4 s5 s6 p0 p1 p2 lx
      obtain ⟨rfl, hb, p0, p1, p2, lx⟩ := hcut
      replace lx := Lib.hid lx
      cases bad
      rotate_left
      · have HV2 : Hid (mayS x.s = false) := Lib.hid (by rw [HST.out]; rfl)
        clear HST HBD
        go_wp2
        go_ret
        exact ⟨by rw [HV2.out]; rfl, hb⟩
      have HV2 : Hid (mayS x.s = (mayRs x.a (pE x.e (i + 1)) (x.e.drop (i + 1)) && U)) := Lib.hid (by rw [HST.out]; rfl)
      clear HST HBD
      go_wp2
      go_roundw
      case rel => exact ⟨i + 1, by have := HI.out; omega, by go_num, HV2, hb, p0, p1, p2, lx⟩
      case measure => simp [intOf]; have := HI.out; omega
    · skip
      have HE : Hid (mayS x.s = mayPr x.a (pW x.p 0) (x.p.drop 0)) := Lib.hid (by rw [HM.out, List.drop_eq_nil_of_le (by omega), HU.out]; rfl)
      have d1 : decide ((i : Int) < (x.e.length : Int)) = false := decide_eq_false (by omega)
      clear HM HU
      go_wp2_with fail
      clear hlt
      go_loopw [50] (fun iv wr => ∃ i : Nat, i ≤ x.p.length ∧ iv = .int .i64 i ∧ Hid (mayS x.s = mayPr x.a (pW x.p i) (x.p.drop i)) ∧ Below w.heap.size w wr ∧ (wr.cell? ⟨bp, 0, none⟩ = some (.slice x.aa x.a.length x.ac)) ∧ (wr.cell? ⟨bp, 1, none⟩ = some (.slice x.ea x.e.length x.ec)) ∧ (wr.cell? ⟨bp, 2, none⟩ = some (.slice x.pa x.p.length x.pc)) ∧ Hid (InnerS wr x)) (fun iv _ => x.p.length - (intOf iv).toNat)
      case atStart => exact ⟨0, by omega, rfl, HE, hb, p0, p1, p2, lx⟩
      case round =>
        clear HE hb p0 p1 p2 lx d1 hi
        obtain ⟨i, hi, rfl, HM, hb, p0, p1, p2, lx⟩ := hrel
        by_cases hlt : i < x.p.length
        rotate_left
        · have HE : Hid (mayS x.s = true) := Lib.hid (by rw [HM.out, List.drop_eq_nil_of_le (by omega)]; rfl)
          go_wp2
          go_ret
          exact ⟨by rw [HE.out]; rfl, hb⟩
        have d1 : decide ((i : Int) < (x.p.length : Int)) = true := decide_eq_true (by omega)
        have j1 : (0 : Int) ≤ (i : Int) := by omega
        have j2 : (i : Int) < (x.p.length : Int) := by omega
        obtain ⟨b, o, hea, hc⟩ := lx.out.p.2 (by omega)
        rw [hea]
        rw [hea] at p2
        have c0 : wr.cell? ⟨b, o + i, none⟩ = some (.string ⟨(x.p[i]).toArray⟩) := by
          have q := hc i hlt 0 _ rfl
          rw [show o + i * wE.k + 0 = o + i by show o + i * 1 + 0 = o + i; omega] at q
          exact q
        have hst := mayPr_step x.a hlt
        have HPV : Hid (∀ k', i = k' + 1 → ∃ pv, pW x.p i = some pv ∧ wr.cell? ⟨b, o + k', none⟩ = some (.string ⟨pv.toArray⟩)) := Lib.hid (fun k' hk => by
          subst hk
          have hkl : k' < x.p.length := by omega
          have q := hc k' hkl 0 _ rfl
          rw [show o + k' * wE.k + 0 = o + k' by show o + k' * 1 + 0 = o + k'; omega] at q
          exact ⟨x.p[k'], pW_next hkl, q⟩)
        obtain ⟨t, ht⟩ : ∃ t, t = x.p[i] := ⟨_, rfl⟩
        rw [← ht] at hst c0
        obtain ⟨z, hz⟩ : ∃ z, z = ofL x.a t := ⟨_, rfl⟩
        have D1 := Lib.hid (fun W (h : InnerS W x) => (by rw [hz]; exact of_any t x.a x.aa x.a.length x.ac W h.a (by have := OX.out.a; omega) (ok_of OX.out.am) : Calls Tryz.prog 71 #[.slice x.aa x.a.length x.ac, .string ⟨t.toArray⟩] W fun e W' => e = .returned (.int .u64 (z : Nat)) ∧ Below W.heap.size W W'))
        rw [← hz] at hst
        rw [← HM.out] at hst
        have HST := Lib.hid hst
        have HEA := Lib.hid hea
        have HI := Lib.hid hlt
        clear hc ht hst hlt HM hz hea
        by_cases hp : t = []
        · have e0 : (t == []) = true := by rw [hp]; rfl
          have HV2 : Hid (mayS x.s = false) := Lib.hid (by rw [HST.out, decide_eq_true hp]; try simp)
          clear HST
          go_wp2
          go_ret
          exact ⟨by rw [HV2.out]; rfl, hb⟩
        have e0 : (t == []) = false := by rw [beq_eq_false_iff_ne]; exact hp
        have HP := Lib.hid hp
        clear hp
        by_cases hi0 : i = 0
        · have z1 : decide ((0 : Int) < (i : Int)) = false := decide_eq_false (by omega)
          have z1n : decide (0 < i) = false := decide_eq_false (by omega)
          have HO : Hid (pW x.p i = none) := Lib.hid (by rw [hi0]; rfl)
          clear HPV hi0
          go_wp2_with fail
          refine (D1.out _ lx.out).mono ?_
          rintro e v9 ⟨rfl, k9⟩
          replace p0 := (Coder.keepC p0 k9)
          replace p1 := (Coder.keepC p1 k9)
          replace p2 := (Coder.keepC p2 k9)
          replace lx := Lib.hid ((lx.out).below k9)
          replace hb := bstep hb k9
          clear k9
          by_cases h9 : z = 0
          · have z9 : decide ((0 : Int) < (z : Int)) = false := decide_eq_false (by omega)
            have z9n : decide (0 < z) = false := decide_eq_false (by omega)
            have HV2 : Hid (mayS x.s = mayPr x.a (pW x.p (i + 1)) (x.p.drop (i + 1))) := Lib.hid (by rw [HST.out, decide_eq_false HP.out, HO.out, show befT none t = false from rfl, decide_eq_true h9]; simp)
            clear HST h9
            go_wp2
            go_roundw
            case rel => exact ⟨i + 1, by have := HI.out; omega, by go_num, HV2, hb, p0, p1, p2, lx⟩
            case measure => simp [intOf]; have := HI.out; omega
          · have z9 : decide ((0 : Int) < (z : Int)) = true := decide_eq_true (by omega)
            have z9n : decide (0 < z) = true := decide_eq_true (by omega)
            have HV2 : Hid (mayS x.s = false) := Lib.hid (by rw [HST.out, decide_eq_false HP.out, HO.out, show befT none t = false from rfl, decide_eq_false h9]; simp)
            clear HST h9
            go_wp2
            go_ret
            exact ⟨by rw [HV2.out]; rfl, hb⟩
        obtain ⟨k', hk'⟩ : ∃ k', i = k' + 1 := ⟨i - 1, by omega⟩
        obtain ⟨pv, hpv, hp0⟩ := HPV.out k' hk'
        have z1 : decide ((0 : Int) < (i : Int)) = true := decide_eq_true (by omega)
        have z1n : decide (0 < i) = true := decide_eq_true (by omega)
        have w1 : IntKind.i64.wrap ((i : Int) - 1) = (k' : Int) := by rw [IntKind.wrap_i64]; omega
        have j5 : (0 : Int) ≤ (k' : Int) := by omega
        have j6 : (k' : Int) < (x.p.length : Int) := by omega
        have HO := Lib.hid hpv
        have HK' := Lib.hid hk'
        have HBE : Hid (befT (some pv) t = !(decide (TL pv t))) := Lib.hid rfl
        clear hi0 HPV hpv hk'
        rcases tl_ways pv t with hw | hw | hw
        · obtain ⟨q1, q2, q3, q4⟩ := ways_less hw
          have HW := Lib.hid hw
          clear hw
          go_wp2_with fail
          refine (D1.out _ lx.out).mono ?_
          rintro e v10 ⟨rfl, k10⟩
          replace p0 := (Coder.keepC p0 k10)
          replace p1 := (Coder.keepC p1 k10)
          replace p2 := (Coder.keepC p2 k10)
          replace lx := Lib.hid ((lx.out).below k10)
          replace hp0 := (Coder.keepC hp0 k10)
          replace hb := bstep hb k10
          clear k10
          clear hp0
          by_cases h9 : z = 0
          · have z9 : decide ((0 : Int) < (z : Int)) = false := decide_eq_false (by omega)
            have z9n : decide (0 < z) = false := decide_eq_false (by omega)
            have HV2 : Hid (mayS x.s = mayPr x.a (pW x.p (i + 1)) (x.p.drop (i + 1))) := Lib.hid (by rw [HST.out, decide_eq_false HP.out, HO.out, HBE.out, decide_eq_true HW.out, decide_eq_true h9]; simp)
            clear HST h9
            go_wp2
            go_roundw
            case rel => exact ⟨i + 1, by have := HI.out; omega, by go_num, HV2, hb, p0, p1, p2, lx⟩
            case measure => simp [intOf]; have := HI.out; omega
          · have z9 : decide ((0 : Int) < (z : Int)) = true := decide_eq_true (by omega)
            have z9n : decide (0 < z) = true := decide_eq_true (by omega)
            have HV2 : Hid (mayS x.s = false) := Lib.hid (by rw [HST.out, decide_eq_false HP.out, HO.out, HBE.out, decide_eq_true HW.out, decide_eq_false h9]; simp)
            clear HST h9
            go_wp2
            go_ret
            exact ⟨by rw [HV2.out]; rfl, hb⟩
        · have q1 := less_self t
          have q3 : (pv == t) = true := by simp [hw]
          have q4 : (t == pv) = true := by simp [hw]
          have q5 : Op.bytesLess pv t = false := by rw [hw]; exact q1
          have q6 : Op.bytesLess t pv = false := by rw [hw]; exact q1
          have HW : Hid (¬ TL pv t) := Lib.hid (by rw [hw]; exact linT.irr t)
          clear hw
          have HV2 : Hid (mayS x.s = false) := Lib.hid (by rw [HST.out, HO.out, HBE.out, decide_eq_false HW.out]; try simp)
          clear HST
          go_wp2
          go_ret
          exact ⟨by rw [HV2.out]; rfl, hb⟩
        · obtain ⟨q1, q2, q3, q4⟩ := ways_less hw
          have HW : Hid (¬ TL pv t) := Lib.hid (fun h => linT.irr _ (linT.trans hw h))
          clear hw
          have HV2 : Hid (mayS x.s = false) := Lib.hid (by rw [HST.out, HO.out, HBE.out, decide_eq_false HW.out]; try simp)
          clear HST
          go_wp2
          go_ret
          exact ⟨by rw [HV2.out]; rfl, hb⟩
end Coder
end Go.Proofs.YtnpjkmomllkhpaaGreat
