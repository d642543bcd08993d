/- RefMayE, RefRaw, RefState. -/
import Derived.Test.YtnpjkmomllkhpaaGreatDoorTm25
set_option linter.unusedVariables false
set_option linter.unusedSimpArgs false
namespace Go.Proofs.YtnpjkmomllkhpaaGreatDoor
set_option maxRecDepth 100000
set_option maxHeartbeats 40000000
namespace RefMay
open RowKit YtnpjkmomllkhpaaGreatDoor.Mark Num Wire Bag Dots Coder
theorem refkind (k:List UInt8) (w:World) (h:k.length≤65536):CB 61 #[k] w (.int .u8 (kd k:Nat)):=by
 have q:=Text.refkind_any ⟨k.toArray⟩ w (by rw[Str.size_mk];omega)
 exact q
def only (x:RE):Bool:=(decide (kd x.k=1) || decide (x.c.length=0)) && ((decide (kd x.k=2) || decide (x.j.length=0)) && (decide (kd x.k=3) || zeroL x.l))
def refE (x:RE):Bool := !decide (kd x.k=0) && (!decide (x.s.length=0) && (mayL x.s && (mayCt none x.c && (mayB (x.j.map RI.it) && (mayCl x.l && (only x && (seenC x.s x.c && seenJ x.s x.j)))))))
theorem mayCl_zero {c:Cl} (h:zeroL c=true):mayCl c=true:=by rw[zeroL_is h];rfl
theorem refE_is (x:RE):mayE x.e=refE x:=by
 have hk:=kinds_is x
 have hm:mayE x.e=(mayL x.s && (!decide (x.s.length=0) && kinds x.e)):=rfl
 rw[hm,hk]
 unfold refE only B1 B2 B3
 have h3:=kd_le x.k
 have e0:∀ {α:Type} (l:List α),decide (l.length=0)=true→l=[]:=fun l h=>List.length_eq_zero_iff.1 (of_decide_eq_true h)
 rw[Bool.eq_iff_iff]
 by_cases k1:kd x.k=1
 ·simp only[k1,if_true,Bool.and_eq_true,Bool.or_eq_true,decide_eq_true_eq,Bool.not_eq_true',decide_eq_false_iff_not,show ¬ ((1:Nat)=0) by decide,show ¬ ((1:Nat)=2) by decide,show ¬ ((1:Nat)=3) by decide,not_false_eq_true,false_or,true_or,true_and]
  constructor
  ·rintro ⟨h1,h2,h4,h5,h6,h7⟩
   have ej:x.j=[]:=List.length_eq_zero_iff.1 h6
   exact ⟨h2,h1,h4,by rw[ej];rfl,mayCl_zero h7,⟨h6,h7⟩,h5,by rw[ej];rfl⟩
  ·rintro ⟨h1,h2,h4,h5,h6,⟨h7,h8⟩,h9,h10⟩
   exact ⟨h2,h1,h4,h9,h7,h8⟩
 by_cases k2:kd x.k=2
 ·simp only[k2,if_true,show ¬ ((2:Nat)=1) by decide,if_false,Bool.and_eq_true,Bool.or_eq_true,decide_eq_true_eq,Bool.not_eq_true',decide_eq_false_iff_not,show ¬ ((2:Nat)=0) by decide,show ¬ ((2:Nat)=3) by decide,not_false_eq_true,false_or,true_or,true_and]
  constructor
  ·rintro ⟨h1,h2,h4,h5,h6,h7⟩
   have ec:x.c=[]:=List.length_eq_zero_iff.1 h6
   exact ⟨h2,h1,by rw[ec];rfl,h4,mayCl_zero h7,⟨h6,h7⟩,by rw[ec];rfl,h5⟩
  ·rintro ⟨h1,h2,h4,h5,h6,⟨h7,h8⟩,h9,h10⟩
   exact ⟨h2,h1,h5,h10,h7,h8⟩
 by_cases k3:kd x.k=3
 ·simp only[k3,if_true,show ¬ ((3:Nat)=1) by decide,show ¬ ((3:Nat)=2) by decide,if_false,Bool.and_eq_true,Bool.or_eq_true,decide_eq_true_eq,Bool.not_eq_true',decide_eq_false_iff_not,show ¬ ((3:Nat)=0) by decide,not_false_eq_true,false_or,true_or,true_and,and_true]
  constructor
  ·rintro ⟨h1,h2,h4,h5,h6⟩
   have ec:x.c=[]:=List.length_eq_zero_iff.1 h5
   have ej:x.j=[]:=List.length_eq_zero_iff.1 h6
   exact ⟨h2,h1,by rw[ec];rfl,by rw[ej];rfl,h4,⟨h5,h6⟩,by rw[ec];rfl,by rw[ej];rfl⟩
  ·rintro ⟨h1,h2,h4,h5,h6,⟨h7,h8⟩,h9,h10⟩
   exact ⟨h2,h1,h6,h7,h8⟩
 ·have k0:kd x.k=0:=by omega
  simp[k0]
theorem neq_cell (m k:Cl) (w:World):(binOp .neq 27 (.agg m) (.agg k)).run Tryz.prog w=.ok (.bool (!decide (m=k))) w:=by
 rw[run_neq_struct,eql_of_cell,eqL_iff];rfl
theorem mayE_any (x:RE) (w:World) (hx:InnerE w x) (ox:x.Ok) (hky:x.k.length≤65536) (hf:(x.j.flatMap RI.d).length≤549755813888) :
  CB 39 #[.agg x] w (mayE x.e):=by
 rw[refE_is]
 have lx:=hid hx
 have OX:=hid ox
 have hcn:=ox.c
 have hjn:=ox.j
 clear hx
 obtain ⟨k,hk⟩:=nm (kd x.k)
 obtain ⟨V,hV⟩:=nm (refE x)
 obtain ⟨q1,hq1⟩:=nm (decide (x.s.length=0))
 obtain ⟨q2,hq2⟩:=nm (mayL x.s)
 obtain ⟨q3,hq3⟩:=nm (mayCt none x.c)
 obtain ⟨q4,hq4⟩:=nm (mayB (x.j.map RI.it))
 obtain ⟨q5,hq5⟩:=nm (mayCl x.l)
 obtain ⟨z1,hz1⟩:=nm (decide (x.c.length=0))
 obtain ⟨z2,hz2⟩:=nm (decide (x.j.length=0))
 obtain ⟨z3,hz3⟩:=nm (zeroL x.l)
 have hk3:k≤3:=by rw[hk];exact kd_le _
 have HV:Hid (V=(!decide (k=0) && (!q1 && (q2 && (q3 && (q4 && (q5 && (((decide (k=1) || z1) && ((decide (k=2) || z2) && (decide (k=3) || z3))) && (seenC x.s x.c && seenJ x.s x.j))))))))):=hid (by rw[hV,hk,hq1,hq2,hq3,hq4,hq5,hz1,hz2,hz3];rfl)
 rw[← hV]
 have e1:((x.s.length:Int) == 0)=q1:=by rw[hq1];by_cases h:x.s.length=0 <;> simp[h]
 have y1:decide ((0:Int)<(x.c.length:Int)) = !z1:=by rw[hz1];by_cases h:x.c.length=0 <;> simp[h];omega
 have y1n:decide (0<x.c.length) = !z1:=by rw[hz1];by_cases h:x.c.length=0 <;> simp[h];omega
 have y2:decide ((0:Int)<(x.j.length:Int)) = !z2:=by rw[hz2];by_cases h:x.j.length=0 <;> simp[h];omega
 have y2n:decide (0<x.j.length) = !z2:=by rw[hz2];by_cases h:x.j.length=0 <;> simp[h];omega
 have CL:∀ W,(binOp .neq 27 (.agg x.l) (.agg #[.int .u64 0,.string ⟨#[]⟩,.bool false])).run Tryz.prog W=.ok (.bool (!z3)) W:=by rw[hz3,zeroL_eq];exact fun W=>neq_cell x.l Cl.zero W
 have KD:=hid (fun W=>(by rw[hk];exact refkind x.k W hky:CB 61 #[x.k] W (.int .u8 (k:Nat))))
 have C2:=hid (fun W (h:InnerE W x)=>qB hq2 (RefDots.may_any x.s x.sa x.s.length x.sc W h.s (by have:=ox.s;omega) (ok_of ox.sm)))
 have C3:=hid (fun W (h:InnerE W x)=>qB hq3 (mayC_any x.ca x.c.length x.cc x.c W h.c ox.c))
 have C4:=hid (fun W (h:InnerE W x)=>qB hq4 (mayB_any x.j x.ia x.ic W h.i.1 h.i.2 ox.j (fun y hy=>⟨(ox.jm y hy).1,(ox.jm y hy).2.1⟩) hf))
 have C5:=hid (fun W=>(by rw[hq5,← mayCl_eq];exact Cell.refmay_any (x.l.s:Int) ⟨x.l.t.toArray⟩ x.l.g W (by omega):CB 108 #[.agg x.l] W q5))
 clear hk hV hq1 hq2 hq3 hq4 hq5 hz1 hz2 hz3 ox hky hf
 go_enter Tryz.func39,Tryz.ntmps39
 go_upto_region 1 with (fail)
 have hb0:=balloc (Below.refl w.heap.size w) (.cells x 29)
 obtain ⟨p0,p1,p2,p3,p4,p5,p6⟩:=al7 (bx w x 29)
 obtain ⟨w0,hw0⟩:=nm (w.alloc (.cells x 29))
 rw[← hw0] at hb0 p0 p1 p2 p3 p4 p5 p6 ⊢
 obtain ⟨bp,hbp⟩:=nm w.heap.size
 rw[← hbp] at p0 p1 p2 p3 p4 p5 p6 ⊢
 have hb:=hb0
 clear hb0 hw0 hbp
 replace lx:=hid (lx.out.below hb)
 go_wp2_with fail
 refine cr (KD.out _) fun v1 k1=>?_
 have hA:=kp k1 (aj7 p0 p1 p2 p3 p4 p5 p6)
 clear p0 p1 p2 p3 p4 p5 p6
 obtain ⟨p0,p1,p2,p3,p4,p5,p6⟩:=hA
 replace lx:=hid ((lx.out).below k1)
 replace hb:=bstep hb k1
 clear k1
 by_cases k0:k=0
 ·have zz0:((k:Int) == 0)=true:=bT
  have HV2:Hid (V=false):=hid (by rw[HV.out,decide_eq_true k0];simp)
  go_wp2
  go_ret
  exact ⟨by rw[HV2.out];rfl,hb⟩
 have zz0:((k:Int) == 0)=false:=bF
 cases q1
 rotate_left
 ·
  have HV2:Hid (V=false):=hid (by rw[HV.out];simp)
  go_wp2
  go_ret
  exact ⟨by rw[HV2.out];rfl,hb⟩
 go_wp2_with fail
 refine cr (C2.out _ lx.out) fun v2 k2=>?_
 have hA:=kp k2 (aj7 p0 p1 p2 p3 p4 p5 p6)
 clear p0 p1 p2 p3 p4 p5 p6
 obtain ⟨p0,p1,p2,p3,p4,p5,p6⟩:=hA
 replace lx:=hid ((lx.out).below k2)
 replace hb:=bstep hb k2
 clear k2
 cases q2
 ·
  have HV2:Hid (V=false):=hid (by rw[HV.out];simp)
  go_wp2
  go_ret
  exact ⟨by rw[HV2.out];rfl,hb⟩
 go_wp2_with fail
 refine cr (C3.out _ lx.out) fun v3 k3=>?_
 have hA:=kp k3 (aj7 p0 p1 p2 p3 p4 p5 p6)
 clear p0 p1 p2 p3 p4 p5 p6
 obtain ⟨p0,p1,p2,p3,p4,p5,p6⟩:=hA
 replace lx:=hid ((lx.out).below k3)
 replace hb:=bstep hb k3
 clear k3
 cases q3
 ·
  have HV2:Hid (V=false):=hid (by rw[HV.out];simp)
  go_wp2
  go_ret
  exact ⟨by rw[HV2.out];rfl,hb⟩
 go_wp2_with fail
 refine cr (C4.out _ lx.out) fun v4 k4=>?_
 have hA:=kp k4 (aj7 p0 p1 p2 p3 p4 p5 p6)
 clear p0 p1 p2 p3 p4 p5 p6
 obtain ⟨p0,p1,p2,p3,p4,p5,p6⟩:=hA
 replace lx:=hid ((lx.out).below k4)
 replace hb:=bstep hb k4
 clear k4
 cases q4
 ·
  have HV2:Hid (V=false):=hid (by rw[HV.out];simp)
  go_wp2
  go_ret
  exact ⟨by rw[HV2.out];rfl,hb⟩
 go_wp2_with fail
 refine cr (C5.out _) fun v5 k5=>?_
 have hA:=kp k5 (aj7 p0 p1 p2 p3 p4 p5 p6)
 clear p0 p1 p2 p3 p4 p5 p6
 obtain ⟨p0,p1,p2,p3,p4,p5,p6⟩:=hA
 replace lx:=hid ((lx.out).below k5)
 replace hb:=bstep hb k5
 clear k5
 cases q5
 ·
  have HV2:Hid (V=false):=hid (by rw[HV.out];simp)
  go_wp2
  go_ret
  exact ⟨by rw[HV2.out];rfl,hb⟩
 obtain ⟨U,hU⟩:=nm (seenC x.s x.c && seenJ x.s x.j)
 have HV1:Hid (V=(((decide (k=1) || z1) && ((decide (k=2) || z2) && (decide (k=3) || z3))) && U)):=hid (by rw[HV.out,decide_eq_false k0,hU];simp)
 have HU:=hid hU
 clear HV hU C2 C3 C4 C5 KD
 replace k0:=hid k0
 go_upto_region 4 with (fail)
 go_cut [69] (fun zv wx=>zv=.bool (!((decide (k=1) || z1) && ((decide (k=2) || z2) && (decide (k=3) || z3))))∧Below w.heap.size w wx∧wx.cell? ⟨bp,0,none⟩=some ↑x.k∧wx.cell? ⟨bp,1,none⟩=some (.slice x.sa x.s.length x.sc)∧wx.cell? ⟨bp,2,none⟩=some (.slice x.ca x.c.length x.cc)∧wx.cell? ⟨bp,3,none⟩=some (.slice x.ia x.j.length x.ic)∧wx.cell? ⟨bp,4,none⟩=some ↑x.l.s∧wx.cell? ⟨bp,5,none⟩=some ↑x.l.t∧wx.cell? ⟨bp,6,none⟩=some ↑x.l.g∧InnerE wx x)
 case first =>
  by_cases k1:k=1
  ·
   have zz1:((k:Int) != 1)=false:=by rw[bne_eq_false_iff_eq];omega
   have zz2:((k:Int) != 2)=true:=by rw[bne_iff_ne];omega
   have zz3:((k:Int) != 3)=true:=by rw[bne_iff_ne];omega
   subst k1
   cases z2
   ·
    go_wp2_with fail
    go_meet
    exact ⟨by simp,hb,p0,p1,p2,p3,p4,p5,p6,lx.out⟩
   cases z3
   ·
    go_wp2_with fail
    go_meet
    exact ⟨by simp,hb,p0,p1,p2,p3,p4,p5,p6,lx.out⟩
   ·
    go_wp2_with fail
    go_meet
    exact ⟨by simp,hb,p0,p1,p2,p3,p4,p5,p6,lx.out⟩
  by_cases k2:k=2
  ·
   have zz1:((k:Int) != 1)=true:=by rw[bne_iff_ne];omega
   have zz2:((k:Int) != 2)=false:=by rw[bne_eq_false_iff_eq];omega
   have zz3:((k:Int) != 3)=true:=by rw[bne_iff_ne];omega
   subst k2
   cases z1
   ·
    go_wp2_with fail
    go_meet
    exact ⟨by simp,hb,p0,p1,p2,p3,p4,p5,p6,lx.out⟩
   cases z3
   ·
    go_wp2_with fail
    go_meet
    exact ⟨by simp,hb,p0,p1,p2,p3,p4,p5,p6,lx.out⟩
   ·
    go_wp2_with fail
    go_meet
    exact ⟨by simp,hb,p0,p1,p2,p3,p4,p5,p6,lx.out⟩
  have k3:k=3:=by have:=k0.out;omega
  clear k1 k2
  have zz1:((k:Int) != 1)=true:=by rw[bne_iff_ne];omega
  have zz2:((k:Int) != 2)=true:=by rw[bne_iff_ne];omega
  have zz3:((k:Int) != 3)=false:=by rw[bne_eq_false_iff_eq];omega
  subst k3
  cases z1
  ·
   go_wp2_with fail
   go_meet
   exact ⟨by simp,hb,p0,p1,p2,p3,p4,p5,p6,lx.out⟩
  cases z2
  ·
   go_wp2_with fail
   go_meet
   exact ⟨by simp,hb,p0,p1,p2,p3,p4,p5,p6,lx.out⟩
  ·
   go_wp2_with fail
   go_meet
   exact ⟨by simp,hb,p0,p1,p2,p3,p4,p5,p6,lx.out⟩
 clear hb p0 p1 p2 p3 p4 p5 p6 lx
 obtain ⟨rfl,hb,p0,p1,p2,p3,p4,p5,p6,lx⟩:=hcut
 replace lx:=hid lx
 obtain ⟨on,hon⟩:=nm ((decide (k=1) || z1) && ((decide (k=2) || z2) && (decide (k=3) || z3)))
 rw[← hon] at HV1 ⊢
 clear hon CL y1 y1n y2 y2n e1
 cases on
 ·have HV2:Hid (V=false):=hid (by rw[HV1.out];rfl)
  go_wp2
  go_ret
  exact ⟨by rw[HV2.out];rfl,hb⟩
 have HV3:Hid (V=(seenC x.s (x.c.drop 0) && seenJ x.s x.j)):=hid (by rw[HV1.out,HU.out];rfl)
 clear HV1 HU
 go_wp2_with fail
 go_loopw [4] (fun iv wr=>∃ i:Nat,i≤x.c.length∧iv=.int .i64 i∧Hid (V=(seenC x.s (x.c.drop i) && seenJ x.s x.j))∧Below w.heap.size w wr∧(wr.cell? ⟨bp,0,none⟩=some ↑x.k)∧(wr.cell? ⟨bp,1,none⟩=some (.slice x.sa x.s.length x.sc))∧(wr.cell? ⟨bp,2,none⟩=some (.slice x.ca x.c.length x.cc))∧(wr.cell? ⟨bp,3,none⟩=some (.slice x.ia x.j.length x.ic))∧(wr.cell? ⟨bp,4,none⟩=some ↑x.l.s)∧(wr.cell? ⟨bp,5,none⟩=some ↑x.l.t)∧(wr.cell? ⟨bp,6,none⟩=some ↑x.l.g)∧Hid (InnerE wr x)) (fun iv _=>x.c.length - (intOf iv).toNat)
 case atStart=>exact ⟨0,by omega,rfl,HV3,hb,p0,p1,p2,p3,p4,p5,p6,lx⟩
 case round =>
  clear HV3 hb p0 p1 p2 p3 p4 p5 p6 lx
  obtain ⟨i,hi,rfl,HM,hb,p0,p1,p2,p3,p4,p5,p6,lx⟩:=hrel
  by_cases hlt:i<x.c.length
  ·
   have d1:decide ((i:Int)<(x.c.length:Int))=true:=dT
   have j1:(0:Int)≤(i:Int):=by omega
   have j2:(i:Int)<(x.c.length:Int):=by omega
   obtain ⟨b,o,hea,hc⟩:=lx.out.c.2 (by omega)
   rw[hea] at p2 ⊢
   have c0:=cl1 (o+i*3) (hc i hlt)
   have hst:=seenC_step x.s hlt
   obtain ⟨t,ht⟩:=nm ((x.c[i]).p)
   rw[← ht] at c0 hst
   obtain ⟨z,hz⟩:=nm (ofL x.s t)
   rw[← hz] at hst
   have D1:=hid (fun W (h:InnerE W x)=>(by rw[hz];exact RefDots.of_any t x.s x.sa x.s.length x.sc W h.s (by have:=OX.out.s;omega) (ok_of OX.out.sm):CP 109 #[.slice x.sa x.s.length x.sc,t] W (.int .u64 (z:Nat))))
   rw[hst] at HM
   have HI:=hid hlt
   clear hc ht hst hlt hz hea
   go_upto_region 9 with (fail)
   obtain ⟨bad,hbad⟩:=nm (!decide (t=[]) && decide (z=0))
   have HST:Hid (V=((!bad && seenC x.s (x.c.drop (i+1))) && seenJ x.s x.j)):=hid (by
    rw[HM.out,hbad]
    by_cases h1:t=[] <;> by_cases h2:z=0 <;> simp[h1,h2])
   have HBD:=hid hbad
   clear HM hbad
   go_cut [95] (fun zv wx=>zv=.bool bad∧Below w.heap.size w wx∧wx.cell? ⟨bp,0,none⟩=some ↑x.k∧wx.cell? ⟨bp,1,none⟩=some (.slice x.sa x.s.length x.sc)∧wx.cell? ⟨bp,2,none⟩=some (.slice (some ⟨b,o,none⟩) x.c.length x.cc)∧wx.cell? ⟨bp,3,none⟩=some (.slice x.ia x.j.length x.ic)∧wx.cell? ⟨bp,4,none⟩=some ↑x.l.s∧wx.cell? ⟨bp,5,none⟩=some ↑x.l.t∧wx.cell? ⟨bp,6,none⟩=some ↑x.l.g∧InnerE wx x)
   case first =>
    by_cases hp:t=[]
    ·have e0:(t != [])=false:=by rw[hp];rfl
     have e0':(t == [])=true:=by rw[hp];rfl
     have HZ:Hid (bad=false):=hid (by rw[HBD.out,decide_eq_true hp];rfl)
     clear hp
     go_wp2_with fail
     refine rgd (fun w'=>Below w.heap.size w w'∧w'.cell? ⟨bp,0,none⟩=some ↑x.k∧w'.cell? ⟨bp,1,none⟩=some (.slice x.sa x.s.length x.sc)∧w'.cell? ⟨bp,2,none⟩=some (.slice (some ⟨b,o,none⟩) x.c.length x.cc)∧w'.cell? ⟨bp,3,none⟩=some (.slice x.ia x.j.length x.ic)∧w'.cell? ⟨bp,4,none⟩=some ↑x.l.s∧w'.cell? ⟨bp,5,none⟩=some ↑x.l.t∧w'.cell? ⟨bp,6,none⟩=some ↑x.l.g∧InnerE w' x∧w'.cell? ⟨b,o+i*3,none⟩=some ↑t) ⟨hb,p0,p1,p2,p3,p4,p5,p6,lx.out,c0⟩ fun hHeld=>?_
     refine tk [0,1,2,3,4,5,6,7,8,9,10,11,12,13,14,15,16,17,18] ?_
     refine tD ?_
     clear hb p0 p1 p2 p3 p4 p5 p6 lx c0
     obtain ⟨hb,p0,p1,p2,p3,p4,p5,p6,lx,c0⟩:=hHeld
     replace lx:=hid lx
     go_wp2_with fail
     go_meet
     exact ⟨by rw[HZ.out],hb,p0,p1,p2,p3,p4,p5,p6,lx.out⟩
    have e0:(t != [])=true:=by rw[bne_iff_ne];exact hp
    have e0':(t == [])=false:=by rw[beq_eq_false_iff_ne];exact hp
    have HY:Hid (bad=decide (z=0)):=hid (by rw[HBD.out,decide_eq_false hp];rfl)
    clear hp
    by_cases h9:z=0
    ·have e9:((z:Int) == 0)=true:=bT
     have HZ:Hid (bad=true):=hid (by rw[HY.out,decide_eq_true h9])
     clear h9
     go_wp2_with fail
     refine rgd (fun w'=>Below w.heap.size w w'∧w'.cell? ⟨bp,0,none⟩=some ↑x.k∧w'.cell? ⟨bp,1,none⟩=some (.slice x.sa x.s.length x.sc)∧w'.cell? ⟨bp,2,none⟩=some (.slice (some ⟨b,o,none⟩) x.c.length x.cc)∧w'.cell? ⟨bp,3,none⟩=some (.slice x.ia x.j.length x.ic)∧w'.cell? ⟨bp,4,none⟩=some ↑x.l.s∧w'.cell? ⟨bp,5,none⟩=some ↑x.l.t∧w'.cell? ⟨bp,6,none⟩=some ↑x.l.g∧InnerE w' x∧w'.cell? ⟨b,o+i*3,none⟩=some ↑t) ⟨hb,p0,p1,p2,p3,p4,p5,p6,lx.out,c0⟩ fun hHeld=>?_
     refine tk [0,1,2,3,4,5,6,7,8,9,10,11,12,13,14,15] ?_
     refine tR 16 fun K hK=>?_
     go_simp
     go_at_call 109
     refine cp (D1.out _ hHeld.2.2.2.2.2.2.2.2.1) ?_
     go_wp2_with fail
     refine hK.out _ _ hHeld (fun hHeld=>?_)
     clear hK K
     try simp only[Act.put,List.setIfInBounds_toArray,List.set_cons_zero,List.set_cons_succ]
     refine tk [17,18] ?_
     refine tD ?_
     clear hb p0 p1 p2 p3 p4 p5 p6 lx c0
     obtain ⟨hb,p0,p1,p2,p3,p4,p5,p6,lx,c0⟩:=hHeld
     replace lx:=hid lx
     go_wp2_with fail
     go_meet
     exact ⟨by rw[HZ.out],hb,p0,p1,p2,p3,p4,p5,p6,lx.out⟩
    have e9:((z:Int) == 0)=false:=bF
    have HZ:Hid (bad=false):=hid (by rw[HY.out,decide_eq_false h9])
    clear h9
    go_wp2_with fail
    refine rgd (fun w'=>Below w.heap.size w w'∧w'.cell? ⟨bp,0,none⟩=some ↑x.k∧w'.cell? ⟨bp,1,none⟩=some (.slice x.sa x.s.length x.sc)∧w'.cell? ⟨bp,2,none⟩=some (.slice (some ⟨b,o,none⟩) x.c.length x.cc)∧w'.cell? ⟨bp,3,none⟩=some (.slice x.ia x.j.length x.ic)∧w'.cell? ⟨bp,4,none⟩=some ↑x.l.s∧w'.cell? ⟨bp,5,none⟩=some ↑x.l.t∧w'.cell? ⟨bp,6,none⟩=some ↑x.l.g∧InnerE w' x∧w'.cell? ⟨b,o+i*3,none⟩=some ↑t) ⟨hb,p0,p1,p2,p3,p4,p5,p6,lx.out,c0⟩ fun hHeld=>?_
    refine tk [0,1,2,3,4,5,6,7,8,9,10,11,12,13,14,15] ?_
    refine tR 16 fun K hK=>?_
    go_simp
    go_at_call 109
    refine cp (D1.out _ hHeld.2.2.2.2.2.2.2.2.1) ?_
    go_wp2_with fail
    refine hK.out _ _ hHeld (fun hHeld=>?_)
    clear hK K
    try simp only[Act.put,List.setIfInBounds_toArray,List.set_cons_zero,List.set_cons_succ]
    refine tk [17,18] ?_
    refine tD ?_
    clear hb p0 p1 p2 p3 p4 p5 p6 lx c0
    obtain ⟨hb,p0,p1,p2,p3,p4,p5,p6,lx,c0⟩:=hHeld
    replace lx:=hid lx
    go_wp2_with fail
    go_meet
    exact ⟨by rw[HZ.out],hb,p0,p1,p2,p3,p4,p5,p6,lx.out⟩
   clear hb c0 p0 p1 p2 p3 p4 p5 p6 lx
   obtain ⟨rfl,hb,p0,p1,p2,p3,p4,p5,p6,lx⟩:=hcut
   replace lx:=hid lx
   cases bad
   rotate_left
   ·have HV2:Hid (V=false):=hid (by rw[HST.out];rfl)
    clear HST HBD
    go_wp2
    go_ret
    exact ⟨by rw[HV2.out];rfl,hb⟩
   have HV2:Hid (V=(seenC x.s (x.c.drop (i+1)) && seenJ x.s x.j)):=hid (by rw[HST.out];rfl)
   clear HST HBD
   go_wp2
   go_roundw
   case rel=>exact ⟨i+1,by have:=HI.out;omega,by go_num,HV2,hb,p0,p1,p2,p3,p4,p5,p6,lx⟩
   case measure=>simp[intOf];have:=HI.out;omega
  ·
   have HE:Hid (V=seenJ x.s (x.j.drop 0)):=hid (by rw[HM.out,List.drop_eq_nil_of_le (by omega)];rfl)
   have d1:decide ((i:Int)<(x.c.length:Int))=false:=dF
   clear HM
   go_wp2_with fail
   clear hlt d1
   go_loopw [5] (fun iv wr=>∃ i:Nat,i≤x.j.length∧iv=.int .i64 i∧Hid (V=seenJ x.s (x.j.drop i))∧Below w.heap.size w wr∧(wr.cell? ⟨bp,0,none⟩=some ↑x.k)∧(wr.cell? ⟨bp,1,none⟩=some (.slice x.sa x.s.length x.sc))∧(wr.cell? ⟨bp,2,none⟩=some (.slice x.ca x.c.length x.cc))∧(wr.cell? ⟨bp,3,none⟩=some (.slice x.ia x.j.length x.ic))∧(wr.cell? ⟨bp,4,none⟩=some ↑x.l.s)∧(wr.cell? ⟨bp,5,none⟩=some ↑x.l.t)∧(wr.cell? ⟨bp,6,none⟩=some ↑x.l.g)∧Hid (InnerE wr x)) (fun iv _=>x.j.length - (intOf iv).toNat)
   case atStart=>exact ⟨0,by omega,rfl,HE,hb,p0,p1,p2,p3,p4,p5,p6,lx⟩
   case round =>
    clear HE hb p0 p1 p2 p3 p4 p5 p6 lx hi
    obtain ⟨i,hi,rfl,HM,hb,p0,p1,p2,p3,p4,p5,p6,lx⟩:=hrel
    by_cases hlt:i<x.j.length
    rotate_left
    ·have HE:Hid (V=true):=hid (by rw[HM.out,List.drop_eq_nil_of_le (by omega)];rfl)
     go_wp2
     go_ret
     exact ⟨by rw[HE.out];rfl,hb⟩
    have d1:decide ((i:Int)<(x.j.length:Int))=true:=dT
    have j1:(0:Int)≤(i:Int):=by omega
    have j2:(i:Int)<(x.j.length:Int):=by omega
    obtain ⟨b,o,hea,hc⟩:=lx.out.i.1.2 (by omega)
    rw[hea] at p3 ⊢
    obtain ⟨-,c1⟩:=cl2 (o+i*2) (hc i hlt)
    have ly:Hid (Row.Lies dE wr (x.j[i]).a (x.j[i]).d.length (x.j[i]).d):=hid (lx.out.i.2 _ (List.getElem_mem hlt))
    have hst:=seenJ_step x.s hlt
    have hdl:=(OX.out.jm _ (List.getElem_mem hlt)).2.1
    obtain ⟨u,hu⟩:=nm x.j[i]
    rw[← hu] at c1 ly hst hdl
    obtain ⟨ut,da,dc,D⟩:=u
    dsimp only at c1 ly hst hdl
    rw[hst] at HM
    have HV4:Hid (V=(seenD x.s (D.drop 0) && seenJ x.s (x.j.drop (i+1)))):=hid HM.out
    have HI:=hid hlt
    clear hc hu hst hlt HM hea
    go_wp2_with fail
    go_loopw [6] (fun jv wr=>∃ j:Nat,j≤D.length∧jv=.int .i64 j∧Hid (V=(seenD x.s (D.drop j) && seenJ x.s (x.j.drop (i+1))))∧Below w.heap.size w wr∧(wr.cell? ⟨bp,0,none⟩=some ↑x.k)∧(wr.cell? ⟨bp,1,none⟩=some (.slice x.sa x.s.length x.sc))∧(wr.cell? ⟨bp,2,none⟩=some (.slice x.ca x.c.length x.cc))∧(wr.cell? ⟨bp,3,none⟩=some (.slice (some ⟨b,o,none⟩) x.j.length x.ic))∧(wr.cell? ⟨bp,4,none⟩=some ↑x.l.s)∧(wr.cell? ⟨bp,5,none⟩=some ↑x.l.t)∧(wr.cell? ⟨bp,6,none⟩=some ↑x.l.g)∧Hid (InnerE wr x)∧(wr.cell? ⟨b,o+i*2+1,none⟩=some (.slice da D.length dc))∧Hid (Row.Lies dE wr da D.length D)) (fun jv _=>D.length - (intOf jv).toNat)
    case atStart=>exact ⟨0,by omega,rfl,HV4,hb,p0,p1,p2,p3,p4,p5,p6,lx,c1,ly⟩
    case round =>
     clear HV4 hb p0 p1 p2 p3 p4 p5 p6 lx c1 ly
     obtain ⟨j,hj,rfl,HM,hb,p0,p1,p2,p3,p4,p5,p6,lx,c1,ly⟩:=hrel
     by_cases hjt:j<D.length
     rotate_left
     ·have HE:Hid (V=seenJ x.s (x.j.drop (i+1))):=hid (by rw[HM.out,List.drop_eq_nil_of_le (by omega)];rfl)
      go_wp2
      go_roundw
      case rel=>exact ⟨i+1,by have:=HI.out;omega,by go_num,HE,hb,p0,p1,p2,p3,p4,p5,p6,lx⟩
      case measure=>simp[intOf];have:=HI.out;omega
     have dj:decide ((j:Int)<(D.length:Int))=true:=dT
     have j3:(0:Int)≤(j:Int):=by omega
     have j4:(j:Int)<(D.length:Int):=by omega
     obtain ⟨b2,o2,rfl,hc2⟩:=ly.out.2 (by omega)
     obtain ⟨f0,f1⟩:=cl2 (o2+j*2) (hc2 j hjt)
     have hst:=seenD_step x.s hjt
     obtain ⟨m,hm⟩:=nm D[j]
     rw[← hm] at f0 f1 hst
     obtain ⟨q,hq⟩:=nm (hasL x.s m.p m.n)
     rw[← hq] at hst
     have D1:=hid (fun W (h:InnerE W x)=>qB hq (RefDots.has_any m.p m.n x.s x.sa x.s.length x.sc W h.s (by have:=OX.out.s;omega) (ok_of OX.out.sm)))
     rw[hst] at HM
     have HJ:=hid hjt
     clear hc2 hm hst hjt hq
     go_wp2_with fail
     refine rgd (fun w'=>Below w.heap.size w w'∧w'.cell? ⟨bp,0,none⟩=some ↑x.k∧w'.cell? ⟨bp,1,none⟩=some (.slice x.sa x.s.length x.sc)∧w'.cell? ⟨bp,2,none⟩=some (.slice x.ca x.c.length x.cc)∧w'.cell? ⟨bp,3,none⟩=some (.slice (some ⟨b,o,none⟩) x.j.length x.ic)∧w'.cell? ⟨bp,4,none⟩=some ↑x.l.s∧w'.cell? ⟨bp,5,none⟩=some ↑x.l.t∧w'.cell? ⟨bp,6,none⟩=some ↑x.l.g∧InnerE w' x∧w'.cell? ⟨b,o+i*2+1,none⟩=some (.slice (some ⟨b2,o2,none⟩) D.length dc)∧Row.Lies dE w' (some ⟨b2,o2,none⟩) D.length D∧w'.cell? ⟨b2,o2+j*2,none⟩=some ↑m.p∧w'.cell? ⟨b2,o2+j*2+1,none⟩=some ↑m.n) ⟨hb,p0,p1,p2,p3,p4,p5,p6,lx.out,c1,ly.out,f0,f1⟩ fun hHeld=>?_
     refine tk [0,1,2,3,4,5,6,7,8,9,10] ?_
     refine tR 11 fun K hK=>?_
     go_simp
     go_at_call 110
     refine cr (D1.out _ hHeld.2.2.2.2.2.2.2.2.1) fun v8 k8=>?_
     go_wp2_with fail
     refine tH hK hHeld k8 fun hHeld=>?_
     clear hK K k8
     refine tk [12] ?_
     refine tD ?_
     clear hb p0 p1 p2 p3 p4 p5 p6 lx c1 ly f0 f1
     obtain ⟨hb,p0,p1,p2,p3,p4,p5,p6,lx,c1,ly,f0,f1⟩:=hHeld
     replace lx:=hid lx
     replace ly:=hid ly
     clear f0 f1 D1
     cases q
     ·have HV2:Hid (V=false):=hid (by rw[HM.out];rfl)
      go_wp2
      go_ret
      exact ⟨by rw[HV2.out];rfl,hb⟩
     have HV2:Hid (V=(seenD x.s (D.drop (j+1)) && seenJ x.s (x.j.drop (i+1)))):=hid (by rw[HM.out];rfl)
     go_wp2
     go_roundw
     case rel=>exact ⟨_,_,_,_,_,_,_,_,_,_,_,_,_,_,_,_,_,_,_,_,_,_,_,_,_,_,⟨j+1,by have:=HJ.out;omega,by go_num,HV2,hb,p0,p1,p2,p3,p4,p5,p6,lx,c1,ly⟩,rfl⟩
     case measure=>simp[intOf];have:=HJ.out;omega
end RefMay
set_option maxRecDepth 100000
set_option maxHeartbeats 40000000
namespace RefWrite
open RowKit YtnpjkmomllkhpaaGreatDoor.Mark Num Wire Bag Coder
theorem part_le {α:Type} (f:α→List UInt8) (L:List α) {k:Nat} (h:k<L.length):(acc f L k).length+(f L[k]).length≤(lst f L).length:=by
 have:=acc_le f L (k+1)
 rw[acc_step f h,List.length_append] at this
 exact this
theorem raw_any (x:RE) (w:World) (hx:InnerE w x) (ox:x.Ok) (hky:x.k.length≤65536) (h0:kd x.k≠0) (hs:(fE x).length≤70368744177664) :
  CB 40 #[.agg x] w (fE x):=by
 have lx:=hid hx
 have OX:=hid ox
 have hcn:=ox.c
 have hjn:=ox.j
 have hkl:=ox.k
 have htl:=ox.t
 have hgl:=ox.g
 obtain ⟨k,hk⟩:=nm (kd x.k)
 have hk3:k≤3:=by rw[hk];exact kd_le _
 have KD:=hid (fun W=>(by rw[hk];exact RefMay.refkind x.k W hky:CB 61 #[x.k] W (.int .u8 (k:Nat))))
 have HB:Hid (body x.e=if k=1 then lst ct x.c else if k=2 then lst itb (x.j.map RI.it) else if k=3 then cl x.l else []):=hid (by rw[hk];rfl)
 rw[← hk] at h0
 have K0:=hid h0
 obtain ⟨p0,hp0⟩:=nm (tx x.k)
 have b0:p0.length≤1048586:=by rw[hp0];have:=tx_len x.k;omega
 have R0:Hid ([x.k].flatMap tx=p0):=hid (by rw[hp0];simp)
 obtain ⟨p1,hp1⟩:=nm (lst mk x.s)
 obtain ⟨H,hH⟩:=nm (p0++p1)
 have HV0:Hid (fE x=H++body x.e):=hid (by rw[hH,hp0,hp1];rfl)
 rw[HV0.out,List.length_append] at hs
 have hl:H.length=p0.length+p1.length:=by rw[hH,List.length_append]
 have aH:(({ data:=p0.toArray }:ByteArray))++{ data:=p1.toArray }={ data:=H.toArray }:=by rw[hH];exact Str.mk_append_mk p0 p1
 have b1:p1.length≤70368744177664:=by omega
 have z0:=Str.size_mk p0
 have z1:=Str.size_mk p1
 have zH:=Str.size_mk H
 have nH:¬ (9223372036854775807<p0.length+p1.length):=by omega
 have mH:¬ (p0.length+p1.length > 9223372036854775807):=by omega
 have D6:=hid (fun W (h:InnerE W x)=>qS hp1 (marks_any x.sa x.sc x.s W h.s OX.out.s OX.out.sm (by rw[← hp1];exact b1)))
 have HLB:Hid (H.length+(body x.e).length≤70368744177664):=hid hs
 replace hH:=hid hH
 replace hl:=hid hl
 clear hp0 hp1 hk hs hx ox h0 hky
 go_enter Tryz.func40,Tryz.ntmps40
 go_upto_region 1 with (fail)
 have hb0:=balloc (Below.refl w.heap.size w) (.cells x 29)
 obtain ⟨t0,t1,t2,t3,t4,t5,t6⟩:=al7 (bx w x 29)
 obtain ⟨w0,hw0⟩:=nm (w.alloc (.cells x 29))
 rw[← hw0] at hb0 t0 t1 t2 t3 t4 t5 t6 ⊢
 obtain ⟨bt,hbt⟩:=nm w.heap.size
 rw[← hbt] at t0 t1 t2 t3 t4 t5 t6 ⊢
 have hb:=hb0
 clear hb0 hw0 hbt
 replace lx:=hid (lx.out.below hb)
 go_upto_region 1 with fail
 go_cut [3] (fun s wx=>s=.string ⟨H.toArray⟩∧Below w.heap.size w wx∧wx.cell? ⟨bt,0,none⟩=some ↑x.k∧wx.cell? ⟨bt,1,none⟩=some (.slice x.sa x.s.length x.sc)∧wx.cell? ⟨bt,2,none⟩=some (.slice x.ca x.c.length x.cc)∧wx.cell? ⟨bt,3,none⟩=some (.slice x.ia x.j.length x.ic)∧wx.cell? ⟨bt,4,none⟩=some ↑x.l.s∧wx.cell? ⟨bt,5,none⟩=some ↑x.l.t∧wx.cell? ⟨bt,6,none⟩=some ↑x.l.g∧InnerE wx x)
 case first =>
  refine rG (fun w'=>Below w.heap.size w w'∧w'.cell? ⟨bt,0,none⟩=some ↑x.k∧w'.cell? ⟨bt,1,none⟩=some (.slice x.sa x.s.length x.sc)∧w'.cell? ⟨bt,2,none⟩=some (.slice x.ca x.c.length x.cc)∧w'.cell? ⟨bt,3,none⟩=some (.slice x.ia x.j.length x.ic)∧w'.cell? ⟨bt,4,none⟩=some ↑x.l.s∧w'.cell? ⟨bt,5,none⟩=some ↑x.l.t∧w'.cell? ⟨bt,6,none⟩=some ↑x.l.g∧InnerE w' x) ⟨hb,t0,t1,t2,t3,t4,t5,t6,lx.out⟩ fun wd hHeld=>?_
  refine tk [0,1,4,5] ?_
  refine tR 2 fun K hK=>?_
  go_simp
  refine tA hK hHeld fun hHeld=>?_
  clear hK K
  have N2:=txts_here [x.k] (by intro y hy;simp at hy;subst hy;omega) rfl 1 rfl hHeld.1
  try simp only[World.size_alloc] at N2
  refine tR 3 fun K hK=>?_
  go_simp
  go_at_call 63
  refine cr (texts_w N2 p0 R0.out (by omega) (by omega)) fun v1 k1=>?_
  replace N2:=(N2).below rfl k1
  go_wp2_with fail
  refine tH hK hHeld k1 fun hHeld=>?_
  clear hK K k1
  refine tR 6 fun K hK=>?_
  go_simp
  go_at_call 50
  refine cr (D6.out _ hHeld.2.2.2.2.2.2.2.2) fun v2 k2=>?_
  replace N2:=(N2).below rfl k2
  go_wp2_with fail
  refine tH hK hHeld k2 fun hHeld=>?_
  clear hK K k2
  refine tk [7,8] ?_
  refine tD ?_
  clear hb t0 t1 t2 t3 t4 t5 t6 lx
  obtain ⟨hb,t0,t1,t2,t3,t4,t5,t6,lx⟩:=hHeld
  replace lx:=hid lx
  go_wp2_with fail
  go_meet
  exact ⟨rfl,hb,t0,t1,t2,t3,t4,t5,t6,lx.out⟩
 clear hb t0 t1 t2 t3 t4 t5 t6 lx
 obtain ⟨rfl,hb,t0,t1,t2,t3,t4,t5,t6,lx⟩:=hcut
 replace lx:=hid lx
 clear D6
 go_wp2_with fail
 refine cr (KD.out _) fun v3 k3=>?_
 have hA:=kp k3 (aj7 t0 t1 t2 t3 t4 t5 t6)
 clear t0 t1 t2 t3 t4 t5 t6
 obtain ⟨t0,t1,t2,t3,t4,t5,t6⟩:=hA
 replace lx:=hid ((lx.out).below k3)
 replace hb:=bstep hb k3
 clear k3 KD
 by_cases k1:k=1
 ·
  have zz1:((k:Int) == 1)=true:=bT
  have HLC:Hid (H.length+(lst ct x.c).length≤70368744177664):=hid (by have:=HLB.out;rw[HB.out,if_pos k1] at this;exact this)
  have HVX:Hid (fE x=H++lst ct x.c):=hid (by rw[HV0.out,HB.out,if_pos k1])
  have hHl:H.length≤70368744177664:=by have:=HLC.out;omega
  clear k1
  have w8:IntKind.u64.wrap (x.c.length:Int)=(x.c.length:Int):=by rw[IntKind.wrap_u64];omega
  obtain ⟨pn,hpn⟩:=nm (upL x.c.length)
  have bn:pn.length≤10:=by rw[hpn];exact up_len _
  have RN:Hid (cat [x.c.length]=pn):=hid (by rw[hpn];simp[cat])
  have zn:=Str.size_mk pn
  obtain ⟨S1,hS1⟩:=nm (H++pn)
  have lS1:S1.length=H.length+pn.length:=by rw[hS1,List.length_append]
  have aS1:(({ data:=H.toArray }:ByteArray))++{ data:=pn.toArray }={ data:=S1.toArray }:=by rw[hS1];exact Str.mk_append_mk H pn
  have zS1:=Str.size_mk S1
  have nS1:¬ (9223372036854775807<H.length+pn.length):=by omega
  have mS1:¬ (H.length+pn.length > 9223372036854775807):=by omega
  have HA1:Hid (S1=H++acc ct x.c 0):=hid (by rw[hS1,hpn,acc_zero])
  replace hS1:=hid hS1
  replace lS1:=hid lS1
  clear hpn
  go_upto_region 5 with (fail)
  go_wp2_with fail
  have N0:=nats_here [x.c.length] (by intro y hy;simp at hy;omega) (C:=#[x.c.length]) (t:=25) rfl 1 rfl (balloc hb _)
  refine cr (nums_w N0 (by omega) pn RN.out) fun v4 k4=>?_
  replace k4:=(balloc (Below.refl _ _) _).trans (k4.mono (balloc (Below.refl _ _) _).size)
  have hA:=kp k4 (aj7 t0 t1 t2 t3 t4 t5 t6)
  clear t0 t1 t2 t3 t4 t5 t6
  obtain ⟨t0,t1,t2,t3,t4,t5,t6⟩:=hA
  replace lx:=hid ((lx.out).below k4)
  replace hb:=bstep hb k4
  clear k4 N0 RN
  go_wp2_with fail
  go_loopw [3,4] (fun sv iv wr=>∃ (q:Nat) (s:List UInt8),q≤x.c.length∧sv=.string ⟨s.toArray⟩∧iv=.int .i64 q∧Hid (s=H++acc ct x.c q)∧Below w.heap.size w wr∧(wr.cell? ⟨bt,0,none⟩=some ↑x.k)∧(wr.cell? ⟨bt,1,none⟩=some (.slice x.sa x.s.length x.sc))∧(wr.cell? ⟨bt,2,none⟩=some (.slice x.ca x.c.length x.cc))∧(wr.cell? ⟨bt,3,none⟩=some (.slice x.ia x.j.length x.ic))∧(wr.cell? ⟨bt,4,none⟩=some ↑x.l.s)∧(wr.cell? ⟨bt,5,none⟩=some ↑x.l.t)∧(wr.cell? ⟨bt,6,none⟩=some ↑x.l.g)∧Hid (InnerE wr x)) (fun _ iv _=>x.c.length - (intOf iv).toNat)
  case atStart=>exact ⟨0,S1,by omega,rfl,rfl,HA1,hb,t0,t1,t2,t3,t4,t5,t6,lx⟩
  case round =>
   clear hb t0 t1 t2 t3 t4 t5 t6 lx HA1 bn zn
   obtain ⟨q,s,hq,rfl,rfl,HA,hb,t0,t1,t2,t3,t4,t5,t6,lx⟩:=hrel
   by_cases hlt:q<x.c.length
   rotate_left
   ·have HE:Hid (fE x=s):=hid (by rw[HVX.out,HA.out,acc_all _ _ (by omega)])
    have dq:decide ((q:Int)<(x.c.length:Int))=false:=dF
    go_wp2
    go_ret
    exact ⟨by rw[HE.out];rfl,hb⟩
   have d1:decide ((q:Int)<(x.c.length:Int))=true:=dT
   have j1:(0:Int)≤(q:Int):=by omega
   have j2:(q:Int)<(x.c.length:Int):=by omega
   obtain ⟨b,o,hea,hc⟩:=lx.out.c.2 (by omega)
   rw[hea] at t2 ⊢
   obtain ⟨c0,c1,c2⟩:=cl3 (o+q*3) (hc q hlt)
   have HT:=hid (acc_step ct hlt)
   have hcm:=OX.out.cm _ (List.getElem_mem hlt)
   have hal:=part_le ct x.c hlt
   have hsl:s.length=H.length+(acc ct x.c q).length:=by rw[HA.out,List.length_append]
   obtain ⟨m,hm⟩:=nm x.c[q]
   rw[← hm] at c0 c1 c2 HT hcm hal
   have hb1:=hcm.1
   have hb2:=hcm.2.1
   have hb3:=hcm.2.2
   have hsl2:s.length≤70368744177664:=by have:=HLC.out;omega
   have zs:=Str.size_mk s
   obtain ⟨r0,hr0⟩:=nm (tx m.p)
   have e0:r0.length≤1048586:=by rw[hr0];have:=tx_len m.p;omega
   have Q0:Hid ([m.p].flatMap tx=r0):=hid (by rw[hr0];simp)
   have y0:=Str.size_mk r0
   obtain ⟨r1,hr1⟩:=nm (upL m.a++upL m.b)
   have e1:r1.length≤20:=by rw[hr1,List.length_append];have:=up_len m.a;have:=up_len m.b;omega
   have Q1:Hid (cat [m.a,m.b]=r1):=hid (by rw[hr1];simp[cat])
   have y1:=Str.size_mk r1
   clear hal hsl
   obtain ⟨C1,hC1,lC1,aC1,zC1,nC1,mC1⟩:=apd s r0 (by omega)
   obtain ⟨C2,hC2,lC2,aC2,zC2,nC2,mC2⟩:=apd C1 r1 (by omega)
   have HV:Hid (C2=H++acc ct x.c (q+1)):=hid (by rw[HT.out,hC2,hC1,HA.out,hr0,hr1];unfold ct;simp only[List.append_assoc])
   have HI:=hid hlt
   replace hC1:=hid hC1
   replace lC1:=hid lC1
   replace hC2:=hid hC2
   replace lC2:=hid lC2
   clear hr0 hr1 hm hc hlt HT HA hcm hea
   go_wp2_with fail
   refine rG (fun w'=>Below w.heap.size w w'∧w'.cell? ⟨bt,0,none⟩=some ↑x.k∧w'.cell? ⟨bt,1,none⟩=some (.slice x.sa x.s.length x.sc)∧w'.cell? ⟨bt,2,none⟩=some (.slice (some ⟨b,o,none⟩) x.c.length x.cc)∧w'.cell? ⟨bt,3,none⟩=some (.slice x.ia x.j.length x.ic)∧w'.cell? ⟨bt,4,none⟩=some ↑x.l.s∧w'.cell? ⟨bt,5,none⟩=some ↑x.l.t∧w'.cell? ⟨bt,6,none⟩=some ↑x.l.g∧InnerE w' x∧w'.cell? ⟨b,o+q*3,none⟩=some ↑m.p∧w'.cell? ⟨b,o+q*3+1,none⟩=some ↑m.a∧w'.cell? ⟨b,o+q*3+2,none⟩=some ↑m.b) ⟨hb,t0,t1,t2,t3,t4,t5,t6,lx.out,c0,c1,c2⟩ fun wd hHeld=>?_
   refine tk [0,1,2,3,4,5,6,10,11,12,13,14,15,16,17,18,19,20,21] ?_
   refine tR2 7 22 (fun K hK=>?_) fun K hK=>?_
   ·
    go_simp
    refine tA hK hHeld fun hHeld=>?_
    clear hK K
    have N7:=txts_here [m.p] (by intro y hy;simp at hy;subst hy;omega) rfl 1 rfl hHeld.1
    try simp only[World.size_alloc] at N7
    refine tR2 8 22 (fun K hK=>?_) fun K hK=>?_
    ·
     go_simp
     go_at_call 63
     refine cr (texts_w N7 r0 Q0.out (by omega) (by omega)) fun v5 k5=>?_
     replace N7:=(N7).below rfl k5
     go_wp2_with fail
     refine tH hK hHeld k5 fun hHeld=>?_
     clear hK K k5
     refine tk [9] ?_
     refine tR 22 fun K hK=>?_
     go_simp
     refine tA hK hHeld fun hHeld=>?_
     clear hK K
     replace N7:=txts_move N7 hHeld.1
     have N22:=nats_here [m.a,m.b] (by intro y hy;simp at hy;omega) rfl 2 rfl hHeld.1
     try simp only[World.size_alloc] at N22
     refine tR 23 fun K hK=>?_
     go_simp
     go_at_call 62
     refine cr (nums_w N22 (by omega) r1 Q1.out) fun v6 k6=>?_
     replace N7:=(N7).below rfl k6
     replace N22:=(N22).below rfl k6
     go_wp2_with fail
     refine tH hK hHeld k6 fun hHeld=>?_
     clear hK K k6
     refine tk [24,25] ?_
     refine tD ?_
     clear hb t0 t1 t2 t3 t4 t5 t6 lx c0 c1 c2
     obtain ⟨hb,t0,t1,t2,t3,t4,t5,t6,lx,c0,c1,c2⟩:=hHeld
     replace lx:=hid lx
     go_wp2
     go_roundw
     case rel=>exact ⟨q+1,C2,by have:=HI.out;omega,rfl,by go_num,HV,hb,t0,t1,t2,t3,t4,t5,t6,lx⟩
     case measure=>simp[intOf];have:=HI.out;omega
    ·
     go_simp
     refine tA hK hHeld fun hHeld=>?_
     clear hK K
     replace N7:=txts_move N7 hHeld.1
     have N22:=nats_here [m.a,m.b] (by intro y hy;simp at hy;omega) rfl 2 rfl hHeld.1
     try simp only[World.size_alloc] at N22
     refine tR 8 fun K hK=>?_
     go_simp
     go_at_call 63
     refine cr (texts_w N7 r0 Q0.out (by omega) (by omega)) fun v7 k7=>?_
     replace N7:=(N7).below rfl k7
     replace N22:=(N22).below rfl k7
     go_wp2_with fail
     refine tH hK hHeld k7 fun hHeld=>?_
     clear hK K k7
     refine tk [9] ?_
     refine tR 23 fun K hK=>?_
     go_simp
     go_at_call 62
     refine cr (nums_w N22 (by omega) r1 Q1.out) fun v8 k8=>?_
     replace N7:=(N7).below rfl k8
     replace N22:=(N22).below rfl k8
     go_wp2_with fail
     refine tH hK hHeld k8 fun hHeld=>?_
     clear hK K k8
     refine tk [24,25] ?_
     refine tD ?_
     clear hb t0 t1 t2 t3 t4 t5 t6 lx c0 c1 c2
     obtain ⟨hb,t0,t1,t2,t3,t4,t5,t6,lx,c0,c1,c2⟩:=hHeld
     replace lx:=hid lx
     go_wp2
     go_roundw
     case rel=>exact ⟨q+1,C2,by have:=HI.out;omega,rfl,by go_num,HV,hb,t0,t1,t2,t3,t4,t5,t6,lx⟩
     case measure=>simp[intOf];have:=HI.out;omega
   ·
    go_simp
    refine tA hK hHeld fun hHeld=>?_
    clear hK K
    have N22:=nats_here [m.a,m.b] (by intro y hy;simp at hy;omega) rfl 2 rfl hHeld.1
    try simp only[World.size_alloc] at N22
    refine tR 7 fun K hK=>?_
    go_simp
    refine tA hK hHeld fun hHeld=>?_
    clear hK K
    replace N22:=nats_move N22 hHeld.1
    have N7:=txts_here [m.p] (by intro y hy;simp at hy;subst hy;omega) rfl 1 rfl hHeld.1
    try simp only[World.size_alloc] at N7
    refine tR 8 fun K hK=>?_
    go_simp
    go_at_call 63
    refine cr (texts_w N7 r0 Q0.out (by omega) (by omega)) fun v9 k9=>?_
    replace N22:=(N22).below rfl k9
    replace N7:=(N7).below rfl k9
    go_wp2_with fail
    refine tH hK hHeld k9 fun hHeld=>?_
    clear hK K k9
    refine tk [9] ?_
    refine tR 23 fun K hK=>?_
    go_simp
    go_at_call 62
    refine cr (nums_w N22 (by omega) r1 Q1.out) fun v10 k10=>?_
    replace N22:=(N22).below rfl k10
    replace N7:=(N7).below rfl k10
    go_wp2_with fail
    refine tH hK hHeld k10 fun hHeld=>?_
    clear hK K k10
    refine tk [24,25] ?_
    refine tD ?_
    clear hb t0 t1 t2 t3 t4 t5 t6 lx c0 c1 c2
    obtain ⟨hb,t0,t1,t2,t3,t4,t5,t6,lx,c0,c1,c2⟩:=hHeld
    replace lx:=hid lx
    go_wp2
    go_roundw
    case rel=>exact ⟨q+1,C2,by have:=HI.out;omega,rfl,by go_num,HV,hb,t0,t1,t2,t3,t4,t5,t6,lx⟩
    case measure=>simp[intOf];have:=HI.out;omega
 by_cases k2:k=2
 ·
  have zz1:((k:Int) == 1)=false:=bF
  have zz2:((k:Int) == 2)=true:=bT
  obtain ⟨Is,hIs⟩:=nm (x.j.map RI.it)
  have HLC:Hid (H.length+(lst itb Is).length≤70368744177664):=hid (by have:=HLB.out;rw[HB.out,if_neg k1,if_pos k2,← hIs] at this;exact this)
  have HVX:Hid (fE x=H++lst itb Is):=hid (by rw[HV0.out,HB.out,if_neg k1,if_pos k2,← hIs])
  have hHl:H.length≤70368744177664:=by have:=HLC.out;omega
  have HIL:Hid (Is.length=x.j.length):=hid (by rw[hIs,List.length_map])
  have HIs:=hid hIs
  clear k1 k2 hIs
  have w8:IntKind.u64.wrap (x.j.length:Int)=(x.j.length:Int):=by rw[IntKind.wrap_u64];omega
  obtain ⟨pn,hpn⟩:=nm (upL x.j.length)
  have bn:pn.length≤10:=by rw[hpn];exact up_len _
  have RN:Hid (cat [x.j.length]=pn):=hid (by rw[hpn];simp[cat])
  have zn:=Str.size_mk pn
  obtain ⟨S1,hS1⟩:=nm (H++pn)
  have lS1:S1.length=H.length+pn.length:=by rw[hS1,List.length_append]
  have aS1:(({ data:=H.toArray }:ByteArray))++{ data:=pn.toArray }={ data:=S1.toArray }:=by rw[hS1];exact Str.mk_append_mk H pn
  have zS1:=Str.size_mk S1
  have nS1:¬ (9223372036854775807<H.length+pn.length):=by omega
  have mS1:¬ (H.length+pn.length > 9223372036854775807):=by omega
  have HA1:Hid (S1=H++acc itb Is 0):=hid (by rw[hS1,hpn,acc_zero,HIL.out])
  replace hS1:=hid hS1
  replace lS1:=hid lS1
  clear hpn
  go_upto_region 11 with (fail)
  go_wp2_with fail
  have N0:=nats_here [x.j.length] (by intro y hy;simp at hy;omega) (C:=#[x.j.length]) (t:=25) rfl 1 rfl (balloc hb _)
  refine cr (nums_w N0 (by omega) pn RN.out) fun v11 k11=>?_
  replace k11:=(balloc (Below.refl _ _) _).trans (k11.mono (balloc (Below.refl _ _) _).size)
  have hA:=kp k11 (aj7 t0 t1 t2 t3 t4 t5 t6)
  clear t0 t1 t2 t3 t4 t5 t6
  obtain ⟨t0,t1,t2,t3,t4,t5,t6⟩:=hA
  replace lx:=hid ((lx.out).below k11)
  replace hb:=bstep hb k11
  clear k11 N0 RN
  go_wp2_with fail
  go_loopw [3,5] (fun sv iv wr=>∃ (q:Nat) (s:List UInt8),q≤x.j.length∧sv=.string ⟨s.toArray⟩∧iv=.int .i64 q∧Hid (s=H++acc itb Is q)∧Below w.heap.size w wr∧(wr.cell? ⟨bt,0,none⟩=some ↑x.k)∧(wr.cell? ⟨bt,1,none⟩=some (.slice x.sa x.s.length x.sc))∧(wr.cell? ⟨bt,2,none⟩=some (.slice x.ca x.c.length x.cc))∧(wr.cell? ⟨bt,3,none⟩=some (.slice x.ia x.j.length x.ic))∧(wr.cell? ⟨bt,4,none⟩=some ↑x.l.s)∧(wr.cell? ⟨bt,5,none⟩=some ↑x.l.t)∧(wr.cell? ⟨bt,6,none⟩=some ↑x.l.g)∧Hid (InnerE wr x)) (fun _ iv _=>x.j.length - (intOf iv).toNat)
  case atStart=>exact ⟨0,S1,by omega,rfl,rfl,HA1,hb,t0,t1,t2,t3,t4,t5,t6,lx⟩
  case round =>
   clear hb t0 t1 t2 t3 t4 t5 t6 lx HA1 bn zn
   obtain ⟨q,s,hq,rfl,rfl,HA,hb,t0,t1,t2,t3,t4,t5,t6,lx⟩:=hrel
   by_cases hlt:q<x.j.length
   rotate_left
   ·have HE:Hid (fE x=s):=hid (by rw[HVX.out,HA.out,acc_all _ _ (by have:=HIL.out;omega)])
    have dq:decide ((q:Int)<(x.j.length:Int))=false:=dF
    go_wp2
    go_ret
    exact ⟨by rw[HE.out];rfl,hb⟩
   have d1:decide ((q:Int)<(x.j.length:Int))=true:=dT
   have j1:(0:Int)≤(q:Int):=by omega
   have j2:(q:Int)<(x.j.length:Int):=by omega
   obtain ⟨b,o,hea,hc⟩:=lx.out.i.1.2 (by omega)
   rw[hea] at t3 ⊢
   obtain ⟨c0,c1⟩:=cl2 (o+q*2) (hc q hlt)
   have ly:Hid (Row.Lies dE wr (x.j[q]).a (x.j[q]).d.length (x.j[q]).d):=hid (lx.out.i.2 _ (List.getElem_mem hlt))
   have hqi:q<Is.length:=by have:=HIL.out;omega
   have hiq:Is[q]=(x.j[q]).it:=by
    have e:=HIs.out
    subst e
    rw[List.getElem_map]
   have HT:=hid (acc_step itb hqi)
   have hal:=part_le itb Is hqi
   rw[hiq] at HT hal
   have hcm:=OX.out.jm _ (List.getElem_mem hlt)
   have hsl:s.length=H.length+(acc itb Is q).length:=by rw[HA.out,List.length_append]
   obtain ⟨m,hm⟩:=nm x.j[q]
   rw[← hm] at c0 c1 ly HT hal hcm
   obtain ⟨t,da,dc,D⟩:=m
   dsimp only at c0 c1 ly hcm
   have hb1:=hcm.1
   have hdl:=hcm.2.1
   have HDM:=hid hcm.2.2.1
   have hsl2:s.length≤70368744177664:=by have:=HLC.out;omega
   have zs:=Str.size_mk s
   obtain ⟨r0,hr0⟩:=nm (tx t)
   have e0:r0.length≤1048586:=by rw[hr0];have:=tx_len t;omega
   have Q0:Hid ([t].flatMap tx=r0):=hid (by rw[hr0];simp)
   have y0:=Str.size_mk r0
   have hib:(itb (RI.it ⟨t,da,dc,D⟩)).length=r0.length+(lst mk D).length:=by rw[hr0];unfold itb;rw[List.length_append];rfl
   rw[hib] at hal
   have HAL:Hid (s.length+(r0.length+(lst mk D).length)≤70368744177664):=hid (by have:=HLC.out;omega)
   obtain ⟨r1,hr1⟩:=nm (upL D.length)
   have e1:r1.length≤10:=by rw[hr1];exact up_len _
   have Q1:Hid (cat [D.length]=r1):=hid (by rw[hr1];simp[cat])
   have y1:=Str.size_mk r1
   have w9:IntKind.u64.wrap (D.length:Int)=(D.length:Int):=by rw[IntKind.wrap_u64];omega
   clear hal hsl hib
   obtain ⟨C1,hC1,lC1,aC1,zC1,nC1,mC1⟩:=apd s r0 (by omega)
   obtain ⟨C2,hC2,lC2,aC2,zC2,nC2,mC2⟩:=apd C1 r1 (by omega)
   have HA2:Hid (C2=C1++acc mk D 0):=hid (by rw[hC2,hr1,acc_zero])
   have HV:Hid (C1++lst mk D=H++acc itb Is (q+1)):=hid (by rw[HT.out,hC1,HA.out,hr0];unfold itb;simp only[List.append_assoc];rfl)
   have HCL:Hid (C1.length=s.length+r0.length):=hid lC1
   have HI:=hid hlt
   replace hC1:=hid hC1
   replace lC1:=hid lC1
   replace hC2:=hid hC2
   replace lC2:=hid lC2
   clear hr0 hr1 hm hc hlt HT HA hcm hea hqi hiq
   go_wp2_with fail
   have N0:=txts_here [t] (by intro y hy;simp at hy;subst hy;omega) (C:=#[t]) (t:=9) rfl 1 rfl (balloc hb _)
   refine cr (texts_w N0 r0 Q0.out (by omega) (by omega)) fun v12 k12=>?_
   replace k12:=(balloc (Below.refl _ _) _).trans (k12.mono (balloc (Below.refl _ _) _).size)
   clear c0 c1
   have hA:=kp k12 (aj7 t0 t1 t2 t3 t4 t5 t6)
   clear t0 t1 t2 t3 t4 t5 t6
   obtain ⟨t0,t1,t2,t3,t4,t5,t6⟩:=hA
   replace lx:=hid ((lx.out).below k12)
   replace ly:=hid ((ly.out).below k12)
   replace hb:=bstep hb k12
   clear k12 N0
   go_wp2_with fail
   have N0:=nats_here [D.length] (by intro y hy;simp at hy;omega) (C:=#[D.length]) (t:=25) rfl 1 rfl (balloc hb _)
   refine cr (nums_w N0 (by omega) r1 Q1.out) fun v13 k13=>?_
   replace k13:=(balloc (Below.refl _ _) _).trans (k13.mono (balloc (Below.refl _ _) _).size)
   have hA:=kp k13 (aj7 t0 t1 t2 t3 t4 t5 t6)
   clear t0 t1 t2 t3 t4 t5 t6
   obtain ⟨t0,t1,t2,t3,t4,t5,t6⟩:=hA
   replace lx:=hid ((lx.out).below k13)
   replace ly:=hid ((ly.out).below k13)
   replace hb:=bstep hb k13
   clear k13 N0 Q0 Q1
   go_wp2_with fail
   go_loopw [3,7] (fun sv jv wr=>∃ (j:Nat) (s2:List UInt8),j≤D.length∧sv=.string ⟨s2.toArray⟩∧jv=.int .i64 j∧Hid (s2=C1++acc mk D j)∧Below w.heap.size w wr∧(wr.cell? ⟨bt,0,none⟩=some ↑x.k)∧(wr.cell? ⟨bt,1,none⟩=some (.slice x.sa x.s.length x.sc))∧(wr.cell? ⟨bt,2,none⟩=some (.slice x.ca x.c.length x.cc))∧(wr.cell? ⟨bt,3,none⟩=some (.slice (some ⟨b,o,none⟩) x.j.length x.ic))∧(wr.cell? ⟨bt,4,none⟩=some ↑x.l.s)∧(wr.cell? ⟨bt,5,none⟩=some ↑x.l.t)∧(wr.cell? ⟨bt,6,none⟩=some ↑x.l.g)∧Hid (InnerE wr x)∧Hid (Row.Lies dE wr da D.length D)) (fun _ jv _=>D.length - (intOf jv).toNat)
   case atStart=>exact ⟨0,C2,by omega,rfl,rfl,HA2,hb,t0,t1,t2,t3,t4,t5,t6,lx,ly⟩
   case round =>
    clear hb t0 t1 t2 t3 t4 t5 t6 lx ly HA2
    obtain ⟨j,s2,hj,rfl,rfl,HA,hb,t0,t1,t2,t3,t4,t5,t6,lx,ly⟩:=hrel
    by_cases hjt:j<D.length
    rotate_left
    ·have HE:Hid (s2=H++acc itb Is (q+1)):=hid (by rw[← HV.out,HA.out,acc_all _ _ (by omega)])
     have dj:decide ((j:Int)<(D.length:Int))=false:=dF
     go_wp2
     go_roundw
     case rel=>exact ⟨q+1,s2,by have:=HI.out;omega,rfl,by go_num,HE,hb,t0,t1,t2,t3,t4,t5,t6,lx⟩
     case measure=>simp[intOf];have:=HI.out;omega
    have dj:decide ((j:Int)<(D.length:Int))=true:=dT
    have j3:(0:Int)≤(j:Int):=by omega
    have j4:(j:Int)<(D.length:Int):=by omega
    obtain ⟨b2,o2,rfl,hc2⟩:=ly.out.2 (by omega)
    obtain ⟨f0,f1⟩:=cl2 (o2+j*2) (hc2 j hjt)
    have HT:=hid (acc_step mk hjt)
    have hcm:=HDM.out _ (List.getElem_mem hjt)
    have hal:=part_le mk D hjt
    have hsl:s2.length=C1.length+(acc mk D j).length:=by rw[HA.out,List.length_append]
    obtain ⟨m,hm⟩:=nm D[j]
    rw[← hm] at f0 f1 HT hcm hal
    have hm1:=hcm.1
    have hm2:=hcm.2
    have hsl2:s2.length≤70368744177664:=by have:=HAL.out;have:=HCL.out;omega
    have zs2:=Str.size_mk s2
    obtain ⟨r2,hr2⟩:=nm (tx m.p)
    have e2:r2.length≤1048586:=by rw[hr2];have:=tx_len m.p;omega
    have Q2:Hid ([m.p].flatMap tx=r2):=hid (by rw[hr2];simp)
    have y2:=Str.size_mk r2
    obtain ⟨r3,hr3⟩:=nm (upL m.n)
    have e3:r3.length≤10:=by rw[hr3];exact up_len _
    have Q3:Hid (cat [m.n]=r3):=hid (by rw[hr3];simp[cat])
    have y3:=Str.size_mk r3
    clear hal hsl
    obtain ⟨C3,hC3,lC3,aC3,zC3,nC3,mC3⟩:=apd s2 r2 (by omega)
    obtain ⟨C4,hC4,lC4,aC4,zC4,nC4,mC4⟩:=apd C3 r3 (by omega)
    have HVJ:Hid (C4=C1++acc mk D (j+1)):=hid (by rw[HT.out,hC4,hC3,HA.out,hr2,hr3];unfold mk;simp only[List.append_assoc])
    have HJ:=hid hjt
    replace hC3:=hid hC3
    replace lC3:=hid lC3
    replace hC4:=hid hC4
    replace lC4:=hid lC4
    clear hr2 hr3 hm hc2 hjt HT HA hcm
    go_wp2_with fail
    refine rG (fun w'=>Below w.heap.size w w'∧w'.cell? ⟨bt,0,none⟩=some ↑x.k∧w'.cell? ⟨bt,1,none⟩=some (.slice x.sa x.s.length x.sc)∧w'.cell? ⟨bt,2,none⟩=some (.slice x.ca x.c.length x.cc)∧w'.cell? ⟨bt,3,none⟩=some (.slice (some ⟨b,o,none⟩) x.j.length x.ic)∧w'.cell? ⟨bt,4,none⟩=some ↑x.l.s∧w'.cell? ⟨bt,5,none⟩=some ↑x.l.t∧w'.cell? ⟨bt,6,none⟩=some ↑x.l.g∧InnerE w' x∧Row.Lies dE w' (some ⟨b2,o2,none⟩) D.length D∧w'.cell? ⟨b2,o2+j*2,none⟩=some ↑m.p∧w'.cell? ⟨b2,o2+j*2+1,none⟩=some ↑m.n) ⟨hb,t0,t1,t2,t3,t4,t5,t6,lx.out,ly.out,f0,f1⟩ fun wd hHeld=>?_
    refine tk [0,1,2,3,4,5,9,10,11,12,13] ?_
    refine tR2 6 14 (fun K hK=>?_) fun K hK=>?_
    ·
     go_simp
     refine tA hK hHeld fun hHeld=>?_
     clear hK K
     have N6:=txts_here [m.p] (by intro y hy;simp at hy;subst hy;omega) rfl 1 rfl hHeld.1
     try simp only[World.size_alloc] at N6
     refine tR2 7 14 (fun K hK=>?_) fun K hK=>?_
     ·
      go_simp
      go_at_call 63
      refine cr (texts_w N6 r2 Q2.out (by omega) (by omega)) fun v14 k14=>?_
      replace N6:=(N6).below rfl k14
      go_wp2_with fail
      refine tH hK hHeld k14 fun hHeld=>?_
      clear hK K k14
      refine tk [8] ?_
      refine tR 14 fun K hK=>?_
      go_simp
      refine tA hK hHeld fun hHeld=>?_
      clear hK K
      replace N6:=txts_move N6 hHeld.1
      have N14:=nats_here [m.n] (by intro y hy;simp at hy;omega) rfl 1 rfl hHeld.1
      try simp only[World.size_alloc] at N14
      refine tR 15 fun K hK=>?_
      go_simp
      go_at_call 62
      refine cr (nums_w N14 (by omega) r3 Q3.out) fun v15 k15=>?_
      replace N6:=(N6).below rfl k15
      replace N14:=(N14).below rfl k15
      go_wp2_with fail
      refine tH hK hHeld k15 fun hHeld=>?_
      clear hK K k15
      refine tk [16,17] ?_
      refine tD ?_
      clear hb t0 t1 t2 t3 t4 t5 t6 lx ly f0 f1
      obtain ⟨hb,t0,t1,t2,t3,t4,t5,t6,lx,ly,f0,f1⟩:=hHeld
      replace lx:=hid lx
      replace ly:=hid ly
      go_wp2
      go_roundw
      case rel=>first | exact ⟨j+1,C4,by have:=HJ.out;omega,rfl,by go_num,HVJ,hb,t0,t1,t2,t3,t4,t5,t6,lx,ly⟩ | exact ⟨_,_,_,_,_,_,_,_,_,_,_,_,_,_,_,_,_,_,_,_,_,_,_,_,_,⟨j+1,C4,by have:=HJ.out;omega,rfl,by go_num,HVJ,hb,t0,t1,t2,t3,t4,t5,t6,lx,ly⟩,rfl⟩
      case measure=>simp[intOf];have:=HJ.out;omega
     ·
      go_simp
      refine tA hK hHeld fun hHeld=>?_
      clear hK K
      replace N6:=txts_move N6 hHeld.1
      have N14:=nats_here [m.n] (by intro y hy;simp at hy;omega) rfl 1 rfl hHeld.1
      try simp only[World.size_alloc] at N14
      refine tR 7 fun K hK=>?_
      go_simp
      go_at_call 63
      refine cr (texts_w N6 r2 Q2.out (by omega) (by omega)) fun v16 k16=>?_
      replace N6:=(N6).below rfl k16
      replace N14:=(N14).below rfl k16
      go_wp2_with fail
      refine tH hK hHeld k16 fun hHeld=>?_
      clear hK K k16
      refine tk [8] ?_
      refine tR 15 fun K hK=>?_
      go_simp
      go_at_call 62
      refine cr (nums_w N14 (by omega) r3 Q3.out) fun v17 k17=>?_
      replace N6:=(N6).below rfl k17
      replace N14:=(N14).below rfl k17
      go_wp2_with fail
      refine tH hK hHeld k17 fun hHeld=>?_
      clear hK K k17
      refine tk [16,17] ?_
      refine tD ?_
      clear hb t0 t1 t2 t3 t4 t5 t6 lx ly f0 f1
      obtain ⟨hb,t0,t1,t2,t3,t4,t5,t6,lx,ly,f0,f1⟩:=hHeld
      replace lx:=hid lx
      replace ly:=hid ly
      go_wp2
      go_roundw
      case rel=>first | exact ⟨j+1,C4,by have:=HJ.out;omega,rfl,by go_num,HVJ,hb,t0,t1,t2,t3,t4,t5,t6,lx,ly⟩ | exact ⟨_,_,_,_,_,_,_,_,_,_,_,_,_,_,_,_,_,_,_,_,_,_,_,_,_,⟨j+1,C4,by have:=HJ.out;omega,rfl,by go_num,HVJ,hb,t0,t1,t2,t3,t4,t5,t6,lx,ly⟩,rfl⟩
      case measure=>simp[intOf];have:=HJ.out;omega
    ·
     go_simp
     refine tA hK hHeld fun hHeld=>?_
     clear hK K
     have N14:=nats_here [m.n] (by intro y hy;simp at hy;omega) rfl 1 rfl hHeld.1
     try simp only[World.size_alloc] at N14
     refine tR 6 fun K hK=>?_
     go_simp
     refine tA hK hHeld fun hHeld=>?_
     clear hK K
     replace N14:=nats_move N14 hHeld.1
     have N6:=txts_here [m.p] (by intro y hy;simp at hy;subst hy;omega) rfl 1 rfl hHeld.1
     try simp only[World.size_alloc] at N6
     refine tR 7 fun K hK=>?_
     go_simp
     go_at_call 63
     refine cr (texts_w N6 r2 Q2.out (by omega) (by omega)) fun v18 k18=>?_
     replace N14:=(N14).below rfl k18
     replace N6:=(N6).below rfl k18
     go_wp2_with fail
     refine tH hK hHeld k18 fun hHeld=>?_
     clear hK K k18
     refine tk [8] ?_
     refine tR 15 fun K hK=>?_
     go_simp
     go_at_call 62
     refine cr (nums_w N14 (by omega) r3 Q3.out) fun v19 k19=>?_
     replace N14:=(N14).below rfl k19
     replace N6:=(N6).below rfl k19
     go_wp2_with fail
     refine tH hK hHeld k19 fun hHeld=>?_
     clear hK K k19
     refine tk [16,17] ?_
     refine tD ?_
     clear hb t0 t1 t2 t3 t4 t5 t6 lx ly f0 f1
     obtain ⟨hb,t0,t1,t2,t3,t4,t5,t6,lx,ly,f0,f1⟩:=hHeld
     replace lx:=hid lx
     replace ly:=hid ly
     go_wp2
     go_roundw
     case rel=>first | exact ⟨j+1,C4,by have:=HJ.out;omega,rfl,by go_num,HVJ,hb,t0,t1,t2,t3,t4,t5,t6,lx,ly⟩ | exact ⟨_,_,_,_,_,_,_,_,_,_,_,_,_,_,_,_,_,_,_,_,_,_,_,_,_,⟨j+1,C4,by have:=HJ.out;omega,rfl,by go_num,HVJ,hb,t0,t1,t2,t3,t4,t5,t6,lx,ly⟩,rfl⟩
     case measure=>simp[intOf];have:=HJ.out;omega
 have k3:k=3:=by have:=K0.out;omega
 have HLC:Hid (H.length+(cl x.l).length≤70368744177664):=hid (by have:=HLB.out;rw[HB.out,if_neg k1,if_neg k2,if_pos k3] at this;exact this)
 have HVX:Hid (fE x=H++cl x.l):=hid (by rw[HV0.out,HB.out,if_neg k1,if_neg k2,if_pos k3])
 have zz1:((k:Int) == 1)=false:=bF
 have zz2:((k:Int) == 2)=false:=bF
 have hHl:H.length≤70368744177664:=by have:=HLC.out;omega
 obtain ⟨r0,hr0⟩:=nm (upL x.l.s)
 have e0:r0.length≤10:=by rw[hr0];exact up_len _
 have Q0:Hid (cat [x.l.s]=r0):=hid (by rw[hr0];simp[cat])
 have y0:=Str.size_mk r0
 obtain ⟨r1,hr1⟩:=nm (tx x.l.t)
 have e1:r1.length≤1048586:=by rw[hr1];have:=tx_len x.l.t;omega
 have Q1:Hid ([x.l.t].flatMap tx=r1):=hid (by rw[hr1];simp)
 have y1:=Str.size_mk r1
 obtain ⟨r2,hr2⟩:=nm (tb x.l.g)
 have e2:r2.length≤1:=by rw[hr2];exact Nat.le_refl _
 have Q2:Hid (tb x.l.g=r2):=hid hr2.symm
 have y2:=Str.size_mk r2
 obtain ⟨C1,hC1,lC1,aC1,zC1,nC1,mC1⟩:=apd H r0 (by omega)
 obtain ⟨C2,hC2,lC2,aC2,zC2,nC2,mC2⟩:=apd C1 r1 (by omega)
 obtain ⟨C3,hC3,lC3,aC3,zC3,nC3,mC3⟩:=apd C2 r2 (by omega)
 have HE:Hid (fE x=C3):=hid (by rw[HVX.out,hC3,hC2,hC1,hr0,hr1,hr2];unfold cl;simp only[List.append_assoc])
 replace hC1:=hid hC1
 replace lC1:=hid lC1
 replace hC2:=hid hC2
 replace lC2:=hid lC2
 replace hC3:=hid hC3
 replace lC3:=hid lC3
 clear hr0 hr1 hr2 k1 k2 k3
 go_wp2_with fail
 refine rG (fun w'=>Below w.heap.size w w'∧w'.cell? ⟨bt,0,none⟩=some ↑x.k∧w'.cell? ⟨bt,1,none⟩=some (.slice x.sa x.s.length x.sc)∧w'.cell? ⟨bt,2,none⟩=some (.slice x.ca x.c.length x.cc)∧w'.cell? ⟨bt,3,none⟩=some (.slice x.ia x.j.length x.ic)∧w'.cell? ⟨bt,4,none⟩=some ↑x.l.s∧w'.cell? ⟨bt,5,none⟩=some ↑x.l.t∧w'.cell? ⟨bt,6,none⟩=some ↑x.l.g∧InnerE w' x) ⟨hb,t0,t1,t2,t3,t4,t5,t6,lx.out⟩ fun wd hHeld=>?_
 refine tk [0,1,2,3,7,8,9,13,14,15] ?_
 refine tR2 4 10 (fun K hK=>?_) fun K hK=>?_
 ·
  go_simp
  refine tA hK hHeld fun hHeld=>?_
  clear hK K
  have N4:=nats_here [x.l.s] (by intro y hy;simp at hy;omega) rfl 1 rfl hHeld.1
  try simp only[World.size_alloc] at N4
  refine tR2 5 10 (fun K hK=>?_) fun K hK=>?_
  ·
   go_simp
   go_at_call 62
   refine cr (nums_w N4 (by omega) r0 Q0.out) fun v20 k20=>?_
   replace N4:=(N4).below rfl k20
   go_wp2_with fail
   refine tH hK hHeld k20 fun hHeld=>?_
   clear hK K k20
   refine tk [6] ?_
   refine tR 10 fun K hK=>?_
   go_simp
   refine tA hK hHeld fun hHeld=>?_
   clear hK K
   replace N4:=nats_move N4 hHeld.1
   have N10:=txts_here [x.l.t] (by intro y hy;simp at hy;subst hy;omega) rfl 1 rfl hHeld.1
   try simp only[World.size_alloc] at N10
   refine tR 11 fun K hK=>?_
   go_simp
   go_at_call 63
   refine cr (texts_w N10 r1 Q1.out (by omega) (by omega)) fun v21 k21=>?_
   replace N4:=(N4).below rfl k21
   replace N10:=(N10).below rfl k21
   go_wp2_with fail
   refine tH hK hHeld k21 fun hHeld=>?_
   clear hK K k21
   refine tk [12] ?_
   refine tR 16 fun K hK=>?_
   go_simp
   go_at_call 111
   refine cr (bool_w x.l.g r2 Q2.out _) fun v22 k22=>?_
   replace N4:=(N4).below rfl k22
   replace N10:=(N10).below rfl k22
   go_wp2_with fail
   refine tH hK hHeld k22 fun hHeld=>?_
   clear hK K k22
   refine tk [17,18] ?_
   refine tD ?_
   clear hb t0 t1 t2 t3 t4 t5 t6 lx
   obtain ⟨hb,t0,t1,t2,t3,t4,t5,t6,lx⟩:=hHeld
   replace lx:=hid lx
   go_wp2
   go_ret
   exact ⟨by rw[HE.out];rfl,hb⟩
  ·
   go_simp
   refine tA hK hHeld fun hHeld=>?_
   clear hK K
   replace N4:=nats_move N4 hHeld.1
   have N10:=txts_here [x.l.t] (by intro y hy;simp at hy;subst hy;omega) rfl 1 rfl hHeld.1
   try simp only[World.size_alloc] at N10
   refine tR 5 fun K hK=>?_
   go_simp
   go_at_call 62
   refine cr (nums_w N4 (by omega) r0 Q0.out) fun v23 k23=>?_
   replace N4:=(N4).below rfl k23
   replace N10:=(N10).below rfl k23
   go_wp2_with fail
   refine tH hK hHeld k23 fun hHeld=>?_
   clear hK K k23
   refine tk [6] ?_
   refine tR 11 fun K hK=>?_
   go_simp
   go_at_call 63
   refine cr (texts_w N10 r1 Q1.out (by omega) (by omega)) fun v24 k24=>?_
   replace N4:=(N4).below rfl k24
   replace N10:=(N10).below rfl k24
   go_wp2_with fail
   refine tH hK hHeld k24 fun hHeld=>?_
   clear hK K k24
   refine tk [12] ?_
   refine tR 16 fun K hK=>?_
   go_simp
   go_at_call 111
   refine cr (bool_w x.l.g r2 Q2.out _) fun v25 k25=>?_
   replace N4:=(N4).below rfl k25
   replace N10:=(N10).below rfl k25
   go_wp2_with fail
   refine tH hK hHeld k25 fun hHeld=>?_
   clear hK K k25
   refine tk [17,18] ?_
   refine tD ?_
   clear hb t0 t1 t2 t3 t4 t5 t6 lx
   obtain ⟨hb,t0,t1,t2,t3,t4,t5,t6,lx⟩:=hHeld
   replace lx:=hid lx
   go_wp2
   go_ret
   exact ⟨by rw[HE.out];rfl,hb⟩
 ·
  go_simp
  refine tA hK hHeld fun hHeld=>?_
  clear hK K
  have N10:=txts_here [x.l.t] (by intro y hy;simp at hy;subst hy;omega) rfl 1 rfl hHeld.1
  try simp only[World.size_alloc] at N10
  refine tR 4 fun K hK=>?_
  go_simp
  refine tA hK hHeld fun hHeld=>?_
  clear hK K
  replace N10:=txts_move N10 hHeld.1
  have N4:=nats_here [x.l.s] (by intro y hy;simp at hy;omega) rfl 1 rfl hHeld.1
  try simp only[World.size_alloc] at N4
  refine tR 5 fun K hK=>?_
  go_simp
  go_at_call 62
  refine cr (nums_w N4 (by omega) r0 Q0.out) fun v26 k26=>?_
  replace N10:=(N10).below rfl k26
  replace N4:=(N4).below rfl k26
  go_wp2_with fail
  refine tH hK hHeld k26 fun hHeld=>?_
  clear hK K k26
  refine tk [6] ?_
  refine tR 11 fun K hK=>?_
  go_simp
  go_at_call 63
  refine cr (texts_w N10 r1 Q1.out (by omega) (by omega)) fun v27 k27=>?_
  replace N10:=(N10).below rfl k27
  replace N4:=(N4).below rfl k27
  go_wp2_with fail
  refine tH hK hHeld k27 fun hHeld=>?_
  clear hK K k27
  refine tk [12] ?_
  refine tR 16 fun K hK=>?_
  go_simp
  go_at_call 111
  refine cr (bool_w x.l.g r2 Q2.out _) fun v28 k28=>?_
  replace N10:=(N10).below rfl k28
  replace N4:=(N4).below rfl k28
  go_wp2_with fail
  refine tH hK hHeld k28 fun hHeld=>?_
  clear hK K k28
  refine tk [17,18] ?_
  refine tD ?_
  clear hb t0 t1 t2 t3 t4 t5 t6 lx
  obtain ⟨hb,t0,t1,t2,t3,t4,t5,t6,lx⟩:=hHeld
  replace lx:=hid lx
  go_wp2
  go_ret
  exact ⟨by rw[HE.out];rfl,hb⟩
end RefWrite
set_option maxRecDepth 100000
set_option maxHeartbeats 40000000
namespace RefWrite
open RowKit YtnpjkmomllkhpaaGreatDoor.Mark Num Wire Bag Coder
theorem txts_of {w:World} {a:Option Addr} {L:List (List UInt8)} (h:Row.Lies wE w a L.length L) (hm:∀ m ∈ L,m.length≤1048576):Txts w a L.length (L.map fun n=>⟨n.toArray⟩):=by
 refine ⟨by simp,fun t ht=>?_,fun hp=>?_⟩
 ·obtain ⟨m,h1,rfl⟩:=List.mem_map.1 ht
  have:=hm m h1
  rw[Str.size_mk];unfold maxLen;omega
 ·obtain ⟨b,o,e,hc⟩:=h.2 hp
  have hc':∀ j (hj:j<L.length),w.cell? ⟨b,o+j,none⟩=some ↑(L[j]):=fun j hj=>by
   have:=hc j hj 0 _ rfl
   rwa [show o+j*wE.k+0=o+j from by show o+j*1+0=o+j;omega] at this
  refine ⟨b,o,e,World.block_lt_of_cell? _ _ (hc' 0 hp),fun j hj=>?_⟩
  rw[List.length_map] at hj
  rw[List.getElem_map]
  exact hc' j hj
def Keyed (x:RS):Prop:=∀ y ∈ x.e,y.k.length≤65536∧kd y.k≠0
theorem state_any (x:RS) (w:World) (hx:InnerS w x) (ox:x.Ok) (hky:Keyed x) (hpb:(x.p.flatMap tx).length≤1099511627776) (hs:(fS x).length≤70368744177664) :
  CB 45 #[.agg x] w (fS x):=by
 have lx:=hid hx
 have OX:=hid ox
 have KY:=hid hky
 have hen:=ox.e
 have hpn:=ox.p
 obtain ⟨p1,hp1⟩:=nm (lst mk x.a)
 obtain ⟨p3,hp3⟩:=nm (x.p.flatMap tx)
 rw[← hp3] at hpb
 have HV0:Hid (fS x=p1++lst fE x.e++(upL x.p.length++p3)):=hid (by rw[fS_is,hp1,hp3];rfl)
 rw[HV0.out] at hs
 simp only[List.length_append] at hs
 have HLB:Hid (p1.length+(lst fE x.e).length+((upL x.p.length).length+p3.length)≤70368744177664):=hid hs
 have b1:p1.length≤70368744177664:=by omega
 have b3:p3.length≤70368744177664:=by omega
 have z1:=Str.size_mk p1
 have z3:=Str.size_mk p3
 have D1:=hid (fun W (h:InnerS W x)=>qS hp1 (marks_any x.aa x.ac x.a W h.a OX.out.a OX.out.am (by rw[← hp1];exact b1)))
 have D3:=hid (fun W (h:InnerS W x)=>(texts_w (txts_of h.p OX.out.pm) p3 hp3.symm hpb (by omega):CB 63 #[.slice x.pa x.p.length x.pc] W p3))
 obtain ⟨pn,hpn1⟩:=nm (upL x.e.length)
 have bn:pn.length≤10:=by rw[hpn1];exact up_len _
 have RN:Hid (cat [x.e.length]=pn):=hid (by rw[hpn1];simp[cat])
 have zn:=Str.size_mk pn
 have w8:IntKind.u64.wrap (x.e.length:Int)=(x.e.length:Int):=by rw[IntKind.wrap_u64];omega
 obtain ⟨pw,hpw⟩:=nm (upL x.p.length)
 have bw:pw.length≤10:=by rw[hpw];exact up_len _
 have RW:Hid (cat [x.p.length]=pw):=hid (by rw[hpw];simp[cat])
 have zw:=Str.size_mk pw
 have w9:IntKind.u64.wrap (x.p.length:Int)=(x.p.length:Int):=by rw[IntKind.wrap_u64];omega
 clear hs hx ox hky hp1 hp3 hpb
 go_enter Tryz.func45,Tryz.ntmps45
 go_upto_region 1 with (fail)
 have hb0:=balloc (Below.refl w.heap.size w) (.cells x 33)
 obtain ⟨t0,t1,t2⟩:=al3 (bx w x 33)
 obtain ⟨w0,hw0⟩:=nm (w.alloc (.cells x 33))
 rw[← hw0] at hb0 t0 t1 t2 ⊢
 obtain ⟨bt,hbt⟩:=nm w.heap.size
 rw[← hbt] at t0 t1 t2 ⊢
 have hb:=hb0
 clear hb0 hw0 hbt
 replace lx:=hid (lx.out.below hb)
 obtain ⟨S1,hS1⟩:=nm (p1++pn)
 have lS1:S1.length=p1.length+pn.length:=by rw[hS1,List.length_append]
 have aS1:(({ data:=p1.toArray }:ByteArray))++{ data:=pn.toArray }={ data:=S1.toArray }:=by rw[hS1];exact Str.mk_append_mk p1 pn
 have zS1:=Str.size_mk S1
 have nS1:¬ (9223372036854775807<p1.length+pn.length):=by omega
 have mS1:¬ (p1.length+pn.length > 9223372036854775807):=by omega
 have HA1:Hid (S1=p1++acc fE x.e 0):=hid (by rw[hS1,hpn1,acc_zero])
 replace hS1:=hid hS1
 replace lS1:=hid lS1
 clear hpn1
 refine rG (fun w'=>Below w.heap.size w w'∧w'.cell? ⟨bt,0,none⟩=some (.slice x.aa x.a.length x.ac)∧w'.cell? ⟨bt,1,none⟩=some (.slice x.ea x.e.length x.ec)∧w'.cell? ⟨bt,2,none⟩=some (.slice x.pa x.p.length x.pc)∧InnerS w' x) ⟨hb,t0,t1,t2,lx.out⟩ fun wd hHeld=>?_
 refine tk [0,1,3,4,5,6] ?_
 refine tR2 2 7 (fun K hK=>?_) fun K hK=>?_
 ·
  go_simp
  go_at_call 50
  refine cr (D1.out _ hHeld.2.2.2.2) fun v1 k1=>?_
  go_wp2_with fail
  refine tH hK hHeld k1 fun hHeld=>?_
  clear hK K k1
  refine tR 7 fun K hK=>?_
  go_simp
  refine tA hK hHeld fun hHeld=>?_
  clear hK K
  have N7:=nats_here [x.e.length] (by intro y hy;simp at hy;omega) rfl 1 rfl hHeld.1
  try simp only[World.size_alloc] at N7
  refine tR 8 fun K hK=>?_
  go_simp
  go_at_call 62
  refine cr (nums_w N7 (by omega) pn RN.out) fun v2 k2=>?_
  replace N7:=(N7).below rfl k2
  go_wp2_with fail
  refine tH hK hHeld k2 fun hHeld=>?_
  clear hK K k2
  refine tk [9,10] ?_
  refine tD ?_
  clear hb t0 t1 t2 lx
  obtain ⟨hb,t0,t1,t2,lx⟩:=hHeld
  replace lx:=hid lx
  go_wp2_with fail
  go_loopw [3,4] (fun sv iv wr=>∃ (q:Nat) (s:List UInt8),q≤x.e.length∧sv=.string ⟨s.toArray⟩∧iv=.int .i64 q∧Hid (s=p1++acc fE x.e q)∧Below w.heap.size w wr∧(wr.cell? ⟨bt,0,none⟩=some (.slice x.aa x.a.length x.ac))∧(wr.cell? ⟨bt,1,none⟩=some (.slice x.ea x.e.length x.ec))∧(wr.cell? ⟨bt,2,none⟩=some (.slice x.pa x.p.length x.pc))∧Hid (InnerS wr x)) (fun _ iv _=>x.e.length - (intOf iv).toNat)
  case atStart=>exact ⟨0,S1,by omega,rfl,rfl,HA1,hb,t0,t1,t2,lx⟩
  case round =>
   clear hb t0 t1 t2 lx HA1 bn zn D1
   obtain ⟨q,s,hq,rfl,rfl,HA,hb,t0,t1,t2,lx⟩:=hrel
   by_cases hlt:q<x.e.length
   rotate_left
   ·
    have HE:Hid (s=p1++lst fE x.e):=hid (by rw[HA.out,acc_all _ _ (by omega)])
    have dq:decide ((q:Int)<(x.e.length:Int))=false:=dF
    have hsl:s.length=p1.length+(lst fE x.e).length:=by rw[HE.out,List.length_append]
    have hsl2:s.length+pw.length+p3.length≤70368744177664:=by have:=HLB.out;rw[hpw];omega
    have zs:=Str.size_mk s
    clear hsl
    obtain ⟨C1,hC1,lC1,aC1,zC1,nC1,mC1⟩:=apd s pw (by omega)
    obtain ⟨C2,hC2,lC2,aC2,zC2,nC2,mC2⟩:=apd C1 p3 (by omega)
    have HR:Hid (fS x=C2):=hid (by rw[HV0.out,hC2,hC1,HE.out,hpw];simp only[List.append_assoc])
    replace hC1:=hid hC1
    replace lC1:=hid lC1
    replace hC2:=hid hC2
    replace lC2:=hid lC2
    clear hpw HA
    go_upto_region 6 with (fail)
    refine rG (fun w'=>Below w.heap.size w w'∧w'.cell? ⟨bt,0,none⟩=some (.slice x.aa x.a.length x.ac)∧w'.cell? ⟨bt,1,none⟩=some (.slice x.ea x.e.length x.ec)∧w'.cell? ⟨bt,2,none⟩=some (.slice x.pa x.p.length x.pc)∧InnerS w' x) ⟨hb,t0,t1,t2,lx.out⟩ fun wd hHeld=>?_
    refine tk [0,1,2,3,4,8,9] ?_
    refine tR 5 fun K hK=>?_
    go_simp
    refine tA hK hHeld fun hHeld=>?_
    clear hK K
    have N5:=nats_here [x.p.length] (by intro y hy;simp at hy;omega) rfl 1 rfl hHeld.1
    try simp only[World.size_alloc] at N5
    refine tR 6 fun K hK=>?_
    go_simp
    go_at_call 62
    refine cr (nums_w N5 (by omega) pw RW.out) fun v3 k3=>?_
    replace N5:=(N5).below rfl k3
    go_wp2_with fail
    refine tH hK hHeld k3 fun hHeld=>?_
    clear hK K k3
    refine tk [7] ?_
    refine tR 10 fun K hK=>?_
    go_simp
    go_at_call 63
    refine cr (D3.out _ hHeld.2.2.2.2) fun v4 k4=>?_
    replace N5:=(N5).below rfl k4
    go_wp2_with fail
    refine tH hK hHeld k4 fun hHeld=>?_
    clear hK K k4
    refine tk [11,12] ?_
    refine tD ?_
    clear hb t0 t1 t2 lx
    obtain ⟨hb,t0,t1,t2,lx⟩:=hHeld
    replace lx:=hid lx
    go_wp2
    go_ret
    exact ⟨by rw[HR.out];rfl,hb⟩
   have d1:decide ((q:Int)<(x.e.length:Int))=true:=dT
   have j1:(0:Int)≤(q:Int):=by omega
   have j2:(q:Int)<(x.e.length:Int):=by omega
   obtain ⟨b,o,hea,hc⟩:=lx.out.e.1.2 (by omega)
   rw[hea] at t1 ⊢
   obtain ⟨c0,c1,c2,c3,c4,c5,c6⟩:=cl7 (o+q*7) (hc q hlt)
   have HT:=hid (acc_step fE hlt)
   have hal:=part_le fE x.e hlt
   have OY:=hid (show _∧_∧_ from ⟨lx.out.e.2 _ (List.getElem_mem hlt),OX.out.em _ (List.getElem_mem hlt),KY.out _ (List.getElem_mem hlt)⟩)
   have hsl:s.length=p1.length+(acc fE x.e q).length:=by rw[HA.out,List.length_append]
   obtain ⟨y,hy⟩:=nm x.e[q]
   rw[← hy] at c0 c1 c2 c3 c4 c5 c6 HT OY hal
   obtain ⟨r0,hr0⟩:=nm (fE y)
   rw[← hr0] at hal
   have hsl2:s.length+r0.length≤70368744177664:=by have:=HLB.out;omega
   have zs:=Str.size_mk s
   have y0:=Str.size_mk r0
   have DY:=hid (fun W (h:InnerE W y)=>qS hr0 (raw_any y W h OY.out.2.1.1 OY.out.2.2.1 OY.out.2.2.2 OY.out.2.1.2))
   have ly:Hid (InnerE wr y):=hid OY.out.1
   clear hal hsl
   obtain ⟨C1,hC1,lC1,aC1,zC1,nC1,mC1⟩:=apd s r0 (by omega)
   have HV:Hid (C1=p1++acc fE x.e (q+1)):=hid (by rw[HT.out,hC1,HA.out,hr0];simp only[List.append_assoc])
   have HI:=hid hlt
   replace hC1:=hid hC1
   replace lC1:=hid lC1
   clear hr0 hy hc hlt HT HA hea OY
   go_wp2_with fail
   refine cr (DY.out _ ly.out) fun v5 k5=>?_
   have hA:=kp k5 (aj3 t0 t1 t2)
   clear t0 t1 t2
   obtain ⟨t0,t1,t2⟩:=hA
   replace lx:=hid ((lx.out).below k5)
   replace hb:=bstep hb k5
   clear k5
   go_wp2
   go_roundw
   case rel=>exact ⟨q+1,C1,by have:=HI.out;omega,rfl,by go_num,HV,hb,t0,t1,t2,lx⟩
   case measure=>simp[intOf];have:=HI.out;omega
 ·
  go_simp
  refine tA hK hHeld fun hHeld=>?_
  clear hK K
  have N7:=nats_here [x.e.length] (by intro y hy;simp at hy;omega) rfl 1 rfl hHeld.1
  try simp only[World.size_alloc] at N7
  refine tR 2 fun K hK=>?_
  go_simp
  go_at_call 50
  refine cr (D1.out _ hHeld.2.2.2.2) fun v6 k6=>?_
  replace N7:=(N7).below rfl k6
  go_wp2_with fail
  refine tH hK hHeld k6 fun hHeld=>?_
  clear hK K k6
  refine tR 8 fun K hK=>?_
  go_simp
  go_at_call 62
  refine cr (nums_w N7 (by omega) pn RN.out) fun v7 k7=>?_
  replace N7:=(N7).below rfl k7
  go_wp2_with fail
  refine tH hK hHeld k7 fun hHeld=>?_
  clear hK K k7
  refine tk [9,10] ?_
  refine tD ?_
  clear hb t0 t1 t2 lx
  obtain ⟨hb,t0,t1,t2,lx⟩:=hHeld
  replace lx:=hid lx
  go_wp2_with fail
  go_loopw [3,4] (fun sv iv wr=>∃ (q:Nat) (s:List UInt8),q≤x.e.length∧sv=.string ⟨s.toArray⟩∧iv=.int .i64 q∧Hid (s=p1++acc fE x.e q)∧Below w.heap.size w wr∧(wr.cell? ⟨bt,0,none⟩=some (.slice x.aa x.a.length x.ac))∧(wr.cell? ⟨bt,1,none⟩=some (.slice x.ea x.e.length x.ec))∧(wr.cell? ⟨bt,2,none⟩=some (.slice x.pa x.p.length x.pc))∧Hid (InnerS wr x)) (fun _ iv _=>x.e.length - (intOf iv).toNat)
  case atStart=>exact ⟨0,S1,by omega,rfl,rfl,HA1,hb,t0,t1,t2,lx⟩
  case round =>
   clear hb t0 t1 t2 lx HA1 bn zn D1
   obtain ⟨q,s,hq,rfl,rfl,HA,hb,t0,t1,t2,lx⟩:=hrel
   by_cases hlt:q<x.e.length
   rotate_left
   ·
    have HE:Hid (s=p1++lst fE x.e):=hid (by rw[HA.out,acc_all _ _ (by omega)])
    have dq:decide ((q:Int)<(x.e.length:Int))=false:=dF
    have hsl:s.length=p1.length+(lst fE x.e).length:=by rw[HE.out,List.length_append]
    have hsl2:s.length+pw.length+p3.length≤70368744177664:=by have:=HLB.out;rw[hpw];omega
    have zs:=Str.size_mk s
    clear hsl
    obtain ⟨C1,hC1,lC1,aC1,zC1,nC1,mC1⟩:=apd s pw (by omega)
    obtain ⟨C2,hC2,lC2,aC2,zC2,nC2,mC2⟩:=apd C1 p3 (by omega)
    have HR:Hid (fS x=C2):=hid (by rw[HV0.out,hC2,hC1,HE.out,hpw];simp only[List.append_assoc])
    replace hC1:=hid hC1
    replace lC1:=hid lC1
    replace hC2:=hid hC2
    replace lC2:=hid lC2
    clear hpw HA
    go_upto_region 6 with (fail)
    refine rG (fun w'=>Below w.heap.size w w'∧w'.cell? ⟨bt,0,none⟩=some (.slice x.aa x.a.length x.ac)∧w'.cell? ⟨bt,1,none⟩=some (.slice x.ea x.e.length x.ec)∧w'.cell? ⟨bt,2,none⟩=some (.slice x.pa x.p.length x.pc)∧InnerS w' x) ⟨hb,t0,t1,t2,lx.out⟩ fun wd hHeld=>?_
    refine tk [0,1,2,3,4,8,9] ?_
    refine tR 5 fun K hK=>?_
    go_simp
    refine tA hK hHeld fun hHeld=>?_
    clear hK K
    have N5:=nats_here [x.p.length] (by intro y hy;simp at hy;omega) rfl 1 rfl hHeld.1
    try simp only[World.size_alloc] at N5
    refine tR 6 fun K hK=>?_
    go_simp
    go_at_call 62
    refine cr (nums_w N5 (by omega) pw RW.out) fun v8 k8=>?_
    replace N5:=(N5).below rfl k8
    go_wp2_with fail
    refine tH hK hHeld k8 fun hHeld=>?_
    clear hK K k8
    refine tk [7] ?_
    refine tR 10 fun K hK=>?_
    go_simp
    go_at_call 63
    refine cr (D3.out _ hHeld.2.2.2.2) fun v9 k9=>?_
    replace N5:=(N5).below rfl k9
    go_wp2_with fail
    refine tH hK hHeld k9 fun hHeld=>?_
    clear hK K k9
    refine tk [11,12] ?_
    refine tD ?_
    clear hb t0 t1 t2 lx
    obtain ⟨hb,t0,t1,t2,lx⟩:=hHeld
    replace lx:=hid lx
    go_wp2
    go_ret
    exact ⟨by rw[HR.out];rfl,hb⟩
   have d1:decide ((q:Int)<(x.e.length:Int))=true:=dT
   have j1:(0:Int)≤(q:Int):=by omega
   have j2:(q:Int)<(x.e.length:Int):=by omega
   obtain ⟨b,o,hea,hc⟩:=lx.out.e.1.2 (by omega)
   rw[hea] at t1 ⊢
   obtain ⟨c0,c1,c2,c3,c4,c5,c6⟩:=cl7 (o+q*7) (hc q hlt)
   have HT:=hid (acc_step fE hlt)
   have hal:=part_le fE x.e hlt
   have OY:=hid (show _∧_∧_ from ⟨lx.out.e.2 _ (List.getElem_mem hlt),OX.out.em _ (List.getElem_mem hlt),KY.out _ (List.getElem_mem hlt)⟩)
   have hsl:s.length=p1.length+(acc fE x.e q).length:=by rw[HA.out,List.length_append]
   obtain ⟨y,hy⟩:=nm x.e[q]
   rw[← hy] at c0 c1 c2 c3 c4 c5 c6 HT OY hal
   obtain ⟨r0,hr0⟩:=nm (fE y)
   rw[← hr0] at hal
   have hsl2:s.length+r0.length≤70368744177664:=by have:=HLB.out;omega
   have zs:=Str.size_mk s
   have y0:=Str.size_mk r0
   have DY:=hid (fun W (h:InnerE W y)=>qS hr0 (raw_any y W h OY.out.2.1.1 OY.out.2.2.1 OY.out.2.2.2 OY.out.2.1.2))
   have ly:Hid (InnerE wr y):=hid OY.out.1
   clear hal hsl
   obtain ⟨C1,hC1,lC1,aC1,zC1,nC1,mC1⟩:=apd s r0 (by omega)
   have HV:Hid (C1=p1++acc fE x.e (q+1)):=hid (by rw[HT.out,hC1,HA.out,hr0];simp only[List.append_assoc])
   have HI:=hid hlt
   replace hC1:=hid hC1
   replace lC1:=hid lC1
   clear hr0 hy hc hlt HT HA hea OY
   go_wp2_with fail
   refine cr (DY.out _ ly.out) fun v10 k10=>?_
   have hA:=kp k10 (aj3 t0 t1 t2)
   clear t0 t1 t2
   obtain ⟨t0,t1,t2⟩:=hA
   replace lx:=hid ((lx.out).below k10)
   replace hb:=bstep hb k10
   clear k10
   go_wp2
   go_roundw
   case rel=>exact ⟨q+1,C1,by have:=HI.out;omega,rfl,by go_num,HV,hb,t0,t1,t2,lx⟩
   case measure=>simp[intOf];have:=HI.out;omega
end RefWrite
end Go.Proofs.YtnpjkmomllkhpaaGreatDoor
