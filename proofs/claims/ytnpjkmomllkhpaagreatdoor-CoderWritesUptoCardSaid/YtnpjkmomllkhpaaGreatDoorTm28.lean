/- RefMayS, RefGive. -/
import Derived.Test.YtnpjkmomllkhpaaGreatDoorTm27
set_option linter.unusedVariables false
set_option linter.unusedSimpArgs false
namespace Go.Proofs.YtnpjkmomllkhpaaGreatDoor
set_option maxRecDepth 100000
set_option maxHeartbeats 40000000
namespace RefMay
open RowKit YtnpjkmomllkhpaaGreatDoor.Mark Num Wire Bag Dots Coder
structure SFit (x:RS):Prop where
 fine:x.Fine
 key:∀ y ∈ x.e,y.k.length≤65536
 few:∀ y ∈ x.e,(y.j.flatMap RI.d).length≤549755813888
theorem cov_any (L K:List M) (a1 a2:Option Addr) (n1 n2 c1 c2:Nat) (w:World) (hL:Mark.Lies w a1 n1 L) (hK:Mark.Lies w a2 n2 K) (hn1:n1≤549755813888) (hn2:n2≤549755813888) (h1:Ok L) (h2:Ok K) :
  CB 117 #[.slice a1 n1 c1,.slice a2 n2 c2] w (covB L K) :=
 (RefDots.covers_any L K a1 a2 n1 n2 c1 c2 w hL hK hn1 hn2 h1 h2).mono fun e w' ⟨r',he,hr,hb⟩=>⟨by rw[he];congr 2;rw[Bool.eq_iff_iff,hr,cov_iff],hb⟩
theorem mayS_any (x:RS) (w:World) (hx:InnerS w x) (ox:x.Ok) (of:SFit x) :
  CB 44 #[.agg x] w (mayS x.s):=by
 have lx:=hid hx
 have OX:=hid ox
 have OF:=hid of
 have hne:=ox.e
 have hnp:=ox.p
 clear hx ox of
 obtain ⟨q0,hq0⟩:=nm (mayL x.a)
 have HV:Hid (mayS x.s=(q0 && (mayRs x.a none x.e && mayPr x.a none x.p))):=hid (by rw[hq0,← mayRs_is];rfl)
 have C0:=hid (fun W (hx:InnerS W x)=>qB hq0 (RefDots.may_any x.a x.aa x.a.length x.ac W hx.a (by have:=OX.out.a;omega) (ok_of OX.out.am)))
 clear hq0
 go_enter Tryz.func44,Tryz.ntmps44
 go_upto_region 1 with (fail)
 have hb0:=balloc (Below.refl w.heap.size w) (.cells x 33)
 obtain ⟨p0,p1,p2⟩:=al3 (bx w x 33)
 obtain ⟨w0,hw0⟩:=nm (w.alloc (.cells x 33))
 rw[← hw0] at hb0 p0 p1 p2 ⊢
 obtain ⟨bp,hbp⟩:=nm w.heap.size
 rw[← hbp] at p0 p1 p2 ⊢
 have hb:=hb0
 clear hb0 hw0 hbp
 replace lx:=hid (lx.out.below hb)
 go_wp2_with fail
 refine cr (C0.out _ lx.out) fun v1 k1=>?_
 have hA:=kp k1 (aj3 p0 p1 p2)
 clear p0 p1 p2
 obtain ⟨p0,p1,p2⟩:=hA
 replace lx:=hid ((lx.out).below k1)
 replace hb:=bstep hb k1
 clear k1 C0
 cases q0
 ·have HV2:Hid (mayS x.s=false):=hid (by rw[HV.out];rfl)
  go_wp2
  go_ret
  exact ⟨by rw[HV2.out];rfl,hb⟩
 obtain ⟨U,hU⟩:=nm (mayPr x.a none x.p)
 have HV0:Hid (mayS x.s=(mayRs x.a (pE x.e 0) (x.e.drop 0) && U)):=hid (by rw[HV.out,hU];rfl)
 have HU:=hid hU
 clear HV hU
 go_wp2_with fail
 go_loopw [3] (fun iv wr=>∃ i:Nat,i≤x.e.length∧iv=.int .i64 i∧Hid (mayS x.s=(mayRs x.a (pE x.e i) (x.e.drop i) && U))∧Below w.heap.size w wr∧(wr.cell? ⟨bp,0,none⟩=some (.slice x.aa x.a.length x.ac))∧(wr.cell? ⟨bp,1,none⟩=some (.slice x.ea x.e.length x.ec))∧(wr.cell? ⟨bp,2,none⟩=some (.slice x.pa x.p.length x.pc))∧Hid (InnerS wr x)) (fun iv _=>x.e.length - (intOf iv).toNat)
 case atStart=>exact ⟨0,by omega,rfl,HV0,hb,p0,p1,p2,lx⟩
 case round =>
  clear HV0 hb p0 p1 p2 lx
  obtain ⟨i,hi,rfl,HM,hb,p0,p1,p2,lx⟩:=hrel
  by_cases hlt:i<x.e.length
  ·
   have d1:decide ((i:Int)<(x.e.length:Int))=true:=dT
   have j1:(0:Int)≤(i:Int):=by omega
   have j2:(i:Int)<(x.e.length:Int):=by omega
   obtain ⟨b,o,hea,hc⟩:=lx.out.e.1.2 (by omega)
   rw[hea]
   rw[hea] at p1
   obtain ⟨c0,c1,c2,c3,c4,c5,c6⟩:=cl7 (o+i*7) (hc i hlt)
   have hst:=mayRs_step x.a hlt
   have HPV:Hid (∀ k',i=k'+1→∃ pv,pE x.e i=some pv∧wr.cell? ⟨b,o+k'*7,none⟩=some ↑pv):=hid (fun k' hk=>by
    subst hk
    have hkl:k'<x.e.length:=by omega
    exact ⟨(x.e[k']).k,pE_next hkl,hc k' hkl 0 _ rfl⟩)
   have ly:Hid (InnerE wr (x.e[i])):=hid (lx.out.e.2 _ (List.getElem_mem hlt))
   have OY:=hid (OX.out.em _ (List.getElem_mem hlt))
   have FY:=hid (show _∧_∧_ from ⟨OF.out.fine _ (List.getElem_mem hlt),OF.out.key _ (List.getElem_mem hlt),OF.out.few _ (List.getElem_mem hlt)⟩)
   obtain ⟨y,hy⟩:=nm x.e[i]
   rw[← hy] at hst ly OY FY c0 c1 c2 c3 c4 c5 c6
   obtain ⟨q1,hq1⟩:=nm (mayE y.e)
   obtain ⟨r,hr⟩:=nm (covB x.a y.s)
   have D0:=hid (fun W (h:InnerE W y)=>qB hq1 (mayE_any y W h OY.out.1 FY.out.2.1 FY.out.2.2))
   have D1:=hid (fun W (h:InnerS W x) (h2:InnerE W y)=>qB hr (cov_any x.a y.s x.aa y.sa x.a.length y.s.length x.ac y.sc W h.a h2.s (by have:=OX.out.a;omega) (by have:=OY.out.1.s;omega) (ok_of OX.out.am) (ok_of OY.out.1.sm)))
   rw[← hq1,← hr] at hst
   obtain ⟨o',ho'⟩:=nm (pE x.e i)
   rw[← ho'] at hst
   have HO':=hid ho'
   obtain ⟨bad,hbad⟩:=nm (!(q1 && (!befT o' y.k && r)))
   have HBD:=hid hbad
   have HST:Hid (mayS x.s=((!bad && mayRs x.a (pE x.e (i+1)) (x.e.drop (i+1))) && U)):=hid (by rw[HM.out,← ho',hst,hbad,Bool.not_not])
   have HI:=hid hlt
   clear hc hy hst hlt HM hq1 hr OY FY ho' hbad hea
   go_upto_region 7 with (fail)
   have kS:=balloc (Below.refl wr.heap.size wr) (.cells y 29)
   obtain ⟨s0,s1,s2,s3,s4,s5,s6⟩:=al7 (bx wr y 29)
   obtain ⟨sb,hsb⟩:=nm wr.heap.size
   obtain ⟨ws,hws⟩:=nm (wr.alloc (.cells y 29))
   rw[← hws] at kS s0 s1 s2 s3 s4 s5 s6 ⊢
   rw[← hsb] at s0 s1 s2 s3 s4 s5 s6 ⊢
   replace HPV:Hid (∀ k',i=k'+1→∃ pv,pE x.e i=some pv∧ws.cell? ⟨b,o+k'*7,none⟩=some ↑pv):=hid (fun k' hk=>by
    obtain ⟨pv,h1,h2⟩:=HPV.out k' hk
    exact ⟨pv,h1,Coder.keepC h2 kS⟩)
   replace p0:=(Coder.keepC p0 kS)
   replace p1:=(Coder.keepC p1 kS)
   replace p2:=(Coder.keepC p2 kS)
   replace lx:=hid ((lx.out).below kS)
   replace ly:=hid ((ly.out).below kS)
   replace hb:=bstep hb kS
   clear kS hsb hws c0 c1 c2 c3 c4 c5 c6
   go_cut [48] (fun zv wx=>zv=.bool bad∧Below w.heap.size w wx∧wx.cell? ⟨bp,0,none⟩=some (.slice x.aa x.a.length x.ac)∧wx.cell? ⟨bp,1,none⟩=some (.slice (some ⟨b,o,none⟩) x.e.length x.ec)∧wx.cell? ⟨bp,2,none⟩=some (.slice x.pa x.p.length x.pc)∧InnerS wx x)
   case first =>
    cases q1
    ·have HZ:Hid (bad=true):=hid (by rw[HBD.out];rfl)
     clear HPV HBD
     go_wp2_with fail
     refine rgd (fun w'=>Below w.heap.size w w'∧w'.cell? ⟨bp,0,none⟩=some (.slice x.aa x.a.length x.ac)∧w'.cell? ⟨bp,1,none⟩=some (.slice (some ⟨b,o,none⟩) x.e.length x.ec)∧w'.cell? ⟨bp,2,none⟩=some (.slice x.pa x.p.length x.pc)∧InnerS w' x∧InnerE w' y∧w'.cell? ⟨sb,0,none⟩=some ↑y.k∧w'.cell? ⟨sb,1,none⟩=some (.slice y.sa y.s.length y.sc)∧w'.cell? ⟨sb,2,none⟩=some (.slice y.ca y.c.length y.cc)∧w'.cell? ⟨sb,3,none⟩=some (.slice y.ia y.j.length y.ic)∧w'.cell? ⟨sb,4,none⟩=some ↑y.l.s∧w'.cell? ⟨sb,5,none⟩=some ↑y.l.t∧w'.cell? ⟨sb,6,none⟩=some ↑y.l.g) ⟨hb,p0,p1,p2,lx.out,ly.out,s0,s1,s2,s3,s4,s5,s6⟩ fun hHeld=>?_
     refine tk [0] ?_
     refine tR 1 fun K hK=>?_
     go_simp
     go_at_call 39
     refine cr (D0.out _ hHeld.2.2.2.2.2.1) fun v2 k2=>?_
     go_wp2_with fail
     refine tH hK hHeld k2 fun hHeld=>?_
     clear hK K k2
     refine tk [2,3,4,5,6,7,8,9,10,11,12,13,14,15,16,17,18,19,20,21,22,23,24,25,26] ?_
     refine tD ?_
     clear hb p0 p1 p2 lx ly s0 s1 s2 s3 s4 s5 s6
     obtain ⟨hb,p0,p1,p2,lx,ly,s0,s1,s2,s3,s4,s5,s6⟩:=hHeld
     replace lx:=hid lx
     replace ly:=hid ly
     go_wp2_with fail
     go_meet
     exact ⟨by rw[HZ.out],hb,p0,p1,p2,lx.out⟩
    cases r
    ·have HZ:Hid (bad=true):=hid (by rw[HBD.out,Bool.and_false];rfl)
     clear HPV HBD
     go_wp2_with fail
     refine rgd (fun w'=>Below w.heap.size w w'∧w'.cell? ⟨bp,0,none⟩=some (.slice x.aa x.a.length x.ac)∧w'.cell? ⟨bp,1,none⟩=some (.slice (some ⟨b,o,none⟩) x.e.length x.ec)∧w'.cell? ⟨bp,2,none⟩=some (.slice x.pa x.p.length x.pc)∧InnerS w' x∧InnerE w' y∧w'.cell? ⟨sb,0,none⟩=some ↑y.k∧w'.cell? ⟨sb,1,none⟩=some (.slice y.sa y.s.length y.sc)∧w'.cell? ⟨sb,2,none⟩=some (.slice y.ca y.c.length y.cc)∧w'.cell? ⟨sb,3,none⟩=some (.slice y.ia y.j.length y.ic)∧w'.cell? ⟨sb,4,none⟩=some ↑y.l.s∧w'.cell? ⟨sb,5,none⟩=some ↑y.l.t∧w'.cell? ⟨sb,6,none⟩=some ↑y.l.g) ⟨hb,p0,p1,p2,lx.out,ly.out,s0,s1,s2,s3,s4,s5,s6⟩ fun hHeld=>?_
     refine tk [0] ?_
     refine tR 1 fun K hK=>?_
     go_simp
     go_at_call 39
     refine cr (D0.out _ hHeld.2.2.2.2.2.1) fun v3 k3=>?_
     go_wp2_with fail
     refine tH hK hHeld k3 fun hHeld=>?_
     clear hK K k3
     refine tk [2,3,4,5,6,7] ?_
     refine tR 8 fun K hK=>?_
     go_simp
     go_at_call 117
     refine cr (D1.out _ hHeld.2.2.2.2.1 hHeld.2.2.2.2.2.1) fun v4 k4=>?_
     go_wp2_with fail
     refine tH hK hHeld k4 fun hHeld=>?_
     clear hK K k4
     refine tk [9,10,11,12,13,14,15,16,17,18,19,20,21,22,23,24,25,26] ?_
     refine tD ?_
     clear hb p0 p1 p2 lx ly s0 s1 s2 s3 s4 s5 s6
     obtain ⟨hb,p0,p1,p2,lx,ly,s0,s1,s2,s3,s4,s5,s6⟩:=hHeld
     replace lx:=hid lx
     replace ly:=hid ly
     go_wp2_with fail
     go_meet
     exact ⟨by rw[HZ.out],hb,p0,p1,p2,lx.out⟩
    have HY:Hid (bad=befT o' y.k):=hid (by rw[HBD.out];simp)
    clear HBD
    by_cases hi0:i=0
    ·have z1:decide ((0:Int)<(i:Int))=false:=dF
     have z1n:decide (0<i)=false:=dF
     have HZ:Hid (bad=false):=hid (by rw[HY.out,HO'.out,hi0];rfl)
     clear hi0 HPV HY
     go_wp2_with fail
     refine rgd (fun w'=>Below w.heap.size w w'∧w'.cell? ⟨bp,0,none⟩=some (.slice x.aa x.a.length x.ac)∧w'.cell? ⟨bp,1,none⟩=some (.slice (some ⟨b,o,none⟩) x.e.length x.ec)∧w'.cell? ⟨bp,2,none⟩=some (.slice x.pa x.p.length x.pc)∧InnerS w' x∧InnerE w' y∧w'.cell? ⟨sb,0,none⟩=some ↑y.k∧w'.cell? ⟨sb,1,none⟩=some (.slice y.sa y.s.length y.sc)∧w'.cell? ⟨sb,2,none⟩=some (.slice y.ca y.c.length y.cc)∧w'.cell? ⟨sb,3,none⟩=some (.slice y.ia y.j.length y.ic)∧w'.cell? ⟨sb,4,none⟩=some ↑y.l.s∧w'.cell? ⟨sb,5,none⟩=some ↑y.l.t∧w'.cell? ⟨sb,6,none⟩=some ↑y.l.g) ⟨hb,p0,p1,p2,lx.out,ly.out,s0,s1,s2,s3,s4,s5,s6⟩ fun hHeld=>?_
     refine tk [0] ?_
     refine tR 1 fun K hK=>?_
     go_simp
     go_at_call 39
     refine cr (D0.out _ hHeld.2.2.2.2.2.1) fun v5 k5=>?_
     go_wp2_with fail
     refine tH hK hHeld k5 fun hHeld=>?_
     clear hK K k5
     refine tk [2,3,4,5,6,7] ?_
     refine tR 8 fun K hK=>?_
     go_simp
     go_at_call 117
     refine cr (D1.out _ hHeld.2.2.2.2.1 hHeld.2.2.2.2.2.1) fun v6 k6=>?_
     go_wp2_with fail
     refine tH hK hHeld k6 fun hHeld=>?_
     clear hK K k6
     refine tk [9,10,11,12,13,14,15,16,17,18,19,20,21,22,23,24,25,26] ?_
     refine tD ?_
     clear hb p0 p1 p2 lx ly s0 s1 s2 s3 s4 s5 s6
     obtain ⟨hb,p0,p1,p2,lx,ly,s0,s1,s2,s3,s4,s5,s6⟩:=hHeld
     replace lx:=hid lx
     replace ly:=hid ly
     go_wp2_with fail
     go_meet
     exact ⟨by rw[HZ.out],hb,p0,p1,p2,lx.out⟩
    obtain ⟨k',hk'⟩:∃ k',i=k'+1:=⟨i - 1,by omega⟩
    obtain ⟨pv,hpv,hp0⟩:=HPV.out k' hk'
    have z1:decide ((0:Int)<(i:Int))=true:=dT
    have z1n:decide (0<i)=true:=dT
    have w1:IntKind.i64.wrap ((i:Int) - 1)=(k':Int):=by rw[IntKind.wrap_i64];omega
    have j5:(0:Int)≤(k':Int):=by omega
    have j6:(k':Int)<(x.e.length:Int):=by omega
    have z2:o'=some pv:=HO'.out.trans hpv
    have HY2:Hid (bad = !(decide (TL pv y.k))):=hid (by rw[HY.out,z2];rfl)
    have HK':=hid hk'
    clear z2 hi0 HPV hpv hk' HY
    rcases tl_ways pv y.k with hw | hw | hw
    ·obtain ⟨q1,q2,q3,q4⟩:=ways_less hw
     have HZ:Hid (bad=false):=hid (by rw[HY2.out,decide_eq_true hw];rfl)
     clear hw
     go_wp2_with fail
     refine rgd (fun w'=>Below w.heap.size w w'∧w'.cell? ⟨bp,0,none⟩=some (.slice x.aa x.a.length x.ac)∧w'.cell? ⟨bp,1,none⟩=some (.slice (some ⟨b,o,none⟩) x.e.length x.ec)∧w'.cell? ⟨bp,2,none⟩=some (.slice x.pa x.p.length x.pc)∧InnerS w' x∧InnerE w' y∧w'.cell? ⟨sb,0,none⟩=some ↑y.k∧w'.cell? ⟨sb,1,none⟩=some (.slice y.sa y.s.length y.sc)∧w'.cell? ⟨sb,2,none⟩=some (.slice y.ca y.c.length y.cc)∧w'.cell? ⟨sb,3,none⟩=some (.slice y.ia y.j.length y.ic)∧w'.cell? ⟨sb,4,none⟩=some ↑y.l.s∧w'.cell? ⟨sb,5,none⟩=some ↑y.l.t∧w'.cell? ⟨sb,6,none⟩=some ↑y.l.g∧w'.cell? ⟨b,o+k'*7,none⟩=some ↑pv) ⟨hb,p0,p1,p2,lx.out,ly.out,s0,s1,s2,s3,s4,s5,s6,hp0⟩ fun hHeld=>?_
     refine tk [0] ?_
     refine tR 1 fun K hK=>?_
     go_simp
     go_at_call 39
     refine cr (D0.out _ hHeld.2.2.2.2.2.1) fun v7 k7=>?_
     go_wp2_with fail
     refine tH hK hHeld k7 fun hHeld=>?_
     clear hK K k7
     refine tk [2,3,4,5,6,7] ?_
     refine tR 8 fun K hK=>?_
     go_simp
     go_at_call 117
     refine cr (D1.out _ hHeld.2.2.2.2.1 hHeld.2.2.2.2.2.1) fun v8 k8=>?_
     go_wp2_with fail
     refine tH hK hHeld k8 fun hHeld=>?_
     clear hK K k8
     refine tk [9,10,11,12,13,14,15,16,17,18,19,20,21,22,23,24,25,26] ?_
     refine tD ?_
     clear hb p0 p1 p2 lx ly s0 s1 s2 s3 s4 s5 s6 hp0
     obtain ⟨hb,p0,p1,p2,lx,ly,s0,s1,s2,s3,s4,s5,s6,hp0⟩:=hHeld
     replace lx:=hid lx
     replace ly:=hid ly
     go_wp2_with fail
     go_meet
     exact ⟨by rw[HZ.out],hb,p0,p1,p2,lx.out⟩
    ·have q1:=less_self y.k
     have HZ:Hid (bad=true):=hid (by rw[HY2.out,decide_eq_false (by rw[hw];exact linT.irr y.k)];rfl)
     have q3:(pv == y.k)=true:=by simp[hw]
     have q4:(y.k == pv)=true:=by simp[hw]
     have q5:Op.bytesLess pv y.k=false:=by rw[hw];exact q1
     have q6:Op.bytesLess y.k pv=false:=by rw[hw];exact q1
     clear hw
     go_wp2_with fail
     refine rgd (fun w'=>Below w.heap.size w w'∧w'.cell? ⟨bp,0,none⟩=some (.slice x.aa x.a.length x.ac)∧w'.cell? ⟨bp,1,none⟩=some (.slice (some ⟨b,o,none⟩) x.e.length x.ec)∧w'.cell? ⟨bp,2,none⟩=some (.slice x.pa x.p.length x.pc)∧InnerS w' x∧InnerE w' y∧w'.cell? ⟨sb,0,none⟩=some ↑y.k∧w'.cell? ⟨sb,1,none⟩=some (.slice y.sa y.s.length y.sc)∧w'.cell? ⟨sb,2,none⟩=some (.slice y.ca y.c.length y.cc)∧w'.cell? ⟨sb,3,none⟩=some (.slice y.ia y.j.length y.ic)∧w'.cell? ⟨sb,4,none⟩=some ↑y.l.s∧w'.cell? ⟨sb,5,none⟩=some ↑y.l.t∧w'.cell? ⟨sb,6,none⟩=some ↑y.l.g∧w'.cell? ⟨b,o+k'*7,none⟩=some ↑pv) ⟨hb,p0,p1,p2,lx.out,ly.out,s0,s1,s2,s3,s4,s5,s6,hp0⟩ fun hHeld=>?_
     refine tk [0] ?_
     refine tR 1 fun K hK=>?_
     go_simp
     go_at_call 39
     refine cr (D0.out _ hHeld.2.2.2.2.2.1) fun v9 k9=>?_
     go_wp2_with fail
     refine tH hK hHeld k9 fun hHeld=>?_
     clear hK K k9
     refine tk [2,3,4,5,6,7] ?_
     refine tR 8 fun K hK=>?_
     go_simp
     go_at_call 117
     refine cr (D1.out _ hHeld.2.2.2.2.1 hHeld.2.2.2.2.2.1) fun v10 k10=>?_
     go_wp2_with fail
     refine tH hK hHeld k10 fun hHeld=>?_
     clear hK K k10
     refine tk [9,10,11,12,13,14,15,16,17,18,19,20,21,22,23,24,25,26] ?_
     refine tD ?_
     clear hb p0 p1 p2 lx ly s0 s1 s2 s3 s4 s5 s6 hp0
     obtain ⟨hb,p0,p1,p2,lx,ly,s0,s1,s2,s3,s4,s5,s6,hp0⟩:=hHeld
     replace lx:=hid lx
     replace ly:=hid ly
     go_wp2_with fail
     go_meet
     exact ⟨by rw[HZ.out],hb,p0,p1,p2,lx.out⟩
    ·obtain ⟨q1,q2,q3,q4⟩:=ways_less hw
     have HZ:Hid (bad=true):=hid (by rw[HY2.out,decide_eq_false (fun h=>linT.irr _ (linT.trans hw h))];rfl)
     clear hw
     go_wp2_with fail
     refine rgd (fun w'=>Below w.heap.size w w'∧w'.cell? ⟨bp,0,none⟩=some (.slice x.aa x.a.length x.ac)∧w'.cell? ⟨bp,1,none⟩=some (.slice (some ⟨b,o,none⟩) x.e.length x.ec)∧w'.cell? ⟨bp,2,none⟩=some (.slice x.pa x.p.length x.pc)∧InnerS w' x∧InnerE w' y∧w'.cell? ⟨sb,0,none⟩=some ↑y.k∧w'.cell? ⟨sb,1,none⟩=some (.slice y.sa y.s.length y.sc)∧w'.cell? ⟨sb,2,none⟩=some (.slice y.ca y.c.length y.cc)∧w'.cell? ⟨sb,3,none⟩=some (.slice y.ia y.j.length y.ic)∧w'.cell? ⟨sb,4,none⟩=some ↑y.l.s∧w'.cell? ⟨sb,5,none⟩=some ↑y.l.t∧w'.cell? ⟨sb,6,none⟩=some ↑y.l.g∧w'.cell? ⟨b,o+k'*7,none⟩=some ↑pv) ⟨hb,p0,p1,p2,lx.out,ly.out,s0,s1,s2,s3,s4,s5,s6,hp0⟩ fun hHeld=>?_
     refine tk [0] ?_
     refine tR 1 fun K hK=>?_
     go_simp
     go_at_call 39
     refine cr (D0.out _ hHeld.2.2.2.2.2.1) fun v11 k11=>?_
     go_wp2_with fail
     refine tH hK hHeld k11 fun hHeld=>?_
     clear hK K k11
     refine tk [2,3,4,5,6,7] ?_
     refine tR 8 fun K hK=>?_
     go_simp
     go_at_call 117
     refine cr (D1.out _ hHeld.2.2.2.2.1 hHeld.2.2.2.2.2.1) fun v12 k12=>?_
     go_wp2_with fail
     refine tH hK hHeld k12 fun hHeld=>?_
     clear hK K k12
     refine tk [9,10,11,12,13,14,15,16,17,18,19,20,21,22,23,24,25,26] ?_
     refine tD ?_
     clear hb p0 p1 p2 lx ly s0 s1 s2 s3 s4 s5 s6 hp0
     obtain ⟨hb,p0,p1,p2,lx,ly,s0,s1,s2,s3,s4,s5,s6,hp0⟩:=hHeld
     replace lx:=hid lx
     replace ly:=hid ly
     go_wp2_with fail
     go_meet
     exact ⟨by rw[HZ.out],hb,p0,p1,p2,lx.out⟩
   clear hb ly s0 s1 s2 s3 s4 s5 s6 p0 p1 p2 lx
   obtain ⟨rfl,hb,p0,p1,p2,lx⟩:=hcut
   replace lx:=hid lx
   cases bad
   rotate_left
   ·have HV2:Hid (mayS x.s=false):=hid (by rw[HST.out];rfl)
    clear HST HBD
    go_wp2
    go_ret
    exact ⟨by rw[HV2.out];rfl,hb⟩
   have HV2:Hid (mayS x.s=(mayRs x.a (pE x.e (i+1)) (x.e.drop (i+1)) && U)):=hid (by rw[HST.out];rfl)
   clear HST HBD
   go_wp2
   go_roundw
   case rel=>exact ⟨i+1,by have:=HI.out;omega,by go_num,HV2,hb,p0,p1,p2,lx⟩
   case measure=>simp[intOf];have:=HI.out;omega
  ·
   have HE:Hid (mayS x.s=mayPr x.a (pW x.p 0) (x.p.drop 0)):=hid (by rw[HM.out,List.drop_eq_nil_of_le (by omega),HU.out];rfl)
   have d1:decide ((i:Int)<(x.e.length:Int))=false:=dF
   clear HM HU
   go_wp2_with fail
   clear hlt
   go_loopw [5] (fun iv wr=>∃ i:Nat,i≤x.p.length∧iv=.int .i64 i∧Hid (mayS x.s=mayPr x.a (pW x.p i) (x.p.drop i))∧Below w.heap.size w wr∧(wr.cell? ⟨bp,0,none⟩=some (.slice x.aa x.a.length x.ac))∧(wr.cell? ⟨bp,1,none⟩=some (.slice x.ea x.e.length x.ec))∧(wr.cell? ⟨bp,2,none⟩=some (.slice x.pa x.p.length x.pc))∧Hid (InnerS wr x)) (fun iv _=>x.p.length - (intOf iv).toNat)
   case atStart=>exact ⟨0,by omega,rfl,HE,hb,p0,p1,p2,lx⟩
   case round =>
    clear HE hb p0 p1 p2 lx d1 hi
    obtain ⟨i,hi,rfl,HM,hb,p0,p1,p2,lx⟩:=hrel
    by_cases hlt:i<x.p.length
    rotate_left
    ·have HE:Hid (mayS x.s=true):=hid (by rw[HM.out,List.drop_eq_nil_of_le (by omega)];rfl)
     go_wp2
     go_ret
     exact ⟨by rw[HE.out];rfl,hb⟩
    have d1:decide ((i:Int)<(x.p.length:Int))=true:=dT
    have j1:(0:Int)≤(i:Int):=by omega
    have j2:(i:Int)<(x.p.length:Int):=by omega
    obtain ⟨b,o,hea,hc⟩:=lx.out.p.2 (by omega)
    rw[hea]
    rw[hea] at p2
    have c0:wr.cell? ⟨b,o+i,none⟩=some ↑(x.p[i]):=by
     have q:=hc i hlt 0 _ rfl
     rw[show o+i*wE.k+0=o+i by show o+i*1+0=o+i;omega] at q
     exact q
    have hst:=mayPr_step x.a hlt
    have HPV:Hid (∀ k',i=k'+1→∃ pv,pW x.p i=some pv∧wr.cell? ⟨b,o+k',none⟩=some ↑pv):=hid (fun k' hk=>by
     subst hk
     have hkl:k'<x.p.length:=by omega
     have q:=hc k' hkl 0 _ rfl
     rw[show o+k'*wE.k+0=o+k' by show o+k'*1+0=o+k';omega] at q
     exact ⟨x.p[k'],pW_next hkl,q⟩)
    obtain ⟨t,ht⟩:=nm x.p[i]
    rw[← ht] at hst c0
    obtain ⟨z,hz⟩:=nm (ofL x.a t)
    have D1:=hid (fun W (h:InnerS W x)=>(by rw[hz];exact RefDots.of_any t x.a x.aa x.a.length x.ac W h.a (by have:=OX.out.a;omega) (ok_of OX.out.am):CP 109 #[.slice x.aa x.a.length x.ac,t] W (.int .u64 (z:Nat))))
    rw[← hz] at hst
    obtain ⟨o',ho'⟩:=nm (pW x.p i)
    rw[← ho'] at hst
    have HO':=hid ho'
    obtain ⟨bad,hbad⟩:=nm (!(!decide (t=[]) && (!befT o' t && decide (z=0))))
    have HST:Hid (mayS x.s=(!bad && mayPr x.a (pW x.p (i+1)) (x.p.drop (i+1)))):=hid (by rw[HM.out,← ho',hst,hbad,Bool.not_not])
    have HBD:=hid hbad
    have HI:=hid hlt
    clear hc ht hst hlt HM hz hea hbad ho'
    go_upto_region 12 with (fail)
    go_cut [90] (fun zv wx=>zv=.bool bad∧Below w.heap.size w wx∧wx.cell? ⟨bp,0,none⟩=some (.slice x.aa x.a.length x.ac)∧wx.cell? ⟨bp,1,none⟩=some (.slice x.ea x.e.length x.ec)∧wx.cell? ⟨bp,2,none⟩=some (.slice (some ⟨b,o,none⟩) x.p.length x.pc)∧InnerS wx x)
    case first =>
     by_cases hp:t=[]
     ·have e0:(t == [])=true:=by rw[hp];rfl
      have HZ:Hid (bad=true):=hid (by rw[HBD.out,decide_eq_true hp];rfl)
      clear hp HPV
      go_wp2_with fail
      refine rgd (fun w'=>Below w.heap.size w w'∧w'.cell? ⟨bp,0,none⟩=some (.slice x.aa x.a.length x.ac)∧w'.cell? ⟨bp,1,none⟩=some (.slice x.ea x.e.length x.ec)∧w'.cell? ⟨bp,2,none⟩=some (.slice (some ⟨b,o,none⟩) x.p.length x.pc)∧InnerS w' x∧w'.cell? ⟨b,o+i,none⟩=some ↑t) ⟨hb,p0,p1,p2,lx.out,c0⟩ fun hHeld=>?_
      refine tk [0,1,2,3,4,5,6,7,8,9,10,11,12,13,14,15,16,17,18,19,20,21,22,23,24,25,26,27,28,29,30,31,32,33,34] ?_
      refine tD ?_
      clear hb p0 p1 p2 lx c0
      obtain ⟨hb,p0,p1,p2,lx,c0⟩:=hHeld
      replace lx:=hid lx
      go_wp2_with fail
      go_meet
      exact ⟨by rw[HZ.out],hb,p0,p1,p2,lx.out⟩
     have e0:(t == [])=false:=by rw[beq_eq_false_iff_ne];exact hp
     have HY0:Hid (bad = !(!befT o' t && decide (z=0))):=hid (by rw[HBD.out,decide_eq_false hp];rfl)
     clear hp
     by_cases h9:z=0
     rotate_left
     ·have z9:decide ((0:Int)<(z:Int))=true:=dT
      have z9n:decide (0<z)=true:=dT
      have HZ:Hid (bad=true):=hid (by rw[HY0.out,decide_eq_false h9,Bool.and_false];rfl)
      clear h9 HPV
      go_wp2_with fail
      refine rgd (fun w'=>Below w.heap.size w w'∧w'.cell? ⟨bp,0,none⟩=some (.slice x.aa x.a.length x.ac)∧w'.cell? ⟨bp,1,none⟩=some (.slice x.ea x.e.length x.ec)∧w'.cell? ⟨bp,2,none⟩=some (.slice (some ⟨b,o,none⟩) x.p.length x.pc)∧InnerS w' x∧w'.cell? ⟨b,o+i,none⟩=some ↑t) ⟨hb,p0,p1,p2,lx.out,c0⟩ fun hHeld=>?_
      refine tk [0,1,2,3,4,5,6,7,8,9,10,11,12,13] ?_
      refine tR 14 fun K hK=>?_
      go_simp
      go_at_call 109
      refine cp (D1.out _ hHeld.2.2.2.2.1) ?_
      go_wp2_with fail
      refine hK.out _ _ hHeld (fun hHeld=>?_)
      clear hK K
      try simp only[Act.put,List.setIfInBounds_toArray,List.set_cons_zero,List.set_cons_succ]
      refine tk [15,16,17,18,19,20,21,22,23,24,25,26,27,28,29,30,31,32,33,34] ?_
      refine tD ?_
      clear hb p0 p1 p2 lx c0
      obtain ⟨hb,p0,p1,p2,lx,c0⟩:=hHeld
      replace lx:=hid lx
      go_wp2_with fail
      go_meet
      exact ⟨by rw[HZ.out],hb,p0,p1,p2,lx.out⟩
     have z9:decide ((0:Int)<(z:Int))=false:=dF
     have z9n:decide (0<z)=false:=dF
     have HY:Hid (bad=befT o' t):=hid (by rw[HY0.out,decide_eq_true h9];simp)
     clear h9 HY0
     by_cases hi0:i=0
     ·have z1:decide ((0:Int)<(i:Int))=false:=dF
      have z1n:decide (0<i)=false:=dF
      have HZ:Hid (bad=false):=hid (by rw[HY.out,HO'.out,hi0];rfl)
      clear hi0 HPV HY
      go_wp2_with fail
      refine rgd (fun w'=>Below w.heap.size w w'∧w'.cell? ⟨bp,0,none⟩=some (.slice x.aa x.a.length x.ac)∧w'.cell? ⟨bp,1,none⟩=some (.slice x.ea x.e.length x.ec)∧w'.cell? ⟨bp,2,none⟩=some (.slice (some ⟨b,o,none⟩) x.p.length x.pc)∧InnerS w' x∧w'.cell? ⟨b,o+i,none⟩=some ↑t) ⟨hb,p0,p1,p2,lx.out,c0⟩ fun hHeld=>?_
      refine tk [0,1,2,3,4,5,6,7,8,9,10,11,12,13] ?_
      refine tR 14 fun K hK=>?_
      go_simp
      go_at_call 109
      refine cp (D1.out _ hHeld.2.2.2.2.1) ?_
      go_wp2_with fail
      refine hK.out _ _ hHeld (fun hHeld=>?_)
      clear hK K
      try simp only[Act.put,List.setIfInBounds_toArray,List.set_cons_zero,List.set_cons_succ]
      refine tk [15,16,17,18,19,20,21,22,23,24,25,26,27,28,29,30,31,32,33,34] ?_
      refine tD ?_
      clear hb p0 p1 p2 lx c0
      obtain ⟨hb,p0,p1,p2,lx,c0⟩:=hHeld
      replace lx:=hid lx
      go_wp2_with fail
      go_meet
      exact ⟨by rw[HZ.out],hb,p0,p1,p2,lx.out⟩
     obtain ⟨k',hk'⟩:∃ k',i=k'+1:=⟨i - 1,by omega⟩
     obtain ⟨pv,hpv,hp0⟩:=HPV.out k' hk'
     have z1:decide ((0:Int)<(i:Int))=true:=dT
     have z1n:decide (0<i)=true:=dT
     have w1:IntKind.i64.wrap ((i:Int) - 1)=(k':Int):=by rw[IntKind.wrap_i64];omega
     have j5:(0:Int)≤(k':Int):=by omega
     have j6:(k':Int)<(x.p.length:Int):=by omega
     have z2:o'=some pv:=HO'.out.trans hpv
     have HY2:Hid (bad = !(decide (TL pv t))):=hid (by rw[HY.out,z2];rfl)
     have HK':=hid hk'
     clear z2 hi0 HPV hpv hk' HY
     rcases tl_ways pv t with hw | hw | hw
     ·obtain ⟨q1,q2,q3,q4⟩:=ways_less hw
      have HZ:Hid (bad=false):=hid (by rw[HY2.out,decide_eq_true hw];rfl)
      clear hw
      go_wp2_with fail
      refine rgd (fun w'=>Below w.heap.size w w'∧w'.cell? ⟨bp,0,none⟩=some (.slice x.aa x.a.length x.ac)∧w'.cell? ⟨bp,1,none⟩=some (.slice x.ea x.e.length x.ec)∧w'.cell? ⟨bp,2,none⟩=some (.slice (some ⟨b,o,none⟩) x.p.length x.pc)∧InnerS w' x∧w'.cell? ⟨b,o+i,none⟩=some ↑t∧w'.cell? ⟨b,o+k',none⟩=some ↑pv) ⟨hb,p0,p1,p2,lx.out,c0,hp0⟩ fun hHeld=>?_
      refine tk [0,1,2,3,4,5,6,7,8,9,10,11,12,13] ?_
      refine tR 14 fun K hK=>?_
      go_simp
      go_at_call 109
      refine cp (D1.out _ hHeld.2.2.2.2.1) ?_
      go_wp2_with fail
      refine hK.out _ _ hHeld (fun hHeld=>?_)
      clear hK K
      try simp only[Act.put,List.setIfInBounds_toArray,List.set_cons_zero,List.set_cons_succ]
      refine tk [15,16,17,18,19,20,21,22,23,24,25,26,27,28,29,30,31,32,33,34] ?_
      refine tD ?_
      clear hb p0 p1 p2 lx c0 hp0
      obtain ⟨hb,p0,p1,p2,lx,c0,hp0⟩:=hHeld
      replace lx:=hid lx
      go_wp2_with fail
      go_meet
      exact ⟨by rw[HZ.out],hb,p0,p1,p2,lx.out⟩
     ·have q1:=less_self t
      have HZ:Hid (bad=true):=hid (by rw[HY2.out,decide_eq_false (by rw[hw];exact linT.irr t)];rfl)
      have q3:(pv == t)=true:=by simp[hw]
      have q4:(t == pv)=true:=by simp[hw]
      have q5:Op.bytesLess pv t=false:=by rw[hw];exact q1
      have q6:Op.bytesLess t pv=false:=by rw[hw];exact q1
      clear hw
      go_wp2_with fail
      refine rgd (fun w'=>Below w.heap.size w w'∧w'.cell? ⟨bp,0,none⟩=some (.slice x.aa x.a.length x.ac)∧w'.cell? ⟨bp,1,none⟩=some (.slice x.ea x.e.length x.ec)∧w'.cell? ⟨bp,2,none⟩=some (.slice (some ⟨b,o,none⟩) x.p.length x.pc)∧InnerS w' x∧w'.cell? ⟨b,o+i,none⟩=some ↑t∧w'.cell? ⟨b,o+k',none⟩=some ↑pv) ⟨hb,p0,p1,p2,lx.out,c0,hp0⟩ fun hHeld=>?_
      refine tk [0,1,2,3,4,5,6,7,8,9,10,11,12,13] ?_
      refine tR 14 fun K hK=>?_
      go_simp
      go_at_call 109
      refine cp (D1.out _ hHeld.2.2.2.2.1) ?_
      go_wp2_with fail
      refine hK.out _ _ hHeld (fun hHeld=>?_)
      clear hK K
      try simp only[Act.put,List.setIfInBounds_toArray,List.set_cons_zero,List.set_cons_succ]
      refine tk [15,16,17,18,19,20,21,22,23,24,25,26,27,28,29,30,31,32,33,34] ?_
      refine tD ?_
      clear hb p0 p1 p2 lx c0 hp0
      obtain ⟨hb,p0,p1,p2,lx,c0,hp0⟩:=hHeld
      replace lx:=hid lx
      go_wp2_with fail
      go_meet
      exact ⟨by rw[HZ.out],hb,p0,p1,p2,lx.out⟩
     ·obtain ⟨q1,q2,q3,q4⟩:=ways_less hw
      have HZ:Hid (bad=true):=hid (by rw[HY2.out,decide_eq_false (fun h=>linT.irr _ (linT.trans hw h))];rfl)
      clear hw
      go_wp2_with fail
      refine rgd (fun w'=>Below w.heap.size w w'∧w'.cell? ⟨bp,0,none⟩=some (.slice x.aa x.a.length x.ac)∧w'.cell? ⟨bp,1,none⟩=some (.slice x.ea x.e.length x.ec)∧w'.cell? ⟨bp,2,none⟩=some (.slice (some ⟨b,o,none⟩) x.p.length x.pc)∧InnerS w' x∧w'.cell? ⟨b,o+i,none⟩=some ↑t∧w'.cell? ⟨b,o+k',none⟩=some ↑pv) ⟨hb,p0,p1,p2,lx.out,c0,hp0⟩ fun hHeld=>?_
      refine tk [0,1,2,3,4,5,6,7,8,9,10,11,12,13] ?_
      refine tR 14 fun K hK=>?_
      go_simp
      go_at_call 109
      refine cp (D1.out _ hHeld.2.2.2.2.1) ?_
      go_wp2_with fail
      refine hK.out _ _ hHeld (fun hHeld=>?_)
      clear hK K
      try simp only[Act.put,List.setIfInBounds_toArray,List.set_cons_zero,List.set_cons_succ]
      refine tk [15,16,17,18,19,20,21,22,23,24,25,26,27,28,29,30,31,32,33,34] ?_
      refine tD ?_
      clear hb p0 p1 p2 lx c0 hp0
      obtain ⟨hb,p0,p1,p2,lx,c0,hp0⟩:=hHeld
      replace lx:=hid lx
      go_wp2_with fail
      go_meet
      exact ⟨by rw[HZ.out],hb,p0,p1,p2,lx.out⟩
    clear hb c0 p0 p1 p2 lx
    obtain ⟨rfl,hb,p0,p1,p2,lx⟩:=hcut
    replace lx:=hid lx
    cases bad
    rotate_left
    ·have HV2:Hid (mayS x.s=false):=hid (by rw[HST.out];rfl)
     clear HST HBD
     go_wp2
     go_ret
     exact ⟨by rw[HV2.out];rfl,hb⟩
    have HV2:Hid (mayS x.s=mayPr x.a (pW x.p (i+1)) (x.p.drop (i+1))):=hid (by rw[HST.out];rfl)
    clear HST HBD
    go_wp2
    go_roundw
    case rel=>exact ⟨i+1,by have:=HI.out;omega,by go_num,HV2,hb,p0,p1,p2,lx⟩
    case measure=>simp[intOf];have:=HI.out;omega
end RefMay
set_option maxRecDepth 100000
set_option maxHeartbeats 40000000
namespace RefWrite
open RowKit YtnpjkmomllkhpaaGreatDoor.Mark Num Wire Bag Dots Coder RefMay
theorem kd_of_may {e:E} (h:mayE e=true):kd e.k≠0:=by
 unfold mayE at h
 simp only[Bool.and_eq_true] at h
 obtain ⟨_,_,h⟩:=h
 unfold kinds at h
 by_cases k1:kd e.k=1
 · omega
 by_cases k2:kd e.k=2
 · omega
 by_cases k3:kd e.k=3
 · omega
 rw[if_neg k1,if_neg k2,if_neg k3] at h
 cases h
theorem keyed_of {x:RS} (of:SFit x) (h:mayS x.s=true):Keyed x:=fun y hy=>⟨of.key y hy,by
 unfold mayS at h
 simp only[Bool.and_eq_true] at h
 exact kd_of_may (es_of_may h.2.1 y.e (List.mem_map_of_mem hy))⟩
theorem refturn_any (a:Int) (w:World) (h1 : -9223372036854775808≤a) (h2:a≤9223372036854775807) :
  CP 64 #[.int .i64 a] w (.int .u64 (turn a)):=by
 by_cases h:0≤a
 ·have d1:decide (a≥0)=true:=decide_eq_true h
  have d2:decide (0≤a)=true:=decide_eq_true h
  have e1:IntKind.u64.wrap a=a:=by rw[IntKind.wrap_u64];omega
  have e2:IntKind.u64.wrap (2*a)=turn a:=by unfold turn;rw[IntKind.wrap_u64];omega
  go_enter Tryz.func64,Tryz.ntmps64
  go_wp2
  go_ret
  exact ⟨rfl,rfl⟩
 ·have d1:decide (a≥0)=false:=decide_eq_false h
  have d2:decide (0≤a)=false:=decide_eq_false h
  have e0:IntKind.i64.wrap (a+1)=a+1:=by rw[IntKind.wrap_i64];omega
  have e1:IntKind.i64.wrap (-(a+1)) = -(a+1):=by rw[IntKind.wrap_i64];omega
  have e2:IntKind.u64.wrap (-(a+1)) = -(a+1):=by rw[IntKind.wrap_u64];omega
  have e3:IntKind.u64.wrap (2 * -(a+1))=2 * -(a+1):=by rw[IntKind.wrap_u64];omega
  have e4:IntKind.u64.wrap (2 * -(a+1)+1)=turn a:=by unfold turn;rw[IntKind.wrap_u64];omega
  go_enter Tryz.func64,Tryz.ntmps64
  go_wp2
  go_ret
  exact ⟨rfl,rfl⟩
theorem refEntry (x:RE) (w:World) (hx:InnerE w x) (ox:x.Ok) (hky:x.k.length≤65536) (hf:(x.j.flatMap RI.d).length≤549755813888) (hs:(fE x).length≤70368744177664) :
  CB 10 #[.agg x] w (.tuple #[(outS (mayE x.e) (fE x)),.int .i64 (outE (mayE x.e))]):=by
 have lx:=hid hx
 have OX:=hid ox
 clear hx ox
 obtain ⟨q,hq⟩:=nm (mayE x.e)
 obtain ⟨l,hl⟩:=nm (fE x)
 rw[← hq,← hl]
 have C0:=hid (fun W (h:InnerE W x)=>qB hq (RefMay.mayE_any x W h OX.out hky hf))
 have C1:=hid (fun W (h:InnerE W x) (hq2:q=true)=>(by have hy:=hq.symm.trans hq2;rw[hl];exact raw_any x W h OX.out hky (kd_of_may hy) hs:CB 40 #[.agg x] W l))
 clear hq hl hky hf hs
 go_enter Tryz.func10,Tryz.ntmps10
 go_upto_region 1 with (fail)
 have hb0:=balloc (Below.refl w.heap.size w) (.cells x 29)
 obtain ⟨t0,t1,t2,t3,t4,t5,t6⟩:=al7 (bx w x 29)
 obtain ⟨w0,hw0⟩:=nm (w.alloc (.cells x 29))
 rw[← hw0] at hb0 t0 t1 t2 t3 t4 t5 t6 ⊢
 obtain ⟨bt,hbt⟩:=nm w.heap.size
 rw[← hbt] at t0 t1 t2 t3 t4 t5 t6 ⊢
 have hb:=hb0
 clear hb0 hw0 hbt
 replace lx:=hid (lx.out.below hb)
 go_wp2_with fail
 refine cr (C0.out _ lx.out) fun v1 k1=>?_
 have hA:=kp k1 (aj7 t0 t1 t2 t3 t4 t5 t6)
 clear t0 t1 t2 t3 t4 t5 t6
 obtain ⟨t0,t1,t2,t3,t4,t5,t6⟩:=hA
 replace lx:=hid ((lx.out).below k1)
 replace hb:=bstep hb k1
 clear k1
 cases q
 ·
  go_wp2
  go_ret2
  exact ⟨by rfl,hb⟩
 go_wp2_with fail
 refine cr (C1.out _ lx.out (by trivial)) fun v2 k2=>?_
 have hA:=kp k2 (aj7 t0 t1 t2 t3 t4 t5 t6)
 clear t0 t1 t2 t3 t4 t5 t6
 obtain ⟨t0,t1,t2,t3,t4,t5,t6⟩:=hA
 replace lx:=hid ((lx.out).below k2)
 replace hb:=bstep hb k2
 clear k2
 go_wp2
 go_ret2
 exact ⟨by rfl,hb⟩
theorem refState (x:RS) (w:World) (hx:InnerS w x) (ox:x.Ok) (of:SFit x) (hpb:(x.p.flatMap tx).length≤1099511627776) (hs:(fS x).length≤70368744177664) :
  CB 12 #[.agg x] w (.tuple #[(outS (mayS x.s) (fS x)),.int .i64 (outE (mayS x.s))]):=by
 have lx:=hid hx
 have OX:=hid ox
 clear hx ox
 obtain ⟨q,hq⟩:=nm (mayS x.s)
 obtain ⟨l,hl⟩:=nm (fS x)
 rw[← hq,← hl]
 have C0:=hid (fun W (h:InnerS W x)=>qB hq (RefMay.mayS_any x W h OX.out of))
 have C1:=hid (fun W (h:InnerS W x) (hq2:q=true)=>(by have hy:=hq.symm.trans hq2;rw[hl];exact state_any x W h OX.out (keyed_of of hy) hpb hs:CB 45 #[.agg x] W l))
 clear hq hl of hpb hs
 go_enter Tryz.func12,Tryz.ntmps12
 go_upto_region 1 with (fail)
 have hb0:=balloc (Below.refl w.heap.size w) (.cells x 33)
 obtain ⟨t0,t1,t2⟩:=al3 (bx w x 33)
 obtain ⟨w0,hw0⟩:=nm (w.alloc (.cells x 33))
 rw[← hw0] at hb0 t0 t1 t2 ⊢
 obtain ⟨bt,hbt⟩:=nm w.heap.size
 rw[← hbt] at t0 t1 t2 ⊢
 have hb:=hb0
 clear hb0 hw0 hbt
 replace lx:=hid (lx.out.below hb)
 go_wp2_with fail
 refine cr (C0.out _ lx.out) fun v3 k3=>?_
 have hA:=kp k3 (aj3 t0 t1 t2)
 clear t0 t1 t2
 obtain ⟨t0,t1,t2⟩:=hA
 replace lx:=hid ((lx.out).below k3)
 replace hb:=bstep hb k3
 clear k3
 cases q
 ·
  go_wp2
  go_ret2
  exact ⟨by rfl,hb⟩
 go_wp2_with fail
 refine cr (C1.out _ lx.out (by trivial)) fun v4 k4=>?_
 have hA:=kp k4 (aj3 t0 t1 t2)
 clear t0 t1 t2
 obtain ⟨t0,t1,t2⟩:=hA
 replace lx:=hid ((lx.out).below k4)
 replace hb:=bstep hb k4
 clear k4
 go_wp2
 go_ret2
 exact ⟨by rfl,hb⟩
theorem refDelta (ba:Option Addr) (bc:Nat) (B:List M) (x:RS) (w:World) (hx:InnerD w ba B x) (ox:DOk B x) (of:SFit x) (hpb:(x.p.flatMap tx).length≤1099511627776) (hs:(fD B x).length≤70368744177664) :
  CB 14 #[.agg #[.slice ba B.length bc,.slice x.aa x.a.length x.ac,.slice x.ea x.e.length x.ec,.slice x.pa x.p.length x.pc]] w (.tuple #[(outS (mayD B x.s) (fD B x)),.int .i64 (outE (mayD B x.s))]):=by
 have lx:=hid hx
 have OX:=hid ox
 clear hx ox
 obtain ⟨q0,hq0⟩:=nm (mayL B)
 obtain ⟨q1,hq1⟩:=nm (mayS x.s)
 have HV:Hid (mayD B x.s=(q0 && q1)):=hid (by rw[hq0,hq1];rfl)
 obtain ⟨p0,hp0⟩:=nm (lst mk B)
 obtain ⟨p1,hp1⟩:=nm (fS x)
 have hfd:fD B x=p0++p1:=by rw[hp0,hp1];rfl
 rw[hfd,List.length_append] at hs
 have z0:=Str.size_mk p0
 have z1:=Str.size_mk p1
 obtain ⟨C1,hC1,lC1,aC1,zC1,nC1,mC1⟩:=apd p0 p1 (by omega)
 have HD:Hid (fD B x=C1):=hid (by rw[hfd,hC1])
 clear hfd
 replace hC1:=hid hC1
 replace lC1:=hid lC1
 have C0:=hid (fun W (h:InnerD W ba B x)=>qB hq0 (RefDots.may_any B ba B.length bc W h.1 (by have:=OX.out.b;omega) (ok_of OX.out.bm)))
 have CS:=hid (fun W (h:InnerD W ba B x)=>qB hq1 (RefMay.mayS_any x W h.2 OX.out.ok of))
 have C2:=hid (fun W (h:InnerD W ba B x)=>qS hp0 (marks_any ba bc B W h.1 OX.out.b OX.out.bm (by rw[← hp0];omega)))
 have C3:=hid (fun W (h:InnerD W ba B x) (h1:q1=true)=>qS hp1 (state_any x W h.2 OX.out.ok (keyed_of of (hq1.symm.trans h1)) hpb (by rw[← hp1];omega)))
 clear hq0 hq1 hp0 hp1 of hpb
 go_enter Tryz.func14,Tryz.ntmps14
 go_upto_region 1 with (fail)
 have hb0:=balloc (Below.refl w.heap.size w) (.cells #[.slice ba B.length bc,.slice x.aa x.a.length x.ac,.slice x.ea x.e.length x.ec,.slice x.pa x.p.length x.pc] 35)
 obtain ⟨t0,t1,t2,t3⟩:=al4 (bx w [.slice ba B.length bc,.slice x.aa x.a.length x.ac,.slice x.ea x.e.length x.ec,.slice x.pa x.p.length x.pc] 35)
 obtain ⟨w0,hw0⟩:=nm (w.alloc (.cells #[.slice ba B.length bc,.slice x.aa x.a.length x.ac,.slice x.ea x.e.length x.ec,.slice x.pa x.p.length x.pc] 35))
 rw[← hw0] at hb0 t0 t1 t2 t3 ⊢
 obtain ⟨bt,hbt⟩:=nm w.heap.size
 rw[← hbt] at t0 t1 t2 t3 ⊢
 have hb:=hb0
 clear hb0 hw0 hbt
 replace lx:=hid (lx.out.below hb)
 go_wp2_with fail
 refine cr (C0.out _ lx.out) fun v5 k5=>?_
 have hA:=kp k5 (aj4 t0 t1 t2 t3)
 clear t0 t1 t2 t3
 obtain ⟨t0,t1,t2,t3⟩:=hA
 replace lx:=hid ((lx.out).below k5)
 replace hb:=bstep hb k5
 clear k5
 cases q0
 ·have HV2:Hid (mayD B x.s=false):=hid (by rw[HV.out];rfl)
  go_wp2
  go_ret2
  exact ⟨by rw[HV2.out];rfl,hb⟩
 go_wp2_with fail
 refine cr (CS.out _ lx.out) fun v6 k6=>?_
 have hA:=kp k6 (aj4 t0 t1 t2 t3)
 clear t0 t1 t2 t3
 obtain ⟨t0,t1,t2,t3⟩:=hA
 replace lx:=hid ((lx.out).below k6)
 replace hb:=bstep hb k6
 clear k6
 cases q1
 ·have HV2:Hid (mayD B x.s=false):=hid (by rw[HV.out];rfl)
  go_wp2
  go_ret2
  exact ⟨by rw[HV2.out];rfl,hb⟩
 have HV2:Hid (mayD B x.s=true):=hid (by rw[HV.out];rfl)
 clear HV
 go_upto_region 3 with (fail)
 refine rG (fun w'=>Below w.heap.size w w'∧w'.cell? ⟨bt,0,none⟩=some (.slice ba B.length bc)∧w'.cell? ⟨bt,1,none⟩=some (.slice x.aa x.a.length x.ac)∧w'.cell? ⟨bt,2,none⟩=some (.slice x.ea x.e.length x.ec)∧w'.cell? ⟨bt,3,none⟩=some (.slice x.pa x.p.length x.pc)∧InnerD w' ba B x) ⟨hb,t0,t1,t2,t3,lx.out⟩ fun wd hHeld=>?_
 refine tk [0,1,3,4] ?_
 refine tR 2 fun K hK=>?_
 go_simp
 go_at_call 50
 refine cr (C2.out _ hHeld.2.2.2.2.2) fun v7 k7=>?_
 go_wp2_with fail
 refine tH hK hHeld k7 fun hHeld=>?_
 clear hK K k7
 refine tR 5 fun K hK=>?_
 go_simp
 go_at_call 45
 refine cr (C3.out _ hHeld.2.2.2.2.2 (by trivial)) fun v8 k8=>?_
 go_wp2_with fail
 refine tH hK hHeld k8 fun hHeld=>?_
 clear hK K k8
 refine tk [6,7,8] ?_
 refine tD ?_
 clear hb t0 t1 t2 t3 lx
 obtain ⟨hb,t0,t1,t2,t3,lx⟩:=hHeld
 replace lx:=hid lx
 go_wp2
 go_ret2
 exact ⟨by rw[HV2.out,HD.out];rfl,hb⟩
theorem refOp (x:O) (w:World) (ox:x.Ok) (hky:x.k.length≤65536) :
  CB 18 #[.agg x] w (.tuple #[(outS (mayO x) (opb x)),.int .i64 (outE (mayO x))]):=by
 have ok1:=ox.d
 have ok2:=ox.k
 have ok3:=ox.t
 have OX:=hid ox
 have tb:=turn_bound x.n ox.n.1 ox.n.2
 clear ox
 have w8:IntKind.u64.wrap (x.d:Int)=(x.d:Int):=by rw[IntKind.wrap_u64];omega
 have zt:=Str.size_mk x.t
 obtain ⟨q,hq⟩:=nm ((turn x.n).toNat)
 have hq2:turn x.n=(q:Int):=by omega
 have hq3:q≤18446744073709551615:=by omega
 have TU:=hid (fun W=>(by rw[← hq2];exact refturn_any x.n W OX.out.n.1 OX.out.n.2:CP 64 #[.int .i64 x.n] W (.int .u64 (q:Nat))))
 obtain ⟨k,hk⟩:=nm (kd x.k)
 have hk3:k≤3:=by rw[hk];exact kd_le _
 have KD:=hid (fun W=>(by rw[hk];exact RefMay.refkind x.k W hky:CB 61 #[x.k] W (.int .u8 (k:Nat))))
 have HM:Hid (mayO x=(decide (1≤x.d) && (decide (x.d≤5) && (!decide (k=0) && decide (x.t.length≤4096))))):=hid (by rw[hk];rfl)
 clear hk hky
 obtain ⟨p0,hp0⟩:=nm (upL x.d)
 obtain ⟨p1,hp1⟩:=nm (tx x.k)
 obtain ⟨p2,hp2⟩:=nm (upL q)
 obtain ⟨p3,hp3⟩:=nm (tx x.t)
 have b0:p0.length≤1048586:=by rw[hp0];have:=up_len x.d;omega
 have b1:p1.length≤1048586:=by rw[hp1];have:=tx_len x.k;omega
 have b2:p2.length≤1048586:=by rw[hp2];have:=up_len q;omega
 have b3:p3.length≤1048586:=by rw[hp3];have:=tx_len x.t;omega
 have R0:Hid (cat [x.d]=p0):=hid (by rw[hp0];simp[cat])
 have R1:Hid ([x.k].flatMap tx=p1):=hid (by rw[hp1];simp)
 have R2:Hid (cat [q]=p2):=hid (by rw[hp2];simp[cat])
 have R3:Hid ([x.t].flatMap tx=p3):=hid (by rw[hp3];simp)
 have z0:=Str.size_mk p0
 have z1:=Str.size_mk p1
 have z2:=Str.size_mk p2
 have z3:=Str.size_mk p3
 obtain ⟨C1,hC1,lC1,aC1,zC1,nC1,mC1⟩:=apd p0 p1 (by omega)
 obtain ⟨C2,hC2,lC2,aC2,zC2,nC2,mC2⟩:=apd C1 p2 (by omega)
 obtain ⟨C3,hC3,lC3,aC3,zC3,nC3,mC3⟩:=apd C2 p3 (by omega)
 have HV:Hid (opb x=C3):=hid (by rw[hC3,hC2,hC1,hp0,hp1,hp2,hp3,hq];rfl)
 replace hC1:=hid hC1
 replace lC1:=hid lC1
 replace hC2:=hid hC2
 replace lC2:=hid lC2
 replace hC3:=hid hC3
 replace lC3:=hid lC3
 clear hp0 hp1 hp2 hp3 hq hq2 tb
 go_enter Tryz.func18,Tryz.ntmps18
 go_upto_region 1 with (fail)
 have hb0:=balloc (Below.refl w.heap.size w) (.cells x 38)
 obtain ⟨t0,t1,t2,t3⟩:=al4 (bx w x 38)
 obtain ⟨w0,hw0⟩:=nm (w.alloc (.cells x 38))
 rw[← hw0] at hb0 t0 t1 t2 t3 ⊢
 obtain ⟨bt,hbt⟩:=nm w.heap.size
 rw[← hbt] at t0 t1 t2 t3 ⊢
 have hb:=hb0
 clear hb0 hw0 hbt
 by_cases h1:1≤x.d
 rotate_left
 ·have d1:decide ((x.d:Int)<1)=true:=dT
  have HV2:Hid (mayO x=false):=hid (by rw[HM.out];rw[decide_eq_false h1];rfl)
  clear HM
  go_wp2
  go_ret2
  exact ⟨by rw[HV2.out];rfl,hb⟩
 have d1:decide ((x.d:Int)<1)=false:=dF
 by_cases h2:x.d≤5
 rotate_left
 ·have d2:decide ((x.d:Int) > 5)=true:=dT
  have d3:decide (5<(x.d:Int))=true:=dT
  have HV2:Hid (mayO x=false):=hid (by rw[HM.out];rw[decide_eq_false h2];simp)
  clear HM
  go_wp2
  go_ret2
  exact ⟨by rw[HV2.out];rfl,hb⟩
 have d2:decide ((x.d:Int) > 5)=false:=dF
 have d3:decide (5<(x.d:Int))=false:=dF
 go_wp2_with fail
 refine cr (KD.out _) fun v9 k9=>?_
 have hA:=kp k9 (aj4 t0 t1 t2 t3)
 clear t0 t1 t2 t3
 obtain ⟨t0,t1,t2,t3⟩:=hA
 replace hb:=bstep hb k9
 clear k9 KD
 by_cases h3:k=0
 ·have d4:((k:Int) == 0)=true:=bT
  have HV2:Hid (mayO x=false):=hid (by rw[HM.out];rw[decide_eq_true h3];simp)
  clear HM
  go_wp2
  go_ret2
  exact ⟨by rw[HV2.out];rfl,hb⟩
 have d4:((k:Int) == 0)=false:=bF
 by_cases h4:x.t.length≤4096
 rotate_left
 ·have d5:decide ((x.t.length:Int) > 4096)=true:=dT
  have d6:decide (4096<(x.t.length:Int))=true:=dT
  have HV2:Hid (mayO x=false):=hid (by rw[HM.out];rw[decide_eq_false h4];simp)
  clear HM
  go_wp2
  go_ret2
  exact ⟨by rw[HV2.out];rfl,hb⟩
 have d5:decide ((x.t.length:Int) > 4096)=false:=dF
 have d6:decide (4096<(x.t.length:Int))=false:=dF
 have HV2:Hid (mayO x=true):=hid (by rw[HM.out,decide_eq_true h1,decide_eq_true h2,decide_eq_false h3,decide_eq_true h4];rfl)
 clear HM
 go_upto_region 3 with (fail)
 refine rh (aj5 hb t0 t1 t2 t3) fun wd hHeld=>?_
 refine tk [0,1,2,5,6,10,11,16,17] ?_
 refine Rk.go (fun d=>match d with | 27=>.nat [x.d] 1 | 28=>.str p0 | 31=>.txt [x.k] 1 | 32=>.str p1 | 33=>.str C1 | 36=>.val (.int .u64 (q:Int)) | 37=>.nat [q] 1 | 38=>.str p2 | 39=>.str C2 | 42=>.txt [x.t] 1 | 43=>.str p3 | 44=>.str C3 | 2=>.str C3 | 3=>.val (.int .i64 0) | _=>.any) [27,28,31,32,33,36,37,38,39,42,43,44,2,3] [3,4,7,8,9,12,13,14,15,18,19,20,21,22] hHeld ?_ (fun f wz hHeld hR=>?_)
 ·
  refine rlN ?_
  refine rrN 27 R0 ?_
  refine rlT ?_
  refine rrT 31 R1 ?_
  refine rcc 28 32 ?_
  refine Rely.st [32] (fun f wz hHeld hD K hK=>?_) ?_
  ·
   go_simp
   go_at_call 64
   refine cp (TU.out _) ?_
   go_wp2_with fail
   refine hK.out _ _ _ (by first | rfl | rfl) rfl hHeld (Below.refl _ _)
  refine Rely.Steps.cons [36] (fun f wz hHeld hD K hK=>?_) ?_
  ·
   have f36:f 36=.int .u64 (q:Int):=hD 36 (by simp)
   simp only[Rely.fillA,Rely.fill,Act.put,List.setIfInBounds_toArray,List.set_cons_zero,List.set_cons_succ] at hK ⊢
   go_simp
   refine Rely.rA hK hHeld ⟨wz.heap.size,rfl,nats_here [q] (by intro y hy;simp at hy;omega) rfl 1 rfl (Below.refl 0 _)⟩ (by first | rfl | rw[f36])
  refine rrN 37 R2 ?_
  refine rcc 33 38 ?_
  refine rlT ?_
  refine rrT 42 R3 ?_
  refine rcc 39 43 ?_
  refine rcR 44 ?_
  refine Rely.st [2,27,28,31,32,33,36,37,38,39,42,43,44] (fun f wz hHeld hD K hK=>?_) ?_
  ·
   go_simp
   refine hK.out _ _ _ (by first | rfl | rfl) rfl hHeld (Below.refl _ _)
  exact Rely.Steps.nil
 have f33:=Rk.e hR 33 9
 have f36:f 36=.int .u64 (q:Int):=hR 36 (by simp) ⟨12,_,by simp only[List.getElem?_toArray,List.getElem?_cons_succ,List.getElem?_cons_zero];rfl,by kernel_rfl,rfl⟩
 have f2:=Rk.e hR 2 21
 have f3:f 3=.int .i64 0:=hR 3 (by simp) ⟨22,_,by simp only[List.getElem?_toArray,List.getElem?_cons_succ,List.getElem?_cons_zero];rfl,by kernel_rfl,rfl⟩
 simp only[Rely.fillA,Rely.fill,List.setIfInBounds_toArray,List.set_cons_zero,List.set_cons_succ,f33,f36,f2,f3]
 refine NoPanic.normal ?_
 clear hb t0 t1 t2 t3 hR f33 f36 f2 f3
 obtain ⟨hb,t0,t1,t2,t3⟩:=hHeld
 go_wp2
 go_ret2
 exact ⟨by rw[HV2.out,HV.out];rfl,hb⟩
end RefWrite
end Go.Proofs.YtnpjkmomllkhpaaGreatDoor
