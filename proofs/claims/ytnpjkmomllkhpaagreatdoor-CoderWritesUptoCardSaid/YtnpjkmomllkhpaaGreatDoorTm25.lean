/- CoderSMay, CoderGive, CoderSameE, CoderAlive, CoderSameS, CoderGiveS, RefMayC. -/
import Derived.Test.YtnpjkmomllkhpaaGreatDoorTm24
set_option linter.unusedVariables false
set_option linter.unusedSimpArgs false
namespace Go.Proofs.YtnpjkmomllkhpaaGreatDoor
set_option maxRecDepth 100000
set_option maxHeartbeats 40000000
namespace Coder
open RowKit YtnpjkmomllkhpaaGreatDoor.Mark Num Wire Bag Dots
theorem cov_any (L K:List M) (a1 a2:Option Addr) (n1 n2 c1 c2:Nat) (w:World) (hL:Mark.Lies w a1 n1 L) (hK:Mark.Lies w a2 n2 K) (hn1:n1≤1099511627776) (hn2:n2≤1099511627776) :
  CB 112 #[.slice a1 n1 c1,.slice a2 n2 c2] w (covB L K) :=
 (covers_any L K a1 a2 n1 n2 c1 c2 w hL hK hn1 hn2).mono fun e w' ⟨r',he,hr,hb⟩=>⟨by rw[he];congr 2;rw[Bool.eq_iff_iff,hr,cov_iff],hb⟩
def pE (L:List RE) (k:Nat):Option (List UInt8):=if k=0 then none else (L[k - 1]?).map RE.k
theorem pE_next {L:List RE} {k:Nat} (h:k<L.length):pE L (k+1)=some L[k].k:=by
 unfold pE
 rw[if_neg (by omega),Nat.add_sub_cancel,List.getElem?_eq_getElem h]
 rfl
def mayRs (s:List M):Option (List UInt8)→List RE→Bool
 | _,[]=>true
 | o,e::l=>(mayE e.e && (!befT o e.k && covB s e.s)) && mayRs s (some e.k) l
theorem mayRs_is (s:List M):∀ (o:Option (List UInt8)) (L:List RE),mayEs s o (L.map RE.e)=mayRs s o L
 | _,[]=>rfl
 | o,e::l=>by
  show ((mayE e.e && (!befT o e.k && covB s e.s)) && mayEs s (some e.k) (l.map RE.e))=((mayE e.e && (!befT o e.k && covB s e.s)) && mayRs s (some e.k) l)
  rw[mayRs_is s (some e.k) l]
theorem mayRs_step (s:List M) {L:List RE} {k:Nat} (h:k<L.length):mayRs s (pE L k) (L.drop k)=((mayE L[k].e && (!befT (pE L k) L[k].k && covB s L[k].s)) && mayRs s (pE L (k+1)) (L.drop (k+1))):=by
 rw[List.drop_eq_getElem_cons h,pE_next h];rfl
def pW (L:List (List UInt8)) (k:Nat):Option (List UInt8):=if k=0 then none else L[k - 1]?
theorem pW_next {L:List (List UInt8)} {k:Nat} (h:k<L.length):pW L (k+1)=some L[k]:=by
 unfold pW
 rw[if_neg (by omega),Nat.add_sub_cancel,List.getElem?_eq_getElem h]
theorem mayPr_step (s:List M) {L:List (List UInt8)} {k:Nat} (h:k<L.length):mayPr s (pW L k) (L.drop k)=((!decide (L[k]=[]) && (!befT (pW L k) L[k] && decide (ofL s L[k]=0))) && mayPr s (pW L (k+1)) (L.drop (k+1))):=by
 rw[List.drop_eq_getElem_cons h,pW_next h];rfl
def RS.Fine (x:RS):Prop:=∀ y ∈ x.e,Bag.Fine (y.j.map RI.it)
theorem mayS_any (x:RS) (w:World) (hx:InnerS w x) (ox:x.Ok) (of:x.Fine) :
  CB 42 #[.agg x] w (mayS x.s):=by
 have lx:=hid hx
 have OX:=hid ox
 have OF:=hid of
 have hne:=ox.e
 have hnp:=ox.p
 clear hx ox of
 obtain ⟨q0,hq0⟩:=nm (mayL x.a)
 have HV:Hid (mayS x.s=(q0 && (mayRs x.a none x.e && mayPr x.a none x.p))):=hid (by rw[hq0,← mayRs_is];rfl)
 have C0:=hid (fun W (hx:InnerS W x)=>qB hq0 (Dots.may_any x.a x.aa x.a.length x.ac W hx.a (by have:=OX.out.a;omega) (ok_of OX.out.am)))
 clear hq0
 go_enter Tryz.func42,Tryz.ntmps42
 go_upto_region 1 with (fail)
 have hb0:=balloc (Below.refl w.heap.size w) (.cells x 33)
 obtain ⟨p0,p1,p2⟩:=al3 (bx w x 33)
 obtain ⟨w0,hw0⟩:=nm (w.alloc (.cells x 33))
 rw[← hw0] at hb0 p0 p1 p2 ⊢
 obtain ⟨bp,hbp⟩:=nm w.heap.size
 rw[← hbp] at p0 p1 p2 ⊢
 have hb:=hb0
 clear hb0 hw0 hbp
 replace lx:=hid (lx.out.below hb)
 go_wp2_with fail
 refine cr (C0.out _ lx.out) fun v1 k1=>?_
 have hA:=kp k1 (aj3 p0 p1 p2)
 clear p0 p1 p2
 obtain ⟨p0,p1,p2⟩:=hA
 replace lx:=hid ((lx.out).below k1)
 replace hb:=bstep hb k1
 clear k1 C0
 cases q0
 ·have HV2:Hid (mayS x.s=false):=hid (by rw[HV.out];rfl)
  go_wp2
  go_ret
  exact ⟨by rw[HV2.out];rfl,hb⟩
 obtain ⟨U,hU⟩:=nm (mayPr x.a none x.p)
 have HV0:Hid (mayS x.s=(mayRs x.a (pE x.e 0) (x.e.drop 0) && U)):=hid (by rw[HV.out,hU];rfl)
 have HU:=hid hU
 clear HV hU
 go_wp2_with fail
 go_loopw [14] (fun iv wr=>∃ i:Nat,i≤x.e.length∧iv=.int .i64 i∧Hid (mayS x.s=(mayRs x.a (pE x.e i) (x.e.drop i) && U))∧Below w.heap.size w wr∧(wr.cell? ⟨bp,0,none⟩=some (.slice x.aa x.a.length x.ac))∧(wr.cell? ⟨bp,1,none⟩=some (.slice x.ea x.e.length x.ec))∧(wr.cell? ⟨bp,2,none⟩=some (.slice x.pa x.p.length x.pc))∧Hid (InnerS wr x)) (fun iv _=>x.e.length - (intOf iv).toNat)
 case atStart=>exact ⟨0,by omega,rfl,HV0,hb,p0,p1,p2,lx⟩
 case round =>
  clear HV0 hb p0 p1 p2 lx
  obtain ⟨i,hi,rfl,HM,hb,p0,p1,p2,lx⟩:=hrel
  by_cases hlt:i<x.e.length
  ·
   have d1:decide ((i:Int)<(x.e.length:Int))=true:=dT
   have j1:(0:Int)≤(i:Int):=by omega
   have j2:(i:Int)<(x.e.length:Int):=by omega
   obtain ⟨b,o,hea,hc⟩:=lx.out.e.1.2 (by omega)
   rw[hea]
   rw[hea] at p1
   obtain ⟨c0,c1,c2,c3,c4,c5,c6⟩:=cl7 (o+i*7) (hc i hlt)
   have hst:=mayRs_step x.a hlt
   have HPV:Hid (∀ k',i=k'+1→∃ pv,pE x.e i=some pv∧wr.cell? ⟨b,o+k'*7,none⟩=some ↑pv):=hid (fun k' hk=>by
    subst hk
    have hkl:k'<x.e.length:=by omega
    exact ⟨(x.e[k']).k,pE_next hkl,hc k' hkl 0 _ rfl⟩)
   have ly:Hid (InnerE wr (x.e[i])):=hid (lx.out.e.2 _ (List.getElem_mem hlt))
   have OY:=hid (OX.out.em _ (List.getElem_mem hlt))
   have FY:=hid (OF.out _ (List.getElem_mem hlt))
   obtain ⟨y,hy⟩:=nm x.e[i]
   rw[← hy] at hst ly OY FY c0 c1 c2 c3 c4 c5 c6
   obtain ⟨q1,hq1⟩:=nm (mayE y.e)
   obtain ⟨r,hr⟩:=nm (covB x.a y.s)
   have D0:=hid (fun W (h:InnerE W y)=>qB hq1 (mayE_any y W h OY.out.1 FY.out))
   have D1:=hid (fun W (h:InnerS W x) (h2:InnerE W y)=>qB hr (cov_any x.a y.s x.aa y.sa x.a.length y.s.length x.ac y.sc W h.a h2.s (by have:=OX.out.a;omega) (by have:=OY.out.1.s;omega)))
   rw[← hq1,← hr] at hst
   obtain ⟨o',ho'⟩:=nm (pE x.e i)
   rw[← ho'] at hst
   have HO':=hid ho'
   obtain ⟨bad,hbad⟩:=nm (!(q1 && (!befT o' y.k && r)))
   have HBD:=hid hbad
   have HST:Hid (mayS x.s=((!bad && mayRs x.a (pE x.e (i+1)) (x.e.drop (i+1))) && U)):=hid (by rw[HM.out,← ho',hst,hbad,Bool.not_not])
   have HEA:=hid hea
   have HI:=hid hlt
   clear hc hy hst hlt HM hq1 hr OY FY ho' hbad hea
   go_upto_region 6 with (fail)
   have kS:=balloc (Below.refl wr.heap.size wr) (.cells y 29)
   obtain ⟨s0,s1,s2,s3,s4,s5,s6⟩:=al7 (bx wr y 29)
   obtain ⟨sb,hsb⟩:=nm wr.heap.size
   obtain ⟨ws,hws⟩:=nm (wr.alloc (.cells y 29))
   rw[← hws] at kS s0 s1 s2 s3 s4 s5 s6 ⊢
   rw[← hsb] at s0 s1 s2 s3 s4 s5 s6 ⊢
   replace HPV:Hid (∀ k',i=k'+1→∃ pv,pE x.e i=some pv∧ws.cell? ⟨b,o+k'*7,none⟩=some ↑pv):=hid (fun k' hk=>by
    obtain ⟨pv,h1,h2⟩:=HPV.out k' hk
    exact ⟨pv,h1,Coder.keepC h2 kS⟩)
   replace p0:=(Coder.keepC p0 kS)
   replace p1:=(Coder.keepC p1 kS)
   replace p2:=(Coder.keepC p2 kS)
   replace lx:=hid ((lx.out).below kS)
   replace ly:=hid ((ly.out).below kS)
   replace hb:=bstep hb kS
   clear kS hsb hws c0 c1 c2 c3 c4 c5 c6
   go_cut [45] (fun zv wx=>zv=.bool bad∧Below w.heap.size w wx∧wx.cell? ⟨bp,0,none⟩=some (.slice x.aa x.a.length x.ac)∧wx.cell? ⟨bp,1,none⟩=some (.slice (some ⟨b,o,none⟩) x.e.length x.ec)∧wx.cell? ⟨bp,2,none⟩=some (.slice x.pa x.p.length x.pc)∧InnerS wx x)
   case first =>
    cases q1
    ·have HZ:Hid (bad=true):=hid (by rw[HBD.out];rfl)
     clear HPV HBD
     go_wp2_with fail
     refine rgd (fun w'=>Below w.heap.size w w'∧w'.cell? ⟨bp,0,none⟩=some (.slice x.aa x.a.length x.ac)∧w'.cell? ⟨bp,1,none⟩=some (.slice (some ⟨b,o,none⟩) x.e.length x.ec)∧w'.cell? ⟨bp,2,none⟩=some (.slice x.pa x.p.length x.pc)∧InnerS w' x∧InnerE w' y∧w'.cell? ⟨sb,0,none⟩=some ↑y.k∧w'.cell? ⟨sb,1,none⟩=some (.slice y.sa y.s.length y.sc)∧w'.cell? ⟨sb,2,none⟩=some (.slice y.ca y.c.length y.cc)∧w'.cell? ⟨sb,3,none⟩=some (.slice y.ia y.j.length y.ic)∧w'.cell? ⟨sb,4,none⟩=some ↑y.l.s∧w'.cell? ⟨sb,5,none⟩=some ↑y.l.t∧w'.cell? ⟨sb,6,none⟩=some ↑y.l.g) ⟨hb,p0,p1,p2,lx.out,ly.out,s0,s1,s2,s3,s4,s5,s6⟩ fun hHeld=>?_
     refine tk [0] ?_
     refine tR 1 fun K hK=>?_
     go_simp
     go_at_call 37
     refine cr (D0.out _ hHeld.2.2.2.2.2.1) fun v2 k2=>?_
     go_wp2_with fail
     refine tH hK hHeld k2 fun hHeld=>?_
     clear hK K k2
     refine tk [2,3,4,5,6,7,8,9,10,11,12,13,14,15,16,17,18,19,20,21,22,23,24,25,26] ?_
     refine tD ?_
     clear hb p0 p1 p2 lx ly s0 s1 s2 s3 s4 s5 s6
     obtain ⟨hb,p0,p1,p2,lx,ly,s0,s1,s2,s3,s4,s5,s6⟩:=hHeld
     replace lx:=hid lx
     replace ly:=hid ly
     go_wp2_with fail
     go_meet
     exact ⟨by rw[HZ.out],hb,p0,p1,p2,lx.out⟩
    have HY:Hid (bad = !(!befT o' y.k && r)):=hid (by rw[HBD.out];rfl)
    clear HBD
    by_cases hi0:i=0
    ·have z1:decide ((0:Int)<(i:Int))=false:=dF
     have z1n:decide (0<i)=false:=dF
     have HZ:Hid (bad = !r):=hid (by rw[HY.out,HO'.out,hi0];rfl)
     clear hi0 HPV HY
     go_wp2_with fail
     refine rgd (fun w'=>Below w.heap.size w w'∧w'.cell? ⟨bp,0,none⟩=some (.slice x.aa x.a.length x.ac)∧w'.cell? ⟨bp,1,none⟩=some (.slice (some ⟨b,o,none⟩) x.e.length x.ec)∧w'.cell? ⟨bp,2,none⟩=some (.slice x.pa x.p.length x.pc)∧InnerS w' x∧InnerE w' y∧w'.cell? ⟨sb,0,none⟩=some ↑y.k∧w'.cell? ⟨sb,1,none⟩=some (.slice y.sa y.s.length y.sc)∧w'.cell? ⟨sb,2,none⟩=some (.slice y.ca y.c.length y.cc)∧w'.cell? ⟨sb,3,none⟩=some (.slice y.ia y.j.length y.ic)∧w'.cell? ⟨sb,4,none⟩=some ↑y.l.s∧w'.cell? ⟨sb,5,none⟩=some ↑y.l.t∧w'.cell? ⟨sb,6,none⟩=some ↑y.l.g) ⟨hb,p0,p1,p2,lx.out,ly.out,s0,s1,s2,s3,s4,s5,s6⟩ fun hHeld=>?_
     refine tk [0] ?_
     refine tR 1 fun K hK=>?_
     go_simp
     go_at_call 37
     refine cr (D0.out _ hHeld.2.2.2.2.2.1) fun v3 k3=>?_
     go_wp2_with fail
     refine tH hK hHeld k3 fun hHeld=>?_
     clear hK K k3
     refine tk [2,3,4,5,6,7,8,9,10,11,12,13,14,15,16,17,18,19,20,21,22,23] ?_
     refine tR 24 fun K hK=>?_
     go_simp
     go_at_call 112
     refine cr (D1.out _ hHeld.2.2.2.2.1 hHeld.2.2.2.2.2.1) fun v4 k4=>?_
     go_wp2_with fail
     refine tH hK hHeld k4 fun hHeld=>?_
     clear hK K k4
     refine tk [25,26] ?_
     refine tD ?_
     clear hb p0 p1 p2 lx ly s0 s1 s2 s3 s4 s5 s6
     obtain ⟨hb,p0,p1,p2,lx,ly,s0,s1,s2,s3,s4,s5,s6⟩:=hHeld
     replace lx:=hid lx
     replace ly:=hid ly
     go_wp2_with fail
     go_meet
     exact ⟨by rw[HZ.out],hb,p0,p1,p2,lx.out⟩
    obtain ⟨k',hk'⟩:∃ k',i=k'+1:=⟨i - 1,by omega⟩
    obtain ⟨pv,hpv,hp0⟩:=HPV.out k' hk'
    have z1:decide ((0:Int)<(i:Int))=true:=dT
    have z1n:decide (0<i)=true:=dT
    have w1:IntKind.i64.wrap ((i:Int) - 1)=(k':Int):=by rw[IntKind.wrap_i64];omega
    have j5:(0:Int)≤(k':Int):=by omega
    have j6:(k':Int)<(x.e.length:Int):=by omega
    have z2:o'=some pv:=HO'.out.trans hpv
    have HY2:Hid (bad = !(decide (TL pv y.k) && r)):=hid (by rw[HY.out,z2];show (!(!!(decide (TL pv y.k)) && r))=_;rw[Bool.not_not])
    have HK':=hid hk'
    clear z2 hi0 HPV hpv hk' HY
    obtain ⟨t,ht⟩:=nm y.k
    have HT:=hid ht
    rcases tl_ways pv y.k with hw | hw | hw
    ·obtain ⟨q1,q2,q3,q4⟩:=ways_less hw
     have HZ:Hid (bad = !r):=hid (by rw[HY2.out,decide_eq_true hw];rfl)
     clear hw ht
     go_wp2_with fail
     refine rgd (fun w'=>Below w.heap.size w w'∧w'.cell? ⟨bp,0,none⟩=some (.slice x.aa x.a.length x.ac)∧w'.cell? ⟨bp,1,none⟩=some (.slice (some ⟨b,o,none⟩) x.e.length x.ec)∧w'.cell? ⟨bp,2,none⟩=some (.slice x.pa x.p.length x.pc)∧InnerS w' x∧InnerE w' y∧w'.cell? ⟨sb,0,none⟩=some ↑y.k∧w'.cell? ⟨sb,1,none⟩=some (.slice y.sa y.s.length y.sc)∧w'.cell? ⟨sb,2,none⟩=some (.slice y.ca y.c.length y.cc)∧w'.cell? ⟨sb,3,none⟩=some (.slice y.ia y.j.length y.ic)∧w'.cell? ⟨sb,4,none⟩=some ↑y.l.s∧w'.cell? ⟨sb,5,none⟩=some ↑y.l.t∧w'.cell? ⟨sb,6,none⟩=some ↑y.l.g∧w'.cell? ⟨b,o+k'*7,none⟩=some ↑pv) ⟨hb,p0,p1,p2,lx.out,ly.out,s0,s1,s2,s3,s4,s5,s6,hp0⟩ fun hHeld=>?_
     refine tk [0] ?_
     refine tR 1 fun K hK=>?_
     go_simp
     go_at_call 37
     refine cr (D0.out _ hHeld.2.2.2.2.2.1) fun v5 k5=>?_
     go_wp2_with fail
     refine tH hK hHeld k5 fun hHeld=>?_
     clear hK K k5
     refine tk [2,3,4,5,6,7,8,9,10,11,12,13,14,15,16,17,18,19,20,21,22,23] ?_
     refine tR 24 fun K hK=>?_
     go_simp
     go_at_call 112
     refine cr (D1.out _ hHeld.2.2.2.2.1 hHeld.2.2.2.2.2.1) fun v6 k6=>?_
     go_wp2_with fail
     refine tH hK hHeld k6 fun hHeld=>?_
     clear hK K k6
     refine tk [25,26] ?_
     refine tD ?_
     clear hb p0 p1 p2 lx ly s0 s1 s2 s3 s4 s5 s6 hp0
     obtain ⟨hb,p0,p1,p2,lx,ly,s0,s1,s2,s3,s4,s5,s6,hp0⟩:=hHeld
     replace lx:=hid lx
     replace ly:=hid ly
     go_wp2_with fail
     go_meet
     exact ⟨by rw[HZ.out],hb,p0,p1,p2,lx.out⟩
    ·have q1:=less_self y.k
     have HZ:Hid (bad=true):=hid (by rw[HY2.out,decide_eq_false (by rw[hw];exact linT.irr y.k)];rfl)
     have q3:(pv == y.k)=true:=by simp[hw]
     have q4:(y.k == pv)=true:=by simp[hw]
     have q5:Op.bytesLess pv y.k=false:=by rw[hw];exact q1
     have q6:Op.bytesLess y.k pv=false:=by rw[hw];exact q1
     clear hw ht
     go_wp2_with fail
     refine rgd (fun w'=>Below w.heap.size w w'∧w'.cell? ⟨bp,0,none⟩=some (.slice x.aa x.a.length x.ac)∧w'.cell? ⟨bp,1,none⟩=some (.slice (some ⟨b,o,none⟩) x.e.length x.ec)∧w'.cell? ⟨bp,2,none⟩=some (.slice x.pa x.p.length x.pc)∧InnerS w' x∧InnerE w' y∧w'.cell? ⟨sb,0,none⟩=some ↑y.k∧w'.cell? ⟨sb,1,none⟩=some (.slice y.sa y.s.length y.sc)∧w'.cell? ⟨sb,2,none⟩=some (.slice y.ca y.c.length y.cc)∧w'.cell? ⟨sb,3,none⟩=some (.slice y.ia y.j.length y.ic)∧w'.cell? ⟨sb,4,none⟩=some ↑y.l.s∧w'.cell? ⟨sb,5,none⟩=some ↑y.l.t∧w'.cell? ⟨sb,6,none⟩=some ↑y.l.g∧w'.cell? ⟨b,o+k'*7,none⟩=some ↑pv) ⟨hb,p0,p1,p2,lx.out,ly.out,s0,s1,s2,s3,s4,s5,s6,hp0⟩ fun hHeld=>?_
     refine tk [0] ?_
     refine tR 1 fun K hK=>?_
     go_simp
     go_at_call 37
     refine cr (D0.out _ hHeld.2.2.2.2.2.1) fun v7 k7=>?_
     go_wp2_with fail
     refine tH hK hHeld k7 fun hHeld=>?_
     clear hK K k7
     refine tk [2,3,4,5,6,7,8,9,10,11,12,13,14,15,16,17,18,19,20,21,22,23,24,25,26] ?_
     refine tD ?_
     clear hb p0 p1 p2 lx ly s0 s1 s2 s3 s4 s5 s6 hp0
     obtain ⟨hb,p0,p1,p2,lx,ly,s0,s1,s2,s3,s4,s5,s6,hp0⟩:=hHeld
     replace lx:=hid lx
     replace ly:=hid ly
     go_wp2_with fail
     go_meet
     exact ⟨by rw[HZ.out],hb,p0,p1,p2,lx.out⟩
    ·obtain ⟨q1,q2,q3,q4⟩:=ways_less hw
     have HZ:Hid (bad=true):=hid (by rw[HY2.out,decide_eq_false (fun h=>linT.irr _ (linT.trans hw h))];rfl)
     clear hw ht
     go_wp2_with fail
     refine rgd (fun w'=>Below w.heap.size w w'∧w'.cell? ⟨bp,0,none⟩=some (.slice x.aa x.a.length x.ac)∧w'.cell? ⟨bp,1,none⟩=some (.slice (some ⟨b,o,none⟩) x.e.length x.ec)∧w'.cell? ⟨bp,2,none⟩=some (.slice x.pa x.p.length x.pc)∧InnerS w' x∧InnerE w' y∧w'.cell? ⟨sb,0,none⟩=some ↑y.k∧w'.cell? ⟨sb,1,none⟩=some (.slice y.sa y.s.length y.sc)∧w'.cell? ⟨sb,2,none⟩=some (.slice y.ca y.c.length y.cc)∧w'.cell? ⟨sb,3,none⟩=some (.slice y.ia y.j.length y.ic)∧w'.cell? ⟨sb,4,none⟩=some ↑y.l.s∧w'.cell? ⟨sb,5,none⟩=some ↑y.l.t∧w'.cell? ⟨sb,6,none⟩=some ↑y.l.g∧w'.cell? ⟨b,o+k'*7,none⟩=some ↑pv) ⟨hb,p0,p1,p2,lx.out,ly.out,s0,s1,s2,s3,s4,s5,s6,hp0⟩ fun hHeld=>?_
     refine tk [0] ?_
     refine tR 1 fun K hK=>?_
     go_simp
     go_at_call 37
     refine cr (D0.out _ hHeld.2.2.2.2.2.1) fun v8 k8=>?_
     go_wp2_with fail
     refine tH hK hHeld k8 fun hHeld=>?_
     clear hK K k8
     refine tk [2,3,4,5,6,7,8,9,10,11,12,13,14,15,16,17,18,19,20,21,22,23,24,25,26] ?_
     refine tD ?_
     clear hb p0 p1 p2 lx ly s0 s1 s2 s3 s4 s5 s6 hp0
     obtain ⟨hb,p0,p1,p2,lx,ly,s0,s1,s2,s3,s4,s5,s6,hp0⟩:=hHeld
     replace lx:=hid lx
     replace ly:=hid ly
     go_wp2_with fail
     go_meet
     exact ⟨by rw[HZ.out],hb,p0,p1,p2,lx.out⟩
   clear hb ly s0 s1 s2 s3 s4 s5 s6 p0 p1 p2 lx
   obtain ⟨rfl,hb,p0,p1,p2,lx⟩:=hcut
   replace lx:=hid lx
   cases bad
   rotate_left
   ·have HV2:Hid (mayS x.s=false):=hid (by rw[HST.out];rfl)
    clear HST HBD
    go_wp2
    go_ret
    exact ⟨by rw[HV2.out];rfl,hb⟩
   have HV2:Hid (mayS x.s=(mayRs x.a (pE x.e (i+1)) (x.e.drop (i+1)) && U)):=hid (by rw[HST.out];rfl)
   clear HST HBD
   go_wp2
   go_roundw
   case rel=>exact ⟨i+1,by have:=HI.out;omega,by go_num,HV2,hb,p0,p1,p2,lx⟩
   case measure=>simp[intOf];have:=HI.out;omega
  ·
   have HE:Hid (mayS x.s=mayPr x.a (pW x.p 0) (x.p.drop 0)):=hid (by rw[HM.out,List.drop_eq_nil_of_le (by omega),HU.out];rfl)
   have d1:decide ((i:Int)<(x.e.length:Int))=false:=dF
   clear HM HU
   go_wp2_with fail
   clear hlt
   go_loopw [50] (fun iv wr=>∃ i:Nat,i≤x.p.length∧iv=.int .i64 i∧Hid (mayS x.s=mayPr x.a (pW x.p i) (x.p.drop i))∧Below w.heap.size w wr∧(wr.cell? ⟨bp,0,none⟩=some (.slice x.aa x.a.length x.ac))∧(wr.cell? ⟨bp,1,none⟩=some (.slice x.ea x.e.length x.ec))∧(wr.cell? ⟨bp,2,none⟩=some (.slice x.pa x.p.length x.pc))∧Hid (InnerS wr x)) (fun iv _=>x.p.length - (intOf iv).toNat)
   case atStart=>exact ⟨0,by omega,rfl,HE,hb,p0,p1,p2,lx⟩
   case round =>
    clear HE hb p0 p1 p2 lx d1 hi
    obtain ⟨i,hi,rfl,HM,hb,p0,p1,p2,lx⟩:=hrel
    by_cases hlt:i<x.p.length
    rotate_left
    ·have HE:Hid (mayS x.s=true):=hid (by rw[HM.out,List.drop_eq_nil_of_le (by omega)];rfl)
     go_wp2
     go_ret
     exact ⟨by rw[HE.out];rfl,hb⟩
    have d1:decide ((i:Int)<(x.p.length:Int))=true:=dT
    have j1:(0:Int)≤(i:Int):=by omega
    have j2:(i:Int)<(x.p.length:Int):=by omega
    obtain ⟨b,o,hea,hc⟩:=lx.out.p.2 (by omega)
    rw[hea]
    rw[hea] at p2
    have c0:wr.cell? ⟨b,o+i,none⟩=some ↑(x.p[i]):=by
     have q:=hc i hlt 0 _ rfl
     rw[show o+i*wE.k+0=o+i by show o+i*1+0=o+i;omega] at q
     exact q
    have hst:=mayPr_step x.a hlt
    have HPV:Hid (∀ k',i=k'+1→∃ pv,pW x.p i=some pv∧wr.cell? ⟨b,o+k',none⟩=some ↑pv):=hid (fun k' hk=>by
     subst hk
     have hkl:k'<x.p.length:=by omega
     have q:=hc k' hkl 0 _ rfl
     rw[show o+k'*wE.k+0=o+k' by show o+k'*1+0=o+k';omega] at q
     exact ⟨x.p[k'],pW_next hkl,q⟩)
    obtain ⟨t,ht⟩:=nm x.p[i]
    rw[← ht] at hst c0
    obtain ⟨z,hz⟩:=nm (ofL x.a t)
    have D1:=hid (fun W (h:InnerS W x)=>(by rw[hz];exact Dots.of_any t x.a x.aa x.a.length x.ac W h.a (by have:=OX.out.a;omega) (ok_of OX.out.am):CB 113 #[.slice x.aa x.a.length x.ac,t] W (.int .u64 (z:Nat))))
    rw[← hz] at hst
    rw[← HM.out] at hst
    have HST:=hid hst
    have HEA:=hid hea
    have HI:=hid hlt
    clear hc ht hst hlt HM hz hea
    by_cases hp:t=[]
    ·have e0:(t == [])=true:=by rw[hp];rfl
     have HV2:Hid (mayS x.s=false):=hid (by rw[HST.out,decide_eq_true hp];try simp)
     clear HST
     go_wp2
     go_ret
     exact ⟨by rw[HV2.out];rfl,hb⟩
    have e0:(t == [])=false:=by rw[beq_eq_false_iff_ne];exact hp
    have HP:=hid hp
    clear hp
    by_cases hi0:i=0
    ·have z1:decide ((0:Int)<(i:Int))=false:=dF
     have z1n:decide (0<i)=false:=dF
     have HO:Hid (pW x.p i=none):=hid (by rw[hi0];rfl)
     clear HPV hi0
     go_wp2_with fail
     refine cr (D1.out _ lx.out) fun v9 k9=>?_
     have hA:=kp k9 (aj3 p0 p1 p2)
     clear p0 p1 p2
     obtain ⟨p0,p1,p2⟩:=hA
     replace lx:=hid ((lx.out).below k9)
     replace hb:=bstep hb k9
     clear k9
     by_cases h9:z=0
     ·have z9:decide ((0:Int)<(z:Int))=false:=dF
      have z9n:decide (0<z)=false:=dF
      have HV2:Hid (mayS x.s=mayPr x.a (pW x.p (i+1)) (x.p.drop (i+1))):=hid (by rw[HST.out,decide_eq_false HP.out,HO.out,show befT none t=false from rfl,decide_eq_true h9];simp)
      clear HST h9
      go_wp2
      go_roundw
      case rel=>exact ⟨i+1,by have:=HI.out;omega,by go_num,HV2,hb,p0,p1,p2,lx⟩
      case measure=>simp[intOf];have:=HI.out;omega
     ·have z9:decide ((0:Int)<(z:Int))=true:=dT
      have z9n:decide (0<z)=true:=dT
      have HV2:Hid (mayS x.s=false):=hid (by rw[HST.out,decide_eq_false HP.out,HO.out,show befT none t=false from rfl,decide_eq_false h9];simp)
      clear HST h9
      go_wp2
      go_ret
      exact ⟨by rw[HV2.out];rfl,hb⟩
    obtain ⟨k',hk'⟩:∃ k',i=k'+1:=⟨i - 1,by omega⟩
    obtain ⟨pv,hpv,hp0⟩:=HPV.out k' hk'
    have z1:decide ((0:Int)<(i:Int))=true:=dT
    have z1n:decide (0<i)=true:=dT
    have w1:IntKind.i64.wrap ((i:Int) - 1)=(k':Int):=by rw[IntKind.wrap_i64];omega
    have j5:(0:Int)≤(k':Int):=by omega
    have j6:(k':Int)<(x.p.length:Int):=by omega
    have HO:=hid hpv
    have HK':=hid hk'
    have HBE:Hid (befT (some pv) t = !(decide (TL pv t))):=hid rfl
    clear hi0 HPV hpv hk'
    rcases tl_ways pv t with hw | hw | hw
    ·obtain ⟨q1,q2,q3,q4⟩:=ways_less hw
     have HW:=hid hw
     clear hw
     go_wp2_with fail
     refine cr (D1.out _ lx.out) fun v10 k10=>?_
     have hA:=kp k10 (aj3 p0 p1 p2)
     clear p0 p1 p2
     obtain ⟨p0,p1,p2⟩:=hA
     replace lx:=hid ((lx.out).below k10)
     replace hp0:=(Coder.keepC hp0 k10)
     replace hb:=bstep hb k10
     clear k10 hp0
     by_cases h9:z=0
     ·have z9:decide ((0:Int)<(z:Int))=false:=dF
      have z9n:decide (0<z)=false:=dF
      have HV2:Hid (mayS x.s=mayPr x.a (pW x.p (i+1)) (x.p.drop (i+1))):=hid (by rw[HST.out,decide_eq_false HP.out,HO.out,HBE.out,decide_eq_true HW.out,decide_eq_true h9];simp)
      clear HST h9
      go_wp2
      go_roundw
      case rel=>exact ⟨i+1,by have:=HI.out;omega,by go_num,HV2,hb,p0,p1,p2,lx⟩
      case measure=>simp[intOf];have:=HI.out;omega
     ·have z9:decide ((0:Int)<(z:Int))=true:=dT
      have z9n:decide (0<z)=true:=dT
      have HV2:Hid (mayS x.s=false):=hid (by rw[HST.out,decide_eq_false HP.out,HO.out,HBE.out,decide_eq_true HW.out,decide_eq_false h9];simp)
      clear HST h9
      go_wp2
      go_ret
      exact ⟨by rw[HV2.out];rfl,hb⟩
    ·have q1:=less_self t
     have q3:(pv == t)=true:=by simp[hw]
     have q4:(t == pv)=true:=by simp[hw]
     have q5:Op.bytesLess pv t=false:=by rw[hw];exact q1
     have q6:Op.bytesLess t pv=false:=by rw[hw];exact q1
     have HW:Hid (¬ TL pv t):=hid (by rw[hw];exact linT.irr t)
     clear hw
     have HV2:Hid (mayS x.s=false):=hid (by rw[HST.out,HO.out,HBE.out,decide_eq_false HW.out];try simp)
     clear HST
     go_wp2
     go_ret
     exact ⟨by rw[HV2.out];rfl,hb⟩
    ·obtain ⟨q1,q2,q3,q4⟩:=ways_less hw
     have HW:Hid (¬ TL pv t):=hid (fun h=>linT.irr _ (linT.trans hw h))
     clear hw
     have HV2:Hid (mayS x.s=false):=hid (by rw[HST.out,HO.out,HBE.out,decide_eq_false HW.out];try simp)
     clear HST
     go_wp2
     go_ret
     exact ⟨by rw[HV2.out];rfl,hb⟩
end Coder
set_option maxRecDepth 100000
set_option maxHeartbeats 8000000
namespace Coder
open RowKit YtnpjkmomllkhpaaGreatDoor.Mark Num Wire Bag Dots
def outS (m:Bool) (l:List UInt8):List UInt8:=if m=true then l else []
def outE (m:Bool):Int:=if m=true then 0 else 2
def InnerD (w:World) (ba:Option Addr) (B:List M) (x:RS):Prop:=Mark.Lies w ba B.length B∧InnerS w x
theorem InnerD.below {w w':World} {ba:Option Addr} {B:List M} {x:RS} (h:InnerD w ba B x) (k:Below w.heap.size w w'):InnerD w' ba B x:=⟨h.1.below k,h.2.below k⟩
instance {ba : Option Addr} {B : List M} {x : RS} : Kept (fun w => InnerD w ba B x) := ⟨fun k h => InnerD.below h k⟩
instance {w : World} {ba : Option Addr} {B : List M} {x : RS} : Hd w (InnerD w ba B x) (fun w => InnerD w ba B x) := ⟨id⟩
structure DOk (B:List M) (x:RS):Prop where
 b:B.length≤1048576
 bm:∀ m ∈ B,m.p.length≤1048576∧m.n≤18446744073709551615
 ok:x.Ok
 fine:x.Fine
theorem mayD_any (ba:Option Addr) (bc:Nat) (B:List M) (x:RS) (w:World) (hx:InnerD w ba B x) (ox:DOk B x) :
  CB 47 #[.agg #[.slice ba B.length bc,.slice x.aa x.a.length x.ac,.slice x.ea x.e.length x.ec,.slice x.pa x.p.length x.pc]] w (mayD B x.s):=by
 have lx:=hid hx
 have OX:=hid ox
 clear hx ox
 obtain ⟨q0,hq0⟩:=nm (mayL B)
 obtain ⟨q1,hq1⟩:=nm (mayS x.s)
 have HV:Hid (mayD B x.s=(q0 && q1)):=hid (by rw[hq0,hq1];rfl)
 have C0:=hid (fun W (hx:InnerD W ba B x)=>qB hq0 (Dots.may_any B ba B.length bc W hx.1 (by have:=OX.out.b;omega) (ok_of OX.out.bm)))
 have C1:=hid (fun W (hx:InnerD W ba B x)=>qB hq1 (mayS_any x W hx.2 OX.out.ok OX.out.fine))
 clear hq0 hq1
 go_enter Tryz.func47,Tryz.ntmps47
 go_upto_region 1 with (fail)
 have hb0:=balloc (Below.refl w.heap.size w) (.cells #[.slice ba B.length bc,.slice x.aa x.a.length x.ac,.slice x.ea x.e.length x.ec,.slice x.pa x.p.length x.pc] 35)
 obtain ⟨p0,p1,p2,p3⟩:=al4 (bx w [.slice ba B.length bc,.slice x.aa x.a.length x.ac,.slice x.ea x.e.length x.ec,.slice x.pa x.p.length x.pc] 35)
 obtain ⟨w0,hw0⟩:=nm (w.alloc (.cells #[.slice ba B.length bc,.slice x.aa x.a.length x.ac,.slice x.ea x.e.length x.ec,.slice x.pa x.p.length x.pc] 35))
 rw[← hw0] at hb0 p0 p1 p2 p3 ⊢
 obtain ⟨bp,hbp⟩:=nm w.heap.size
 rw[← hbp] at p0 p1 p2 p3 ⊢
 have hb:=hb0
 clear hb0 hw0 hbp
 replace lx:=hid (lx.out.below hb)
 go_wp2_with fail
 refine cr (C0.out _ lx.out) fun v1 k1=>?_
 have hA:=kp k1 (aj4 p0 p1 p2 p3)
 clear p0 p1 p2 p3
 obtain ⟨p0,p1,p2,p3⟩:=hA
 replace lx:=hid ((lx.out).below k1)
 replace hb:=bstep hb k1
 clear k1
 cases q0
 ·have HV2:Hid (mayD B x.s=false):=hid (by rw[HV.out];rfl)
  go_wp2
  go_ret
  exact ⟨by rw[HV2.out];rfl,hb⟩
 go_wp2_with fail
 refine cr (C1.out _ lx.out) fun v2 k2=>?_
 have hA:=kp k2 (aj4 p0 p1 p2 p3)
 clear p0 p1 p2 p3
 obtain ⟨p0,p1,p2,p3⟩:=hA
 replace lx:=hid ((lx.out).below k2)
 replace hb:=bstep hb k2
 clear k2
 have HV2:Hid (mayD B x.s=q1):=hid (by rw[HV.out];rfl)
 go_wp2
 go_ret
 exact ⟨by rw[HV2.out];rfl,hb⟩
theorem writeEntry (x:RE) (w:World) (hx:InnerE w x) (ox:x.Ok) (of:Bag.Fine (x.j.map RI.it)) (hs:(fE x).length≤70368744177664) :
  CB 36 #[.agg x,.func (.func 37) #[] #[],.func (.func 38) #[] #[]] w (.tuple #[(outS (mayE x.e) (fE x)),.int .i64 (outE (mayE x.e))]):=by
 have lx:=hid hx
 have OX:=hid ox
 have OF:=hid of
 have HS:=hid hs
 clear hx ox of hs
 obtain ⟨q,hq⟩:=nm (mayE x.e)
 obtain ⟨l,hl⟩:=nm (fE x)
 rw[← hq,← hl]
 have C0:=hid (fun W (h:InnerE W x)=>qB hq (mayE_any x W h OX.out OF.out))
 have C1:=hid (fun W (h:InnerE W x)=>qS hl (entry_any x W h OX.out HS.out))
 clear hq hl
 go_enter Tryz.func36,Tryz.ntmps36
 go_upto_region 1 with (fail)
 have hb0:=balloc (Below.refl w.heap.size w) (.cells x 29)
 obtain ⟨p0,p1,p2,p3,p4,p5,p6⟩:=al7 (bx w x 29)
 obtain ⟨w0,hw0⟩:=nm (w.alloc (.cells x 29))
 rw[← hw0] at hb0 p0 p1 p2 p3 p4 p5 p6 ⊢
 obtain ⟨bp,hbp⟩:=nm w.heap.size
 rw[← hbp] at p0 p1 p2 p3 p4 p5 p6 ⊢
 have hb:=hb0
 clear hb0 hw0 hbp
 replace lx:=hid (lx.out.below hb)
 go_wp2_with fail
 refine cr (C0.out _ lx.out) fun v3 k3=>?_
 have hA:=kp k3 (aj7 p0 p1 p2 p3 p4 p5 p6)
 clear p0 p1 p2 p3 p4 p5 p6
 obtain ⟨p0,p1,p2,p3,p4,p5,p6⟩:=hA
 replace lx:=hid ((lx.out).below k3)
 replace hb:=bstep hb k3
 clear k3
 cases q
 ·go_wp2
  go_ret2
  exact ⟨rfl,hb⟩
 go_wp2_with fail
 refine cr (C1.out _ lx.out) fun v4 k4=>?_
 have hA:=kp k4 (aj7 p0 p1 p2 p3 p4 p5 p6)
 clear p0 p1 p2 p3 p4 p5 p6
 obtain ⟨p0,p1,p2,p3,p4,p5,p6⟩:=hA
 replace lx:=hid ((lx.out).below k4)
 replace hb:=bstep hb k4
 clear k4
 go_wp2
 go_ret2
 exact ⟨rfl,hb⟩
theorem giveEntry (x:RE) (w:World) (hx:InnerE w x) (ox:x.Ok) (of:Bag.Fine (x.j.map RI.it)) (hs:(fE x).length≤70368744177664) :
  CB 9 #[.agg x] w (.tuple #[(outS (mayE x.e) (fE x)),.int .i64 (outE (mayE x.e))]):=by
 have lx:=hid hx
 have OX:=hid ox
 have OF:=hid of
 have HS:=hid hs
 clear hx ox of hs
 obtain ⟨q,hq⟩:=nm (mayE x.e)
 obtain ⟨l,hl⟩:=nm (fE x)
 rw[← hq,← hl]
 have C0:=hid (fun W (h:InnerE W x)=>(by rw[hq,hl];exact writeEntry x W h OX.out OF.out HS.out:CB 36 #[.agg x,.func (.func 37) #[] #[],.func (.func 38) #[] #[]] W (.tuple #[(outS q l),.int .i64 (outE q)])))
 clear hq hl
 go_enter Tryz.func9,Tryz.ntmps9
 go_upto_region 1 with (fail)
 have hb0:=balloc (Below.refl w.heap.size w) (.cells x 29)
 obtain ⟨p0,p1,p2,p3,p4,p5,p6⟩:=al7 (bx w x 29)
 obtain ⟨w0,hw0⟩:=nm (w.alloc (.cells x 29))
 rw[← hw0] at hb0 p0 p1 p2 p3 p4 p5 p6 ⊢
 obtain ⟨bp,hbp⟩:=nm w.heap.size
 rw[← hbp] at p0 p1 p2 p3 p4 p5 p6 ⊢
 have hb:=hb0
 clear hb0 hw0 hbp
 replace lx:=hid (lx.out.below hb)
 go_wp2_with fail
 refine cr (C0.out _ lx.out) fun v5 k5=>?_
 have hA:=kp k5 (aj7 p0 p1 p2 p3 p4 p5 p6)
 clear p0 p1 p2 p3 p4 p5 p6
 obtain ⟨p0,p1,p2,p3,p4,p5,p6⟩:=hA
 replace lx:=hid ((lx.out).below k5)
 replace hb:=bstep hb k5
 clear k5
 go_wp2
 go_ret2
 exact ⟨rfl,hb⟩
theorem writeDelta (ba:Option Addr) (bc:Nat) (B:List M) (x:RS) (w:World) (hx:InnerD w ba B x) (ox:DOk B x) (hs:(fD B x).length≤70368744177664) :
  CB 46 #[.agg #[.slice ba B.length bc,.slice x.aa x.a.length x.ac,.slice x.ea x.e.length x.ec,.slice x.pa x.p.length x.pc],.func (.func 47) #[] #[],.func (.func 48) #[] #[]] w (.tuple #[(outS (mayD B x.s) (fD B x)),.int .i64 (outE (mayD B x.s))]):=by
 have lx:=hid hx
 have OX:=hid ox
 have HS:=hid hs
 clear hx ox hs
 obtain ⟨q,hq⟩:=nm (mayD B x.s)
 obtain ⟨l,hl⟩:=nm (fD B x)
 rw[← hq,← hl]
 have C0:=hid (fun W (h:InnerD W ba B x)=>qB hq (mayD_any ba bc B x W h OX.out))
 have C1:=hid (fun W (h:InnerD W ba B x)=>qS hl (delta_any ba bc B x W h.1 OX.out.b OX.out.bm h.2 OX.out.ok HS.out))
 clear hq hl
 go_enter Tryz.func46,Tryz.ntmps46
 go_upto_region 1 with (fail)
 have hb0:=balloc (Below.refl w.heap.size w) (.cells #[.slice ba B.length bc,.slice x.aa x.a.length x.ac,.slice x.ea x.e.length x.ec,.slice x.pa x.p.length x.pc] 35)
 obtain ⟨p0,p1,p2,p3⟩:=al4 (bx w [.slice ba B.length bc,.slice x.aa x.a.length x.ac,.slice x.ea x.e.length x.ec,.slice x.pa x.p.length x.pc] 35)
 obtain ⟨w0,hw0⟩:=nm (w.alloc (.cells #[.slice ba B.length bc,.slice x.aa x.a.length x.ac,.slice x.ea x.e.length x.ec,.slice x.pa x.p.length x.pc] 35))
 rw[← hw0] at hb0 p0 p1 p2 p3 ⊢
 obtain ⟨bp,hbp⟩:=nm w.heap.size
 rw[← hbp] at p0 p1 p2 p3 ⊢
 have hb:=hb0
 clear hb0 hw0 hbp
 replace lx:=hid (lx.out.below hb)
 go_wp2_with fail
 refine cr (C0.out _ lx.out) fun v6 k6=>?_
 have hA:=kp k6 (aj4 p0 p1 p2 p3)
 clear p0 p1 p2 p3
 obtain ⟨p0,p1,p2,p3⟩:=hA
 replace lx:=hid ((lx.out).below k6)
 replace hb:=bstep hb k6
 clear k6
 cases q
 ·go_wp2
  go_ret2
  exact ⟨rfl,hb⟩
 go_wp2_with fail
 refine cr (C1.out _ lx.out) fun v7 k7=>?_
 have hA:=kp k7 (aj4 p0 p1 p2 p3)
 clear p0 p1 p2 p3
 obtain ⟨p0,p1,p2,p3⟩:=hA
 replace lx:=hid ((lx.out).below k7)
 replace hb:=bstep hb k7
 clear k7
 go_wp2
 go_ret2
 exact ⟨rfl,hb⟩
theorem giveDelta (ba:Option Addr) (bc:Nat) (B:List M) (x:RS) (w:World) (hx:InnerD w ba B x) (ox:DOk B x) (hs:(fD B x).length≤70368744177664) :
  CB 13 #[.agg #[.slice ba B.length bc,.slice x.aa x.a.length x.ac,.slice x.ea x.e.length x.ec,.slice x.pa x.p.length x.pc]] w (.tuple #[(outS (mayD B x.s) (fD B x)),.int .i64 (outE (mayD B x.s))]):=by
 have lx:=hid hx
 have OX:=hid ox
 have HS:=hid hs
 clear hx ox hs
 obtain ⟨q,hq⟩:=nm (mayD B x.s)
 obtain ⟨l,hl⟩:=nm (fD B x)
 rw[← hq,← hl]
 have C0:=hid (fun W (h:InnerD W ba B x)=>(by rw[hq,hl];exact writeDelta ba bc B x W h OX.out HS.out:CB 46 #[.agg #[.slice ba B.length bc,.slice x.aa x.a.length x.ac,.slice x.ea x.e.length x.ec,.slice x.pa x.p.length x.pc],.func (.func 47) #[] #[],.func (.func 48) #[] #[]] W (.tuple #[(outS q l),.int .i64 (outE q)])))
 clear hq hl
 go_enter Tryz.func13,Tryz.ntmps13
 go_upto_region 1 with (fail)
 have hb0:=balloc (Below.refl w.heap.size w) (.cells #[.slice ba B.length bc,.slice x.aa x.a.length x.ac,.slice x.ea x.e.length x.ec,.slice x.pa x.p.length x.pc] 35)
 obtain ⟨p0,p1,p2,p3⟩:=al4 (bx w [.slice ba B.length bc,.slice x.aa x.a.length x.ac,.slice x.ea x.e.length x.ec,.slice x.pa x.p.length x.pc] 35)
 obtain ⟨w0,hw0⟩:=nm (w.alloc (.cells #[.slice ba B.length bc,.slice x.aa x.a.length x.ac,.slice x.ea x.e.length x.ec,.slice x.pa x.p.length x.pc] 35))
 rw[← hw0] at hb0 p0 p1 p2 p3 ⊢
 obtain ⟨bp,hbp⟩:=nm w.heap.size
 rw[← hbp] at p0 p1 p2 p3 ⊢
 have hb:=hb0
 clear hb0 hw0 hbp
 replace lx:=hid (lx.out.below hb)
 go_wp2_with fail
 refine cr (C0.out _ lx.out) fun v8 k8=>?_
 have hA:=kp k8 (aj4 p0 p1 p2 p3)
 clear p0 p1 p2 p3
 obtain ⟨p0,p1,p2,p3⟩:=hA
 replace lx:=hid ((lx.out).below k8)
 replace hb:=bstep hb k8
 clear k8
 go_wp2
 go_ret2
 exact ⟨rfl,hb⟩
theorem writeOp (x:O) (w:World) (ox:x.Ok) :
  CB 58 #[.agg x,.func (.func 59) #[] #[],.func (.func 60) #[] #[]] w (.tuple #[(outS (mayO x) (opb x)),.int .i64 (outE (mayO x))]):=by
 have OX:=hid ox
 clear ox
 obtain ⟨q,hq⟩:=nm (mayO x)
 obtain ⟨l,hl⟩:=nm (opb x)
 rw[← hq,← hl]
 have C0:=hid (fun W  => qB hq (mayO_any x.d x.k x.n x.t W OX.out.k))
 have C1:=hid (fun W  => qS hl (op_any x W OX.out))
 clear hq hl
 go_enter Tryz.func58,Tryz.ntmps58
 go_upto_region 1 with (fail)
 have hb0:=balloc (Below.refl w.heap.size w) (.cells x 38)
 obtain ⟨p0,p1,p2,p3⟩:=al4 (bx w x 38)
 obtain ⟨w0,hw0⟩:=nm (w.alloc (.cells x 38))
 rw[← hw0] at hb0 p0 p1 p2 p3 ⊢
 obtain ⟨bp,hbp⟩:=nm w.heap.size
 rw[← hbp] at p0 p1 p2 p3 ⊢
 have hb:=hb0
 clear hb0 hw0 hbp
 go_wp2_with fail
 refine cr (C0.out _) fun v9 k9=>?_
 have hA:=kp k9 (aj4 p0 p1 p2 p3)
 clear p0 p1 p2 p3
 obtain ⟨p0,p1,p2,p3⟩:=hA
 replace hb:=bstep hb k9
 clear k9
 cases q
 ·go_wp2
  go_ret2
  exact ⟨rfl,hb⟩
 go_wp2_with fail
 refine cr (C1.out _) fun v10 k10=>?_
 have hA:=kp k10 (aj4 p0 p1 p2 p3)
 clear p0 p1 p2 p3
 obtain ⟨p0,p1,p2,p3⟩:=hA
 replace hb:=bstep hb k10
 clear k10
 go_wp2
 go_ret2
 exact ⟨rfl,hb⟩
theorem giveOp (x:O) (w:World) (ox:x.Ok) :
  CB 17 #[.agg x] w (.tuple #[(outS (mayO x) (opb x)),.int .i64 (outE (mayO x))]):=by
 have OX:=hid ox
 clear ox
 obtain ⟨q,hq⟩:=nm (mayO x)
 obtain ⟨l,hl⟩:=nm (opb x)
 rw[← hq,← hl]
 have C0:=hid (fun W  => (by rw[hq,hl];exact writeOp x W OX.out:CB 58 #[.agg x,.func (.func 59) #[] #[],.func (.func 60) #[] #[]] W (.tuple #[(outS q l),.int .i64 (outE q)])))
 clear hq hl
 go_enter Tryz.func17,Tryz.ntmps17
 go_upto_region 1 with (fail)
 have hb0:=balloc (Below.refl w.heap.size w) (.cells x 38)
 obtain ⟨p0,p1,p2,p3⟩:=al4 (bx w x 38)
 obtain ⟨w0,hw0⟩:=nm (w.alloc (.cells x 38))
 rw[← hw0] at hb0 p0 p1 p2 p3 ⊢
 obtain ⟨bp,hbp⟩:=nm w.heap.size
 rw[← hbp] at p0 p1 p2 p3 ⊢
 have hb:=hb0
 clear hb0 hw0 hbp
 go_wp2_with fail
 refine cr (C0.out _) fun v11 k11=>?_
 have hA:=kp k11 (aj4 p0 p1 p2 p3)
 clear p0 p1 p2 p3
 obtain ⟨p0,p1,p2,p3⟩:=hA
 replace hb:=bstep hb k11
 clear k11
 go_wp2
 go_ret2
 exact ⟨rfl,hb⟩
end Coder
set_option maxRecDepth 100000
set_option maxHeartbeats 8000000
namespace Coder
open RowKit YtnpjkmomllkhpaaGreatDoor.Mark Num Wire Bag Dots
theorem same_e (x y:RE):decide (x.e=y.e)=(decide (x.k=y.k) && (decide (x.s=y.s) && (decide (x.c=y.c) && (decide (x.j.map RI.it=y.j.map RI.it) && decide (x.l=y.l))))):=by
 rw[Bool.eq_iff_iff]
 simp only[Bool.and_eq_true,decide_eq_true_eq,RE.e,E.mk.injEq]
theorem InnerI.lies {w:World} {x:RE} (h:InnerI w x):Bag.Lies w x.ia x.j.length (x.j.map RI.it):=⟨x.j,rfl,h.1,h.2⟩
theorem sameE_any (x y:RE) (w:World) (hx:InnerE w x) (hy:InnerE w y) (ox:x.Ok) (oy:y.Ok) :
  CB 23 #[.agg x,.agg y] w (decide (x.e=y.e)):=by
 have kx:=hid hx
 have ky:=hid hy
 have HV:Hid (decide (x.e=y.e)=(decide (x.k=y.k) && (decide (x.s=y.s) && (decide (x.c=y.c) && (decide (x.j.map RI.it=y.j.map RI.it) && decide (x.l=y.l)))))):=hid (same_e x y)
 have OX:=hid ox
 have OY:=hid oy
 clear hx hy ox oy
 obtain ⟨q0,hq0⟩:=nm (decide (x.k=y.k))
 have e0:(x.k == y.k)=q0:=by rw[hq0];by_cases h:x.k=y.k <;> simp[h]
 obtain ⟨q1,hq1⟩:=nm (decide (x.s=y.s))
 obtain ⟨q2,hq2⟩:=nm (decide (x.c=y.c))
 obtain ⟨q3,hq3⟩:=nm (decide (x.j.map RI.it=y.j.map RI.it))
 obtain ⟨q4,hq4⟩:=nm (decide (x.l=y.l))
 rw[← hq0,← hq1,← hq2,← hq3,← hq4] at HV
 have CL:=eql_cell x.l y.l
 rw[← hq4] at CL
 have C1:=hid (fun W (hx:InnerE W x) (hy:InnerE W y)=>qB hq1 (RefDots.same_any x.s y.s x.sa y.sa x.s.length y.s.length x.sc y.sc W hx.s hy.s (by have:=OX.out.s;omega) (by have:=OY.out.s;omega)))
 have C2:=hid (fun W (hx:InnerE W x) (hy:InnerE W y)=>qB hq2 (sameC_any x.c y.c x.ca y.ca x.c.length y.c.length x.cc y.cc W hx.c hy.c (by have:=OX.out.c;omega)))
 have C3:=hid (fun W (hx:InnerE W x) (hy:InnerE W y)=>(by rw[hq3];exact RefBag.same_any (x.j.map RI.it) (y.j.map RI.it) x.ia y.ia x.j.length y.j.length x.ic y.ic W hx.i.lies hy.i.lies (by have:=OX.out.j;omega) (fun z hz=>by
  obtain ⟨u,hu,rfl⟩:=List.mem_map.1 hz
  have:=(OX.out.jm u hu).2.1
  show u.d.length≤_
  omega):CB 73 #[.slice x.ia x.j.length x.ic,.slice y.ia y.j.length y.ic] W q3))
 clear hq0 hq1 hq2 hq3 hq4
 go_enter Tryz.func23,Tryz.ntmps23
 go_upto_region 1 with (fail)
 have hb0:=balloc (balloc (Below.refl w.heap.size w) (.cells x 29)) (.cells y 29)
 have hB:=bx w x 29
 have p0:=Coder.keepC (hB 0 _ rfl) (balloc (Below.refl _ _) (.cells y 29))
 have p1:=Coder.keepC (hB 1 _ rfl) (balloc (Below.refl _ _) (.cells y 29))
 have p2:=Coder.keepC (hB 2 _ rfl) (balloc (Below.refl _ _) (.cells y 29))
 have p3:=Coder.keepC (hB 3 _ rfl) (balloc (Below.refl _ _) (.cells y 29))
 have p4:=Coder.keepC (hB 4 _ rfl) (balloc (Below.refl _ _) (.cells y 29))
 have p5:=Coder.keepC (hB 5 _ rfl) (balloc (Below.refl _ _) (.cells y 29))
 have p6:=Coder.keepC (hB 6 _ rfl) (balloc (Below.refl _ _) (.cells y 29))
 clear hB
 have r0:=box_cells (w.alloc (.cells x 29)) y 29 0 (.string ⟨y.k.toArray⟩) rfl
 simp only[World.size_alloc] at r0
 have r1:=box_cells (w.alloc (.cells x 29)) y 29 1 (.slice y.sa y.s.length y.sc) rfl
 simp only[World.size_alloc] at r1
 have r2:=box_cells (w.alloc (.cells x 29)) y 29 2 (.slice y.ca y.c.length y.cc) rfl
 simp only[World.size_alloc] at r2
 have r3:=box_cells (w.alloc (.cells x 29)) y 29 3 (.slice y.ia y.j.length y.ic) rfl
 simp only[World.size_alloc] at r3
 have r4:=box_cells (w.alloc (.cells x 29)) y 29 4 (.int .u64 (y.l.s:Int)) rfl
 simp only[World.size_alloc] at r4
 have r5:=box_cells (w.alloc (.cells x 29)) y 29 5 (.string ⟨y.l.t.toArray⟩) rfl
 simp only[World.size_alloc] at r5
 have r6:=box_cells (w.alloc (.cells x 29)) y 29 6 (.bool y.l.g) rfl
 simp only[World.size_alloc] at r6
 obtain ⟨w0,hw0⟩:=nm ((w.alloc (.cells x 29)).alloc (.cells y 29))
 rw[← hw0] at hb0 p0 p1 p2 p3 p4 p5 p6 r0 r1 r2 r3 r4 r5 r6 ⊢
 obtain ⟨br,hbr⟩:=nm (w.heap.size+1)
 rw[← hbr] at r0 r1 r2 r3 r4 r5 r6 ⊢
 obtain ⟨bp,hbp⟩:=nm w.heap.size
 rw[← hbp] at p0 p1 p2 p3 p4 p5 p6 ⊢
 have hb:=hb0
 clear hb0 hw0 hbp hbr
 replace kx:=hid (kx.out.below hb)
 replace ky:=hid (ky.out.below hb)
 cases q0
 ·
  have HV2:Hid (decide (x.e=y.e)=false):=hid (by rw[HV.out];try simp)
  go_wp2
  go_ret
  exact ⟨by rw[HV2.out];rfl,hb⟩
 ·
  go_wp2_with fail
  refine cr (C1.out _ kx.out ky.out) fun v1 k1=>?_
  have hA:=kp k1 (aj14 p0 p1 p2 p3 p4 p5 p6 r0 r1 r2 r3 r4 r5 r6)
  clear p0 p1 p2 p3 p4 p5 p6 r0 r1 r2 r3 r4 r5 r6
  obtain ⟨p0,p1,p2,p3,p4,p5,p6,r0,r1,r2,r3,r4,r5,r6⟩:=hA
  replace kx:=hid ((kx.out).below k1)
  replace ky:=hid ((ky.out).below k1)
  replace hb:=bstep hb k1
  clear k1
  cases q1
  ·
   have HV2:Hid (decide (x.e=y.e)=false):=hid (by rw[HV.out];try simp)
   go_wp2
   go_ret
   exact ⟨by rw[HV2.out];rfl,hb⟩
  ·
   go_wp2_with fail
   refine cr (C2.out _ kx.out ky.out) fun v2 k2=>?_
   have hA:=kp k2 (aj14 p0 p1 p2 p3 p4 p5 p6 r0 r1 r2 r3 r4 r5 r6)
   clear p0 p1 p2 p3 p4 p5 p6 r0 r1 r2 r3 r4 r5 r6
   obtain ⟨p0,p1,p2,p3,p4,p5,p6,r0,r1,r2,r3,r4,r5,r6⟩:=hA
   replace kx:=hid ((kx.out).below k2)
   replace ky:=hid ((ky.out).below k2)
   replace hb:=bstep hb k2
   clear k2
   cases q2
   ·
    have HV2:Hid (decide (x.e=y.e)=false):=hid (by rw[HV.out];try simp)
    go_wp2
    go_ret
    exact ⟨by rw[HV2.out];rfl,hb⟩
   ·
    go_wp2_with fail
    refine cr (C3.out _ kx.out ky.out) fun v3 k3=>?_
    have hA:=kp k3 (aj14 p0 p1 p2 p3 p4 p5 p6 r0 r1 r2 r3 r4 r5 r6)
    clear p0 p1 p2 p3 p4 p5 p6 r0 r1 r2 r3 r4 r5 r6
    obtain ⟨p0,p1,p2,p3,p4,p5,p6,r0,r1,r2,r3,r4,r5,r6⟩:=hA
    replace kx:=hid ((kx.out).below k3)
    replace ky:=hid ((ky.out).below k3)
    replace hb:=bstep hb k3
    clear k3
    cases q3
    ·
     have HV2:Hid (decide (x.e=y.e)=false):=hid (by rw[HV.out];try simp)
     go_wp2
     go_ret
     exact ⟨by rw[HV2.out];rfl,hb⟩
    ·
     have HV2:Hid (decide (x.e=y.e)=q4):=hid (by rw[HV.out];simp only[Bool.true_and])
     go_wp2
     go_ret
     exact ⟨by rw[HV2.out];rfl,hb⟩
end Coder
set_option maxRecDepth 100000
set_option maxHeartbeats 8000000
namespace CoderLaw
open RowKit YtnpjkmomllkhpaaGreatDoor.Mark Num Wire Bag Coder Taker
theorem _root_.Go.Proofs.YtnpjkmomllkhpaaGreatDoor.Coder.O.ext' {a b:O} (h1:a.d=b.d) (h2:a.k=b.k) (h3:a.n=b.n) (h4:a.t=b.t):a=b:=by cases a;cases b;simp_all
instance : DecidableEq O := fun a b => if h : a.d = b.d ∧ a.k = b.k ∧ a.n = b.n ∧ a.t = b.t then .isTrue (O.ext' h.1 h.2.1 h.2.2.1 h.2.2.2) else .isFalse fun e => h (by rw [e]; exact ⟨rfl, rfl, rfl, rfl⟩)
theorem eql_of_op (m k:O) (w:World):(Op.equalIn 10000 38 (.agg m) (.agg k)).run Tryz.prog w=.ok ((m.d:Int) == (k.d:Int) && (m.k == k.k && (m.n == k.n && m.t == k.t))) w:=by
 have hS:Tryz.prog.underlying 38=some (.struct (Tryz.prog.fieldsOf 38)):=by kernel_rfl
 rw[show (10000:Nat)=9999+1 from rfl,run_equalIn_agg w 9999 38 _ _ hS (by kernel_rfl)]
 simp only[Program.fieldsOf,Tryz.underlying38]
 have u1:=Tryz.underlying9
 have u2:=Tryz.underlying5
 have u3:=Tryz.underlying2
 go_simp
 by_cases h1:(m.d:Int)=(k.d:Int) <;> by_cases h2:m.k=k.k <;> by_cases h3:m.n=k.n <;> by_cases h4:m.t=k.t <;> simp[h1,h2,h3,h4]
theorem eqO_iff (m k:O):((m.d:Int) == (k.d:Int) && (m.k == k.k && (m.n == k.n && m.t == k.t)))=decide (m=k):=by
 obtain ⟨d,p,n,b⟩:=m
 obtain ⟨d',p',n',b'⟩:=k
 rw[Bool.eq_iff_iff]
 simp only[Bool.and_eq_true,beq_iff_eq,decide_eq_true_eq,O.mk.injEq]
 constructor
 · rintro ⟨h1,h2,h3,h4⟩;exact ⟨by omega,h2,h3,h4⟩
 · rintro ⟨h1,h2,h3,h4⟩;exact ⟨by omega,h2,h3,h4⟩
theorem eql_op (m k:O) (w:World):(binOp .eql 38 (.agg m) (.agg k)).run Tryz.prog w=.ok (.bool (decide (m=k))) w:=by
 rw[run_eql_struct,eql_of_op,eqO_iff];rfl
def e1:Coder.E:=⟨[35,110],[⟨[49],1⟩],[⟨[49],2,0⟩],[],Cl.zero⟩
def x1 (m c:Nat):RE:=⟨[35,110],some ⟨m,0,none⟩,1,[⟨[49],1⟩],some ⟨c,0,none⟩,1,[⟨[49],2,0⟩],none,0,[],Cl.zero⟩
def s1:List UInt8:=[2,35,110,1,1,49,1,1,1,49,2,0]
def o1:O:=⟨1,[35,110],-3,[]⟩
theorem e1_may:mayE e1=true:=by decide +kernel
theorem e1_bytes:en e1=s1:=by decide +kernel
theorem e1_read:entryS s1 0=(e1,[],0):=by decide +kernel
theorem e1_more:entryS (s1++[120]) 0=(e1,[120],0):=by decide +kernel
theorem e0_may:mayE RE.zero.e=false:=by decide +kernel
theorem o1_may:mayO o1=true:=by decide +kernel
theorem o1_read:opS (opb o1) 0=(o1,[],0):=by decide +kernel
theorem o1_len:(opb o1).length≤65536:=by decide +kernel
theorem fit1 (m c:Nat):FitE (x1 m c).e where
 k:=by show 2≤_;decide
 s:=⟨by show 1≤_;decide,fun y hy=>by rw[List.mem_singleton.1 hy];exact ⟨by show 1≤_;decide,by show 1≤_;decide⟩⟩
 c:=⟨by show 1≤_;decide,fun y hy=>by rw[List.mem_singleton.1 hy];exact ⟨by show 1≤_;decide,by show 2≤_;decide,by show 0≤_;decide⟩⟩
 i:=⟨by show 0≤_;decide,fun y hy=>by cases hy⟩
 l:=⟨by show 0≤_;decide,by show 0≤_;decide⟩
theorem fit0:FitE RE.zero.e:=⟨by decide,⟨by decide,fun m hm=>by cases hm⟩,⟨by decide,fun m hm=>by cases hm⟩,⟨by decide,fun m hm=>by cases hm⟩,⟨by decide,by decide⟩⟩
theorem alive_entry (m c:Nat) (w:World) (h:InnerE w (x1 m c)) :
  CB 9 #[.agg #[.string ⟨#[35,110]⟩,.slice (some ⟨m,0,none⟩) 1 1,.slice (some ⟨c,0,none⟩) 1 1,.slice none 0 0,.int .u64 0,.string ⟨#[]⟩,.bool false]] w (.tuple #[.string ⟨#[2,35,110,1,1,49,1,1,1,49,2,0]⟩,.int .i64 0]):=by
 have hs:fE (x1 m c)=s1:=e1_bytes
 have q:=giveEntry (x1 m c) w h (fit1 m c).ok (fit1 m c).fine (by rw[hs];decide)
 rw[show mayE (x1 m c).e=true from e1_may,hs] at q
 exact q
theorem alive_none (w:World) :
  CB 9 #[.agg #[.string ⟨#[]⟩,.slice none 0 0,.slice none 0 0,.slice none 0 0,.int .u64 0,.string ⟨#[]⟩,.bool false]] w (.tuple #[.string ⟨#[]⟩,.int .i64 2]):=by
 have q:=giveEntry RE.zero w (own_zero w 0).inner ok_zero fit0.fine (by decide +kernel)
 rw[e0_may] at q
 exact q
theorem alive_read (w:World) :
  Calls Tryz.prog 19 #[.string ⟨#[2,35,110,1,1,49,1,1,1,49,2,0]⟩] w fun e w'=>∃ x:RE,e=.returned (.tuple #[.agg x,.int .i64 0])∧x.e=e1∧InnerE w' x∧x.Ok∧Below w.heap.size w w':=by
 refine (read_entry s1 w (by decide) e1 [] 0 e1_read).mono ?_
 rintro e w' ⟨x,rfl,hx,hi,ho,hb⟩
 rw[show okS [] 0 (mayE e1)=true by rw[e1_may];decide] at hx ⊢
 exact ⟨x,rfl,hx,hi.inner,ho,hb⟩
theorem alive_more (w:World) :
  Calls Tryz.prog 19 #[.string ⟨#[2,35,110,1,1,49,1,1,1,49,2,0,120]⟩] w fun e w'=>∃ x:RE,e=.returned (.tuple #[.agg x,.int .i64 8])∧Below w.heap.size w w':=by
 refine (read_entry (s1++[120]) w (by decide) e1 [120] 0 e1_more).mono ?_
 rintro e w' ⟨x,rfl,hx,hi,ho,hb⟩
 rw[show okS [120] 0 (mayE e1)=false by unfold okS;rw[e1_may];decide]
 exact ⟨x,rfl,hb⟩
theorem alive_op (w:World) :
  CB 17 #[.agg #[.int .u8 1,.string ⟨#[35,110]⟩,.int .i64 (-3),.string ⟨#[]⟩]] w (.tuple #[(opb o1),.int .i64 0]):=by
 have q:=giveOp o1 w ⟨by decide,by decide,by decide,by decide⟩
 rw[o1_may] at q
 exact q
theorem alive_back (w:World) :
  CB 31 #[(opb o1)] w (.tuple #[.agg #[.int .u8 1,.string ⟨#[35,110]⟩,.int .i64 (-3),.string ⟨#[]⟩],.int .i64 0]):=by
 refine (read_op (opb o1) w o1_len o1 [] 0 o1_read).mono ?_
 rintro e w' ⟨x,rfl,hx,hb⟩
 rw[show okS [] 0 (mayO o1)=true by rw[o1_may];decide] at hx ⊢
 rw[hx]
 exact ⟨rfl,hb⟩
theorem inner1 (w:World) (T:TypeId) (vs:Array Value):InnerE (((w.alloc (.cells #[.string ⟨#[49]⟩,.int .u64 1] 96)).alloc (.cells #[.string ⟨#[49]⟩,.int .u64 2,.int .u64 0] 98)).alloc (.cells vs T)) (x1 w.heap.size (w.heap.size+1)):=by
 refine ⟨?_,?_,⟨Row.Lies.nil _ _,fun y hy=>by cases hy⟩⟩
 ·refine Mark.Lies.below (w:=(w.alloc (.cells #[.string ⟨#[49]⟩,.int .u64 1] 96))) ?_ (balloc (balloc (Below.refl _ _) _) _)
  exact mark_of (Row.lies_new (E:=dE) w ⟨[49],1⟩ 96)
 ·refine Row.Lies.below (w:=((w.alloc (.cells #[.string ⟨#[49]⟩,.int .u64 1] 96)).alloc (.cells #[.string ⟨#[49]⟩,.int .u64 2,.int .u64 0] 98))) ?_ (balloc (Below.refl _ _) _)
  have q:=Row.lies_new (E:=cE) (w.alloc (.cells #[.string ⟨#[49]⟩,.int .u64 1] 96)) ⟨[49],2,0⟩ 98
  rw[World.size_alloc] at q
  exact q
theorem alive_any (w:World):CB 8 #[] w (.bool true):=by
 go_enter Tryz.func8,Tryz.ntmps8
 go_upto_region 2 with (fail)
 obtain ⟨W,hW⟩:=nm (((w.alloc (.cells #[.string ⟨#[49]⟩,.int .u64 1] 96)).alloc (.cells #[.string ⟨#[49]⟩,.int .u64 2,.int .u64 0] 98)).alloc (.cells #[.string ⟨#[35,110]⟩,.slice (some ⟨w.heap.size,0,none⟩) 1 1,.slice (some ⟨(w.heap.size+1),0,none⟩) 1 1,.slice none 0 0,.int .u64 0,.string ⟨#[]⟩,.bool false] 29))
 rw[← hW]
 have IX:InnerE W (x1 w.heap.size (w.heap.size+1)):=by rw[hW];exact inner1 w _ _
 have BE:Box W (w.heap.size+2) [.string ⟨#[35,110]⟩,.slice (some ⟨w.heap.size,0,none⟩) 1 1,.slice (some ⟨(w.heap.size+1),0,none⟩) 1 1,.slice none 0 0,.int .u64 0,.string ⟨#[]⟩,.bool false]:=by
  rw[hW]
  have q:=Box.new ((w.alloc (.cells #[.string ⟨#[49]⟩,.int .u64 1] 96)).alloc (.cells #[.string ⟨#[49]⟩,.int .u64 2,.int .u64 0] 98)) [.string ⟨#[35,110]⟩,.slice (some ⟨w.heap.size,0,none⟩) 1 1,.slice (some ⟨(w.heap.size+1),0,none⟩) 1 1,.slice none 0 0,.int .u64 0,.string ⟨#[]⟩,.bool false] 29 (by simp)
  simp only[World.size_alloc] at q
  exact q
 have hb:Below w.heap.size w W:=by rw[hW];exact balloc (balloc (balloc (Below.refl _ _) _) _) _
 obtain ⟨eb,heb⟩:=nm (w.heap.size+1+1)
 replace BE:Box W eb [.string ⟨#[35,110]⟩,.slice (some ⟨w.heap.size,0,none⟩) 1 1,.slice (some ⟨(w.heap.size+1),0,none⟩) 1 1,.slice none 0 0,.int .u64 0,.string ⟨#[]⟩,.bool false]:=by rw[heb];exact BE
 rw[← heb]
 obtain ⟨cb,hcb⟩:=nm (w.heap.size+1)
 rw[← hcb] at IX BE ⊢
 obtain ⟨mb,hmb⟩:=nm w.heap.size
 replace IX:InnerE W (x1 mb cb):=by rw[hmb];exact IX
 replace BE:Box W eb [.string ⟨#[35,110]⟩,.slice (some ⟨mb,0,none⟩) 1 1,.slice (some ⟨cb,0,none⟩) 1 1,.slice none 0 0,.int .u64 0,.string ⟨#[]⟩,.bool false]:=by rw[hmb];exact BE
 have hG:w.heap.size≤W.heap.size:=hb.size
 replace IX:=hid IX
 replace BE:=hid BE
 clear hW heb hcb hG hmb
 have AX:(({ data:=#[2,35,110,1,1,49,1,1,1,49,2,0] }:ByteArray))++{ data:=#[120] }={ data:=#[2,35,110,1,1,49,1,1,1,49,2,0,120] }:=rfl
 obtain ⟨t,ht⟩:=nm (opb o1)
 have AO:=hid (fun W=>(by rw[ht];exact alive_op W:CB 17 #[.agg #[.int .u8 1,.string ⟨#[35,110]⟩,.int .i64 (-3),.string ⟨#[]⟩]] W (.tuple #[t,.int .i64 0])))
 have AB:=hid (fun W=>(by rw[ht];exact alive_back W:CB 31 #[t] W (.tuple #[.agg #[.int .u8 1,.string ⟨#[35,110]⟩,.int .i64 (-3),.string ⟨#[]⟩],.int .i64 0])))
 have EO:∀ W,(binOp .eql 38 (.agg #[.int .u8 1,.string ⟨#[35,110]⟩,.int .i64 (-3),.string ⟨#[]⟩]) (.agg #[.int .u8 1,.string ⟨#[35,110]⟩,.int .i64 (-3),.string ⟨#[]⟩])).run Tryz.prog W=.ok (.bool true) W:=by
  intro W
  have q:=eql_op o1 o1 W
  rw[decide_eq_true (rfl:o1=o1)] at q
  exact q
 clear ht
 obtain ⟨c0,c1,c2,c3,c4,c5,c6⟩:=al7 BE.out.at
 go_wp2_with fail
 refine cr (alive_entry mb cb _ IX.out) fun v1 k1=>?_
 replace IX:=hid ((IX.out).below k1)
 replace BE:=hid ((BE.out).below k1)
 replace hb:=bstep hb k1
 clear k1 c0 c1 c2 c3 c4 c5 c6
 go_wp2_with fail
 refine (alive_read _).mono ?_
 rintro e v2 ⟨x,rfl,hx,hi,ho,k2⟩
 replace IX:=hid ((IX.out).below k2)
 replace BE:=hid ((BE.out).below k2)
 replace hb:=bstep hb k2
 clear k2
 have HX:=hid hx
 have OX:=hid ho
 have IR:=hid hi
 clear hx ho hi
 go_upto_region 4 with (fail)
 obtain ⟨W4,hW4⟩:=nm (v2.alloc (.cells x 29))
 rw[← hW4]
 have BR:Box W4 v2.heap.size x:=by rw[hW4];exact Box.new v2 x 29 (by simp)
 have kk:Below v2.heap.size v2 W4:=by rw[hW4];exact balloc (Below.refl _ _) _
 obtain ⟨rb,hrb⟩:=nm v2.heap.size
 rw[← hrb] at BR ⊢
 replace BR:=hid BR
 replace IX:=hid ((IX.out).below kk)
 replace BE:=hid ((BE.out).below kk)
 replace IR:=hid ((IR.out).below kk)
 replace hb:=bstep hb kk
 clear kk hW4 hrb
 have SM:=hid (fun W (h1:InnerE W x) (h2:InnerE W (x1 mb cb))=>(by
  have q:=sameE_any x (x1 mb cb) W h1 h2 OX.out (fit1 mb cb).ok
  rw[decide_eq_true (show x.e=(x1 mb cb).e from HX.out)] at q
  exact q:CB 23 #[.agg x,.agg #[.string ⟨#[35,110]⟩,.slice (some ⟨mb,0,none⟩) 1 1,.slice (some ⟨cb,0,none⟩) 1 1,.slice none 0 0,.int .u64 0,.string ⟨#[]⟩,.bool false]] W (.bool true)))
 go_wp2_with fail
 refine (alive_more _).mono ?_
 rintro e v3 ⟨x2,rfl,k3⟩
 replace IX:=hid ((IX.out).below k3)
 replace BE:=hid ((BE.out).below k3)
 replace IR:=hid ((IR.out).below k3)
 replace BR:=hid ((BR.out).below k3)
 replace hb:=bstep hb k3
 clear k3
 go_upto_region 5 with (fail)
 obtain ⟨W5,hW5⟩:=nm (v3.alloc (.cells x2 29))
 rw[← hW5]
 have BS:Box W5 v3.heap.size x2:=by rw[hW5];exact Box.new v3 x2 29 (by simp)
 have kk:Below v3.heap.size v3 W5:=by rw[hW5];exact balloc (Below.refl _ _) _
 obtain ⟨rs,hrs⟩:=nm v3.heap.size
 rw[← hrs] at BS ⊢
 replace BS:=hid BS
 replace IX:=hid ((IX.out).below kk)
 replace BE:=hid ((BE.out).below kk)
 replace IR:=hid ((IR.out).below kk)
 replace BR:=hid ((BR.out).below kk)
 replace hb:=bstep hb kk
 clear kk hW5 hrs BS
 go_wp2_with fail
 refine cr (alive_none _) fun v4 k4=>?_
 replace IX:=hid ((IX.out).below k4)
 replace BE:=hid ((BE.out).below k4)
 replace IR:=hid ((IR.out).below k4)
 replace BR:=hid ((BR.out).below k4)
 replace hb:=bstep hb k4
 clear k4
 go_upto_region 7 with (fail)
 obtain ⟨W7,hW7⟩:=nm (v4.alloc (.cells #[.int .u8 1,.string ⟨#[35,110]⟩,.int .i64 (-3),.string ⟨#[]⟩] 38))
 rw[← hW7]
 have BO:Box W7 v4.heap.size [.int .u8 1,.string ⟨#[35,110]⟩,.int .i64 (-3),.string ⟨#[]⟩]:=by rw[hW7];exact Box.new v4 [.int .u8 1,.string ⟨#[35,110]⟩,.int .i64 (-3),.string ⟨#[]⟩] 38 (by simp)
 have kk:Below v4.heap.size v4 W7:=by rw[hW7];exact balloc (Below.refl _ _) _
 obtain ⟨ob,hob⟩:=nm v4.heap.size
 rw[← hob] at BO ⊢
 replace BO:=hid BO
 replace IX:=hid ((IX.out).below kk)
 replace BE:=hid ((BE.out).below kk)
 replace IR:=hid ((IR.out).below kk)
 replace BR:=hid ((BR.out).below kk)
 replace hb:=bstep hb kk
 clear kk hW7 hob
 obtain ⟨c0,c1,c2,c3⟩:=al4 BO.out.at
 go_wp2_with fail
 refine cr (AO.out _) fun v5 k5=>?_
 replace IX:=hid ((IX.out).below k5)
 replace BE:=hid ((BE.out).below k5)
 replace IR:=hid ((IR.out).below k5)
 replace BR:=hid ((BR.out).below k5)
 replace BO:=hid ((BO.out).below k5)
 replace hb:=bstep hb k5
 clear k5 c0 c1 c2 c3
 go_wp2_with fail
 refine cr (AB.out _) fun v6 k6=>?_
 replace IX:=hid ((IX.out).below k6)
 replace BE:=hid ((BE.out).below k6)
 replace IR:=hid ((IR.out).below k6)
 replace BR:=hid ((BR.out).below k6)
 replace BO:=hid ((BO.out).below k6)
 replace hb:=bstep hb k6
 clear k6
 go_upto_region 9 with (fail)
 obtain ⟨W9,hW9⟩:=nm (v6.alloc (.cells #[.int .u8 1,.string ⟨#[35,110]⟩,.int .i64 (-3),.string ⟨#[]⟩] 38))
 rw[← hW9]
 have BP:Box W9 v6.heap.size [.int .u8 1,.string ⟨#[35,110]⟩,.int .i64 (-3),.string ⟨#[]⟩]:=by rw[hW9];exact Box.new v6 [.int .u8 1,.string ⟨#[35,110]⟩,.int .i64 (-3),.string ⟨#[]⟩] 38 (by simp)
 have kk:Below v6.heap.size v6 W9:=by rw[hW9];exact balloc (Below.refl _ _) _
 obtain ⟨pb,hpb⟩:=nm v6.heap.size
 rw[← hpb] at BP ⊢
 replace BP:=hid BP
 replace IX:=hid ((IX.out).below kk)
 replace BE:=hid ((BE.out).below kk)
 replace IR:=hid ((IR.out).below kk)
 replace BR:=hid ((BR.out).below kk)
 replace BO:=hid ((BO.out).below kk)
 replace hb:=bstep hb kk
 clear kk hW9 hpb
 obtain ⟨c0,c1,c2,c3,c4,c5,c6⟩:=al7 BE.out.at
 obtain ⟨f0,f1,f2,f3,f4,f5,f6⟩:=al7 BR.out.at
 go_wp2_with fail
 refine cr (SM.out _ IR.out IX.out) fun v7 k7=>?_
 replace IX:=hid ((IX.out).below k7)
 replace BE:=hid ((BE.out).below k7)
 replace IR:=hid ((IR.out).below k7)
 replace BR:=hid ((BR.out).below k7)
 replace BO:=hid ((BO.out).below k7)
 replace BP:=hid ((BP.out).below k7)
 replace hb:=bstep hb k7
 clear k7 c0 c1 c2 c3 c4 c5 c6 f0 f1 f2 f3 f4 f5 f6
 obtain ⟨c0,c1,c2,c3⟩:=al4 BO.out.at
 obtain ⟨f0,f1,f2,f3⟩:=al4 BP.out.at
 go_wp2
 go_ret
 exact ⟨rfl,hb⟩
end CoderLaw
set_option maxRecDepth 100000
set_option maxHeartbeats 8000000
namespace Coder
open RowKit YtnpjkmomllkhpaaGreatDoor.Mark Num Wire Bag Dots
structure RS.Sz (x:RS):Prop where
 a:x.a.length≤1048576
 am:∀ m ∈ x.a,m.p.length≤1048576∧m.n≤18446744073709551615
 e:x.e.length≤1048576
 em:∀ y ∈ x.e,y.Ok
 p:x.p.length≤1048576
 pm:∀ m ∈ x.p,m.length≤1048576
theorem largeS_any (x:RS) (w:World) (hx:InnerS w x) (ox:x.Sz) :
  Calls Tryz.prog 6 #[.agg x] w fun e w'=>∃ z,e=.returned (.bool z)∧(z=false→x.Few)∧Below w.heap.size w w':=by
 have lx:=hid hx
 have hnx:=ox.e
 have hnp:=ox.p
 have OX:=hid ox
 clear hx ox
 go_enter Tryz.func6,Tryz.ntmps6
 go_upto_region 1 with (fail)
 have hb0:=balloc (Below.refl w.heap.size w) (.cells x 33)
 obtain ⟨p0,p1,p2⟩:=al3 (bx w x 33)
 obtain ⟨w0,hw0⟩:=nm (w.alloc (.cells x 33))
 rw[← hw0] at hb0 p0 p1 p2 ⊢
 obtain ⟨bp,hbp⟩:=nm w.heap.size
 rw[← hbp] at p0 p1 p2 ⊢
 have hb:=hb0
 clear hb0 hw0 hbp
 replace lx:=hid (lx.out.below hb)
 by_cases h0:60<x.a.length
 ·have d0:decide ((60:Int)<(x.a.length:Int))=true:=dT
  clear h0
  go_wp2
  go_ret
  exact ⟨true,rfl,(fun h=>by cases h),hb⟩
 have d0:decide ((60:Int)<(x.a.length:Int))=false:=dF
 replace h0:=hid h0
 by_cases h1:20<x.e.length
 ·have d1:decide ((20:Int)<(x.e.length:Int))=true:=dT
  clear h1
  go_wp2
  go_ret
  exact ⟨true,rfl,(fun h=>by cases h),hb⟩
 have d1:decide ((20:Int)<(x.e.length:Int))=false:=dF
 replace h1:=hid h1
 by_cases h2:60<x.p.length
 ·have d2:decide ((60:Int)<(x.p.length:Int))=true:=dT
  clear h2
  go_wp2
  go_ret
  exact ⟨true,rfl,(fun h=>by cases h),hb⟩
 have d2:decide ((60:Int)<(x.p.length:Int))=false:=dF
 replace h2:=hid h2
 go_wp2_with fail
 go_loopw [3] (fun iv wr=>∃ k:Nat,k≤x.e.length∧iv=.int .i64 k∧Hid (∀ y ∈ x.e.take k,y.Few)∧Below w.heap.size w wr∧(wr.cell? ⟨bp,0,none⟩=some (.slice x.aa x.a.length x.ac))∧(wr.cell? ⟨bp,1,none⟩=some (.slice x.ea x.e.length x.ec))∧(wr.cell? ⟨bp,2,none⟩=some (.slice x.pa x.p.length x.pc))∧Hid (InnerS wr x)) (fun iv _=>x.e.length - (intOf iv).toNat)
 case atStart=>exact ⟨0,by omega,rfl,hid (fun y hy=>by cases hy),hb,p0,p1,p2,lx⟩
 case round =>
  clear hb p0 p1 p2 lx
  obtain ⟨k,hk,rfl,hs,hb,p0,p1,p2,lx⟩:=hrel
  by_cases hlt:k<x.e.length
  ·
   have d3:decide ((k:Int)<(x.e.length:Int))=true:=dT
   have j1:(0:Int)≤(k:Int):=by omega
   have j2:(k:Int)<(x.e.length:Int):=by omega
   obtain ⟨b,o,hea,hc⟩:=lx.out.e.1.2 (by omega)
   rw[hea] at p1 ⊢
   obtain ⟨c0,c1,c2,c3,c4,c5,c6⟩:=cl7 (o+k*7) (hc k hlt)
   have lu:InnerE wr (x.e[k]):=lx.out.e.2 _ (List.getElem_mem hlt)
   have OU:=OX.out.em _ (List.getElem_mem hlt)
   have t1:x.e.take (k+1)=x.e.take k++[x.e[k]]:=List.take_succ_eq_append_getElem hlt
   obtain ⟨u,hu⟩:=nm x.e[k]
   rw[← hu] at lu OU t1 c0 c1 c2 c3 c4 c5 c6
   have D0:=hid (largeE_any u wr lu OU)
   have HT:Hid (u.Few→∀ y ∈ x.e.take (k+1),y.Few):=hid (fun h y hy=>by
    rw[t1] at hy
    rcases List.mem_append.1 hy with hy | hy
    · exact hs.out y hy
    · rw[List.mem_singleton.1 hy];exact h)
   have HI:=hid hlt
   clear hc hu t1 hlt hs OU lu hea
   go_wp2_with fail
   refine (D0.out).mono ?_
   rintro e v1 ⟨z,rfl,hz,k1⟩
   replace hz:=hid hz
   have hA:=kp k1 (aj3 p0 p1 p2)
   clear p0 p1 p2
   obtain ⟨p0,p1,p2⟩:=hA
   replace lx:=hid ((lx.out).below k1)
   replace hb:=bstep hb k1
   clear k1 c0 c1 c2 c3 c4 c5 c6 D0
   cases z
   rotate_left
   ·
    go_wp2
    go_ret
    exact ⟨true,rfl,(fun h=>by cases h),hb⟩
   have HT2:=hid (HT.out (by first | exact hz.out rfl | exact hz.out trivial | exact hz.out))
   clear HT hz
   go_wp2
   go_roundw
   case rel=>exact ⟨k+1,by have:=HI.out;omega,by go_num,HT2,hb,p0,p1,p2,lx⟩
   case measure=>simp[intOf];have:=HI.out;omega
  ·
   have HE:Hid (∀ y ∈ x.e,y.Few):=hid (by have h:=hs.out;rw[List.take_of_length_le (by omega)] at h;exact h)
   have d3:decide ((k:Int)<(x.e.length:Int))=false:=dF
   clear hs
   go_wp2_with fail
   clear hlt
   go_loopw [4] (fun iv wr=>∃ k:Nat,k≤x.p.length∧iv=.int .i64 k∧Hid (∀ t ∈ x.p.take k,t.length≤256)∧Below w.heap.size w wr∧(wr.cell? ⟨bp,0,none⟩=some (.slice x.aa x.a.length x.ac))∧(wr.cell? ⟨bp,1,none⟩=some (.slice x.ea x.e.length x.ec))∧(wr.cell? ⟨bp,2,none⟩=some (.slice x.pa x.p.length x.pc))∧Hid (InnerS wr x)) (fun iv _=>x.p.length - (intOf iv).toNat)
   case atStart=>exact ⟨0,by omega,rfl,hid (fun y hy=>by cases hy),hb,p0,p1,p2,lx⟩
   case round =>
    clear hb p0 p1 p2 lx d3 hk
    obtain ⟨k,hk,rfl,hs,hb,p0,p1,p2,lx⟩:=hrel
    by_cases hlt:k<x.p.length
    rotate_left
    ·have HE2:Hid (∀ t ∈ x.p,t.length≤256):=hid (by have h:=hs.out;rw[List.take_of_length_le (by omega)] at h;exact h)
     go_wp2
     go_ret
     exact ⟨false,rfl,(fun _=>⟨by have:=h0.out;omega,by have:=h1.out;omega,HE.out,by have:=h2.out;omega,HE2.out⟩),hb⟩
    have d3:decide ((k:Int)<(x.p.length:Int))=true:=dT
    have j1:(0:Int)≤(k:Int):=by omega
    have j2:(k:Int)<(x.p.length:Int):=by omega
    obtain ⟨b,o,hea,hc⟩:=lx.out.p.2 (by omega)
    rw[hea] at p2 ⊢
    have c0:wr.cell? ⟨b,o+k,none⟩=some ↑(x.p[k]):=by
     have q:=hc k hlt 0 _ rfl
     rw[show o+k*wE.k+0=o+k by show o+k*1+0=o+k;omega] at q
     exact q
    have t1:x.p.take (k+1)=x.p.take k++[x.p[k]]:=List.take_succ_eq_append_getElem hlt
    obtain ⟨u,hu⟩:=nm x.p[k]
    rw[← hu] at t1 c0
    have zu:=Str.size_mk u
    have HT:Hid (u.length≤256→∀ y ∈ x.p.take (k+1),y.length≤256):=hid (fun h y hy=>by
     rw[t1] at hy
     rcases List.mem_append.1 hy with hy | hy
     · exact hs.out y hy
     · rw[List.mem_singleton.1 hy];exact h)
    have HI:=hid hlt
    clear hc hu t1 hlt hs hea
    by_cases h9:256<u.length
    ·have d9:decide ((256:Int)<(u.length:Int))=true:=dT
     clear h9
     go_wp2
     go_ret
     exact ⟨true,rfl,(fun h=>by cases h),hb⟩
    have d9:decide ((256:Int)<(u.length:Int))=false:=dF
    have HT2:=hid (HT.out (by omega))
    clear HT h9
    go_wp2
    go_roundw
    case rel=>exact ⟨k+1,by have:=HI.out;omega,by go_num,HT2,hb,p0,p1,p2,lx⟩
    case measure=>simp[intOf];have:=HI.out;omega
end Coder
set_option maxRecDepth 100000
set_option maxHeartbeats 8000000
namespace Coder
open RowKit YtnpjkmomllkhpaaGreatDoor.Mark Num Wire Bag Dots
theorem writeState (x:RS) (w:World) (hx:InnerS w x) (ox:x.Ok) (of:x.Fine) (hs:(fS x).length≤70368744177664) :
  CB 41 #[.agg x,.func (.func 42) #[] #[],.func (.func 43) #[] #[]] w (.tuple #[(outS (mayS x.s) (fS x)),.int .i64 (outE (mayS x.s))]):=by
 have lx:=hid hx
 have OX:=hid ox
 have OF:=hid of
 have HS:=hid hs
 clear hx ox of hs
 obtain ⟨q,hq⟩:=nm (mayS x.s)
 obtain ⟨l,hl⟩:=nm (fS x)
 rw[← hq,← hl]
 have C0:=hid (fun W (h:InnerS W x)=>qB hq (mayS_any x W h OX.out OF.out))
 have C1:=hid (fun W (h:InnerS W x)=>qS hl (state_any x W h OX.out HS.out))
 clear hq hl
 go_enter Tryz.func41,Tryz.ntmps41
 go_upto_region 1 with (fail)
 have hb0:=balloc (Below.refl w.heap.size w) (.cells x 33)
 obtain ⟨p0,p1,p2⟩:=al3 (bx w x 33)
 obtain ⟨w0,hw0⟩:=nm (w.alloc (.cells x 33))
 rw[← hw0] at hb0 p0 p1 p2 ⊢
 obtain ⟨bp,hbp⟩:=nm w.heap.size
 rw[← hbp] at p0 p1 p2 ⊢
 have hb:=hb0
 clear hb0 hw0 hbp
 replace lx:=hid (lx.out.below hb)
 go_wp2_with fail
 refine cr (C0.out _ lx.out) fun v1 k1=>?_
 have hA:=kp k1 (aj3 p0 p1 p2)
 clear p0 p1 p2
 obtain ⟨p0,p1,p2⟩:=hA
 replace lx:=hid ((lx.out).below k1)
 replace hb:=bstep hb k1
 clear k1
 cases q
 ·go_wp2
  go_ret2
  exact ⟨rfl,hb⟩
 go_wp2_with fail
 refine cr (C1.out _ lx.out) fun v2 k2=>?_
 have hA:=kp k2 (aj3 p0 p1 p2)
 clear p0 p1 p2
 obtain ⟨p0,p1,p2⟩:=hA
 replace lx:=hid ((lx.out).below k2)
 replace hb:=bstep hb k2
 clear k2
 go_wp2
 go_ret2
 exact ⟨rfl,hb⟩
theorem giveState (x:RS) (w:World) (hx:InnerS w x) (ox:x.Ok) (of:x.Fine) (hs:(fS x).length≤70368744177664) :
  CB 11 #[.agg x] w (.tuple #[(outS (mayS x.s) (fS x)),.int .i64 (outE (mayS x.s))]):=by
 have lx:=hid hx
 have OX:=hid ox
 have OF:=hid of
 have HS:=hid hs
 clear hx ox of hs
 obtain ⟨q,hq⟩:=nm (mayS x.s)
 obtain ⟨l,hl⟩:=nm (fS x)
 rw[← hq,← hl]
 have C0:=hid (fun W (h:InnerS W x)=>(by rw[hq,hl];exact writeState x W h OX.out OF.out HS.out:CB 41 #[.agg x,.func (.func 42) #[] #[],.func (.func 43) #[] #[]] W (.tuple #[(outS q l),.int .i64 (outE q)])))
 clear hq hl
 go_enter Tryz.func11,Tryz.ntmps11
 go_upto_region 1 with (fail)
 have hb0:=balloc (Below.refl w.heap.size w) (.cells x 33)
 obtain ⟨p0,p1,p2⟩:=al3 (bx w x 33)
 obtain ⟨w0,hw0⟩:=nm (w.alloc (.cells x 33))
 rw[← hw0] at hb0 p0 p1 p2 ⊢
 obtain ⟨bp,hbp⟩:=nm w.heap.size
 rw[← hbp] at p0 p1 p2 ⊢
 have hb:=hb0
 clear hb0 hw0 hbp
 replace lx:=hid (lx.out.below hb)
 go_wp2_with fail
 refine cr (C0.out _ lx.out) fun v3 k3=>?_
 have hA:=kp k3 (aj3 p0 p1 p2)
 clear p0 p1 p2
 obtain ⟨p0,p1,p2⟩:=hA
 replace lx:=hid ((lx.out).below k3)
 replace hb:=bstep hb k3
 clear k3
 go_wp2
 go_ret2
 exact ⟨rfl,hb⟩
end Coder
set_option maxRecDepth 100000
set_option maxHeartbeats 4000000
namespace RefMay
open RowKit YtnpjkmomllkhpaaGreatDoor.Mark Num Wire Bag Dots Coder
theorem mayC_any (a:Option Addr) (n c:Nat) (L:List C) (w:World) (hL:Row.Lies cE w a n L) (hn:n≤1048576) :
  CB 106 #[.slice a n c] w (mayCt none L):=by
 have HL:=hid hL
 have HN:=hid hL.1
 clear hL
 obtain ⟨V,hV⟩:=nm (mayCt none L)
 have HM:Hid (V=mayCt (pC L 0) (L.drop 0)):=hid (by rw[hV];rfl)
 rw[← hV]
 clear hV
 have hb:=Below.refl w.heap.size w
 go_enter Tryz.func106,Tryz.ntmps106
 go_wp2_with fail
 go_loopw [3] (fun iv wr=>∃ i:Nat,i≤n∧iv=.int .i64 i∧Hid (V=mayCt (pC L i) (L.drop i))∧Below w.heap.size w wr) (fun iv _=>n - (intOf iv).toNat)
 case atStart=>exact ⟨0,by omega,rfl,HM,hb⟩
 case round =>
  clear HM hb
  obtain ⟨i,hi,rfl,HM,hb⟩:=hrel
  by_cases hlt:i<n
  rotate_left
  ·have e:i=n:=by omega
   have HE:Hid (V=true):=hid (by rw[HM.out,List.drop_eq_nil_of_le (by have:=HN.out;omega)];rfl)
   go_wp2
   go_ret
   exact ⟨by rw[HE.out];rfl,hb⟩
  have d1:decide ((i:Int)<(n:Int))=true:=dT
  have j1:(0:Int)≤(i:Int):=by omega
  have j2:(i:Int)<(n:Int):=by omega
  have hil:i<L.length:=by have:=HN.out;omega
  obtain ⟨b,o,rfl,hc⟩:=(HL.out.below hb).2 (by omega)
  obtain ⟨c0,c1,c2⟩:=cl3 (o+i*3) (hc i hil)
  have hst:=mayCt_step hil
  rw[← HM.out] at hst
  have HPV:Hid (∀ k',i=k'+1→∃ pv,pC L i=some pv∧wr.cell? ⟨b,o+k'*3,none⟩=some ↑pv):=hid (fun k' hk=>by
   subst hk
   have hkl:k'<L.length:=by omega
   exact ⟨(L[k']).p,pC_next hkl,hc k' hkl 0 _ rfl⟩)
  obtain ⟨x,hx⟩:=nm L[i]
  rw[← hx] at c0 c1 c2 hst
  obtain ⟨t,A,B⟩:=x
  dsimp only at c0 c1 c2 hst
  obtain ⟨o',ho'⟩:=nm (pC L i)
  rw[← ho'] at hst
  have HO':=hid ho'
  obtain ⟨bad,hbad⟩:=nm ((decide (A=0) && decide (B=0)) || befT o' t)
  rw[← hbad] at hst
  have HST:=hid hst
  have HBD:=hid hbad
  have HI:=hid hlt
  clear hc hx hst hil hlt HM ho' hbad
  go_upto_region 4 with (fail)
  go_cut [41] (fun zv wx=>zv=.bool bad∧Below w.heap.size w wx)
  case first =>
   by_cases hA:A=0
   ·have a1:((A:Int) == 0)=true:=bT
    by_cases hB:B=0
    ·have a2:((B:Int) == 0)=true:=bT
     have HZ:Hid (bad=true):=hid (by rw[HBD.out,decide_eq_true hA,decide_eq_true hB];rfl)
     clear hA hB HPV
     go_wp2_with fail
     refine rhd (aj4 hb c0 c1 c2) fun hHeld=>?_
     refine tk [0,1,2,3,4,5,6,7,8,9,10,11,12,13,14,15,16,17,18,19,20,21,22,23,24,25,26,27,28,29,30,31] ?_
     refine tD ?_
     clear hb c0 c1 c2
     obtain ⟨hb,c0,c1,c2⟩:=hHeld
     go_wp2_with fail
     go_meet
     exact ⟨by rw[HZ.out],hb⟩
    have a2:((B:Int) == 0)=false:=bF
    have HY:Hid (bad=befT o' t):=hid (by rw[HBD.out,decide_eq_false hB,Bool.and_false,Bool.false_or])
    clear hA hB
    by_cases hi0:i=0
    ·have z1:decide ((0:Int)<(i:Int))=false:=dF
     have z1n:decide (0<i)=false:=dF
     have HZ:Hid (bad=false):=hid (by rw[HY.out,HO'.out,hi0];rfl)
     clear hi0 HPV
     go_wp2_with fail
     refine rhd (aj4 hb c0 c1 c2) fun hHeld=>?_
     refine tk [0,1,2,3,4,5,6,7,8,9,10,11,12,13,14,15,16,17,18,19,20,21,22,23,24,25,26,27,28,29,30,31] ?_
     refine tD ?_
     clear hb c0 c1 c2
     obtain ⟨hb,c0,c1,c2⟩:=hHeld
     go_wp2_with fail
     go_meet
     exact ⟨by rw[HZ.out],hb⟩
    obtain ⟨k',hk'⟩:∃ k',i=k'+1:=⟨i - 1,by omega⟩
    obtain ⟨pv,hpv,hp0⟩:=HPV.out k' hk'
    have z1:decide ((0:Int)<(i:Int))=true:=dT
    have z1n:decide (0<i)=true:=dT
    have w1:IntKind.i64.wrap ((i:Int) - 1)=(k':Int):=by rw[IntKind.wrap_i64];omega
    have j5:(0:Int)≤(k':Int):=by omega
    have j6:(k':Int)<(n:Int):=by omega
    have z2:o'=some pv:=HO'.out.trans hpv
    have HY2:Hid (bad = !(decide (TL pv t))):=hid (by rw[HY.out,z2];rfl)
    have HK':=hid hk'
    clear z2 hi0 HPV hpv hk' HY
    rcases tl_ways pv t with hw | hw | hw
    ·obtain ⟨q1,q2,q3,q4⟩:=ways_less hw
     have HZ:Hid (bad=false):=hid (by rw[HY2.out,decide_eq_true hw];rfl)
     clear hw
     go_wp2_with fail
     refine rhd (aj5 hb c0 c1 c2 hp0) fun hHeld=>?_
     refine tk [0,1,2,3,4,5,6,7,8,9,10,11,12,13,14,15,16,17,18,19,20,21,22,23,24,25,26,27,28,29,30,31] ?_
     refine tD ?_
     clear hb c0 c1 c2 hp0
     obtain ⟨hb,c0,c1,c2,hp0⟩:=hHeld
     go_wp2_with fail
     go_meet
     exact ⟨by rw[HZ.out],hb⟩
    ·have q1:=less_self t
     have HZ:Hid (bad=true):=hid (by rw[HY2.out,decide_eq_false (by rw[hw];exact linT.irr t)];rfl)
     have q3:(pv == t)=true:=by simp[hw]
     have q4:(t == pv)=true:=by simp[hw]
     have q5:Op.bytesLess pv t=false:=by rw[hw];exact q1
     have q6:Op.bytesLess t pv=false:=by rw[hw];exact q1
     clear hw
     go_wp2_with fail
     refine rhd (aj5 hb c0 c1 c2 hp0) fun hHeld=>?_
     refine tk [0,1,2,3,4,5,6,7,8,9,10,11,12,13,14,15,16,17,18,19,20,21,22,23,24,25,26,27,28,29,30,31] ?_
     refine tD ?_
     clear hb c0 c1 c2 hp0
     obtain ⟨hb,c0,c1,c2,hp0⟩:=hHeld
     go_wp2_with fail
     go_meet
     exact ⟨by rw[HZ.out],hb⟩
    ·obtain ⟨q1,q2,q3,q4⟩:=ways_less hw
     have HZ:Hid (bad=true):=hid (by rw[HY2.out,decide_eq_false (fun h=>linT.irr _ (linT.trans hw h))];rfl)
     clear hw
     go_wp2_with fail
     refine rhd (aj5 hb c0 c1 c2 hp0) fun hHeld=>?_
     refine tk [0,1,2,3,4,5,6,7,8,9,10,11,12,13,14,15,16,17,18,19,20,21,22,23,24,25,26,27,28,29,30,31] ?_
     refine tD ?_
     clear hb c0 c1 c2 hp0
     obtain ⟨hb,c0,c1,c2,hp0⟩:=hHeld
     go_wp2_with fail
     go_meet
     exact ⟨by rw[HZ.out],hb⟩
   have a1:((A:Int) == 0)=false:=bF
   have HY:Hid (bad=befT o' t):=hid (by rw[HBD.out,decide_eq_false hA,Bool.false_and,Bool.false_or])
   clear hA
   by_cases hi0:i=0
   ·have z1:decide ((0:Int)<(i:Int))=false:=dF
    have z1n:decide (0<i)=false:=dF
    have HZ:Hid (bad=false):=hid (by rw[HY.out,HO'.out,hi0];rfl)
    clear hi0 HPV
    go_wp2_with fail
    refine rhd (aj4 hb c0 c1 c2) fun hHeld=>?_
    refine tk [0,1,2,3,4,5,6,7,8,9,10,11,12,13,14,15,16,17,18,19,20,21,22,23,24,25,26,27,28,29,30,31] ?_
    refine tD ?_
    clear hb c0 c1 c2
    obtain ⟨hb,c0,c1,c2⟩:=hHeld
    go_wp2_with fail
    go_meet
    exact ⟨by rw[HZ.out],hb⟩
   obtain ⟨k',hk'⟩:∃ k',i=k'+1:=⟨i - 1,by omega⟩
   obtain ⟨pv,hpv,hp0⟩:=HPV.out k' hk'
   have z1:decide ((0:Int)<(i:Int))=true:=dT
   have z1n:decide (0<i)=true:=dT
   have w1:IntKind.i64.wrap ((i:Int) - 1)=(k':Int):=by rw[IntKind.wrap_i64];omega
   have j5:(0:Int)≤(k':Int):=by omega
   have j6:(k':Int)<(n:Int):=by omega
   have z2:o'=some pv:=HO'.out.trans hpv
   have HY2:Hid (bad = !(decide (TL pv t))):=hid (by rw[HY.out,z2];rfl)
   have HK':=hid hk'
   clear z2 hi0 HPV hpv hk' HY
   rcases tl_ways pv t with hw | hw | hw
   ·obtain ⟨q1,q2,q3,q4⟩:=ways_less hw
    have HZ:Hid (bad=false):=hid (by rw[HY2.out,decide_eq_true hw];rfl)
    clear hw
    go_wp2_with fail
    refine rhd (aj5 hb c0 c1 c2 hp0) fun hHeld=>?_
    refine tk [0,1,2,3,4,5,6,7,8,9,10,11,12,13,14,15,16,17,18,19,20,21,22,23,24,25,26,27,28,29,30,31] ?_
    refine tD ?_
    clear hb c0 c1 c2 hp0
    obtain ⟨hb,c0,c1,c2,hp0⟩:=hHeld
    go_wp2_with fail
    go_meet
    exact ⟨by rw[HZ.out],hb⟩
   ·have q1:=less_self t
    have HZ:Hid (bad=true):=hid (by rw[HY2.out,decide_eq_false (by rw[hw];exact linT.irr t)];rfl)
    have q3:(pv == t)=true:=by simp[hw]
    have q4:(t == pv)=true:=by simp[hw]
    have q5:Op.bytesLess pv t=false:=by rw[hw];exact q1
    have q6:Op.bytesLess t pv=false:=by rw[hw];exact q1
    clear hw
    go_wp2_with fail
    refine rhd (aj5 hb c0 c1 c2 hp0) fun hHeld=>?_
    refine tk [0,1,2,3,4,5,6,7,8,9,10,11,12,13,14,15,16,17,18,19,20,21,22,23,24,25,26,27,28,29,30,31] ?_
    refine tD ?_
    clear hb c0 c1 c2 hp0
    obtain ⟨hb,c0,c1,c2,hp0⟩:=hHeld
    go_wp2_with fail
    go_meet
    exact ⟨by rw[HZ.out],hb⟩
   ·obtain ⟨q1,q2,q3,q4⟩:=ways_less hw
    have HZ:Hid (bad=true):=hid (by rw[HY2.out,decide_eq_false (fun h=>linT.irr _ (linT.trans hw h))];rfl)
    clear hw
    go_wp2_with fail
    refine rhd (aj5 hb c0 c1 c2 hp0) fun hHeld=>?_
    refine tk [0,1,2,3,4,5,6,7,8,9,10,11,12,13,14,15,16,17,18,19,20,21,22,23,24,25,26,27,28,29,30,31] ?_
    refine tD ?_
    clear hb c0 c1 c2 hp0
    obtain ⟨hb,c0,c1,c2,hp0⟩:=hHeld
    go_wp2_with fail
    go_meet
    exact ⟨by rw[HZ.out],hb⟩
  clear hb c0 c1 c2
  obtain ⟨rfl,hb⟩:=hcut
  cases bad
  ·have HV2:Hid (V=mayCt (pC L (i+1)) (L.drop (i+1))):=hid (by rw[HST.out];rfl)
   clear HST HBD
   go_wp2
   go_roundw
   case rel=>exact ⟨i+1,by have:=HI.out;omega,by go_num,HV2,hb⟩
   case measure=>simp[intOf];have:=HI.out;omega
  ·have HV2:Hid (V=false):=hid (by rw[HST.out];rfl)
   clear HST HBD
   go_wp2
   go_ret
   exact ⟨by rw[HV2.out];rfl,hb⟩
end RefMay
end Go.Proofs.YtnpjkmomllkhpaaGreatDoor
