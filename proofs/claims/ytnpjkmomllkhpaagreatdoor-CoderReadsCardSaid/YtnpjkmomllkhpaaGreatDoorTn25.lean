/- CoderSMay, CoderGive, ReadState, RefMayC, RefMayE, CoderSameE. -/
import Derived.Test.YtnpjkmomllkhpaaGreatDoorTn24
set_option linter.unusedVariables false
set_option linter.unusedSimpArgs false
set_option maxRecDepth 100000
set_option maxHeartbeats 40000000
namespace Go.Proofs.YtnpjkmomllkhpaaGreatDoor
namespace Coder
open RowKit YtnpjkmomllkhpaaGreatDoor.Mark Num Wire Bag Dots
theorem cov_any (L K:List M) (a1 a2:Option Addr) (n1 n2 c1 c2:Nat) (w:World) (hL:Mark.Lies w a1 n1 L) (hK:Mark.Lies w a2 n2 K) (hn1:n1≤1099511627776) (hn2:n2≤1099511627776) :
  CB 112 #[.slice a1 n1 c1,.slice a2 n2 c2] w (covB L K) :=
 (covers_any L K a1 a2 n1 n2 c1 c2 w hL hK hn1 hn2).mono fun e w' ⟨r',he,hr,hb⟩=>⟨by rw[he];congr 2;rw[Bool.eq_iff_iff,hr,cov_iff],hb⟩
def pE (L:List RE) (k:Nat):Option (List UInt8):=if k=0 then none else (L[k - 1]?).map RE.k
theorem pE_next {L:List RE} {k:Nat} (h:k<L.length):pE L (k+1)=some L[k].k:=by
 unfold pE;rw[if_neg (by omega),Nat.add_sub_cancel,List.getElem?_eq_getElem h];rfl
def mayRs (s:List M):Option (List UInt8)→List RE→Bool
 | _,[]=>true
 | o,e::l=>(mayE e.e && (!befT o e.k && covB s e.s)) && mayRs s (some e.k) l
theorem mayRs_is (s:List M):∀ (o:Option (List UInt8)) (L:List RE),mayEs s o (L.map RE.e)=mayRs s o L
 | _,[]=>rfl
 | o,e::l=>by
  show ((mayE e.e && (!befT o e.k && covB s e.s)) && mayEs s (some e.k) (l.map RE.e))=((mayE e.e && (!befT o e.k && covB s e.s)) && mayRs s (some e.k) l)
  rw[mayRs_is s (some e.k) l]
theorem mayRs_step (s:List M) {L:List RE} {k:Nat} (h:k<L.length):mayRs s (pE L k) (L.drop k)=((mayE L[k].e && (!befT (pE L k) L[k].k && covB s L[k].s)) && mayRs s (pE L (k+1)) (L.drop (k+1))):=by
 rw[List.drop_eq_getElem_cons h,pE_next h];rfl
def pW (L:List (List UInt8)) (k:Nat):Option (List UInt8):=if k=0 then none else L[k - 1]?
theorem pW_next {L:List (List UInt8)} {k:Nat} (h:k<L.length):pW L (k+1)=some L[k]:=by
 unfold pW;rw[if_neg (by omega),Nat.add_sub_cancel,List.getElem?_eq_getElem h]
theorem mayPr_step (s:List M) {L:List (List UInt8)} {k:Nat} (h:k<L.length):mayPr s (pW L k) (L.drop k)=((!decide (L[k]=[]) && (!befT (pW L k) L[k] && decide (ofL s L[k]=0))) && mayPr s (pW L (k+1)) (L.drop (k+1))):=by
 rw[List.drop_eq_getElem_cons h,pW_next h];rfl
def RS.Fine (x:RS):Prop:=∀ y ∈ x.e,Bag.Fine (y.j.map RI.it)
theorem mayS_any (x:RS) (w:World) (hx:InnerS w x) (ox:x.Ok) (of:x.Fine) :
  CB 42 #[.agg x] w (mayS x.s):=by
 have lx:=hid hx;have OX:=hid ox;have OF:=hid of;have hne:=ox.e;have hnp:=ox.p;clear hx ox of;obtain ⟨q0,hq0⟩:=nm (mayL x.a);have HV:Hid (mayS x.s=(q0 && (mayRs x.a none x.e && mayPr x.a none x.p))):=hid (by rw[hq0,← mayRs_is];rfl);have C0:=hid (fun W (hx:InnerS W x)=>qB hq0 (Dots.may_any x.a x.aa x.a.length x.ac W hx.a (by have:=OX.out.a;omega) (ok_of OX.out.am)));clear hq0;go_enter Tryz.func42,Tryz.ntmps42;go_upto_region 1 with (fail)
 have hb0:=balloc (Below.refl w.heap.size w) (.cells x 33);obtain ⟨p0,p1,p2⟩:=al3 (bx w x 33);obtain ⟨w0,hw0⟩:=nm (w.alloc (.cells x 33));rw[← hw0] at hb0 p0 p1 p2 ⊢;obtain ⟨bp,hbp⟩:=nm w.heap.size;rw[← hbp] at p0 p1 p2 ⊢;have hb:=hb0;clear hb0 hw0 hbp;replace lx:=hid (lx.out.below hb);go_wp2_with fail
 refine cr (C0.out _ lx.out) fun v1 k1=>?_;have hA:=kp k1 (aj3 p0 p1 p2);clear p0 p1 p2;obtain ⟨p0,p1,p2⟩:=hA;replace lx:=hid ((lx.out).below k1);replace hb:=bstep hb k1;clear k1 C0;cases q0
 ·have HV2:Hid (mayS x.s=false):=hid (by rw[HV.out];rfl);go_wp2;go_ret;exact ⟨by rw[HV2.out];rfl,hb⟩
 obtain ⟨U,hU⟩:=nm (mayPr x.a none x.p);have HV0:Hid (mayS x.s=(mayRs x.a (pE x.e 0) (x.e.drop 0) && U)):=hid (by rw[HV.out,hU];rfl);have HU:=hid hU;clear HV hU;go_wp2_with fail
 go_loopw [14] (fun iv wr=>∃ i:Nat,i≤x.e.length∧iv=.int .i64 i∧Hid (mayS x.s=(mayRs x.a (pE x.e i) (x.e.drop i) && U))∧Below w.heap.size w wr∧(wr.cell? ⟨bp,0,none⟩=some (.slice x.aa x.a.length x.ac))∧(wr.cell? ⟨bp,1,none⟩=some (.slice x.ea x.e.length x.ec))∧(wr.cell? ⟨bp,2,none⟩=some (.slice x.pa x.p.length x.pc))∧Hid (InnerS wr x)) (fun iv _=>x.e.length - (intOf iv).toNat)
 case atStart=>exact ⟨0,by omega,rfl,HV0,hb,p0,p1,p2,lx⟩
 clear HV0 hb p0 p1 p2 lx;obtain ⟨i,hi,rfl,HM,hb,p0,p1,p2,lx⟩:=hrel;by_cases hlt:i<x.e.length
 ·
  have d1:=dT (p:=(i:Int)<(x.e.length:Int));have j1:(0:Int)≤(i:Int):=by omega
  have j2:(i:Int)<(x.e.length:Int):=by omega
  obtain ⟨b,o,hea,hc⟩:=lx.out.e.1.2 (by omega);rw[hea];rw[hea] at p1;obtain ⟨c0,c1,c2,c3,c4,c5,c6⟩:=cl7 (o+i*7) (hc i hlt);have hst:=mayRs_step x.a hlt;have HPV:Hid (∀ k',i=k'+1→∃ pv,pE x.e i=some pv∧wr.cell? ⟨b,o+k'*7,none⟩=some ↑pv):=hid (fun k' hk=>by
   subst hk;have hkl:k'<x.e.length:=by omega
   exact ⟨(x.e[k']).k,pE_next hkl,hc k' hkl 0 _ rfl⟩)
  have ly:Hid (InnerE wr (x.e[i])):=hid (lx.out.e.2 _ (List.getElem_mem hlt));have OY:=hid (OX.out.em _ (List.getElem_mem hlt));have FY:=hid (OF.out _ (List.getElem_mem hlt));obtain ⟨y,hy⟩:=nm x.e[i];rw[← hy] at hst ly OY FY c0 c1 c2 c3 c4 c5 c6;obtain ⟨q1,hq1⟩:=nm (mayE y.e);obtain ⟨r,hr⟩:=nm (covB x.a y.s);have D0:=hid (fun W (h:InnerE W y)=>qB hq1 (mayE_any y W h OY.out.1 FY.out));have D1:=hid (fun W (h:InnerS W x) (h2:InnerE W y)=>qB hr (cov_any x.a y.s x.aa y.sa x.a.length y.s.length x.ac y.sc W h.a h2.s (by have:=OX.out.a;omega) (by have:=OY.out.1.s;omega)));rw[← hq1,← hr] at hst;obtain ⟨o',ho'⟩:=nm (pE x.e i);rw[← ho'] at hst;have HO':=hid ho';obtain ⟨bad,hbad⟩:=nm (!(q1 && (!befT o' y.k && r)));have HBD:=hid hbad;have HST:Hid (mayS x.s=((!bad && mayRs x.a (pE x.e (i+1)) (x.e.drop (i+1))) && U)):=hid (by rw[HM.out,← ho',hst,hbad,Bool.not_not]);have HEA:=hid hea;have HI:=hid hlt;clear hc hy hst hlt HM hq1 hr OY FY ho' hbad hea;go_upto_region 6 with (fail)
  have kS:=balloc (Below.refl wr.heap.size wr) (.cells y 29);obtain ⟨s0,s1,s2,s3,s4,s5,s6⟩:=al7 (bx wr y 29);obtain ⟨sb,hsb⟩:=nm wr.heap.size;obtain ⟨ws,hws⟩:=nm (wr.alloc (.cells y 29));rw[← hws] at kS s0 s1 s2 s3 s4 s5 s6 ⊢;rw[← hsb] at s0 s1 s2 s3 s4 s5 s6 ⊢;replace HPV:Hid (∀ k',i=k'+1→∃ pv,pE x.e i=some pv∧ws.cell? ⟨b,o+k'*7,none⟩=some ↑pv):=hid (fun k' hk=>by
   obtain ⟨pv,h1,h2⟩:=HPV.out k' hk;exact ⟨pv,h1,Coder.keepC h2 kS⟩)
  replace p0:=(Coder.keepC p0 kS)
  replace p1:=(Coder.keepC p1 kS)
  replace p2:=(Coder.keepC p2 kS)
  replace lx:=hid ((lx.out).below kS);replace ly:=hid ((ly.out).below kS);replace hb:=bstep hb kS;clear kS hsb hws c0 c1 c2 c3 c4 c5 c6;go_cut [45] (fun zv wx=>zv=.bool bad∧Below w.heap.size w wx∧wx.cell? ⟨bp,0,none⟩=some (.slice x.aa x.a.length x.ac)∧wx.cell? ⟨bp,1,none⟩=some (.slice (some ⟨b,o,none⟩) x.e.length x.ec)∧wx.cell? ⟨bp,2,none⟩=some (.slice x.pa x.p.length x.pc)∧InnerS wx x)
  case first =>
   cases q1
   ·have HZ:Hid (bad=true):=hid (by rw[HBD.out];rfl);clear HPV HBD;go_wp2_with fail
    refine rhd (aj13 hb p0 p1 p2 lx.out ly.out s0 s1 s2 s3 s4 s5 s6) fun gH=>?_;refine tk [0] ?_;refine tR 1 fun K hK=>?_;go_simp;go_at_call 37;refine cr (D0.out _ gH.2.2.2.2.2.1) fun v2 k2=>?_;go_wp2_with fail
    refine tH hK gH k2 fun gH=>?_;clear hK K k2;refine tk (.range' 2 25) ?_;refine tD ?_;clear hb p0 p1 p2 lx ly s0 s1 s2 s3 s4 s5 s6;obtain ⟨hb,p0,p1,p2,lx,ly,s0,s1,s2,s3,s4,s5,s6⟩:=gH;replace lx:=hid lx;replace ly:=hid ly;go_wp2_with fail
    go_meet;exact ⟨by rw[HZ.out],hb,p0,p1,p2,lx.out⟩
   have HY:Hid (bad = !(!befT o' y.k && r)):=hid (by rw[HBD.out];rfl);clear HBD;by_cases hi0:i=0
   ·have z1:decide ((0:Int)<(i:Int))=false:=dF;have z1n:=dF (p:=0<i);have HZ:Hid (bad = !r):=hid (by rw[HY.out,HO'.out,hi0];rfl);clear hi0 HPV HY;go_wp2_with fail
    refine rhd (aj13 hb p0 p1 p2 lx.out ly.out s0 s1 s2 s3 s4 s5 s6) fun gH=>?_;refine tk [0] ?_;refine tR 1 fun K hK=>?_;go_simp;go_at_call 37;refine cr (D0.out _ gH.2.2.2.2.2.1) fun v3 k3=>?_;go_wp2_with fail
    refine tH hK gH k3 fun gH=>?_;clear hK K k3;refine tk (.range' 2 22) ?_;refine tR 24 fun K hK=>?_;go_simp;go_at_call 112;refine cr (D1.out _ gH.2.2.2.2.1 gH.2.2.2.2.2.1) fun v4 k4=>?_;go_wp2_with fail
    refine tH hK gH k4 fun gH=>?_;clear hK K k4;refine tk [25,26] ?_;refine tD ?_;clear hb p0 p1 p2 lx ly s0 s1 s2 s3 s4 s5 s6;obtain ⟨hb,p0,p1,p2,lx,ly,s0,s1,s2,s3,s4,s5,s6⟩:=gH;replace lx:=hid lx;replace ly:=hid ly;go_wp2_with fail
    go_meet;exact ⟨by rw[HZ.out],hb,p0,p1,p2,lx.out⟩
   obtain ⟨k',hk'⟩:∃ k',i=k'+1:=⟨i - 1,by omega⟩
   obtain ⟨pv,hpv,hp0⟩:=HPV.out k' hk';have z1:=dT (p:=(0:Int)<(i:Int));have z1n:=dT (p:=0<i);have w1:IntKind.i64.wrap ((i:Int) - 1)=(k':Int):=by rw[IntKind.wrap_i64];omega
   have j5:(0:Int)≤(k':Int):=by omega
   have j6:(k':Int)<(x.e.length:Int):=by omega
   have z2:o'=some pv:=HO'.out.trans hpv;have HY2:Hid (bad = !(decide (TL pv y.k) && r)):=hid (by rw[HY.out,z2];show (!(!!(decide (TL pv y.k)) && r))=_;rw[Bool.not_not]);have HK':=hid hk';clear z2 hi0 HPV hpv hk' HY;obtain ⟨t,ht⟩:=nm y.k;have HT:=hid ht;rcases tl_ways pv y.k with hw | hw | hw
   ·obtain ⟨q1,q2,q3,q4⟩:=ways_less hw;have HZ:Hid (bad = !r):=hid (by rw[HY2.out,decide_eq_true hw];rfl);clear hw ht;go_wp2_with fail
    refine rhd (aj14 hb p0 p1 p2 lx.out ly.out s0 s1 s2 s3 s4 s5 s6 hp0) fun gH=>?_;refine tk [0] ?_;refine tR 1 fun K hK=>?_;go_simp;go_at_call 37;refine cr (D0.out _ gH.2.2.2.2.2.1) fun v5 k5=>?_;go_wp2_with fail
    refine tH hK gH k5 fun gH=>?_;clear hK K k5;refine tk (.range' 2 22) ?_;refine tR 24 fun K hK=>?_;go_simp;go_at_call 112;refine cr (D1.out _ gH.2.2.2.2.1 gH.2.2.2.2.2.1) fun v6 k6=>?_;go_wp2_with fail
    refine tH hK gH k6 fun gH=>?_;clear hK K k6;refine tk [25,26] ?_;refine tD ?_;clear hb p0 p1 p2 lx ly s0 s1 s2 s3 s4 s5 s6 hp0;obtain ⟨hb,p0,p1,p2,lx,ly,s0,s1,s2,s3,s4,s5,s6,hp0⟩:=gH;replace lx:=hid lx;replace ly:=hid ly;go_wp2_with fail
    go_meet;exact ⟨by rw[HZ.out],hb,p0,p1,p2,lx.out⟩
   ·have q1:=less_self y.k;have HZ:Hid (bad=true):=hid (by rw[HY2.out,decide_eq_false (by rw[hw];exact linT.irr y.k)];rfl);have q3:(pv == y.k)=true:=by simp[hw]
    have q4:(y.k == pv)=true:=by simp[hw]
    have q5:Op.bytesLess pv y.k=false:=by rw[hw];exact q1
    have q6:Op.bytesLess y.k pv=false:=by rw[hw];exact q1
    clear hw ht;go_wp2_with fail
    refine rhd (aj14 hb p0 p1 p2 lx.out ly.out s0 s1 s2 s3 s4 s5 s6 hp0) fun gH=>?_;refine tk [0] ?_;refine tR 1 fun K hK=>?_;go_simp;go_at_call 37;refine cr (D0.out _ gH.2.2.2.2.2.1) fun v7 k7=>?_;go_wp2_with fail
    refine tH hK gH k7 fun gH=>?_;clear hK K k7;refine tk (.range' 2 25) ?_;refine tD ?_;clear hb p0 p1 p2 lx ly s0 s1 s2 s3 s4 s5 s6 hp0;obtain ⟨hb,p0,p1,p2,lx,ly,s0,s1,s2,s3,s4,s5,s6,hp0⟩:=gH;replace lx:=hid lx;replace ly:=hid ly;go_wp2_with fail
    go_meet;exact ⟨by rw[HZ.out],hb,p0,p1,p2,lx.out⟩
   obtain ⟨q1,q2,q3,q4⟩:=ways_less hw;have HZ:Hid (bad=true):=hid (by rw[HY2.out,decide_eq_false (fun h=>linT.irr _ (linT.trans hw h))];rfl);clear hw ht;go_wp2_with fail
   refine rhd (aj14 hb p0 p1 p2 lx.out ly.out s0 s1 s2 s3 s4 s5 s6 hp0) fun gH=>?_;refine tk [0] ?_;refine tR 1 fun K hK=>?_;go_simp;go_at_call 37;refine cr (D0.out _ gH.2.2.2.2.2.1) fun v8 k8=>?_;go_wp2_with fail
   refine tH hK gH k8 fun gH=>?_;clear hK K k8;refine tk (.range' 2 25) ?_;refine tD ?_;clear hb p0 p1 p2 lx ly s0 s1 s2 s3 s4 s5 s6 hp0;obtain ⟨hb,p0,p1,p2,lx,ly,s0,s1,s2,s3,s4,s5,s6,hp0⟩:=gH;replace lx:=hid lx;replace ly:=hid ly;go_wp2_with fail
   go_meet;exact ⟨by rw[HZ.out],hb,p0,p1,p2,lx.out⟩
  clear hb ly s0 s1 s2 s3 s4 s5 s6 p0 p1 p2 lx;obtain ⟨rfl,hb,p0,p1,p2,lx⟩:=hcut;replace lx:=hid lx;cases bad
  rotate_left
  ·have HV2:Hid (mayS x.s=false):=hid (by rw[HST.out];rfl);clear HST HBD;go_wp2;go_ret;exact ⟨by rw[HV2.out];rfl,hb⟩
  have HV2:Hid (mayS x.s=(mayRs x.a (pE x.e (i+1)) (x.e.drop (i+1)) && U)):=hid (by rw[HST.out];rfl);clear HST HBD;go_wp2;go_roundw
  ·exact ⟨i+1,by have:=HI.out;omega,by go_num,HV2,hb,p0,p1,p2,lx⟩
  simp[intOf];have:=HI.out;omega
 have HE:Hid (mayS x.s=mayPr x.a (pW x.p 0) (x.p.drop 0)):=hid (by rw[HM.out,List.drop_eq_nil_of_le (by omega),HU.out];rfl);have d1:=dF (p:=(i:Int)<(x.e.length:Int));clear HM HU;go_wp2_with fail
 clear hlt;go_loopw [50] (fun iv wr=>∃ i:Nat,i≤x.p.length∧iv=.int .i64 i∧Hid (mayS x.s=mayPr x.a (pW x.p i) (x.p.drop i))∧Below w.heap.size w wr∧(wr.cell? ⟨bp,0,none⟩=some (.slice x.aa x.a.length x.ac))∧(wr.cell? ⟨bp,1,none⟩=some (.slice x.ea x.e.length x.ec))∧(wr.cell? ⟨bp,2,none⟩=some (.slice x.pa x.p.length x.pc))∧Hid (InnerS wr x)) (fun iv _=>x.p.length - (intOf iv).toNat)
 case atStart=>exact ⟨0,by omega,rfl,HE,hb,p0,p1,p2,lx⟩
 clear HE hb p0 p1 p2 lx d1 hi;obtain ⟨i,hi,rfl,HM,hb,p0,p1,p2,lx⟩:=hrel;by_cases hlt:i<x.p.length;rotate_left
 ·have HE:Hid (mayS x.s=true):=hid (by rw[HM.out,List.drop_eq_nil_of_le (by omega)];rfl);go_wp2;go_ret;exact ⟨by rw[HE.out];rfl,hb⟩
 have d1:=dT (p:=(i:Int)<(x.p.length:Int));have j1:(0:Int)≤(i:Int):=by omega
 have j2:(i:Int)<(x.p.length:Int):=by omega
 obtain ⟨b,o,hea,hc⟩:=lx.out.p.2 (by omega);rw[hea];rw[hea] at p2;have c0:wr.cell? ⟨b,o+i,none⟩=some ↑(x.p[i]):=by
  have q:=hc i hlt 0 _ rfl;rw[show o+i*wE.k+0=o+i by show o+i*1+0=o+i;omega] at q;exact q
 have hst:=mayPr_step x.a hlt;have HPV:Hid (∀ k',i=k'+1→∃ pv,pW x.p i=some pv∧wr.cell? ⟨b,o+k',none⟩=some ↑pv):=hid (fun k' hk=>by
  subst hk;have hkl:k'<x.p.length:=by omega
  have q:=hc k' hkl 0 _ rfl;rw[show o+k'*wE.k+0=o+k' by show o+k'*1+0=o+k';omega] at q;exact ⟨x.p[k'],pW_next hkl,q⟩)
 obtain ⟨t,ht⟩:=nm x.p[i];rw[← ht] at hst c0;obtain ⟨z,hz⟩:=nm (ofL x.a t);have D1:=hid (fun W (h:InnerS W x)=>(by rw[hz];exact Dots.of_any t x.a x.aa x.a.length x.ac W h.a (by have:=OX.out.a;omega) (ok_of OX.out.am):CB 113 #[.slice x.aa x.a.length x.ac,t] W (.int .u64 (z:Nat))));rw[← hz] at hst;rw[← HM.out] at hst;have HST:=hid hst;have HEA:=hid hea;have HI:=hid hlt;clear hc ht hst hlt HM hz hea;by_cases hp:t=[]
 ·have e0:(t == [])=true:=by rw[hp];rfl
  have HV2:Hid (mayS x.s=false):=hid (by rw[HST.out,decide_eq_true hp];try simp);clear HST;go_wp2;go_ret;exact ⟨by rw[HV2.out];rfl,hb⟩
 have e0:(t == [])=false:=by rw[beq_eq_false_iff_ne];exact hp
 have HP:=hid hp;clear hp;by_cases hi0:i=0
 ·have z1:decide ((0:Int)<(i:Int))=false:=dF;have z1n:=dF (p:=0<i);have HO:Hid (pW x.p i=none):=hid (by rw[hi0];rfl);clear HPV hi0;go_wp2_with fail
  refine cr (D1.out _ lx.out) fun v9 k9=>?_;have hA:=kp k9 (aj3 p0 p1 p2);clear p0 p1 p2;obtain ⟨p0,p1,p2⟩:=hA;replace lx:=hid ((lx.out).below k9);replace hb:=bstep hb k9;clear k9;by_cases h9:z=0
  ·have z9:decide ((0:Int)<(z:Int))=false:=dF;have z9n:=dF (p:=0<z);have HV2:Hid (mayS x.s=mayPr x.a (pW x.p (i+1)) (x.p.drop (i+1))):=hid (by rw[HST.out,decide_eq_false HP.out,HO.out,show befT none t=false from rfl,decide_eq_true h9];simp);clear HST h9;go_wp2;go_roundw
   ·exact ⟨i+1,by have:=HI.out;omega,by go_num,HV2,hb,p0,p1,p2,lx⟩
   simp[intOf];have:=HI.out;omega
  have z9:=dT (p:=(0:Int)<(z:Int));have z9n:=dT (p:=0<z);have HV2:Hid (mayS x.s=false):=hid (by rw[HST.out,decide_eq_false HP.out,HO.out,show befT none t=false from rfl,decide_eq_false h9];simp);clear HST h9;go_wp2;go_ret;exact ⟨by rw[HV2.out];rfl,hb⟩
 obtain ⟨k',hk'⟩:∃ k',i=k'+1:=⟨i - 1,by omega⟩
 obtain ⟨pv,hpv,hp0⟩:=HPV.out k' hk';have z1:=dT (p:=(0:Int)<(i:Int));have z1n:=dT (p:=0<i);have w1:IntKind.i64.wrap ((i:Int) - 1)=(k':Int):=by rw[IntKind.wrap_i64];omega
 have j5:(0:Int)≤(k':Int):=by omega
 have j6:(k':Int)<(x.p.length:Int):=by omega
 have HO:=hid hpv;have HK':=hid hk';have HBE:Hid (befT (some pv) t = !(decide (TL pv t))):=hid rfl;clear hi0 HPV hpv hk';rcases tl_ways pv t with hw | hw | hw
 ·obtain ⟨q1,q2,q3,q4⟩:=ways_less hw;have HW:=hid hw;clear hw;go_wp2_with fail
  refine cr (D1.out _ lx.out) fun v10 k10=>?_;have hA:=kp k10 (aj3 p0 p1 p2);clear p0 p1 p2;obtain ⟨p0,p1,p2⟩:=hA;replace lx:=hid ((lx.out).below k10);replace hp0:=(Coder.keepC hp0 k10)
  replace hb:=bstep hb k10;clear k10 hp0;by_cases h9:z=0
  ·have z9:decide ((0:Int)<(z:Int))=false:=dF;have z9n:=dF (p:=0<z);have HV2:Hid (mayS x.s=mayPr x.a (pW x.p (i+1)) (x.p.drop (i+1))):=hid (by rw[HST.out,decide_eq_false HP.out,HO.out,HBE.out,decide_eq_true HW.out,decide_eq_true h9];simp);clear HST h9;go_wp2;go_roundw
   ·exact ⟨i+1,by have:=HI.out;omega,by go_num,HV2,hb,p0,p1,p2,lx⟩
   simp[intOf];have:=HI.out;omega
  have z9:=dT (p:=(0:Int)<(z:Int));have z9n:=dT (p:=0<z);have HV2:Hid (mayS x.s=false):=hid (by rw[HST.out,decide_eq_false HP.out,HO.out,HBE.out,decide_eq_true HW.out,decide_eq_false h9];simp);clear HST h9;go_wp2;go_ret;exact ⟨by rw[HV2.out];rfl,hb⟩
 ·have q1:=less_self t;have q3:(pv == t)=true:=by simp[hw]
  have q4:(t == pv)=true:=by simp[hw]
  have q5:Op.bytesLess pv t=false:=by rw[hw];exact q1
  have q6:Op.bytesLess t pv=false:=by rw[hw];exact q1
  have HW:Hid (¬ TL pv t):=hid (by rw[hw];exact linT.irr t);clear hw;have HV2:Hid (mayS x.s=false):=hid (by rw[HST.out,HO.out,HBE.out,decide_eq_false HW.out];try simp);clear HST;go_wp2;go_ret;exact ⟨by rw[HV2.out];rfl,hb⟩
 obtain ⟨q1,q2,q3,q4⟩:=ways_less hw;have HW:Hid (¬ TL pv t):=hid (fun h=>linT.irr _ (linT.trans hw h));clear hw;have HV2:Hid (mayS x.s=false):=hid (by rw[HST.out,HO.out,HBE.out,decide_eq_false HW.out];try simp);clear HST;go_wp2;go_ret;exact ⟨by rw[HV2.out];rfl,hb⟩
def outS (m:Bool) (l:List UInt8):List UInt8:=if m=true then l else []
def outE (m:Bool):Int:=if m=true then 0 else 2
def InnerD (w:World) (ba:Option Addr) (B:List M) (x:RS):Prop:=Mark.Lies w ba B.length B∧InnerS w x
theorem InnerD.below {w w':World} {ba:Option Addr} {B:List M} {x:RS} (h:InnerD w ba B x) (k:Below w.heap.size w w'):InnerD w' ba B x:=⟨h.1.below k,h.2.below k⟩
instance {ba : Option Addr} {B : List M} {x : RS} : Kept (fun w => InnerD w ba B x) := ⟨fun k h => InnerD.below h k⟩
instance {w : World} {ba : Option Addr} {B : List M} {x : RS} : Hd w (InnerD w ba B x) (fun w => InnerD w ba B x) := ⟨id⟩
structure DOk (B:List M) (x:RS):Prop where
 b:B.length≤1048576
 bm:∀ m ∈ B,m.p.length≤1048576∧m.n≤18446744073709551615
 ok:x.Ok
 fine:x.Fine
theorem mayD_any (ba:Option Addr) (bc:Nat) (B:List M) (x:RS) (w:World) (hx:InnerD w ba B x) (ox:DOk B x) :
  CB 47 #[.agg #[.slice ba B.length bc,.slice x.aa x.a.length x.ac,.slice x.ea x.e.length x.ec,.slice x.pa x.p.length x.pc]] w (mayD B x.s):=by
 have lx:=hid hx;have OX:=hid ox;clear hx ox;obtain ⟨q0,hq0⟩:=nm (mayL B);obtain ⟨q1,hq1⟩:=nm (mayS x.s);have HV:Hid (mayD B x.s=(q0 && q1)):=hid (by rw[hq0,hq1];rfl);have C0:=hid (fun W (hx:InnerD W ba B x)=>qB hq0 (Dots.may_any B ba B.length bc W hx.1 (by have:=OX.out.b;omega) (ok_of OX.out.bm)));have C1:=hid (fun W (hx:InnerD W ba B x)=>qB hq1 (mayS_any x W hx.2 OX.out.ok OX.out.fine));clear hq0 hq1;go_enter Tryz.func47,Tryz.ntmps47;go_upto_region 1 with (fail)
 have hb0:=balloc (Below.refl w.heap.size w) (.cells #[.slice ba B.length bc,.slice x.aa x.a.length x.ac,.slice x.ea x.e.length x.ec,.slice x.pa x.p.length x.pc] 35);obtain ⟨p0,p1,p2,p3⟩:=al4 (bx w [.slice ba B.length bc,.slice x.aa x.a.length x.ac,.slice x.ea x.e.length x.ec,.slice x.pa x.p.length x.pc] 35);obtain ⟨w0,hw0⟩:=nm (w.alloc (.cells #[.slice ba B.length bc,.slice x.aa x.a.length x.ac,.slice x.ea x.e.length x.ec,.slice x.pa x.p.length x.pc] 35));rw[← hw0] at hb0 p0 p1 p2 p3 ⊢;obtain ⟨bp,hbp⟩:=nm w.heap.size;rw[← hbp] at p0 p1 p2 p3 ⊢;have hb:=hb0;clear hb0 hw0 hbp;replace lx:=hid (lx.out.below hb);go_wp2_with fail
 refine cr (C0.out _ lx.out) fun v1 k1=>?_;have hA:=kp k1 (aj4 p0 p1 p2 p3);clear p0 p1 p2 p3;obtain ⟨p0,p1,p2,p3⟩:=hA;replace lx:=hid ((lx.out).below k1);replace hb:=bstep hb k1;clear k1;cases q0
 ·have HV2:Hid (mayD B x.s=false):=hid (by rw[HV.out];rfl);go_wp2;go_ret;exact ⟨by rw[HV2.out];rfl,hb⟩
 go_wp2_with fail
 refine cr (C1.out _ lx.out) fun v2 k2=>?_;have hA:=kp k2 (aj4 p0 p1 p2 p3);clear p0 p1 p2 p3;obtain ⟨p0,p1,p2,p3⟩:=hA;replace lx:=hid ((lx.out).below k2);replace hb:=bstep hb k2;clear k2;have HV2:Hid (mayD B x.s=q1):=hid (by rw[HV.out];rfl);go_wp2;go_ret;exact ⟨by rw[HV2.out];rfl,hb⟩
theorem writeEntry (x:RE) (w:World) (hx:InnerE w x) (ox:x.Ok) (of:Bag.Fine (x.j.map RI.it)) (hs:(fE x).length≤70368744177664) :
  CB 36 #[.agg x,.func (.func 37) #[] #[],.func (.func 38) #[] #[]] w (.tuple #[(outS (mayE x.e) (fE x)),.int .i64 (outE (mayE x.e))]):=by
 have lx:=hid hx;have OX:=hid ox;have OF:=hid of;have HS:=hid hs;clear hx ox of hs;obtain ⟨q,hq⟩:=nm (mayE x.e);obtain ⟨l,hl⟩:=nm (fE x);rw[← hq,← hl];have C0:=hid (fun W (h:InnerE W x)=>qB hq (mayE_any x W h OX.out OF.out));have C1:=hid (fun W (h:InnerE W x)=>qS hl (entry_any x W h OX.out HS.out));clear hq hl;go_enter Tryz.func36,Tryz.ntmps36;go_upto_region 1 with (fail)
 have hb0:=balloc (Below.refl w.heap.size w) (.cells x 29);obtain ⟨p0,p1,p2,p3,p4,p5,p6⟩:=al7 (bx w x 29);obtain ⟨w0,hw0⟩:=nm (w.alloc (.cells x 29));rw[← hw0] at hb0 p0 p1 p2 p3 p4 p5 p6 ⊢;obtain ⟨bp,hbp⟩:=nm w.heap.size;rw[← hbp] at p0 p1 p2 p3 p4 p5 p6 ⊢;have hb:=hb0;clear hb0 hw0 hbp;replace lx:=hid (lx.out.below hb);go_wp2_with fail
 refine cr (C0.out _ lx.out) fun v3 k3=>?_;have hA:=kp k3 (aj7 p0 p1 p2 p3 p4 p5 p6);clear p0 p1 p2 p3 p4 p5 p6;obtain ⟨p0,p1,p2,p3,p4,p5,p6⟩:=hA;replace lx:=hid ((lx.out).below k3);replace hb:=bstep hb k3;clear k3;cases q
 ·go_wp2;go_ret2;exact ⟨rfl,hb⟩
 go_wp2_with fail
 refine cr (C1.out _ lx.out) fun v4 k4=>?_;have hA:=kp k4 (aj7 p0 p1 p2 p3 p4 p5 p6);clear p0 p1 p2 p3 p4 p5 p6;obtain ⟨p0,p1,p2,p3,p4,p5,p6⟩:=hA;replace lx:=hid ((lx.out).below k4);replace hb:=bstep hb k4;clear k4;go_wp2;go_ret2;exact ⟨rfl,hb⟩
theorem giveEntry (x:RE) (w:World) (hx:InnerE w x) (ox:x.Ok) (of:Bag.Fine (x.j.map RI.it)) (hs:(fE x).length≤70368744177664) :
  CB 9 #[.agg x] w (.tuple #[(outS (mayE x.e) (fE x)),.int .i64 (outE (mayE x.e))]):=by
 have lx:=hid hx;have OX:=hid ox;have OF:=hid of;have HS:=hid hs;clear hx ox of hs;obtain ⟨q,hq⟩:=nm (mayE x.e);obtain ⟨l,hl⟩:=nm (fE x);rw[← hq,← hl];have C0:=hid (fun W (h:InnerE W x)=>(by rw[hq,hl];exact writeEntry x W h OX.out OF.out HS.out:CB 36 #[.agg x,.func (.func 37) #[] #[],.func (.func 38) #[] #[]] W (.tuple #[(outS q l),.int .i64 (outE q)])));clear hq hl;go_enter Tryz.func9,Tryz.ntmps9;go_upto_region 1 with (fail)
 have hb0:=balloc (Below.refl w.heap.size w) (.cells x 29);obtain ⟨p0,p1,p2,p3,p4,p5,p6⟩:=al7 (bx w x 29);obtain ⟨w0,hw0⟩:=nm (w.alloc (.cells x 29));rw[← hw0] at hb0 p0 p1 p2 p3 p4 p5 p6 ⊢;obtain ⟨bp,hbp⟩:=nm w.heap.size;rw[← hbp] at p0 p1 p2 p3 p4 p5 p6 ⊢;have hb:=hb0;clear hb0 hw0 hbp;replace lx:=hid (lx.out.below hb);go_wp2_with fail
 refine cr (C0.out _ lx.out) fun v5 k5=>?_;have hA:=kp k5 (aj7 p0 p1 p2 p3 p4 p5 p6);clear p0 p1 p2 p3 p4 p5 p6;obtain ⟨p0,p1,p2,p3,p4,p5,p6⟩:=hA;replace lx:=hid ((lx.out).below k5);replace hb:=bstep hb k5;clear k5;go_wp2;go_ret2;exact ⟨rfl,hb⟩
theorem writeOp (x:O) (w:World) (ox:x.Ok) :
  CB 58 #[.agg x,.func (.func 59) #[] #[],.func (.func 60) #[] #[]] w (.tuple #[(outS (mayO x) (opb x)),.int .i64 (outE (mayO x))]):=by
 have OX:=hid ox;clear ox;obtain ⟨q,hq⟩:=nm (mayO x);obtain ⟨l,hl⟩:=nm (opb x);rw[← hq,← hl];have C0:=hid (fun W  => qB hq (mayO_any x.d x.k x.n x.t W OX.out.k));have C1:=hid (fun W  => qS hl (op_any x W OX.out));clear hq hl;go_enter Tryz.func58,Tryz.ntmps58;go_upto_region 1 with (fail)
 have hb0:=balloc (Below.refl w.heap.size w) (.cells x 38);obtain ⟨p0,p1,p2,p3⟩:=al4 (bx w x 38);obtain ⟨w0,hw0⟩:=nm (w.alloc (.cells x 38));rw[← hw0] at hb0 p0 p1 p2 p3 ⊢;obtain ⟨bp,hbp⟩:=nm w.heap.size;rw[← hbp] at p0 p1 p2 p3 ⊢;have hb:=hb0;clear hb0 hw0 hbp;go_wp2_with fail
 refine cr (C0.out _) fun v9 k9=>?_;have hA:=kp k9 (aj4 p0 p1 p2 p3);clear p0 p1 p2 p3;obtain ⟨p0,p1,p2,p3⟩:=hA;replace hb:=bstep hb k9;clear k9;cases q
 ·go_wp2;go_ret2;exact ⟨rfl,hb⟩
 go_wp2_with fail
 refine cr (C1.out _) fun v10 k10=>?_;have hA:=kp k10 (aj4 p0 p1 p2 p3);clear p0 p1 p2 p3;obtain ⟨p0,p1,p2,p3⟩:=hA;replace hb:=bstep hb k10;clear k10;go_wp2;go_ret2;exact ⟨rfl,hb⟩
theorem giveOp (x:O) (w:World) (ox:x.Ok) :
  CB 17 #[.agg x] w (.tuple #[(outS (mayO x) (opb x)),.int .i64 (outE (mayO x))]):=by
 have OX:=hid ox;clear ox;obtain ⟨q,hq⟩:=nm (mayO x);obtain ⟨l,hl⟩:=nm (opb x);rw[← hq,← hl];have C0:=hid (fun W  => (by rw[hq,hl];exact writeOp x W OX.out:CB 58 #[.agg x,.func (.func 59) #[] #[],.func (.func 60) #[] #[]] W (.tuple #[(outS q l),.int .i64 (outE q)])));clear hq hl;go_enter Tryz.func17,Tryz.ntmps17;go_upto_region 1 with (fail)
 have hb0:=balloc (Below.refl w.heap.size w) (.cells x 38);obtain ⟨p0,p1,p2,p3⟩:=al4 (bx w x 38);obtain ⟨w0,hw0⟩:=nm (w.alloc (.cells x 38));rw[← hw0] at hb0 p0 p1 p2 p3 ⊢;obtain ⟨bp,hbp⟩:=nm w.heap.size;rw[← hbp] at p0 p1 p2 p3 ⊢;have hb:=hb0;clear hb0 hw0 hbp;go_wp2_with fail
 refine cr (C0.out _) fun v11 k11=>?_;have hA:=kp k11 (aj4 p0 p1 p2 p3);clear p0 p1 p2 p3;obtain ⟨p0,p1,p2,p3⟩:=hA;replace hb:=bstep hb k11;clear k11;go_wp2;go_ret2;exact ⟨rfl,hb⟩
end Coder
namespace Taker
open RowKit YtnpjkmomllkhpaaGreatDoor.Mark Num Wire Bag Coder
variable {w w':World} {B B' b:Nat} {a:Option Addr} {c:Nat}
theorem typEntry:Row.Typ Tryz.prog eE 30 29 (.agg #[.string ⟨#[]⟩,.slice none 0 0,.slice none 0 0,.slice none 0 0,.int .u64 0,.string ⟨#[]⟩,.bool false]) 120:=⟨Tryz.underlying30,Row.info_of (by kernel_rfl),rfl,by decide⟩
theorem typWord:Row.Typ Tryz.prog wE 31 9 (.string ⟨#[]⟩) 16:=⟨Tryz.underlying31,Row.info_of (by kernel_rfl),rfl,by decide⟩
theorem OwnE.kept {F:Type} {E2:Row.Enc F} {tf:TypeId} {u:Value} {K:List F} {x:RE} (h:OwnE w B x) (ho:Row.Own E2 tf w B' u K) (hg:w.grownBy w' u.ownBlock) (h1:96≠tf) (h2:98≠tf) (h3:155≠tf) (h4:167≠tf):OwnE w' B x :=
 ⟨kept_by h.s ho hg h1,kept_by h.c ho hg h2,kept_by h.i.1 ho hg h3,fun y hy=>kept_by (h.i.2 y hy) ho hg h4⟩
def OwnEs (w:World) (B:Nat) (a:Option Addr) (c:Nat) (L:List RE):Prop:=Row.Own eE 29 w B (.slice a L.length c) L∧∀ y ∈ L,OwnE w B y
def OwnW (w:World) (B:Nat) (a:Option Addr) (c:Nat) (L:List (List UInt8)):Prop:=Row.Own wE 9 w B (.slice a L.length c) L
theorem OwnEs.but {L:List RE} (h:OwnEs w B a c L) (k:But b w w') (hb:b<B):OwnEs w' B a c L:=⟨own_but h.1 k hb,fun y hy=>(h.2 y hy).but k hb⟩
theorem OwnEs.base {L:List RE} (h:OwnEs w B a c L) (hB:B'≤B):OwnEs w B' a c L:=⟨Row.Own.base h.1 hB,fun y hy=>(h.2 y hy).base hB⟩
theorem OwnW.but {L:List (List UInt8)} (h:OwnW w B a c L) (k:But b w w') (hb:b<B):OwnW w' B a c L:=own_but h k hb
theorem OwnW.base {L:List (List UInt8)} (h:OwnW w B a c L) (hB:B'≤B):OwnW w B' a c L:=Row.Own.base h hB
structure OwnS (w:World) (B:Nat) (x:RS):Prop where
 a:OwnM w B x.aa x.ac x.a
 e:OwnEs w B x.ea x.ec x.e
 p:OwnW w B x.pa x.pc x.p
theorem OwnS.but {x:RS} (h:OwnS w B x) (k:But b w w') (hb:b<B):OwnS w' B x:=⟨h.a.but k hb,h.e.but k hb,h.p.but k hb⟩
theorem OwnS.base {x:RS} (h:OwnS w B x) (hB:B'≤B):OwnS w B' x:=⟨h.a.base hB,h.e.base hB,h.p.base hB⟩
theorem OwnS.inner {x:RS} (h:OwnS w B x):InnerS w x:=⟨h.a.lies,⟨lies_of h.e.1,fun y hy=>(h.e.2 y hy).inner⟩,lies_of h.p⟩
def stateS (l:List UInt8) (E:Int):S × List UInt8 × Int:=bindR (manyS markS l E) fun x0 l0 E0=>bindR (manyS entryS l0 E0) fun x1 l1 E1=>bindR (manyS wordS l1 E1) fun x2 l2 E2=>((⟨x0,x1,x2⟩:S),l2,E2)
theorem state_keeps:Keeps stateS:=(many_eats mark_eats).keeps.bind fun _=>(many_eats entry_eats).keeps.bind fun _=>(many_eats word_eats).keeps.bind fun _=>keeps_pure _
def deltaS (l:List UInt8) (E:Int):(List M × S) × List UInt8 × Int:=bindR (manyS markS l E) fun x0 l0 E0=>bindR (stateS l0 E0) fun x1 l1 E1=>((x0,x1),l1,E1)
theorem many_entry (b:Nat) (l:List UInt8) (E:Int) (w:World) (h:Rd w b l E) (hz:l.length≤1048576) (xs:List Coder.E) (l':List UInt8) (E':Int) (hn:manyS entryS l E=(xs,l',E')) :
  Calls Tryz.prog 156 #[.agg #[.pointer (some ⟨b,0,none⟩)],.func (.func 66) #[] #[]] w fun e w'=>∃ (v:Value) (L:List RE),e=.returned v∧L.map RE.e=xs∧Row.Own eE 29 w' w.heap.size v L∧(∀ z ∈ L,OwnE w' w.heap.size z)∧Rd w' b l' E'∧But b w w' :=
 manyT eE typEntry RE.e (fun m=>.agg m) (fun W B z=>OwnE W B z) entry_eats Tryz.func156 Tryz.ntmps156 (fun l E W h hz y l' E' hn=>entry_any b l E W h hz y l' E' hn) (fun _ _ _ _ q k hb=>q.but k hb) (fun _ _ _ _ q hB=>q.base hB) (fun _ _ _ _ _ _ ho g q=>OwnE.kept q ho g (by decide) (by decide) (by decide) (by decide)) h hz hn
theorem many_word (b:Nat) (l:List UInt8) (E:Int) (w:World) (h:Rd w b l E) (hz:l.length≤1048576) (xs:List (List UInt8)) (l':List UInt8) (E':Int) (hn:manyS wordS l E=(xs,l',E')) :
  Calls Tryz.prog 157 #[.agg #[.pointer (some ⟨b,0,none⟩)],.func (.func 146) #[] #[]] w fun e w'=>∃ v,e=.returned v∧Row.Own wE 9 w' w.heap.size v xs∧Rd w' b l' E'∧But b w w':=by
 refine (manyT wE typWord id (fun m=>m) (fun _ _ _=>True) word_eats Tryz.func157 Tryz.ntmps157 (fun l E W h _ y l' E' hn=>(word_any b l E W h y l' E' hn).mono fun e w' h=>⟨y,h.1,rfl,trivial,h.2⟩) (fun _ _ _ _ _ _ _=>trivial) (fun _ _ _ _ _ _=>trivial) (fun _ _ _ _ _ _ _ _ _=>trivial) h hz hn).mono ?_;rintro e w' ⟨v,L,rfl,rfl,ho,-,hr⟩;exact ⟨v,rfl,by rw[List.map_id];exact ho,hr⟩
theorem state_read (b:Nat) (l:List UInt8) (E:Int) (w:World) (h:Rd w b l E) (hz:l.length≤1048576) (y:S) (l':List UInt8) (E':Int) (hn:stateS l E=(y,l',E')) :
  Calls Tryz.prog 70 #[.agg #[.pointer (some ⟨b,0,none⟩)]] w fun e w'=>∃ x:RS,e=.returned (.agg x)∧x.s=y∧OwnS w' w.heap.size x∧Rd w' b l' E'∧But b w w':=by
 obtain ⟨x0,l0,E0,q0⟩:=tr (manyS markS l E);obtain ⟨x1,l1,E1,q1⟩:=tr (manyS entryS l0 E0);obtain ⟨x2,l2,E2,q2⟩:=tr (manyS wordS l1 E1);simp only[stateS,bindR,q0,q1,q2,Prod.mk.injEq] at hn;obtain ⟨rfl,rfl,rfl⟩:=hn;have hz0:Hid (l0.length≤1048576):=hid (by have:=(many_eats mark_eats).keeps.len q0;omega);have hz1:Hid (l1.length≤1048576):=hid (by have:=(many_eats entry_eats).keeps.len q1;have:=hz0.out;omega);replace q0:=hid q0;replace q1:=hid q1;replace q2:=hid q2;have HZ:=hid hz;clear hz;go_enter Tryz.func70,Tryz.ntmps70;go_upto_region 1 with (fail)
 obtain ⟨bp,br,W,hbp,hbr,hW,G⟩:=Tk.new h [.slice none 0 0,.slice none 0 0,.slice none 0 0] 33;rw[← hW,← hbr,← hbp];clear hW hbr hbp h;have p0:=G.out.p.at 0 _ rfl;go_wp2_with fail
 refine (many_mark b _ _ _ G.out.r HZ.out _ _ _ q0.out).mono ?_;rintro e w1 ⟨v,rfl,o1,R1,k1⟩;replace o1:=o1.base G.out.s.1;obtain ⟨a0,u0,rfl,-,-,-,-⟩:=o1.lies;have O0:Hid (OwnM w1 (br+1) a0 u0 x0):=hid o1;clear o1;obtain ⟨H,p1,c0,z0⟩:=G.out.go R1 k1 0;clear G p0 k1 R1;go_upto_region 2 with (fail)
 obtain ⟨w2,hw2,G⟩:=H.out.put 0 (.slice a0 x0.length u0);rw[← hw2];replace O0:=hid (O0.out.but (bsetB hw2) (Nat.lt_succ_self br));clear H hw2 p1 c0 z0;have p0:=G.out.p.at 0 _ rfl;go_wp2_with fail
 refine (many_entry b _ _ _ G.out.r hz0.out _ _ _ q1.out).mono ?_;rintro e w1 ⟨v,L1,rfl,hL,o1,oi,R1,k1⟩;have hB:=G.out.s.1;replace o1:=o1.base hB;obtain ⟨a1,u1,rfl,-,-,-,-⟩:=o1.lies;have HL1:=hid hL;have O1:Hid (OwnEs w1 (br+1) a1 u1 L1):=hid ⟨o1,fun y hy=>(oi y hy).base hB⟩;clear o1 oi hL hB;replace O0:=hid (O0.out.but k1 G.out.n.2.2.2.2.1);obtain ⟨H,p1,c1,z1⟩:=G.out.go R1 k1 1;clear G p0 k1 R1;go_upto_region 3 with (fail)
 obtain ⟨w2,hw2,G⟩:=H.out.put 1 (.slice a1 L1.length u1);rw[← hw2];replace O0:=hid (O0.out.but (bsetB hw2) (Nat.lt_succ_self br));replace O1:=hid (O1.out.but (bsetB hw2) (Nat.lt_succ_self br));clear H hw2 p1 c1 z1;have p0:=G.out.p.at 0 _ rfl;go_wp2_with fail
 refine (many_word b _ _ _ G.out.r hz1.out _ _ _ q2.out).mono ?_;rintro e w1 ⟨v,rfl,o1,R1,k1⟩;replace o1:=o1.base G.out.s.1;obtain ⟨a2,u2,rfl,-,-,-,-⟩:=o1.lies;have O2:Hid (OwnW w1 (br+1) a2 u2 x2):=hid o1;clear o1;replace O0:=hid (O0.out.but k1 G.out.n.2.2.2.2.1);replace O1:=hid (O1.out.but k1 G.out.n.2.2.2.2.1);obtain ⟨H,p1,c2,z2⟩:=G.out.go R1 k1 2;clear G p0 k1 R1;go_upto_region 4 with (fail)
 obtain ⟨w2,hw2,G⟩:=H.out.put 2 (.slice a2 x2.length u2);rw[← hw2];replace O0:=hid (O0.out.but (bsetB hw2) (Nat.lt_succ_self br));replace O1:=hid (O1.out.but (bsetB hw2) (Nat.lt_succ_self br));replace O2:=hid (O2.out.but (bsetB hw2) (Nat.lt_succ_self br));clear H hw2 p1 c2 z2;obtain ⟨c0,c1,c2⟩:=al3 G.out.s.at;have z:=G.out.s.2.2;go_wp2;refine bodyPost_ret (v:=.agg #[.slice a0 x0.length u0,.slice a1 L1.length u1,.slice a2 x2.length u2]) (by simp[results,Tryz.results70,go_sem,c0,c1,c2]) rfl ?_;exact ⟨⟨a0,u0,x0,a1,u1,L1,a2,u2,x2⟩,rfl,by rw[← HL1.out];rfl,OwnS.base (OwnS.but (b:=br) (B:=br+1) ⟨O0.out,O1.out,O2.out⟩ (((G.out.e.put 0 _).put 1 _).put 2 _).o (Nat.lt_succ_self br)) G.out.n.2.2.2.2.2,(((G.out.e.put 0 _).put 1 _).put 2 _).r,(((G.out.e.put 0 _).put 1 _).put 2 _).k⟩
structure RD where
 ba:Option Addr
 bc:Nat
 b:List M
 x:RS
instance : Coe RD (Array Value) := ⟨fun d => #[.slice d.ba d.b.length d.bc, .slice d.x.aa d.x.a.length d.x.ac, .slice d.x.ea d.x.e.length d.x.ec, .slice d.x.pa d.x.p.length d.x.pc]⟩
instance : Coe RD (List Value) := ⟨fun d => [.slice d.ba d.b.length d.bc, .slice d.x.aa d.x.a.length d.x.ac, .slice d.x.ea d.x.e.length d.x.ec, .slice d.x.pa d.x.p.length d.x.pc]⟩
def OwnDl (w:World) (B:Nat) (d:RD):Prop:=OwnM w B d.ba d.bc d.b∧OwnS w B d.x
theorem delta_read (b:Nat) (l:List UInt8) (E:Int) (w:World) (h:Rd w b l E) (hz:l.length≤1048576) (y:List M × S) (l':List UInt8) (E':Int) (hn:deltaS l E=(y,l',E')) :
  Calls Tryz.prog 76 #[.agg #[.pointer (some ⟨b,0,none⟩)]] w fun e w'=>∃ d:RD,e=.returned (.agg d)∧(d.b,d.x.s)=y∧OwnDl w' w.heap.size d∧Rd w' b l' E'∧But b w w':=by
 obtain ⟨x0,l0,E0,q0⟩:=tr (manyS markS l E);obtain ⟨x1,l1,E1,q1⟩:=tr (stateS l0 E0);simp only[deltaS,bindR,q0,q1,Prod.mk.injEq] at hn;obtain ⟨rfl,rfl,rfl⟩:=hn;have hz0:Hid (l0.length≤1048576):=hid (by have:=(many_eats mark_eats).keeps.len q0;omega);replace q0:=hid q0;replace q1:=hid q1;have HZ:=hid hz;clear hz;go_enter Tryz.func76,Tryz.ntmps76;go_upto_region 1 with (fail)
 obtain ⟨bp,br,W,hbp,hbr,hW,G⟩:=Tk.new h [.slice none 0 0,.slice none 0 0,.slice none 0 0,.slice none 0 0] 35;rw[← hW,← hbr,← hbp];clear hW hbr hbp h;have p0:=G.out.p.at 0 _ rfl;go_wp2_with fail
 refine (many_mark b _ _ _ G.out.r HZ.out _ _ _ q0.out).mono ?_;rintro e w1 ⟨v,rfl,o1,R1,k1⟩;replace o1:=o1.base G.out.s.1;obtain ⟨a0,u0,rfl,-,-,-,-⟩:=o1.lies;have O0:Hid (OwnM w1 (br+1) a0 u0 x0):=hid o1;clear o1;obtain ⟨H,p1,c0,z0⟩:=G.out.go R1 k1 0;clear G p0 k1 R1;go_upto_region 2 with (fail)
 obtain ⟨w2,hw2,G⟩:=H.out.put 0 (.slice a0 x0.length u0);rw[← hw2];replace O0:=hid (O0.out.but (bsetB hw2) (Nat.lt_succ_self br));clear H hw2 p1 c0 z0;have p0:=G.out.p.at 0 _ rfl;go_wp2_with fail
 refine (state_read b _ _ _ G.out.r hz0.out _ _ _ q1.out).mono ?_;rintro e w1 ⟨x,rfl,hx,o1,R1,k1⟩;have HX:=hid hx;have O1:Hid (OwnS w1 (br+1) x):=hid (o1.base G.out.s.1);clear o1 hx;replace O0:=hid (O0.out.but k1 G.out.n.2.2.2.2.1);obtain ⟨H,p1,c1,z1⟩:=G.out.go R1 k1 1;obtain ⟨-,-,c2,z2⟩:=G.out.go R1 k1 2;obtain ⟨-,-,c3,z3⟩:=G.out.go R1 k1 3;clear G p0 k1 R1;go_upto_region 3 with (fail)
 obtain ⟨w2,hw2,G⟩:=H.out.put 1 (.slice x.aa x.a.length x.ac);rw[← hw2];replace O0:=hid (O0.out.but (bsetB hw2) (Nat.lt_succ_self br));replace O1:=hid (O1.out.but (bsetB hw2) (Nat.lt_succ_self br));clear H hw2;have H:=G;clear G;obtain ⟨w2,hw2,G⟩:=H.out.put 2 (.slice x.ea x.e.length x.ec);rw[← hw2];replace O0:=hid (O0.out.but (bsetB hw2) (Nat.lt_succ_self br));replace O1:=hid (O1.out.but (bsetB hw2) (Nat.lt_succ_self br));clear H hw2;have H:=G;clear G;obtain ⟨w2,hw2,G⟩:=H.out.put 3 (.slice x.pa x.p.length x.pc);rw[← hw2];replace O0:=hid (O0.out.but (bsetB hw2) (Nat.lt_succ_self br));replace O1:=hid (O1.out.but (bsetB hw2) (Nat.lt_succ_self br));clear H hw2 p1 c1 z1 c2 z2 c3 z3;obtain ⟨c0,c1,c2,c3⟩:=al4 G.out.s.at;have z:=G.out.s.2.2;go_wp2;refine bodyPost_ret (v:=.agg #[.slice a0 x0.length u0,.slice x.aa x.a.length x.ac,.slice x.ea x.e.length x.ec,.slice x.pa x.p.length x.pc]) (by simp[results,Tryz.results76,go_sem,c0,c1,c2,c3]) rfl ?_;exact ⟨⟨a0,u0,x0,x⟩,rfl,by rw[HX.out],⟨(O0.out.but ((((G.out.e.put 0 _).put 1 _).put 2 _).put 3 _).o (Nat.lt_succ_self br)).base G.out.n.2.2.2.2.2,(O1.out.but ((((G.out.e.put 0 _).put 1 _).put 2 _).put 3 _).o (Nat.lt_succ_self br)).base G.out.n.2.2.2.2.2⟩,((((G.out.e.put 0 _).put 1 _).put 2 _).put 3 _).r,((((G.out.e.put 0 _).put 1 _).put 2 _).put 3 _).k⟩
end Taker
namespace RefMay
open RowKit YtnpjkmomllkhpaaGreatDoor.Mark Num Wire Bag Dots Coder
theorem mayC_any (a:Option Addr) (n c:Nat) (L:List C) (w:World) (hL:Row.Lies cE w a n L) (hn:n≤1048576) :
  CB 106 #[.slice a n c] w (mayCt none L):=by
 have HL:=hid hL;have HN:=hid hL.1;clear hL;obtain ⟨V,hV⟩:=nm (mayCt none L);have HM:Hid (V=mayCt (pC L 0) (L.drop 0)):=hid (by rw[hV];rfl);rw[← hV];clear hV;have hb:=Below.refl w.heap.size w;go_enter Tryz.func106,Tryz.ntmps106;go_wp2_with fail
 go_loopw [3] (fun iv wr=>∃ i:Nat,i≤n∧iv=.int .i64 i∧Hid (V=mayCt (pC L i) (L.drop i))∧Below w.heap.size w wr) (fun iv _=>n - (intOf iv).toNat)
 case atStart=>exact ⟨0,by omega,rfl,HM,hb⟩
 clear HM hb;obtain ⟨i,hi,rfl,HM,hb⟩:=hrel;by_cases hlt:i<n;rotate_left
 ·have e:i=n:=by omega
  have HE:Hid (V=true):=hid (by rw[HM.out,List.drop_eq_nil_of_le (by have:=HN.out;omega)];rfl);go_wp2;go_ret;exact ⟨by rw[HE.out];rfl,hb⟩
 have d1:=dT (p:=(i:Int)<(n:Int));have j1:(0:Int)≤(i:Int):=by omega
 have j2:(i:Int)<(n:Int):=by omega
 have hil:i<L.length:=by have:=HN.out;omega
 obtain ⟨b,o,rfl,hc⟩:=(HL.out.below hb).2 (by omega);obtain ⟨c0,c1,c2⟩:=cl3 (o+i*3) (hc i hil);have hst:=mayCt_step hil;rw[← HM.out] at hst;have HPV:Hid (∀ k',i=k'+1→∃ pv,pC L i=some pv∧wr.cell? ⟨b,o+k'*3,none⟩=some ↑pv):=hid (fun k' hk=>by
  subst hk;have hkl:k'<L.length:=by omega
  exact ⟨(L[k']).p,pC_next hkl,hc k' hkl 0 _ rfl⟩)
 obtain ⟨x,hx⟩:=nm L[i];rw[← hx] at c0 c1 c2 hst;obtain ⟨t,A,B⟩:=x;dsimp only at c0 c1 c2 hst;obtain ⟨o',ho'⟩:=nm (pC L i);rw[← ho'] at hst;have HO':=hid ho';obtain ⟨bad,hbad⟩:=nm ((decide (A=0) && decide (B=0)) || befT o' t);rw[← hbad] at hst;have HST:=hid hst;have HBD:=hid hbad;have HI:=hid hlt;clear hc hx hst hil hlt HM ho' hbad;go_upto_region 4 with (fail)
 go_cut [41] (fun zv wx=>zv=.bool bad∧Below w.heap.size w wx)
 case first =>
  by_cases hA:A=0
  ·have a1:((A:Int) == 0)=true:=bT;by_cases hB:B=0
   ·have a2:((B:Int) == 0)=true:=bT;have HZ:Hid (bad=true):=hid (by rw[HBD.out,decide_eq_true hA,decide_eq_true hB];rfl);clear hA hB HPV;go_wp2_with fail
    refine rhd (aj4 hb c0 c1 c2) fun gH=>?_;refine tk (.range 32) ?_;refine tD ?_;clear hb c0 c1 c2;obtain ⟨hb,c0,c1,c2⟩:=gH;go_wp2_with fail
    go_meet;exact ⟨by rw[HZ.out],hb⟩
   have a2:=bF (a:=B) (b:=0);have HY:Hid (bad=befT o' t):=hid (by rw[HBD.out,decide_eq_false hB,Bool.and_false,Bool.false_or]);clear hA hB;by_cases hi0:i=0
   ·have z1:decide ((0:Int)<(i:Int))=false:=dF;have z1n:=dF (p:=0<i);have HZ:Hid (bad=false):=hid (by rw[HY.out,HO'.out,hi0];rfl);clear hi0 HPV;go_wp2_with fail
    refine rhd (aj4 hb c0 c1 c2) fun gH=>?_;refine tk (.range 32) ?_;refine tD ?_;clear hb c0 c1 c2;obtain ⟨hb,c0,c1,c2⟩:=gH;go_wp2_with fail
    go_meet;exact ⟨by rw[HZ.out],hb⟩
   obtain ⟨k',hk'⟩:∃ k',i=k'+1:=⟨i - 1,by omega⟩
   obtain ⟨pv,hpv,hp0⟩:=HPV.out k' hk';have z1:=dT (p:=(0:Int)<(i:Int));have z1n:=dT (p:=0<i);have w1:IntKind.i64.wrap ((i:Int) - 1)=(k':Int):=by rw[IntKind.wrap_i64];omega
   have j5:(0:Int)≤(k':Int):=by omega
   have j6:(k':Int)<(n:Int):=by omega
   have z2:o'=some pv:=HO'.out.trans hpv;have HY2:Hid (bad = !(decide (TL pv t))):=hid (by rw[HY.out,z2];rfl);have HK':=hid hk';clear z2 hi0 HPV hpv hk' HY;rcases tl_ways pv t with hw | hw | hw
   ·obtain ⟨q1,q2,q3,q4⟩:=ways_less hw;have HZ:Hid (bad=false):=hid (by rw[HY2.out,decide_eq_true hw];rfl);clear hw;go_wp2_with fail
    refine rhd (aj5 hb c0 c1 c2 hp0) fun gH=>?_;refine tk (.range 32) ?_;refine tD ?_;clear hb c0 c1 c2 hp0;obtain ⟨hb,c0,c1,c2,hp0⟩:=gH;go_wp2_with fail
    go_meet;exact ⟨by rw[HZ.out],hb⟩
   ·have q1:=less_self t;have HZ:Hid (bad=true):=hid (by rw[HY2.out,decide_eq_false (by rw[hw];exact linT.irr t)];rfl);have q3:(pv == t)=true:=by simp[hw]
    have q4:(t == pv)=true:=by simp[hw]
    have q5:Op.bytesLess pv t=false:=by rw[hw];exact q1
    have q6:Op.bytesLess t pv=false:=by rw[hw];exact q1
    clear hw;go_wp2_with fail
    refine rhd (aj5 hb c0 c1 c2 hp0) fun gH=>?_;refine tk (.range 32) ?_;refine tD ?_;clear hb c0 c1 c2 hp0;obtain ⟨hb,c0,c1,c2,hp0⟩:=gH;go_wp2_with fail
    go_meet;exact ⟨by rw[HZ.out],hb⟩
   obtain ⟨q1,q2,q3,q4⟩:=ways_less hw;have HZ:Hid (bad=true):=hid (by rw[HY2.out,decide_eq_false (fun h=>linT.irr _ (linT.trans hw h))];rfl);clear hw;go_wp2_with fail
   refine rhd (aj5 hb c0 c1 c2 hp0) fun gH=>?_;refine tk (.range 32) ?_;refine tD ?_;clear hb c0 c1 c2 hp0;obtain ⟨hb,c0,c1,c2,hp0⟩:=gH;go_wp2_with fail
   go_meet;exact ⟨by rw[HZ.out],hb⟩
  have a1:=bF (a:=A) (b:=0);have HY:Hid (bad=befT o' t):=hid (by rw[HBD.out,decide_eq_false hA,Bool.false_and,Bool.false_or]);clear hA;by_cases hi0:i=0
  ·have z1:decide ((0:Int)<(i:Int))=false:=dF;have z1n:=dF (p:=0<i);have HZ:Hid (bad=false):=hid (by rw[HY.out,HO'.out,hi0];rfl);clear hi0 HPV;go_wp2_with fail
   refine rhd (aj4 hb c0 c1 c2) fun gH=>?_;refine tk (.range 32) ?_;refine tD ?_;clear hb c0 c1 c2;obtain ⟨hb,c0,c1,c2⟩:=gH;go_wp2_with fail
   go_meet;exact ⟨by rw[HZ.out],hb⟩
  obtain ⟨k',hk'⟩:∃ k',i=k'+1:=⟨i - 1,by omega⟩
  obtain ⟨pv,hpv,hp0⟩:=HPV.out k' hk';have z1:=dT (p:=(0:Int)<(i:Int));have z1n:=dT (p:=0<i);have w1:IntKind.i64.wrap ((i:Int) - 1)=(k':Int):=by rw[IntKind.wrap_i64];omega
  have j5:(0:Int)≤(k':Int):=by omega
  have j6:(k':Int)<(n:Int):=by omega
  have z2:o'=some pv:=HO'.out.trans hpv;have HY2:Hid (bad = !(decide (TL pv t))):=hid (by rw[HY.out,z2];rfl);have HK':=hid hk';clear z2 hi0 HPV hpv hk' HY;rcases tl_ways pv t with hw | hw | hw
  ·obtain ⟨q1,q2,q3,q4⟩:=ways_less hw;have HZ:Hid (bad=false):=hid (by rw[HY2.out,decide_eq_true hw];rfl);clear hw;go_wp2_with fail
   refine rhd (aj5 hb c0 c1 c2 hp0) fun gH=>?_;refine tk (.range 32) ?_;refine tD ?_;clear hb c0 c1 c2 hp0;obtain ⟨hb,c0,c1,c2,hp0⟩:=gH;go_wp2_with fail
   go_meet;exact ⟨by rw[HZ.out],hb⟩
  ·have q1:=less_self t;have HZ:Hid (bad=true):=hid (by rw[HY2.out,decide_eq_false (by rw[hw];exact linT.irr t)];rfl);have q3:(pv == t)=true:=by simp[hw]
   have q4:(t == pv)=true:=by simp[hw]
   have q5:Op.bytesLess pv t=false:=by rw[hw];exact q1
   have q6:Op.bytesLess t pv=false:=by rw[hw];exact q1
   clear hw;go_wp2_with fail
   refine rhd (aj5 hb c0 c1 c2 hp0) fun gH=>?_;refine tk (.range 32) ?_;refine tD ?_;clear hb c0 c1 c2 hp0;obtain ⟨hb,c0,c1,c2,hp0⟩:=gH;go_wp2_with fail
   go_meet;exact ⟨by rw[HZ.out],hb⟩
  obtain ⟨q1,q2,q3,q4⟩:=ways_less hw;have HZ:Hid (bad=true):=hid (by rw[HY2.out,decide_eq_false (fun h=>linT.irr _ (linT.trans hw h))];rfl);clear hw;go_wp2_with fail
  refine rhd (aj5 hb c0 c1 c2 hp0) fun gH=>?_;refine tk (.range 32) ?_;refine tD ?_;clear hb c0 c1 c2 hp0;obtain ⟨hb,c0,c1,c2,hp0⟩:=gH;go_wp2_with fail
  go_meet;exact ⟨by rw[HZ.out],hb⟩
 clear hb c0 c1 c2;obtain ⟨rfl,hb⟩:=hcut;cases bad
 ·have HV2:Hid (V=mayCt (pC L (i+1)) (L.drop (i+1))):=hid (by rw[HST.out];rfl);clear HST HBD;go_wp2;go_roundw
  ·exact ⟨i+1,by have:=HI.out;omega,by go_num,HV2,hb⟩
  simp[intOf];have:=HI.out;omega
 have HV2:Hid (V=false):=hid (by rw[HST.out];rfl);clear HST HBD;go_wp2;go_ret;exact ⟨by rw[HV2.out];rfl,hb⟩
theorem refkind (k:List UInt8) (w:World) (h:k.length≤65536):CB 61 #[k] w (.int .u8 (kd k:Nat)):=by
 have q:=Text.refkind_any ⟨k.toArray⟩ w (by rw[Str.size_mk];omega);exact q
def only (x:RE):Bool:=(decide (kd x.k=1) || decide (x.c.length=0)) && ((decide (kd x.k=2) || decide (x.j.length=0)) && (decide (kd x.k=3) || zeroL x.l))
def refE (x:RE):Bool := !decide (kd x.k=0) && (!decide (x.s.length=0) && (mayL x.s && (mayCt none x.c && (mayB (x.j.map RI.it) && (mayCl x.l && (only x && (seenC x.s x.c && seenJ x.s x.j)))))))
theorem mayCl_zero {c:Cl} (h:zeroL c=true):mayCl c=true:=by rw[zeroL_is h];rfl
theorem refE_is (x:RE):mayE x.e=refE x:=by
 have hk:=kinds_is x;have hm:mayE x.e=(mayL x.s && (!decide (x.s.length=0) && kinds x.e)):=rfl;rw[hm,hk];unfold refE only B1 B2 B3;have h3:=kd_le x.k;have e0:∀ {α:Type} (l:List α),decide (l.length=0)=true→l=[]:=fun l h=>List.length_eq_zero_iff.1 (of_decide_eq_true h);rw[Bool.eq_iff_iff];by_cases k1:kd x.k=1
 ·simp only[k1,if_true,Bool.and_eq_true,Bool.or_eq_true,decide_eq_true_eq,Bool.not_eq_true',decide_eq_false_iff_not,show ¬ ((1:Nat)=0) by decide,show ¬ ((1:Nat)=2) by decide,show ¬ ((1:Nat)=3) by decide,not_false_eq_true,false_or,true_or,true_and];constructor
  ·rintro ⟨h1,h2,h4,h5,h6,h7⟩;have ej:x.j=[]:=List.length_eq_zero_iff.1 h6;exact ⟨h2,h1,h4,by rw[ej];rfl,mayCl_zero h7,⟨h6,h7⟩,h5,by rw[ej];rfl⟩
  rintro ⟨h1,h2,h4,h5,h6,⟨h7,h8⟩,h9,h10⟩;exact ⟨h2,h1,h4,h9,h7,h8⟩
 by_cases k2:kd x.k=2
 ·simp only[k2,if_true,show ¬ ((2:Nat)=1) by decide,if_false,Bool.and_eq_true,Bool.or_eq_true,decide_eq_true_eq,Bool.not_eq_true',decide_eq_false_iff_not,show ¬ ((2:Nat)=0) by decide,show ¬ ((2:Nat)=3) by decide,not_false_eq_true,false_or,true_or,true_and];constructor
  ·rintro ⟨h1,h2,h4,h5,h6,h7⟩;have ec:x.c=[]:=List.length_eq_zero_iff.1 h6;exact ⟨h2,h1,by rw[ec];rfl,h4,mayCl_zero h7,⟨h6,h7⟩,by rw[ec];rfl,h5⟩
  rintro ⟨h1,h2,h4,h5,h6,⟨h7,h8⟩,h9,h10⟩;exact ⟨h2,h1,h5,h10,h7,h8⟩
 by_cases k3:kd x.k=3
 ·simp only[k3,if_true,show ¬ ((3:Nat)=1) by decide,show ¬ ((3:Nat)=2) by decide,if_false,Bool.and_eq_true,Bool.or_eq_true,decide_eq_true_eq,Bool.not_eq_true',decide_eq_false_iff_not,show ¬ ((3:Nat)=0) by decide,not_false_eq_true,false_or,true_or,true_and,and_true];constructor
  ·rintro ⟨h1,h2,h4,h5,h6⟩;have ec:x.c=[]:=List.length_eq_zero_iff.1 h5;have ej:x.j=[]:=List.length_eq_zero_iff.1 h6;exact ⟨h2,h1,by rw[ec];rfl,by rw[ej];rfl,h4,⟨h5,h6⟩,by rw[ec];rfl,by rw[ej];rfl⟩
  rintro ⟨h1,h2,h4,h5,h6,⟨h7,h8⟩,h9,h10⟩;exact ⟨h2,h1,h6,h7,h8⟩
 have k0:kd x.k=0:=by omega
 simp[k0]
theorem neq_cell (m k:Cl) (w:World):(binOp .neq 27 (.agg m) (.agg k)).run Tryz.prog w=.ok (.bool (!decide (m=k))) w:=by
 rw[run_neq_struct,eql_of_cell,eqL_iff];rfl
theorem mayE_any (x:RE) (w:World) (hx:InnerE w x) (ox:x.Ok) (hky:x.k.length≤65536) (hf:(x.j.flatMap RI.d).length≤549755813888) :
  CB 39 #[.agg x] w (mayE x.e):=by
 rw[refE_is];have lx:=hid hx;have OX:=hid ox;have hcn:=ox.c;have hjn:=ox.j;clear hx;obtain ⟨k,hk⟩:=nm (kd x.k);obtain ⟨V,hV⟩:=nm (refE x);obtain ⟨q1,hq1⟩:=nm (decide (x.s.length=0));obtain ⟨q2,hq2⟩:=nm (mayL x.s);obtain ⟨q3,hq3⟩:=nm (mayCt none x.c);obtain ⟨q4,hq4⟩:=nm (mayB (x.j.map RI.it));obtain ⟨q5,hq5⟩:=nm (mayCl x.l);obtain ⟨z1,hz1⟩:=nm (decide (x.c.length=0));obtain ⟨z2,hz2⟩:=nm (decide (x.j.length=0));obtain ⟨z3,hz3⟩:=nm (zeroL x.l);have hk3:k≤3:=by rw[hk];exact kd_le _
 have HV:Hid (V=(!decide (k=0) && (!q1 && (q2 && (q3 && (q4 && (q5 && (((decide (k=1) || z1) && ((decide (k=2) || z2) && (decide (k=3) || z3))) && (seenC x.s x.c && seenJ x.s x.j))))))))):=hid (by rw[hV,hk,hq1,hq2,hq3,hq4,hq5,hz1,hz2,hz3];rfl);rw[← hV];have e1:((x.s.length:Int) == 0)=q1:=by rw[hq1];by_cases h:x.s.length=0 <;> simp[h]
 have y1:decide ((0:Int)<(x.c.length:Int)) = !z1:=by rw[hz1];by_cases h:x.c.length=0 <;> simp[h];omega
 have y1n:decide (0<x.c.length) = !z1:=by rw[hz1];by_cases h:x.c.length=0 <;> simp[h];omega
 have y2:decide ((0:Int)<(x.j.length:Int)) = !z2:=by rw[hz2];by_cases h:x.j.length=0 <;> simp[h];omega
 have y2n:decide (0<x.j.length) = !z2:=by rw[hz2];by_cases h:x.j.length=0 <;> simp[h];omega
 have CL:∀ W,(binOp .neq 27 (.agg x.l) (.agg #[.int .u64 0,.string ⟨#[]⟩,.bool false])).run Tryz.prog W=.ok (.bool (!z3)) W:=by rw[hz3,zeroL_eq];exact fun W=>neq_cell x.l Cl.zero W
 have KD:=hid (fun W=>(by rw[hk];exact refkind x.k W hky:CB 61 #[x.k] W (.int .u8 (k:Nat))));have C2:=hid (fun W (h:InnerE W x)=>qB hq2 (RefDots.may_any x.s x.sa x.s.length x.sc W h.s (by have:=ox.s;omega) (ok_of ox.sm)));have C3:=hid (fun W (h:InnerE W x)=>qB hq3 (mayC_any x.ca x.c.length x.cc x.c W h.c ox.c));have C4:=hid (fun W (h:InnerE W x)=>qB hq4 (mayB_any x.j x.ia x.ic W h.i.1 h.i.2 ox.j (fun y hy=>⟨(ox.jm y hy).1,(ox.jm y hy).2.1⟩) hf));have C5:=hid (fun W=>(by rw[hq5,← mayCl_eq];exact Cell.refmay_any (x.l.s:Int) ⟨x.l.t.toArray⟩ x.l.g W (by omega):CB 108 #[.agg x.l] W q5));clear hk hV hq1 hq2 hq3 hq4 hq5 hz1 hz2 hz3 ox hky hf;go_enter Tryz.func39,Tryz.ntmps39;go_upto_region 1 with (fail)
 have hb0:=balloc (Below.refl w.heap.size w) (.cells x 29);obtain ⟨p0,p1,p2,p3,p4,p5,p6⟩:=al7 (bx w x 29);obtain ⟨w0,hw0⟩:=nm (w.alloc (.cells x 29));rw[← hw0] at hb0 p0 p1 p2 p3 p4 p5 p6 ⊢;obtain ⟨bp,hbp⟩:=nm w.heap.size;rw[← hbp] at p0 p1 p2 p3 p4 p5 p6 ⊢;have hb:=hb0;clear hb0 hw0 hbp;replace lx:=hid (lx.out.below hb);go_wp2_with fail
 refine cr (KD.out _) fun v1 k1=>?_;have hA:=kp k1 (aj7 p0 p1 p2 p3 p4 p5 p6);clear p0 p1 p2 p3 p4 p5 p6;obtain ⟨p0,p1,p2,p3,p4,p5,p6⟩:=hA;replace lx:=hid ((lx.out).below k1);replace hb:=bstep hb k1;clear k1;by_cases k0:k=0
 ·have zz0:((k:Int) == 0)=true:=bT;have HV2:Hid (V=false):=hid (by rw[HV.out,decide_eq_true k0];simp);go_wp2;go_ret;exact ⟨by rw[HV2.out];rfl,hb⟩
 have zz0:=bF (a:=k) (b:=0);cases q1
 rotate_left
 ·
  have HV2:Hid (V=false):=hid (by rw[HV.out];simp);go_wp2;go_ret;exact ⟨by rw[HV2.out];rfl,hb⟩
 go_wp2_with fail
 refine cr (C2.out _ lx.out) fun v2 k2=>?_;have hA:=kp k2 (aj7 p0 p1 p2 p3 p4 p5 p6);clear p0 p1 p2 p3 p4 p5 p6;obtain ⟨p0,p1,p2,p3,p4,p5,p6⟩:=hA;replace lx:=hid ((lx.out).below k2);replace hb:=bstep hb k2;clear k2;cases q2
 ·
  have HV2:Hid (V=false):=hid (by rw[HV.out];simp);go_wp2;go_ret;exact ⟨by rw[HV2.out];rfl,hb⟩
 go_wp2_with fail
 refine cr (C3.out _ lx.out) fun v3 k3=>?_;have hA:=kp k3 (aj7 p0 p1 p2 p3 p4 p5 p6);clear p0 p1 p2 p3 p4 p5 p6;obtain ⟨p0,p1,p2,p3,p4,p5,p6⟩:=hA;replace lx:=hid ((lx.out).below k3);replace hb:=bstep hb k3;clear k3;cases q3
 ·
  have HV2:Hid (V=false):=hid (by rw[HV.out];simp);go_wp2;go_ret;exact ⟨by rw[HV2.out];rfl,hb⟩
 go_wp2_with fail
 refine cr (C4.out _ lx.out) fun v4 k4=>?_;have hA:=kp k4 (aj7 p0 p1 p2 p3 p4 p5 p6);clear p0 p1 p2 p3 p4 p5 p6;obtain ⟨p0,p1,p2,p3,p4,p5,p6⟩:=hA;replace lx:=hid ((lx.out).below k4);replace hb:=bstep hb k4;clear k4;cases q4
 ·
  have HV2:Hid (V=false):=hid (by rw[HV.out];simp);go_wp2;go_ret;exact ⟨by rw[HV2.out];rfl,hb⟩
 go_wp2_with fail
 refine cr (C5.out _) fun v5 k5=>?_;have hA:=kp k5 (aj7 p0 p1 p2 p3 p4 p5 p6);clear p0 p1 p2 p3 p4 p5 p6;obtain ⟨p0,p1,p2,p3,p4,p5,p6⟩:=hA;replace lx:=hid ((lx.out).below k5);replace hb:=bstep hb k5;clear k5;cases q5
 ·
  have HV2:Hid (V=false):=hid (by rw[HV.out];simp);go_wp2;go_ret;exact ⟨by rw[HV2.out];rfl,hb⟩
 obtain ⟨U,hU⟩:=nm (seenC x.s x.c && seenJ x.s x.j);have HV1:Hid (V=(((decide (k=1) || z1) && ((decide (k=2) || z2) && (decide (k=3) || z3))) && U)):=hid (by rw[HV.out,decide_eq_false k0,hU];simp);have HU:=hid hU;clear HV hU C2 C3 C4 C5 KD;replace k0:=hid k0;go_upto_region 4 with (fail)
 go_cut [69] (fun zv wx=>zv=.bool (!((decide (k=1) || z1) && ((decide (k=2) || z2) && (decide (k=3) || z3))))∧Below w.heap.size w wx∧wx.cell? ⟨bp,0,none⟩=some ↑x.k∧wx.cell? ⟨bp,1,none⟩=some (.slice x.sa x.s.length x.sc)∧wx.cell? ⟨bp,2,none⟩=some (.slice x.ca x.c.length x.cc)∧wx.cell? ⟨bp,3,none⟩=some (.slice x.ia x.j.length x.ic)∧wx.cell? ⟨bp,4,none⟩=some ↑x.l.s∧wx.cell? ⟨bp,5,none⟩=some ↑x.l.t∧wx.cell? ⟨bp,6,none⟩=some ↑x.l.g∧InnerE wx x)
 case first =>
  by_cases k1:k=1
  ·
   have zz1:((k:Int) != 1)=false:=by rw[bne_eq_false_iff_eq];omega
   have zz2:((k:Int) != 2)=true:=by rw[bne_iff_ne];omega
   have zz3:((k:Int) != 3)=true:=by rw[bne_iff_ne];omega
   subst k1;cases z2
   ·
    go_wp2_with fail
    go_meet;exact ⟨by simp,hb,p0,p1,p2,p3,p4,p5,p6,lx.out⟩
   cases z3
   ·
    go_wp2_with fail
    go_meet;exact ⟨by simp,hb,p0,p1,p2,p3,p4,p5,p6,lx.out⟩
   go_wp2_with fail
   go_meet;exact ⟨by simp,hb,p0,p1,p2,p3,p4,p5,p6,lx.out⟩
  by_cases k2:k=2
  ·
   have zz1:((k:Int) != 1)=true:=by rw[bne_iff_ne];omega
   have zz2:((k:Int) != 2)=false:=by rw[bne_eq_false_iff_eq];omega
   have zz3:((k:Int) != 3)=true:=by rw[bne_iff_ne];omega
   subst k2;cases z1
   ·
    go_wp2_with fail
    go_meet;exact ⟨by simp,hb,p0,p1,p2,p3,p4,p5,p6,lx.out⟩
   cases z3
   ·
    go_wp2_with fail
    go_meet;exact ⟨by simp,hb,p0,p1,p2,p3,p4,p5,p6,lx.out⟩
   go_wp2_with fail
   go_meet;exact ⟨by simp,hb,p0,p1,p2,p3,p4,p5,p6,lx.out⟩
  have k3:k=3:=by have:=k0.out;omega
  clear k1 k2;have zz1:((k:Int) != 1)=true:=by rw[bne_iff_ne];omega
  have zz2:((k:Int) != 2)=true:=by rw[bne_iff_ne];omega
  have zz3:((k:Int) != 3)=false:=by rw[bne_eq_false_iff_eq];omega
  subst k3;cases z1
  ·
   go_wp2_with fail
   go_meet;exact ⟨by simp,hb,p0,p1,p2,p3,p4,p5,p6,lx.out⟩
  cases z2
  ·
   go_wp2_with fail
   go_meet;exact ⟨by simp,hb,p0,p1,p2,p3,p4,p5,p6,lx.out⟩
  go_wp2_with fail
  go_meet;exact ⟨by simp,hb,p0,p1,p2,p3,p4,p5,p6,lx.out⟩
 clear hb p0 p1 p2 p3 p4 p5 p6 lx;obtain ⟨rfl,hb,p0,p1,p2,p3,p4,p5,p6,lx⟩:=hcut;replace lx:=hid lx;obtain ⟨on,hon⟩:=nm ((decide (k=1) || z1) && ((decide (k=2) || z2) && (decide (k=3) || z3)));rw[← hon] at HV1 ⊢;clear hon CL y1 y1n y2 y2n e1;cases on
 ·have HV2:Hid (V=false):=hid (by rw[HV1.out];rfl);go_wp2;go_ret;exact ⟨by rw[HV2.out];rfl,hb⟩
 have HV3:Hid (V=(seenC x.s (x.c.drop 0) && seenJ x.s x.j)):=hid (by rw[HV1.out,HU.out];rfl);clear HV1 HU;go_wp2_with fail
 go_loopw [4] (fun iv wr=>∃ i:Nat,i≤x.c.length∧iv=.int .i64 i∧Hid (V=(seenC x.s (x.c.drop i) && seenJ x.s x.j))∧Below w.heap.size w wr∧(wr.cell? ⟨bp,0,none⟩=some ↑x.k)∧(wr.cell? ⟨bp,1,none⟩=some (.slice x.sa x.s.length x.sc))∧(wr.cell? ⟨bp,2,none⟩=some (.slice x.ca x.c.length x.cc))∧(wr.cell? ⟨bp,3,none⟩=some (.slice x.ia x.j.length x.ic))∧(wr.cell? ⟨bp,4,none⟩=some ↑x.l.s)∧(wr.cell? ⟨bp,5,none⟩=some ↑x.l.t)∧(wr.cell? ⟨bp,6,none⟩=some ↑x.l.g)∧Hid (InnerE wr x)) (fun iv _=>x.c.length - (intOf iv).toNat)
 case atStart=>exact ⟨0,by omega,rfl,HV3,hb,p0,p1,p2,p3,p4,p5,p6,lx⟩
 clear HV3 hb p0 p1 p2 p3 p4 p5 p6 lx;obtain ⟨i,hi,rfl,HM,hb,p0,p1,p2,p3,p4,p5,p6,lx⟩:=hrel;by_cases hlt:i<x.c.length
 ·
  have d1:=dT (p:=(i:Int)<(x.c.length:Int));have j1:(0:Int)≤(i:Int):=by omega
  have j2:(i:Int)<(x.c.length:Int):=by omega
  obtain ⟨b,o,hea,hc⟩:=lx.out.c.2 (by omega);rw[hea] at p2 ⊢;have c0:=cl1 (o+i*3) (hc i hlt);have hst:=seenC_step x.s hlt;obtain ⟨t,ht⟩:=nm ((x.c[i]).p);rw[← ht] at c0 hst;obtain ⟨z,hz⟩:=nm (ofL x.s t);rw[← hz] at hst;have D1:=hid (fun W (h:InnerE W x)=>(by rw[hz];exact RefDots.of_any t x.s x.sa x.s.length x.sc W h.s (by have:=OX.out.s;omega) (ok_of OX.out.sm):CP 109 #[.slice x.sa x.s.length x.sc,t] W (.int .u64 (z:Nat))));rw[hst] at HM;have HI:=hid hlt;clear hc ht hst hlt hz hea;go_upto_region 9 with (fail)
  obtain ⟨bad,hbad⟩:=nm (!decide (t=[]) && decide (z=0));have HST:Hid (V=((!bad && seenC x.s (x.c.drop (i+1))) && seenJ x.s x.j)):=hid (by
   rw[HM.out,hbad];by_cases h1:t=[] <;> by_cases h2:z=0 <;> simp[h1,h2])
  have HBD:=hid hbad;clear HM hbad;go_cut [95] (fun zv wx=>zv=.bool bad∧Below w.heap.size w wx∧wx.cell? ⟨bp,0,none⟩=some ↑x.k∧wx.cell? ⟨bp,1,none⟩=some (.slice x.sa x.s.length x.sc)∧wx.cell? ⟨bp,2,none⟩=some (.slice (some ⟨b,o,none⟩) x.c.length x.cc)∧wx.cell? ⟨bp,3,none⟩=some (.slice x.ia x.j.length x.ic)∧wx.cell? ⟨bp,4,none⟩=some ↑x.l.s∧wx.cell? ⟨bp,5,none⟩=some ↑x.l.t∧wx.cell? ⟨bp,6,none⟩=some ↑x.l.g∧InnerE wx x)
  case first =>
   by_cases hp:t=[]
   ·have e0:(t != [])=false:=by rw[hp];rfl
    have e0':(t == [])=true:=by rw[hp];rfl
    have HZ:Hid (bad=false):=hid (by rw[HBD.out,decide_eq_true hp];rfl);clear hp;go_wp2_with fail
    refine rhd (aj10 hb p0 p1 p2 p3 p4 p5 p6 lx.out c0) fun gH=>?_;refine tk (.range 19) ?_;refine tD ?_;clear hb p0 p1 p2 p3 p4 p5 p6 lx c0;obtain ⟨hb,p0,p1,p2,p3,p4,p5,p6,lx,c0⟩:=gH;replace lx:=hid lx;go_wp2_with fail
    go_meet;exact ⟨by rw[HZ.out],hb,p0,p1,p2,p3,p4,p5,p6,lx.out⟩
   have e0:(t != [])=true:=by rw[bne_iff_ne];exact hp
   have e0':(t == [])=false:=by rw[beq_eq_false_iff_ne];exact hp
   have HY:Hid (bad=decide (z=0)):=hid (by rw[HBD.out,decide_eq_false hp];rfl);clear hp;by_cases h9:z=0
   ·have e9:((z:Int) == 0)=true:=bT;have HZ:Hid (bad=true):=hid (by rw[HY.out,decide_eq_true h9]);clear h9;go_wp2_with fail
    refine rhd (aj10 hb p0 p1 p2 p3 p4 p5 p6 lx.out c0) fun gH=>?_;refine tk (.range 16) ?_;refine tR 16 fun K hK=>?_;go_simp;go_at_call 109;refine cp (D1.out _ gH.2.2.2.2.2.2.2.2.1) ?_;go_wp2_with fail
    refine hK.out _ _ gH (fun gH=>?_);clear hK K;try simp only[Act.put,List.setIfInBounds_toArray,List.set_cons_zero,List.set_cons_succ]
    refine tk [17,18] ?_;refine tD ?_;clear hb p0 p1 p2 p3 p4 p5 p6 lx c0;obtain ⟨hb,p0,p1,p2,p3,p4,p5,p6,lx,c0⟩:=gH;replace lx:=hid lx;go_wp2_with fail
    go_meet;exact ⟨by rw[HZ.out],hb,p0,p1,p2,p3,p4,p5,p6,lx.out⟩
   have e9:=bF (a:=z) (b:=0);have HZ:Hid (bad=false):=hid (by rw[HY.out,decide_eq_false h9]);clear h9;go_wp2_with fail
   refine rhd (aj10 hb p0 p1 p2 p3 p4 p5 p6 lx.out c0) fun gH=>?_;refine tk (.range 16) ?_;refine tR 16 fun K hK=>?_;go_simp;go_at_call 109;refine cp (D1.out _ gH.2.2.2.2.2.2.2.2.1) ?_;go_wp2_with fail
   refine hK.out _ _ gH (fun gH=>?_);clear hK K;try simp only[Act.put,List.setIfInBounds_toArray,List.set_cons_zero,List.set_cons_succ]
   refine tk [17,18] ?_;refine tD ?_;clear hb p0 p1 p2 p3 p4 p5 p6 lx c0;obtain ⟨hb,p0,p1,p2,p3,p4,p5,p6,lx,c0⟩:=gH;replace lx:=hid lx;go_wp2_with fail
   go_meet;exact ⟨by rw[HZ.out],hb,p0,p1,p2,p3,p4,p5,p6,lx.out⟩
  clear hb c0 p0 p1 p2 p3 p4 p5 p6 lx;obtain ⟨rfl,hb,p0,p1,p2,p3,p4,p5,p6,lx⟩:=hcut;replace lx:=hid lx;cases bad
  rotate_left
  ·have HV2:Hid (V=false):=hid (by rw[HST.out];rfl);clear HST HBD;go_wp2;go_ret;exact ⟨by rw[HV2.out];rfl,hb⟩
  have HV2:Hid (V=(seenC x.s (x.c.drop (i+1)) && seenJ x.s x.j)):=hid (by rw[HST.out];rfl);clear HST HBD;go_wp2;go_roundw
  ·exact ⟨i+1,by have:=HI.out;omega,by go_num,HV2,hb,p0,p1,p2,p3,p4,p5,p6,lx⟩
  simp[intOf];have:=HI.out;omega
 have HE:Hid (V=seenJ x.s (x.j.drop 0)):=hid (by rw[HM.out,List.drop_eq_nil_of_le (by omega)];rfl);have d1:=dF (p:=(i:Int)<(x.c.length:Int));clear HM;go_wp2_with fail
 clear hlt d1;go_loopw [5] (fun iv wr=>∃ i:Nat,i≤x.j.length∧iv=.int .i64 i∧Hid (V=seenJ x.s (x.j.drop i))∧Below w.heap.size w wr∧(wr.cell? ⟨bp,0,none⟩=some ↑x.k)∧(wr.cell? ⟨bp,1,none⟩=some (.slice x.sa x.s.length x.sc))∧(wr.cell? ⟨bp,2,none⟩=some (.slice x.ca x.c.length x.cc))∧(wr.cell? ⟨bp,3,none⟩=some (.slice x.ia x.j.length x.ic))∧(wr.cell? ⟨bp,4,none⟩=some ↑x.l.s)∧(wr.cell? ⟨bp,5,none⟩=some ↑x.l.t)∧(wr.cell? ⟨bp,6,none⟩=some ↑x.l.g)∧Hid (InnerE wr x)) (fun iv _=>x.j.length - (intOf iv).toNat)
 case atStart=>exact ⟨0,by omega,rfl,HE,hb,p0,p1,p2,p3,p4,p5,p6,lx⟩
 clear HE hb p0 p1 p2 p3 p4 p5 p6 lx hi;obtain ⟨i,hi,rfl,HM,hb,p0,p1,p2,p3,p4,p5,p6,lx⟩:=hrel;by_cases hlt:i<x.j.length;rotate_left
 ·have HE:Hid (V=true):=hid (by rw[HM.out,List.drop_eq_nil_of_le (by omega)];rfl);go_wp2;go_ret;exact ⟨by rw[HE.out];rfl,hb⟩
 have d1:=dT (p:=(i:Int)<(x.j.length:Int));have j1:(0:Int)≤(i:Int):=by omega
 have j2:(i:Int)<(x.j.length:Int):=by omega
 obtain ⟨b,o,hea,hc⟩:=lx.out.i.1.2 (by omega);rw[hea] at p3 ⊢;obtain ⟨-,c1⟩:=cl2 (o+i*2) (hc i hlt);have ly:Hid (Row.Lies dE wr (x.j[i]).a (x.j[i]).d.length (x.j[i]).d):=hid (lx.out.i.2 _ (List.getElem_mem hlt));have hst:=seenJ_step x.s hlt;have hdl:=(OX.out.jm _ (List.getElem_mem hlt)).2.1;obtain ⟨u,hu⟩:=nm x.j[i];rw[← hu] at c1 ly hst hdl;obtain ⟨ut,da,dc,D⟩:=u;dsimp only at c1 ly hst hdl;rw[hst] at HM;have HV4:Hid (V=(seenD x.s (D.drop 0) && seenJ x.s (x.j.drop (i+1)))):=hid HM.out;have HI:=hid hlt;clear hc hu hst hlt HM hea;go_wp2_with fail
 go_loopw [6] (fun jv wr=>∃ j:Nat,j≤D.length∧jv=.int .i64 j∧Hid (V=(seenD x.s (D.drop j) && seenJ x.s (x.j.drop (i+1))))∧Below w.heap.size w wr∧(wr.cell? ⟨bp,0,none⟩=some ↑x.k)∧(wr.cell? ⟨bp,1,none⟩=some (.slice x.sa x.s.length x.sc))∧(wr.cell? ⟨bp,2,none⟩=some (.slice x.ca x.c.length x.cc))∧(wr.cell? ⟨bp,3,none⟩=some (.slice (some ⟨b,o,none⟩) x.j.length x.ic))∧(wr.cell? ⟨bp,4,none⟩=some ↑x.l.s)∧(wr.cell? ⟨bp,5,none⟩=some ↑x.l.t)∧(wr.cell? ⟨bp,6,none⟩=some ↑x.l.g)∧Hid (InnerE wr x)∧(wr.cell? ⟨b,o+i*2+1,none⟩=some (.slice da D.length dc))∧Hid (Row.Lies dE wr da D.length D)) (fun jv _=>D.length - (intOf jv).toNat)
 case atStart=>exact ⟨0,by omega,rfl,HV4,hb,p0,p1,p2,p3,p4,p5,p6,lx,c1,ly⟩
 clear HV4 hb p0 p1 p2 p3 p4 p5 p6 lx c1 ly;obtain ⟨j,hj,rfl,HM,hb,p0,p1,p2,p3,p4,p5,p6,lx,c1,ly⟩:=hrel;by_cases hjt:j<D.length;rotate_left
 ·have HE:Hid (V=seenJ x.s (x.j.drop (i+1))):=hid (by rw[HM.out,List.drop_eq_nil_of_le (by omega)];rfl);go_wp2;go_roundw
  ·exact ⟨i+1,by have:=HI.out;omega,by go_num,HE,hb,p0,p1,p2,p3,p4,p5,p6,lx⟩
  simp[intOf];have:=HI.out;omega
 have dj:=dT (p:=(j:Int)<(D.length:Int));have j3:(0:Int)≤(j:Int):=by omega
 have j4:(j:Int)<(D.length:Int):=by omega
 obtain ⟨b2,o2,rfl,hc2⟩:=ly.out.2 (by omega);obtain ⟨f0,f1⟩:=cl2 (o2+j*2) (hc2 j hjt);have hst:=seenD_step x.s hjt;obtain ⟨m,hm⟩:=nm D[j];rw[← hm] at f0 f1 hst;obtain ⟨q,hq⟩:=nm (hasL x.s m.p m.n);rw[← hq] at hst;have D1:=hid (fun W (h:InnerE W x)=>qB hq (RefDots.has_any m.p m.n x.s x.sa x.s.length x.sc W h.s (by have:=OX.out.s;omega) (ok_of OX.out.sm)));rw[hst] at HM;have HJ:=hid hjt;clear hc2 hm hst hjt hq;go_wp2_with fail
 refine rhd (aj13 hb p0 p1 p2 p3 p4 p5 p6 lx.out c1 ly.out f0 f1) fun gH=>?_;refine tk (.range 11) ?_;refine tR 11 fun K hK=>?_;go_simp;go_at_call 110;refine cr (D1.out _ gH.2.2.2.2.2.2.2.2.1) fun v8 k8=>?_;go_wp2_with fail
 refine tH hK gH k8 fun gH=>?_;clear hK K k8;refine tk [12] ?_;refine tD ?_;clear hb p0 p1 p2 p3 p4 p5 p6 lx c1 ly f0 f1;obtain ⟨hb,p0,p1,p2,p3,p4,p5,p6,lx,c1,ly,f0,f1⟩:=gH;replace lx:=hid lx;replace ly:=hid ly;clear f0 f1 D1;cases q
 ·have HV2:Hid (V=false):=hid (by rw[HM.out];rfl);go_wp2;go_ret;exact ⟨by rw[HV2.out];rfl,hb⟩
 have HV2:Hid (V=(seenD x.s (D.drop (j+1)) && seenJ x.s (x.j.drop (i+1)))):=hid (by rw[HM.out];rfl);go_wp2;go_roundw
 ·exact ⟨_,_,_,_,_,_,_,_,_,_,_,_,_,_,_,_,_,_,_,_,_,_,_,_,_,_,⟨j+1,by have:=HJ.out;omega,by go_num,HV2,hb,p0,p1,p2,p3,p4,p5,p6,lx,c1,ly⟩,rfl⟩
 simp[intOf];have:=HJ.out;omega
end RefMay
namespace Coder
open RowKit YtnpjkmomllkhpaaGreatDoor.Mark Num Wire Bag Dots
theorem same_e (x y:RE):decide (x.e=y.e)=(decide (x.k=y.k) && (decide (x.s=y.s) && (decide (x.c=y.c) && (decide (x.j.map RI.it=y.j.map RI.it) && decide (x.l=y.l))))):=by
 rw[Bool.eq_iff_iff];simp only[Bool.and_eq_true,decide_eq_true_eq,RE.e,E.mk.injEq]
theorem InnerI.lies {w:World} {x:RE} (h:InnerI w x):Bag.Lies w x.ia x.j.length (x.j.map RI.it):=⟨x.j,rfl,h.1,h.2⟩
theorem sameE_any (x y:RE) (w:World) (hx:InnerE w x) (hy:InnerE w y) (ox:x.Ok) (oy:y.Ok) :
  CB 23 #[.agg x,.agg y] w (decide (x.e=y.e)):=by
 have kx:=hid hx;have ky:=hid hy;have HV:Hid (decide (x.e=y.e)=(decide (x.k=y.k) && (decide (x.s=y.s) && (decide (x.c=y.c) && (decide (x.j.map RI.it=y.j.map RI.it) && decide (x.l=y.l)))))):=hid (same_e x y);have OX:=hid ox;have OY:=hid oy;clear hx hy ox oy;obtain ⟨q0,hq0⟩:=nm (decide (x.k=y.k));have e0:(x.k == y.k)=q0:=by rw[hq0];by_cases h:x.k=y.k <;> simp[h]
 obtain ⟨q1,hq1⟩:=nm (decide (x.s=y.s));obtain ⟨q2,hq2⟩:=nm (decide (x.c=y.c));obtain ⟨q3,hq3⟩:=nm (decide (x.j.map RI.it=y.j.map RI.it));obtain ⟨q4,hq4⟩:=nm (decide (x.l=y.l));rw[← hq0,← hq1,← hq2,← hq3,← hq4] at HV;have CL:=eql_cell x.l y.l;rw[← hq4] at CL;have C1:=hid (fun W (hx:InnerE W x) (hy:InnerE W y)=>qB hq1 (RefDots.same_any x.s y.s x.sa y.sa x.s.length y.s.length x.sc y.sc W hx.s hy.s (by have:=OX.out.s;omega) (by have:=OY.out.s;omega)));have C2:=hid (fun W (hx:InnerE W x) (hy:InnerE W y)=>qB hq2 (sameC_any x.c y.c x.ca y.ca x.c.length y.c.length x.cc y.cc W hx.c hy.c (by have:=OX.out.c;omega)));have C3:=hid (fun W (hx:InnerE W x) (hy:InnerE W y)=>(by rw[hq3];exact RefBag.same_any (x.j.map RI.it) (y.j.map RI.it) x.ia y.ia x.j.length y.j.length x.ic y.ic W hx.i.lies hy.i.lies (by have:=OX.out.j;omega) (fun z hz=>by
  obtain ⟨u,hu,rfl⟩:=List.mem_map.1 hz;have:=(OX.out.jm u hu).2.1;show u.d.length≤_
  omega):CB 73 #[.slice x.ia x.j.length x.ic,.slice y.ia y.j.length y.ic] W q3))
 clear hq0 hq1 hq2 hq3 hq4;go_enter Tryz.func23,Tryz.ntmps23;go_upto_region 1 with (fail)
 have hb0:=balloc (balloc (Below.refl w.heap.size w) (.cells x 29)) (.cells y 29);have hB:=bx w x 29;have p0:=Coder.keepC (hB 0 _ rfl) (balloc (Below.refl _ _) (.cells y 29));have p1:=Coder.keepC (hB 1 _ rfl) (balloc (Below.refl _ _) (.cells y 29));have p2:=Coder.keepC (hB 2 _ rfl) (balloc (Below.refl _ _) (.cells y 29));have p3:=Coder.keepC (hB 3 _ rfl) (balloc (Below.refl _ _) (.cells y 29));have p4:=Coder.keepC (hB 4 _ rfl) (balloc (Below.refl _ _) (.cells y 29));have p5:=Coder.keepC (hB 5 _ rfl) (balloc (Below.refl _ _) (.cells y 29));have p6:=Coder.keepC (hB 6 _ rfl) (balloc (Below.refl _ _) (.cells y 29));clear hB;have r0:=box_cells (w.alloc (.cells x 29)) y 29 0 (.string ⟨y.k.toArray⟩) rfl;simp only[World.size_alloc] at r0;have r1:=box_cells (w.alloc (.cells x 29)) y 29 1 (.slice y.sa y.s.length y.sc) rfl;simp only[World.size_alloc] at r1;have r2:=box_cells (w.alloc (.cells x 29)) y 29 2 (.slice y.ca y.c.length y.cc) rfl;simp only[World.size_alloc] at r2;have r3:=box_cells (w.alloc (.cells x 29)) y 29 3 (.slice y.ia y.j.length y.ic) rfl;simp only[World.size_alloc] at r3;have r4:=box_cells (w.alloc (.cells x 29)) y 29 4 (.int .u64 (y.l.s:Int)) rfl;simp only[World.size_alloc] at r4;have r5:=box_cells (w.alloc (.cells x 29)) y 29 5 (.string ⟨y.l.t.toArray⟩) rfl;simp only[World.size_alloc] at r5;have r6:=box_cells (w.alloc (.cells x 29)) y 29 6 (.bool y.l.g) rfl;simp only[World.size_alloc] at r6;obtain ⟨w0,hw0⟩:=nm ((w.alloc (.cells x 29)).alloc (.cells y 29));rw[← hw0] at hb0 p0 p1 p2 p3 p4 p5 p6 r0 r1 r2 r3 r4 r5 r6 ⊢;obtain ⟨br,hbr⟩:=nm (w.heap.size+1);rw[← hbr] at r0 r1 r2 r3 r4 r5 r6 ⊢;obtain ⟨bp,hbp⟩:=nm w.heap.size;rw[← hbp] at p0 p1 p2 p3 p4 p5 p6 ⊢;have hb:=hb0;clear hb0 hw0 hbp hbr;replace kx:=hid (kx.out.below hb);replace ky:=hid (ky.out.below hb);cases q0
 ·
  have HV2:Hid (decide (x.e=y.e)=false):=hid (by rw[HV.out];try simp);go_wp2;go_ret;exact ⟨by rw[HV2.out];rfl,hb⟩
 go_wp2_with fail
 refine cr (C1.out _ kx.out ky.out) fun v1 k1=>?_;have hA:=kp k1 (aj14 p0 p1 p2 p3 p4 p5 p6 r0 r1 r2 r3 r4 r5 r6);clear p0 p1 p2 p3 p4 p5 p6 r0 r1 r2 r3 r4 r5 r6;obtain ⟨p0,p1,p2,p3,p4,p5,p6,r0,r1,r2,r3,r4,r5,r6⟩:=hA;replace kx:=hid ((kx.out).below k1);replace ky:=hid ((ky.out).below k1);replace hb:=bstep hb k1;clear k1;cases q1
 ·
  have HV2:Hid (decide (x.e=y.e)=false):=hid (by rw[HV.out];try simp);go_wp2;go_ret;exact ⟨by rw[HV2.out];rfl,hb⟩
 go_wp2_with fail
 refine cr (C2.out _ kx.out ky.out) fun v2 k2=>?_;have hA:=kp k2 (aj14 p0 p1 p2 p3 p4 p5 p6 r0 r1 r2 r3 r4 r5 r6);clear p0 p1 p2 p3 p4 p5 p6 r0 r1 r2 r3 r4 r5 r6;obtain ⟨p0,p1,p2,p3,p4,p5,p6,r0,r1,r2,r3,r4,r5,r6⟩:=hA;replace kx:=hid ((kx.out).below k2);replace ky:=hid ((ky.out).below k2);replace hb:=bstep hb k2;clear k2;cases q2
 ·
  have HV2:Hid (decide (x.e=y.e)=false):=hid (by rw[HV.out];try simp);go_wp2;go_ret;exact ⟨by rw[HV2.out];rfl,hb⟩
 go_wp2_with fail
 refine cr (C3.out _ kx.out ky.out) fun v3 k3=>?_;have hA:=kp k3 (aj14 p0 p1 p2 p3 p4 p5 p6 r0 r1 r2 r3 r4 r5 r6);clear p0 p1 p2 p3 p4 p5 p6 r0 r1 r2 r3 r4 r5 r6;obtain ⟨p0,p1,p2,p3,p4,p5,p6,r0,r1,r2,r3,r4,r5,r6⟩:=hA;replace kx:=hid ((kx.out).below k3);replace ky:=hid ((ky.out).below k3);replace hb:=bstep hb k3;clear k3;cases q3
 ·
  have HV2:Hid (decide (x.e=y.e)=false):=hid (by rw[HV.out];try simp);go_wp2;go_ret;exact ⟨by rw[HV2.out];rfl,hb⟩
 have HV2:Hid (decide (x.e=y.e)=q4):=hid (by rw[HV.out];simp only[Bool.true_and]);go_wp2;go_ret;exact ⟨by rw[HV2.out];rfl,hb⟩
end Coder
end Go.Proofs.YtnpjkmomllkhpaaGreatDoor
