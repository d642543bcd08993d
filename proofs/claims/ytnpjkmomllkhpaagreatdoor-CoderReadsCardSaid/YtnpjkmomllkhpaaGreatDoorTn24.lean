/- CoderSeen, CoderSeenI, CoderCount, CoderSame, CoderEMay, CoderMayOp, CoderWhole, CoderLarge. -/
import Derived.Test.YtnpjkmomllkhpaaGreatDoorTn17
import Derived.Test.YtnpjkmomllkhpaaGreatDoorTn23
set_option linter.unusedVariables false
set_option linter.unusedSimpArgs false
set_option maxRecDepth 100000
set_option maxHeartbeats 8000000
namespace Go.Proofs.YtnpjkmomllkhpaaGreatDoor
namespace Coder
open RowKit YtnpjkmomllkhpaaGreatDoor.Mark Num Wire Bag Dots
theorem seenC_step (s:List M) {l:List C} {k:Nat} (h:k<l.length):seenC s (l.drop k)=((decide (l[k].p=[]) || !decide (ofL s l[k].p=0)) && seenC s (l.drop (k+1))):=by
 rw[List.drop_eq_getElem_cons h];rfl
theorem seenC_any (kk:List UInt8) (sa:Option Addr) (sc:Nat) (s:List M) (ca:Option Addr) (cc:Nat) (cs:List C) (ia:Option Addr) (ic:Nat) (js:List RI) (lg:Cl) (w:World) (his:Mark.Lies w sa s.length s) (hic:Row.Lies cE w ca cs.length cs) (hs:s.length≤1048576) (hsm:∀ m ∈ s,m.p.length≤1048576∧m.n≤18446744073709551615) (hcn:cs.length≤1048576) :
  CB 91 #[.agg #[kk,.slice sa s.length sc,.slice ca cs.length cc,.slice ia js.length ic,lg.s,lg.t,lg.g]] w (seenC s cs):=by
 have X1:=hid (box_cells w #[kk,.slice sa s.length sc,.slice ca cs.length cc,.slice ia js.length ic,lg.s,lg.t,lg.g] 29 1 (.slice sa s.length sc) rfl);have LS:=hid his;have LC:=hid hic;have OKS:Hid (Ok s):=hid (fun m hm=>⟨(hsm m hm).2,by have:=(hsm m hm).1;omega⟩);clear his hic hsm;obtain ⟨V,hV⟩:=nm (seenC s cs);have HV0:Hid (V=seenC s (cs.drop 0)):=hid (by rw[hV];rfl);rw[← hV];clear hV;have hb:=balloc (Below.refl w.heap.size w) (.cells #[kk,.slice sa s.length sc,.slice ca cs.length cc,.slice ia js.length ic,lg.s,lg.t,lg.g] 29);go_enter Tryz.func91,Tryz.ntmps91;go_wp2_with fail
 go_loopw [8] (fun i wr=>∃ k:Nat,k≤cs.length∧i=.int .i64 k∧Hid (V=seenC s (cs.drop k))∧Hid (wr.cell? ⟨w.heap.size,1,none⟩=some (.slice sa s.length sc))∧Below w.heap.size w wr) (fun i _=>cs.length - (intOf i).toNat)
 case atStart=>exact ⟨0,by omega,rfl,HV0,X1,hb⟩
 clear hb X1 HV0;obtain ⟨k,hk,rfl,HV,HX,hb⟩:=hrel;by_cases hlt:k<cs.length
 ·have hst:=seenC_step s hlt;obtain ⟨b,off,rfl,hc⟩:=(LC.out.below hb).2 (by omega);obtain ⟨hc0,hc1,hc2⟩:=cl3 (off+k*3) (hc k hlt);obtain ⟨m,hm⟩:=nm cs[k];rw[← hm] at hst hc0 hc1 hc2;clear hm hc;have hx:=Dots.keepC HX.out (balloc (Below.refl _ wr) (.cells m 98));by_cases hp:m.p=[]
  ·have HV2:Hid (V=seenC s (cs.drop (k+1))):=hid (by rw[HV.out,hst,decide_eq_true hp];rfl);have e0:(m.p != [])=false:=by rw[hp];rfl
   have e1:(m.p == [])=true:=by rw[hp];rfl
   clear hst HV hp;go_wp2;go_roundw
   ·exact ⟨k+1,by omega,by go_num,HV2,hid hx,balloc hb _⟩
   simp[intOf];omega
  have e0:(m.p != [])=true:=by rw[bne_iff_ne];exact hp
  have e1:(m.p == [])=false:=by rw[beq_eq_false_iff_ne];exact hp
  have HP:=hid hp;clear hp;go_wp2_with fail
  refine cr (Dots.of_any m.p s sa s.length sc _ ((LS.out.below hb).below (balloc (Below.refl _ _) _)) (by omega) OKS.out) fun w1 k1=>?_;have hx1:=Dots.keepC hx k1;have hb1:=bstep (balloc hb _) k1;by_cases hz:ofL s m.p=0
  ·have HV2:Hid (V=false):=hid (by rw[HV.out,hst,decide_eq_false HP.out,decide_eq_true hz];rfl);have z1:(((ofL s m.p:Nat):Int) == 0)=true:=bT;clear hst HV k1 hz hx hb;go_wp2;go_ret;exact ⟨by rw[HV2.out];rfl,hb1⟩
  have HV2:Hid (V=seenC s (cs.drop (k+1))):=hid (by rw[HV.out,hst,decide_eq_false HP.out,decide_eq_false hz];rfl);have z1:(((ofL s m.p:Nat):Int) == 0)=false:=bF;clear hst HV k1 hz hx hb;go_wp2;go_roundw
  ·exact ⟨k+1,by omega,by go_num,HV2,hid hx1,hb1⟩
  simp[intOf];omega
 have e:k=cs.length:=by omega
 have HV2:Hid (V=true):=hid (by rw[HV.out,e,List.drop_length];rfl);go_wp2;go_ret;exact ⟨by rw[HV2.out];rfl,hb⟩
def seenD (s d:List M):Bool:=d.all fun m=>hasL s m.p m.n
def seenJ (s:List M) (l:List RI):Bool:=l.all fun x=>seenD s x.d
theorem seenJ_is (s:List M) (l:List RI):seenI s (l.map RI.it)=seenJ s l:=by
 unfold seenI seenJ;rw[List.all_map];rfl
theorem seenD_step (s:List M) {l:List M} {k:Nat} (h:k<l.length):seenD s (l.drop k)=(hasL s l[k].p l[k].n && seenD s (l.drop (k+1))):=by
 rw[List.drop_eq_getElem_cons h];rfl
theorem seenJ_step (s:List M) {l:List RI} {k:Nat} (h:k<l.length):seenJ s (l.drop k)=(seenD s l[k].d && seenJ s (l.drop (k+1))):=by
 rw[List.drop_eq_getElem_cons h];rfl
theorem seenI_any (kk:List UInt8) (sa:Option Addr) (sc:Nat) (s:List M) (ca:Option Addr) (cc:Nat) (cs:List C) (ia:Option Addr) (ic:Nat) (js:List RI) (lg:Cl) (w:World) (his:Mark.Lies w sa s.length s) (hij:Row.Lies iE w ia js.length js) (hin:∀ y ∈ js,Inner w y) (hs:s.length≤1048576) (hsm:∀ m ∈ s,m.p.length≤1048576∧m.n≤18446744073709551615) (hjn:js.length≤1048576) (hjd:∀ y ∈ js,y.d.length≤1048576) :
  CB 94 #[.agg #[kk,.slice sa s.length sc,.slice ca cs.length cc,.slice ia js.length ic,lg.s,lg.t,lg.g]] w (seenJ s js):=by
 have X1:=hid (box_cells w #[kk,.slice sa s.length sc,.slice ca cs.length cc,.slice ia js.length ic,lg.s,lg.t,lg.g] 29 1 (.slice sa s.length sc) rfl);have LS:=hid his;have LJ:=hid hij;have LI:=hid hin;have LD:=hid hjd;have OKS:Hid (Ok s):=hid (fun m hm=>⟨(hsm m hm).2,by have:=(hsm m hm).1;omega⟩);clear his hij hin hsm hjd;obtain ⟨V,hV⟩:=nm (seenJ s js);have HV0:Hid (V=seenJ s (js.drop 0)):=hid (by rw[hV];rfl);rw[← hV];clear hV;have hb:=balloc (Below.refl w.heap.size w) (.cells #[kk,.slice sa s.length sc,.slice ca cs.length cc,.slice ia js.length ic,lg.s,lg.t,lg.g] 29);go_enter Tryz.func94,Tryz.ntmps94;go_wp2_with fail
 go_loopw [10] (fun i wr=>∃ k:Nat,k≤js.length∧i=.int .i64 k∧Hid (V=seenJ s (js.drop k))∧Hid (wr.cell? ⟨w.heap.size,1,none⟩=some (.slice sa s.length sc))∧Below w.heap.size w wr) (fun i _=>js.length - (intOf i).toNat)
 case atStart=>exact ⟨0,by omega,rfl,HV0,X1,hb⟩
 clear hb X1 HV0;obtain ⟨k,hk,rfl,HV,HX,hb⟩:=hrel;by_cases hlt:k<js.length
 ·have hst:=hid (seenJ_step s hlt);obtain ⟨b,off,rfl,hc⟩:=(LJ.out.below hb).2 (by omega);obtain ⟨hc0,hc1⟩:=cl2 (off+k*2) (hc k hlt);have hin:=(LI.out _ (List.getElem_mem hlt)).below hb;have hdn:=LD.out _ (List.getElem_mem hlt);obtain ⟨m,hm⟩:=nm js[k];rw[← hm] at hst hc0 hc1 hin hdn;obtain ⟨mt,ma,mc,md⟩:=m;dsimp only at hst hc0 hc1 hdn;have LD1:Hid (Row.Lies dE wr ma md.length md):=hid hin;clear hm hc hin;have hx:=Dots.keepC HX.out (balloc (Below.refl _ wr) (.cells #[mt,.slice ma md.length mc] 155));have LD2:=hid (LD1.out.below (balloc (Below.refl _ wr) (.cells #[mt,.slice ma md.length mc] 155)));have hb2:=balloc hb (.cells #[mt,.slice ma md.length mc] 155);have HX2:=hid hx;have HV2:Hid (V=(seenD s (md.drop 0) && seenJ s (js.drop (k+1)))):=hid (by rw[HV.out,hst.out];rfl);clear hb HX HV hst hx LD1;go_wp2_with fail
  generalize wr.alloc _=wq at HX2 LD2 hb2 ⊢;go_loopw [17] (fun i wr=>∃ k2:Nat,k2≤md.length∧i=.int .i64 k2∧Hid (V=(seenD s (md.drop k2) && seenJ s (js.drop (k+1))))∧Hid (wr.cell? ⟨w.heap.size,1,none⟩=some (.slice sa s.length sc))∧Hid (Row.Lies dE wr ma md.length md)∧Below w.heap.size w wr) (fun i _=>md.length - (intOf i).toNat)
  case atStart=>exact ⟨0,by omega,rfl,HV2,HX2,LD2,hb2⟩
  clear HV2 HX2 LD2 hb2;obtain ⟨k2,hk2,rfl,HV,HX,LD1,hb⟩:=hrel;by_cases hlt2:k2<md.length
  ·have hst:=hid (seenD_step s hlt2);obtain ⟨b2,off2,rfl,hc⟩:=LD1.out.2 (by omega);have hd0:=hc k2 hlt2 0 (.string ⟨(md[k2]).p.toArray⟩) rfl;have hd1:=hc k2 hlt2 1 (.int .u64 ((md[k2]).n:Int)) rfl;rw[show off2+k2*dE.k+0=off2+k2*2 from rfl] at hd0;rw[show off2+k2*dE.k+1=off2+k2*2+1 from rfl] at hd1;obtain ⟨m,hm⟩:=nm md[k2];rw[← hm] at hst hd0 hd1;clear hm hc;have hx:=Dots.keepC HX.out (balloc (Below.refl _ _) (.cells m 167));have LD2:=hid (LD1.out.below (balloc (Below.refl _ _) (.cells m 167)));have hb2:=balloc hb (.cells m 167);have HV2:Hid (V=(hasL s m.p m.n && seenD s (md.drop (k2+1)) && seenJ s (js.drop (k+1)))):=hid (by rw[HV.out,hst.out]);clear HV HX LD1 hb hst;go_wp2_with fail
   refine cr (Dots.has_any m.p m.n s sa s.length sc _ (LS.out.below hb2) (by omega) OKS.out) fun w1 k1=>?_;have HX3:=hid (Dots.keepC hx k1);have LD3:=hid (LD2.out.below k1);have hb3:=bstep hb2 k1;clear hx LD2 hb2 k1;cases hz:hasL s m.p m.n
   ·have HV3:Hid (V=false):=hid (by rw[HV2.out,hz];rfl);clear HV2 hz;go_wp2;go_ret;exact ⟨by rw[HV3.out];rfl,hb3⟩
   have HV3:Hid (V=(seenD s (md.drop (k2+1)) && seenJ s (js.drop (k+1)))):=hid (by rw[HV2.out,hz];rfl);clear HV2 hz;go_wp2;go_roundw
   ·exact ⟨k2+1,by omega,by go_num,HV3,HX3,LD3,hb3⟩
   simp[intOf];omega
  have e:k2=md.length:=by omega
  have HV3:Hid (V=seenJ s (js.drop (k+1))):=hid (by rw[HV.out,e,List.drop_length];rfl);go_wp2;go_roundw
  ·exact ⟨k+1,by omega,by go_num,HV3,HX,hb⟩
  simp[intOf];omega
 have e:k=js.length:=by omega
 have HV2:Hid (V=true):=hid (by rw[HV.out,e,List.drop_length];rfl);go_wp2;go_ret;exact ⟨by rw[HV2.out];rfl,hb⟩
def pC (l:List C) (k:Nat):Option (List UInt8):=if k=0 then none else (l[k - 1]?).map C.p
theorem pC_next {l:List C} {k:Nat} (h:k<l.length):pC l (k+1)=some l[k].p:=by
 unfold pC;rw[if_neg (by omega),Nat.add_sub_cancel,List.getElem?_eq_getElem h];rfl
theorem mayCt_step {l:List C} {k:Nat} (h:k<l.length):mayCt (pC l k) (l.drop k)=((!((decide (l[k].a=0) && decide (l[k].b=0)) || befT (pC l k) l[k].p)) && mayCt (pC l (k+1)) (l.drop (k+1))):=by
 rw[List.drop_eq_getElem_cons h,pC_next h];rfl
theorem mayC_any (a:Option Addr) (n c:Nat) (L:List C) (w:World) (hL:Row.Lies cE w a n L) (hn:n≤1048576) :
  CB 90 #[.slice a n c] w (mayCt none L):=by
 have HL:=hid hL;have HN:=hid hL.1;clear hL;obtain ⟨V,hV⟩:=nm (mayCt none L);have HM:Hid (V=mayCt (pC L 0) (L.drop 0)):=hid (by rw[hV];rfl);rw[← hV];clear hV;have hb:=Below.refl w.heap.size w;go_enter Tryz.func90,Tryz.ntmps90;go_wp2_with fail
 go_loopw [7] (fun iv wr=>∃ i:Nat,i≤n∧iv=.int .i64 i∧Hid (V=mayCt (pC L i) (L.drop i))∧Below w.heap.size w wr) (fun iv _=>n - (intOf iv).toNat)
 case atStart=>exact ⟨0,by omega,rfl,HM,hb⟩
 clear HM hb;obtain ⟨i,hi,rfl,HM,hb⟩:=hrel;by_cases hlt:i<n;rotate_left
 ·have e:i=n:=by omega
  have HE:Hid (V=true):=hid (by rw[HM.out,List.drop_eq_nil_of_le (by have:=HN.out;omega)];rfl);go_wp2;go_ret;exact ⟨by rw[HE.out];rfl,hb⟩
 have d1:=dT (p:=(i:Int)<(n:Int));have j1:(0:Int)≤(i:Int):=by omega
 have j2:(i:Int)<(n:Int):=by omega
 have hil:i<L.length:=by have:=HN.out;omega
 obtain ⟨b,o,rfl,hc⟩:=(HL.out.below hb).2 (by omega);obtain ⟨c0,c1,c2⟩:=cl3 (o+i*3) (hc i hil);have hst:=mayCt_step hil;rw[← HM.out] at hst;have HPV:Hid (∀ k',i=k'+1→∃ pv,pC L i=some pv∧wr.cell? ⟨b,o+k'*3,none⟩=some ↑pv):=hid (fun k' hk=>by
  subst hk;have hkl:k'<L.length:=by omega
  exact ⟨(L[k']).p,pC_next hkl,hc k' hkl 0 _ rfl⟩)
 obtain ⟨x,hx⟩:=nm L[i];rw[← hx] at c0 c1 c2 hst;obtain ⟨t,A,B⟩:=x;dsimp only at c0 c1 c2 hst;have HST:=hid hst;have HI:=hid hlt;clear hc hx hst hil hlt HM;go_upto_region 4 with (fail)
 have kS:=balloc (Below.refl wr.heap.size wr) (.cells #[t,A,B] 98);obtain ⟨s0,s1,s2⟩:=al3 (bx wr [t,A,B] 98);obtain ⟨sb,hsb⟩:=nm wr.heap.size;obtain ⟨ws,hws⟩:=nm (wr.alloc (.cells #[t,A,B] 98));rw[← hws] at kS s0 s1 s2 ⊢;rw[← hsb] at s0 s1 s2 ⊢;replace HPV:Hid (∀ k',i=k'+1→∃ pv,pC L i=some pv∧ws.cell? ⟨b,o+k'*3,none⟩=some ↑pv):=hid (fun k' hk=>by
  obtain ⟨pv,h1,h2⟩:=HPV.out k' hk;exact ⟨pv,h1,Dots.keepC h2 kS⟩)
 replace hb:=bstep hb kS;obtain ⟨o',ho'⟩:=nm (pC L i);rw[← ho'] at HST;have HO':=hid ho';obtain ⟨bad,hbad⟩:=nm ((decide (A=0) && decide (B=0)) || befT o' t);rw[← hbad] at HST;have HBD:=hid hbad;clear kS hsb hws c0 c1 c2 ho' hbad;go_cut [34] (fun zv wx=>zv=.bool bad∧Below w.heap.size w wx)
 case first =>
  by_cases hA:A=0
  ·have a1:((A:Int) == 0)=true:=bT;by_cases hB:B=0
   ·have a2:((B:Int) == 0)=true:=bT;have HZ:Hid (bad=true):=hid (by rw[HBD.out,decide_eq_true hA,decide_eq_true hB];rfl);clear hA hB HPV;go_wp2_with fail
    refine rhd (aj3 s0 s1 s2) fun gH=>?_;refine tk (.range 23) ?_;refine tD ?_;clear gH;go_wp2_with fail
    go_meet;exact ⟨by rw[HZ.out],Below.drew hb⟩
   have a2:=bF (a:=B) (b:=0);have HY:Hid (bad=befT o' t):=hid (by rw[HBD.out,decide_eq_false hB,Bool.and_false,Bool.false_or]);clear hA hB;by_cases hi0:i=0
   ·have z1:decide ((0:Int)<(i:Int))=false:=dF;have z1n:=dF (p:=0<i);have HZ:Hid (bad=false):=hid (by rw[HY.out,HO'.out,hi0];rfl);clear hi0 HPV;go_wp2_with fail
    refine rhd (aj3 s0 s1 s2) fun gH=>?_;refine tk (.range 23) ?_;refine tD ?_;clear gH;go_wp2_with fail
    go_meet;exact ⟨by rw[HZ.out],Below.drew hb⟩
   obtain ⟨k',hk'⟩:∃ k',i=k'+1:=⟨i - 1,by omega⟩
   obtain ⟨pv,hpv,hp0⟩:=HPV.out k' hk';have z1:=dT (p:=(0:Int)<(i:Int));have z1n:=dT (p:=0<i);have w1:IntKind.i64.wrap ((i:Int) - 1)=(k':Int):=by rw[IntKind.wrap_i64];omega
   have j5:(0:Int)≤(k':Int):=by omega
   have j6:(k':Int)<(n:Int):=by omega
   have z2:o'=some pv:=HO'.out.trans hpv;have HY2:Hid (bad = !(decide (TL pv t))):=hid (by rw[HY.out,z2];rfl);have HK':=hid hk';clear z2 hi0 HPV hpv hk' HY;rcases tl_ways pv t with hw | hw | hw
   ·obtain ⟨q1,q2,q3,q4⟩:=ways_less hw;have HZ:Hid (bad=false):=hid (by rw[HY2.out,decide_eq_true hw];rfl);clear hw;go_wp2_with fail
    refine rhd (aj4 s0 s1 s2 hp0) fun gH=>?_;refine tk (.range 23) ?_;refine tD ?_;clear gH;go_wp2_with fail
    go_meet;exact ⟨by rw[HZ.out],Below.drew hb⟩
   ·have q1:=less_self t;have HZ:Hid (bad=true):=hid (by rw[HY2.out,decide_eq_false (by rw[hw];exact linT.irr t)];rfl);have q3:(pv == t)=true:=by simp[hw]
    have q4:(t == pv)=true:=by simp[hw]
    have q5:Op.bytesLess pv t=false:=by rw[hw];exact q1
    have q6:Op.bytesLess t pv=false:=by rw[hw];exact q1
    clear hw;go_wp2_with fail
    refine rhd (aj4 s0 s1 s2 hp0) fun gH=>?_;refine tk (.range 23) ?_;refine tD ?_;clear gH;go_wp2_with fail
    go_meet;exact ⟨by rw[HZ.out],Below.drew hb⟩
   obtain ⟨q1,q2,q3,q4⟩:=ways_less hw;have HZ:Hid (bad=true):=hid (by rw[HY2.out,decide_eq_false (fun h=>linT.irr _ (linT.trans hw h))];rfl);clear hw;go_wp2_with fail
   refine rhd (aj4 s0 s1 s2 hp0) fun gH=>?_;refine tk (.range 23) ?_;refine tD ?_;clear gH;go_wp2_with fail
   go_meet;exact ⟨by rw[HZ.out],Below.drew hb⟩
  have a1:=bF (a:=A) (b:=0);have HY:Hid (bad=befT o' t):=hid (by rw[HBD.out,decide_eq_false hA,Bool.false_and,Bool.false_or]);clear hA;by_cases hi0:i=0
  ·have z1:decide ((0:Int)<(i:Int))=false:=dF;have z1n:=dF (p:=0<i);have HZ:Hid (bad=false):=hid (by rw[HY.out,HO'.out,hi0];rfl);clear hi0 HPV;go_wp2_with fail
   refine rhd (aj3 s0 s1 s2) fun gH=>?_;refine tk (.range 23) ?_;refine tD ?_;clear gH;go_wp2_with fail
   go_meet;exact ⟨by rw[HZ.out],Below.drew hb⟩
  obtain ⟨k',hk'⟩:∃ k',i=k'+1:=⟨i - 1,by omega⟩
  obtain ⟨pv,hpv,hp0⟩:=HPV.out k' hk';have z1:=dT (p:=(0:Int)<(i:Int));have z1n:=dT (p:=0<i);have w1:IntKind.i64.wrap ((i:Int) - 1)=(k':Int):=by rw[IntKind.wrap_i64];omega
  have j5:(0:Int)≤(k':Int):=by omega
  have j6:(k':Int)<(n:Int):=by omega
  have z2:o'=some pv:=HO'.out.trans hpv;have HY2:Hid (bad = !(decide (TL pv t))):=hid (by rw[HY.out,z2];rfl);have HK':=hid hk';clear z2 hi0 HPV hpv hk' HY;rcases tl_ways pv t with hw | hw | hw
  ·obtain ⟨q1,q2,q3,q4⟩:=ways_less hw;have HZ:Hid (bad=false):=hid (by rw[HY2.out,decide_eq_true hw];rfl);clear hw;go_wp2_with fail
   refine rhd (aj4 s0 s1 s2 hp0) fun gH=>?_;refine tk (.range 23) ?_;refine tD ?_;clear gH;go_wp2_with fail
   go_meet;exact ⟨by rw[HZ.out],Below.drew hb⟩
  ·have q1:=less_self t;have HZ:Hid (bad=true):=hid (by rw[HY2.out,decide_eq_false (by rw[hw];exact linT.irr t)];rfl);have q3:(pv == t)=true:=by simp[hw]
   have q4:(t == pv)=true:=by simp[hw]
   have q5:Op.bytesLess pv t=false:=by rw[hw];exact q1
   have q6:Op.bytesLess t pv=false:=by rw[hw];exact q1
   clear hw;go_wp2_with fail
   refine rhd (aj4 s0 s1 s2 hp0) fun gH=>?_;refine tk (.range 23) ?_;refine tD ?_;clear gH;go_wp2_with fail
   go_meet;exact ⟨by rw[HZ.out],Below.drew hb⟩
  obtain ⟨q1,q2,q3,q4⟩:=ways_less hw;have HZ:Hid (bad=true):=hid (by rw[HY2.out,decide_eq_false (fun h=>linT.irr _ (linT.trans hw h))];rfl);clear hw;go_wp2_with fail
  refine rhd (aj4 s0 s1 s2 hp0) fun gH=>?_;refine tk (.range 23) ?_;refine tD ?_;clear gH;go_wp2_with fail
  go_meet;exact ⟨by rw[HZ.out],Below.drew hb⟩
 clear hb s0 s1 s2;obtain ⟨rfl,hb⟩:=hcut;cases bad
 ·have HV2:Hid (V=mayCt (pC L (i+1)) (L.drop (i+1))):=hid (by rw[HST.out];rfl);clear HST HBD;go_wp2;go_roundw
  ·exact ⟨i+1,by have:=HI.out;omega,by go_num,HV2,hb⟩
  simp[intOf];have:=HI.out;omega
 have HV2:Hid (V=false):=hid (by rw[HST.out];rfl);clear HST HBD;go_wp2;go_ret;exact ⟨by rw[HV2.out];rfl,hb⟩
theorem C.ext' {a b:C} (h1:a.p=b.p) (h2:a.a=b.a) (h3:a.b=b.b):a=b:=by cases a;cases b;simp_all
theorem Cl.ext' {a b:Cl} (h1:a.s=b.s) (h2:a.t=b.t) (h3:a.g=b.g):a=b:=by cases a;cases b;simp_all
theorem S.ext' {a b:S} (h1:a.a=b.a) (h2:a.e=b.e) (h3:a.p=b.p):a=b:=by cases a;cases b;simp_all
instance : DecidableEq C := fun a b => if h : a.p = b.p ∧ a.a = b.a ∧ a.b = b.b then .isTrue (C.ext' h.1 h.2.1 h.2.2) else .isFalse fun e => h (by rw [e]; exact ⟨rfl, rfl, rfl⟩)
instance : DecidableEq Cl := fun a b => if h : a.s = b.s ∧ a.t = b.t ∧ a.g = b.g then .isTrue (Cl.ext' h.1 h.2.1 h.2.2) else .isFalse fun e => h (by rw [e]; exact ⟨rfl, rfl, rfl⟩)
instance : DecidableEq E := fun a b => if h : a.k = b.k ∧ a.s = b.s ∧ a.c = b.c ∧ a.i = b.i ∧ a.l = b.l then .isTrue (E.ext' h.1 h.2.1 h.2.2.1 h.2.2.2.1 h.2.2.2.2) else .isFalse fun e => h (by rw [e]; exact ⟨rfl, rfl, rfl, rfl, rfl⟩)
instance : DecidableEq S := fun a b => if h : a.a = b.a ∧ a.e = b.e ∧ a.p = b.p then .isTrue (S.ext' h.1 h.2.1 h.2.2) else .isFalse fun e => h (by rw [e]; exact ⟨rfl, rfl, rfl⟩)
theorem eql_of_count (m k:C) (w:World):(Op.equalIn 10000 98 (.agg m) (.agg k)).run Tryz.prog w=.ok (m.p == k.p && ((m.a:Int) == (k.a:Int) && (m.b:Int) == (k.b:Int))) w:=by
 have hS:Tryz.prog.underlying 98=some (.struct (Tryz.prog.fieldsOf 98)):=by kernel_rfl
 rw[show (10000:Nat)=9999+1 from rfl,run_equalIn_agg w 9999 98 _ _ hS (by kernel_rfl)];simp only[Program.fieldsOf,Tryz.underlying98];have u1:=Tryz.underlying9;have u2:=Tryz.underlying25;go_simp;by_cases h1:m.p=k.p <;> by_cases h2:(m.a:Int)=(k.a:Int) <;> by_cases h3:(m.b:Int)=(k.b:Int) <;> simp[h1,h2,h3]
theorem eqC_iff (m k:C):(m.p == k.p && ((m.a:Int) == (k.a:Int) && (m.b:Int) == (k.b:Int)))=decide (m=k):=by
 obtain ⟨p,n,b⟩:=m;obtain ⟨p',n',b'⟩:=k;rw[Bool.eq_iff_iff];simp only[Bool.and_eq_true,beq_iff_eq,decide_eq_true_eq,C.mk.injEq];constructor
 · rintro ⟨h1,h2,h3⟩;exact ⟨h1,by omega,by omega⟩
 rintro ⟨h1,h2,h3⟩;exact ⟨h1,by omega,by omega⟩
theorem neq_count (m k:C) (w:World):(binOp .neq 98 (.agg m) (.agg k)).run Tryz.prog w=.ok (.bool (!decide (m=k))) w:=by
 rw[run_neq_struct,eql_of_count,eqC_iff];rfl
theorem eql_of_cell (m k:Cl) (w:World):(Op.equalIn 10000 27 (.agg m) (.agg k)).run Tryz.prog w=.ok ((m.s:Int) == (k.s:Int) && (m.t == k.t && m.g == k.g)) w:=by
 have hS:Tryz.prog.underlying 27=some (.struct (Tryz.prog.fieldsOf 27)):=by kernel_rfl
 rw[show (10000:Nat)=9999+1 from rfl,run_equalIn_agg w 9999 27 _ _ hS (by kernel_rfl)];simp only[Program.fieldsOf,Tryz.underlying27];have u1:=Tryz.underlying9;have u2:=Tryz.underlying25;have u3:=Tryz.underlying4;go_simp;by_cases h1:(m.s:Int)=(k.s:Int) <;> by_cases h2:m.t=k.t <;> cases m.g <;> cases k.g <;> simp[h1,h2]
theorem eqL_iff (m k:Cl):((m.s:Int) == (k.s:Int) && (m.t == k.t && m.g == k.g))=decide (m=k):=by
 obtain ⟨p,n,b⟩:=m;obtain ⟨p',n',b'⟩:=k;rw[Bool.eq_iff_iff];simp only[Bool.and_eq_true,beq_iff_eq,decide_eq_true_eq,Cl.mk.injEq];constructor
 · rintro ⟨h1,h2,h3⟩;exact ⟨by omega,h2,h3⟩
 rintro ⟨h1,h2,h3⟩;exact ⟨by omega,h2,h3⟩
theorem eql_cell (m k:Cl) (w:World):(binOp .eql 27 (.agg m) (.agg k)).run Tryz.prog w=.ok (.bool (decide (m=k))) w:=by
 rw[run_eql_struct,eql_of_cell,eqL_iff];rfl
theorem sameC_any (L K:List (C)) (a1 a2:Option Addr) (n1 n2 c1 c2:Nat) (w:World) (hL:Row.Lies cE w a1 n1 L) (hK:Row.Lies cE w a2 n2 K) (hn1:n1≤1099511627776) :
  CB 72 #[.slice a1 n1 c1,.slice a2 n2 c2] w (decide (L=K)):=by
 have h0:=Below.refl w.heap.size w;by_cases hne:n1=n2;rotate_left
 ·have HV:Hid (decide (L=K)=false):=hid (decide_eq_false fun e=>hne (by rw[hL.1,hK.1,e]));have hneq:((n1:Int) != (n2:Int))=true:=by rw[bne_iff_ne];omega
  clear hL hK;go_enter Tryz.func72,Tryz.ntmps72;go_wp2;go_ret;exact ⟨by rw[HV.out];rfl,h0⟩
 subst hne;have HL:=hid hL;have HK:=hid hK;have hneq:((n1:Int) != (n1:Int))=false:=by simp
 clear hL hK;go_enter Tryz.func72,Tryz.ntmps72;go_wp2_with fail
 go_loopw [5] (fun iv wr=>∃ k:Nat,k≤n1∧iv=.int .i64 k∧L.take k=K.take k∧Below w.heap.size w wr) (fun iv _=>n1 - (intOf iv).toNat)
 case atStart=>exact ⟨0,by omega,rfl,rfl,h0⟩
 clear h0;obtain ⟨k,hk,rfl,hs,hb⟩:=hrel;have hln:=HL.out.1;have hkn:=HK.out.1;by_cases hlt:k<n1;rotate_left
 ·obtain rfl:k=n1:=by omega
  have hv:L=K:=by
   rw[← List.take_of_length_le (l:=L) (i:=k) (by omega),hs,List.take_of_length_le (by omega)]
  have HV:Hid (decide (L=K)=true):=hid (decide_eq_true hv);have hd:=dF (p:=(k:Int)<(k:Int));clear hln hkn hv hs;go_wp2;go_ret;exact ⟨by rw[HV.out];rfl,hb⟩
 obtain ⟨b1,o1,rfl,hcell1⟩:=(HL.out.below hb).2 (by omega);obtain ⟨b2,o2,rfl,hcell2⟩:=(HK.out.below hb).2 (by omega);have d0:=cl1 (o1+k*3) (hcell1 k (by omega));have f0:=cl1 (o2+k*3) (hcell2 k (by omega));obtain ⟨-,d1⟩:=cl2 (o1+k*3) (hcell1 k (by omega));obtain ⟨-,f1⟩:=cl2 (o2+k*3) (hcell2 k (by omega));obtain ⟨-,-,d2⟩:=cl3 (o1+k*3) (hcell1 k (by omega));obtain ⟨-,-,f2⟩:=cl3 (o2+k*3) (hcell2 k (by omega));have hs1:L.take (k+1)=L.take k++[L[k]'(by omega)]:=List.take_succ_eq_append_getElem (by omega);have hs2:K.take (k+1)=K.take k++[K[k]'(by omega)]:=List.take_succ_eq_append_getElem (by omega);obtain ⟨m,hm⟩:=nm (L[k]'(by omega));obtain ⟨x,hx⟩:=nm (K[k]'(by omega));rw[← hm] at hs1 d0 d1 d2;rw[← hx] at hs2 f0 f1 f2;have d9:=dT (p:=(k:Int)<(n1:Int));have j1:(0:Int)≤(k:Int):=by omega
 have j2:(k:Int)<(n1:Int):=by omega
 have HQ:=hid hlt;by_cases he:m=x
 ·
  have hE:=neq_count m x;rw[decide_eq_true he] at hE;have HS:Hid (L.take (k+1)=K.take (k+1)):=hid (by rw[hs1,hs2,hs,he]);clear hs hs1 hs2 hm hx hcell1 hcell2 hln hkn he hlt;go_wp2_with fail
  refine rhd (aj7 hb d0 d1 d2 f0 f1 f2) fun gH=>?_;refine tk (.range 9) ?_;refine tD ?_;clear hb d0 d1 d2 f0 f1 f2;obtain ⟨hb,d0,d1,d2,f0,f1,f2⟩:=gH;go_wp2;go_roundw
  ·exact ⟨k+1,by have:=HQ.out;omega,by go_num,HS.out,hb⟩
  have:=HQ.out;simp[intOf];omega
 have hE:=neq_count m x;rw[decide_eq_false he] at hE;have HV:Hid (decide (L=K)=false):=hid (decide_eq_false fun e=>he (by rw[hm,hx];simp only[e]));clear hs hs1 hs2 hm hx hcell1 hcell2 hln hkn he hlt;go_wp2_with fail
 refine rhd (aj7 hb d0 d1 d2 f0 f1 f2) fun gH=>?_;refine tk (.range 9) ?_;refine tD ?_;clear hb d0 d1 d2 f0 f1 f2;obtain ⟨hb,d0,d1,d2,f0,f1,f2⟩:=gH;go_wp2;go_ret;exact ⟨by rw[HV.out];rfl,hb⟩
theorem texts_any (L K:List (List UInt8)) (a1 a2:Option Addr) (n1 n2 c1 c2:Nat) (w:World) (hL:Row.Lies wE w a1 n1 L) (hK:Row.Lies wE w a2 n2 K) (hn1:n1≤1099511627776) :
  CB 74 #[.slice a1 n1 c1,.slice a2 n2 c2] w (decide (L=K)):=by
 have h0:=Below.refl w.heap.size w;by_cases hne:n1=n2;rotate_left
 ·have HV:Hid (decide (L=K)=false):=hid (decide_eq_false fun e=>hne (by rw[hL.1,hK.1,e]));have hneq:((n1:Int) != (n2:Int))=true:=by rw[bne_iff_ne];omega
  clear hL hK;go_enter Tryz.func74,Tryz.ntmps74;go_wp2;go_ret;exact ⟨by rw[HV.out];rfl,h0⟩
 subst hne;have HL:=hid hL;have HK:=hid hK;have hneq:((n1:Int) != (n1:Int))=false:=by simp
 clear hL hK;go_enter Tryz.func74,Tryz.ntmps74;go_wp2_with fail
 go_loopw [5] (fun iv wr=>∃ k:Nat,k≤n1∧iv=.int .i64 k∧L.take k=K.take k∧Below w.heap.size w wr) (fun iv _=>n1 - (intOf iv).toNat)
 case atStart=>exact ⟨0,by omega,rfl,rfl,h0⟩
 clear h0;obtain ⟨k,hk,rfl,hs,hb⟩:=hrel;have hln:=HL.out.1;have hkn:=HK.out.1;by_cases hlt:k<n1;rotate_left
 ·obtain rfl:k=n1:=by omega
  have hv:L=K:=by
   rw[← List.take_of_length_le (l:=L) (i:=k) (by omega),hs,List.take_of_length_le (by omega)]
  have HV:Hid (decide (L=K)=true):=hid (decide_eq_true hv);have hd:=dF (p:=(k:Int)<(k:Int));clear hln hkn hv hs;go_wp2;go_ret;exact ⟨by rw[HV.out];rfl,hb⟩
 obtain ⟨b1,o1,rfl,hcell1⟩:=(HL.out.below hb).2 (by omega);obtain ⟨b2,o2,rfl,hcell2⟩:=(HK.out.below hb).2 (by omega);have zk:k*1=k:=Nat.mul_one k;have d0:wr.cell? ⟨b1,o1+k,none⟩=some ↑(L[k]'(by omega)):=by have q:=hcell1 k (by omega) 0 _ rfl;rw[show o1+k*wE.k+0=o1+k by show o1+k*1+0=o1+k;omega] at q;exact q
 have f0:wr.cell? ⟨b2,o2+k,none⟩=some ↑(K[k]'(by omega)):=by have q:=hcell2 k (by omega) 0 _ rfl;rw[show o2+k*wE.k+0=o2+k by show o2+k*1+0=o2+k;omega] at q;exact q
 have hs1:L.take (k+1)=L.take k++[L[k]'(by omega)]:=List.take_succ_eq_append_getElem (by omega);have hs2:K.take (k+1)=K.take k++[K[k]'(by omega)]:=List.take_succ_eq_append_getElem (by omega);obtain ⟨m,hm⟩:=nm (L[k]'(by omega));obtain ⟨x,hx⟩:=nm (K[k]'(by omega));rw[← hm] at hs1 d0;rw[← hx] at hs2 f0;have d9:=dT (p:=(k:Int)<(n1:Int));have j1:(0:Int)≤(k:Int):=by omega
 have j2:(k:Int)<(n1:Int):=by omega
 have HQ:=hid hlt;by_cases he:m=x
 ·
  have e1:(m == x)=true:=by simp[he]
  have e2:(m != x)=false:=by simp[he]
  have HS:Hid (L.take (k+1)=K.take (k+1)):=hid (by rw[hs1,hs2,hs,he]);clear hs hs1 hs2 hm hx hcell1 hcell2 hln hkn he hlt;go_wp2_with fail
  refine rhd (aj3 hb d0 f0) fun gH=>?_;refine tk (.range 9) ?_;refine tD ?_;clear hb d0 f0;obtain ⟨hb,d0,f0⟩:=gH;go_wp2;go_roundw
  ·exact ⟨k+1,by have:=HQ.out;omega,by go_num,HS.out,hb⟩
  have:=HQ.out;simp[intOf];omega
 have e1:(m == x)=false:=by simp[he]
 have e2:(m != x)=true:=by simp[he]
 have HV:Hid (decide (L=K)=false):=hid (decide_eq_false fun e=>he (by rw[hm,hx];simp only[e]));clear hs hs1 hs2 hm hx hcell1 hcell2 hln hkn he hlt;go_wp2_with fail
 refine rhd (aj3 hb d0 f0) fun gH=>?_;refine tk (.range 9) ?_;refine tD ?_;clear hb d0 f0;obtain ⟨hb,d0,f0⟩:=gH;go_wp2;go_ret;exact ⟨by rw[HV.out];rfl,hb⟩
def InB (w:World) (b:Nat) (x:RE):Prop:=∀ j v,(eE.cells x)[j]?=some v→w.cell? ⟨b,j,none⟩=some v
theorem InB.below {w w':World} {b:Nat} {x:RE} (h:InB w b x) (k:Below w.heap.size w w'):InB w' b x:=fun j v hv=>Coder.keepC (h j v hv) k
instance {b : Nat} {x : RE} : Kept (fun w => InB w b x) := ⟨fun k h => InB.below h k⟩
instance {w : World} {b : Nat} {x : RE} : Hd w (InB w b x) (fun w => InB w b x) := ⟨id⟩
theorem InB.of {w:World} {b:Nat} {x:RE} (h0:w.cell? ⟨b,0,none⟩=some ↑x.k) (h1:w.cell? ⟨b,1,none⟩=some (.slice x.sa x.s.length x.sc)) (h2:w.cell? ⟨b,2,none⟩=some (.slice x.ca x.c.length x.cc)) (h3:w.cell? ⟨b,3,none⟩=some (.slice x.ia x.j.length x.ic)) (h4:w.cell? ⟨b,4,none⟩=some ↑x.l.s) (h5:w.cell? ⟨b,5,none⟩=some ↑x.l.t) (h6:w.cell? ⟨b,6,none⟩=some ↑x.l.g):InB w b x:=fun j v hv=>by
 match j,hv with
 | 0,hv=>cases hv;exact h0
 | 1,hv=>cases hv;exact h1
 | 2,hv=>cases hv;exact h2
 | 3,hv=>cases hv;exact h3
 | 4,hv=>cases hv;exact h4
 | 5,hv=>cases hv;exact h5
 | 6,hv=>cases hv;exact h6
 | j+7,hv=>simp[eE] at hv
theorem zeroL_eq (c:Cl):zeroL c=decide (c=Cl.zero):=by
 obtain ⟨s,t,g⟩:=c;unfold zeroL Cl.zero;rw[Bool.eq_iff_iff];simp only[Bool.and_eq_true,decide_eq_true_eq,Bool.not_eq_true',Cl.mk.injEq]
theorem mayCl_eq (c:Cl):Cell.may (c.s:Int) ⟨c.t.toArray⟩ c.g=mayCl c:=by
 obtain ⟨s,t,g⟩:=c;unfold Cell.may mayCl;rw[Str.size_mk];simp only[Lib.toList_data];have e1:t.isEmpty=decide (t=[]):=by cases t <;> simp
 have e2:decide ((s:Int)≤281474976710656)=decide (s≤281474976710656):=by rw[Bool.eq_iff_iff];simp only[decide_eq_true_eq];omega
 have e3:decide ((t.length:Int)≤4096)=decide (t.length≤4096):=by rw[Bool.eq_iff_iff];simp only[decide_eq_true_eq];omega
 rw[e1,e2,e3];by_cases h:s=0
 · rw[if_pos h,if_pos (by omega)]
 rw[if_neg h,if_neg (by omega)]
theorem kd_le (k:List UInt8):kd k≤3:=by
 unfold kd Text.kind;split
 · omega
 split
 · exact Text.hd_le _
 omega
theorem ok_of {s:List M} (h:∀ m ∈ s,m.p.length≤1048576∧m.n≤18446744073709551615):Ok s:=fun m hm=>⟨(h m hm).2,by have:=(h m hm).1;omega⟩
def B1 (x:RE):Bool:=mayCt none x.c && (seenC x.s x.c && (decide (x.j.length=0) && zeroL x.l))
def B2 (x:RE):Bool:=mayB (x.j.map RI.it) && (seenJ x.s x.j && (decide (x.c.length=0) && zeroL x.l))
def B3 (x:RE):Bool:=mayCl x.l && (decide (x.c.length=0) && decide (x.j.length=0))
theorem kinds_is (x:RE):kinds x.e=if kd x.k=1 then B1 x else if kd x.k=2 then B2 x else if kd x.k=3 then B3 x else false:=by
 unfold kinds B1 B2 B3;simp only[RE.e,List.length_map,seenJ_is];rfl
theorem may1_any (x:RE) (b:Nat) (w:World) (hB:InB w b x) (hx:InnerE w x) (ox:x.Ok) :
  CB 89 #[.pointer (some ⟨b,0,none⟩)] w (B1 x):=by
 have hb:=Below.refl w.heap.size w;have kx:=hid hx;have OX:=hid ox;clear hx ox;have p0:=hB 0 _ rfl;have p1:w.cell? ⟨b,1,none⟩=some (.slice x.sa x.s.length x.sc):=hB 1 _ rfl;have p2:w.cell? ⟨b,2,none⟩=some (.slice x.ca x.c.length x.cc):=hB 2 _ rfl;have p3:w.cell? ⟨b,3,none⟩=some (.slice x.ia x.j.length x.ic):=hB 3 _ rfl;have p4:w.cell? ⟨b,4,none⟩=some ↑x.l.s:=hB 4 _ rfl;have p5:w.cell? ⟨b,5,none⟩=some ↑x.l.t:=hB 5 _ rfl;have p6:w.cell? ⟨b,6,none⟩=some ↑x.l.g:=hB 6 _ rfl;clear hB;obtain ⟨q0,hq0⟩:=nm (mayCt none x.c);obtain ⟨q1,hq1⟩:=nm (seenC x.s x.c);obtain ⟨q2,hq2⟩:=nm (decide (x.j.length=0));obtain ⟨q3,hq3⟩:=nm (zeroL x.l);have HV:Hid (B1 x=(q0 && (q1 && (q2 && (q3))))):=hid (by unfold B1;rw[hq0,hq1,hq2,hq3]);have e2:((x.j.length:Int) == 0)=q2:=by rw[hq2];by_cases h:x.j.length=0 <;> simp[h]
 have CL:∀ W,(binOp .eql 27 (.agg x.l) (.agg #[.int .u64 0,.string ⟨#[]⟩,.bool false])).run Tryz.prog W=.ok (.bool q3) W:=by rw[hq3,zeroL_eq];exact fun W=>eql_cell x.l Cl.zero W
 have C0:=hid (fun W (hx:InnerE W x)=>qB hq0 (mayC_any x.ca x.c.length x.cc x.c W hx.c (by have:=OX.out.c;omega)));have C1:=hid (fun W (hx:InnerE W x)=>qB hq1 (seenC_any x.k x.sa x.sc x.s x.ca x.cc x.c x.ia x.ic x.j x.l W hx.s hx.c OX.out.s OX.out.sm OX.out.c));clear hq0 hq1 hq2 hq3;go_enter Tryz.func89,Tryz.ntmps89;go_wp2_with fail
 refine cr (C0.out _ kx.out) fun v1 k1=>?_;have hA:=kp k1 (aj7 p0 p1 p2 p3 p4 p5 p6);clear p0 p1 p2 p3 p4 p5 p6;obtain ⟨p0,p1,p2,p3,p4,p5,p6⟩:=hA;replace kx:=hid ((kx.out).below k1);replace hb:=bstep hb k1;clear k1;cases q0
 ·
  have HV2:Hid (B1 x=false):=hid (by rw[HV.out];try simp);go_wp2;go_ret;exact ⟨by rw[HV2.out];rfl,hb⟩
 go_wp2_with fail
 refine cr (C1.out _ kx.out) fun v2 k2=>?_;have hA:=kp k2 (aj7 p0 p1 p2 p3 p4 p5 p6);clear p0 p1 p2 p3 p4 p5 p6;obtain ⟨p0,p1,p2,p3,p4,p5,p6⟩:=hA;replace kx:=hid ((kx.out).below k2);replace hb:=bstep hb k2;clear k2;cases q1
 ·
  have HV2:Hid (B1 x=false):=hid (by rw[HV.out];try simp);go_wp2;go_ret;exact ⟨by rw[HV2.out];rfl,hb⟩
 cases q2
 ·
  have HV2:Hid (B1 x=false):=hid (by rw[HV.out];try simp);go_wp2;go_ret;exact ⟨by rw[HV2.out];rfl,hb⟩
 have HV2:Hid (B1 x=q3):=hid (by rw[HV.out];simp only[Bool.true_and]);go_wp2;go_ret;exact ⟨by rw[HV2.out];rfl,hb⟩
theorem may2_any (x:RE) (b:Nat) (w:World) (hB:InB w b x) (hx:InnerE w x) (ox:x.Ok) (of:Fine (x.j.map RI.it)) :
  CB 92 #[.pointer (some ⟨b,0,none⟩)] w (B2 x):=by
 have hb:=Below.refl w.heap.size w;have kx:=hid hx;have OX:=hid ox;clear hx ox;have p0:=hB 0 _ rfl;have p1:w.cell? ⟨b,1,none⟩=some (.slice x.sa x.s.length x.sc):=hB 1 _ rfl;have p2:w.cell? ⟨b,2,none⟩=some (.slice x.ca x.c.length x.cc):=hB 2 _ rfl;have p3:w.cell? ⟨b,3,none⟩=some (.slice x.ia x.j.length x.ic):=hB 3 _ rfl;have p4:w.cell? ⟨b,4,none⟩=some ↑x.l.s:=hB 4 _ rfl;have p5:w.cell? ⟨b,5,none⟩=some ↑x.l.t:=hB 5 _ rfl;have p6:w.cell? ⟨b,6,none⟩=some ↑x.l.g:=hB 6 _ rfl;clear hB;obtain ⟨q0,hq0⟩:=nm (mayB (x.j.map RI.it));obtain ⟨q1,hq1⟩:=nm (seenJ x.s x.j);obtain ⟨q2,hq2⟩:=nm (decide (x.c.length=0));obtain ⟨q3,hq3⟩:=nm (zeroL x.l);have HV:Hid (B2 x=(q0 && (q1 && (q2 && (q3))))):=hid (by unfold B2;rw[hq0,hq1,hq2,hq3]);have e2:((x.c.length:Int) == 0)=q2:=by rw[hq2];by_cases h:x.c.length=0 <;> simp[h]
 have CL:∀ W,(binOp .eql 27 (.agg x.l) (.agg #[.int .u64 0,.string ⟨#[]⟩,.bool false])).run Tryz.prog W=.ok (.bool q3) W:=by rw[hq3,zeroL_eq];exact fun W=>eql_cell x.l Cl.zero W
 have C0:=hid (fun W (hx:InnerE W x)=>qB hq0 (may_any (x.j.map RI.it) x.ia x.j.length x.ic W ⟨x.j,rfl,hx.i.1,hx.i.2⟩ of));have C1:=hid (fun W (hx:InnerE W x)=>qB hq1 (seenI_any x.k x.sa x.sc x.s x.ca x.cc x.c x.ia x.ic x.j x.l W hx.s hx.i.1 hx.i.2 OX.out.s OX.out.sm OX.out.j (fun y hy=>(OX.out.jm y hy).2.1)));clear hq0 hq1 hq2 hq3;go_enter Tryz.func92,Tryz.ntmps92;go_wp2_with fail
 refine cr (C0.out _ kx.out) fun v3 k3=>?_;have hA:=kp k3 (aj7 p0 p1 p2 p3 p4 p5 p6);clear p0 p1 p2 p3 p4 p5 p6;obtain ⟨p0,p1,p2,p3,p4,p5,p6⟩:=hA;replace kx:=hid ((kx.out).below k3);replace hb:=bstep hb k3;clear k3;cases q0
 ·
  have HV2:Hid (B2 x=false):=hid (by rw[HV.out];try simp);go_wp2;go_ret;exact ⟨by rw[HV2.out];rfl,hb⟩
 go_wp2_with fail
 refine cr (C1.out _ kx.out) fun v4 k4=>?_;have hA:=kp k4 (aj7 p0 p1 p2 p3 p4 p5 p6);clear p0 p1 p2 p3 p4 p5 p6;obtain ⟨p0,p1,p2,p3,p4,p5,p6⟩:=hA;replace kx:=hid ((kx.out).below k4);replace hb:=bstep hb k4;clear k4;cases q1
 ·
  have HV2:Hid (B2 x=false):=hid (by rw[HV.out];try simp);go_wp2;go_ret;exact ⟨by rw[HV2.out];rfl,hb⟩
 cases q2
 ·
  have HV2:Hid (B2 x=false):=hid (by rw[HV.out];try simp);go_wp2;go_ret;exact ⟨by rw[HV2.out];rfl,hb⟩
 have HV2:Hid (B2 x=q3):=hid (by rw[HV.out];simp only[Bool.true_and]);go_wp2;go_ret;exact ⟨by rw[HV2.out];rfl,hb⟩
theorem may3_any (x:RE) (b:Nat) (w:World) (hB:InB w b x) (hx:InnerE w x) (ox:x.Ok) :
  CB 95 #[.pointer (some ⟨b,0,none⟩)] w (B3 x):=by
 have hb:=Below.refl w.heap.size w;have kx:=hid hx;have OX:=hid ox;clear hx ox;have p0:=hB 0 _ rfl;have p1:w.cell? ⟨b,1,none⟩=some (.slice x.sa x.s.length x.sc):=hB 1 _ rfl;have p2:w.cell? ⟨b,2,none⟩=some (.slice x.ca x.c.length x.cc):=hB 2 _ rfl;have p3:w.cell? ⟨b,3,none⟩=some (.slice x.ia x.j.length x.ic):=hB 3 _ rfl;have p4:w.cell? ⟨b,4,none⟩=some ↑x.l.s:=hB 4 _ rfl;have p5:w.cell? ⟨b,5,none⟩=some ↑x.l.t:=hB 5 _ rfl;have p6:w.cell? ⟨b,6,none⟩=some ↑x.l.g:=hB 6 _ rfl;clear hB;obtain ⟨q0,hq0⟩:=nm (mayCl x.l);obtain ⟨q1,hq1⟩:=nm (decide (x.c.length=0));obtain ⟨q2,hq2⟩:=nm (decide (x.j.length=0));have HV:Hid (B3 x=(q0 && (q1 && (q2)))):=hid (by unfold B3;rw[hq0,hq1,hq2]);have e1:((x.c.length:Int) == 0)=q1:=by rw[hq1];by_cases h:x.c.length=0 <;> simp[h]
 have e2:((x.j.length:Int) == 0)=q2:=by rw[hq2];by_cases h:x.j.length=0 <;> simp[h]
 have C0:=hid (fun W=>(by rw[hq0,← mayCl_eq];exact Cell.may_any (x.l.s:Int) ⟨x.l.t.toArray⟩ x.l.g W:CB 96 #[.agg x.l] W q0));clear hq0 hq1 hq2;go_enter Tryz.func95,Tryz.ntmps95;go_wp2_with fail
 refine cr (C0.out _) fun v5 k5=>?_;have hA:=kp k5 (aj7 p0 p1 p2 p3 p4 p5 p6);clear p0 p1 p2 p3 p4 p5 p6;obtain ⟨p0,p1,p2,p3,p4,p5,p6⟩:=hA;replace kx:=hid ((kx.out).below k5);replace hb:=bstep hb k5;clear k5;cases q0
 ·
  have HV2:Hid (B3 x=false):=hid (by rw[HV.out];try simp);go_wp2;go_ret;exact ⟨by rw[HV2.out];rfl,hb⟩
 cases q1
 ·
  have HV2:Hid (B3 x=false):=hid (by rw[HV.out];try simp);go_wp2;go_ret;exact ⟨by rw[HV2.out];rfl,hb⟩
 have HV2:Hid (B3 x=q2):=hid (by rw[HV.out];simp only[Bool.true_and]);go_wp2;go_ret;exact ⟨by rw[HV2.out];rfl,hb⟩
theorem zero_fn {w:World}:(zeroValue 42).run Tryz.prog w=.ok .nilFunc w:=by kernel_rfl
theorem mayE_any (x:RE) (w:World) (hx:InnerE w x) (ox:x.Ok) (of:Fine (x.j.map RI.it)) :
  CB 37 #[.agg x] w (mayE x.e):=by
 have kx:=hid hx;have OX:=hid ox;have OF:=hid of;clear hx ox of;obtain ⟨q0,hq0⟩:=nm (mayL x.s);obtain ⟨q1,hq1⟩:=nm (decide (x.s.length=0));have e1:((x.s.length:Int) == 0)=q1:=by rw[hq1];by_cases h:x.s.length=0 <;> simp[h]
 have HV:Hid (mayE x.e=(q0 && (!q1 && kinds x.e))):=hid (by rw[hq0,hq1];rfl);have C0:=hid (fun W (hx:InnerE W x)=>qB hq0 (Dots.may_any x.s x.sa x.s.length x.sc W hx.s (by have:=OX.out.s;omega) (ok_of OX.out.sm)));clear hq0 hq1;obtain ⟨q,hq⟩:=nm (kd x.k);have hq3:q≤3:=by rw[hq];exact kd_le _
 have KD:=hid (fun W=>(by rw[hq];exact kind_k x.k W OX.out.k:CB 97 #[x.k] W (.int .u8 (q:Nat))));have HB:Hid (kinds x.e=if q=1 then B1 x else if q=2 then B2 x else if q=3 then B3 x else false):=hid (by rw[hq,kinds_is]);clear hq;have hmm:=@run_makeMap Tryz.prog;have hmf:∀ (fn:Fn) (first cap:Array Value) (w:World),(Instr.makeFunc fn first cap).run Tryz.prog w=.ok (.func fn first cap) w:=fun _ _ _ _=>rfl;go_enter Tryz.func37,Tryz.ntmps37;go_upto_region 1 with (fail)
 have hb0:=balloc (Below.refl w.heap.size w) (.cells x 29);obtain ⟨p0,p1,p2,p3,p4,p5,p6⟩:=al7 (bx w x 29);obtain ⟨w0,hw0⟩:=nm (w.alloc (.cells x 29));rw[← hw0] at hb0 p0 p1 p2 p3 p4 p5 p6 ⊢;obtain ⟨bp,hbp⟩:=nm w.heap.size;rw[← hbp] at p0 p1 p2 p3 p4 p5 p6 ⊢;have hb:=hb0;clear hb0 hw0 hbp;replace kx:=hid (kx.out.below hb);go_wp2_with fail
 refine cr (C0.out _ kx.out) fun v6 k6=>?_;have hA:=kp k6 (aj7 p0 p1 p2 p3 p4 p5 p6);clear p0 p1 p2 p3 p4 p5 p6;obtain ⟨p0,p1,p2,p3,p4,p5,p6⟩:=hA;replace kx:=hid ((kx.out).below k6);replace hb:=bstep hb k6;clear k6;cases q0
 ·
  have HV2:Hid (mayE x.e=false):=hid (by rw[HV.out];try simp);go_wp2;go_ret;exact ⟨by rw[HV2.out];rfl,hb⟩
 cases q1
 rotate_left
 ·
  have HV2:Hid (mayE x.e=false):=hid (by rw[HV.out];try simp);go_wp2;go_ret;exact ⟨by rw[HV2.out];rfl,hb⟩
 have HK:Hid (mayE x.e=kinds x.e):=hid (by rw[HV.out];simp only[Bool.true_and,Bool.not_false]);clear HV;go_upto_region 3 with (fail)
 obtain ⟨wq,hwq⟩:=nm (v6.alloc (.map #[] 0));obtain ⟨mb,hmb⟩:=nm v6.heap.size;have I0:ByteMap.Is Tryz.prog 5 wq mb 0 (fun _=>none):=by rw[hwq,hmb];exact (ByteMap.Is.made v6 )
 have kq:Below v6.heap.size v6 wq:=by rw[hwq];exact balloc (Below.refl _ _) _
 have hmbb:v6.heap.size≤mb:=by omega
 have hmz:mb<wq.heap.size:=ByteMap.Is.lt I0;have mk:(Instr.makeMap 156 none).run Tryz.prog v6  = .ok (.map (some mb)) wq:=by rw[hwq,hmb];exact run_makeMap ..
 obtain ⟨w1,r1,I1,g1⟩:=ByteMap.run_put Tryz.underlying156 Tryz.underlying5 I0 (by unfold maxLen;omega) (q:=1) (by omega) (.func (.func 89) #[] #[.pointer (some ⟨bp,0,none⟩)]);obtain ⟨w2,r2,I2,g2⟩:=ByteMap.run_put Tryz.underlying156 Tryz.underlying5 I1 (by unfold maxLen;omega) (q:=2) (by omega) (.func (.func 92) #[] #[.pointer (some ⟨bp,0,none⟩)]);obtain ⟨w3,r3,I3,g3⟩:=ByteMap.run_put Tryz.underlying156 Tryz.underlying5 I2 (by unfold maxLen;omega) (q:=3) (by omega) (.func (.func 95) #[] #[.pointer (some ⟨bp,0,none⟩)]);replace r1:(Instr.mapUpdate 156 (.map (some mb)) (.int .u8 1) (.func (.func 89) #[] #[.pointer (some ⟨bp,0,none⟩)])).run Tryz.prog wq=.ok () w1:=r1;replace r2:(Instr.mapUpdate 156 (.map (some mb)) (.int .u8 2) (.func (.func 92) #[] #[.pointer (some ⟨bp,0,none⟩)])).run Tryz.prog w1=.ok () w2:=r2;replace r3:(Instr.mapUpdate 156 (.map (some mb)) (.int .u8 3) (.func (.func 95) #[] #[.pointer (some ⟨bp,0,none⟩)])).run Tryz.prog w2=.ok () w3:=r3;have ka:=kq.grown g1 kq.size (fun k hk=>by cases hk;exact hmbb);have kb:=ka.grown g2 ka.size (fun k hk=>by cases hk;exact hmbb);have kw:=kb.grown g3 kb.size (fun k hk=>by cases hk;exact hmbb);clear ka kb hmm;obtain ⟨f,hf⟩:=nm (ByteMap.put (ByteMap.put (ByteMap.put (fun _=>none) 1 (.func (.func 89) #[] #[.pointer (some ⟨bp,0,none⟩)])) 2 (.func (.func 92) #[] #[.pointer (some ⟨bp,0,none⟩)])) 3 (.func (.func 95) #[] #[.pointer (some ⟨bp,0,none⟩)]));rw[← hf] at I3;replace I3:=hid I3;replace hf:=hid hf;clear hwq hmb I0 I1 I2 g1 g2 g3 kq;replace p0:=(Coder.keepC p0 kw)
 replace p1:=(Coder.keepC p1 kw)
 replace p2:=(Coder.keepC p2 kw)
 replace p3:=(Coder.keepC p3 kw)
 replace p4:=(Coder.keepC p4 kw)
 replace p5:=(Coder.keepC p5 kw)
 replace p6:=(Coder.keepC p6 kw)
 replace kx:=hid ((kx.out).below kw);replace hb:=bstep hb kw;clear kw;go_wp2_with fail
 refine cr (KD.out _) fun v7 k7=>?_;have hA:=kp k7 (aj7 p0 p1 p2 p3 p4 p5 p6);clear p0 p1 p2 p3 p4 p5 p6;obtain ⟨p0,p1,p2,p3,p4,p5,p6⟩:=hA;replace kx:=hid ((kx.out).below k7);replace I3:=hid ((I3.out).below k7);replace hb:=bstep hb k7;clear k7 mk r1 r2 r3 hmf;by_cases k1:q=1
 ·
  have HF:Hid (mayE x.e=B1 x):=hid (by rw[HK.out,HB.out,if_pos k1]);have rl:=ByteMap.run_look_ok Tryz.underlying156 Tryz.underlying5 zero_fn I3.out (q:=1) (by omega);have ef:f 1=some (.func (.func 89) #[] #[.pointer (some ⟨bp,0,none⟩)]):=by rw[hf.out];rfl
  rw[ef] at rl;replace rl:(Instr.lookup 156 (.map (some mb)) (.int .u8 1) true).run Tryz.prog v7=.ok (.tuple #[.func (.func 89) #[] #[.pointer (some ⟨bp,0,none⟩)],.bool true]) v7:=rl;have HIB:=hid (InB.of p0 p1 p2 p3 p4 p5 p6);clear ef;subst k1;clear I3 hf;go_wp2_with fail
  refine cr (may1_any x bp _ HIB.out kx.out OX.out) fun v8 k8=>?_;have hA:=kp k8 (aj7 p0 p1 p2 p3 p4 p5 p6);clear p0 p1 p2 p3 p4 p5 p6;obtain ⟨p0,p1,p2,p3,p4,p5,p6⟩:=hA;replace kx:=hid ((kx.out).below k8);replace hb:=bstep hb k8;go_wp2;go_ret;exact ⟨by rw[HF.out];rfl,hb⟩
 by_cases k2:q=2
 ·
  have HF:Hid (mayE x.e=B2 x):=hid (by rw[HK.out,HB.out,if_neg k1,if_pos k2]);have rl:=ByteMap.run_look_ok Tryz.underlying156 Tryz.underlying5 zero_fn I3.out (q:=2) (by omega);have ef:f 2=some (.func (.func 92) #[] #[.pointer (some ⟨bp,0,none⟩)]):=by rw[hf.out];rfl
  rw[ef] at rl;replace rl:(Instr.lookup 156 (.map (some mb)) (.int .u8 2) true).run Tryz.prog v7=.ok (.tuple #[.func (.func 92) #[] #[.pointer (some ⟨bp,0,none⟩)],.bool true]) v7:=rl;have HIB:=hid (InB.of p0 p1 p2 p3 p4 p5 p6);clear ef k1;subst k2;clear I3 hf;go_wp2_with fail
  refine cr (may2_any x bp _ HIB.out kx.out OX.out OF.out) fun v9 k9=>?_;have hA:=kp k9 (aj7 p0 p1 p2 p3 p4 p5 p6);clear p0 p1 p2 p3 p4 p5 p6;obtain ⟨p0,p1,p2,p3,p4,p5,p6⟩:=hA;replace kx:=hid ((kx.out).below k9);replace hb:=bstep hb k9;go_wp2;go_ret;exact ⟨by rw[HF.out];rfl,hb⟩
 by_cases k3:q=3
 ·
  have HF:Hid (mayE x.e=B3 x):=hid (by rw[HK.out,HB.out,if_neg k1,if_neg k2,if_pos k3]);have rl:=ByteMap.run_look_ok Tryz.underlying156 Tryz.underlying5 zero_fn I3.out (q:=3) (by omega);have ef:f 3=some (.func (.func 95) #[] #[.pointer (some ⟨bp,0,none⟩)]):=by rw[hf.out];rfl
  rw[ef] at rl;replace rl:(Instr.lookup 156 (.map (some mb)) (.int .u8 3) true).run Tryz.prog v7=.ok (.tuple #[.func (.func 95) #[] #[.pointer (some ⟨bp,0,none⟩)],.bool true]) v7:=rl;have HIB:=hid (InB.of p0 p1 p2 p3 p4 p5 p6);clear ef k1 k2;subst k3;clear I3 hf;go_wp2_with fail
  refine cr (may3_any x bp _ HIB.out kx.out OX.out) fun v10 k10=>?_;have hA:=kp k10 (aj7 p0 p1 p2 p3 p4 p5 p6);clear p0 p1 p2 p3 p4 p5 p6;obtain ⟨p0,p1,p2,p3,p4,p5,p6⟩:=hA;replace kx:=hid ((kx.out).below k10);replace hb:=bstep hb k10;go_wp2;go_ret;exact ⟨by rw[HF.out];rfl,hb⟩
 obtain rfl:q=0:=by omega
 have HF:Hid (mayE x.e=false):=hid (by rw[HK.out,HB.out,if_neg k1,if_neg k2,if_neg k3]);have rl:=ByteMap.run_look_ok Tryz.underlying156 Tryz.underlying5 zero_fn I3.out (q:=0) (by omega);have ef:f 0=none:=by rw[hf.out];rfl
 rw[ef] at rl;replace rl:(Instr.lookup 156 (.map (some mb)) (.int .u8 0) true).run Tryz.prog v7=.ok (.tuple #[.nilFunc,.bool false]) v7:=rl;clear ef k1 k2 k3 I3 hf;go_wp2;go_ret;exact ⟨by rw[HF.out];rfl,hb⟩
theorem mayO_any (d:Nat) (k:List UInt8) (n:Int) (t:List UInt8) (w:World) (hk:k.length≤1048576) :
  CB 59 #[.agg #[.int .u8 (d:Int),k,.int .i64 n,t]] w (mayO ⟨d,k,n,t⟩):=by
 have KD:Hid (∀ W,CB 139 #[k] W (!(kd k == 0))):=hid (fun W=>Text.key_any ⟨k.toArray⟩ W (by rw[Str.size_mk];unfold maxLen;omega));have hz:=Str.size_mk t;have hb:=balloc (Below.refl w.heap.size w) (.cells #[.int .u8 (d:Int),k,.int .i64 n,t] 38);by_cases h1:1≤d
 ·by_cases h2:d≤5
  ·have HV:Hid (mayO ⟨d,k,n,t⟩=((!(kd k == 0)) && decide (t.length≤4096))):=hid (by
    unfold mayO;simp only[h1,h2,decide_true,Bool.true_and];congr 1)
   obtain ⟨q,hq⟩:=nm (!(kd k == 0));rw[← hq] at KD HV;have X3:=box_cells w #[.int .u8 (d:Int),k,.int .i64 n,t] 38 3 (.string ⟨t.toArray⟩) rfl;clear hq;go_enter Tryz.func59,Tryz.ntmps59;go_wp2_with fail
   refine cr (KD.out _) fun w1 k1=>?_;replace X3:=keepC X3 k1;replace hb:=bstep hb k1;cases q
   ·have HV2:Hid (mayO ⟨d,k,n,t⟩=false):=hid (by rw[HV.out];rfl);go_wp2;go_ret;exact ⟨by rw[HV2.out];rfl,hb⟩
   by_cases h3:t.length≤4096
   ·have HV2:Hid (mayO ⟨d,k,n,t⟩=true):=hid (by rw[HV.out,decide_eq_true h3];rfl);have j3:=dT (p:=(t.length:Int)≤4096);go_wp2;go_ret;exact ⟨by rw[HV2.out];rfl,hb⟩
   have HV2:Hid (mayO ⟨d,k,n,t⟩=false):=hid (by rw[HV.out,decide_eq_false h3];rfl);have j3:=dF (p:=(t.length:Int)≤4096);go_wp2;go_ret;exact ⟨by rw[HV2.out];rfl,hb⟩
  have HV:Hid (mayO ⟨d,k,n,t⟩=false):=hid (by unfold mayO;simp only[h2,decide_false,Bool.false_and,Bool.and_false]);go_enter Tryz.func59,Tryz.ntmps59;go_wp2;go_ret;exact ⟨by rw[HV.out];rfl,hb⟩
 have HV:Hid (mayO ⟨d,k,n,t⟩=false):=hid (by unfold mayO;simp only[h1,decide_false,Bool.false_and]);go_enter Tryz.func59,Tryz.ntmps59;go_wp2;go_ret;exact ⟨by rw[HV.out];rfl,hb⟩
end Coder
namespace Taker
open RowKit YtnpjkmomllkhpaaGreatDoor.Mark Num Wire Bag Coder
theorem loop_all {α:Type} {each:List UInt8→Int→α × List UInt8 × Int} {P:α→Prop} (hP:∀ l E x l' E',each l E=(x,l',E')→P x):∀ (n:Nat) (l:List UInt8) (E:Int),∀ x ∈ (loopS each n l E).1,P x
 | 0,_,_,x,hx=>by cases hx
 | n+1,l,E,x,hx=>by
  have e:loopS each (n+1) l E=if E≠0 then ([],l,E) else bindR (each l E) fun x l1 E1=>bindR (loopS each n l1 E1) fun xs l2 E2=>(x::xs,l2,E2):=rfl
  rw[e] at hx;split at hx
  · cases hx
  unfold bindR at hx;simp only at hx;rcases List.mem_cons.1 hx with rfl | hx
  · exact hP _ _ _ _ _ rfl
  exact loop_all hP n _ _ x hx
theorem many_all {α:Type} {each:List UInt8→Int→α × List UInt8 × Int} {P:α→Prop} (hP:∀ l E x l' E',each l E=(x,l',E')→P x) {l l':List UInt8} {E E':Int} {xs:List α} (h:manyS each l E=(xs,l',E')):∀ x ∈ xs,P x:=by
 have e:xs=(manyS each l E).1:=by rw[h]
 rw[e];exact loop_all hP _ _ _
theorem loop_len {α:Type} {each:List UInt8→Int→α × List UInt8 × Int} (h:Eats each):∀ (n:Nat) (l:List UInt8) (E:Int),(loopS each n l E).1.length≤l.length+1
 | 0,_,_=>Nat.zero_le _
 | n+1,l,E=>by
  have e:loopS each (n+1) l E=if E≠0 then ([],l,E) else bindR (each l E) fun x l1 E1=>bindR (loopS each n l1 E1) fun xs l2 E2=>(x::xs,l2,E2):=rfl
  rw[e];split
  · exact Nat.zero_le _
  rename_i hE
  obtain rfl:E=0:=by omega
  unfold bindR;show (_::(loopS each n (each l 0).2.1 (each l 0).2.2).1).length≤_
  rw[List.length_cons];by_cases e1:(each l 0).2.2=0
  ·have h1:=h.less l e1;have h2:=loop_len h n (each l 0).2.1 (each l 0).2.2;omega
  rw[loopS_err _ _ _ e1];show 0+1≤_
  omega
theorem many_len {α:Type} {each:List UInt8→Int→α × List UInt8 × Int} (h:Eats each) {l l':List UInt8} {E E':Int} {xs:List α} (e:manyS each l E=(xs,l',E')):xs.length≤l.length+1:=by
 have e1:xs=(manyS each l E).1:=by rw[e]
 rw[e1];have h1:=loop_len h (natS l E).1 (natS l E).2.1 (natS l E).2.2;have h2:=nat_eats.keeps.len (l:=l) (E:=E) (x:=(natS l E).1) (l':=(natS l E).2.1) (E':=(natS l E).2.2) rfl;show (loopS each (natS l E).1 (natS l E).2.1 (natS l E).2.2).1.length≤_
 omega
theorem nat_le {l l':List UInt8} {E E':Int} {n:Nat} (h:natS l E=(n,l',E')):n≤18446744073709551615:=by
 have:=(nat_of (by decide) h).2;omega
theorem small_le {l l':List UInt8} {E E':Int} {n:Nat} (h:smallS l E=(n,l',E')):n≤255:=by
 have:=(nat_of (by decide) h).2;omega
def FitM (m:M):Prop:=m.p.length≤65536∧m.n≤18446744073709551615
def FitC (c:C):Prop:=c.p.length≤65536∧c.a≤18446744073709551615∧c.b≤18446744073709551615
def FitI (x:It):Prop:=x.t.length≤65536∧x.d.length≤65537∧∀ m ∈ x.d,FitM m
structure FitE (y:Coder.E):Prop where
 k:y.k.length≤65536
 s:y.s.length≤65537∧∀ m ∈ y.s,FitM m
 c:y.c.length≤65537∧∀ m ∈ y.c,FitC m
 i:y.i.length≤65537∧∀ m ∈ y.i,FitI m
 l:y.l.t.length≤65536∧y.l.s≤18446744073709551615
theorem mark_fit {l l':List UInt8} {E E':Int} {m:M} (h:markS l E=(m,l',E')):FitM m:=by
 obtain ⟨x0,l0,E0,q0⟩:=tr (wordS l E);obtain ⟨x1,l1,E1,q1⟩:=tr (natS l0 E0);simp only[markS,bindR,q0,q1,Prod.mk.injEq] at h;rw[← h.1];exact ⟨word_len q0,nat_le q1⟩
theorem dot_fit {l l':List UInt8} {E E':Int} {m:M} (h:dotS l E=(m,l',E')):FitM m:=by
 obtain ⟨x0,l0,E0,q0⟩:=tr (wordS l E);obtain ⟨x1,l1,E1,q1⟩:=tr (natS l0 E0);simp only[dotS,bindR,q0,q1,Prod.mk.injEq] at h;rw[← h.1];exact ⟨word_len q0,nat_le q1⟩
theorem count_fit {l l':List UInt8} {E E':Int} {m:C} (h:countS l E=(m,l',E')):FitC m:=by
 obtain ⟨x0,l0,E0,q0⟩:=tr (wordS l E);obtain ⟨x1,l1,E1,q1⟩:=tr (natS l0 E0);obtain ⟨x2,l2,E2,q2⟩:=tr (natS l1 E1);simp only[countS,bindR,q0,q1,q2,Prod.mk.injEq] at h;rw[← h.1];exact ⟨word_len q0,nat_le q1,nat_le q2⟩
theorem item_fit {l l':List UInt8} {E E':Int} {m:It} (hz:l.length≤65536) (h:itemS l E=(m,l',E')):FitI m:=by
 obtain ⟨x0,l0,E0,q0⟩:=tr (wordS l E);obtain ⟨x1,l1,E1,q1⟩:=tr (manyS dotS l0 E0);simp only[itemS,bindR,q0,q1,Prod.mk.injEq] at h;rw[← h.1];have h1:=word_eats.keeps.len q0;have h2:=many_len dot_eats q1;exact ⟨word_len q0,by show x1.length≤_;omega,many_all (P:=FitM) (fun _ _ _ _ _ e=>dot_fit e) q1⟩
theorem loop_fit {α:Type} {P:α→Prop} {each:List UInt8→Int→α × List UInt8 × Int} (h:Eats each) (hP:∀ l E x l' E',l.length≤65536→each l E=(x,l',E')→P x):∀ (n:Nat) (l:List UInt8) (E:Int),l.length≤65536→∀ x ∈ (loopS each n l E).1,P x
 | 0,_,_,_,x,hx=>by cases hx
 | n+1,l,E,hl,x,hx=>by
  have e:loopS each (n+1) l E=if E≠0 then ([],l,E) else bindR (each l E) fun x l1 E1=>bindR (loopS each n l1 E1) fun xs l2 E2=>(x::xs,l2,E2):=rfl
  rw[e] at hx;split at hx
  · cases hx
  unfold bindR at hx;simp only at hx;rcases List.mem_cons.1 hx with rfl | hx
  · exact hP _ _ _ _ _ hl rfl
  refine loop_fit h hP n _ _ ?_ x hx;exact Nat.le_trans (h.keeps.len (l:=l) (E:=E) (x:=(each l E).1) (l':=(each l E).2.1) (E':=(each l E).2.2) rfl) hl
theorem entry_fit {l l':List UInt8} {E E':Int} {y:Coder.E} (hz:l.length≤65536) (h:entryS l E=(y,l',E')):FitE y:=by
 obtain ⟨x0,l0,E0,q0⟩:=tr (wordS l E);obtain ⟨x1,l1,E1,q1⟩:=tr (manyS markS l0 E0);simp only[entryS,bindR,q0,q1] at h;have h0:=word_len q0;have h1:=word_eats.keeps.len q0;have h2:=many_len mark_eats q1;have h3:=(many_eats mark_eats).keeps.len q1;have hs:x1.length≤65537∧∀ m ∈ x1,FitM m:=⟨by omega,many_all (P:=FitM) (fun _ _ _ _ _ e=>mark_fit e) q1⟩
 have nc:([]:List C).length≤65537∧∀ m ∈ ([]:List C),FitC m:=⟨by decide,fun m hm=>by cases hm⟩
 have ni:([]:List It).length≤65537∧∀ m ∈ ([]:List It),FitI m:=⟨by decide,fun m hm=>by cases hm⟩
 have nl:Cl.zero.t.length≤65536∧Cl.zero.s≤18446744073709551615:=⟨by decide,by decide⟩
 by_cases k1:kd x0=1
 ·obtain ⟨x2,l2,E2,q2⟩:=tr (manyS countS l1 E1);simp only[if_pos k1,q2,Prod.mk.injEq] at h;have h4:=many_len count_eats q2;rw[← h.1];exact ⟨h0,hs,⟨by show x2.length≤_;omega,many_all (P:=FitC) (fun _ _ _ _ _ e=>count_fit e) q2⟩,ni,nl⟩
 by_cases k2:kd x0=2
 ·obtain ⟨x2,l2,E2,q2⟩:=tr (manyS itemS l1 E1);simp only[if_neg k1,if_pos k2,q2,Prod.mk.injEq] at h;have h4:=many_len item_eats q2;rw[← h.1];refine ⟨h0,hs,nc,⟨by show x2.length≤_;omega,?_⟩,nl⟩;have e:x2=(loopS itemS (natS l1 E1).1 (natS l1 E1).2.1 (natS l1 E1).2.2).1:=by show x2=(manyS itemS l1 E1).1;rw[q2]
  show ∀ m ∈ x2,FitI m
  rw[e];refine loop_fit item_eats (fun _ _ _ _ _ hl e=>item_fit hl e) _ _ _ ?_;have:=nat_eats.keeps.len (l:=l1) (E:=E1) (x:=(natS l1 E1).1) (l':=(natS l1 E1).2.1) (E':=(natS l1 E1).2.2) rfl;omega
 by_cases k3:kd x0=3
 ·obtain ⟨x2,l2,E2,q2⟩:=tr (cellS l1 E1);simp only[if_neg k1,if_neg k2,if_pos k3,q2,Prod.mk.injEq] at h;rw[← h.1];refine ⟨h0,hs,nc,ni,?_⟩;obtain ⟨y0,m0,F0,p0⟩:=tr (natS l1 E1);obtain ⟨y1,m1,F1,p1⟩:=tr (wordS m0 F0);simp only[cellS,bindR,p0,p1,Prod.mk.injEq] at q2;show x2.t.length≤_∧x2.s≤_
  rw[← q2.1];exact ⟨word_len p1,nat_le p0⟩
 simp only[if_neg k1,if_neg k2,if_neg k3,Prod.mk.injEq] at h;rw[← h.1];exact ⟨h0,hs,nc,ni,nl⟩
theorem mk_len {m:M} (h:FitM m):(mk m).length≤65556:=by
 unfold mk;rw[List.length_append];have h1:=tx_len m.p;have h2:=up_len m.n;have h3:=h.1;omega
theorem flat_len {α:Type} (f:α→List UInt8) (N:Nat):∀ (L:List α),(∀ x ∈ L,(f x).length≤N)→(L.flatMap f).length≤L.length*N
 | [],_=>by simp
 | x::L,h=>by
  rw[List.flatMap_cons,List.length_append,List.length_cons,Nat.add_mul];have h1:=h x (List.mem_cons_self ..);have h2:=flat_len f N L fun y hy=>h y (List.mem_cons_of_mem _ hy);omega
theorem lst_len {α:Type} (f:α→List UInt8) (N:Nat) (L:List α) (h:∀ x ∈ L,(f x).length≤N):(lst f L).length≤10+L.length*N:=by
 unfold lst;rw[List.length_append];have h1:=up_len L.length;have h2:=flat_len f N L h;omega
theorem itb_len {x:It} (h:FitI x):(itb x).length≤70368744177664:=by
 unfold itb;rw[List.length_append];have h1:=tx_len x.t;have h2:=lst_len mk 65556 x.d fun m hm=>mk_len (h.2.2 m hm);have h3:=h.1;have h4:x.d.length*65556≤65537*65556:=Nat.mul_le_mul_right _ h.2.1;omega
theorem FitE.ok {x:RE} (h:FitE x.e):x.Ok where
 k:=by have:=h.k;show x.k.length≤_;have e:x.e.k=x.k:=rfl;rw[e] at this;omega
 s:=by have:=h.s.1;have e:x.e.s=x.s:=rfl;rw[e] at this;omega
 sm m hm:=by have:=h.s.2 m hm;exact ⟨by have:=this.1;omega,this.2⟩
 c:=by have:=h.c.1;have e:x.e.c=x.c:=rfl;rw[e] at this;omega
 cm m hm:=by have:=h.c.2 m hm;exact ⟨by have:=this.1;omega,this.2.1,this.2.2⟩
 j:=by have:=h.i.1;have e:x.e.i.length=x.j.length:=List.length_map ..;rw[e] at this;omega
 jm y hy:=by
  have:=h.i.2 y.it (List.mem_map.2 ⟨y,hy,rfl⟩);have hl:=itb_len this;obtain ⟨h1,h2,h3⟩:=this;have e1:y.it.t=y.t:=rfl;have e2:y.it.d=y.d:=rfl;rw[e1] at h1;rw[e2] at h2 h3;exact ⟨by omega,by omega,fun m hm=>⟨by have:=(h3 m hm).1;omega,(h3 m hm).2⟩,hl⟩
 t:=by have:=h.l.1;have e:x.e.l=x.l:=rfl;rw[e] at this;omega
 g:=h.l.2
theorem pls_len (L:List It) (N:Nat) (h:∀ x ∈ L,x.d.length≤N):(pls L).length≤L.length*N:=by
 unfold pls;induction L with
 | nil=>simp
 | cons x L ih =>
  rw[List.flatMap_cons,List.length_append,onT_len,List.length_cons,Nat.add_mul];have h1:=h x (List.mem_cons_self ..);have h2:=ih fun y hy=>h y (List.mem_cons_of_mem _ hy);omega
theorem FitE.fine {y:Coder.E} (h:FitE y):Bag.Fine y.i where
 items:=by have:=h.i.1;omega
 few:=by
  have h1:=pls_len y.i 65537 fun x hx=>(h.i.2 x hx).2.1;have h2:y.i.length*65537≤65537*65537:=Nat.mul_le_mul_right _ h.i.1;omega
 fine p hp:=by
  obtain ⟨x,hx,e,hm⟩:=(mem_pls y.i p.t p.m).1 hp;obtain ⟨h1,h2,h3⟩:=h.i.2 x hx;have h4:=h3 p.m hm;have:65536≤maxLen:=by decide
  exact ⟨by rw[← e];omega,by have:=h4.1;omega,h4.2⟩
def RE.zero:RE:=⟨[],none,0,[],none,0,[],none,0,[],Cl.zero⟩
theorem own_zero (w:World) (B:Nat):OwnE w B RE.zero:=⟨OwnM.nil _ _,OwnC.nil _ _,OwnI.nil _ _⟩
def errS (b:Bool):Int:=if b=true then 0 else 8
def pickS {α:Type} (b:Bool) (y z:α):α:=if b=true then y else z
theorem ok_zero:RE.zero.Ok:=FitE.ok (x:=RE.zero) ⟨by decide,⟨by decide,fun m hm=>by cases hm⟩,⟨by decide,fun m hm=>by cases hm⟩,⟨by decide,fun m hm=>by cases hm⟩,⟨by decide,by decide⟩⟩
def okS (l:List UInt8) (E:Int) (m:Bool):Bool:=decide (endS l E=0) && m
theorem wholeT {β:Type} (val:β→List Value) (Z:List Value) (T:TypeId) (hZ:Z≠[]) (hv:∀ x,val x≠[]) (PX:β→Prop) (OW:World→Nat→β→Prop) {F fr fm:FuncId} {fd:Func} {nt:Nat} {rr:Array ResultVar} (GF:Tryz.prog.funcs[F]?=some fd) (GN:fd.ntmps=nt) (GR:fd.results=rr)
  {s l':List UInt8} {E':Int} {q:Bool} {w:World} (hs:s.length≤65536)
  (read:∀ b W,Rd W b s 0→Calls Tryz.prog fr #[.agg #[.pointer (some ⟨b,0,none⟩)]] W fun e w'=>∃ x,e=.returned (.agg (val x).toArray)∧PX x∧OW w' W.heap.size x∧Rd w' b l' E'∧But b W w')
  (may:endS l' E'=0→∀ x W B,PX x→OW W B x→CB fm #[.agg (val x).toArray] W q) (ob:∀ W W' B b x,OW W B x→But b W W'→b<B→OW W' B x) (obase:∀ W B B' x,OW W B x→B'≤B→OW W B' x)
  (script:∀ (E2:Int) (PX:β→Prop) (OW:World→Nat→β→Prop) (ok q1:Bool) (ZV:Value) (VV:β→Value),s.length≤65536→Hid (endS l' E'=E2)→Hid (E2≠0→ok=false)→Hid (q1=false→ok=false)→Hid (E2=0→q1=true→ok=true)→Hid (ZV=.tuple #[.agg Z.toArray,.int .i64 8])→Hid (∀ x,VV x=.tuple #[.agg (val x).toArray,.int .i64 0]) →
   Hid (∀ b W,Rd W b s 0→Calls Tryz.prog fr #[.agg #[.pointer (some ⟨b,0,none⟩)]] W fun e w'=>∃ x,e=.returned (.agg (val x).toArray)∧PX x∧OW w' W.heap.size x∧Rd w' b l' E'∧But b W w') →
   Hid (E2=0→∀ x W B,PX x→OW W B x→CB fm #[.agg (val x).toArray] W q1)→Hid (∀ W W' B b x,OW W B x→But b W W'→b<B→OW W' B x)→Hid (∀ W B B' x,OW W B x→B'≤B→OW W B' x) →
   (∃ W,W=(w.alloc (.cells Z.toArray T)).alloc (.cells Z.toArray T)∧Hid (Box W (w.heap.size+1) Z)∧Hid (Box W w.heap.size Z)∧Below w.heap.size w W∧W.heap.size=w.heap.size+2) →
   Hid (∀ (W:World) x,∃ W1,W1=W.alloc (.cells (val x).toArray T)∧Hid (Box W1 W.heap.size (val x))∧W1.heap.size=W.heap.size+1)→Hid (Tryz.prog.funcs[F]?=some fd)→Hid (fd.ntmps=nt)→Hid (fd.results=rr) →
   Calls Tryz.prog F #[s,.func (.func fr) #[] #[],.func (.func fm) #[] #[]] w fun e w'=>(ok=true∧∃ x,e=.returned (VV x)∧PX x∧OW w' w.heap.size x∧Below w.heap.size w w')∨(ok=false∧e=.returned ZV∧Below w.heap.size w w'):=by
   intro E2 PX OW ok q1 ZV VV hs HE2 K1 K2 K3 HZV HVV RD MAY OB OS HW AX GF GN GR;have hl:s.length≤maxLen:=Nat.le_trans hs (by decide);have gn:=GN.out;refine calls_of_wp GF.out rfl ?_;simp only[gn,List.size_toArray,List.length_cons,List.length_nil,Nat.reduceAdd,Nat.reduceSub,Array.replicate_succ,Array.replicate_zero,List.push_toArray,List.append_toArray,List.nil_append,List.cons_append];clear gn;go_upto_region 2 with (fail)
   obtain ⟨W,hW,B8,B6,hb,hs⟩:=HW;rw[← hW];obtain ⟨r8,h8⟩:=nm (w.heap.size+1);rw[← h8] at B8 ⊢;obtain ⟨r6,h6⟩:=nm w.heap.size;rw[← h6] at B6 ⊢;replace hs:=hid hs;replace h8:=hid h8;replace h6:=hid h6;clear hW;go_wp2_with fail
   refine (new_any s W hl).mono ?_;rintro e w1 ⟨rfl,R,k1⟩;obtain ⟨b,hbb⟩:=nm W.heap.size;rw[← hbb] at R k1 ⊢;have hb1:=R.lt;replace B8:=hid (B8.out.below (by rw[← hbb];exact k1));replace B6:=hid (B6.out.below (by rw[← hbb];exact k1));replace hb:Below w.heap.size w w1:=bstep hb (by rw[← hbb];exact k1);replace hbb:=hid hbb;replace hb1:=hid hb1;clear k1;go_upto_region 3 with (fail)
   obtain ⟨w2,hw2⟩:=nm (w1.alloc (.cells #[.pointer (some ⟨b,0,none⟩)] 124));rw[← hw2];have B9:Box w2 w1.heap.size [.pointer (some ⟨b,0,none⟩)]:=by rw[hw2];exact Box.new w1 [.pointer (some ⟨b,0,none⟩)] 124 (by simp)
   obtain ⟨r9,h9⟩:=nm w1.heap.size;rw[← h9] at B9 ⊢;have s2:w2.heap.size=r9+1:=by rw[hw2,h9];simp
   replace R:Rd w2 b s 0:=by rw[hw2];exact R.alloc _
   replace B8:=hid (show Box w2 r8 _ by rw[hw2];exact B8.out.alloc _);replace B6:=hid (show Box w2 r6 _ by rw[hw2];exact B6.out.alloc _);replace hb:Below w.heap.size w w2:=by rw[hw2];exact balloc hb _
   have n1:r6≠b∧r8≠b∧r9≠b∧b<r9∧r6<r9∧w.heap.size≤b∧w.heap.size≤r6∧w.heap.size≤w2.heap.size∧r8≠r6∧r6<w2.heap.size∧b<w2.heap.size:=by have:=hs.out;have:=h8.out;have:=h6.out;have:=hbb.out;have:=hb1.out;omega
   have NN:=hid n1;clear n1 hbb h6 h8 h9 hs hb1 hw2;have p0:=B9.at 0 _ rfl;go_wp2_with fail
   refine (RD.out b _ R).mono ?_;rintro e w3 ⟨x,rfl,hx,ox,R1,k1⟩;replace B8:=hid (B8.out.but k1 NN.out.2.1);replace B6:=hid (B6.out.but k1 NN.out.1);replace B9:=B9.but k1 NN.out.2.2.1;replace hb:=But.below hb k1 NN.out.2.2.2.2.2.1 NN.out.2.2.2.2.2.2.2.1;have s3:=k1.size;clear p0 k1;have HX:=hid hx;clear hx R;go_upto_region 4 with (fail)
   obtain ⟨w4,hw4,BX,s4⟩:=AX.out w3 x;rw[← hw4];obtain ⟨rx,hrx⟩:=nm w3.heap.size;rw[← hrx] at BX ⊢;have R:=(by rw[hw4];exact R1.alloc _:Rd w4 b _ _)
   replace B8:=hid (show Box w4 r8 _ by rw[hw4];exact B8.out.alloc _);replace B6:=hid (show Box w4 r6 _ by rw[hw4];exact B6.out.alloc _);replace B9:=(show Box w4 r9 _ by rw[hw4];exact B9.alloc _)
   replace hb:Below w.heap.size w w4:=by rw[hw4];exact balloc hb _
   replace ox:OW w4 w2.heap.size x:=by rw[hw4];exact OB.out _ _ _ _ _ ox ((But.refl b w3).alloc _) NN.out.2.2.2.2.2.2.2.2.2.2
   have N2:Hid (rx≠b∧w.heap.size≤w4.heap.size):=hid (by have:=NN.out;omega);clear hrx hw4 R1 s3 s2 s4;have p0:=B9.at 0 _ rfl;go_wp2_with fail
   refine (end_any b _ _ _ R _ HE2.out).mono ?_;rintro e w5 ⟨rfl,R1,k1⟩;clear p0;replace B8:=hid (B8.out.but k1 NN.out.2.1);replace B6:=hid (B6.out.but k1 NN.out.1);replace BX:=hid (BX.out.but k1 N2.out.1);replace hb:=But.below hb k1 NN.out.2.2.2.2.2.1 N2.out.2;replace ox:=hid (OB.out _ _ _ _ _ ox k1 NN.out.2.2.2.2.2.2.2.2.2.2);clear k1 R1 B9 R;have z:=B6.out.2.2;by_cases hE:E2=0;rotate_left
   ·have d1:(E2 == 0)=false:=by rw[beq_eq_false_iff_ne];exact hE
    have d2:(E2 != 0)=true:=by rw[bne_iff_ne];exact hE
    have HO:=hid (K1.out hE);first
    | (obtain ⟨c0,c1,c2,c3,c4,c5,c6⟩:=al7 B8.out.at;obtain ⟨y0,y1,y2,y3,y4,y5,y6⟩:=al7 B6.out.at;go_wp2;refine bodyPost_ret (v:=ZV) (by rw[HZV.out];simp[results,GR.out,go_sem,y0,y1,y2,y3,y4,y5,y6]) rfl ?_)
    | (obtain ⟨c0,c1,c2,c3⟩:=al4 B8.out.at;obtain ⟨y0,y1,y2,y3⟩:=al4 B6.out.at;go_wp2;refine bodyPost_ret (v:=ZV) (by rw[HZV.out];simp[results,GR.out,go_sem,y0,y1,y2,y3]) rfl ?_)
    | (obtain ⟨c0,c1,c2⟩:=al3 B8.out.at;obtain ⟨y0,y1,y2⟩:=al3 B6.out.at;go_wp2;refine bodyPost_ret (v:=ZV) (by rw[HZV.out];simp[results,GR.out,go_sem,y0,y1,y2]) rfl ?_)
    exact .inr ⟨HO.out,rfl,(by repeat (first | refine bset ?_ NN.out.2.2.2.2.2.2.1 _ | exact hb))⟩
   subst hE;clear z;first | obtain ⟨x0,x1,x2,x3,x4,x5,x6⟩:=al7 BX.out.at | obtain ⟨x0,x1,x2,x3⟩:=al4 BX.out.at | obtain ⟨x0,x1,x2⟩:=al3 BX.out.at
   go_wp2_with fail
   refine cr (MAY.out (by simp) x _ _ HX.out ox.out) fun w6 k1=>?_;try clear x6 x5 x4
   try clear x3
   clear x2 x1 x0;replace B8:=hid (B8.out.below k1);replace B6:=hid (B6.out.below k1);replace BX:=hid (BX.out.below k1);replace hb:=bstep hb k1;replace ox:=hid (OB.out _ _ _ _ _ ox.out (But.of k1) NN.out.2.2.2.2.2.2.2.2.2.2);clear k1;have z:=B6.out.2.2;cases q1
   ·
    have HO:=hid (K2.out (by simp));first
    | (obtain ⟨c0,c1,c2,c3,c4,c5,c6⟩:=al7 B8.out.at;obtain ⟨y0,y1,y2,y3,y4,y5,y6⟩:=al7 B6.out.at;go_wp2;refine bodyPost_ret (v:=ZV) (by rw[HZV.out];simp[results,GR.out,go_sem,y0,y1,y2,y3,y4,y5,y6]) rfl ?_)
    | (obtain ⟨c0,c1,c2,c3⟩:=al4 B8.out.at;obtain ⟨y0,y1,y2,y3⟩:=al4 B6.out.at;go_wp2;refine bodyPost_ret (v:=ZV) (by rw[HZV.out];simp[results,GR.out,go_sem,y0,y1,y2,y3]) rfl ?_)
    | (obtain ⟨c0,c1,c2⟩:=al3 B8.out.at;obtain ⟨y0,y1,y2⟩:=al3 B6.out.at;go_wp2;refine bodyPost_ret (v:=ZV) (by rw[HZV.out];simp[results,GR.out,go_sem,y0,y1,y2]) rfl ?_)
    exact .inr ⟨HO.out,rfl,(by repeat (first | refine bset ?_ NN.out.2.2.2.2.2.2.1 _ | exact hb))⟩
   have HO:=hid (K3.out (by simp) (by simp));first
   | (obtain ⟨c0,c1,c2,c3,c4,c5,c6⟩:=al7 BX.out.at;obtain ⟨y0,y1,y2,y3,y4,y5,y6⟩:=al7 B6.out.at;go_wp2;refine bodyPost_ret (v:=VV x) (by rw[HVV.out];simp[results,GR.out,go_sem,y0,y1,y2,y3,y4,y5,y6]) rfl ?_)
   | (obtain ⟨c0,c1,c2,c3⟩:=al4 BX.out.at;obtain ⟨y0,y1,y2,y3⟩:=al4 B6.out.at;go_wp2;refine bodyPost_ret (v:=VV x) (by rw[HVV.out];simp[results,GR.out,go_sem,y0,y1,y2,y3]) rfl ?_)
   | (obtain ⟨c0,c1,c2⟩:=al3 BX.out.at;obtain ⟨y0,y1,y2⟩:=al3 B6.out.at;go_wp2;refine bodyPost_ret (v:=VV x) (by rw[HVV.out];simp[results,GR.out,go_sem,y0,y1,y2]) rfl ?_)
   exact .inl ⟨HO.out,x,rfl,HX.out,OS.out _ _ _ _ (OB.out _ _ _ r6 _ ox.out (by repeat (first | refine But.set ?_ _ (by rfl) _ | exact But.refl _ _)) NN.out.2.2.2.2.2.2.2.2.2.1) NN.out.2.2.2.2.2.2.2.1,(by repeat (first | refine bset ?_ NN.out.2.2.2.2.2.2.1 _ | exact hb))⟩) :
  Calls Tryz.prog F #[s,.func (.func fr) #[] #[],.func (.func fm) #[] #[]] w fun e w'=>(okS l' E' q=true∧∃ x,e=.returned (.tuple #[.agg (val x).toArray,.int .i64 0])∧PX x∧OW w' w.heap.size x∧Below w.heap.size w w')∨(okS l' E' q=false∧e=.returned (.tuple #[.agg Z.toArray,.int .i64 8])∧Below w.heap.size w w'):=by
 refine (script _ PX OW (okS l' E' q) q _ _ hs (hid rfl) (hid fun h=>?_) (hid fun h=>?_) (hid fun h h1=>?_) (hid rfl) (hid fun x=>rfl) (hid read) (hid may) (hid ob) (hid obase) ⟨_,rfl,?_,(Box.new w Z T hZ).alloc _,balloc (balloc (Below.refl _ _) _) _,by simp⟩ (hid fun W x=>⟨_,rfl,Box.new W (val x) T (hv x),by simp⟩) (hid GF) (hid GN) (hid GR)).mono ?_
 · unfold okS;rw[decide_eq_false h];rfl
 · unfold okS;rw[h,Bool.and_false]
 · unfold okS;rw[decide_eq_true h,h1];rfl
 ·have q:=Box.new (w.alloc (.cells Z.toArray T)) Z T hZ;rw[World.size_alloc] at q;exact q
 exact fun e w' h=>h
theorem whole_entry (s:List UInt8) (w:World) (hz:s.length≤65536) (y:Coder.E) (l':List UInt8) (E':Int) (hn:entryS s 0=(y,l',E')) :
  Calls Tryz.prog 65 #[s,.func (.func 66) #[] #[],.func (.func 37) #[] #[]] w fun e w'=>∃ x:RE,e=.returned (.tuple #[.agg x,.int .i64 (errS (okS l' E' (mayE y)))])∧x.e=pickS (okS l' E' (mayE y)) y RE.zero.e∧OwnE w' w.heap.size x∧x.Ok∧Below w.heap.size w w':=by
 have HFY:=entry_fit hz hn;refine (wholeT (fun x:RE=>x) [.string ⟨#[]⟩,.slice none 0 0,.slice none 0 0,.slice none 0 0,.int .u64 0,.string ⟨#[]⟩,.bool false] 29 (by simp) (fun _=>by simp) (fun x=>x.e=y) (fun W B x=>OwnE W B x) Tryz.func65 Tryz.ntmps65 Tryz.results65 (q:=mayE y) hz
  (fun b W h=>(entry_any b s 0 W h (by omega) y l' E' hn).mono fun e w' ⟨x,h1,h2,h3,h4⟩=>⟨x,h1,h2,h3,h4⟩)
  (fun _ x W B hx ox=>hx ▸ mayE_any x W ox.inner (FitE.ok (x:=x) (by rw[hx];exact HFY)) (FitE.fine (y:=x.e) (by rw[hx];exact HFY))) (fun _ _ _ _ _ o k hb=>o.but k hb) (fun _ _ _ _ o hB=>o.base hB)).mono ?_
 rintro e w' (⟨h,x,rfl,rfl,ho,hb⟩ | ⟨h,rfl,hb⟩)
 · rw[h];exact ⟨x,rfl,rfl,ho,FitE.ok HFY,hb⟩
 rw[h];exact ⟨RE.zero,rfl,rfl,own_zero _ _,ok_zero,hb⟩
theorem readT {β:Type} (val:β→List Value) (Z:List Value) (T:TypeId) (hZ:Z≠[]) (PX:β→Prop) (OW:World→Nat→β→Prop) {F Fw fr fm:FuncId} {fd:Func} {nt:Nat} {rr:Array ResultVar} (GF:Tryz.prog.funcs[F]?=some fd) (GN:fd.ntmps=nt) (GR:fd.results=rr) {s:List UInt8} {k:Int} {w:World}
  (wh:∀ W,Calls Tryz.prog Fw #[s,.func (.func fr) #[] #[],.func (.func fm) #[] #[]] W fun e w'=>∃ x,e=.returned (.tuple #[.agg (val x).toArray,.int .i64 k])∧PX x∧OW w' W.heap.size x∧Below W.heap.size W w')
  (ob:∀ W W' B b x,OW W B x→But b W W'→b<B→OW W' B x) (obase:∀ W B B' x,OW W B x→B'≤B→OW W B' x)
  (script:∀ (PX:β→Prop) (OW:World→Nat→β→Prop) (VV:β→Value),Hid (∀ x,VV x=.tuple #[.agg (val x).toArray,.int .i64 k]) →
   Hid (∀ W,Calls Tryz.prog Fw #[s,.func (.func fr) #[] #[],.func (.func fm) #[] #[]] W fun e w'=>∃ x,e=.returned (.tuple #[.agg (val x).toArray,.int .i64 k])∧PX x∧OW w' W.heap.size x∧Below W.heap.size W w') →
   Hid (∀ W W' B b x,OW W B x→But b W W'→b<B→OW W' B x)→Hid (∀ W B B' x,OW W B x→B'≤B→OW W B' x)→(∃ W,W=w.alloc (.cells Z.toArray T)∧Box W w.heap.size Z∧Below w.heap.size w W∧W.heap.size=w.heap.size+1)→Hid (Tryz.prog.funcs[F]?=some fd)→Hid (fd.ntmps=nt)→Hid (fd.results=rr) →
   Calls Tryz.prog F #[s] w fun e w'=>∃ x,e=.returned (VV x)∧PX x∧OW w' w.heap.size x∧Below w.heap.size w w':=by
   intro PX OW VV HVV WH OB OS HW GF GN GR;have gn:=GN.out;refine calls_of_wp GF.out rfl ?_;simp only[gn,List.size_toArray,List.length_cons,List.length_nil,Nat.reduceAdd,Nat.reduceSub,Array.replicate_succ,Array.replicate_zero,List.push_toArray,List.append_toArray,List.nil_append,List.cons_append];clear gn;go_upto_region 1 with (fail)
   obtain ⟨W,hW,B6,hb,hs⟩:=HW;rw[← hW];obtain ⟨r6,h6⟩:=nm w.heap.size;rw[← h6] at B6 ⊢;have NN:Hid (w.heap.size≤r6∧r6<W.heap.size∧w.heap.size≤W.heap.size):=hid (by omega);clear h6 hW hs;go_wp2_with fail
   refine (WH.out _).mono ?_;rintro e w1 ⟨x,rfl,hx,hi,k1⟩;replace B6:=B6.below k1;replace hb:=bstep hb k1;clear k1;have HI:=hid hi;have HX:=hid hx;clear hi hx;have z:=B6.2.2;first
    | (obtain ⟨y0,y1,y2,y3,y4,y5,y6⟩:=al7 B6.at;go_wp2;refine bodyPost_ret (v:=VV x) (by rw[HVV.out];simp[results,GR.out,go_sem,y0,y1,y2,y3,y4,y5,y6]) rfl ?_)
    | (obtain ⟨y0,y1,y2,y3⟩:=al4 B6.at;go_wp2;refine bodyPost_ret (v:=VV x) (by rw[HVV.out];simp[results,GR.out,go_sem,y0,y1,y2,y3]) rfl ?_)
    | (obtain ⟨y0,y1,y2⟩:=al3 B6.at;go_wp2;refine bodyPost_ret (v:=VV x) (by rw[HVV.out];simp[results,GR.out,go_sem,y0,y1,y2]) rfl ?_)
   exact ⟨x,rfl,HX.out,OS.out _ _ _ _ (OB.out _ _ _ r6 _ HI.out (by repeat (first | refine But.set ?_ _ (by rfl) _ | exact But.refl _ _)) NN.out.2.1) NN.out.2.2,(by repeat (first | refine bset ?_ NN.out.1 _ | exact hb))⟩) :
  Calls Tryz.prog F #[s] w fun e w'=>∃ x,e=.returned (.tuple #[.agg (val x).toArray,.int .i64 k])∧PX x∧OW w' w.heap.size x∧Below w.heap.size w w' :=
 script PX OW _ (hid fun _=>rfl) (hid wh) (hid ob) (hid obase) ⟨_,rfl,Box.new w Z T hZ,balloc (Below.refl _ _) _,by simp⟩ (hid GF) (hid GN) (hid GR)
theorem read_entry (s:List UInt8) (w:World) (hz:s.length≤65536) (y:Coder.E) (l':List UInt8) (E':Int) (hn:entryS s 0=(y,l',E')) :
  Calls Tryz.prog 19 #[s] w fun e w'=>∃ x:RE,e=.returned (.tuple #[.agg x,.int .i64 (errS (okS l' E' (mayE y)))])∧x.e=pickS (okS l' E' (mayE y)) y RE.zero.e∧OwnE w' w.heap.size x∧x.Ok∧Below w.heap.size w w':=by
 refine (readT (fun x:RE=>x) [.string ⟨#[]⟩,.slice none 0 0,.slice none 0 0,.slice none 0 0,.int .u64 0,.string ⟨#[]⟩,.bool false] 29 (by simp) (fun x=>x.e=pickS (okS l' E' (mayE y)) y RE.zero.e∧x.Ok) (fun W B x=>OwnE W B x) Tryz.func19 Tryz.ntmps19 Tryz.results19
  (fun W=>(whole_entry s W hz y l' E' hn).mono fun e w' ⟨x,h1,h2,h3,h4,h5⟩=>⟨x,h1,⟨h2,h4⟩,h3,h5⟩) (fun _ _ _ _ _ o k hb=>o.but k hb) (fun _ _ _ _ o hB=>o.base hB)).mono ?_
 exact fun e w' ⟨x,h1,h2,h3,h4⟩=>⟨x,h1,h2.1,h3,h2.2,h4⟩
theorem whole_op (s:List UInt8) (w:World) (hz:s.length≤65536) (y:O) (l':List UInt8) (E':Int) (hn:opS s 0=(y,l',E')) :
  Calls Tryz.prog 83 #[s,.func (.func 84) #[] #[],.func (.func 59) #[] #[]] w fun e w'=>∃ x:O,e=.returned (.tuple #[.agg x,.int .i64 (errS (okS l' E' (mayO y)))])∧x=pickS (okS l' E' (mayO y)) y ⟨0,[],0,[]⟩∧Below w.heap.size w w':=by
 have HFY:Hid (y.k.length≤1048576):=hid (by
  obtain ⟨x0,l0,E0,q0⟩:=tr (smallS s 0);obtain ⟨x1,l1,E1,q1⟩:=tr (wordS l0 E0);simp only[opS,bindR,q0,q1,Prod.mk.injEq] at hn;rw[← hn.1];have:=word_len q1;show x1.length≤_
  omega)
 refine (wholeT (fun x:O=>x) [.int .u8 0,.string ⟨#[]⟩,.int .i64 0,.string ⟨#[]⟩] 38 (by simp) (fun _=>by simp) (fun x=>x=y) (fun _ _ _=>True) Tryz.func83 Tryz.ntmps83 Tryz.results83 (q:=mayO y) hz
  (fun b W h=>(op_any b s 0 W h y l' E' hn).mono fun e w' ⟨h1,h2⟩=>⟨y,h1,rfl,trivial,h2⟩)
  (fun _ x W B hx _=>hx ▸ mayO_any x.d x.k x.n x.t W (by rw[hx];exact HFY.out)) (fun _ _ _ _ _ _ _ _=>trivial) (fun _ _ _ _ _ _=>trivial)).mono ?_
 rintro e w' (⟨h,x,rfl,rfl,-,hb⟩ | ⟨h,rfl,hb⟩)
 · rw[h];exact ⟨x,rfl,rfl,hb⟩
 rw[h];exact ⟨_,rfl,rfl,hb⟩
theorem read_op (s:List UInt8) (w:World) (hz:s.length≤65536) (y:O) (l':List UInt8) (E':Int) (hn:opS s 0=(y,l',E')) :
  Calls Tryz.prog 31 #[s] w fun e w'=>∃ x:O,e=.returned (.tuple #[.agg x,.int .i64 (errS (okS l' E' (mayO y)))])∧x=pickS (okS l' E' (mayO y)) y ⟨0,[],0,[]⟩∧Below w.heap.size w w':=by
 refine (readT (fun x:O=>x) [.int .u8 0,.string ⟨#[]⟩,.int .i64 0,.string ⟨#[]⟩] 38 (by simp) (fun x=>x=pickS (okS l' E' (mayO y)) y ⟨0,[],0,[]⟩) (fun _ _ _=>True) Tryz.func31 Tryz.ntmps31 Tryz.results31
  (fun W=>(whole_op s W hz y l' E' hn).mono fun e w' ⟨x,h1,h2,h3⟩=>⟨x,h1,h2,trivial,h3⟩) (fun _ _ _ _ _ _ _ _=>trivial) (fun _ _ _ _ _ _=>trivial)).mono ?_
 exact fun e w' ⟨x,h1,h2,_,h4⟩=>⟨x,h1,h2,h4⟩
end Taker
namespace Coder
open RowKit YtnpjkmomllkhpaaGreatDoor.Mark Num Wire Bag Dots
structure RE.Few (x:RE):Prop where
 k:x.k.length≤1024
 s:x.s.length≤60
 c:x.c.length≤60
 i:BagLaw.wt (x.j.map RI.it)≤400
 t:x.l.t.length≤8192
structure RS.Few (x:RS):Prop where
 a:x.a.length≤60
 e:x.e.length≤20
 em:∀ y ∈ x.e,y.Few
 p:x.p.length≤60
 pm:∀ t ∈ x.p,t.length≤256
end Coder
end Go.Proofs.YtnpjkmomllkhpaaGreatDoor
