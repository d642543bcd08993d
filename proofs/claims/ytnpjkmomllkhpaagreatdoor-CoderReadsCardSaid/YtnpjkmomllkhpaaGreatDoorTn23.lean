/- BagMay, BagRef, BagSame, BagWt, CoderMays, BagMayLaw, RefMayB. -/
import Derived.Test.YtnpjkmomllkhpaaGreatDoorTn19
import Derived.Test.YtnpjkmomllkhpaaGreatDoorTn22
set_option linter.unusedVariables false
set_option linter.unusedSimpArgs false
set_option maxRecDepth 100000
set_option maxHeartbeats 8000000
namespace Go.Proofs.YtnpjkmomllkhpaaGreatDoor
namespace Bag
open RowKit Go.Maps YtnpjkmomllkhpaaGreatDoor.Mark Dots
def badI (o:Option (List UInt8)) (x:It):Bool:=(match o with | none=>false | some p => !(decide (TL p x.t))) || (decide (4096<x.t.length) || decide (x.d.length=0))
def beh (o:Option M) (m:M):Bool:=match o with | none=>false | some q => !(decide (DL q m))
def badD (o:Option M) (m:M):Bool:=decide (m.p=[]) || (decide (m.n<1) || (decide (281474976710656<m.n) || beh o m))
def dotsGo (s:List M) (o:Option M):List M→Bool
 | []=>true
 | m::r => !(badD o m) && (!(decide (m ∈ s)) && dotsGo (s++[m]) (some m) r)
def mayGo (s:List M) (o:Option (List UInt8)):List It→Bool
 | []=>true
 | x::r => !(badI o x) && (dotsGo s none x.d && mayGo (s++x.d) (some x.t) r)
def mayB (L:List It):Bool:=mayGo [] none L
def pT (L:List It) (k:Nat):Option (List UInt8):=if k=0 then none else (L[k - 1]?).map It.t
def pM (d:List M) (k:Nat):Option M:=if k=0 then none else d[k - 1]?
theorem pT_next {L:List It} {k:Nat} (h:k<L.length):pT L (k+1)=some L[k].t:=by
 unfold pT;rw[if_neg (by omega),Nat.add_sub_cancel,List.getElem?_eq_getElem h];rfl
theorem pM_next {d:List M} {k:Nat} (h:k<d.length):pM d (k+1)=some d[k]:=by
 unfold pM;rw[if_neg (by omega),Nat.add_sub_cancel,List.getElem?_eq_getElem h]
theorem may_step (s:List M) {L:List It} {k:Nat} (h:k<L.length):mayGo s (pT L k) (L.drop k)=(!(badI (pT L k) L[k]) && (dotsGo s none L[k].d && mayGo (s++L[k].d) (pT L (k+1)) (L.drop (k+1)))):=by
 rw[List.drop_eq_getElem_cons h,mayGo,pT_next h]
theorem dots_step (s:List M) {d:List M} {k:Nat} (h:k<d.length):dotsGo s (pM d k) (d.drop k)=(!(badD (pM d k) d[k]) && (!(decide (d[k] ∈ s)) && dotsGo (s++[d[k]]) (pM d (k+1)) (d.drop (k+1)))):=by
 rw[List.drop_eq_getElem_cons h,dotsGo,pM_next h]
theorem ways_less {a b:List UInt8} (h:TL a b):Op.bytesLess a b=true∧Op.bytesLess b a=false∧(a == b)=false∧(b == a)=false:=by
 have h1:=tl_lt h;have hne:a≠b:=fun e=>by rw[e] at h1;exact List.lt_irrefl b h1
 refine ⟨by rw[Go.Proofs.bytesLess_eq];exact decide_eq_true h1,by rw[Go.Proofs.bytesLess_eq];exact decide_eq_false (fun h2=>List.lt_irrefl a (List.lt_trans h1 h2)),by simpa using hne,by simpa using fun e=>hne e.symm⟩
theorem less_self (a:List UInt8):Op.bytesLess a a=false:=by rw[Go.Proofs.bytesLess_eq];exact decide_eq_false (List.lt_irrefl a)
theorem tl_ways (a b:List UInt8):TL a b∨a=b∨TL b a:=by
 unfold TL;rcases Order.cmp_ways a b with h | h | h
 · exact .inl h
 · exact .inr (.inl (Order.cmp_zero _ _ h))
 refine .inr (.inr ?_);rw[Order.cmp_flip,h]
theorem not_dl (a b:M):(!(decide (DL a b)))=decide ((0:Int)≤cmpD a b):=by
 rcases Bag.cmpD_ways a b with h | ⟨h,-⟩ | ⟨h,-,-⟩
 · rw[decide_eq_true (show DL a b from h),h];rfl
 · rw[decide_eq_false (show ¬ DL a b by unfold DL;rw[h];decide),h];rfl
 rw[decide_eq_false (show ¬ DL a b by unfold DL;rw[h];decide),h];rfl
def DS (w:World) (b n:Nat) (V:List M):Prop:=KMap.Is dotsC w b n (setF V)
theorem DS.put {w:World} {b n:Nat} {V:List M} {x:M} (h:KMap.Is dotsC w b (n+1) (KMap.put (setF V) x unit)):DS w b (n+1) (V++[x]):=KMap.Is.ext h fun p=>setF_put V x p
theorem may_any (L:List It) (a:Option Addr) (n c:Nat) (w:World) (hL:Lies w a n L) (hf:Fine L) :
  CB 93 #[.slice a n c] w (mayB L):=by
 obtain ⟨J,rfl,hJ,hD⟩:=hL;have hn:=hJ.1;have HN:=hid hn;have HJ:=hid hJ;have HD:=hid hD;have HF:=hid hf;have hmm:=@run_makeMap Tryz.prog;clear hJ hD hf hn;go_enter Tryz.func93,Tryz.ntmps93;go_upto_region 2 with (fail)
 have P0:DS (w.alloc (.map #[] 0)) w.heap.size 0 []:=KMap.Is.ext (KMap.Is.made dotsC w) (fun _=>rfl);have hb:=balloc (Below.refl w.heap.size w) (.map #[] 0);obtain ⟨mb,hmb⟩:=nm w.heap.size;have HMB:Hid (w.heap.size≤mb):=hid (by omega);obtain ⟨w1,hw1⟩:=nm (w.alloc (.map #[] 0));rw[← hmb,← hw1] at P0;rw[← hw1] at hb ⊢;rw[← hmb];have PP:=hid P0;have HM:Hid (mayB (J.map RI.it)=mayGo [] (pT (J.map RI.it) 0) ((J.map RI.it).drop 0)):=hid rfl;have HV0:Hid (([]:List M).length≤(pls ((J.map RI.it).take 0)).length):=hid (Nat.zero_le _);clear P0 hmb hw1;go_wp2_with fail
 go_loopw [13] (fun iv wr=>∃ (i:Nat) (V:List M),i≤n∧iv=.int .i64 i∧Hid (DS wr mb V.length V)∧Hid (mayB (J.map RI.it)=mayGo V (pT (J.map RI.it) i) ((J.map RI.it).drop i))∧Hid (V.length≤(pls ((J.map RI.it).take i)).length)∧Below w.heap.size w wr) (fun iv _=>n - (intOf iv).toNat)
 case atStart=>exact ⟨0,[],by omega,rfl,PP,HM,HV0,hb⟩
 clear PP HM HV0 hb;obtain ⟨i,V,hi,rfl,PP,HM,HVL,hb⟩:=hrel;by_cases hlt:i<n;rotate_left
 ·obtain rfl:i=n:=by omega
  have d1:=dF (p:=(i:Int)<(i:Int));have HE:Hid (mayB (J.map RI.it)=true):=hid (by
   rw[HM.out,List.drop_eq_nil_of_le (by rw[List.length_map];have:=HN.out;omega)];rfl)
  go_wp2;go_ret;exact ⟨by rw[HE.out];rfl,hb⟩
 have d1:=dT (p:=(i:Int)<(n:Int));have j1:(0:Int)≤(i:Int):=by omega
 have j2:(i:Int)<(n:Int):=by omega
 have hil:i<J.length:=by have:=HN.out;omega
 obtain ⟨b,o,rfl,hc⟩:=items_at (HJ.out.below hb) (by omega);obtain ⟨c0,c1⟩:=hc i hil;have hdx:=HD.out _ (List.getElem_mem hil);have hml:i<(J.map RI.it).length:=by rw[List.length_map];exact hil
 have hts:=pls_take hml;obtain ⟨hsl,hsm⟩:=pls_sub hml;have hms:=may_step V hml;rw[← HM.out] at hms;rw[List.getElem_map] at hts hsl hsm hms;have HPV:Hid (∀ k',i=k'+1→∃ pv,pT (J.map RI.it) i=some pv∧wr.cell? ⟨b,o+k'*2,none⟩=some ↑pv):=hid (fun k' hk=>by
  subst hk;have hkl:k'<J.length:=by omega
  refine ⟨J[k'].t,?_,(hc k' hkl).1⟩;rw[pT_next (by rw[List.length_map];exact hkl),List.getElem_map];rfl)
 obtain ⟨x,hx⟩:=nm J[i];rw[← hx] at c0 c1 hdx hts hsl hsm hms;have HTS:=hid hts;have HFM:Hid (∀ m ∈ x.d,(⟨x.t,m⟩:Pl).fine):=hid (fun m hm=>HF.out.fine _ (hsm m hm));have HLN:Hid (V.length+x.d.length≤1099511627776):=hid (by have:=HVL.out;have:=HF.out.few;simp only[RI.it] at hsl;omega);have HDX:=hid hdx;have HI:=hid hlt;have HML:Hid (mayB (J.map RI.it)=(!(badI (pT (J.map RI.it) i) x.it) && (dotsGo V none x.d && mayGo (V++x.d) (pT (J.map RI.it) (i+1)) ((J.map RI.it).drop (i+1))))):=hid hms;obtain ⟨t,xa,xc,d⟩:=x;simp only[RI.it] at HTS HML;unfold Inner at HDX;simp only at c0 c1 HDX HFM HLN HTS HML;obtain ⟨nd,hnd⟩:=nm d.length;rw[← hnd] at c1 HDX HLN;have HND:=hid hnd;have HVN:Hid (V.length+nd≤(pls ((J.map RI.it).take (i+1))).length):=hid (by rw[HTS.out,List.length_append,onT_len];have:=HVL.out;have:=HND.out;omega);clear hc hts hsl hsm hx hdx hml hil hlt hnd hms HM HTS HVL;go_upto_region 5 with (fail)
 have kS:=balloc (Below.refl wr.heap.size wr) (.cells #[t,.slice xa nd xc] 155);have s0:(wr.alloc (.cells #[t,.slice xa nd xc] 155)).cell? ⟨wr.heap.size,0,none⟩=some ↑t:=by rw[World.cell?_alloc_new];rfl
 have s1:(wr.alloc (.cells #[t,.slice xa nd xc] 155)).cell? ⟨wr.heap.size,1,none⟩=some (.slice xa nd xc):=by rw[World.cell?_alloc_new];rfl
 have PQ:Hid (DS (wr.alloc (.cells #[t,.slice xa nd xc] 155)) mb V.length V):=hid (KMap.Is.alloc PP.out (.cells #[t,.slice xa nd xc] 155));obtain ⟨sb,hsb⟩:=nm wr.heap.size;have HSB:Hid (sb≠mb):=hid (by have:=KMap.Is.lt PP.out;omega);obtain ⟨ws,hws⟩:=nm (wr.alloc (.cells #[t,.slice xa nd xc] 155));rw[← hws] at kS s0 s1 PQ ⊢;rw[← hsb] at s0 s1 ⊢;replace HPV:Hid (∀ k',i=k'+1→∃ pv,pT (J.map RI.it) i=some pv∧ws.cell? ⟨b,o+k'*2,none⟩=some ↑pv):=hid (fun k' hk=>by
  obtain ⟨pv,h1,h2⟩:=HPV.out k' hk;exact ⟨pv,h1,Dots.keepC h2 kS⟩)
 replace hb:=bstep hb kS;obtain ⟨o',ho'⟩:=nm (pT (J.map RI.it) i);rw[← ho'] at HML;have HO':=hid ho';have hnb:n≤9223372036854775807:=by have:=HN.out;have:=HF.out.items;rw[List.length_map] at this;omega
 have HTLN:Hid (⟨t,d⟩=(⟨t,d⟩:It)):=hid rfl;clear kS hsb hws c0 c1 PP ho';go_cut [42] (fun zv wx=>zv=.bool (badI o' ⟨t,d⟩)∧Hid (DS wx mb V.length V)∧wx.cell? ⟨sb,1,none⟩=some (.slice xa nd xc)∧Below w.heap.size w wx)
 case first =>
  obtain ⟨tn,htn⟩:=nm t.length;clear htn tn;by_cases hi0:i=0
  ·have z1:decide ((0:Int)<(i:Int))=false:=dF;have z1n:=dF (p:=0<i);have z2:o'=none:=by rw[HO'.out,hi0];rfl
   have Z2:=hid z2;clear z2 hi0 HPV;by_cases hlong:4096<t.length
   ·have e1:decide ((4096:Int)<(t.length:Int))=true:=dT;have HZ:Hid (badI o' ⟨t,d⟩=true):=hid (by unfold badI;rw[decide_eq_true (show 4096<(⟨t,d⟩:It).t.length from hlong)];simp);clear hlong;go_wp2_with fail
    refine rhd (aj2 s0 s1) fun gH=>?_;refine tk (.range 25) ?_;refine tD ?_;clear gH;go_wp2_with fail
    go_meet;exact ⟨by rw[HZ.out],hid (KMap.Is.below PQ.out (Below.drew (Below.refl _ _))),Dots.keepC s1 (Below.drew (Below.refl _ _)),Below.drew hb⟩
   have e1:=dF (p:=(4096:Int)<(t.length:Int));have HZ:Hid (badI o' ⟨t,d⟩=((nd:Int) == 0)):=hid (by
        unfold badI;rw[decide_eq_false (show ¬ 4096<(⟨t,d⟩:It).t.length from hlong),Z2.out];have h9:(⟨t,d⟩:It).d.length=nd:=HND.out.symm;rw[h9];by_cases h8:nd=0
        · subst h8;rfl
        rw[decide_eq_false h8];symm;rw[Bool.false_or,Bool.false_or,beq_eq_false_iff_ne];omega)
   clear hlong;go_wp2_with fail
   refine rhd (aj2 s0 s1) fun gH=>?_;refine tk (.range 25) ?_;refine tD ?_;clear gH;go_wp2_with fail
   go_meet;exact ⟨by rw[HZ.out],hid (KMap.Is.below PQ.out (Below.drew (Below.refl _ _))),Dots.keepC s1 (Below.drew (Below.refl _ _)),Below.drew hb⟩
  obtain ⟨k',hk'⟩:∃ k',i=k'+1:=⟨i - 1,by omega⟩
  obtain ⟨pv,hpv,hp0⟩:=HPV.out k' hk';have z1:=dT (p:=(0:Int)<(i:Int));have z1n:=dT (p:=0<i);have w1:IntKind.i64.wrap ((i:Int) - 1)=(k':Int):=by rw[IntKind.wrap_i64];omega
  have j5:(0:Int)≤(k':Int):=by omega
  have j6:(k':Int)<(n:Int):=by omega
  have z2:o'=some pv:=HO'.out.trans hpv;have Z2:=hid z2;have HK':=hid hk';clear z2 hi0 HPV hpv hk';rcases tl_ways pv t with hw | hw | hw
  ·obtain ⟨q1,q2,q3,q4⟩:=ways_less hw;have HW:=hid hw;clear hw;by_cases hlong:4096<t.length
   ·have e1:decide ((4096:Int)<(t.length:Int))=true:=dT;have HZ:Hid (badI o' ⟨t,d⟩=true):=hid (by unfold badI;rw[decide_eq_true (show 4096<(⟨t,d⟩:It).t.length from hlong)];simp);clear hlong;go_wp2_with fail
    refine rhd (aj3 s0 s1 hp0) fun gH=>?_;refine tk (.range 25) ?_;refine tD ?_;clear gH;go_wp2_with fail
    go_meet;exact ⟨by rw[HZ.out],hid (KMap.Is.below PQ.out (Below.drew (Below.refl _ _))),Dots.keepC s1 (Below.drew (Below.refl _ _)),Below.drew hb⟩
   have e1:=dF (p:=(4096:Int)<(t.length:Int));have HZ:Hid (badI o' ⟨t,d⟩=((nd:Int) == 0)):=hid (by
         unfold badI;rw[decide_eq_false (show ¬ 4096<(⟨t,d⟩:It).t.length from hlong),Z2.out,show (match some pv with | none=>false | some p => !(decide (TL p (⟨t,d⟩:It).t)))=false by show (!(decide (TL pv t)))=false;rw[decide_eq_true HW.out];rfl];have h9:(⟨t,d⟩:It).d.length=nd:=HND.out.symm;rw[h9];by_cases h8:nd=0
         · subst h8;rfl
         rw[decide_eq_false h8];symm;rw[Bool.false_or,Bool.false_or,beq_eq_false_iff_ne];omega)
   clear hlong;go_wp2_with fail
   refine rhd (aj3 s0 s1 hp0) fun gH=>?_;refine tk (.range 25) ?_;refine tD ?_;clear gH;go_wp2_with fail
   go_meet;exact ⟨by rw[HZ.out],hid (KMap.Is.below PQ.out (Below.drew (Below.refl _ _))),Dots.keepC s1 (Below.drew (Below.refl _ _)),Below.drew hb⟩
  ·
   have q1:=less_self t;have HZ:Hid (badI o' ⟨t,d⟩=true):=hid (by unfold badI;rw[Z2.out];show ((!(decide (TL pv t))) || _)=true;rw[decide_eq_false (by rw[hw];exact linT.irr t)];rfl);have q3:(pv == t)=true:=by simp[hw]
   have q4:(t == pv)=true:=by simp[hw]
   have q5:Op.bytesLess pv t=false:=by rw[hw];exact q1
   have q6:Op.bytesLess t pv=false:=by rw[hw];exact q1
   clear hw;go_wp2_with fail
   refine rhd (aj3 s0 s1 hp0) fun gH=>?_;refine tk (.range 25) ?_;refine tD ?_;clear gH;go_wp2_with fail
   go_meet;exact ⟨by rw[HZ.out],hid (KMap.Is.below PQ.out (Below.drew (Below.refl _ _))),Dots.keepC s1 (Below.drew (Below.refl _ _)),Below.drew hb⟩
  obtain ⟨q1,q2,q3,q4⟩:=ways_less hw;have HZ:Hid (badI o' ⟨t,d⟩=true):=hid (by unfold badI;rw[Z2.out];show ((!(decide (TL pv t))) || _)=true;rw[decide_eq_false (fun h=>linT.irr _ (linT.trans hw h))];rfl);clear hw;go_wp2_with fail
  refine rhd (aj3 s0 s1 hp0) fun gH=>?_;refine tk (.range 25) ?_;refine tD ?_;clear gH;go_wp2_with fail
  go_meet;exact ⟨by rw[HZ.out],hid (KMap.Is.below PQ.out (Below.drew (Below.refl _ _))),Dots.keepC s1 (Below.drew (Below.refl _ _)),Below.drew hb⟩
 clear PQ s0 s1 hb;obtain ⟨rfl,PQ,s1,hb⟩:=hcut;obtain ⟨z,hz⟩:=nm (badI o' ⟨t,d⟩);rw[← hz] at HML ⊢;clear hz;cases z with
 | true =>
  have HE:Hid (mayB (J.map RI.it)=false):=hid (by rw[HML.out];rfl);go_wp2;go_ret;exact ⟨by rw[HE.out];rfl,hb⟩
 | false =>
  have PQ0:Hid (DS wc mb (V++d.take 0).length (V++d.take 0)):=hid (by rw[List.take_zero,List.append_nil];exact PQ.out);have HG0:Hid (mayB (J.map RI.it)=(dotsGo (V++d.take 0) (pM d 0) (d.drop 0) && mayGo (V++d) (pT (J.map RI.it) (i+1)) ((J.map RI.it).drop (i+1)))):=hid (by rw[HML.out,List.take_zero,List.append_nil];rfl);clear PQ;go_wp2_with fail
  go_loopw [46] (fun jv wr=>∃ j:Nat,j≤nd∧jv=.int .i64 j∧Hid (DS wr mb (V++d.take j).length (V++d.take j))∧Hid (mayB (J.map RI.it)=(dotsGo (V++d.take j) (pM d j) (d.drop j) && mayGo (V++d) (pT (J.map RI.it) (i+1)) ((J.map RI.it).drop (i+1))))∧wr.cell? ⟨sb,1,none⟩=some (.slice xa nd xc)∧Below w.heap.size w wr) (fun jv _=>nd - (intOf jv).toNat)
  case atStart=>exact ⟨0,by omega,rfl,PQ0,HG0,s1,hb⟩
  clear PQ0 HG0 s1 hb;obtain ⟨j,hj,rfl,PQ,HG,s1,hb⟩:=hrel;by_cases hjd:j<nd;rotate_left
  ·obtain rfl:j=nd:=by omega
   have d2:=dF (p:=(j:Int)<(j:Int));have e9:d.take j=d:=List.take_of_length_le (by have:=HND.out;omega);have PE:Hid (DS wr (mb) (V++d).length (V++d)):=hid (by have:=PQ.out;rw[e9] at this;exact this);have ME:Hid (mayB (J.map RI.it)=mayGo (V++d) (pT (J.map RI.it) (i+1)) ((J.map RI.it).drop (i+1))):=hid (by
    have:=HG.out;rw[List.drop_eq_nil_of_le (by have:=HND.out;omega)] at this;exact this)
   have VE:Hid ((V++d).length≤(pls ((J.map RI.it).take (i+1))).length):=hid (by rw[List.length_append];have:=HVN.out;have:=HND.out;omega);clear e9;go_wp2;go_roundw
   ·exact ⟨i+1,V++d,by have:=HI.out;omega,by go_num,PE,ME,VE,hb⟩
   have:=HI.out;simp[intOf];omega
  have d2:=dT (p:=(j:Int)<(nd:Int));have j3:(0:Int)≤(j:Int):=by omega
  have j4:(j:Int)<(nd:Int):=by omega
  have hjl:j<d.length:=by have:=HND.out;omega
  obtain ⟨b2,o2,rfl,hc2⟩:=dots_at (Row.Lies.below HDX.out hb) (by omega);obtain ⟨e0,e1⟩:=hc2 j hjl;have hts2:d.take (j+1)=d.take j++[d[j]]:=List.take_succ_eq_append_getElem hjl;have hfm:=HFM.out _ (List.getElem_mem hjl);have hds:=dots_step (V++d.take j) hjl;have HGS:=HG.out;rw[hds,List.append_assoc,← hts2] at HGS;have HPM:Hid (∀ k',j=k'+1→∃ pm:M,pM d j=some pm∧wr.cell? ⟨b2,o2+k'*2,none⟩=some ↑pm.p∧wr.cell? ⟨b2,o2+k'*2+1,none⟩=some ↑pm.n):=hid (fun k' hk=>by
   subst hk;have hkl:k'<d.length:=by omega
   exact ⟨d[k'],pM_next hkl,hc2 k' hkl⟩)
  obtain ⟨m,hm⟩:=nm d[j];rw[← hm] at e0 e1 hts2 hfm HGS;have HT2:Hid ((V++d.take j)++[m]=V++d.take (j+1)):=hid (by rw[hts2,List.append_assoc]);have HFQ:Hid (dFine m):=hid hfm.2;have HVL:Hid ((V++d.take j).length<1099511627777):=hid (by rw[List.length_append,List.length_take];have:=HLN.out;omega);have HJ1:=hid hjd;have HGN:=hid HGS;obtain ⟨U,hU⟩:=nm (V++d.take j);rw[← hU] at PQ HT2 HVL HGN;obtain ⟨o3,ho3⟩:=nm (pM d j);rw[← ho3] at HGN;have HO3:=hid ho3;obtain ⟨p,q⟩:=m;clear hc2 hts2 hfm hm hU hjl hjd hds HGS HG ho3;simp only at e0 e1;go_upto_region 10 with (fail)
  have kD:=balloc (Below.refl wr.heap.size wr) (.cells #[p,q] 167);have f0:(wr.alloc (.cells #[p,q] 167)).cell? ⟨wr.heap.size,0,none⟩=some ↑p:=by rw[World.cell?_alloc_new];rfl
  have f1:(wr.alloc (.cells #[p,q] 167)).cell? ⟨wr.heap.size,1,none⟩=some ↑q:=by rw[World.cell?_alloc_new];rfl
  obtain ⟨db,hdb⟩:=nm wr.heap.size;obtain ⟨wd,hwd⟩:=nm (wr.alloc (.cells #[p,q] 167));rw[← hwd] at kD f0 f1 ⊢;rw[← hdb] at f0 f1 ⊢;replace s1:=Dots.keepC s1 kD;replace HPM:Hid (∀ k',j=k'+1→∃ pm:M,o3=some pm∧wd.cell? ⟨b2,o2+k'*2,none⟩=some ↑pm.p∧wd.cell? ⟨b2,o2+k'*2+1,none⟩=some ↑pm.n):=hid (fun k' hk=>by
   obtain ⟨pm,h1,h2,h3⟩:=HPM.out k' hk;exact ⟨pm,HO3.out.trans h1,Dots.keepC h2 kD,Dots.keepC h3 kD⟩)
  replace hb:=bstep hb kD;replace PQ:Hid (DS wd mb U.length U):=hid (KMap.Is.below PQ.out kD);clear kD hdb hwd e0 e1;go_cut [78] (fun zv wx=>zv=.bool (badD o3 ⟨p,q⟩)∧Hid (DS wx mb U.length U)∧wx.cell? ⟨sb,1,none⟩=some (.slice (some ⟨b2,o2,none⟩) nd xc)∧wx.cell? ⟨db,0,none⟩=some ↑p∧wx.cell? ⟨db,1,none⟩=some ↑q∧Below w.heap.size w wx)
  case first =>
   by_cases hp:p=[]
   ·have q1:(p == [])=true:=by simp[hp]
    have q2:p.isEmpty=true:=by simp[hp]
    have q3:decide (p=[])=true:=decide_eq_true hp;have q4:(p.toArray == #[])=true:=by simp[hp]
    have HZ:Hid (badD o3 ⟨p,q⟩=true):=hid (by unfold badD;rw[decide_eq_true (show (⟨p,q⟩:M).p=[] from hp)];rfl);have HP:=hid hp;clear hp;go_wp2_with fail
    refine rhd (aj2 f0 f1) fun gH=>?_;refine tk (.range 28) ?_;refine tD ?_;clear gH;go_wp2_with fail
    go_meet;exact ⟨by rw[HZ.out],hid (KMap.Is.below PQ.out (Below.drew (Below.refl _ _))),Dots.keepC s1 (Below.drew (Below.refl _ _)),Dots.keepC f0 (Below.drew (Below.refl _ _)),Dots.keepC f1 (Below.drew (Below.refl _ _)),Below.drew hb⟩
   have q1:(p == [])=false:=by simpa using hp
   have q2:p.isEmpty=false:=by simpa using hp
   have q3:decide (p=[])=false:=decide_eq_false hp;have q4:(p.toArray == #[])=false:=by simpa using hp
   have HP:=hid hp;clear hp;by_cases hq1:q<1
   ·have e1:decide ((q:Int)<1)=true:=dT;have HZ:Hid (badD o3 ⟨p,q⟩=true):=hid (by unfold badD;rw[decide_eq_true (show (⟨p,q⟩:M).n<1 from hq1)];simp);clear hq1;go_wp2_with fail
    refine rhd (aj2 f0 f1) fun gH=>?_;refine tk (.range 28) ?_;refine tD ?_;clear gH;go_wp2_with fail
    go_meet;exact ⟨by rw[HZ.out],hid (KMap.Is.below PQ.out (Below.drew (Below.refl _ _))),Dots.keepC s1 (Below.drew (Below.refl _ _)),Dots.keepC f0 (Below.drew (Below.refl _ _)),Dots.keepC f1 (Below.drew (Below.refl _ _)),Below.drew hb⟩
   have e1:=dF (p:=(q:Int)<1);by_cases hq2:281474976710656<q
   ·have e2:decide ((281474976710656:Int)<(q:Int))=true:=dT;have HZ:Hid (badD o3 ⟨p,q⟩=true):=hid (by unfold badD;rw[decide_eq_true (show 281474976710656<(⟨p,q⟩:M).n from hq2)];simp);clear hq1 hq2;go_wp2_with fail
    refine rhd (aj2 f0 f1) fun gH=>?_;refine tk (.range 28) ?_;refine tD ?_;clear gH;go_wp2_with fail
    go_meet;exact ⟨by rw[HZ.out],hid (KMap.Is.below PQ.out (Below.drew (Below.refl _ _))),Dots.keepC s1 (Below.drew (Below.refl _ _)),Dots.keepC f0 (Below.drew (Below.refl _ _)),Dots.keepC f1 (Below.drew (Below.refl _ _)),Below.drew hb⟩
   have e2:=dF (p:=(281474976710656:Int)<(q:Int));have HB3:Hid (badD o3 ⟨p,q⟩=beh o3 ⟨p,q⟩):=hid (by unfold badD;rw[decide_eq_false (show ¬ (⟨p,q⟩:M).p=[] from HP.out),decide_eq_false (show ¬ (⟨p,q⟩:M).n<1 from hq1),decide_eq_false (show ¬ 281474976710656<(⟨p,q⟩:M).n from hq2)];simp);clear hq1 hq2;by_cases hj0:j=0
   ·have z1:decide ((0:Int)<(j:Int))=false:=dF;have z1n:=dF (p:=0<j);have HZ:Hid (badD o3 ⟨p,q⟩=false):=hid (by rw[HB3.out,HO3.out,hj0];rfl);clear hj0 HPM;go_wp2_with fail
    refine rhd (aj2 f0 f1) fun gH=>?_;refine tk (.range 28) ?_;refine tD ?_;clear gH;go_wp2_with fail
    go_meet;exact ⟨by rw[HZ.out],hid (KMap.Is.below PQ.out (Below.drew (Below.refl _ _))),Dots.keepC s1 (Below.drew (Below.refl _ _)),Dots.keepC f0 (Below.drew (Below.refl _ _)),Dots.keepC f1 (Below.drew (Below.refl _ _)),Below.drew hb⟩
   obtain ⟨k',hk'⟩:∃ k',j=k'+1:=⟨j - 1,by omega⟩
   obtain ⟨pm,hpm,g0,g1⟩:=HPM.out k' hk';obtain ⟨pp,pn⟩:=pm;simp only at g0 g1;have z1:=dT (p:=(0:Int)<(j:Int));have z1n:=dT (p:=0<j);have w1:IntKind.i64.wrap ((j:Int) - 1)=(k':Int):=by rw[IntKind.wrap_i64];have:=HLN.out;omega
   have j5:(0:Int)≤(k':Int):=by omega
   have j6:(k':Int)<(nd:Int):=by omega
   obtain ⟨cz,hcz⟩:=nm (cmpD ⟨pp,pn⟩ ⟨p,q⟩);have CM:=hid (fun W=>compare_any ⟨pp,pn⟩ ⟨p,q⟩ W);rw[← hcz] at CM;have HZ:Hid (badD o3 ⟨p,q⟩=decide ((0:Int)≤cz)):=hid (by
    rw[HB3.out,hpm,hcz];exact not_dl _ _)
   clear hj0 HPM hpm hk' hcz;go_wp2_with fail
   refine wp_region_noPanic ?_;refine wp_region_held_drew (S:=(fun w'=>Below wd.heap.size wd w'∧w'.cell? ⟨db,0,none⟩=some ↑p∧w'.cell? ⟨db,1,none⟩=some ↑q∧w'.cell? ⟨sb,1,none⟩=some (.slice (some ⟨b2,o2,none⟩) nd xc)∧w'.cell? ⟨b2,o2+k'*2,none⟩=some ↑pp∧w'.cell? ⟨b2,o2+k'*2+1,none⟩=some ↑pn)) (by kernel_rfl) (⟨(Below.drew (Below.refl _ _)),Dots.keepC f0 (Below.drew (Below.refl _ _)),Dots.keepC f1 (Below.drew (Below.refl _ _)),Dots.keepC s1 (Below.drew (Below.refl _ _)),Dots.keepC g0 (Below.drew (Below.refl _ _)),Dots.keepC g1 (Below.drew (Below.refl _ _))⟩) (fun gH=>?_);refine tk (.range 24) ?_;refine tR 24 fun K hK=>?_;go_simp;go_at_call 165;refine cr (CM.out _) fun w9 k9=>?_;go_wp2_with fail
   refine tH hK gH k9 fun gH=>?_;clear hK K;refine tk [25,26,27] ?_;refine tD ?_;have kH:=gH.1;clear gH k9;go_wp2_with fail
   go_meet;exact ⟨by rw[HZ.out],hid (KMap.Is.below PQ.out kH),Dots.keepC s1 kH,Dots.keepC f0 kH,Dots.keepC f1 kH,bstep hb kH⟩
  clear PQ s1 hb f0 f1 HPM;obtain ⟨rfl,PQ,s1,f0,f1,hb⟩:=hcut;obtain ⟨z,hz⟩:=nm (badD o3 ⟨p,q⟩);rw[← hz] at HGN ⊢;clear hz;cases z with
  | true =>
   have HE:Hid (mayB (J.map RI.it)=false):=hid (by rw[HGN.out];rfl);go_wp2;go_ret;exact ⟨by rw[HE.out];rfl,hb⟩
  | false =>
   obtain ⟨z2,hz2⟩:=nm (decide ((⟨p,q⟩:M) ∈ U));have HZ1:Hid ((setF U ⟨p,q⟩).isSome=z2):=hid (by rw[setF_some,hz2]);have HZU:Hid ((setF U ⟨p,q⟩).getD (.agg #[])=.agg #[]):=hid (by unfold setF;split <;> rfl);rw[← hz2] at HGN;clear hz2;go_upto_region 13 with (at_lookup;refine KMap.wpList_look_ok (C:=dotsC) Tryz.underlying225 zero_unit rfl _ _ rfl mb U.length (setF U) ⟨p,q⟩ rfl PQ.out rfl HFQ.out (.agg #[]) HZU.out z2 HZ1.out ?_)
   have kU:=balloc (Below.refl wc.heap.size wc) (.cells #[] 227);obtain ⟨ws,hws⟩:=nm (wc.alloc (.cells #[] 227));rw[← hws] at kU ⊢;replace f0:=Dots.keepC f0 kU;replace f1:=Dots.keepC f1 kU;replace s1:=Dots.keepC s1 kU;replace hb:=bstep hb kU;replace PQ:Hid (DS ws mb U.length U):=hid (KMap.Is.below PQ.out kU);clear kU hws;cases z2 with
   | true =>
    have HE:Hid (mayB (J.map RI.it)=false):=hid (by rw[HGN.out];rfl);go_wp2;go_ret;exact ⟨by rw[HE.out];rfl,hb⟩
   | false =>
    go_wp2_with (at_mapUpdate;refine KMap.wpList_put (C:=dotsC) Tryz.underlying225 rfl _ _ _ rfl mb U.length (setF U) ⟨p,q⟩ unit rfl PQ.out (by have:=HVL.out;unfold maxLen;omega) rfl HFQ.out rfl ?_;intro w9 S9 k9)
    have PQ9:Hid (DS w9 mb (V++d.take (j+1)).length (V++d.take (j+1))):=hid (by
     have h1:=DS.put S9;rw[HT2.out] at h1;have h2:(V++d.take (j+1)).length=U.length+1:=by rw[← HT2.out,List.length_append];rfl
     rw[h2];exact h1)
    have HG9:Hid (mayB (J.map RI.it)=(dotsGo (V++d.take (j+1)) (pM d (j+1)) (d.drop (j+1)) && mayGo (V++d) (pT (J.map RI.it) (i+1)) ((J.map RI.it).drop (i+1)))):=hid (by rw[HGN.out];rfl);have s9:=((but_grown k9).cell (p:=⟨sb,1,none⟩) (World.block_lt_of_cell? _ _ s1) HSB.out).trans s1;have hb9:=But.below hb (but_grown k9) HMB.out hb.size;clear S9 k9;have hjw:wrap64 ((j:Int)+1)=((j+1:Nat):Int):=by have:=HJ1.out;have:=HLN.out;unfold wrap64;omega
    go_roundw
    ·exact ⟨j+1,by have:=HJ1.out;omega,by rw[hjw],PQ9,HG9,s9,hb9⟩
    rw[hjw];have:=HJ1.out;simp only[intOf];omega
end Bag
namespace RefBag
open RowKit YtnpjkmomllkhpaaGreatDoor.Mark Dots Bag
theorem in_any (D:List M) (d:M) (a:Option Addr) (n c:Nat) (w:World) (hD:Row.Lies dE w a n D) (hn:n≤1099511627776) :
  CB 175 #[.slice a n c,.agg d] w (decide (d ∈ D)):=by
 have HD:=hid hD;have HN:=hid hD.1;obtain ⟨p,q⟩:=d;have hb0:=balloc (Below.refl w.heap.size w) (.cells #[p,q] 167);have f0:(w.alloc (.cells #[p,q] 167)).cell? ⟨w.heap.size,0,none⟩=some ↑p:=by rw[World.cell?_alloc_new];rfl
 have f1:(w.alloc (.cells #[p,q] 167)).cell? ⟨w.heap.size,1,none⟩=some ↑q:=by rw[World.cell?_alloc_new];rfl
 clear hD;go_enter Tryz.func175,Tryz.ntmps175;go_upto_region 1 with (fail)
 obtain ⟨w1,hw1⟩:=nm (w.alloc (.cells #[p,q] 167));rw[← hw1] at hb0 f0 f1 ⊢;obtain ⟨db,hdb⟩:=nm w.heap.size;rw[← hdb] at f0 f1 ⊢;clear hw1 hdb;have HM0:Hid ((⟨p,q⟩:M) ∉ D.take 0):=hid (by simp);have h1:=Below.refl w1.heap.size w1;go_wp2_with fail
 go_loopw [5] (fun iv wr=>∃ i:Nat,i≤n∧iv=.int .i64 i∧Hid ((⟨p,q⟩:M) ∉ D.take i)∧Below w1.heap.size w1 wr) (fun iv _=>n - (intOf iv).toNat)
 case atStart=>exact ⟨0,by omega,rfl,HM0,h1⟩
 clear HM0 h1;obtain ⟨i,hi,rfl,HM,hb⟩:=hrel;by_cases hlt:i<n;rotate_left
 ·obtain rfl:i=n:=by omega
  have d1:=dF (p:=(i:Int)<(i:Int));have HE:Hid (decide ((⟨p,q⟩:M) ∈ D)=false):=hid (by
   have:=HM.out;rw[List.take_of_length_le (by have:=HN.out;omega)] at this;exact decide_eq_false this)
  go_wp2;go_ret;exact ⟨by rw[HE.out];rfl,hb0.trans (hb.mono hb0.size)⟩
 have d1:=dT (p:=(i:Int)<(n:Int));have j1:(0:Int)≤(i:Int):=by omega
 have j2:(i:Int)<(n:Int):=by omega
 have hil:i<D.length:=by have:=HN.out;omega
 obtain ⟨b,o,rfl,hc⟩:=dots_at (Row.Lies.below (Row.Lies.below HD.out hb0) (hb.mono (Nat.le_refl _))) (by omega);obtain ⟨c0,c1⟩:=hc i hil;have hts:D.take (i+1)=D.take i++[D[i]]:=List.take_succ_eq_append_getElem hil;have hmem:=List.getElem_mem hil;obtain ⟨x,hx⟩:=nm D[i];rw[← hx] at c0 c1 hts hmem;have HT:=hid hts;have HX:=hid hmem;have g0:=Dots.keepC f0 hb;have g1:=Dots.keepC f1 hb;have HI:=hid hlt;obtain ⟨xp,xq⟩:=x;simp only at c0 c1;have hE:=RefDots.eql_dot ⟨xp,xq⟩ ⟨p,q⟩;clear hc hil hts hmem hx hlt;by_cases he:(⟨xp,xq⟩:M)=⟨p,q⟩
 ·rw[decide_eq_true he] at hE;dsimp only at hE;have HE:Hid (decide ((⟨p,q⟩:M) ∈ D)=true):=hid (decide_eq_true (by rw[← he];exact HX.out));clear he;go_wp2_with fail
  refine rhd (aj4 g0 g1 c0 c1) fun gH=>?_;refine tk [0,1,2,3,4,5] ?_;refine tD ?_;clear gH;go_wp2;go_ret;exact ⟨by rw[HE.out];rfl,hb0.trans ((Below.drew hb).mono hb0.size)⟩
 rw[decide_eq_false he] at hE;dsimp only at hE;have HM1:Hid ((⟨p,q⟩:M) ∉ D.take (i+1)):=hid (by
  rw[HT.out,List.mem_append,List.mem_singleton];rintro (h | h)
  · exact HM.out h
  exact he h.symm)
 clear he;go_wp2_with fail
 refine rhd (aj4 g0 g1 c0 c1) fun gH=>?_;refine tk [0,1,2,3,4,5] ?_;refine tD ?_;clear gH;go_wp2;go_roundw
 ·exact ⟨i+1,by have:=HI.out;omega,by go_num,HM1,Below.drew hb⟩
 have:=HI.out;simp[intOf];omega
theorem It.ext' {a b:It} (h:a.t=b.t) (k:a.d=b.d):a=b:=by cases a;cases b;simp_all
instance : DecidableEq It := fun a b => if h : a.t = b.t ∧ a.d = b.d then .isTrue (It.ext' h.1 h.2) else .isFalse fun e => h (by rw [e]; exact ⟨rfl, rfl⟩)
theorem neq_dot (m k:M) (w:World):(binOp .neq 167 (.agg m) (.agg k)).run Tryz.prog w=.ok (.bool (!decide (m=k))) w:=by
 rw[run_neq_struct];have h:=RefDots.eql_of 167 (by kernel_rfl) (by kernel_rfl) m k w;rw[RefDots.eqM_iff] at h;unfold M.cells at h;rw[h];rfl
theorem ne_item {A B:List It} {i:Nat} (hi:i<A.length) (hj:i<B.length) (h:A[i]≠B[i]):A≠B:=fun e=>by subst e;exact h rfl
theorem take_next {α:Type} {A B:List α} {i:Nat} (hi:i<A.length) (hj:i<B.length) (h:A.take i=B.take i) (k:A[i]=B[i]):A.take (i+1)=B.take (i+1):=by
 rw[List.take_succ_eq_append_getElem hi,List.take_succ_eq_append_getElem hj,h,k]
theorem same_any (A B:List It) (a b:Option Addr) (n m ca cb:Nat) (w:World) (hA:Bag.Lies w a n A) (hB:Bag.Lies w b m B) (hn:n≤1099511627776) (hd:∀ x ∈ A,x.d.length≤1099511627776) :
  CB 73 #[.slice a n ca,.slice b m cb] w (decide (A=B)):=by
 obtain ⟨J,rfl,hJ,hJD⟩:=hA;obtain ⟨K,rfl,hK,hKD⟩:=hB;have h0:=Below.refl w.heap.size w;by_cases hnm:n=m;rotate_left
 ·have q1:((n:Int) != (m:Int))=true:=by rw[bne_iff_ne];omega
  have q2:=bF (a:=n) (b:=(m:Int));have q3:(n == m)=false:=by simpa using hnm
  have HE:Hid (decide (J.map RI.it=K.map RI.it)=false):=hid (decide_eq_false fun e=>by
   have:=congrArg List.length e;rw[List.length_map,List.length_map,← hJ.1,← hK.1] at this;exact hnm this)
  clear hJ hK hJD hKD hd hnm;go_enter Tryz.func73,Tryz.ntmps73;go_wp2;go_ret;exact ⟨by rw[HE.out];rfl,h0⟩
 subst hnm;have HJ:=hid hJ;have HK:=hid hK;have HJD:=hid hJD;have HKD:=hid hKD;have HDL:=hid hd;have HNN:=hid hn;have HT0:Hid ((J.map RI.it).take 0=(K.map RI.it).take 0):=hid rfl;clear hJ hK hJD hKD hd;go_enter Tryz.func73,Tryz.ntmps73;go_wp2_with fail
 go_loopw [5] (fun iv wr=>∃ i:Nat,i≤n∧iv=.int .i64 i∧Hid ((J.map RI.it).take i=(K.map RI.it).take i)∧Below w.heap.size w wr) (fun iv _=>n - (intOf iv).toNat)
 case atStart=>exact ⟨0,by omega,rfl,HT0,h0⟩
 clear HT0 h0;obtain ⟨i,hi,rfl,HT,hb⟩:=hrel;by_cases hlt:i<n;rotate_left
 ·obtain rfl:i=n:=by omega
  have d1:=dF (p:=(i:Int)<(i:Int));have HE:Hid (decide (J.map RI.it=K.map RI.it)=true):=hid (decide_eq_true (by
   have:=HT.out;rwa [List.take_of_length_le (by rw[List.length_map];have:=HJ.out.1;omega),List.take_of_length_le (by rw[List.length_map];have:=HK.out.1;omega)] at this))
  go_wp2;go_ret;exact ⟨by rw[HE.out];rfl,hb⟩
 have d1:=dT (p:=(i:Int)<(n:Int));have j1:(0:Int)≤(i:Int):=by omega
 have j2:(i:Int)<(n:Int):=by omega
 have hil:i<J.length:=by have:=HJ.out.1;omega
 have hik:i<K.length:=by have:=HK.out.1;omega
 have hml:i<(J.map RI.it).length:=by rw[List.length_map];exact hil
 have hmk:i<(K.map RI.it).length:=by rw[List.length_map];exact hik
 obtain ⟨ab,ao,rfl,hc⟩:=items_at (HJ.out.below hb) (by omega);obtain ⟨bb,bo,rfl,hc'⟩:=items_at (HK.out.below hb) (by omega);obtain ⟨a0,a1⟩:=hc i hil;obtain ⟨b0,b1⟩:=hc' i hik;have HJX:=hid (HJD.out _ (List.getElem_mem hil));have HKX:=hid (HKD.out _ (List.getElem_mem hik));have HNE:Hid (∀ (_:J[i].it≠K[i].it),decide (J.map RI.it=K.map RI.it)=false):=hid fun h=>decide_eq_false (ne_item hml hmk (by rw[List.getElem_map,List.getElem_map];exact h));have HEQ:Hid (∀ (_:J[i].it=K[i].it),(J.map RI.it).take (i+1)=(K.map RI.it).take (i+1)):=hid fun h=>take_next hml hmk HT.out (by rw[List.getElem_map,List.getElem_map];exact h);have HXL:Hid (J[i].d.length≤1099511627776):=hid (HDL.out J[i].it (List.mem_map.2 ⟨J[i],List.getElem_mem hil,rfl⟩));obtain ⟨x,hx⟩:=nm J[i];obtain ⟨y,hy⟩:=nm K[i];rw[← hx] at a0 a1 HJX HNE HEQ HXL;rw[← hy] at b0 b1 HKX HNE HEQ;obtain ⟨xt,xa,xc,xd⟩:=x;obtain ⟨yt,ya,yc,yd⟩:=y;simp only[RI.it] at a0 a1 b0 b1 HXL HNE HEQ;unfold Inner at HJX HKX;simp only at HJX HKX;have HI:=hid hlt;obtain ⟨nd,hnd⟩:=nm xd.length;obtain ⟨ne,hne⟩:=nm yd.length;rw[← hnd] at a1 HXL HJX;rw[← hne] at b1 HKX;have HND:=hid hnd;have HNEL:=hid hne;clear hc hc' hil hik hml hmk hx hy hlt hnd hne HT;go_wp2_with fail
 by_cases ht:xt=yt;rotate_left
 ·have q1:(xt != yt)=true:=by simpa using ht
  have q2:(xt == yt)=false:=by simpa using ht
  have HE:=hid (HNE.out (fun e=>ht (by simp only[It.mk.injEq] at e;exact e.1)));clear ht;refine rhd (aj4 a0 a1 b0 b1) fun gH=>?_;refine tk (.range 26) ?_;refine tD ?_;clear gH;go_wp2;go_ret;exact ⟨by rw[HE.out];rfl,Below.drew hb⟩
 have q1:(xt != yt)=false:=by simpa using ht
 have q2:(xt == yt)=true:=by simpa using ht
 have HTT:=hid ht;clear ht;by_cases hnn:nd=ne;rotate_left
 ·have q3:((nd:Int) != (ne:Int))=true:=by rw[bne_iff_ne];omega
  have q4:=bF (a:=nd) (b:=(ne:Int));have q5:(nd == ne)=false:=by simpa using hnn
  have HE:=hid (HNE.out (fun e=>hnn (by simp only[It.mk.injEq] at e;rw[HND.out,HNEL.out,e.2])));clear hnn;refine rhd (aj4 a0 a1 b0 b1) fun gH=>?_;refine tk (.range 26) ?_;refine tD ?_;clear gH;go_wp2;go_ret;exact ⟨by rw[HE.out];rfl,Below.drew hb⟩
 subst hnn;refine rhd (aj4 a0 a1 b0 b1) fun gH=>?_;refine tk (.range 26) ?_;refine tD ?_;obtain ⟨-,s1,-,t1⟩:=gH;replace hb:=Below.drew hb;have HT0:Hid (xd.take 0=yd.take 0):=hid rfl;obtain ⟨w2,hw2⟩:=nm (World.drew wr);try rw[← hw2] at s1 t1 hb ⊢
 have h2:=Below.refl w2.heap.size w2;clear a0 b0 a1 b1 q1 q2;try clear hw2
 go_wp2_with fail
 go_loopw [6] (fun jv wq=>∃ j:Nat,j≤nd∧jv=.int .i64 j∧Hid (xd.take j=yd.take j)∧Below w2.heap.size w2 wq) (fun jv _=>nd - (intOf jv).toNat)
 case atStart=>exact ⟨0,by omega,rfl,HT0,h2⟩
 clear HT0 h2;obtain ⟨j,hj,rfl,HTD,hb2⟩:=hrel;replace s1:=Dots.keepC s1 hb2;replace t1:=Dots.keepC t1 hb2;by_cases hjd:j<nd;rotate_left
 ·obtain rfl:j=nd:=by omega
  have d2:=dF (p:=(j:Int)<(j:Int));have hdd:xd=yd:=by
   have:=HTD.out;rwa [List.take_of_length_le (by have:=HND.out;omega),List.take_of_length_le (by have:=HNEL.out;omega)] at this
  have HT1:=hid (HEQ.out (by rw[HTT.out,hdd]));clear hdd;go_wp2;go_roundw
  ·exact ⟨i+1,by have:=HI.out;omega,by go_num,HT1,hb.trans (hb2.mono hb.size)⟩
  have:=HI.out;simp[intOf];omega
 have d2:=dT (p:=(j:Int)<(nd:Int));have j3:(0:Int)≤(j:Int):=by omega
 have j4:(j:Int)<(nd:Int):=by omega
 have hjx:j<xd.length:=by have:=HND.out;omega
 have hjy:j<yd.length:=by have:=HNEL.out;omega
 have hbq:=hb.trans (hb2.mono hb.size);obtain ⟨xb,xo,rfl,hxc⟩:=dots_at (Row.Lies.below HJX.out hbq) (by omega);obtain ⟨yb,yo,rfl,hyc⟩:=dots_at (Row.Lies.below HKX.out hbq) (by omega);obtain ⟨e0,e1⟩:=hxc j hjx;obtain ⟨g0,g1⟩:=hyc j hjy;have HND2:Hid (∀ (_:xd[j]≠yd[j]),decide (J.map RI.it=K.map RI.it)=false):=hid fun h=>HNE.out (fun e=>h (by
  simp only[It.mk.injEq] at e;have:=e.2;subst this;rfl))
 have HTK:Hid (∀ (_:xd[j]=yd[j]),xd.take (j+1)=yd.take (j+1)):=hid fun h=>take_next hjx hjy HTD.out h;obtain ⟨x,hx⟩:=nm xd[j];obtain ⟨y,hy⟩:=nm yd[j];rw[← hx] at e0 e1 HND2 HTK;rw[← hy] at g0 g1 HND2 HTK;obtain ⟨xp,xq⟩:=x;obtain ⟨yp,yq⟩:=y;simp only at e0 e1 g0 g1;have hE:=neq_dot ⟨xp,xq⟩ ⟨yp,yq⟩;have HJ1:=hid hjd;clear hxc hyc hjx hjy hx hy hjd hbq HTD;go_wp2_with fail
 by_cases he:(⟨xp,xq⟩:M)=⟨yp,yq⟩
 rotate_left
 ·rw[decide_eq_false he] at hE;try dsimp only at hE
  have HE:=hid (HND2.out he);clear he;refine rhd (aj6 s1 t1 e0 e1 g0 g1) fun gH=>?_;refine tk (.range 17) ?_;refine tD ?_;clear gH;go_wp2;go_ret;exact ⟨by rw[HE.out];rfl,hb.trans ((Below.drew hb2).mono hb.size)⟩
 rw[decide_eq_true he] at hE;try dsimp only at hE
 have HT1:=hid (HTK.out he);clear he;refine rhd (aj6 s1 t1 e0 e1 g0 g1) fun gH=>?_;refine tk (.range 17) ?_;refine tD ?_;clear gH;have hjw:wrap64 ((j:Int)+1)=((j+1:Nat):Int):=by have:=HJ1.out;have:=HXL.out;unfold wrap64;omega
 go_wp2;go_roundw
 ·exact ⟨j+1,by have:=HJ1.out;omega,by rw[hjw],HT1,Below.drew hb2⟩
 rw[hjw];have:=HJ1.out;simp only[intOf];omega
end RefBag
namespace BagLaw
open RowKit YtnpjkmomllkhpaaGreatDoor.Mark Dots Bag
def wt (L:List It):Nat:=(L.map (fun x=>1+x.d.length+x.t.length / 64)).sum
end BagLaw
namespace Coder
open Num YtnpjkmomllkhpaaGreatDoor.Mark Bag Dots
def befT (o:Option (List UInt8)) (t:List UInt8):Bool:=match o with | none=>false | some p => !(decide (TL p t))
def mayCt:Option (List UInt8)→List C→Bool
 | _,[]=>true
 | o,c::l=>(!((decide (c.a=0) && decide (c.b=0)) || befT o c.p)) && mayCt (some c.p) l
def seenC (s:List M) (l:List C):Bool:=l.all fun c=>decide (c.p=[]) || !decide (ofL s c.p=0)
def seenI (s:List M) (l:List It):Bool:=l.all fun x=>x.d.all fun m=>hasL s m.p m.n
def zeroL (c:Cl):Bool:=decide (c.s=0) && (decide (c.t=[]) && !c.g)
def mayCl (c:Cl):Bool:=if c.s=0 then !c.g && decide (c.t=[]) else decide (c.s≤281474976710656) && decide (c.t.length≤4096) && !(c.g && !decide (c.t=[]))
def kinds (e:E):Bool :=
 if kd e.k=1 then mayCt none e.c && (seenC e.s e.c && (decide (e.i.length=0) && zeroL e.l))
 else if kd e.k=2 then mayB e.i && (seenI e.s e.i && (decide (e.c.length=0) && zeroL e.l))
 else if kd e.k=3 then mayCl e.l && (decide (e.c.length=0) && decide (e.i.length=0))
 else false
def mayE (e:E):Bool:=mayL e.s && (!decide (e.s.length=0) && kinds e)
def covB (L K:List M):Bool:=K.all fun m=>decide (ofL K m.p≤ofL L m.p)
def mayEs (s:List M):Option (List UInt8)→List E→Bool
 | _,[]=>true
 | o,e::l=>(mayE e && (!befT o e.k && covB s e.s)) && mayEs s (some e.k) l
def mayPr (s:List M):Option (List UInt8)→List (List UInt8)→Bool
 | _,[]=>true
 | o,p::l=>(!decide (p=[]) && (!befT o p && decide (ofL s p=0))) && mayPr s (some p) l
def mayS (x:S):Bool:=mayL x.a && (mayEs x.a none x.e && mayPr x.a none x.p)
def mayD (b:List M) (x:S):Bool:=mayL b && mayS x
def mayO (o:O):Bool:=decide (1≤o.d) && (decide (o.d≤5) && (!decide (kd o.k=0) && decide (o.t.length≤4096)))
structure WE (e:E):Prop where
 k:e.k.length<18446744073709551616
 s:All FM e.s
 c:All FC e.c
 i:All FI e.i
 l:FL e.l
structure WS (s:S):Prop where
 a:All FM s.a
 e:All WE s.e
 p:All (fun l:List UInt8=>l.length<18446744073709551616) s.p
theorem zeroL_is {c:Cl} (h:zeroL c=true):c=Cl.zero:=by
 unfold zeroL at h;simp only[Bool.and_eq_true,decide_eq_true_eq,Bool.not_eq_true'] at h;obtain ⟨h1,h2,h3⟩:=h;cases c
 simp only at h1 h2 h3;subst h1;subst h2;subst h3;rfl
theorem es_of_may {s:List M}:∀ {l:List E} {o:Option (List UInt8)},mayEs s o l=true→∀ e ∈ l,mayE e=true
 | [],_,_,e,he=>by cases he
 | x::l,o,h,e,he=>by
  unfold mayEs at h;simp only[Bool.and_eq_true] at h;rcases List.mem_cons.1 he with rfl | he
  · exact h.1.1
  exact es_of_may h.2 e he
theorem mostL_none (f:M→Bool) (L:List M) (h:∀ m ∈ L,f m=false):mostL f L=0:=by
 unfold mostL;induction L with
 | nil=>rfl
 | cons m L ih =>
  rw[List.foldl_cons,h m (List.mem_cons_self ..)];exact ih fun x hx=>h x (List.mem_cons_of_mem _ hx)
theorem cov_iff (L K:List M):(∀ q,ofL K q≤ofL L q)↔covB L K=true:=by
 unfold covB;rw[List.all_eq_true];refine ⟨fun h m _=>decide_eq_true (h m.p),fun h q=>?_⟩;by_cases hq:∃ m ∈ K,m.p=q
 ·obtain ⟨m,hm,rfl⟩:=hq;exact of_decide_eq_true (h m hm)
 have:ofL K q=0:=by
  refine mostL_none _ _ fun m hm=>?_;unfold isQ;exact decide_eq_false fun hp=>hq ⟨m,hm,hp.1⟩
 omega
end Coder
namespace Bag
open RowKit YtnpjkmomllkhpaaGreatDoor.Mark Dots
def DotOk (m:M):Prop:=m.p≠[]∧1≤m.n∧m.n≤281474976710656
theorem badD_iff (o:Option M) (m:M):badD o m=false↔DotOk m∧∀ q,o=some q→DL q m:=by
 unfold badD DotOk beh;cases o with
 | none =>
  simp only[Bool.or_eq_false_iff,decide_eq_false_iff_not,reduceCtorEq,false_implies,implies_true,and_true];constructor
  · rintro ⟨h1,h2,h3⟩;exact ⟨h1,by omega,by omega⟩
  rintro ⟨h1,h2,h3⟩;exact ⟨h1,by omega,by omega⟩
 | some q =>
  simp only[Bool.or_eq_false_iff,decide_eq_false_iff_not,Bool.not_eq_false',decide_eq_true_eq,Option.some.injEq,forall_eq'];constructor
  · rintro ⟨h1,h2,h3,h4⟩;exact ⟨⟨h1,by omega,by omega⟩,h4⟩
  rintro ⟨⟨h1,h2,h3⟩,h4⟩;exact ⟨h1,by omega,by omega,h4⟩
theorem dotsGo_iff:∀ (d s:List M) (o:Option M),dotsGo s o d=true↔(∀ m ∈ d,DotOk m∧m ∉ s)∧d.Pairwise DL∧∀ q,o=some q→∀ m ∈ d,DL q m
 | [],s,o=>by simp[dotsGo]
 | m::r,s,o=>by
  unfold dotsGo;rw[Bool.and_eq_true,Bool.and_eq_true,Bool.not_eq_true',Bool.not_eq_true',badD_iff,decide_eq_false_iff_not,dotsGo_iff r (s++[m]) (some m),List.pairwise_cons];constructor
  ·rintro ⟨⟨h1,h2⟩,h3,h4,h5,h6⟩;refine ⟨fun x hx=>?_,⟨h6 m rfl,h5⟩,fun q hq x hx=>?_⟩
   ·rcases List.mem_cons.1 hx with rfl | hx
    · exact ⟨h1,h3⟩
    exact ⟨(h4 x hx).1,fun k=>(h4 x hx).2 (List.mem_append_left _ k)⟩
   rcases List.mem_cons.1 hx with rfl | hx
   · exact h2 q hq
   exact linD.trans (h2 q hq) (h6 m rfl x hx)
  rintro ⟨h1,⟨h2,h3⟩,h4⟩;refine ⟨⟨(h1 m (by simp)).1,fun q hq=>h4 q hq m (by simp)⟩,(h1 m (by simp)).2,fun x hx=>⟨(h1 x (List.mem_cons_of_mem _ hx)).1,fun k=>?_⟩,h3,fun q hq x hx=>by cases hq;exact h2 x hx⟩;rcases List.mem_append.1 k with k | k
  · exact (h1 x (List.mem_cons_of_mem _ hx)).2 k
  rw[List.mem_singleton.1 k] at hx;exact linD.irr m (h2 m hx)
end Bag
namespace RefMay
open RowKit YtnpjkmomllkhpaaGreatDoor.Mark Num Bag Dots Coder
def dotsR (s:List M) (o:Option M):List M→Bool
 | []=>true
 | m::r => !(badD o m || decide (m ∈ s)) && dotsR s (some m) r
theorem dotsR_iff:∀ (d s:List M) (o:Option M),dotsR s o d=true↔(∀ m ∈ d,DotOk m∧m ∉ s)∧d.Pairwise DL∧∀ q,o=some q→∀ m ∈ d,DL q m
 | [],s,o=>by simp[dotsR]
 | m::r,s,o=>by
  unfold dotsR;rw[Bool.and_eq_true,Bool.not_eq_true',Bool.or_eq_false_iff,badD_iff,decide_eq_false_iff_not,dotsR_iff r s (some m),List.pairwise_cons];constructor
  ·rintro ⟨⟨⟨h1,h2⟩,h3⟩,h4,h5,h6⟩;refine ⟨fun x hx=>?_,⟨h6 m rfl,h5⟩,fun q hq x hx=>?_⟩
   ·rcases List.mem_cons.1 hx with rfl | hx
    · exact ⟨h1,h3⟩
    exact h4 x hx
   rcases List.mem_cons.1 hx with rfl | hx
   · exact h2 q hq
   exact linD.trans (h2 q hq) (h6 m rfl x hx)
  rintro ⟨h1,⟨h2,h3⟩,h4⟩;exact ⟨⟨⟨(h1 m (by simp)).1,fun q hq=>h4 q hq m (by simp)⟩,(h1 m (by simp)).2⟩,fun x hx=>h1 x (List.mem_cons_of_mem _ hx),h3,fun q hq x hx=>by cases hq;exact h2 x hx⟩
theorem dotsR_is (d s:List M) (o:Option M):dotsGo s o d=dotsR s o d:=by rw[Bool.eq_iff_iff,dotsGo_iff,dotsR_iff]
def mayRj (s:List M) (o:Option (List UInt8)):List RI→Bool
 | []=>true
 | x::r => !(badI o x.it) && (dotsR s none x.d && mayRj (s++x.d) (some x.t) r)
theorem mayRj_is:∀ (J:List RI) (s:List M) (o:Option (List UInt8)),mayGo s o (J.map RI.it)=mayRj s o J
 | [],_,_=>rfl
 | x::r,s,o=>by
  show (!(badI o x.it) && (dotsGo s none x.d && mayGo (s++x.d) (some x.t) (r.map RI.it)))=(!(badI o x.it) && (dotsR s none x.d && mayRj (s++x.d) (some x.t) r))
  rw[dotsR_is,mayRj_is r]
def pI (J:List RI) (k:Nat):Option (List UInt8):=if k=0 then none else (J[k - 1]?).map RI.t
theorem pI_next {J:List RI} {k:Nat} (h:k<J.length):pI J (k+1)=some J[k].t:=by
 unfold pI;rw[if_neg (by omega),Nat.add_sub_cancel,List.getElem?_eq_getElem h];rfl
theorem mayRj_step (s:List M) {J:List RI} {k:Nat} (h:k<J.length):mayRj s (pI J k) (J.drop k)=(!(badI (pI J k) J[k].it) && (dotsR s none J[k].d && mayRj (s++J[k].d) (pI J (k+1)) (J.drop (k+1)))):=by
 rw[List.drop_eq_getElem_cons h,pI_next h];rfl
theorem dotsR_step (s:List M) {d:List M} {k:Nat} (h:k<d.length):dotsR s (pM d k) (d.drop k)=(!(badD (pM d k) d[k] || decide (d[k] ∈ s)) && dotsR s (pM d (k+1)) (d.drop (k+1))):=by
 have e:pM d (k+1)=some d[k]:=by unfold pM;rw[if_neg (by omega),Nat.add_sub_cancel,List.getElem?_eq_getElem h]
 rw[List.drop_eq_getElem_cons h,e];rfl
theorem pls_take_le (J:List RI) (k:Nat):((J.take k).flatMap RI.d).length≤(J.flatMap RI.d).length:=by
 conv=>rhs;rw[← List.take_append_drop k J,List.flatMap_append,List.length_append]
 omega
theorem step_flat {J:List RI} {k:Nat} (h:k<J.length):(J.take (k+1)).flatMap RI.d=(J.take k).flatMap RI.d++J[k].d:=by
 rw[List.take_succ_eq_append_getElem h,List.flatMap_append,List.flatMap_singleton]
theorem lies_any {w:World} {B:Nat} {v:Value} {L:List M} (h:Row.Own dE 167 w B v L):∃ a c,v=.slice a L.length c∧Row.Lies dE w a L.length L:=by
 obtain ⟨a,c,e,-,-,hl,-⟩:=h.lies;exact ⟨a,c,e,hl⟩
theorem mayB_any (J:List RI) (a:Option Addr) (c:Nat) (w:World) (hJ:Row.Lies iE w a J.length J) (hD:∀ y ∈ J,Inner w y) (hn:J.length≤1048576) (hd:∀ y ∈ J,y.t.length≤1048576∧y.d.length≤1048576) (hs:(J.flatMap RI.d).length≤549755813888) :
  CB 107 #[.slice a J.length c] w (mayB (J.map RI.it)):=by
 have LJ:=hid hJ;have LD:=hid hD;have HD:=hid hd;have HS:=hid hs;obtain ⟨V,hV⟩:=nm (mayB (J.map RI.it));have HM:Hid (V=mayRj ((J.take 0).flatMap RI.d) (pI J 0) (J.drop 0)):=hid (by rw[hV];exact mayRj_is J [] none);rw[← hV];clear hV hJ hD hd hs;have hb:=Below.refl w.heap.size w;have O0:Hid (Row.Own dE 167 w w.heap.size (.slice none 0 0) ((J.take 0).flatMap RI.d)):=hid (Row.Own.nil _ _);go_enter Tryz.func107,Tryz.ntmps107;go_wp2_with fail
 go_loopw [3,4] (fun lv iv wr=>∃ (i:Nat) (v:Value),i≤J.length∧v=lv∧iv=.int .i64 i∧Hid (V=mayRj ((J.take i).flatMap RI.d) (pI J i) (J.drop i))∧Below w.heap.size w wr∧Hid (Row.Own dE 167 wr w.heap.size v ((J.take i).flatMap RI.d))) (fun _ iv _=>J.length - (intOf iv).toNat)
 case atStart=>exact ⟨0,_,by omega,rfl,rfl,HM,hb,O0⟩
 clear HM hb O0;obtain ⟨i,v,hi,rfl,rfl,HM,hb,O⟩:=hrel;by_cases hlt:i<J.length;rotate_left
 ·have HE:Hid (V=true):=hid (by rw[HM.out,List.drop_eq_nil_of_le (by omega)];rfl);go_wp2;go_ret;exact ⟨by rw[HE.out];rfl,hb⟩
 have d1:=dT (p:=(i:Int)<(J.length:Int));have j1:(0:Int)≤(i:Int):=by omega
 have j2:(i:Int)<(J.length:Int):=by omega
 obtain ⟨b,o,hea,hc⟩:=(LJ.out.below hb).2 (by omega);rw[hea];obtain ⟨c0,c1⟩:=cl2 (o+i*2) (hc i hlt);have hst:=mayRj_step ((J.take i).flatMap RI.d) hlt;rw[← HM.out] at hst;have HPV:Hid (∀ k',i=k'+1→∃ pv,pI J i=some pv∧wr.cell? ⟨b,o+k'*2,none⟩=some ↑pv):=hid (fun k' hk=>by
  subst hk;have hkl:k'<J.length:=by omega
  exact ⟨(J[k']).t,pI_next hkl,hc k' hkl 0 _ rfl⟩)
 have HK:=hid (pls_take_le J i);have HK2:=hid (pls_take_le J (i+1));have SF:=hid (step_flat hlt);have ly:Hid (Row.Lies dE wr (J[i]).a (J[i]).d.length (J[i]).d):=hid ((LD.out _ (List.getElem_mem hlt)).below hb);have hdy:=HD.out _ (List.getElem_mem hlt);obtain ⟨x,hx⟩:=nm J[i];rw[← hx] at c0 c1 hst ly hdy SF;obtain ⟨t,da,dc,D⟩:=x;dsimp only at c0 c1 hst ly hdy SF;obtain ⟨K,hK⟩:=nm ((J.take i).flatMap RI.d);rw[← hK] at hst O HK SF;have HKE:=hid hK;obtain ⟨o',ho'⟩:=nm (pI J i);rw[← ho'] at hst;have HO':=hid ho';obtain ⟨bad,hbad⟩:=nm (badI o' (RI.it ⟨t,da,dc,D⟩));rw[← hbad] at hst;have HST:=hid hst;have HBD:=hid hbad;have HI:=hid hlt;have zt:=Str.size_mk t;have hdl:=hdy.2;have HTL:=hid hdy.1;clear hc hx hst hlt HM ho' hbad hK hdy hea;go_upto_region 6 with (fail)
 go_cut [47] (fun zv wx=>zv=.bool bad∧Below w.heap.size w wx∧Row.Own dE 167 wx w.heap.size v K∧Row.Lies dE wx da D.length D)
 case first =>
  by_cases h1:4096<t.length
  ·have a1:decide ((4096:Int)<(t.length:Int))=true:=dT;have HZ:Hid (bad=true):=hid (by rw[HBD.out];unfold badI;rw[show decide (4096<(RI.it ⟨t,da,dc,D⟩).t.length)=true from decide_eq_true h1];simp);clear h1 HPV;go_wp2_with fail
   refine rhd (aj5 hb c0 c1 O.out ly.out) fun gH=>?_;refine tk (.range 30) ?_;refine tD ?_;clear hb c0 c1 O ly;obtain ⟨hb,c0,c1,O,ly⟩:=gH;replace O:=hid O;replace ly:=hid ly;go_wp2_with fail
   go_meet;exact ⟨by rw[HZ.out],hb,O.out,ly.out⟩
  have a1:=dF (p:=(4096:Int)<(t.length:Int));by_cases h2:D.length=0
  ·have a2:decide ((D.length:Int)<1)=true:=dT;have a2n:=dT (p:=D.length<1);have HZ:Hid (bad=true):=hid (by rw[HBD.out];unfold badI;rw[show decide ((RI.it ⟨t,da,dc,D⟩).d.length=0)=true from decide_eq_true h2];simp);clear h1 HPV;go_wp2_with fail
   refine rhd (aj5 hb c0 c1 O.out ly.out) fun gH=>?_;refine tk (.range 30) ?_;refine tD ?_;clear hb c0 c1 O ly;obtain ⟨hb,c0,c1,O,ly⟩:=gH;replace O:=hid O;replace ly:=hid ly;go_wp2_with fail
   go_meet;exact ⟨by rw[HZ.out],hb,O.out,ly.out⟩
  have a2:=dF (p:=(D.length:Int)<1);have a2n:=dF (p:=D.length<1);have HY:Hid (bad=befT o' t):=hid (by
   rw[HBD.out];unfold badI;rw[show decide (4096<(RI.it ⟨t,da,dc,D⟩).t.length)=false from decide_eq_false h1,show decide ((RI.it ⟨t,da,dc,D⟩).d.length=0)=false from decide_eq_false h2,Bool.or_false,Bool.or_false];rfl)
  clear h1 h2;by_cases hi0:i=0
  ·have z1:decide ((0:Int)<(i:Int))=false:=dF;have z1n:=dF (p:=0<i);have HZ:Hid (bad=false):=hid (by rw[HY.out,HO'.out,hi0];rfl);clear hi0 HPV;go_wp2_with fail
   refine rhd (aj5 hb c0 c1 O.out ly.out) fun gH=>?_;refine tk (.range 30) ?_;refine tD ?_;clear hb c0 c1 O ly;obtain ⟨hb,c0,c1,O,ly⟩:=gH;replace O:=hid O;replace ly:=hid ly;go_wp2_with fail
   go_meet;exact ⟨by rw[HZ.out],hb,O.out,ly.out⟩
  obtain ⟨k',hk'⟩:∃ k',i=k'+1:=⟨i - 1,by omega⟩
  obtain ⟨pv,hpv,hp0⟩:=HPV.out k' hk';have z1:=dT (p:=(0:Int)<(i:Int));have z1n:=dT (p:=0<i);have w1:IntKind.i64.wrap ((i:Int) - 1)=(k':Int):=by rw[IntKind.wrap_i64];omega
  have j5:(0:Int)≤(k':Int):=by omega
  have j6:(k':Int)<(J.length:Int):=by omega
  have z2:o'=some pv:=HO'.out.trans hpv;have HY2:Hid (bad = !(decide (TL pv t))):=hid (by rw[HY.out,z2];rfl);have HK':=hid hk';clear z2 hi0 HPV hpv hk' HY;rcases tl_ways pv t with hw | hw | hw
  ·obtain ⟨q1,q2,q3,q4⟩:=ways_less hw;have HZ:Hid (bad=false):=hid (by rw[HY2.out,decide_eq_true hw];rfl);clear hw;go_wp2_with fail
   refine rhd (aj6 hb c0 c1 O.out ly.out hp0) fun gH=>?_;refine tk (.range 30) ?_;refine tD ?_;clear hb c0 c1 O ly hp0;obtain ⟨hb,c0,c1,O,ly,hp0⟩:=gH;replace O:=hid O;replace ly:=hid ly;go_wp2_with fail
   go_meet;exact ⟨by rw[HZ.out],hb,O.out,ly.out⟩
  ·have q1:=less_self t;have HZ:Hid (bad=true):=hid (by rw[HY2.out,decide_eq_false (by rw[hw];exact linT.irr t)];rfl);have q3:(pv == t)=true:=by simp[hw]
   have q4:(t == pv)=true:=by simp[hw]
   have q5:Op.bytesLess pv t=false:=by rw[hw];exact q1
   have q6:Op.bytesLess t pv=false:=by rw[hw];exact q1
   clear hw;go_wp2_with fail
   refine rhd (aj6 hb c0 c1 O.out ly.out hp0) fun gH=>?_;refine tk (.range 30) ?_;refine tD ?_;clear hb c0 c1 O ly hp0;obtain ⟨hb,c0,c1,O,ly,hp0⟩:=gH;replace O:=hid O;replace ly:=hid ly;go_wp2_with fail
   go_meet;exact ⟨by rw[HZ.out],hb,O.out,ly.out⟩
  obtain ⟨q1,q2,q3,q4⟩:=ways_less hw;have HZ:Hid (bad=true):=hid (by rw[HY2.out,decide_eq_false (fun h=>linT.irr _ (linT.trans hw h))];rfl);clear hw;go_wp2_with fail
  refine rhd (aj6 hb c0 c1 O.out ly.out hp0) fun gH=>?_;refine tk (.range 30) ?_;refine tD ?_;clear hb c0 c1 O ly hp0;obtain ⟨hb,c0,c1,O,ly,hp0⟩:=gH;replace O:=hid O;replace ly:=hid ly;go_wp2_with fail
  go_meet;exact ⟨by rw[HZ.out],hb,O.out,ly.out⟩
 clear hb c0 c1 O ly HPV;obtain ⟨rfl,hb,O,ly⟩:=hcut;replace O:=hid O;replace ly:=hid ly;cases bad
 rotate_left
 ·have HV2:Hid (V=false):=hid (by rw[HST.out];rfl);clear HST HBD;go_wp2;go_ret;exact ⟨by rw[HV2.out];rfl,hb⟩
 obtain ⟨U,hU⟩:=nm (mayRj (K++D) (pI J (i+1)) (J.drop (i+1)));have HV0:Hid (V=(dotsR K (pM D 0) (D.drop 0) && U)):=hid (by rw[HST.out,hU];rfl);have HU:=hid hU;clear HST HBD hU;go_wp2_with fail
 go_loopw [6] (fun jv wr=>∃ j:Nat,j≤D.length∧jv=.int .i64 j∧Hid (V=(dotsR K (pM D j) (D.drop j) && U))∧Below w.heap.size w wr∧Hid (Row.Own dE 167 wr w.heap.size v K)∧Hid (Row.Lies dE wr da D.length D)) (fun jv _=>D.length - (intOf jv).toNat)
 case atStart=>exact ⟨0,by omega,rfl,HV0,hb,O,ly⟩
 clear HV0 hb O ly;obtain ⟨j,hj,rfl,HM,hb,O,ly⟩:=hrel;by_cases hjt:j<D.length;rotate_left
 ·have HV2:Hid (V=mayRj ((J.take (i+1)).flatMap RI.d) (pI J (i+1)) (J.drop (i+1))):=hid (by rw[HM.out,List.drop_eq_nil_of_le (by omega),HU.out,SF.out];rfl);have dj:=dF (p:=(j:Int)<(D.length:Int));have HBZ:Hid (w.heap.size≤wr.heap.size):=hid hb.size;have HDL:Hid (K.length+D.length≤1099511627776):=hid (by have:=HS.out;have:=HK.out;omega);clear HM;go_wp2_with (at_builtin;refine Row.wpList_app typD rfl _ _ rfl w.heap.size _ K rfl O.out da D.length dc D rfl ly.out HDL.out HBZ.out ?_;intro v9 w9 o9 g9 k9)
  have O9:Hid (Row.Own dE 167 w9 w.heap.size v9 ((J.take (i+1)).flatMap RI.d)):=hid (by rw[SF.out];exact o9);replace hb:Below w.heap.size w w9:=hb.trans k9;clear o9 g9 k9;go_roundw
  ·exact ⟨i+1,v9,by have:=HI.out;omega,rfl,by go_num,HV2,hb,O9⟩
  simp[intOf];have:=HI.out;omega
 have dj:=dT (p:=(j:Int)<(D.length:Int));have j3:(0:Int)≤(j:Int):=by omega
 have j4:(j:Int)<(D.length:Int):=by omega
 obtain ⟨b2,o2,hda,hc2⟩:=ly.out.2 (by omega);obtain ⟨c2,c3⟩:=cl2 (o2+j*2) (hc2 j hjt);have hst:=dotsR_step K hjt;have HPM:Hid (∀ k',j=k'+1→∃ q:M,pM D j=some q∧wr.cell? ⟨b2,o2+k'*2,none⟩=some ↑q.p∧wr.cell? ⟨b2,o2+k'*2+1,none⟩=some ↑q.n):=hid (fun k' hk=>by
  subst hk;have hkl:k'<D.length:=by omega
  exact ⟨D[k'],by unfold pM;rw[if_neg (by omega),Nat.add_sub_cancel,List.getElem?_eq_getElem hkl],hc2 k' hkl 0 _ rfl,hc2 k' hkl 1 _ rfl⟩)
 obtain ⟨m,hm⟩:=nm D[j];rw[← hm] at hst c2 c3;obtain ⟨p,n⟩:=m;dsimp only at c2 c3;obtain ⟨o3,ho3⟩:=nm (pM D j);rw[← ho3] at hst;have HO3:=hid ho3;obtain ⟨q,hq⟩:=nm (decide ((⟨p,n⟩:M) ∈ K));rw[← hq] at hst;obtain ⟨ka,kc,hv,-⟩:=lies_any O.out;have CI:=hid (fun W (h:Row.Own dE 167 W w.heap.size v K)=>(by
  obtain ⟨ka2,kc2,hv2,hl2⟩:=lies_any h;rw[hq,hv2];exact RefBag.in_any K ⟨p,n⟩ ka2 K.length kc2 W hl2 (by have:=HS.out;have:=HK.out;omega):CB 175 #[v,.agg #[p,n]] W q))
 obtain ⟨bd,hbd⟩:=nm (badD o3 ⟨p,n⟩);rw[← hbd] at hst;have HBD:=hid hbd;obtain ⟨bad,hbad⟩:=nm (bd || q);rw[← hbad] at hst;have HBB:=hid hbad;have HST:Hid (V=((!bad && dotsR K (pM D (j+1)) (D.drop (j+1))) && U)):=hid (by rw[HM.out,← ho3,hst]);have HJ2:=hid hjt;have HDA:=hid hda;rw[hda];clear hc2 hm hst hjt HM ho3 hbd hbad hda hv hq;go_upto_region 11 with (fail)
 go_cut [100] (fun zv wx=>zv=.bool bad∧Below w.heap.size w wx∧Row.Own dE 167 wx w.heap.size v K∧Row.Lies dE wx da D.length D)
 case first =>
  by_cases hp:p=[]
  ·have e0:(p == [])=true:=by rw[hp];rfl
   have HZ:Hid (bad=true):=hid (by rw[HBB.out,HBD.out];unfold badD;rw[decide_eq_true hp];rfl);clear hp HPM;go_wp2_with fail
   refine rhd (aj5 hb O.out ly.out c2 c3) fun gH=>?_;refine tk (.range 47) ?_;refine tD ?_;clear hb O ly c2 c3;obtain ⟨hb,O,ly,c2,c3⟩:=gH;replace O:=hid O;replace ly:=hid ly;go_wp2_with fail
   go_meet;exact ⟨by rw[HZ.out],hb,O.out,ly.out⟩
  have e0:(p == [])=false:=by rw[beq_eq_false_iff_ne];exact hp
  by_cases h1:n<1
  ·have e1:decide ((n:Int)<1)=true:=dT;have e1n:=dT (p:=n<1);have HZ:Hid (bad=true):=hid (by rw[HBB.out,HBD.out];unfold badD;rw[decide_eq_true h1];simp);clear hp h1 HPM;go_wp2_with fail
   refine rhd (aj5 hb O.out ly.out c2 c3) fun gH=>?_;refine tk (.range 47) ?_;refine tD ?_;clear hb O ly c2 c3;obtain ⟨hb,O,ly,c2,c3⟩:=gH;replace O:=hid O;replace ly:=hid ly;go_wp2_with fail
   go_meet;exact ⟨by rw[HZ.out],hb,O.out,ly.out⟩
  have e1:=dF (p:=(n:Int)<1);have e1n:=dF (p:=n<1);by_cases h2:281474976710656<n
  ·have e2:decide ((281474976710656:Int)<(n:Int))=true:=dT;have e2n:=dT (p:=281474976710656<n);have HZ:Hid (bad=true):=hid (by rw[HBB.out,HBD.out];unfold badD;rw[decide_eq_true h2];simp);clear hp h1 h2 HPM;go_wp2_with fail
   refine rhd (aj5 hb O.out ly.out c2 c3) fun gH=>?_;refine tk (.range 47) ?_;refine tD ?_;clear hb O ly c2 c3;obtain ⟨hb,O,ly,c2,c3⟩:=gH;replace O:=hid O;replace ly:=hid ly;go_wp2_with fail
   go_meet;exact ⟨by rw[HZ.out],hb,O.out,ly.out⟩
  have e2:=dF (p:=(281474976710656:Int)<(n:Int));have e2n:=dF (p:=281474976710656<n);have HY:Hid (bd=beh o3 ⟨p,n⟩):=hid (by rw[HBD.out];unfold badD;rw[decide_eq_false hp,decide_eq_false h1,decide_eq_false h2];rfl);clear hp h1 h2;by_cases hi0:j=0
  ·have z1:decide ((0:Int)<(j:Int))=false:=dF;have z1n:=dF (p:=0<j);have HZ:Hid (bad=q):=hid (by rw[HBB.out,HY.out,HO3.out,hi0];rfl);clear hi0 HPM;go_wp2_with fail
   refine rhd (aj5 hb O.out ly.out c2 c3) fun gH=>?_;refine tk (.range 45) ?_;refine tR 45 fun K hK=>?_;go_simp;go_at_call 175;refine cr (CI.out _ gH.2.1) fun v1 k1=>?_;go_wp2_with fail
   refine tH hK gH k1 fun gH=>?_;clear hK K k1;refine tk [46] ?_;refine tD ?_;clear hb O ly c2 c3;obtain ⟨hb,O,ly,c2,c3⟩:=gH;replace O:=hid O;replace ly:=hid ly;go_wp2_with fail
   go_meet;exact ⟨by rw[HZ.out],hb,O.out,ly.out⟩
  obtain ⟨k',hk'⟩:∃ k',j=k'+1:=⟨j - 1,by omega⟩
  obtain ⟨pq,hpv,hp0,hp1⟩:=HPM.out k' hk';obtain ⟨pp,pn⟩:=pq;have z1:=dT (p:=(0:Int)<(j:Int));have z1n:=dT (p:=0<j);have w1:IntKind.i64.wrap ((j:Int) - 1)=(k':Int):=by rw[IntKind.wrap_i64];omega
  have j5:(0:Int)≤(k':Int):=by omega
  have j6:(k':Int)<(D.length:Int):=by omega
  have z2:o3=some ⟨pp,pn⟩:=HO3.out.trans hpv;obtain ⟨cz,hcz⟩:=nm (cmpD ⟨pp,pn⟩ ⟨p,n⟩);have HY2:Hid (bd=decide ((0:Int)≤cz)):=hid (by rw[HY.out,z2,hcz];exact not_dl _ _);have CC:=hid (fun W=>(by rw[hcz];exact RefDots.compare_any ⟨pp,pn⟩ ⟨p,n⟩ W:CB 174 #[.agg #[pp,pn],.agg #[p,n]] W (.int .i64 cz)));have HK':=hid hk';dsimp only at hp0 hp1;clear z2 hi0 HPM hpv hk' HY hcz;by_cases hz:0≤cz
  ·have e3:decide ((0:Int)≤cz)=true:=decide_eq_true hz;have HZ:Hid (bad=true):=hid (by rw[HBB.out,HY2.out,e3];rfl);clear hz;go_wp2_with fail
   refine rhd (aj7 hb O.out ly.out c2 c3 hp0 hp1) fun gH=>?_;refine tk (.range 35) ?_;refine tR 35 fun K hK=>?_;go_simp;go_at_call 174;refine cr (CC.out _) fun v2 k2=>?_;go_wp2_with fail
   refine tH hK gH k2 fun gH=>?_;clear hK K k2;refine tk (.range' 36 11) ?_;refine tD ?_;clear hb O ly c2 c3 hp0 hp1;obtain ⟨hb,O,ly,c2,c3,hp0,hp1⟩:=gH;replace O:=hid O;replace ly:=hid ly;go_wp2_with fail
   go_meet;exact ⟨by rw[HZ.out],hb,O.out,ly.out⟩
  have e3:decide ((0:Int)≤cz)=false:=decide_eq_false hz;have HZ:Hid (bad=q):=hid (by rw[HBB.out,HY2.out,e3];rfl);clear hz;go_wp2_with fail
  refine rhd (aj7 hb O.out ly.out c2 c3 hp0 hp1) fun gH=>?_;refine tk (.range 35) ?_;refine tR 35 fun K hK=>?_;go_simp;go_at_call 174;refine cr (CC.out _) fun v3 k3=>?_;go_wp2_with fail
  refine tH hK gH k3 fun gH=>?_;clear hK K k3;refine tk (.range' 36 9) ?_;refine tR 45 fun K hK=>?_;go_simp;go_at_call 175;refine cr (CI.out _ gH.2.1) fun v4 k4=>?_;go_wp2_with fail
  refine tH hK gH k4 fun gH=>?_;clear hK K k4;refine tk [46] ?_;refine tD ?_;clear hb O ly c2 c3 hp0 hp1;obtain ⟨hb,O,ly,c2,c3,hp0,hp1⟩:=gH;replace O:=hid O;replace ly:=hid ly;go_wp2_with fail
  go_meet;exact ⟨by rw[HZ.out],hb,O.out,ly.out⟩
 clear hb O ly c2 c3 HPM;obtain ⟨rfl,hb,O,ly⟩:=hcut;replace O:=hid O;replace ly:=hid ly;cases bad
 ·have HV2:Hid (V=(dotsR K (pM D (j+1)) (D.drop (j+1)) && U)):=hid (by rw[HST.out];rfl);clear HST HBD HBB;go_wp2;go_roundw
  ·exact ⟨j+1,by have:=HJ2.out;omega,by go_num,HV2,hb,O,by first | exact ly | (rw[HDA.out] at ly;exact ly)⟩
  simp[intOf];have:=HJ2.out;omega
 have HV2:Hid (V=false):=hid (by rw[HST.out];rfl);clear HST HBD HBB;go_wp2;go_ret;exact ⟨by rw[HV2.out];rfl,hb⟩
end RefMay
end Go.Proofs.YtnpjkmomllkhpaaGreatDoor
