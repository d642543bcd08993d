/- MemWord, MemMay, RefSameM. -/
import Derived.Test.YtnpjkmomllkhpaaGreatDoorTn36
import Derived.Test.YtnpjkmomllkhpaaGreatDoorTn35
set_option linter.unusedVariables false
set_option linter.unusedSimpArgs false
set_option maxRecDepth 100000
set_option maxHeartbeats 16000000
namespace Go.Proofs.YtnpjkmomllkhpaaGreatDoor
namespace Mem
open RowKit Num Path Coder
theorem not_true {v:Bool} (h:v=true→False):v=false:=by cases v;exact rfl;exact (h rfl).elim
theorem under_nil' (p:List UInt8):under (parse p) (parse [])=false:=by
 have:=under_nil p;unfold UnderM at this;simpa using this
theorem word_any (x:Wd) (w:World) (ok:x.Ok) :
  CB 192 #[.agg x] w (tv (WordM x)):=by
 obtain ⟨o,h,k,r,gg,c,pp⟩:=x;obtain ⟨v,hv⟩:=nm (tv (WordM ⟨o,h,k,r,gg,c,pp⟩));have HW:Hid (((((k=[]∧r=0)∨(UnderM o k∧RoundM r))∧h≤281474976710656∧c≤281474976710656∧(c=0∨gg=true)))↔v=true):=hid (tv_eq hv);have HT:Hid (∀ A:Prop,(A→v=true)→A→v=true):=hid (fun _ f a=>f a);have okk:=ok.k;have oko:=ok.o;simp only at okk oko ⊢;rw[← hv];obtain ⟨q1,hq1⟩:=nm (under (parse o) (parse k));obtain ⟨q2,hq2⟩:=nm (tv (RoundM r));have Q1:Hid (UnderM o k↔q1=true):=hid (by rw[hq1];exact Iff.rfl);have Q2:Hid (RoundM r↔q2=true):=hid (tv_eq hq2);have C1:=hid (fun W=>qB hq1 (Path.under_any o k W (by omega) (by omega)));have C2:=hid (fun W=>qB hq2 (round_any r W));have HN:Hid (k=[]→q1=false):=hid (fun e=>by rw[hq1,e];exact under_nil' o);clear hv hq1 hq2 okk oko ok;go_enter Tryz.func192,Tryz.ntmps192;go_upto_region 1 with (fail)
 have hb0:=balloc (Below.refl w.heap.size w) (.cells #[o,h,k,r,gg,c,pp] 94);obtain ⟨t0,t1,t2,t3,t4,t5,t6⟩:=al7 (bx w [o,h,k,r,gg,c,pp] 94);obtain ⟨w0,hw0⟩:=nm (w.alloc (.cells #[o,h,k,r,gg,c,pp] 94));rw[← hw0] at hb0 t0 t1 t2 t3 t4 t5 t6 ⊢;obtain ⟨bt,hbt⟩:=nm w.heap.size;rw[← hbt] at t0 t1 t2 t3 t4 t5 t6 ⊢;have hb:=hb0;clear hb0 hw0 hbt;by_cases hk:k=[]
 ·
  have n0:(k != [])=false:=by rw[hk];rfl
  have n1:(k == [])=true:=by rw[hk];rfl
  have n2:k.isEmpty=true:=by rw[hk];rfl
  have hq:=HN.out hk;by_cases hr:1≤r;rotate_left
  ·
   have dr:(((r:Int)) == 0)=true:=bT;have drn:(((r:Int)) != 0)=false:=by rw[bne,dr];rfl
   have HK:=hid hk;have HR:=hid hr;clear hk hr;by_cases h6:h≤281474976710656;rotate_left
   ·
    have d6:=dF (p:=(h:Int)≤281474976710656);have d6g:=dF (p:=281474976710656≥(h:Int));have HE:Hid (v=false):=hid (not_true fun e=>by have f:=HW.out.2 e;exact h6 f.2.1);clear HW;go_wp2;go_ret;exact ⟨by rw[HE.out];rfl,hb⟩
   have d6:=dT (p:=(h:Int)≤281474976710656);have d6g:=dT (p:=281474976710656≥(h:Int));by_cases h7:c≤281474976710656;rotate_left
   ·
    have d7:=dF (p:=(c:Int)≤281474976710656);have d7g:=dF (p:=281474976710656≥(c:Int));have HE:Hid (v=false):=hid (not_true fun e=>by have f:=HW.out.2 e;exact h7 f.2.2.1);clear HW;go_wp2;go_ret;exact ⟨by rw[HE.out];rfl,hb⟩
   have d7:=dT (p:=(c:Int)≤281474976710656);have d7g:=dT (p:=281474976710656≥(c:Int));by_cases h8:1≤c;rotate_left
   ·
    have d8:(((c:Int)) == 0)=true:=bT;have d8n:(((c:Int)) != 0)=false:=by rw[bne,d8];rfl
    have HE:Hid (v=true):=hid (HW.out.1 (⟨.inl ⟨HK.out,by have:=HR.out;omega⟩,h6,h7,.inl (by omega)⟩));clear HW;go_wp2;go_ret;exact ⟨by rw[HE.out];rfl,hb⟩
   have d8:(((c:Int)) == 0)=false:=bF;have d8n:(((c:Int)) != 0)=true:=by rw[bne,d8];rfl
   cases gg
   ·
    have HE:Hid (v=false):=hid (not_true fun e=>by have f:=HW.out.2 e;exact f.2.2.2.elim (fun f=>by omega) (fun f=>by cases f));clear HW;go_wp2;go_ret;exact ⟨by rw[HE.out];rfl,hb⟩
   have HE:Hid (v=true):=hid (HW.out.1 (⟨.inl ⟨HK.out,by have:=HR.out;omega⟩,h6,h7,.inr rfl⟩));clear HW;go_wp2;go_ret;exact ⟨by rw[HE.out];rfl,hb⟩
  have dr:(((r:Int)) == 0)=false:=bF;have drn:(((r:Int)) != 0)=true:=by rw[bne,dr];rfl
  subst hq;have HR:=hid hr;clear hk hr;go_wp2_with fail
  refine cr (C1.out _) fun v1 k1=>?_;have hA:=kp k1 (aj7 t0 t1 t2 t3 t4 t5 t6);clear t0 t1 t2 t3 t4 t5 t6;obtain ⟨t0,t1,t2,t3,t4,t5,t6⟩:=hA;replace hb:=bstep hb k1;clear k1;have HE:Hid (v=false):=hid (not_true fun e=>by have f:=HW.out.2 e;exact f.1.elim (fun f=>by have hr:=HR.out;omega) (fun f=>by have:=Q1.out.1 f.1;cases this));clear HW;go_wp2;go_ret;exact ⟨by rw[HE.out];rfl,hb⟩
 have n0:(k != [])=true:=by rw[bne_iff_ne];exact hk
 have n1:(k == [])=false:=by rw[beq_eq_false_iff_ne];exact hk
 have n2:k.isEmpty=false:=by rw[List.isEmpty_eq_false_iff];exact hk
 have HK:=hid hk;clear hk;go_wp2_with fail
 refine cr (C1.out _) fun v2 k2=>?_;have hA:=kp k2 (aj7 t0 t1 t2 t3 t4 t5 t6);clear t0 t1 t2 t3 t4 t5 t6;obtain ⟨t0,t1,t2,t3,t4,t5,t6⟩:=hA;replace hb:=bstep hb k2;clear k2;cases q1
 ·
  have HE:Hid (v=false):=hid (not_true fun e=>by have f:=HW.out.2 e;exact f.1.elim (fun f=>HK.out f.1) (fun f=>by have:=Q1.out.1 f.1;cases this));clear HW;go_wp2;go_ret;exact ⟨by rw[HE.out];rfl,hb⟩
 go_wp2_with fail
 refine cr (C2.out _) fun v3 k3=>?_;have hA:=kp k3 (aj7 t0 t1 t2 t3 t4 t5 t6);clear t0 t1 t2 t3 t4 t5 t6;obtain ⟨t0,t1,t2,t3,t4,t5,t6⟩:=hA;replace hb:=bstep hb k3;clear k3;cases q2
 ·
  have HE:Hid (v=false):=hid (not_true fun e=>by have f:=HW.out.2 e;exact f.1.elim (fun f=>HK.out f.1) (fun f=>by have:=Q2.out.1 f.2;cases this));clear HW;go_wp2;go_ret;exact ⟨by rw[HE.out];rfl,hb⟩
 by_cases h6:h≤281474976710656;rotate_left
 ·
  have d6:=dF (p:=(h:Int)≤281474976710656);have d6g:=dF (p:=281474976710656≥(h:Int));have HE:Hid (v=false):=hid (not_true fun e=>by have f:=HW.out.2 e;exact h6 f.2.1);clear HW;go_wp2;go_ret;exact ⟨by rw[HE.out];rfl,hb⟩
 have d6:=dT (p:=(h:Int)≤281474976710656);have d6g:=dT (p:=281474976710656≥(h:Int));by_cases h7:c≤281474976710656;rotate_left
 ·
  have d7:=dF (p:=(c:Int)≤281474976710656);have d7g:=dF (p:=281474976710656≥(c:Int));have HE:Hid (v=false):=hid (not_true fun e=>by have f:=HW.out.2 e;exact h7 f.2.2.1);clear HW;go_wp2;go_ret;exact ⟨by rw[HE.out];rfl,hb⟩
 have d7:=dT (p:=(c:Int)≤281474976710656);have d7g:=dT (p:=281474976710656≥(c:Int));by_cases h8:1≤c;rotate_left
 ·
  have d8:(((c:Int)) == 0)=true:=bT;have d8n:(((c:Int)) != 0)=false:=by rw[bne,d8];rfl
  have HE:Hid (v=true):=hid (HW.out.1 (⟨.inr ⟨Q1.out.2 (by simp),Q2.out.2 (by simp)⟩,h6,h7,.inl (by omega)⟩));clear HW;go_wp2;go_ret;exact ⟨by rw[HE.out];rfl,hb⟩
 have d8:(((c:Int)) == 0)=false:=bF;have d8n:(((c:Int)) != 0)=true:=by rw[bne,d8];rfl
 cases gg
 ·
  have HE:Hid (v=false):=hid (not_true fun e=>by have f:=HW.out.2 e;exact f.2.2.2.elim (fun f=>by omega) (fun f=>by cases f));clear HW;go_wp2;go_ret;exact ⟨by rw[HE.out];rfl,hb⟩
 have HE:Hid (v=true):=hid (HW.out.1 (⟨.inr ⟨Q1.out.2 (by simp),Q2.out.2 (by simp)⟩,h6,h7,.inr rfl⟩));clear HW;go_wp2;go_ret;exact ⟨by rw[HE.out];rfl,hb⟩
theorem words_any (J:List RM) (a:Option Addr) (c mb n:Nat) (x:RM) (w:World) (hJ:Row.Lies mbE w a J.length J) (hM:At w mb n J) (hn:J.length≤1048576) (hI:Row.Lies wdE w x.wa x.w.length x.w) (hw:x.w.length≤1048576) (hm:∀ s ∈ x.w,s.Ok) :
  CB 128 #[.slice a J.length c,.map (some mb),.agg x] w (tv (WordsM (J.map RM.m) x.p x.w)):=by
 obtain ⟨t,ss,kk,cc,ll,ga,gc,gg,qq,wa,wc,ww⟩:=x;simp only at hI hw hm ⊢;have LJ:=hid hJ;have M0:=hid hM;have HI:=hid hI;have HM:=hid hm;have HN:=hid (And.intro hn hw);clear hI hm hw hJ hM hn;go_enter Tryz.func128,Tryz.ntmps128;go_upto_region 1 with (fail)
 have hb0:=balloc (Below.refl w.heap.size w) (.cells #[t,.int .u8 (ss:Int),.int .i64 kk,.int .i64 cc,ll,.slice ga gg.length gc,qq.k,qq.r,qq.l,qq.a.b,qq.a.n,qq.a.o,qq.a.m,qq.d,.slice wa ww.length wc] 92);obtain ⟨t0,t1,t2,t3,t4,t5,t6,t7,t8,t9,t10,t11,t12,t13,t14⟩:=al15 (bx w [t,.int .u8 (ss:Int),.int .i64 kk,.int .i64 cc,ll,.slice ga gg.length gc,qq.k,qq.r,qq.l,qq.a.b,qq.a.n,qq.a.o,qq.a.m,qq.d,.slice wa ww.length wc] 92);obtain ⟨w0,hw0⟩:=nm (w.alloc (.cells #[t,.int .u8 (ss:Int),.int .i64 kk,.int .i64 cc,ll,.slice ga gg.length gc,qq.k,qq.r,qq.l,qq.a.b,qq.a.n,qq.a.o,qq.a.m,qq.d,.slice wa ww.length wc] 92));rw[← hw0] at hb0 t0 t1 t2 t3 t4 t5 t6 t7 t8 t9 t10 t11 t12 t13 t14 ⊢;obtain ⟨bt,hbt⟩:=nm w.heap.size;rw[← hbt] at t0 t1 t2 t3 t4 t5 t6 t7 t8 t9 t10 t11 t12 t13 t14 ⊢;have hb:=hb0;clear hb0 hw0 hbt t1 t2 t3 t4 t5 t6 t7 t8 t9 t10 t11 t12 t13;go_wp2_with fail
 go_loopw [14] (fun iv wr=>∃ k:Nat,k≤ww.length∧iv=.int .i64 k∧Hid (∀ j,j<k→WordAt (J.map RM.m) t ww j)∧Below w.heap.size w wr∧wr.cell? ⟨bt,0,none⟩=some ↑t∧wr.cell? ⟨bt,14,none⟩=some (.slice wa ww.length wc)) (fun iv _=>ww.length - (intOf iv).toNat)
 case atStart=>exact ⟨0,by omega,rfl,hid (fun j h=>absurd h (by omega)),hb,t0,t14⟩
 clear hb t0 t14;obtain ⟨k,hk,rfl,HA,hb,t0,t14⟩:=hrel;by_cases hlt:k<ww.length;rotate_left
 ·have d1:decide ((k:Int)<(ww.length:Int))=false:=dF;have HE:Hid (tv (WordsM (J.map RM.m) t ww)=true):=hid (tv_true fun j hj=>HA.out j (by omega));clear HA;go_wp2;go_ret;exact ⟨by rw[HE.out];rfl,hb⟩
 obtain ⟨b,off,rfl,hcell⟩:=(HI.out.below hb).2 (by omega);have d1:=dT (p:=(k:Int)<(ww.length:Int));have j1:(0:Int)≤(k:Int):=by omega
 have j2:(k:Int)<(ww.length:Int):=by omega
 obtain ⟨c0,c1,c2,c3,c4,c5,c6⟩:=cl7 (off+k*7) (hcell k hlt);have mo:=HM.out _ (List.getElem_mem hlt);have HD:Hid (∀ h:k<ww.length,ww[k]=ww[k]):=hid (fun _=>rfl);have hwa:∀ A:Prop,(WordAt (J.map RM.m) t ww k→A)→WordAt (J.map RM.m) t ww k→A:=fun _ f a=>f a;obtain ⟨d,hd⟩:=nm ww[k];rw[← hd] at c0 c1 c2 c3 c4 c5 c6 mo;have HDE:Hid (∀ h:k<ww.length,ww[k]=d):=hid (fun _=>hd.symm);have HW1:Hid (WordAt (J.map RM.m) t ww k→(0<k→∀ h':k - 1<ww.length,cmpP (ww[k - 1]).o d.o<0)∧(∃ x,ofM (J.map RM.m) d.o=some x∧x.s=4)∧d.o≠t∧WordM d):=hid (fun f=>by have q:=f hlt;rw[← hd] at q;exact q);have HW2:Hid (((0<k→∀ h':k - 1<ww.length,cmpP (ww[k - 1]).o d.o<0)∧(∃ x,ofM (J.map RM.m) d.o=some x∧x.s=4)∧d.o≠t∧WordM d)→WordAt (J.map RM.m) t ww k):=hid (fun f _=>by rw[← hd];exact f);have HOL:Hid (d.o.length≤1048576):=hid mo.o;obtain ⟨q5,hq5⟩:=nm (tv (WordM d));have Q5:Hid (WordM d↔q5=true):=hid (tv_eq hq5);have C5:=hid (fun W=>qB hq5 (word_any d W mo));have hlk:=plc_ways J d.o;clear HD hwa hd mo hq5;by_cases h4:0<k
 ·
  obtain ⟨k1,hk1⟩:∃ k1,k=k1+1:=⟨k - 1,by omega⟩
  have w1:IntKind.i64.wrap ((k:Int) - 1)=(k1:Int):=by rw[IntKind.wrap_i64];have:=HN.out;omega
  have i1:(0:Int)≤(k1:Int):=by omega
  have i2:(k1:Int)<(ww.length:Int):=by omega
  have c9:=cl1 (off+k1*7) (hcell k1 (by omega));have uo:=(HM.out _ (List.getElem_mem (show k1<ww.length by omega))).o;obtain ⟨u,hu⟩:=nm ((ww[k1]).o);rw[← hu] at c9 uo;have HU:Hid (∀ h':k - 1<ww.length,(ww[k - 1]).o=u):=hid (fun h'=>by rw[hu];congr 2;omega);obtain ⟨z,hz⟩:=nm (cmpP u d.o);have CC:=hid (fun W=>Path.compare_any u d.o W (by omega) (by have:=HOL.out;omega));rw[← hz] at CC;have HZ:=hid hz;clear hu hk1 uo hz;have d2:=dT (p:=0<(k:Int));have d2g:decide ((k:Int) > 0)=true:=d2;have d2n:decide (0<k)=true:=decide_eq_true h4;have HLT:=hid hlt;have H4:=hid h4;clear hcell hlt hk h4;go_upto_region 4 with (fail)
  clear c0 c1 c2 c3 c4 c5 c6;obtain ⟨s0,s1,s2,s3,s4,s5,s6⟩:=al7 (bx (wr) d 94);have hA:=kp (w:=wr) (balo (.cells d 94)) (aj3 t0 t14 c9);clear t0 t14 c9;obtain ⟨t0,t14,c9⟩:=hA;replace hb:=bstep hb (balloc (Below.refl _ _) (.cells d 94));obtain ⟨wd,hwd⟩:=nm ((wr).alloc (.cells d 94));rw[← hwd] at hb t0 t14 c9 s0 s1 s2 s3 s4 s5 s6 ⊢;obtain ⟨bs,hbs⟩:=nm ((wr).heap.size);rw[← hbs] at s0 s1 s2 s3 s4 s5 s6 ⊢;clear hwd hbs;by_cases hz:z<0;rotate_left
  ·
   have d3:=dT (p:=z≥0);have d3g:decide (0≤z)=true:=d3;have HE:Hid (tv (WordsM (J.map RM.m) t ww)=false):=hid (tv_false fun F0=>hz (by have q:=(HW1.out (F0 k HLT.out)).1 H4.out (by have:=HLT.out;omega);rw[HU.out,← HZ.out] at q;exact q));clear HA HW1 HW2 hlk hz;refine rh (aj11 hb t0 t14 c9 s0 s1 s2 s3 s4 s5 s6) fun wd gH=>?_;refine tk (.range 12) ?_;refine tR 12 fun K hK=>?_;go_simp;go_at_call 120;refine cr (CC.out _) fun v4 k4=>?_;go_wp2_with fail
   refine tH hK gH k4 fun gH=>?_;clear hK K k4;refine tk [13,14] ?_;refine tD ?_;clear hb t0 t14 c9 s0 s1 s2 s3 s4 s5 s6;obtain ⟨hb,t0,t14,c9,s0,s1,s2,s3,s4,s5,s6⟩:=gH;go_wp2;go_ret;exact ⟨by rw[HE.out];rfl,hb⟩
  have d3:=dF (p:=z≥0);have d3g:decide (0≤z)=false:=d3;rw[HZ.out] at hz;refine rh (aj11 hb t0 t14 c9 s0 s1 s2 s3 s4 s5 s6) fun wd gH=>?_;refine tk (.range 12) ?_;refine tR 12 fun K hK=>?_;go_simp;go_at_call 120;refine cr (CC.out _) fun v5 k5=>?_;go_wp2_with fail
  refine tH hK gH k5 fun gH=>?_;clear hK K k5;refine tk [13,14] ?_;refine tD ?_;clear hb t0 t14 c9 s0 s1 s2 s3 s4 s5 s6;obtain ⟨hb,t0,t14,c9,s0,s1,s2,s3,s4,s5,s6⟩:=gH;clear c9;rcases hlk with ⟨l1,l2⟩ | ⟨i,hi,l1,l2⟩
  ·
   have HLV:Hid ((plc J d.o).getD (.int .i64 0)=.int .i64 0):=hid (by rw[l1];rfl);have HLI:Hid ((plc J d.o).isSome=false):=hid (by rw[l1];rfl);have HE:Hid (tv (WordsM (J.map RM.m) t ww)=false):=hid (tv_false fun F0=>by obtain ⟨y,e,_⟩:=(HW1.out (F0 k HLT.out)).2.1;rw[l2] at e;cases e);have M:=hid (TextMap.Is.below M0.out hb);clear HA HW1 HW2 l1 l2;go_wp2_with (at_lookup;refine TextMap.wpList_look_ok Tryz.underlying172 Tryz.underlying9 zero_int rfl _ _ rfl mb n (plc J) d.o rfl M.out rfl (by have:=HOL.out;unfold maxLen;omega) _ HLV.out false HLI.out ?_)
   go_ret;exact ⟨by rw[HE.out];rfl,hb⟩
  have HLV:Hid ((plc J d.o).getD (.int .i64 0)=.int .i64 (i:Int)):=hid (by rw[l1];rfl);have HLI:Hid ((plc J d.o).isSome=true):=hid (by rw[l1];rfl);obtain ⟨b2,o2,rfl,hJc⟩:=(LJ.out.below hb).2 (by omega);have m1:(0:Int)≤(i:Int):=by omega
  have m2:(i:Int)<(J.length:Int):=by omega
  have v1:_root_.Go.World.cell? _ ⟨b2,o2+i*15+1,none⟩=some (.int .u8 ((J[i]).s:Int)):=hJc i hi 1 _ rfl;obtain ⟨s9,hs9⟩:=nm ((J[i]).s);rw[← hs9] at v1;have HS9:Hid (∀ y,ofM (J.map RM.m) d.o=some y→y.s=s9):=hid (fun y e=>by rw[l2] at e;cases e;exact hs9.symm);have HOF:Hid (∃ y,ofM (J.map RM.m) d.o=some y∧y.s=s9):=hid ⟨_,l2,hs9.symm⟩;have M:=hid (TextMap.Is.below M0.out hb);clear l1 l2 hJc hs9 hi;go_upto_region 7 with (at_lookup;refine TextMap.wpList_look_ok Tryz.underlying172 Tryz.underlying9 zero_int rfl _ _ rfl mb n (plc J) d.o rfl M.out rfl (by have:=HOL.out;unfold maxLen;omega) _ HLV.out true HLI.out ?_)
  clear M;by_cases h5:4≤s9∧s9≤4;rotate_left
  ·
   have d5:(((s9:Int)) == 4)=false:=bF;have d5n:(((s9:Int)) != 4)=true:=by rw[bne,d5];rfl
   have HE:Hid (tv (WordsM (J.map RM.m) t ww)=false):=hid (tv_false fun F0=>by have f:=HW1.out (F0 k HLT.out);obtain ⟨y,e1,e2⟩:=f.2.1;exact h5 (by have:=HS9.out y e1;omega));clear HA HW1 HW2;go_wp2;go_ret;exact ⟨by rw[HE.out];rfl,hb⟩
  have d5:(((s9:Int)) == 4)=true:=bT;have d5n:(((s9:Int)) != 4)=false:=by rw[bne,d5];rfl
  by_cases h6:d.o≠t;rotate_left
  ·
   have h6:=Classical.not_not.1 h6;have d6:(d.o == t)=true:=by rw[beq_iff_eq];exact h6
   have d6n:(d.o != t)=false:=by rw[bne,d6];rfl
   have HE:Hid (tv (WordsM (J.map RM.m) t ww)=false):=hid (tv_false fun F0=>by have f:=HW1.out (F0 k HLT.out);exact f.2.2.1 h6);clear HA HW1 HW2;go_wp2;go_ret;exact ⟨by rw[HE.out];rfl,hb⟩
  have d6:(d.o == t)=false:=by rw[beq_eq_false_iff_ne];exact h6
  have d6n:(d.o != t)=true:=by rw[bne,d6];rfl
  go_wp2_with fail
  refine cr (C5.out _) fun v6 k6=>?_;have hA:=kp k6 (aj10 t0 t14 s0 s1 s2 s3 s4 s5 s6 v1);clear t0 t14 s0 s1 s2 s3 s4 s5 s6 v1;obtain ⟨t0,t14,s0,s1,s2,s3,s4,s5,s6,v1⟩:=hA;replace hb:=bstep hb k6;clear k6;cases q5
  ·
   have HE:Hid (tv (WordsM (J.map RM.m) t ww)=false):=hid (tv_false fun F0=>by have f:=HW1.out (F0 k HLT.out);have:=Q5.out.1 f.2.2.2;cases this);clear HA HW1 HW2;go_wp2;go_ret;exact ⟨by rw[HE.out];rfl,hb⟩
  have HA2:Hid (∀ j,j<k+1→WordAt (J.map RM.m) t ww j):=hid (upto_succ HA.out (HW2.out ⟨fun _ h'=>by rw[HU.out];exact hz,by obtain ⟨y,e1,e2⟩:=HOF.out;exact ⟨y,e1,by omega⟩,h6,Q5.out.2 (by simp)⟩));clear HA HW1 HW2;have hB1:=HN.out;have hB2:=HLT.out;go_wp2;go_roundw
  ·exact ⟨k+1,by have:=HLT.out;omega,by go_num,HA2,hb,t0,t14⟩
  have:=HLT.out;simp[intOf];omega
 have d2:=dF (p:=0<(k:Int));have d2g:decide ((k:Int) > 0)=false:=d2;have d2n:decide (0<k)=false:=decide_eq_false h4;have HLT:=hid hlt;have H4:=hid h4;clear hcell hlt hk h4;go_upto_region 4 with (fail)
 clear c0 c1 c2 c3 c4 c5 c6;obtain ⟨s0,s1,s2,s3,s4,s5,s6⟩:=al7 (bx (wr) d 94);have hA:=kp (w:=wr) (balo (.cells d 94)) (aj2 t0 t14);clear t0 t14;obtain ⟨t0,t14⟩:=hA;replace hb:=bstep hb (balloc (Below.refl _ _) (.cells d 94));obtain ⟨wd,hwd⟩:=nm ((wr).alloc (.cells d 94));rw[← hwd] at hb t0 t14 s0 s1 s2 s3 s4 s5 s6 ⊢;obtain ⟨bs,hbs⟩:=nm ((wr).heap.size);rw[← hbs] at s0 s1 s2 s3 s4 s5 s6 ⊢;clear hwd hbs;refine rh (aj10 hb t0 t14 s0 s1 s2 s3 s4 s5 s6) fun wd gH=>?_;refine tk (.range 15) ?_;refine tD ?_;clear hb t0 t14 s0 s1 s2 s3 s4 s5 s6;obtain ⟨hb,t0,t14,s0,s1,s2,s3,s4,s5,s6⟩:=gH;rcases hlk with ⟨l1,l2⟩ | ⟨i,hi,l1,l2⟩
 ·
  have HLV:Hid ((plc J d.o).getD (.int .i64 0)=.int .i64 0):=hid (by rw[l1];rfl);have HLI:Hid ((plc J d.o).isSome=false):=hid (by rw[l1];rfl);have HE:Hid (tv (WordsM (J.map RM.m) t ww)=false):=hid (tv_false fun F0=>by obtain ⟨y,e,_⟩:=(HW1.out (F0 k HLT.out)).2.1;rw[l2] at e;cases e);have M:=hid (TextMap.Is.below M0.out hb);clear HA HW1 HW2 l1 l2;go_wp2_with (at_lookup;refine TextMap.wpList_look_ok Tryz.underlying172 Tryz.underlying9 zero_int rfl _ _ rfl mb n (plc J) d.o rfl M.out rfl (by have:=HOL.out;unfold maxLen;omega) _ HLV.out false HLI.out ?_)
  go_ret;exact ⟨by rw[HE.out];rfl,hb⟩
 have HLV:Hid ((plc J d.o).getD (.int .i64 0)=.int .i64 (i:Int)):=hid (by rw[l1];rfl);have HLI:Hid ((plc J d.o).isSome=true):=hid (by rw[l1];rfl);obtain ⟨b2,o2,rfl,hJc⟩:=(LJ.out.below hb).2 (by omega);have m1:(0:Int)≤(i:Int):=by omega
 have m2:(i:Int)<(J.length:Int):=by omega
 have v1:_root_.Go.World.cell? _ ⟨b2,o2+i*15+1,none⟩=some (.int .u8 ((J[i]).s:Int)):=hJc i hi 1 _ rfl;obtain ⟨s9,hs9⟩:=nm ((J[i]).s);rw[← hs9] at v1;have HS9:Hid (∀ y,ofM (J.map RM.m) d.o=some y→y.s=s9):=hid (fun y e=>by rw[l2] at e;cases e;exact hs9.symm);have HOF:Hid (∃ y,ofM (J.map RM.m) d.o=some y∧y.s=s9):=hid ⟨_,l2,hs9.symm⟩;have M:=hid (TextMap.Is.below M0.out hb);clear l1 l2 hJc hs9 hi;go_upto_region 7 with (at_lookup;refine TextMap.wpList_look_ok Tryz.underlying172 Tryz.underlying9 zero_int rfl _ _ rfl mb n (plc J) d.o rfl M.out rfl (by have:=HOL.out;unfold maxLen;omega) _ HLV.out true HLI.out ?_)
 clear M;by_cases h5:4≤s9∧s9≤4;rotate_left
 ·
  have d5:(((s9:Int)) == 4)=false:=bF;have d5n:(((s9:Int)) != 4)=true:=by rw[bne,d5];rfl
  have HE:Hid (tv (WordsM (J.map RM.m) t ww)=false):=hid (tv_false fun F0=>by have f:=HW1.out (F0 k HLT.out);obtain ⟨y,e1,e2⟩:=f.2.1;exact h5 (by have:=HS9.out y e1;omega));clear HA HW1 HW2;go_wp2;go_ret;exact ⟨by rw[HE.out];rfl,hb⟩
 have d5:(((s9:Int)) == 4)=true:=bT;have d5n:(((s9:Int)) != 4)=false:=by rw[bne,d5];rfl
 by_cases h6:d.o≠t;rotate_left
 ·
  have h6:=Classical.not_not.1 h6;have d6:(d.o == t)=true:=by rw[beq_iff_eq];exact h6
  have d6n:(d.o != t)=false:=by rw[bne,d6];rfl
  have HE:Hid (tv (WordsM (J.map RM.m) t ww)=false):=hid (tv_false fun F0=>by have f:=HW1.out (F0 k HLT.out);exact f.2.2.1 h6);clear HA HW1 HW2;go_wp2;go_ret;exact ⟨by rw[HE.out];rfl,hb⟩
 have d6:(d.o == t)=false:=by rw[beq_eq_false_iff_ne];exact h6
 have d6n:(d.o != t)=true:=by rw[bne,d6];rfl
 go_wp2_with fail
 refine cr (C5.out _) fun v7 k7=>?_;have hA:=kp k7 (aj10 t0 t14 s0 s1 s2 s3 s4 s5 s6 v1);clear t0 t14 s0 s1 s2 s3 s4 s5 s6 v1;obtain ⟨t0,t14,s0,s1,s2,s3,s4,s5,s6,v1⟩:=hA;replace hb:=bstep hb k7;clear k7;cases q5
 ·
  have HE:Hid (tv (WordsM (J.map RM.m) t ww)=false):=hid (tv_false fun F0=>by have f:=HW1.out (F0 k HLT.out);have:=Q5.out.1 f.2.2.2;cases this);clear HA HW1 HW2;go_wp2;go_ret;exact ⟨by rw[HE.out];rfl,hb⟩
 have HA2:Hid (∀ j,j<k+1→WordAt (J.map RM.m) t ww j):=hid (upto_succ HA.out (HW2.out ⟨fun h=>absurd h H4.out,by obtain ⟨y,e1,e2⟩:=HOF.out;exact ⟨y,e1,by omega⟩,h6,Q5.out.2 (by simp)⟩));clear HA HW1 HW2;have hB1:=HN.out;have hB2:=HLT.out;go_wp2;go_roundw
 ·exact ⟨k+1,by have:=HLT.out;omega,by go_num,HA2,hb,t0,t14⟩
 have:=HLT.out;simp[intOf];omega
structure MSz (w:World) (a:Option Addr) (J:List RM):Prop where
 lies:LiesM w a J
 ok:∀ x ∈ J,x.Ok
 n:J.length≤1048576
theorem MSz.below {w w':World} {a:Option Addr} {J:List RM} (h:MSz w a J) (k:Below w.heap.size w w'):MSz w' a J:=⟨h.lies.below k,h.ok,h.n⟩
theorem may_any (J:List RM) (a:Option Addr) (c:Nat) (w:World) (hJ:MSz w a J) :
  CB 52 #[.slice a J.length c] w (tv (MayP (J.map RM.m))):=by
 obtain ⟨v,hv⟩:=nm (tv (MayP (J.map RM.m)));have HV:Hid (MayP (J.map RM.m)↔v=true):=hid (tv_eq hv);rw[← hv];have LJ:=hid hJ;have HN:=hid hJ.n;have hb:=Below.refl w.heap.size w;have HML:Hid ((J.map RM.m).length=J.length):=hid (List.length_map ..);clear hv hJ;by_cases h1:1≤J.length;rotate_left
 ·
  have d1:=dT (p:=(J.length:Int)<1);have d1g:=dT (p:=1 > (J.length:Int));go_enter Tryz.func52,Tryz.ntmps52;have HE:Hid (v=false):=hid (not_true fun e=>by have F0:=HV.out.2 e;exact h1 (by have:=F0.1.1;rw[HML.out] at this;exact this));clear HV;go_wp2;go_ret;exact ⟨by rw[HE.out];rfl,hb⟩
 have d1:=dF (p:=(J.length:Int)<1);have d1g:=dF (p:=1 > (J.length:Int));by_cases h2:J.length≤24;rotate_left
 ·
  have d2:=dT (p:=24<(J.length:Int));have d2g:=dT (p:=(J.length:Int) > 24);go_enter Tryz.func52,Tryz.ntmps52;have HE:Hid (v=false):=hid (not_true fun e=>by have F0:=HV.out.2 e;exact h2 (by have:=F0.1.2.1;rw[HML.out] at this;exact this));clear HV;go_wp2;go_ret;exact ⟨by rw[HE.out];rfl,hb⟩
 have d2:=dF (p:=24<(J.length:Int));have d2g:=dF (p:=(J.length:Int) > 24);obtain ⟨b0,o0,e0,hc0⟩:=LJ.out.lies.1.2 (by omega);have k0:w.cell? ⟨b0,o0,none⟩=some (.string ⟨(J[0]).p.toArray⟩):=by have q:=hc0 0 (by omega) 0 _ rfl;simpa using q
 have k1:w.cell? ⟨b0,o0+1,none⟩=some (.int .u8 ((J[0]).s:Int)):=by have q:=hc0 0 (by omega) 1 _ rfl;simpa using q
 have HX0:Hid (∀ h:0<(J.map RM.m).length,((J.map RM.m)[0]).p=(J[0]).p∧((J.map RM.m)[0]).s=(J[0]).s):=hid (fun h=>by rw[List.getElem_map];exact ⟨rfl,rfl⟩);obtain ⟨p0,hp0⟩:=nm ((J[0]).p);obtain ⟨s0,hs0⟩:=nm ((J[0]).s);rw[← hp0] at k0 HX0;rw[← hs0] at k1 HX0;have j1:(0:Int)<(J.length:Int):=by omega
 have HP0:Hid (0<(J.map RM.m).length):=hid (by rw[HML.out];omega);subst e0;clear hc0 hp0 hs0;by_cases h3:p0=[49];rotate_left
 ·
  have d3:(p0 == [49])=false:=by rw[beq_eq_false_iff_ne];exact h3
  have d3n:(p0 != [49])=true:=by rw[bne,d3];rfl
  go_enter Tryz.func52,Tryz.ntmps52;have HE:Hid (v=false):=hid (not_true fun e=>by have F0:=HV.out.2 e;exact h3 (by rw[← (HX0.out HP0.out).1];exact F0.1.2.2 HP0.out));clear HV;go_wp2;go_ret;exact ⟨by rw[HE.out];rfl,hb⟩
 have d3:(p0 == [49])=true:=by rw[beq_iff_eq];exact h3
 have d3n:(p0 != [49])=false:=by rw[bne,d3];rfl
 have H3:=hid h3;clear h3;by_cases h4:s0≤2;rotate_left
 ·
  have d4:=dT (p:=2<(s0:Int));have d4g:=dT (p:=(s0:Int) > 2);go_enter Tryz.func52,Tryz.ntmps52;have HE:Hid (v=false):=hid (not_true fun e=>by have F0:=HV.out.2 e;exact h4 (by rw[← (HX0.out HP0.out).2];exact F0.2.1 HP0.out));clear HV;go_wp2;go_ret;exact ⟨by rw[HE.out];rfl,hb⟩
 have d4:=dF (p:=2<(s0:Int));have d4g:=dF (p:=(s0:Int) > 2);have H12:=hid (And.intro h1 h2);have H4:=hid h4;clear h1 h2 h4;have CP:=hid (places_any J (some ⟨b0,o0,none⟩) c w LJ.out.lies.1 HN.out (fun x hx=>(LJ.out.ok x hx).p));go_enter Tryz.func52,Tryz.ntmps52;go_wp2_with fail
 refine (CP.out).mono ?_;rintro e v1 ⟨mb,rfl,M,-,k1⟩;replace hb:=bstep hb k1;clear k1;replace M:=hid M;clear k0 k1;go_wp2_with fail
 go_loopw [34] (fun iv wr=>∃ k:Nat,k≤J.length∧iv=.int .i64 k∧Hid (∀ j,j<k→OneP (J.map RM.m) j)∧Below w.heap.size w wr∧Hid (At wr mb J.length J)) (fun iv _=>J.length - (intOf iv).toNat)
 case atStart=>exact ⟨0,by omega,rfl,hid (fun j h=>absurd h (by omega)),hb,M⟩
 clear hb M;obtain ⟨k,hk,rfl,HA,hb,M⟩:=hrel;by_cases hlt:k<J.length;rotate_left
 ·have d1:decide ((k:Int)<(J.length:Int))=false:=dF;have HE:Hid (v=true):=hid (HV.out.1 ⟨⟨by rw[HML.out];exact H12.out.1,by rw[HML.out];exact H12.out.2,fun h=>by rw[(HX0.out h).1];exact H3.out⟩,fun h=>by rw[(HX0.out h).2];exact H4.out,fun j hj=>HA.out j (by rw[HML.out] at hj;omega)⟩);clear HA HV;go_wp2;go_ret;exact ⟨by rw[HE.out];rfl,hb⟩
 obtain ⟨b,off,e9,hcell⟩:=(LJ.out.lies.1.below hb).2 (by omega);obtain ⟨rfl,rfl⟩:b0=b∧o0=off:=by simpa using e9
 have d5:=dT (p:=(k:Int)<(J.length:Int));have j2:(0:Int)≤(k:Int):=by omega
 have j3:(k:Int)<(J.length:Int):=by omega
 obtain ⟨c0,c1,c2,c3,c4,c5,c6,c7,c8,c9,c10,c11,c12,c13,c14⟩:=cl15 (o0+k*15) (hcell k hlt);have HOK:=hid (LJ.out.ok _ (List.getElem_mem hlt));have HIN:Hid (InnerM w J[k]):=hid (LJ.out.lies.2 _ (List.getElem_mem hlt));have HXK:Hid (∀ h:k<(J.map RM.m).length,(J.map RM.m)[k]=(J[k]).m):=hid (fun h=>List.getElem_map ..);have HXJ:Hid (∀ (i:Nat) (h:i<(J.map RM.m).length) (h':i<J.length),(J.map RM.m)[i]=(J[i]).m):=hid (fun i h h'=>List.getElem_map ..);obtain ⟨x,hx⟩:=nm J[k];rw[← hx] at c0 c1 c2 c3 c4 c5 c6 c7 c8 c9 c10 c11 c12 c13 c14 HOK HIN HXK;have HLL:Hid (k<(J.map RM.m).length):=hid (by rw[HML.out];exact hlt);have HW1:Hid (OneP (J.map RM.m) k→isP x.p∧RiseAt (J.map RM.m) k∧(0<k→BornM (J.map RM.m) x.p)∧¬ ForgM (J.map RM.m) x.p∧(VoidM (J.map RM.m) x.p→x.s=4∧x.c=1)∧FieldsM x.m∧GoneM x.k x.g∧(x.q=Pl.zero∨(x.s=4∧BodyM x.q x.p))∧WordsM (J.map RM.m) x.p x.w):=hid (fun f=>by have q:=f HLL.out;rw[HXK.out HLL.out] at q;exact q);have HW2:Hid (isP x.p∧RiseAt (J.map RM.m) k∧(0<k→BornM (J.map RM.m) x.p)∧¬ ForgM (J.map RM.m) x.p∧(VoidM (J.map RM.m) x.p→x.s=4∧x.c=1)∧FieldsM x.m∧GoneM x.k x.g∧(x.q=Pl.zero∨(x.s=4∧BodyM x.q x.p))∧WordsM (J.map RM.m) x.p x.w→OneP (J.map RM.m) k):=hid (fun f h=>by rw[HXK.out h];exact f);have HPL:Hid (x.p.length≤1048576):=hid HOK.out.p;obtain ⟨q1,hq1⟩:=nm (decide (0<(parse x.p).length));have CM:=hid (fun W=>Path.may_any x.p W (by have:=HPL.out;omega));rw[← hq1] at CM;have Q1:Hid (isP x.p↔q1=true):=hid (by rw[hq1,decide_eq_true_eq];exact List.length_pos_iff.symm);have CR:=hid (fun W=>parent_any x.p W (by have:=HPL.out;omega));obtain ⟨pq,hpq⟩:=nm (parentL x.p);rw[← hpq] at CR;have HPQ:=hid hpq;have HQL:Hid (pq.length≤1099511627776):=hid (by rw[hpq];exact parent_len x.p);have CN:=hid (fun W=>numberOf_any x.p W (by have:=HPL.out;omega));obtain ⟨n9,hn9⟩:=nm (last (parse x.p));rw[← hn9] at CN;have HN9:Hid (numI x.p=(n9:Int)):=hid (by rw[hn9];rfl);obtain ⟨q2,hq2⟩:=nm (tv (ForgM (J.map RM.m) x.p));have Q2:Hid (ForgM (J.map RM.m) x.p↔q2=true):=hid (tv_eq hq2);have CF:=hid (fun W (h:Below w.heap.size w W) (m:At W mb J.length J)=>qB hq2 (forgotten_any J (some ⟨b0,o0,none⟩) c mb J.length x.p W (LJ.out.lies.below h) m HN.out (fun y hy=>(LJ.out.ok y hy).g) HPL.out));obtain ⟨q3,hq3⟩:=nm (tv (VoidM (J.map RM.m) x.p));have Q3:Hid (VoidM (J.map RM.m) x.p↔q3=true):=hid (tv_eq hq3);have CV:=hid (fun W (h:Below w.heap.size w W) (m:At W mb J.length J)=>qB hq3 (void_any J (some ⟨b0,o0,none⟩) c mb J.length x.p W (LJ.out.lies.below h).1 m HN.out HPL.out));obtain ⟨q4,hq4⟩:=nm (tv (FieldsM x.m));have Q4:Hid (FieldsM x.m↔q4=true):=hid (tv_eq hq4);have CI:=hid (fun W=>qB hq4 (fields_any x W));obtain ⟨q5,hq5⟩:=nm (tv (GoneM x.k x.g));have Q5:Hid (GoneM x.k x.g↔q5=true):=hid (tv_eq hq5);have CG:=hid (fun W (h:Below w.heap.size w W) (f:FieldsM x.m)=>qB hq5 (gone_any x W (HIN.out.g.below h) HOK.out.g HOK.out.gm f.2.2.1 f.2.2.2.1));obtain ⟨q6,hq6⟩:=nm (tv (x.q=Pl.zero∨(x.s=4∧BodyM x.q x.p)));have Q6:Hid ((x.q=Pl.zero∨(x.s=4∧BodyM x.q x.p))↔q6=true):=hid (tv_eq hq6);have CL:=hid (fun W=>qB hq6 (plan_any x W HOK.out.q HOK.out.p));obtain ⟨q7,hq7⟩:=nm (tv (WordsM (J.map RM.m) x.p x.w));have Q7:Hid (WordsM (J.map RM.m) x.p x.w↔q7=true):=hid (tv_eq hq7);have CW:=hid (fun W (h:Below w.heap.size w W) (m:At W mb J.length J)=>qB hq7 (words_any J (some ⟨b0,o0,none⟩) c mb J.length x W (LJ.out.lies.below h).1 m HN.out (HIN.out.w.below h) HOK.out.w HOK.out.wm));have hlk:=plc_ways J pq;clear hx hq1 hpq hn9 hq2 hq3 hq4 hq5 hq6 hq7 e9;by_cases h5:0<k
 ·
  obtain ⟨k1,hk1⟩:∃ k1,k=k1+1:=⟨k - 1,by omega⟩
  have w1:IntKind.i64.wrap ((k:Int) - 1)=(k1:Int):=by rw[IntKind.wrap_i64];have:=HN.out;omega
  have i1:(0:Int)≤(k1:Int):=by omega
  have i2:(k1:Int)<(J.length:Int):=by omega
  have b9:=cl1 (o0+k1*15) (hcell k1 (by omega));have uo:=(LJ.out.ok _ (List.getElem_mem (show k1<J.length by omega))).p;obtain ⟨u,hu⟩:=nm ((J[k1]).p);rw[← hu] at b9 uo;have HRJ:Hid (∀ h':k - 1<(J.map RM.m).length,((J.map RM.m)[k - 1]).p=u):=hid (fun h'=>by rw[hu,HXJ.out _ h' (by omega)];show (J[k - 1]).p=_;congr 2;omega);obtain ⟨z,hz⟩:=nm (cmpP u x.p);have CC:=hid (fun W=>Path.compare_any u x.p W (by omega) (by have:=HPL.out;omega));rw[← hz] at CC;have HZ:=hid hz;clear hu hk1 uo hz;have d2:=dT (p:=0<(k:Int));have d2g:decide ((k:Int) > 0)=true:=d2;have d2n:decide (0<k)=true:=decide_eq_true h5;have HLT:=hid hlt;have H5:=hid h5;clear hcell hlt hk h5;go_upto_region 7 with (fail)
  clear c0 c1 c2 c3 c4 c5 c6 c7 c8 c9 c10 c11 c12 c13 c14;have BXs:=hid (Bx.new (wr) x 92);replace M:=hid (TextMap.Is.below (M.out) (balloc (Below.refl _ _) (.cells x 92)));replace b9:=(Coder.keepC b9 (balloc (Below.refl _ _) (.cells x 92)))
  replace hb:=bstep hb (balloc (Below.refl _ _) (.cells x 92));obtain ⟨wd,hwd⟩:=nm ((wr).alloc (.cells x 92));have hqwd:(wr).alloc (.cells [.string ⟨x.p.toArray⟩,.int .u8 (x.s:Int),.int .i64 x.k,.int .i64 x.c,.int .u64 (x.l:Int),.slice x.ga x.g.length x.gc,.string ⟨x.q.k.toArray⟩,.int .u64 (x.q.r:Int),.string ⟨x.q.l.toArray⟩,.string ⟨x.q.a.b.toArray⟩,.int .u64 (x.q.a.n:Int),.string ⟨x.q.a.o.toArray⟩,.int .u64 (x.q.a.m:Int),.bool x.q.d,.slice x.wa x.w.length x.wc].toArray 92)=wd:=hwd.symm;rw[hqwd] at BXs;rw[← hwd] at hb M b9 ⊢;obtain ⟨bs,hbs⟩:=nm ((wr).heap.size);rw[← hbs] at BXs ⊢;clear hqwd hwd hbs;have s0:=BXs.out 0 _ rfl;cases q1
  ·
   have HE:Hid (v=false):=hid (not_true fun e=>by have f:=HW1.out ((HV.out.2 e).2.2 k HLL.out);exact by have:=Q1.out.1 f.1;cases this);clear HA HV HW1 HW2;refine wp_region_noPanic ?_;refine wp_region_held_drew (S:=(fun w'=>Below w.heap.size w w'∧At w' mb J.length J∧w'.cell? ⟨b0,o0+k1*15,none⟩=some ↑u∧Bx w' bs x∧w'.cell? ⟨bs,0,none⟩=some ↑x.p)) (by kernel_rfl) (⟨Below.drew hb,TextMap.Is.below (M.out) (Below.drew (Below.refl _ _)),Coder.keepC b9 (Below.drew (Below.refl _ _)),(BXs.out).below (Below.drew (Below.refl _ _)),Coder.keepC s0 (Below.drew (Below.refl _ _))⟩) (fun gH=>?_);revert gH
   generalize World.drew _=wd;intro gH;refine tk [0,1] ?_;refine tR 2 fun K hK=>?_;go_simp;go_at_call 119;refine cr (CM.out _) fun v2 k2=>?_;go_wp2_with fail
   refine hK.out _ _ (⟨bstep gH.1 k2,TextMap.Is.below (gH.2.1) k2,Coder.keepC gH.2.2.1 k2,(gH.2.2.2.1).below k2,Coder.keepC gH.2.2.2.2 k2⟩) (fun gH=>?_);clear hK K k2;try simp only[Act.put,List.setIfInBounds_toArray,List.set_cons_zero,List.set_cons_succ]
   refine tk (.range' 3 17) ?_;refine tD ?_;clear hb M b9 BXs s0;obtain ⟨hb,M,b9,BXs,s0⟩:=gH;replace M:=hid M;replace BXs:=hid BXs;go_wp2;go_ret;exact ⟨by rw[HE.out];rfl,hb⟩
  by_cases hz:z<0;rotate_left
  ·
   have d3:=dT (p:=0≤z);have d3g:=dT (p:=z≥0);have HZN:=hid hz;clear hz;have HE:Hid (v=false):=hid (not_true fun e=>by have f:=HW1.out ((HV.out.2 e).2.2 k HLL.out);exact HZN.out (by have q:=f.2.1 HLL.out H5.out (by have:=HLL.out;omega);rw[HRJ.out,HXK.out HLL.out] at q;rw[HZ.out];exact q));clear HA HV HW1 HW2;refine wp_region_noPanic ?_;refine wp_region_held_drew (S:=(fun w'=>Below w.heap.size w w'∧At w' mb J.length J∧w'.cell? ⟨b0,o0+k1*15,none⟩=some ↑u∧Bx w' bs x∧w'.cell? ⟨bs,0,none⟩=some ↑x.p)) (by kernel_rfl) (⟨Below.drew hb,TextMap.Is.below (M.out) (Below.drew (Below.refl _ _)),Coder.keepC b9 (Below.drew (Below.refl _ _)),(BXs.out).below (Below.drew (Below.refl _ _)),Coder.keepC s0 (Below.drew (Below.refl _ _))⟩) (fun gH=>?_);revert gH
   generalize World.drew _=wd;intro gH;refine tk [0,1] ?_;refine tR 2 fun K hK=>?_;go_simp;go_at_call 119;refine cr (CM.out _) fun v3 k3=>?_;go_wp2_with fail
   refine hK.out _ _ (⟨bstep gH.1 k3,TextMap.Is.below (gH.2.1) k3,Coder.keepC gH.2.2.1 k3,(gH.2.2.2.1).below k3,Coder.keepC gH.2.2.2.2 k3⟩) (fun gH=>?_);clear hK K k3;try simp only[Act.put,List.setIfInBounds_toArray,List.set_cons_zero,List.set_cons_succ]
   refine tk (.range' 3 13) ?_;refine tR 16 fun K hK=>?_;go_simp;go_at_call 120;refine cr (CC.out _) fun v4 k4=>?_;go_wp2_with fail
   refine hK.out _ _ (⟨bstep gH.1 k4,TextMap.Is.below (gH.2.1) k4,Coder.keepC gH.2.2.1 k4,(gH.2.2.2.1).below k4,Coder.keepC gH.2.2.2.2 k4⟩) (fun gH=>?_);clear hK K k4;try simp only[Act.put,List.setIfInBounds_toArray,List.set_cons_zero,List.set_cons_succ]
   refine tk [17,18,19] ?_;refine tD ?_;clear hb M b9 BXs s0;obtain ⟨hb,M,b9,BXs,s0⟩:=gH;replace M:=hid M;replace BXs:=hid BXs;go_wp2;go_ret;exact ⟨by rw[HE.out];rfl,hb⟩
  have d3:=dF (p:=0≤z);have d3g:=dF (p:=z≥0);have HZ0:Hid (cmpP u x.p<0):=hid (by rw[← HZ.out];exact hz);clear hz;refine wp_region_noPanic ?_;refine wp_region_held_drew (S:=(fun w'=>Below w.heap.size w w'∧At w' mb J.length J∧w'.cell? ⟨b0,o0+k1*15,none⟩=some ↑u∧Bx w' bs x∧w'.cell? ⟨bs,0,none⟩=some ↑x.p)) (by kernel_rfl) (⟨Below.drew hb,TextMap.Is.below (M.out) (Below.drew (Below.refl _ _)),Coder.keepC b9 (Below.drew (Below.refl _ _)),(BXs.out).below (Below.drew (Below.refl _ _)),Coder.keepC s0 (Below.drew (Below.refl _ _))⟩) (fun gH=>?_);revert gH
  generalize World.drew _=wd;intro gH;refine tk [0,1] ?_;refine tR 2 fun K hK=>?_;go_simp;go_at_call 119;refine cr (CM.out _) fun v5 k5=>?_;go_wp2_with fail
  refine hK.out _ _ (⟨bstep gH.1 k5,TextMap.Is.below (gH.2.1) k5,Coder.keepC gH.2.2.1 k5,(gH.2.2.2.1).below k5,Coder.keepC gH.2.2.2.2 k5⟩) (fun gH=>?_);clear hK K k5;try simp only[Act.put,List.setIfInBounds_toArray,List.set_cons_zero,List.set_cons_succ]
  refine tk (.range' 3 13) ?_;refine tR 16 fun K hK=>?_;go_simp;go_at_call 120;refine cr (CC.out _) fun v6 k6=>?_;go_wp2_with fail
  refine hK.out _ _ (⟨bstep gH.1 k6,TextMap.Is.below (gH.2.1) k6,Coder.keepC gH.2.2.1 k6,(gH.2.2.2.1).below k6,Coder.keepC gH.2.2.2.2 k6⟩) (fun gH=>?_);clear hK K k6;try simp only[Act.put,List.setIfInBounds_toArray,List.set_cons_zero,List.set_cons_succ]
  refine tk [17,18,19] ?_;refine tD ?_;clear hb M b9 BXs s0;obtain ⟨hb,M,b9,BXs,s0⟩:=gH;replace M:=hid M;replace BXs:=hid BXs;clear b9;go_upto_region 10 with (fail)
  go_wp2_with fail
  refine cr (CR.out _) fun v7 k7=>?_;replace M:=hid (TextMap.Is.below (M.out) k7);replace BXs:=hid ((BXs.out).below k7);replace s0:=(Coder.keepC s0 k7)
  replace hb:=bstep hb k7;clear k7;rcases hlk with ⟨l1,l2⟩ | ⟨i,hi,l1,l2⟩
  ·
   have HLV:Hid ((plc J pq).getD (.int .i64 0)=.int .i64 0):=hid (by rw[l1];rfl);have HLI:Hid ((plc J pq).isSome=false):=hid (by rw[l1];rfl);have L2:=hid l2;clear l1 l2;have HE:Hid (v=false):=hid (not_true fun e=>by have f:=HW1.out ((HV.out.2 e).2.2 k HLL.out);exact by obtain ⟨y,e,_⟩:=f.2.2.1 H5.out;rw[← HPQ.out,L2.out] at e;cases e);clear HA HV HW1 HW2;go_upto_region 11 with (at_lookup;refine TextMap.wpList_look_ok Tryz.underlying172 Tryz.underlying9 zero_int rfl _ _ rfl mb J.length (plc J) pq rfl M.out rfl (by have:=HQL.out;unfold maxLen;omega) _ HLV.out false HLI.out ?_)
   refine wp_region_noPanic ?_;refine wp_region_held_drew (S:=(fun w'=>Below w.heap.size w w'∧At w' mb J.length J∧Bx w' bs x∧w'.cell? ⟨bs,0,none⟩=some ↑x.p)) (by kernel_rfl) (⟨Below.drew hb,TextMap.Is.below (M.out) (Below.drew (Below.refl _ _)),(BXs.out).below (Below.drew (Below.refl _ _)),Coder.keepC s0 (Below.drew (Below.refl _ _))⟩) (fun gH=>?_);revert gH
   generalize World.drew _=wd;intro gH;refine tk (.range 13) ?_;refine tD ?_;clear hb M BXs s0;obtain ⟨hb,M,BXs,s0⟩:=gH;replace M:=hid M;replace BXs:=hid BXs;go_wp2;go_ret;exact ⟨by rw[HE.out];rfl,hb⟩
  have HLV:Hid ((plc J pq).getD (.int .i64 0)=.int .i64 (i:Int)):=hid (by rw[l1];rfl);have HLI:Hid ((plc J pq).isSome=true):=hid (by rw[l1];rfl);obtain ⟨b2,o2,e2,hJc⟩:=(LJ.out.lies.1.below hb).2 (by omega);obtain ⟨rfl,rfl⟩:b0=b2∧o0=o2:=by simpa using e2
  have m1:(0:Int)≤(i:Int):=by omega
  have m2:(i:Int)<(J.length:Int):=by omega
  have y2:_root_.Go.World.cell? _ ⟨b0,o0+i*15+2,none⟩=some (.int .i64 (J[i]).k):=hJc i hi 2 _ rfl;obtain ⟨kid,hkid⟩:=nm ((J[i]).k);rw[← hkid] at y2;have HKD:Hid (BornM (J.map RM.m) x.p↔(n9:Int)≤kid):=hid (by
   unfold BornM;rw[← HPQ.out,HN9.out,l2,hkid];exact ⟨fun ⟨y,e,h⟩=>by cases e;exact h,fun h=>⟨_,rfl,h⟩⟩)
  clear l1 l2 hJc hkid hi e2;go_upto_region 11 with (at_lookup;refine TextMap.wpList_look_ok Tryz.underlying172 Tryz.underlying9 zero_int rfl _ _ rfl mb J.length (plc J) pq rfl M.out rfl (by have:=HQL.out;unfold maxLen;omega) _ HLV.out true HLI.out ?_)
  by_cases h6:(n9:Int)≤kid;rotate_left
  ·
   have d6:=dT (p:=kid<(n9:Int));have d6g:=dT (p:=(n9:Int) > kid);have H6:=hid h6;clear h6;have HE:Hid (v=false):=hid (not_true fun e=>by have f:=HW1.out ((HV.out.2 e).2.2 k HLL.out);exact H6.out (HKD.out.1 (f.2.2.1 H5.out)));clear HA HV HW1 HW2;refine wp_region_noPanic ?_;refine wp_region_held_drew (S:=(fun w'=>Below w.heap.size w w'∧At w' mb J.length J∧Bx w' bs x∧w'.cell? ⟨bs,0,none⟩=some ↑x.p∧w'.cell? ⟨b0,o0+i*15+2,none⟩=some (.int .i64 kid))) (by kernel_rfl) (⟨Below.drew hb,TextMap.Is.below (M.out) (Below.drew (Below.refl _ _)),(BXs.out).below (Below.drew (Below.refl _ _)),Coder.keepC s0 (Below.drew (Below.refl _ _)),Coder.keepC y2 (Below.drew (Below.refl _ _))⟩) (fun gH=>?_);revert gH
   generalize World.drew _=wd;intro gH;refine tk [0,1,2,3,4,6,7,8,9,10] ?_;refine tR 5 fun K hK=>?_;go_simp;go_at_call 122;refine cr (CN.out _) fun v8 k8=>?_;go_wp2_with fail
   refine hK.out _ _ (⟨bstep gH.1 k8,TextMap.Is.below (gH.2.1) k8,(gH.2.2.1).below k8,Coder.keepC gH.2.2.2.1 k8,Coder.keepC gH.2.2.2.2 k8⟩) (fun gH=>?_);clear hK K k8;try simp only[Act.put,List.setIfInBounds_toArray,List.set_cons_zero,List.set_cons_succ]
   refine tk [11,12] ?_;refine tD ?_;clear hb M BXs s0 y2;obtain ⟨hb,M,BXs,s0,y2⟩:=gH;replace M:=hid M;replace BXs:=hid BXs;go_wp2;go_ret;exact ⟨by rw[HE.out];rfl,hb⟩
  have d6:=dF (p:=kid<(n9:Int));have d6g:=dF (p:=(n9:Int) > kid);have HBORN:=hid (HKD.out.2 h6);clear h6;refine wp_region_noPanic ?_;refine wp_region_held_drew (S:=(fun w'=>Below w.heap.size w w'∧At w' mb J.length J∧Bx w' bs x∧w'.cell? ⟨bs,0,none⟩=some ↑x.p∧w'.cell? ⟨b0,o0+i*15+2,none⟩=some (.int .i64 kid))) (by kernel_rfl) (⟨Below.drew hb,TextMap.Is.below (M.out) (Below.drew (Below.refl _ _)),(BXs.out).below (Below.drew (Below.refl _ _)),Coder.keepC s0 (Below.drew (Below.refl _ _)),Coder.keepC y2 (Below.drew (Below.refl _ _))⟩) (fun gH=>?_);revert gH
  generalize World.drew _=wd;intro gH;refine tk [0,1,2,3,4,6,7,8,9,10] ?_;refine tR 5 fun K hK=>?_;go_simp;go_at_call 122;refine cr (CN.out _) fun v9 k9=>?_;go_wp2_with fail
  refine hK.out _ _ (⟨bstep gH.1 k9,TextMap.Is.below (gH.2.1) k9,(gH.2.2.1).below k9,Coder.keepC gH.2.2.2.1 k9,Coder.keepC gH.2.2.2.2 k9⟩) (fun gH=>?_);clear hK K k9;try simp only[Act.put,List.setIfInBounds_toArray,List.set_cons_zero,List.set_cons_succ]
  refine tk [11,12] ?_;refine tD ?_;clear hb M BXs s0 y2;obtain ⟨hb,M,BXs,s0,y2⟩:=gH;replace M:=hid M;replace BXs:=hid BXs;clear y2;as_aux_lemma =>
   go_wp2_with fail
   refine cr (CF.out _ hb M.out) fun v10 k10=>?_;replace M:=hid (TextMap.Is.below (M.out) k10);replace BXs:=hid ((BXs.out).below k10);replace s0:=(Coder.keepC s0 k10)
   replace hb:=bstep hb k10;clear k10;cases q2
   rotate_left
   ·
    have HE:Hid (v=false):=hid (not_true fun e=>by have f:=HW1.out ((HV.out.2 e).2.2 k HLL.out);exact f.2.2.2.1 (Q2.out.2 (by simp)));clear HA HV HW1 HW2;go_wp2;go_ret;exact ⟨by rw[HE.out];rfl,hb⟩
   go_wp2_with fail
   refine cr (CV.out _ hb M.out) fun v11 k11=>?_;replace M:=hid (TextMap.Is.below (M.out) k11);replace BXs:=hid ((BXs.out).below k11);replace s0:=(Coder.keepC s0 k11)
   replace hb:=bstep hb k11;clear k11;cases q3
   ·
    as_aux_lemma =>
     clear s0;obtain ⟨s0,s1,s2,s3,s4,s5,s6,s7,s8,s9,s10,s11,s12,s13,s14⟩:=al15 BXs.out;go_wp2_with fail
     refine cr (CI.out _) fun v12 k12=>?_;replace M:=hid (TextMap.Is.below (M.out) k12);replace BXs:=hid ((BXs.out).below k12);replace hb:=bstep hb k12;clear k12 s0 s1 s2 s3 s4 s5 s6 s7 s8 s9 s10 s11 s12 s13 s14;cases q4
     ·
      have HE:Hid (v=false):=hid (not_true fun e=>by have f:=HW1.out ((HV.out.2 e).2.2 k HLL.out);exact by have:=Q4.out.1 f.2.2.2.2.2.1;cases this);clear HA HV HW1 HW2;go_wp2;go_ret;exact ⟨by rw[HE.out];rfl,hb⟩
     obtain ⟨s0,s1,s2,s3,s4,s5,s6,s7,s8,s9,s10,s11,s12,s13,s14⟩:=al15 BXs.out;go_wp2_with fail
     refine cr (CG.out _ hb (Q4.out.2 (by simp))) fun v13 k13=>?_;replace M:=hid (TextMap.Is.below (M.out) k13);replace BXs:=hid ((BXs.out).below k13);replace hb:=bstep hb k13;clear k13 s0 s1 s2 s3 s4 s5 s6 s7 s8 s9 s10 s11 s12 s13 s14;cases q5
     ·
      have HE:Hid (v=false):=hid (not_true fun e=>by have f:=HW1.out ((HV.out.2 e).2.2 k HLL.out);exact by have:=Q5.out.1 f.2.2.2.2.2.2.1;cases this);clear HA HV HW1 HW2;go_wp2;go_ret;exact ⟨by rw[HE.out];rfl,hb⟩
     obtain ⟨s0,s1,s2,s3,s4,s5,s6,s7,s8,s9,s10,s11,s12,s13,s14⟩:=al15 BXs.out;go_wp2_with fail
     refine cr (CL.out _) fun v14 k14=>?_;replace M:=hid (TextMap.Is.below (M.out) k14);replace BXs:=hid ((BXs.out).below k14);replace hb:=bstep hb k14;clear k14 s0 s1 s2 s3 s4 s5 s6 s7 s8 s9 s10 s11 s12 s13 s14;cases q6
     ·
      have HE:Hid (v=false):=hid (not_true fun e=>by have f:=HW1.out ((HV.out.2 e).2.2 k HLL.out);exact by have:=Q6.out.1 f.2.2.2.2.2.2.2.1;cases this);clear HA HV HW1 HW2;go_wp2;go_ret;exact ⟨by rw[HE.out];rfl,hb⟩
     obtain ⟨s0,s1,s2,s3,s4,s5,s6,s7,s8,s9,s10,s11,s12,s13,s14⟩:=al15 BXs.out;go_wp2_with fail
     refine cr (CW.out _ hb M.out) fun v15 k15=>?_;replace M:=hid (TextMap.Is.below (M.out) k15);replace BXs:=hid ((BXs.out).below k15);replace hb:=bstep hb k15;clear k15 s0 s1 s2 s3 s4 s5 s6 s7 s8 s9 s10 s11 s12 s13 s14;cases q7
     ·
      have HE:Hid (v=false):=hid (not_true fun e=>by have f:=HW1.out ((HV.out.2 e).2.2 k HLL.out);exact by have:=Q7.out.1 f.2.2.2.2.2.2.2.2;cases this);clear HA HV HW1 HW2;go_wp2;go_ret;exact ⟨by rw[HE.out];rfl,hb⟩
     have HA2:Hid (∀ j,j<k+1→OneP (J.map RM.m) j):=hid (upto_succ HA.out (HW2.out ⟨Q1.out.2 (by simp),(fun h _ h'=>by rw[HRJ.out h',HXK.out h];exact HZ0.out),(fun _=>HBORN.out),fun h=>(by have:=Q2.out.1 h;cases this),fun h=>(by have:=Q3.out.1 h;cases this),Q4.out.2 (by simp),Q5.out.2 (by simp),Q6.out.2 (by simp),Q7.out.2 (by simp)⟩));clear HA HW1 HW2;have hB1:=HN.out;have hB2:=HLT.out;go_wp2;go_roundw
     ·exact ⟨k+1,by have:=HLT.out;omega,by go_num,HA2,hb,M⟩
     have:=HLT.out;simp[intOf];omega
   obtain ⟨-,s1,-,s3⟩:=al4 BXs.out;by_cases h8:4≤x.s∧x.s≤4;rotate_left
   ·
    have d8:(((x.s:Int)) == 4)=false:=bF;have d8n:(((x.s:Int)) != 4)=true:=by rw[bne,d8];rfl
    have HE:Hid (v=false):=hid (not_true fun e=>by have f:=HW1.out ((HV.out.2 e).2.2 k HLL.out);exact h8 (by have:=f.2.2.2.2.1 (Q3.out.2 (by simp));omega));clear HA HV HW1 HW2;go_wp2;go_ret;exact ⟨by rw[HE.out];rfl,hb⟩
   have d8:(((x.s:Int)) == 4)=true:=bT;have d8n:(((x.s:Int)) != 4)=false:=by rw[bne,d8];rfl
   by_cases h9:1≤x.c∧x.c≤1;rotate_left
   ·
    have d9:((x.c) == 1)=false:=by rw[beq_eq_false_iff_ne];omega
    have d9n:((x.c) != 1)=true:=by rw[bne,d9];rfl
    have HE:Hid (v=false):=hid (not_true fun e=>by have f:=HW1.out ((HV.out.2 e).2.2 k HLL.out);exact h9 (by have:=f.2.2.2.2.1 (Q3.out.2 (by simp));omega));clear HA HV HW1 HW2;go_wp2;go_ret;exact ⟨by rw[HE.out];rfl,hb⟩
   have d9:((x.c) == 1)=true:=by rw[beq_iff_eq];omega
   have d9n:((x.c) != 1)=false:=by rw[bne,d9];rfl
   have H8:=hid h8;have H9:=hid h9;clear h8 h9;as_aux_lemma =>
    clear s0 s1 s3;obtain ⟨s0,s1,s2,s3,s4,s5,s6,s7,s8,s9,s10,s11,s12,s13,s14⟩:=al15 BXs.out;go_wp2_with fail
    refine cr (CI.out _) fun v16 k16=>?_;replace M:=hid (TextMap.Is.below (M.out) k16);replace BXs:=hid ((BXs.out).below k16);replace hb:=bstep hb k16;clear k16 s0 s1 s2 s3 s4 s5 s6 s7 s8 s9 s10 s11 s12 s13 s14;cases q4
    ·
     have HE:Hid (v=false):=hid (not_true fun e=>by have f:=HW1.out ((HV.out.2 e).2.2 k HLL.out);exact by have:=Q4.out.1 f.2.2.2.2.2.1;cases this);clear HA HV HW1 HW2;go_wp2;go_ret;exact ⟨by rw[HE.out];rfl,hb⟩
    obtain ⟨s0,s1,s2,s3,s4,s5,s6,s7,s8,s9,s10,s11,s12,s13,s14⟩:=al15 BXs.out;go_wp2_with fail
    refine cr (CG.out _ hb (Q4.out.2 (by simp))) fun v17 k17=>?_;replace M:=hid (TextMap.Is.below (M.out) k17);replace BXs:=hid ((BXs.out).below k17);replace hb:=bstep hb k17;clear k17 s0 s1 s2 s3 s4 s5 s6 s7 s8 s9 s10 s11 s12 s13 s14;cases q5
    ·
     have HE:Hid (v=false):=hid (not_true fun e=>by have f:=HW1.out ((HV.out.2 e).2.2 k HLL.out);exact by have:=Q5.out.1 f.2.2.2.2.2.2.1;cases this);clear HA HV HW1 HW2;go_wp2;go_ret;exact ⟨by rw[HE.out];rfl,hb⟩
    obtain ⟨s0,s1,s2,s3,s4,s5,s6,s7,s8,s9,s10,s11,s12,s13,s14⟩:=al15 BXs.out;go_wp2_with fail
    refine cr (CL.out _) fun v18 k18=>?_;replace M:=hid (TextMap.Is.below (M.out) k18);replace BXs:=hid ((BXs.out).below k18);replace hb:=bstep hb k18;clear k18 s0 s1 s2 s3 s4 s5 s6 s7 s8 s9 s10 s11 s12 s13 s14;cases q6
    ·
     have HE:Hid (v=false):=hid (not_true fun e=>by have f:=HW1.out ((HV.out.2 e).2.2 k HLL.out);exact by have:=Q6.out.1 f.2.2.2.2.2.2.2.1;cases this);clear HA HV HW1 HW2;go_wp2;go_ret;exact ⟨by rw[HE.out];rfl,hb⟩
    obtain ⟨s0,s1,s2,s3,s4,s5,s6,s7,s8,s9,s10,s11,s12,s13,s14⟩:=al15 BXs.out;go_wp2_with fail
    refine cr (CW.out _ hb M.out) fun v19 k19=>?_;replace M:=hid (TextMap.Is.below (M.out) k19);replace BXs:=hid ((BXs.out).below k19);replace hb:=bstep hb k19;clear k19 s0 s1 s2 s3 s4 s5 s6 s7 s8 s9 s10 s11 s12 s13 s14;cases q7
    ·
     have HE:Hid (v=false):=hid (not_true fun e=>by have f:=HW1.out ((HV.out.2 e).2.2 k HLL.out);exact by have:=Q7.out.1 f.2.2.2.2.2.2.2.2;cases this);clear HA HV HW1 HW2;go_wp2;go_ret;exact ⟨by rw[HE.out];rfl,hb⟩
    have HA2:Hid (∀ j,j<k+1→OneP (J.map RM.m) j):=hid (upto_succ HA.out (HW2.out ⟨Q1.out.2 (by simp),(fun h _ h'=>by rw[HRJ.out h',HXK.out h];exact HZ0.out),(fun _=>HBORN.out),fun h=>(by have:=Q2.out.1 h;cases this),fun _=>(by have:=H8.out;have:=H9.out;omega),Q4.out.2 (by simp),Q5.out.2 (by simp),Q6.out.2 (by simp),Q7.out.2 (by simp)⟩));clear HA HW1 HW2;have hB1:=HN.out;have hB2:=HLT.out;go_wp2;go_roundw
    ·exact ⟨k+1,by have:=HLT.out;omega,by go_num,HA2,hb,M⟩
    have:=HLT.out;simp[intOf];omega
 have d2:=dF (p:=0<(k:Int));have d2g:decide ((k:Int) > 0)=false:=d2;have d2n:decide (0<k)=false:=decide_eq_false h5;have HLT:=hid hlt;have H5:=hid h5;clear hcell hlt hk h5;go_upto_region 7 with (fail)
 clear c0 c1 c2 c3 c4 c5 c6 c7 c8 c9 c10 c11 c12 c13 c14;have BXs:=hid (Bx.new (wr) x 92);replace M:=hid (TextMap.Is.below (M.out) (balloc (Below.refl _ _) (.cells x 92)));replace hb:=bstep hb (balloc (Below.refl _ _) (.cells x 92));obtain ⟨wd,hwd⟩:=nm ((wr).alloc (.cells x 92));have hqwd:(wr).alloc (.cells [.string ⟨x.p.toArray⟩,.int .u8 (x.s:Int),.int .i64 x.k,.int .i64 x.c,.int .u64 (x.l:Int),.slice x.ga x.g.length x.gc,.string ⟨x.q.k.toArray⟩,.int .u64 (x.q.r:Int),.string ⟨x.q.l.toArray⟩,.string ⟨x.q.a.b.toArray⟩,.int .u64 (x.q.a.n:Int),.string ⟨x.q.a.o.toArray⟩,.int .u64 (x.q.a.m:Int),.bool x.q.d,.slice x.wa x.w.length x.wc].toArray 92)=wd:=hwd.symm;rw[hqwd] at BXs;rw[← hwd] at hb M ⊢;obtain ⟨bs,hbs⟩:=nm ((wr).heap.size);rw[← hbs] at BXs ⊢;clear hqwd hwd hbs;have s0:=BXs.out 0 _ rfl;cases q1
 ·
  have HE:Hid (v=false):=hid (not_true fun e=>by have f:=HW1.out ((HV.out.2 e).2.2 k HLL.out);exact by have:=Q1.out.1 f.1;cases this);clear HA HV HW1 HW2;refine wp_region_noPanic ?_;refine wp_region_held_drew (S:=(fun w'=>Below w.heap.size w w'∧At w' mb J.length J∧Bx w' bs x∧w'.cell? ⟨bs,0,none⟩=some ↑x.p)) (by kernel_rfl) (⟨Below.drew hb,TextMap.Is.below (M.out) (Below.drew (Below.refl _ _)),(BXs.out).below (Below.drew (Below.refl _ _)),Coder.keepC s0 (Below.drew (Below.refl _ _))⟩) (fun gH=>?_);revert gH
  generalize World.drew _=wd;intro gH;refine tk [0,1] ?_;refine tR 2 fun K hK=>?_;go_simp;go_at_call 119;refine cr (CM.out _) fun v20 k20=>?_;go_wp2_with fail
  refine hK.out _ _ (⟨bstep gH.1 k20,TextMap.Is.below (gH.2.1) k20,(gH.2.2.1).below k20,Coder.keepC gH.2.2.2 k20⟩) (fun gH=>?_);clear hK K k20;try simp only[Act.put,List.setIfInBounds_toArray,List.set_cons_zero,List.set_cons_succ]
  refine tk (.range' 3 17) ?_;refine tD ?_;clear hb M BXs s0;obtain ⟨hb,M,BXs,s0⟩:=gH;replace M:=hid M;replace BXs:=hid BXs;go_wp2;go_ret;exact ⟨by rw[HE.out];rfl,hb⟩
 refine wp_region_noPanic ?_;refine wp_region_held_drew (S:=(fun w'=>Below w.heap.size w w'∧At w' mb J.length J∧Bx w' bs x∧w'.cell? ⟨bs,0,none⟩=some ↑x.p)) (by kernel_rfl) (⟨Below.drew hb,TextMap.Is.below (M.out) (Below.drew (Below.refl _ _)),(BXs.out).below (Below.drew (Below.refl _ _)),Coder.keepC s0 (Below.drew (Below.refl _ _))⟩) (fun gH=>?_);revert gH
 generalize World.drew _=wd;intro gH;refine tk [0,1] ?_;refine tR 2 fun K hK=>?_;go_simp;go_at_call 119;refine cr (CM.out _) fun v21 k21=>?_;go_wp2_with fail
 refine hK.out _ _ (⟨bstep gH.1 k21,TextMap.Is.below (gH.2.1) k21,(gH.2.2.1).below k21,Coder.keepC gH.2.2.2 k21⟩) (fun gH=>?_);clear hK K k21;try simp only[Act.put,List.setIfInBounds_toArray,List.set_cons_zero,List.set_cons_succ]
 refine tk (.range' 3 17) ?_;refine tD ?_;clear hb M BXs s0;obtain ⟨hb,M,BXs,s0⟩:=gH;replace M:=hid M;replace BXs:=hid BXs;as_aux_lemma =>
  go_wp2_with fail
  refine cr (CF.out _ hb M.out) fun v22 k22=>?_;replace M:=hid (TextMap.Is.below (M.out) k22);replace BXs:=hid ((BXs.out).below k22);replace s0:=(Coder.keepC s0 k22)
  replace hb:=bstep hb k22;clear k22;cases q2
  rotate_left
  ·
   have HE:Hid (v=false):=hid (not_true fun e=>by have f:=HW1.out ((HV.out.2 e).2.2 k HLL.out);exact f.2.2.2.1 (Q2.out.2 (by simp)));clear HA HV HW1 HW2;go_wp2;go_ret;exact ⟨by rw[HE.out];rfl,hb⟩
  go_wp2_with fail
  refine cr (CV.out _ hb M.out) fun v23 k23=>?_;replace M:=hid (TextMap.Is.below (M.out) k23);replace BXs:=hid ((BXs.out).below k23);replace s0:=(Coder.keepC s0 k23)
  replace hb:=bstep hb k23;clear k23;cases q3
  ·
   as_aux_lemma =>
    clear s0;obtain ⟨s0,s1,s2,s3,s4,s5,s6,s7,s8,s9,s10,s11,s12,s13,s14⟩:=al15 BXs.out;go_wp2_with fail
    refine cr (CI.out _) fun v24 k24=>?_;replace M:=hid (TextMap.Is.below (M.out) k24);replace BXs:=hid ((BXs.out).below k24);replace hb:=bstep hb k24;clear k24 s0 s1 s2 s3 s4 s5 s6 s7 s8 s9 s10 s11 s12 s13 s14;cases q4
    ·
     have HE:Hid (v=false):=hid (not_true fun e=>by have f:=HW1.out ((HV.out.2 e).2.2 k HLL.out);exact by have:=Q4.out.1 f.2.2.2.2.2.1;cases this);clear HA HV HW1 HW2;go_wp2;go_ret;exact ⟨by rw[HE.out];rfl,hb⟩
    obtain ⟨s0,s1,s2,s3,s4,s5,s6,s7,s8,s9,s10,s11,s12,s13,s14⟩:=al15 BXs.out;go_wp2_with fail
    refine cr (CG.out _ hb (Q4.out.2 (by simp))) fun v25 k25=>?_;replace M:=hid (TextMap.Is.below (M.out) k25);replace BXs:=hid ((BXs.out).below k25);replace hb:=bstep hb k25;clear k25 s0 s1 s2 s3 s4 s5 s6 s7 s8 s9 s10 s11 s12 s13 s14;cases q5
    ·
     have HE:Hid (v=false):=hid (not_true fun e=>by have f:=HW1.out ((HV.out.2 e).2.2 k HLL.out);exact by have:=Q5.out.1 f.2.2.2.2.2.2.1;cases this);clear HA HV HW1 HW2;go_wp2;go_ret;exact ⟨by rw[HE.out];rfl,hb⟩
    obtain ⟨s0,s1,s2,s3,s4,s5,s6,s7,s8,s9,s10,s11,s12,s13,s14⟩:=al15 BXs.out;go_wp2_with fail
    refine cr (CL.out _) fun v26 k26=>?_;replace M:=hid (TextMap.Is.below (M.out) k26);replace BXs:=hid ((BXs.out).below k26);replace hb:=bstep hb k26;clear k26 s0 s1 s2 s3 s4 s5 s6 s7 s8 s9 s10 s11 s12 s13 s14;cases q6
    ·
     have HE:Hid (v=false):=hid (not_true fun e=>by have f:=HW1.out ((HV.out.2 e).2.2 k HLL.out);exact by have:=Q6.out.1 f.2.2.2.2.2.2.2.1;cases this);clear HA HV HW1 HW2;go_wp2;go_ret;exact ⟨by rw[HE.out];rfl,hb⟩
    obtain ⟨s0,s1,s2,s3,s4,s5,s6,s7,s8,s9,s10,s11,s12,s13,s14⟩:=al15 BXs.out;go_wp2_with fail
    refine cr (CW.out _ hb M.out) fun v27 k27=>?_;replace M:=hid (TextMap.Is.below (M.out) k27);replace BXs:=hid ((BXs.out).below k27);replace hb:=bstep hb k27;clear k27 s0 s1 s2 s3 s4 s5 s6 s7 s8 s9 s10 s11 s12 s13 s14;cases q7
    ·
     have HE:Hid (v=false):=hid (not_true fun e=>by have f:=HW1.out ((HV.out.2 e).2.2 k HLL.out);exact by have:=Q7.out.1 f.2.2.2.2.2.2.2.2;cases this);clear HA HV HW1 HW2;go_wp2;go_ret;exact ⟨by rw[HE.out];rfl,hb⟩
    have HA2:Hid (∀ j,j<k+1→OneP (J.map RM.m) j):=hid (upto_succ HA.out (HW2.out ⟨Q1.out.2 (by simp),(fun _ h=>absurd h H5.out),(fun h=>absurd h H5.out),fun h=>(by have:=Q2.out.1 h;cases this),fun h=>(by have:=Q3.out.1 h;cases this),Q4.out.2 (by simp),Q5.out.2 (by simp),Q6.out.2 (by simp),Q7.out.2 (by simp)⟩));clear HA HW1 HW2;have hB1:=HN.out;have hB2:=HLT.out;go_wp2;go_roundw
    ·exact ⟨k+1,by have:=HLT.out;omega,by go_num,HA2,hb,M⟩
    have:=HLT.out;simp[intOf];omega
  obtain ⟨-,s1,-,s3⟩:=al4 BXs.out;by_cases h8:4≤x.s∧x.s≤4;rotate_left
  ·
   have d8:(((x.s:Int)) == 4)=false:=bF;have d8n:(((x.s:Int)) != 4)=true:=by rw[bne,d8];rfl
   have HE:Hid (v=false):=hid (not_true fun e=>by have f:=HW1.out ((HV.out.2 e).2.2 k HLL.out);exact h8 (by have:=f.2.2.2.2.1 (Q3.out.2 (by simp));omega));clear HA HV HW1 HW2;go_wp2;go_ret;exact ⟨by rw[HE.out];rfl,hb⟩
  have d8:(((x.s:Int)) == 4)=true:=bT;have d8n:(((x.s:Int)) != 4)=false:=by rw[bne,d8];rfl
  by_cases h9:1≤x.c∧x.c≤1;rotate_left
  ·
   have d9:((x.c) == 1)=false:=by rw[beq_eq_false_iff_ne];omega
   have d9n:((x.c) != 1)=true:=by rw[bne,d9];rfl
   have HE:Hid (v=false):=hid (not_true fun e=>by have f:=HW1.out ((HV.out.2 e).2.2 k HLL.out);exact h9 (by have:=f.2.2.2.2.1 (Q3.out.2 (by simp));omega));clear HA HV HW1 HW2;go_wp2;go_ret;exact ⟨by rw[HE.out];rfl,hb⟩
  have d9:((x.c) == 1)=true:=by rw[beq_iff_eq];omega
  have d9n:((x.c) != 1)=false:=by rw[bne,d9];rfl
  have H8:=hid h8;have H9:=hid h9;clear h8 h9;as_aux_lemma =>
   clear s0 s1 s3;obtain ⟨s0,s1,s2,s3,s4,s5,s6,s7,s8,s9,s10,s11,s12,s13,s14⟩:=al15 BXs.out;go_wp2_with fail
   refine cr (CI.out _) fun v28 k28=>?_;replace M:=hid (TextMap.Is.below (M.out) k28);replace BXs:=hid ((BXs.out).below k28);replace hb:=bstep hb k28;clear k28 s0 s1 s2 s3 s4 s5 s6 s7 s8 s9 s10 s11 s12 s13 s14;cases q4
   ·
    have HE:Hid (v=false):=hid (not_true fun e=>by have f:=HW1.out ((HV.out.2 e).2.2 k HLL.out);exact by have:=Q4.out.1 f.2.2.2.2.2.1;cases this);clear HA HV HW1 HW2;go_wp2;go_ret;exact ⟨by rw[HE.out];rfl,hb⟩
   obtain ⟨s0,s1,s2,s3,s4,s5,s6,s7,s8,s9,s10,s11,s12,s13,s14⟩:=al15 BXs.out;go_wp2_with fail
   refine cr (CG.out _ hb (Q4.out.2 (by simp))) fun v29 k29=>?_;replace M:=hid (TextMap.Is.below (M.out) k29);replace BXs:=hid ((BXs.out).below k29);replace hb:=bstep hb k29;clear k29 s0 s1 s2 s3 s4 s5 s6 s7 s8 s9 s10 s11 s12 s13 s14;cases q5
   ·
    have HE:Hid (v=false):=hid (not_true fun e=>by have f:=HW1.out ((HV.out.2 e).2.2 k HLL.out);exact by have:=Q5.out.1 f.2.2.2.2.2.2.1;cases this);clear HA HV HW1 HW2;go_wp2;go_ret;exact ⟨by rw[HE.out];rfl,hb⟩
   obtain ⟨s0,s1,s2,s3,s4,s5,s6,s7,s8,s9,s10,s11,s12,s13,s14⟩:=al15 BXs.out;go_wp2_with fail
   refine cr (CL.out _) fun v30 k30=>?_;replace M:=hid (TextMap.Is.below (M.out) k30);replace BXs:=hid ((BXs.out).below k30);replace hb:=bstep hb k30;clear k30 s0 s1 s2 s3 s4 s5 s6 s7 s8 s9 s10 s11 s12 s13 s14;cases q6
   ·
    have HE:Hid (v=false):=hid (not_true fun e=>by have f:=HW1.out ((HV.out.2 e).2.2 k HLL.out);exact by have:=Q6.out.1 f.2.2.2.2.2.2.2.1;cases this);clear HA HV HW1 HW2;go_wp2;go_ret;exact ⟨by rw[HE.out];rfl,hb⟩
   obtain ⟨s0,s1,s2,s3,s4,s5,s6,s7,s8,s9,s10,s11,s12,s13,s14⟩:=al15 BXs.out;go_wp2_with fail
   refine cr (CW.out _ hb M.out) fun v31 k31=>?_;replace M:=hid (TextMap.Is.below (M.out) k31);replace BXs:=hid ((BXs.out).below k31);replace hb:=bstep hb k31;clear k31 s0 s1 s2 s3 s4 s5 s6 s7 s8 s9 s10 s11 s12 s13 s14;cases q7
   ·
    have HE:Hid (v=false):=hid (not_true fun e=>by have f:=HW1.out ((HV.out.2 e).2.2 k HLL.out);exact by have:=Q7.out.1 f.2.2.2.2.2.2.2.2;cases this);clear HA HV HW1 HW2;go_wp2;go_ret;exact ⟨by rw[HE.out];rfl,hb⟩
   have HA2:Hid (∀ j,j<k+1→OneP (J.map RM.m) j):=hid (upto_succ HA.out (HW2.out ⟨Q1.out.2 (by simp),(fun _ h=>absurd h H5.out),(fun h=>absurd h H5.out),fun h=>(by have:=Q2.out.1 h;cases this),fun _=>(by have:=H8.out;have:=H9.out;omega),Q4.out.2 (by simp),Q5.out.2 (by simp),Q6.out.2 (by simp),Q7.out.2 (by simp)⟩));clear HA HW1 HW2;have hB1:=HN.out;have hB2:=HLT.out;go_wp2;go_roundw
   ·exact ⟨k+1,by have:=HLT.out;omega,by go_num,HA2,hb,M⟩
   have:=HLT.out;simp[intOf];omega
end Mem
namespace Mem
open RowKit Num Coder
theorem neq_sn (x:Sn) (w:World):(binOp .neq 191 (.agg #[.int .i64 x.f,.int .i64 x.t]) (.agg #[.int .i64 x.f,.int .i64 x.t])).run Tryz.prog w=.ok (.bool false) w:=by
 have hS:Tryz.prog.underlying 191=some (.struct (Tryz.prog.fieldsOf 191)):=by kernel_rfl
 rw[run_neq_struct,show (10000:Nat)=9999+1 from rfl,run_equalIn_agg w 9999 191 _ _ hS (by kernel_rfl)];simp only[Program.fieldsOf,Tryz.underlying191];have u1:=Tryz.underlying3;go_simp
theorem neq_wd (x:Wd) (w:World):(binOp .neq 94 (.agg #[x.o,x.h,x.k,x.r,x.g,x.c,x.p]) (.agg #[x.o,x.h,x.k,x.r,x.g,x.c,x.p])).run Tryz.prog w=.ok (.bool false) w:=by
 have hS:Tryz.prog.underlying 94=some (.struct (Tryz.prog.fieldsOf 94)):=by kernel_rfl
 rw[run_neq_struct,show (10000:Nat)=9999+1 from rfl,run_equalIn_agg w 9999 94 _ _ hS (by kernel_rfl)];simp only[Program.fieldsOf,Tryz.underlying94];have u1:=Tryz.underlying9;have u2:=Tryz.underlying25;have u3:=Tryz.underlying4;go_simp
theorem neq_ql (q:Pl) (w:World):(binOp .neq 89 (.agg #[q.k,q.r,q.l,q.a.b,q.a.n,q.a.o,q.a.m,q.d]) (.agg #[q.k,q.r,q.l,q.a.b,q.a.n,q.a.o,q.a.m,q.d])).run Tryz.prog w=.ok (.bool false) w:=by
 have h:=neq_pl q q w;rw[decide_eq_true rfl] at h;exact h
theorem sameOne_any (x:RM) (ga' wa':Option Addr) (gc' wc':Nat) (w:World) (hx:InnerM w x) (hg:Row.Lies snE w ga' x.g.length x.g) (hw:Row.Lies wdE w wa' x.w.length x.w) (ng:x.g.length≤1048576) (nw:x.w.length≤1048576) :
  CB 82 #[.agg x,.agg #[x.p,.int .u8 (x.s:Int),.int .i64 x.k,.int .i64 x.c,x.l,.slice ga' x.g.length gc',x.q.k,x.q.r,x.q.l,x.q.a.b,x.q.a.n,x.q.a.o,x.q.a.m,x.q.d,.slice wa' x.w.length wc']] w (.bool true):=by
 obtain ⟨p,s,k0,c,l,ga,gc,g,q,wa,wc,W⟩:=x;dsimp only at hg hw ng nw ⊢;have QL:=fun W=>neq_ql q W;have hg0:Row.Lies snE w ga g.length g:=hx.g;have hw0:Row.Lies wdE w wa W.length W:=hx.w;replace hg:=hid hg;replace hw:=hid hw;replace hg0:=hid hg0;replace hw0:=hid hw0;go_enter Tryz.func82,Tryz.ntmps82;go_upto_region 1 with (fail)
 obtain ⟨b2,w1,h2,hw1,B2⟩:∃ b w1,b=w.heap.size∧w1=w.alloc (.cells #[(p:Value),.int .u8 (s:Int),.int .i64 k0,.int .i64 c,l,.slice ga g.length gc,q.k,q.r,q.l,q.a.b,q.a.n,q.a.o,q.a.m,q.d,.slice wa W.length wc] 92)∧Hid (Bx w1 b [(p:Value),.int .u8 (s:Int),.int .i64 k0,.int .i64 c,l,.slice ga g.length gc,q.k,q.r,q.l,q.a.b,q.a.n,q.a.o,q.a.m,q.d,.slice wa W.length wc]):=⟨_,_,rfl,rfl,Bx.new w [(p:Value),.int .u8 (s:Int),.int .i64 k0,.int .i64 c,l,.slice ga g.length gc,q.k,q.r,q.l,q.a.b,q.a.n,q.a.o,q.a.m,q.d,.slice wa W.length wc] _⟩
 rw[← hw1,← h2];have hb1:Below w.heap.size w w1:=by rw[hw1];exact balloc (Below.refl _ _) _
 have h9:w1.heap.size=b2+1:=by rw[hw1,World.size_alloc,h2]
 clear hw1 h2;obtain ⟨b3,w2,h3,hw2,B3⟩:∃ b w2,b=w1.heap.size∧w2=w1.alloc (.cells #[(p:Value),.int .u8 (s:Int),.int .i64 k0,.int .i64 c,l,.slice ga' g.length gc',q.k,q.r,q.l,q.a.b,q.a.n,q.a.o,q.a.m,q.d,.slice wa' W.length wc'] 92)∧Hid (Bx w2 b [(p:Value),.int .u8 (s:Int),.int .i64 k0,.int .i64 c,l,.slice ga' g.length gc',q.k,q.r,q.l,q.a.b,q.a.n,q.a.o,q.a.m,q.d,.slice wa' W.length wc']):=⟨_,_,rfl,rfl,Bx.new w1 [(p:Value),.int .u8 (s:Int),.int .i64 k0,.int .i64 c,l,.slice ga' g.length gc',q.k,q.r,q.l,q.a.b,q.a.n,q.a.o,q.a.m,q.d,.slice wa' W.length wc'] _⟩
 rw[← hw2];rw[← h9,← h3];have hb2:Below w1.heap.size w1 w2:=by rw[hw2];exact balloc (Below.refl _ _) _
 replace B2:=hid (B2.out.below hb2);have hb:=bstep hb1 hb2;clear hw2 h3 h9 hb1 hb2;obtain ⟨s0,s1,s2,s3,s4,s5,s6,s7,s8,s9,s10,s11,s12,s13,s14⟩:=al15 B2.out;obtain ⟨u0,u1,u2,u3,u4,u5,u6,u7,u8,u9,u10,u11,u12,u13,u14⟩:=al15 B3.out;go_wp2_with fail
 go_loopw [5] (fun iv wr=>∃ k:Nat,iv=.int .i64 k∧k≤g.length∧Below w.heap.size w wr∧Hid (Bx wr b2 [(p:Value),.int .u8 (s:Int),.int .i64 k0,.int .i64 c,l,.slice ga g.length gc,q.k,q.r,q.l,q.a.b,q.a.n,q.a.o,q.a.m,q.d,.slice wa W.length wc])∧Hid (Bx wr b3 [(p:Value),.int .u8 (s:Int),.int .i64 k0,.int .i64 c,l,.slice ga' g.length gc',q.k,q.r,q.l,q.a.b,q.a.n,q.a.o,q.a.m,q.d,.slice wa' W.length wc'])) (fun iv _=>g.length - (intOf iv).toNat)
 case atStart=>exact ⟨0,rfl,by omega,hb,B2,B3⟩
 clear hb B2 B3;obtain ⟨k,rfl,hk,hb,B2,B3⟩:=hrel;have s5:=B2.out 5 _ rfl;have u5:=B3.out 5 _ rfl;by_cases hlt:k<g.length;rotate_left
 ·have d9:decide ((k:Int)<(g.length:Int))=false:=dF;have d8:=dF (p:=k<g.length);clear hlt;go_wp2_with fail
  go_loopw [6] (fun iv wr=>∃ k:Nat,iv=.int .i64 k∧k≤W.length∧Below w.heap.size w wr∧Hid (Bx wr b2 [(p:Value),.int .u8 (s:Int),.int .i64 k0,.int .i64 c,l,.slice ga g.length gc,q.k,q.r,q.l,q.a.b,q.a.n,q.a.o,q.a.m,q.d,.slice wa W.length wc])∧Hid (Bx wr b3 [(p:Value),.int .u8 (s:Int),.int .i64 k0,.int .i64 c,l,.slice ga' g.length gc',q.k,q.r,q.l,q.a.b,q.a.n,q.a.o,q.a.m,q.d,.slice wa' W.length wc'])) (fun iv _=>W.length - (intOf iv).toNat)
  case atStart=>exact ⟨0,rfl,by omega,hb,B2,B3⟩
  clear hb B2 B3;obtain ⟨k,rfl,hk,hb,B2,B3⟩:=hrel;have s14:=B2.out 14 _ rfl;have u14:=B3.out 14 _ rfl;by_cases hlt:k<W.length;rotate_left
  ·have d9:decide ((k:Int)<(W.length:Int))=false:=dF;have d8:=dF (p:=k<W.length);clear hlt;go_wp2;go_ret;exact ⟨rfl,hb⟩
  have d9:=dT (p:=(k:Int)<(W.length:Int));have d8:=dT (p:=k<W.length);have i1:(0:Int)≤(k:Int):=by omega
  have i2:(k:Int)<(W.length:Int):=by omega
  obtain ⟨b1,o1,rfl,hc1⟩:=(hw0.out.below hb).2 (by omega);obtain ⟨b4,o4,rfl,hc4⟩:=(hw.out.below hb).2 (by omega);obtain ⟨c0,c1,c2,c3,c4,c5,c6⟩:=cl7 (o1+k*7) (hc1 k hlt);obtain ⟨d0,d1,d2,d3,d4,d5,d6⟩:=cl7 (o4+k*7) (hc4 k hlt);obtain ⟨m,hm⟩:=nm W[k];rw[← hm] at c0 c1 c2 c3 c4 c5 c6 d0 d1 d2 d3 d4 d5 d6;have NE:=fun W=>neq_wd m W;have HK:=hid hlt;clear hc1 hc4 hm hlt;go_wp2_with fail
  refine rh (And.intro hb (And.intro B2.out (And.intro B3.out (And.intro s14 (And.intro u14 (And.intro (aj7 c0 c1 c2 c3 c4 c5 c6) (aj7 d0 d1 d2 d3 d4 d5 d6))))))) fun wd gH=>?_;refine tk (.range 11) ?_;refine tD ?_;clear hb B2 B3 s14 u14 c0 c1 c2 c3 c4 c5 c6 d0 d1 d2 d3 d4 d5 d6;obtain ⟨hb,B2,B3,-⟩:=gH;replace B2:=hid B2;replace B3:=hid B3;go_wp2;go_roundw
  ·exact ⟨k+1,by go_num,HK.out,hb,B2,B3⟩
  simp[intOf];have:=HK.out;omega
 have d9:=dT (p:=(k:Int)<(g.length:Int));have d8:=dT (p:=k<g.length);have i1:(0:Int)≤(k:Int):=by omega
 have i2:(k:Int)<(g.length:Int):=by omega
 obtain ⟨b1,o1,rfl,hc1⟩:=(hg0.out.below hb).2 (by omega);obtain ⟨b4,o4,rfl,hc4⟩:=(hg.out.below hb).2 (by omega);obtain ⟨c0,c1⟩:=cl2 (o1+k*2) (hc1 k hlt);obtain ⟨d0,d1⟩:=cl2 (o4+k*2) (hc4 k hlt);obtain ⟨m,hm⟩:=nm g[k];rw[← hm] at c0 c1 d0 d1;have NE:=fun W=>neq_sn m W;have HK:=hid hlt;clear hc1 hc4 hm hlt;go_wp2_with fail
 refine rh (And.intro hb (And.intro B2.out (And.intro B3.out (And.intro s5 (And.intro u5 (And.intro (aj2 c0 c1) (aj2 d0 d1))))))) fun wd gH=>?_;refine tk (.range 11) ?_;refine tD ?_;clear hb B2 B3 s5 u5 c0 c1 d0 d1;obtain ⟨hb,B2,B3,-⟩:=gH;replace B2:=hid B2;replace B3:=hid B3;go_wp2;go_roundw
 ·exact ⟨k+1,by go_num,HK.out,hb,B2,B3⟩
 simp[intOf];have:=HK.out;omega
theorem sameOne_of (x y:RM) (h:x.m=y.m) (w:World) (hx:InnerM w x) (hy:InnerM w y) (ng:x.g.length≤1048576) (nw:x.w.length≤1048576):CB 82 #[.agg x,.agg y] w (.bool true):=by
 obtain ⟨p,s,k,c,l,ga,gc,g,q,wa,wc,W⟩:=y;obtain ⟨p',s',k',c',l',ga',gc',g',q',wa',wc',W'⟩:=x;simp only[RM.m,Mb.mk.injEq] at h;obtain ⟨rfl,rfl,rfl,rfl,rfl,rfl,rfl,rfl⟩:=h;exact sameOne_any _ ga wa gc wc w hx hy.g hy.w ng nw
theorem sameM_any (J K:List RM) (a a':Option Addr) (c c':Nat) (w:World) (hJ:MSz w a J) (hK:MSz w a' K) (e:J.map RM.m=K.map RM.m) :
  CB 30 #[.slice a J.length c,.slice a' K.length c'] w (.bool true):=by
 have hl:K.length=J.length:=by have:=congrArg List.length e;simp only[List.length_map] at this;omega
 have HM:∀ k (h:k<J.length),(J[k]).m=(K[k]'(by omega)).m:=fun k h=>by
  have q:(J.map RM.m)[k]'(by rw[List.length_map];exact h)=(K.map RM.m)[k]'(by rw[List.length_map];omega):=by simp only[e]
  simpa only[List.getElem_map] using q
 have HN:=hJ.n;replace HM:=hid HM;rw[hl];replace hl:=hid hl;replace hJ:=hid hJ;replace hK:=hid hK;have hb:=Below.refl w.heap.size w;clear e;go_enter Tryz.func30,Tryz.ntmps30;go_wp2_with fail
 go_loopw [5] (fun iv wr=>∃ k:Nat,iv=.int .i64 k∧k≤J.length∧Below w.heap.size w wr) (fun iv _=>J.length - (intOf iv).toNat)
 case atStart=>exact ⟨0,rfl,by omega,hb⟩
 clear hb;obtain ⟨k,rfl,hk,hb⟩:=hrel;by_cases hlt:k<J.length;rotate_left
 ·have d9:decide ((k:Int)<(J.length:Int))=false:=dF;have d8:=dF (p:=k<J.length);clear hlt;go_wp2;go_ret;exact ⟨rfl,hb⟩
 have d9:=dT (p:=(k:Int)<(J.length:Int));have d8:=dT (p:=k<J.length);have i1:(0:Int)≤(k:Int):=by omega
 have i2:(k:Int)<(J.length:Int):=by omega
 have hlk:k<K.length:=by have:=hl.out;omega
 obtain ⟨b1,o1,rfl,hc1⟩:=(hJ.out.lies.1.below hb).2 (by omega);obtain ⟨b4,o4,rfl,hc4⟩:=(hK.out.lies.1.below hb).2 (by omega);obtain ⟨c0,c1,c2,c3,c4,c5,c6,c7,c8,c9,c10,c11,c12,c13,c14⟩:=cl15 (o1+k*15) (hc1 k hlt);obtain ⟨d0,d1,d2,d3,d4,d5,d6,d7,d8,d9,d10,d11,d12,d13,d14⟩:=cl15 (o4+k*15) (hc4 k hlk);have HX:=hJ.out.ok _ (List.getElem_mem hlt);have HI:=hJ.out.lies.2 _ (List.getElem_mem hlt);have HI2:=hK.out.lies.2 _ (List.getElem_mem hlk);have em:=HM.out k hlt;obtain ⟨x,hx⟩:=nm J[k];obtain ⟨y,hy⟩:=nm (K[k]'hlk);rw[← hx] at c0 c1 c2 c3 c4 c5 c6 c7 c8 c9 c10 c11 c12 c13 c14 HX HI em;rw[← hy] at d0 d1 d2 d3 d4 d5 d6 d7 d8 d9 d10 d11 d12 d13 d14 HI2 em;have C:=hid (fun W (h:Below w.heap.size w W)=>sameOne_of x y em W (HI.below h) (HI2.below h) HX.g HX.w);have HK:=hid hlt;clear hc1 hc4 hx hy hlt hlk HX HI HI2 em;go_wp2_with fail
 refine rh (And.intro hb (And.intro (aj15 c0 c1 c2 c3 c4 c5 c6 c7 c8 c9 c10 c11 c12 c13 c14) (aj15 d0 d1 d2 d3 d4 d5 d6 d7 d8 d9 d10 d11 d12 d13 d14))) fun wd gH=>?_;refine tk (.range 8) ?_;refine tR 8 fun K hK=>?_;go_simp;go_at_call 82;refine cr (C.out _ gH.1) fun w' k1=>?_;go_wp2_with fail
 refine tH hK gH k1 fun gH=>?_;clear hK k1;refine tk [9] ?_;refine tD ?_;clear hb c0 c1 c2 c3 c4 c5 c6 c7 c8 c9 c10 c11 c12 c13 c14 d0 d1 d2 d3 d4 d5 d6 d7 d8 d9 d10 d11 d12 d13 d14 C;obtain ⟨hb,-⟩:=gH;go_wp2;go_roundw
 ·exact ⟨k+1,by go_num,HK.out,hb⟩
 simp[intOf];have:=HK.out;omega
end Mem
end Go.Proofs.YtnpjkmomllkhpaaGreatDoor
