/- RefMemW, RefMemO, RefMemMay. -/
import Derived.Test.YtnpjkmomllkhpaaGreatDoorTn37
set_option linter.unusedVariables false
set_option linter.unusedSimpArgs false
set_option maxRecDepth 100000
set_option maxHeartbeats 16000000
namespace Go.Proofs.YtnpjkmomllkhpaaGreatDoor
namespace RefMem
open RowKit Num Path Coder Mem
theorem words_any (J:List RM) (a:Option Addr) (c:Nat) (x:RM) (w:World) (hJ:Row.Lies mbE w a J.length J) (hn:J.length≤1048576) (hI:Row.Lies wdE w x.wa x.w.length x.w) (hw:x.w.length≤1048576) (hm:∀ s ∈ x.w,s.Ok) :
  CB 199 #[.slice a J.length c,.agg x] w (tv (WordsM (J.map RM.m) x.p x.w)):=by
 obtain ⟨t,ss,kk,cc,ll,ga,gc,gg,qq,wa,wc,ww⟩:=x;simp only at hI hw hm ⊢;have LJ:=hid hJ;have HI:=hid hI;have HM:=hid hm;have HN:=hid (And.intro hn hw);clear hI hm hw hJ hn;go_enter Tryz.func199,Tryz.ntmps199;go_upto_region 1 with (fail)
 have hb0:=balloc (Below.refl w.heap.size w) (.cells #[t,.int .u8 (ss:Int),.int .i64 kk,.int .i64 cc,ll,.slice ga gg.length gc,qq.k,qq.r,qq.l,qq.a.b,qq.a.n,qq.a.o,qq.a.m,qq.d,.slice wa ww.length wc] 92);obtain ⟨t0,t1,t2,t3,t4,t5,t6,t7,t8,t9,t10,t11,t12,t13,t14⟩:=al15 (bx w [t,.int .u8 (ss:Int),.int .i64 kk,.int .i64 cc,ll,.slice ga gg.length gc,qq.k,qq.r,qq.l,qq.a.b,qq.a.n,qq.a.o,qq.a.m,qq.d,.slice wa ww.length wc] 92);obtain ⟨w0,hw0⟩:=nm (w.alloc (.cells #[t,.int .u8 (ss:Int),.int .i64 kk,.int .i64 cc,ll,.slice ga gg.length gc,qq.k,qq.r,qq.l,qq.a.b,qq.a.n,qq.a.o,qq.a.m,qq.d,.slice wa ww.length wc] 92));rw[← hw0] at hb0 t0 t1 t2 t3 t4 t5 t6 t7 t8 t9 t10 t11 t12 t13 t14 ⊢;obtain ⟨bt,hbt⟩:=nm w.heap.size;rw[← hbt] at t0 t1 t2 t3 t4 t5 t6 t7 t8 t9 t10 t11 t12 t13 t14 ⊢;have hb:=hb0;clear hb0 hw0 hbt t1 t2 t3 t4 t5 t6 t7 t8 t9 t10 t11 t12 t13;go_wp2_with fail
 go_loopw [5] (fun iv wr=>∃ k:Nat,k≤ww.length∧iv=.int .i64 k∧Hid (∀ j,j<k→WordAt (J.map RM.m) t ww j)∧Below w.heap.size w wr∧wr.cell? ⟨bt,0,none⟩=some ↑t∧wr.cell? ⟨bt,14,none⟩=some (.slice wa ww.length wc)) (fun iv _=>ww.length - (intOf iv).toNat)
 case atStart=>exact ⟨0,by omega,rfl,hid (fun j h=>absurd h (by omega)),hb,t0,t14⟩
 clear hb t0 t14;obtain ⟨k,hk,rfl,HA,hb,t0,t14⟩:=hrel;by_cases hlt:k<ww.length;rotate_left
 ·have d1:decide ((k:Int)<(ww.length:Int))=false:=dF;have HE:Hid (tv (WordsM (J.map RM.m) t ww)=true):=hid (tv_true fun j hj=>HA.out j (by omega));clear HA;go_wp2;go_ret;exact ⟨by rw[HE.out];rfl,hb⟩
 obtain ⟨b,off,rfl,hcell⟩:=(HI.out.below hb).2 (by omega);have d1:=dT (p:=(k:Int)<(ww.length:Int));have j1:(0:Int)≤(k:Int):=by omega
 have j2:(k:Int)<(ww.length:Int):=by omega
 obtain ⟨c0,c1,c2,c3,c4,c5,c6⟩:=cl7 (off+k*7) (hcell k hlt);have mo:=HM.out _ (List.getElem_mem hlt);obtain ⟨d,hd⟩:=nm ww[k];rw[← hd] at c0 c1 c2 c3 c4 c5 c6 mo;have HW1:Hid (WordAt (J.map RM.m) t ww k→(0<k→∀ h':k - 1<ww.length,cmpP (ww[k - 1]).o d.o<0)∧(∃ x,ofM (J.map RM.m) d.o=some x∧x.s=4)∧d.o≠t∧WordM d):=hid (fun f=>by have q:=f hlt;rw[← hd] at q;exact q);have HW2:Hid (((0<k→∀ h':k - 1<ww.length,cmpP (ww[k - 1]).o d.o<0)∧(∃ x,ofM (J.map RM.m) d.o=some x∧x.s=4)∧d.o≠t∧WordM d)→WordAt (J.map RM.m) t ww k):=hid (fun f _=>by rw[← hd];exact f);have HOL:Hid (d.o.length≤1048576):=hid mo.o;obtain ⟨q1,hq1⟩:=nm (under (parse d.o) (parse d.k));have Q1:Hid (UnderM d.o d.k↔q1=true):=hid (by rw[hq1];exact Iff.rfl);have C1:=hid (fun W=>qB hq1 (RefPath.under_any d.o d.k W (by have:=mo.o;omega)));have hof:=of_iff J d.o;obtain ⟨x,hx⟩:=nm (ofR J d.o);obtain ⟨r,hr⟩:=nm (isR J d.o);have CO:=hid (fun W (l:Row.Lies mbE W a J.length J)=>of_any J d.o a c W l HN.out.1);rw[← hx,← hr] at CO;rw[← hx,← hr] at hof;unfold tupR at CO;have HOF:=hid hof;clear hd mo hq1 hof hx hr;by_cases h4:0<k
 ·
  obtain ⟨k1,hk1⟩:∃ k1,k=k1+1:=⟨k - 1,by omega⟩
  have w1:IntKind.i64.wrap ((k:Int) - 1)=(k1:Int):=by rw[IntKind.wrap_i64];have:=HN.out;omega
  have i1:(0:Int)≤(k1:Int):=by omega
  have i2:(k1:Int)<(ww.length:Int):=by omega
  have c9:=cl1 (off+k1*7) (hcell k1 (by omega));have uo:=(HM.out _ (List.getElem_mem (show k1<ww.length by omega))).o;obtain ⟨u,hu⟩:=nm ((ww[k1]).o);rw[← hu] at c9 uo;have HU:Hid (∀ h':k - 1<ww.length,(ww[k - 1]).o=u):=hid (fun h'=>by rw[hu];congr 2;omega);obtain ⟨z,hz⟩:=nm (cmpP u d.o);have CC:=hid (fun W=>RefPath.compare_any u d.o W (by omega) (by have:=HOL.out;omega));rw[← hz] at CC;have HZ:=hid hz;clear hu hk1 uo hz;have d2:=dT (p:=0<(k:Int));have d2g:decide ((k:Int) > 0)=true:=d2;have d2n:decide (0<k)=true:=decide_eq_true h4;have HLT:=hid hlt;have H4:=hid h4;clear hcell hlt hk h4;go_upto_region 5 with (fail)
  clear c0 c1 c2 c3 c4 c5 c6;obtain ⟨s0,s1,s2,s3,s4,s5,s6⟩:=al7 (bx (wr) d 94);have hA:=kp (w:=wr) (balo (.cells d 94)) (aj3 t0 t14 c9);clear t0 t14 c9;obtain ⟨t0,t14,c9⟩:=hA;replace hb:=bstep hb (balloc (Below.refl _ _) (.cells d 94));obtain ⟨wd,hwd⟩:=nm ((wr).alloc (.cells d 94));rw[← hwd] at hb t0 t14 c9 s0 s1 s2 s3 s4 s5 s6 ⊢;obtain ⟨bs,hbs⟩:=nm ((wr).heap.size);rw[← hbs] at s0 s1 s2 s3 s4 s5 s6 ⊢;clear hwd hbs;go_wp2_with fail
  refine cr (CO.out _ (LJ.out.below hb)) fun v1 k1=>?_;have hA:=kp k1 (aj10 t0 t14 c9 s0 s1 s2 s3 s4 s5 s6);clear t0 t14 c9 s0 s1 s2 s3 s4 s5 s6;obtain ⟨t0,t14,c9,s0,s1,s2,s3,s4,s5,s6⟩:=hA;replace hb:=bstep hb k1;clear k1;go_upto_region 6 with (fail)
  have m1:=box_cells (v1) x 92 1 (.int .u8 (x.s:Int)) rfl;have hA:=kp (w:=v1) (balo (.cells x 92)) (aj10 t0 t14 c9 s0 s1 s2 s3 s4 s5 s6);clear t0 t14 c9 s0 s1 s2 s3 s4 s5 s6;obtain ⟨t0,t14,c9,s0,s1,s2,s3,s4,s5,s6⟩:=hA;replace hb:=bstep hb (balloc (Below.refl _ _) (.cells x 92));obtain ⟨we,hwe⟩:=nm ((v1).alloc (.cells x 92));rw[← hwe] at hb t0 t14 c9 s0 s1 s2 s3 s4 s5 s6 m1 ⊢;obtain ⟨bm,hbm⟩:=nm ((v1).heap.size);rw[← hbm] at m1 ⊢;clear hwe hbm;cases r
  ·
   have HE:Hid (tv (WordsM (J.map RM.m) t ww)=false):=hid (tv_false fun F0=>by have f:=HW1.out (F0 k HLT.out);exact by obtain ⟨y,e,_⟩:=f.2.1;rw[HOF.out] at e;cases e);clear HA HW1 HW2;refine rh (aj12 hb t0 t14 c9 s0 s1 s2 s3 s4 s5 s6 m1) fun wd gH=>?_;refine tk (.range 41) ?_;refine tD ?_;clear hb t0 t14 c9 s0 s1 s2 s3 s4 s5 s6 m1;obtain ⟨hb,t0,t14,c9,s0,s1,s2,s3,s4,s5,s6,m1⟩:=gH;go_wp2;go_ret;exact ⟨by rw[HE.out];rfl,hb⟩
  by_cases h5:4≤x.s∧x.s≤4;rotate_left
  ·
   have d5:(((x.s:Int)) == 4)=false:=bF;have d5n:(((x.s:Int)) != 4)=true:=by rw[bne,d5];rfl
   have HE:Hid (tv (WordsM (J.map RM.m) t ww)=false):=hid (tv_false fun F0=>by have f:=HW1.out (F0 k HLT.out);exact by obtain ⟨y,e1,e2⟩:=f.2.1;rw[HOF.out] at e1;cases e1;exact h5 (by have e3:x.s=4:=e2;omega));clear HA HW1 HW2;refine rh (aj12 hb t0 t14 c9 s0 s1 s2 s3 s4 s5 s6 m1) fun wd gH=>?_;refine tk (.range 41) ?_;refine tD ?_;clear hb t0 t14 c9 s0 s1 s2 s3 s4 s5 s6 m1;obtain ⟨hb,t0,t14,c9,s0,s1,s2,s3,s4,s5,s6,m1⟩:=gH;go_wp2;go_ret;exact ⟨by rw[HE.out];rfl,hb⟩
  have d5:(((x.s:Int)) == 4)=true:=bT;have d5n:(((x.s:Int)) != 4)=false:=by rw[bne,d5];rfl
  by_cases h6:d.o≠t;rotate_left
  ·
   have h6:=Classical.not_not.1 h6;have d6:(d.o == t)=true:=by rw[beq_iff_eq];exact h6
   have d6n:(d.o != t)=false:=by rw[bne,d6];rfl
   have H6:=hid h6;clear h6;have HE:Hid (tv (WordsM (J.map RM.m) t ww)=false):=hid (tv_false fun F0=>by have f:=HW1.out (F0 k HLT.out);exact f.2.2.1 H6.out);clear HA HW1 HW2;refine rh (aj12 hb t0 t14 c9 s0 s1 s2 s3 s4 s5 s6 m1) fun wd gH=>?_;refine tk (.range 41) ?_;refine tD ?_;clear hb t0 t14 c9 s0 s1 s2 s3 s4 s5 s6 m1;obtain ⟨hb,t0,t14,c9,s0,s1,s2,s3,s4,s5,s6,m1⟩:=gH;go_wp2;go_ret;exact ⟨by rw[HE.out];rfl,hb⟩
  have d6:(d.o == t)=false:=by rw[beq_eq_false_iff_ne];exact h6
  have d6n:(d.o != t)=true:=by rw[bne,d6];rfl
  by_cases h7:d.h≤281474976710656;rotate_left
  ·
   have d7:=dT (p:=281474976710656<(d.h:Int));have d7g:=dT (p:=(d.h:Int) > 281474976710656);have HE:Hid (tv (WordsM (J.map RM.m) t ww)=false):=hid (tv_false fun F0=>by have f:=HW1.out (F0 k HLT.out);exact h7 f.2.2.2.2.1);clear HA HW1 HW2;refine rh (aj12 hb t0 t14 c9 s0 s1 s2 s3 s4 s5 s6 m1) fun wd gH=>?_;refine tk (.range 41) ?_;refine tD ?_;clear hb t0 t14 c9 s0 s1 s2 s3 s4 s5 s6 m1;obtain ⟨hb,t0,t14,c9,s0,s1,s2,s3,s4,s5,s6,m1⟩:=gH;go_wp2;go_ret;exact ⟨by rw[HE.out];rfl,hb⟩
  have d7:=dF (p:=281474976710656<(d.h:Int));have d7g:=dF (p:=(d.h:Int) > 281474976710656);by_cases h8:d.c≤281474976710656;rotate_left
  ·
   have d8:=dT (p:=281474976710656<(d.c:Int));have d8g:=dT (p:=(d.c:Int) > 281474976710656);have HE:Hid (tv (WordsM (J.map RM.m) t ww)=false):=hid (tv_false fun F0=>by have f:=HW1.out (F0 k HLT.out);exact h8 f.2.2.2.2.2.1);clear HA HW1 HW2;refine rh (aj12 hb t0 t14 c9 s0 s1 s2 s3 s4 s5 s6 m1) fun wd gH=>?_;refine tk (.range 41) ?_;refine tD ?_;clear hb t0 t14 c9 s0 s1 s2 s3 s4 s5 s6 m1;obtain ⟨hb,t0,t14,c9,s0,s1,s2,s3,s4,s5,s6,m1⟩:=gH;go_wp2;go_ret;exact ⟨by rw[HE.out];rfl,hb⟩
  have d8:=dF (p:=281474976710656<(d.c:Int));have d8g:=dF (p:=(d.c:Int) > 281474976710656);by_cases hz:z<0;rotate_left
  ·
   have d9:=dT (p:=0≤z);have d9g:=dT (p:=z≥0);have HE:Hid (tv (WordsM (J.map RM.m) t ww)=false):=hid (tv_false fun F0=>by have f:=HW1.out (F0 k HLT.out);exact hz (by have q:=f.1 H4.out (by have:=HLT.out;omega);rw[HU.out,← HZ.out] at q;exact q));clear HA HW1 HW2;refine rh (aj12 hb t0 t14 c9 s0 s1 s2 s3 s4 s5 s6 m1) fun wd gH=>?_;refine tk (.range 37) ?_;refine tR 37 fun K hK=>?_;go_simp;go_at_call 138;refine cr (CC.out _) fun v2 k2=>?_;go_wp2_with fail
   refine tH hK gH k2 fun gH=>?_;clear hK K k2;refine tk [38,39,40] ?_;refine tD ?_;clear hb t0 t14 c9 s0 s1 s2 s3 s4 s5 s6 m1;obtain ⟨hb,t0,t14,c9,s0,s1,s2,s3,s4,s5,s6,m1⟩:=gH;go_wp2;go_ret;exact ⟨by rw[HE.out];rfl,hb⟩
  have d9:=dF (p:=0≤z);have d9g:=dF (p:=z≥0);have H5:Hid (x.m.s=4):=hid (show x.s=4 by omega);have H6:=hid h6;have H7:=hid h7;have H8:=hid h8;clear h5 h6 h7 h8;have H9:=hid (show cmpP u d.o<0 by rw[← HZ.out];exact hz);clear hz;refine rh (aj12 hb t0 t14 c9 s0 s1 s2 s3 s4 s5 s6 m1) fun wd gH=>?_;refine tk (.range 37) ?_;refine tR 37 fun K hK=>?_;go_simp;go_at_call 138;refine cr (CC.out _) fun v3 k3=>?_;go_wp2_with fail
  refine tH hK gH k3 fun gH=>?_;clear hK K k3;refine tk [38,39,40] ?_;refine tD ?_;clear hb t0 t14 c9 s0 s1 s2 s3 s4 s5 s6 m1;obtain ⟨hb,t0,t14,c9,s0,s1,s2,s3,s4,s5,s6,m1⟩:=gH;clear c9 m1;go_upto_region 8 with (fail)
  obtain ⟨gg9,hg9⟩:=nm d.g;have HG9:=hid hg9;rw[← hg9] at s4;clear hg9;cases gg9
  ·
   by_cases hc:1≤d.c
   ·
    have dc:(((d.c:Int)) == 0)=false:=bF;have dcn:(((d.c:Int)) != 0)=true:=by rw[bne,dc];rfl
    have HE:Hid (tv (WordsM (J.map RM.m) t ww)=false):=hid (tv_false fun F0=>by have f:=HW1.out (F0 k HLT.out);exact f.2.2.2.2.2.2.elim (fun f=>by omega) (fun f=>by rw[← HG9.out] at f;cases f));clear HA HW1 HW2;go_wp2;go_ret;exact ⟨by rw[HE.out];rfl,hb⟩
   have dc:(((d.c:Int)) == 0)=true:=bT;have dcn:(((d.c:Int)) != 0)=false:=by rw[bne,dc];rfl
   have HG:Hid (d.c=0∨d.g=true):=hid (.inl (by omega));clear hc;by_cases hk:d.k=[]
   ·
    have n0:(d.k != [])=false:=by rw[hk];rfl
    have n1:(d.k == [])=true:=by rw[hk];rfl
    have n2:d.k.isEmpty=true:=by rw[hk];rfl
    have HK:=hid hk;by_cases hr:1≤d.r
    ·
     have dr:(((d.r:Int)) == 0)=false:=bF;have drn:(((d.r:Int)) != 0)=true:=by rw[bne,dr];rfl
     have HR:=hid hr;clear hr hk;have HE:Hid (tv (WordsM (J.map RM.m) t ww)=false):=hid (tv_false fun F0=>by have f:=HW1.out (F0 k HLT.out);exact (f.2.2.2.1).elim (fun f=>by have hr:=HR.out;have:=f.2;omega) (fun f=>under_nil _ (by rw[← HK.out];exact f.1)));clear HA HW1 HW2;go_wp2;go_ret;exact ⟨by rw[HE.out];rfl,hb⟩
    have dr:(((d.r:Int)) == 0)=true:=bT;have drn:(((d.r:Int)) != 0)=false:=by rw[bne,dr];rfl
    have HR:=hid hr;clear hr hk;have HA2:Hid (∀ j,j<k+1→WordAt (J.map RM.m) t ww j):=hid (upto_succ HA.out (HW2.out ⟨fun _ h'=>by rw[HU.out];exact H9.out,⟨x.m,HOF.out,H5.out⟩,H6.out,.inl ⟨HK.out,by have:=HR.out;omega⟩,H7.out,H8.out,HG.out⟩));clear HA HW1 HW2;have hB1:=HN.out;have hB2:=HLT.out;go_wp2;go_roundw
    ·exact ⟨k+1,by have:=HLT.out;omega,by go_num,HA2,hb,t0,t14⟩
    have:=HLT.out;simp[intOf];omega
   have n0:(d.k != [])=true:=by rw[bne_iff_ne];exact hk
   have n1:(d.k == [])=false:=by rw[beq_eq_false_iff_ne];exact hk
   have n2:d.k.isEmpty=false:=by rw[List.isEmpty_eq_false_iff];exact hk
   have HK:=hid hk;clear hk;go_wp2_with fail
   refine cr (C1.out _) fun v4 k4=>?_;have hA:=kp k4 (aj9 t0 t14 s0 s1 s2 s3 s4 s5 s6);clear t0 t14 s0 s1 s2 s3 s4 s5 s6;obtain ⟨t0,t14,s0,s1,s2,s3,s4,s5,s6⟩:=hA;replace hb:=bstep hb k4;clear k4;cases q1
   ·
    have HE:Hid (tv (WordsM (J.map RM.m) t ww)=false):=hid (tv_false fun F0=>by have f:=HW1.out (F0 k HLT.out);exact (f.2.2.2.1).elim (fun f=>HK.out f.1) (fun f=>by have:=Q1.out.1 f.1;cases this));clear HA HW1 HW2;go_wp2;go_ret;exact ⟨by rw[HE.out];rfl,hb⟩
   by_cases hr:1≤d.r;rotate_left
   ·
    have dr:=dT (p:=(d.r:Int)<1);have drg:=dT (p:=1 > (d.r:Int));have HE:Hid (tv (WordsM (J.map RM.m) t ww)=false):=hid (tv_false fun F0=>by have f:=HW1.out (F0 k HLT.out);exact (f.2.2.2.1).elim (fun f=>HK.out f.1) (fun f=>hr f.2.1));clear HA HW1 HW2;go_wp2;go_ret;exact ⟨by rw[HE.out];rfl,hb⟩
   have dr:=dF (p:=(d.r:Int)<1);have drg:=dF (p:=1 > (d.r:Int));by_cases hx:d.r≤281474976710656;rotate_left
   ·
    have dx:=dT (p:=281474976710656<(d.r:Int));have dxg:=dT (p:=(d.r:Int) > 281474976710656);have HE:Hid (tv (WordsM (J.map RM.m) t ww)=false):=hid (tv_false fun F0=>by have f:=HW1.out (F0 k HLT.out);exact (f.2.2.2.1).elim (fun f=>HK.out f.1) (fun f=>hx f.2.2));clear HA HW1 HW2;go_wp2;go_ret;exact ⟨by rw[HE.out];rfl,hb⟩
   have dx:=dF (p:=281474976710656<(d.r:Int));have dxg:=dF (p:=(d.r:Int) > 281474976710656);have HA2:Hid (∀ j,j<k+1→WordAt (J.map RM.m) t ww j):=hid (upto_succ HA.out (HW2.out ⟨fun _ h'=>by rw[HU.out];exact H9.out,⟨x.m,HOF.out,H5.out⟩,H6.out,.inr ⟨Q1.out.2 (by simp),hr,hx⟩,H7.out,H8.out,HG.out⟩));clear HA HW1 HW2;have hB1:=HN.out;have hB2:=HLT.out;go_wp2;go_roundw
   ·exact ⟨k+1,by have:=HLT.out;omega,by go_num,HA2,hb,t0,t14⟩
   have:=HLT.out;simp[intOf];omega
  have HG:Hid (d.c=0∨d.g=true):=hid (.inr HG9.out.symm);by_cases hk:d.k=[]
  ·
   have n0:(d.k != [])=false:=by rw[hk];rfl
   have n1:(d.k == [])=true:=by rw[hk];rfl
   have n2:d.k.isEmpty=true:=by rw[hk];rfl
   have HK:=hid hk;by_cases hr:1≤d.r
   ·
    have dr:(((d.r:Int)) == 0)=false:=bF;have drn:(((d.r:Int)) != 0)=true:=by rw[bne,dr];rfl
    have HR:=hid hr;clear hr hk;have HE:Hid (tv (WordsM (J.map RM.m) t ww)=false):=hid (tv_false fun F0=>by have f:=HW1.out (F0 k HLT.out);exact (f.2.2.2.1).elim (fun f=>by have hr:=HR.out;have:=f.2;omega) (fun f=>under_nil _ (by rw[← HK.out];exact f.1)));clear HA HW1 HW2;go_wp2;go_ret;exact ⟨by rw[HE.out];rfl,hb⟩
   have dr:(((d.r:Int)) == 0)=true:=bT;have drn:(((d.r:Int)) != 0)=false:=by rw[bne,dr];rfl
   have HR:=hid hr;clear hr hk;have HA2:Hid (∀ j,j<k+1→WordAt (J.map RM.m) t ww j):=hid (upto_succ HA.out (HW2.out ⟨fun _ h'=>by rw[HU.out];exact H9.out,⟨x.m,HOF.out,H5.out⟩,H6.out,.inl ⟨HK.out,by have:=HR.out;omega⟩,H7.out,H8.out,HG.out⟩));clear HA HW1 HW2;have hB1:=HN.out;have hB2:=HLT.out;go_wp2;go_roundw
   ·exact ⟨k+1,by have:=HLT.out;omega,by go_num,HA2,hb,t0,t14⟩
   have:=HLT.out;simp[intOf];omega
  have n0:(d.k != [])=true:=by rw[bne_iff_ne];exact hk
  have n1:(d.k == [])=false:=by rw[beq_eq_false_iff_ne];exact hk
  have n2:d.k.isEmpty=false:=by rw[List.isEmpty_eq_false_iff];exact hk
  have HK:=hid hk;clear hk;go_wp2_with fail
  refine cr (C1.out _) fun v5 k5=>?_;have hA:=kp k5 (aj9 t0 t14 s0 s1 s2 s3 s4 s5 s6);clear t0 t14 s0 s1 s2 s3 s4 s5 s6;obtain ⟨t0,t14,s0,s1,s2,s3,s4,s5,s6⟩:=hA;replace hb:=bstep hb k5;clear k5;cases q1
  ·
   have HE:Hid (tv (WordsM (J.map RM.m) t ww)=false):=hid (tv_false fun F0=>by have f:=HW1.out (F0 k HLT.out);exact (f.2.2.2.1).elim (fun f=>HK.out f.1) (fun f=>by have:=Q1.out.1 f.1;cases this));clear HA HW1 HW2;go_wp2;go_ret;exact ⟨by rw[HE.out];rfl,hb⟩
  by_cases hr:1≤d.r;rotate_left
  ·
   have dr:=dT (p:=(d.r:Int)<1);have drg:=dT (p:=1 > (d.r:Int));have HE:Hid (tv (WordsM (J.map RM.m) t ww)=false):=hid (tv_false fun F0=>by have f:=HW1.out (F0 k HLT.out);exact (f.2.2.2.1).elim (fun f=>HK.out f.1) (fun f=>hr f.2.1));clear HA HW1 HW2;go_wp2;go_ret;exact ⟨by rw[HE.out];rfl,hb⟩
  have dr:=dF (p:=(d.r:Int)<1);have drg:=dF (p:=1 > (d.r:Int));by_cases hx:d.r≤281474976710656;rotate_left
  ·
   have dx:=dT (p:=281474976710656<(d.r:Int));have dxg:=dT (p:=(d.r:Int) > 281474976710656);have HE:Hid (tv (WordsM (J.map RM.m) t ww)=false):=hid (tv_false fun F0=>by have f:=HW1.out (F0 k HLT.out);exact (f.2.2.2.1).elim (fun f=>HK.out f.1) (fun f=>hx f.2.2));clear HA HW1 HW2;go_wp2;go_ret;exact ⟨by rw[HE.out];rfl,hb⟩
  have dx:=dF (p:=281474976710656<(d.r:Int));have dxg:=dF (p:=(d.r:Int) > 281474976710656);have HA2:Hid (∀ j,j<k+1→WordAt (J.map RM.m) t ww j):=hid (upto_succ HA.out (HW2.out ⟨fun _ h'=>by rw[HU.out];exact H9.out,⟨x.m,HOF.out,H5.out⟩,H6.out,.inr ⟨Q1.out.2 (by simp),hr,hx⟩,H7.out,H8.out,HG.out⟩));clear HA HW1 HW2;have hB1:=HN.out;have hB2:=HLT.out;go_wp2;go_roundw
  ·exact ⟨k+1,by have:=HLT.out;omega,by go_num,HA2,hb,t0,t14⟩
  have:=HLT.out;simp[intOf];omega
 have d2:=dF (p:=0<(k:Int));have d2g:decide ((k:Int) > 0)=false:=d2;have d2n:decide (0<k)=false:=decide_eq_false h4;have HLT:=hid hlt;have H4:=hid h4;clear hcell hlt hk h4;go_upto_region 5 with (fail)
 clear c0 c1 c2 c3 c4 c5 c6;obtain ⟨s0,s1,s2,s3,s4,s5,s6⟩:=al7 (bx (wr) d 94);have hA:=kp (w:=wr) (balo (.cells d 94)) (aj2 t0 t14);clear t0 t14;obtain ⟨t0,t14⟩:=hA;replace hb:=bstep hb (balloc (Below.refl _ _) (.cells d 94));obtain ⟨wd,hwd⟩:=nm ((wr).alloc (.cells d 94));rw[← hwd] at hb t0 t14 s0 s1 s2 s3 s4 s5 s6 ⊢;obtain ⟨bs,hbs⟩:=nm ((wr).heap.size);rw[← hbs] at s0 s1 s2 s3 s4 s5 s6 ⊢;clear hwd hbs;go_wp2_with fail
 refine cr (CO.out _ (LJ.out.below hb)) fun v6 k6=>?_;have hA:=kp k6 (aj9 t0 t14 s0 s1 s2 s3 s4 s5 s6);clear t0 t14 s0 s1 s2 s3 s4 s5 s6;obtain ⟨t0,t14,s0,s1,s2,s3,s4,s5,s6⟩:=hA;replace hb:=bstep hb k6;clear k6;go_upto_region 6 with (fail)
 have m1:=box_cells (v6) x 92 1 (.int .u8 (x.s:Int)) rfl;have hA:=kp (w:=v6) (balo (.cells x 92)) (aj9 t0 t14 s0 s1 s2 s3 s4 s5 s6);clear t0 t14 s0 s1 s2 s3 s4 s5 s6;obtain ⟨t0,t14,s0,s1,s2,s3,s4,s5,s6⟩:=hA;replace hb:=bstep hb (balloc (Below.refl _ _) (.cells x 92));obtain ⟨we,hwe⟩:=nm ((v6).alloc (.cells x 92));rw[← hwe] at hb t0 t14 s0 s1 s2 s3 s4 s5 s6 m1 ⊢;obtain ⟨bm,hbm⟩:=nm ((v6).heap.size);rw[← hbm] at m1 ⊢;clear hwe hbm;cases r
 ·
  have HE:Hid (tv (WordsM (J.map RM.m) t ww)=false):=hid (tv_false fun F0=>by have f:=HW1.out (F0 k HLT.out);exact by obtain ⟨y,e,_⟩:=f.2.1;rw[HOF.out] at e;cases e);clear HA HW1 HW2;refine rh (aj11 hb t0 t14 s0 s1 s2 s3 s4 s5 s6 m1) fun wd gH=>?_;refine tk (.range 41) ?_;refine tD ?_;clear hb t0 t14 s0 s1 s2 s3 s4 s5 s6 m1;obtain ⟨hb,t0,t14,s0,s1,s2,s3,s4,s5,s6,m1⟩:=gH;go_wp2;go_ret;exact ⟨by rw[HE.out];rfl,hb⟩
 by_cases h5:4≤x.s∧x.s≤4;rotate_left
 ·
  have d5:(((x.s:Int)) == 4)=false:=bF;have d5n:(((x.s:Int)) != 4)=true:=by rw[bne,d5];rfl
  have HE:Hid (tv (WordsM (J.map RM.m) t ww)=false):=hid (tv_false fun F0=>by have f:=HW1.out (F0 k HLT.out);exact by obtain ⟨y,e1,e2⟩:=f.2.1;rw[HOF.out] at e1;cases e1;exact h5 (by have e3:x.s=4:=e2;omega));clear HA HW1 HW2;refine rh (aj11 hb t0 t14 s0 s1 s2 s3 s4 s5 s6 m1) fun wd gH=>?_;refine tk (.range 41) ?_;refine tD ?_;clear hb t0 t14 s0 s1 s2 s3 s4 s5 s6 m1;obtain ⟨hb,t0,t14,s0,s1,s2,s3,s4,s5,s6,m1⟩:=gH;go_wp2;go_ret;exact ⟨by rw[HE.out];rfl,hb⟩
 have d5:(((x.s:Int)) == 4)=true:=bT;have d5n:(((x.s:Int)) != 4)=false:=by rw[bne,d5];rfl
 by_cases h6:d.o≠t;rotate_left
 ·
  have h6:=Classical.not_not.1 h6;have d6:(d.o == t)=true:=by rw[beq_iff_eq];exact h6
  have d6n:(d.o != t)=false:=by rw[bne,d6];rfl
  have H6:=hid h6;clear h6;have HE:Hid (tv (WordsM (J.map RM.m) t ww)=false):=hid (tv_false fun F0=>by have f:=HW1.out (F0 k HLT.out);exact f.2.2.1 H6.out);clear HA HW1 HW2;refine rh (aj11 hb t0 t14 s0 s1 s2 s3 s4 s5 s6 m1) fun wd gH=>?_;refine tk (.range 41) ?_;refine tD ?_;clear hb t0 t14 s0 s1 s2 s3 s4 s5 s6 m1;obtain ⟨hb,t0,t14,s0,s1,s2,s3,s4,s5,s6,m1⟩:=gH;go_wp2;go_ret;exact ⟨by rw[HE.out];rfl,hb⟩
 have d6:(d.o == t)=false:=by rw[beq_eq_false_iff_ne];exact h6
 have d6n:(d.o != t)=true:=by rw[bne,d6];rfl
 by_cases h7:d.h≤281474976710656;rotate_left
 ·
  have d7:=dT (p:=281474976710656<(d.h:Int));have d7g:=dT (p:=(d.h:Int) > 281474976710656);have HE:Hid (tv (WordsM (J.map RM.m) t ww)=false):=hid (tv_false fun F0=>by have f:=HW1.out (F0 k HLT.out);exact h7 f.2.2.2.2.1);clear HA HW1 HW2;refine rh (aj11 hb t0 t14 s0 s1 s2 s3 s4 s5 s6 m1) fun wd gH=>?_;refine tk (.range 41) ?_;refine tD ?_;clear hb t0 t14 s0 s1 s2 s3 s4 s5 s6 m1;obtain ⟨hb,t0,t14,s0,s1,s2,s3,s4,s5,s6,m1⟩:=gH;go_wp2;go_ret;exact ⟨by rw[HE.out];rfl,hb⟩
 have d7:=dF (p:=281474976710656<(d.h:Int));have d7g:=dF (p:=(d.h:Int) > 281474976710656);by_cases h8:d.c≤281474976710656;rotate_left
 ·
  have d8:=dT (p:=281474976710656<(d.c:Int));have d8g:=dT (p:=(d.c:Int) > 281474976710656);have HE:Hid (tv (WordsM (J.map RM.m) t ww)=false):=hid (tv_false fun F0=>by have f:=HW1.out (F0 k HLT.out);exact h8 f.2.2.2.2.2.1);clear HA HW1 HW2;refine rh (aj11 hb t0 t14 s0 s1 s2 s3 s4 s5 s6 m1) fun wd gH=>?_;refine tk (.range 41) ?_;refine tD ?_;clear hb t0 t14 s0 s1 s2 s3 s4 s5 s6 m1;obtain ⟨hb,t0,t14,s0,s1,s2,s3,s4,s5,s6,m1⟩:=gH;go_wp2;go_ret;exact ⟨by rw[HE.out];rfl,hb⟩
 have d8:=dF (p:=281474976710656<(d.c:Int));have d8g:=dF (p:=(d.c:Int) > 281474976710656);have H5:Hid (x.m.s=4):=hid (show x.s=4 by omega);have H6:=hid h6;have H7:=hid h7;have H8:=hid h8;clear h5 h6 h7 h8;refine rh (aj11 hb t0 t14 s0 s1 s2 s3 s4 s5 s6 m1) fun wd gH=>?_;refine tk (.range 41) ?_;refine tD ?_;clear hb t0 t14 s0 s1 s2 s3 s4 s5 s6 m1;obtain ⟨hb,t0,t14,s0,s1,s2,s3,s4,s5,s6,m1⟩:=gH;clear m1;go_upto_region 8 with (fail)
 obtain ⟨gg9,hg9⟩:=nm d.g;have HG9:=hid hg9;rw[← hg9] at s4;clear hg9;cases gg9
 ·
  by_cases hc:1≤d.c
  ·
   have dc:(((d.c:Int)) == 0)=false:=bF;have dcn:(((d.c:Int)) != 0)=true:=by rw[bne,dc];rfl
   have HE:Hid (tv (WordsM (J.map RM.m) t ww)=false):=hid (tv_false fun F0=>by have f:=HW1.out (F0 k HLT.out);exact f.2.2.2.2.2.2.elim (fun f=>by omega) (fun f=>by rw[← HG9.out] at f;cases f));clear HA HW1 HW2;go_wp2;go_ret;exact ⟨by rw[HE.out];rfl,hb⟩
  have dc:(((d.c:Int)) == 0)=true:=bT;have dcn:(((d.c:Int)) != 0)=false:=by rw[bne,dc];rfl
  have HG:Hid (d.c=0∨d.g=true):=hid (.inl (by omega));clear hc;by_cases hk:d.k=[]
  ·
   have n0:(d.k != [])=false:=by rw[hk];rfl
   have n1:(d.k == [])=true:=by rw[hk];rfl
   have n2:d.k.isEmpty=true:=by rw[hk];rfl
   have HK:=hid hk;by_cases hr:1≤d.r
   ·
    have dr:(((d.r:Int)) == 0)=false:=bF;have drn:(((d.r:Int)) != 0)=true:=by rw[bne,dr];rfl
    have HR:=hid hr;clear hr hk;have HE:Hid (tv (WordsM (J.map RM.m) t ww)=false):=hid (tv_false fun F0=>by have f:=HW1.out (F0 k HLT.out);exact (f.2.2.2.1).elim (fun f=>by have hr:=HR.out;have:=f.2;omega) (fun f=>under_nil _ (by rw[← HK.out];exact f.1)));clear HA HW1 HW2;go_wp2;go_ret;exact ⟨by rw[HE.out];rfl,hb⟩
   have dr:(((d.r:Int)) == 0)=true:=bT;have drn:(((d.r:Int)) != 0)=false:=by rw[bne,dr];rfl
   have HR:=hid hr;clear hr hk;have HA2:Hid (∀ j,j<k+1→WordAt (J.map RM.m) t ww j):=hid (upto_succ HA.out (HW2.out ⟨fun h=>absurd h H4.out,⟨x.m,HOF.out,H5.out⟩,H6.out,.inl ⟨HK.out,by have:=HR.out;omega⟩,H7.out,H8.out,HG.out⟩));clear HA HW1 HW2;have hB1:=HN.out;have hB2:=HLT.out;go_wp2;go_roundw
   ·exact ⟨k+1,by have:=HLT.out;omega,by go_num,HA2,hb,t0,t14⟩
   have:=HLT.out;simp[intOf];omega
  have n0:(d.k != [])=true:=by rw[bne_iff_ne];exact hk
  have n1:(d.k == [])=false:=by rw[beq_eq_false_iff_ne];exact hk
  have n2:d.k.isEmpty=false:=by rw[List.isEmpty_eq_false_iff];exact hk
  have HK:=hid hk;clear hk;go_wp2_with fail
  refine cr (C1.out _) fun v7 k7=>?_;have hA:=kp k7 (aj9 t0 t14 s0 s1 s2 s3 s4 s5 s6);clear t0 t14 s0 s1 s2 s3 s4 s5 s6;obtain ⟨t0,t14,s0,s1,s2,s3,s4,s5,s6⟩:=hA;replace hb:=bstep hb k7;clear k7;cases q1
  ·
   have HE:Hid (tv (WordsM (J.map RM.m) t ww)=false):=hid (tv_false fun F0=>by have f:=HW1.out (F0 k HLT.out);exact (f.2.2.2.1).elim (fun f=>HK.out f.1) (fun f=>by have:=Q1.out.1 f.1;cases this));clear HA HW1 HW2;go_wp2;go_ret;exact ⟨by rw[HE.out];rfl,hb⟩
  by_cases hr:1≤d.r;rotate_left
  ·
   have dr:=dT (p:=(d.r:Int)<1);have drg:=dT (p:=1 > (d.r:Int));have HE:Hid (tv (WordsM (J.map RM.m) t ww)=false):=hid (tv_false fun F0=>by have f:=HW1.out (F0 k HLT.out);exact (f.2.2.2.1).elim (fun f=>HK.out f.1) (fun f=>hr f.2.1));clear HA HW1 HW2;go_wp2;go_ret;exact ⟨by rw[HE.out];rfl,hb⟩
  have dr:=dF (p:=(d.r:Int)<1);have drg:=dF (p:=1 > (d.r:Int));by_cases hx:d.r≤281474976710656;rotate_left
  ·
   have dx:=dT (p:=281474976710656<(d.r:Int));have dxg:=dT (p:=(d.r:Int) > 281474976710656);have HE:Hid (tv (WordsM (J.map RM.m) t ww)=false):=hid (tv_false fun F0=>by have f:=HW1.out (F0 k HLT.out);exact (f.2.2.2.1).elim (fun f=>HK.out f.1) (fun f=>hx f.2.2));clear HA HW1 HW2;go_wp2;go_ret;exact ⟨by rw[HE.out];rfl,hb⟩
  have dx:=dF (p:=281474976710656<(d.r:Int));have dxg:=dF (p:=(d.r:Int) > 281474976710656);have HA2:Hid (∀ j,j<k+1→WordAt (J.map RM.m) t ww j):=hid (upto_succ HA.out (HW2.out ⟨fun h=>absurd h H4.out,⟨x.m,HOF.out,H5.out⟩,H6.out,.inr ⟨Q1.out.2 (by simp),hr,hx⟩,H7.out,H8.out,HG.out⟩));clear HA HW1 HW2;have hB1:=HN.out;have hB2:=HLT.out;go_wp2;go_roundw
  ·exact ⟨k+1,by have:=HLT.out;omega,by go_num,HA2,hb,t0,t14⟩
  have:=HLT.out;simp[intOf];omega
 have HG:Hid (d.c=0∨d.g=true):=hid (.inr HG9.out.symm);by_cases hk:d.k=[]
 ·
  have n0:(d.k != [])=false:=by rw[hk];rfl
  have n1:(d.k == [])=true:=by rw[hk];rfl
  have n2:d.k.isEmpty=true:=by rw[hk];rfl
  have HK:=hid hk;by_cases hr:1≤d.r
  ·
   have dr:(((d.r:Int)) == 0)=false:=bF;have drn:(((d.r:Int)) != 0)=true:=by rw[bne,dr];rfl
   have HR:=hid hr;clear hr hk;have HE:Hid (tv (WordsM (J.map RM.m) t ww)=false):=hid (tv_false fun F0=>by have f:=HW1.out (F0 k HLT.out);exact (f.2.2.2.1).elim (fun f=>by have hr:=HR.out;have:=f.2;omega) (fun f=>under_nil _ (by rw[← HK.out];exact f.1)));clear HA HW1 HW2;go_wp2;go_ret;exact ⟨by rw[HE.out];rfl,hb⟩
  have dr:(((d.r:Int)) == 0)=true:=bT;have drn:(((d.r:Int)) != 0)=false:=by rw[bne,dr];rfl
  have HR:=hid hr;clear hr hk;have HA2:Hid (∀ j,j<k+1→WordAt (J.map RM.m) t ww j):=hid (upto_succ HA.out (HW2.out ⟨fun h=>absurd h H4.out,⟨x.m,HOF.out,H5.out⟩,H6.out,.inl ⟨HK.out,by have:=HR.out;omega⟩,H7.out,H8.out,HG.out⟩));clear HA HW1 HW2;have hB1:=HN.out;have hB2:=HLT.out;go_wp2;go_roundw
  ·exact ⟨k+1,by have:=HLT.out;omega,by go_num,HA2,hb,t0,t14⟩
  have:=HLT.out;simp[intOf];omega
 have n0:(d.k != [])=true:=by rw[bne_iff_ne];exact hk
 have n1:(d.k == [])=false:=by rw[beq_eq_false_iff_ne];exact hk
 have n2:d.k.isEmpty=false:=by rw[List.isEmpty_eq_false_iff];exact hk
 have HK:=hid hk;clear hk;go_wp2_with fail
 refine cr (C1.out _) fun v8 k8=>?_;have hA:=kp k8 (aj9 t0 t14 s0 s1 s2 s3 s4 s5 s6);clear t0 t14 s0 s1 s2 s3 s4 s5 s6;obtain ⟨t0,t14,s0,s1,s2,s3,s4,s5,s6⟩:=hA;replace hb:=bstep hb k8;clear k8;cases q1
 ·
  have HE:Hid (tv (WordsM (J.map RM.m) t ww)=false):=hid (tv_false fun F0=>by have f:=HW1.out (F0 k HLT.out);exact (f.2.2.2.1).elim (fun f=>HK.out f.1) (fun f=>by have:=Q1.out.1 f.1;cases this));clear HA HW1 HW2;go_wp2;go_ret;exact ⟨by rw[HE.out];rfl,hb⟩
 by_cases hr:1≤d.r;rotate_left
 ·
  have dr:=dT (p:=(d.r:Int)<1);have drg:=dT (p:=1 > (d.r:Int));have HE:Hid (tv (WordsM (J.map RM.m) t ww)=false):=hid (tv_false fun F0=>by have f:=HW1.out (F0 k HLT.out);exact (f.2.2.2.1).elim (fun f=>HK.out f.1) (fun f=>hr f.2.1));clear HA HW1 HW2;go_wp2;go_ret;exact ⟨by rw[HE.out];rfl,hb⟩
 have dr:=dF (p:=(d.r:Int)<1);have drg:=dF (p:=1 > (d.r:Int));by_cases hx:d.r≤281474976710656;rotate_left
 ·
  have dx:=dT (p:=281474976710656<(d.r:Int));have dxg:=dT (p:=(d.r:Int) > 281474976710656);have HE:Hid (tv (WordsM (J.map RM.m) t ww)=false):=hid (tv_false fun F0=>by have f:=HW1.out (F0 k HLT.out);exact (f.2.2.2.1).elim (fun f=>HK.out f.1) (fun f=>hx f.2.2));clear HA HW1 HW2;go_wp2;go_ret;exact ⟨by rw[HE.out];rfl,hb⟩
 have dx:=dF (p:=281474976710656<(d.r:Int));have dxg:=dF (p:=(d.r:Int) > 281474976710656);have HA2:Hid (∀ j,j<k+1→WordAt (J.map RM.m) t ww j):=hid (upto_succ HA.out (HW2.out ⟨fun h=>absurd h H4.out,⟨x.m,HOF.out,H5.out⟩,H6.out,.inr ⟨Q1.out.2 (by simp),hr,hx⟩,H7.out,H8.out,HG.out⟩));clear HA HW1 HW2;have hB1:=HN.out;have hB2:=HLT.out;go_wp2;go_roundw
 ·exact ⟨k+1,by have:=HLT.out;omega,by go_num,HA2,hb,t0,t14⟩
 have:=HLT.out;simp[intOf];omega
theorem one_any (J:List RM) (a:Option Addr) (c:Nat) (x:RM) (w:World) (hJ:MSz w a J) (hI:InnerM w x) (ok:x.Ok) :
  CB 137 #[.slice a J.length c,.agg x] w (tv (OneR (J.map RM.m) x.m)):=by
 obtain ⟨v,hv⟩:=nm (tv (OneR (J.map RM.m) x.m));have HV:Hid ((isP x.p∧FieldsM x.m∧(VoidR (J.map RM.m) x.p→x.s=4∧x.c=1)∧GoneM x.k x.g∧(x.s≠4→x.q=Pl.zero)∧(x.q=Pl.zero∨BodyM x.q x.p)∧WordsM (J.map RM.m) x.p x.w∧¬ ForgM (J.map RM.m) x.p∧(if x.p=[49] then x.s≤2 else BornM (J.map RM.m) x.p))↔v=true):=hid (tv_eq hv);rw[← hv];have LJ:=hid hJ;have HIN:=hid hI;have OK:=hid ok;have HN:=hid hJ.n;have hb:=Below.refl w.heap.size w;obtain ⟨q1,hq1⟩:=nm (decide (parse x.p≠[]));have CM:=hid (fun W=>qB hq1 (RefPath.may_any x.p W (by have:=OK.out.p;omega)));have Q1:Hid (isP x.p↔q1=true):=hid (by rw[hq1,decide_eq_true_eq];exact Iff.rfl);obtain ⟨q2,hq2⟩:=nm (tv (VoidR (J.map RM.m) x.p));have CV:=hid (fun W (h:Below w.heap.size w W)=>qB hq2 (void_any J x.p a c W (LJ.out.below h).lies HN.out (fun y hy=>(LJ.out.ok y hy).g) OK.out.p));have Q2:Hid (VoidR (J.map RM.m) x.p↔q2=true):=hid (tv_eq hq2);obtain ⟨q3,hq3⟩:=nm (tv (GoneM x.k x.g));have CS:=hid (fun W (h:Below w.heap.size w W) (f:0≤x.k∧x.k≤1073741824)=>qB hq3 (spans_any x W (HIN.out.g.below h) OK.out.g OK.out.gm f.1 f.2));have Q3:Hid (GoneM x.k x.g↔q3=true):=hid (tv_eq hq3);obtain ⟨q4,hq4⟩:=nm (tv (x.q=Pl.zero∨BodyM x.q x.p));have CL:=hid (fun W=>qB hq4 (refplan_any x.q x.p W OK.out.q OK.out.p));have Q4:Hid ((x.q=Pl.zero∨BodyM x.q x.p)↔q4=true):=hid (tv_eq hq4);obtain ⟨q5,hq5⟩:=nm (tv (WordsM (J.map RM.m) x.p x.w));have CW:=hid (fun W (h:Below w.heap.size w W)=>qB hq5 (words_any J a c x W (LJ.out.below h).lies.1 HN.out (HIN.out.w.below h) OK.out.w OK.out.wm));have Q5:Hid (WordsM (J.map RM.m) x.p x.w↔q5=true):=hid (tv_eq hq5);obtain ⟨q6,hq6⟩:=nm (tv (ForgM (J.map RM.m) x.p));have CF:=hid (fun W (h:Below w.heap.size w W)=>qB hq6 (forg_any J x.p a c W (LJ.out.below h).lies HN.out (fun y hy=>(LJ.out.ok y hy).g) OK.out.p));have Q6:Hid (ForgM (J.map RM.m) x.p↔q6=true):=hid (tv_eq hq6);obtain ⟨z,hz⟩:=nm (decide (x.q=Pl.zero));have Z:Hid (x.q=Pl.zero↔z=true):=hid (by rw[hz,decide_eq_true_eq]);have EN:∀ W,(binOp .neq 89 (.agg x.q) (.agg #[.string ⟨#[]⟩,.int .u64 0,.string ⟨#[]⟩,.string ⟨#[]⟩,.int .u64 0,.string ⟨#[]⟩,.int .u64 0,.bool false])).run Tryz.prog W=.ok (.bool (!z)) W:=by rw[hz];exact fun W=>neq_pl x.q Pl.zero W
 have CR:=hid (fun W=>RefPath.parent_any x.p W (by have:=OK.out.p;omega));have CN:=hid (fun W=>RefPath.number_any x.p W (by have:=OK.out.p;omega));obtain ⟨n9,hn9⟩:=nm (last (parse x.p));rw[← hn9] at CN;have HN9:Hid (numI x.p=(n9:Int)):=hid (by rw[hn9];rfl);obtain ⟨pq,hpq⟩:=nm (parentL x.p);rw[← hpq] at CR;have HPQ:=hid hpq;have hof:=of_iff J pq;obtain ⟨y,hy⟩:=nm (ofR J pq);obtain ⟨r,hr⟩:=nm (isR J pq);have CO:=hid (fun W (l:Row.Lies mbE W a J.length J)=>of_any J pq a c W l HN.out);rw[← hy,← hr] at CO;rw[← hy,← hr] at hof;unfold tupR at CO;have HOF:=hid hof;clear hv hq1 hq2 hq3 hq4 hq5 hq6 hz hn9 hpq hof hy hr hJ hI ok;go_enter Tryz.func137,Tryz.ntmps137;go_upto_region 1 with (fail)
 have BXs:=hid (Bx.new (w) x 92);replace hb:=bstep hb (balloc (Below.refl _ _) (.cells x 92));obtain ⟨w0,hw0⟩:=nm ((w).alloc (.cells x 92));have hqw0:(w).alloc (.cells [.string ⟨x.p.toArray⟩,.int .u8 (x.s:Int),.int .i64 x.k,.int .i64 x.c,.int .u64 (x.l:Int),.slice x.ga x.g.length x.gc,.string ⟨x.q.k.toArray⟩,.int .u64 (x.q.r:Int),.string ⟨x.q.l.toArray⟩,.string ⟨x.q.a.b.toArray⟩,.int .u64 (x.q.a.n:Int),.string ⟨x.q.a.o.toArray⟩,.int .u64 (x.q.a.m:Int),.bool x.q.d,.slice x.wa x.w.length x.wc].toArray 92)=w0:=hw0.symm;rw[hqw0] at BXs;rw[← hw0] at hb  ⊢;obtain ⟨bs,hbs⟩:=nm ((w).heap.size);rw[← hbs] at BXs ⊢;clear hqw0 hw0 hbs;go_upto_region 1 with fail
 go_cut [45] (fun zv wx=>(∃ q,zv=.bool q∧Hid ((isP x.p∧1≤x.s∧x.s≤4∧0≤x.k∧x.k≤1073741824∧x.l≤281474976710656∧(0<x.l→3≤x.s))↔q=false))∧Below w.heap.size w wx∧Bx wx bs x)
 case first =>
  as_aux_lemma =>
   have s0:=BXs.out 0 _ rfl;go_wp2_with fail
   refine cr (CM.out _) fun v1 k1=>?_;replace BXs:=hid ((BXs.out).below k1);replace hb:=bstep hb k1;clear k1 s0;cases q1
   ·
    go_wp2_with fail
    go_meet;exact ⟨⟨true,rfl,hid ⟨fun f=>(show False from by have:=Q1.out.1 f.1;cases this).elim,fun h=>by cases h⟩⟩,hb,BXs.out⟩
   obtain ⟨-,s1,s2,-,s4⟩:=al5 BXs.out;by_cases h1:1≤x.s;rotate_left
   ·
    have d1:=dT (p:=(x.s:Int)<1);have d1g:=dT (p:=1 > (x.s:Int));go_wp2_with fail
    go_meet;exact ⟨⟨true,rfl,hid ⟨fun f=>(show False from by have:=f.2.1;omega).elim,fun h=>by cases h⟩⟩,hb,BXs.out⟩
   have d1:=dF (p:=(x.s:Int)<1);have d1g:=dF (p:=1 > (x.s:Int));by_cases h2:x.s≤4;rotate_left
   ·
    have d2:=dT (p:=4<(x.s:Int));have d2g:=dT (p:=(x.s:Int) > 4);go_wp2_with fail
    go_meet;exact ⟨⟨true,rfl,hid ⟨fun f=>(show False from by have:=f.2.2.1;omega).elim,fun h=>by cases h⟩⟩,hb,BXs.out⟩
   have d2:=dF (p:=4<(x.s:Int));have d2g:=dF (p:=(x.s:Int) > 4);by_cases h3:0≤x.k;rotate_left
   ·
    have d3:=dT (p:=x.k<0);have d3g:=dT (p:=0 > x.k);go_wp2_with fail
    go_meet;exact ⟨⟨true,rfl,hid ⟨fun f=>(show False from by have:=f.2.2.2.1;omega).elim,fun h=>by cases h⟩⟩,hb,BXs.out⟩
   have d3:=dF (p:=x.k<0);have d3g:=dF (p:=0 > x.k);by_cases h4:x.k≤1073741824;rotate_left
   ·
    have d4:=dT (p:=1073741824<x.k);have d4g:=dT (p:=x.k > 1073741824);go_wp2_with fail
    go_meet;exact ⟨⟨true,rfl,hid ⟨fun f=>(show False from by have:=f.2.2.2.2.1;omega).elim,fun h=>by cases h⟩⟩,hb,BXs.out⟩
   have d4:=dF (p:=1073741824<x.k);have d4g:=dF (p:=x.k > 1073741824);by_cases h5:x.l≤281474976710656;rotate_left
   ·
    have d5:=dT (p:=281474976710656<(x.l:Int));have d5g:=dT (p:=(x.l:Int) > 281474976710656);go_wp2_with fail
    go_meet;exact ⟨⟨true,rfl,hid ⟨fun f=>(show False from by have:=f.2.2.2.2.2.1;omega).elim,fun h=>by cases h⟩⟩,hb,BXs.out⟩
   have d5:=dF (p:=281474976710656<(x.l:Int));have d5g:=dF (p:=(x.l:Int) > 281474976710656);by_cases h6:x.s<3
   ·
    have d6:=dT (p:=(x.s:Int)<3);have d6g:=dT (p:=3 > (x.s:Int));by_cases h6s:x.l<1;rotate_left
    ·
     have e6:=dT (p:=0<(x.l:Int));have e6g:=dT (p:=(x.l:Int) > 0);have e6n:=dT (p:=0<x.l);go_wp2_with fail
     go_meet;exact ⟨⟨true,rfl,hid ⟨fun f=>(show False from h6s (Nat.lt_of_not_le (fun hl=>by have:=f.2.2.2.2.2.2 hl;omega))).elim,fun h=>by cases h⟩⟩,hb,BXs.out⟩
    have e6:=dF (p:=0<(x.l:Int));have e6g:=dF (p:=(x.l:Int) > 0);have e6n:=dF (p:=0<x.l);go_wp2_with fail
    go_meet;exact ⟨⟨false,rfl,hid ⟨fun _=>rfl,fun _=>⟨Q1.out.2 (by simp),h1,h2,h3,h4,h5,fun hl=>by omega⟩⟩⟩,hb,BXs.out⟩
   have d6:=dF (p:=(x.s:Int)<3);have d6g:=dF (p:=3 > (x.s:Int));go_wp2_with fail
   go_meet;exact ⟨⟨false,rfl,hid ⟨fun _=>rfl,fun _=>⟨Q1.out.2 (by simp),h1,h2,h3,h4,h5,fun hl=>by omega⟩⟩⟩,hb,BXs.out⟩
 clear hb BXs;obtain ⟨⟨z45,rfl,H1⟩,hb,BXs⟩:=hcut;replace BXs:=hid BXs;cases z45
 rotate_left
 ·
  have HE:Hid (v=false):=hid (not_true fun e=>by have f:=HV.out.2 e;exact by have q:=H1.out.1 (⟨f.1,f.2.1.1,f.2.1.2.1,f.2.1.2.2.1,f.2.1.2.2.2.1,f.2.1.2.2.2.2.2.2.2.1,f.2.1.2.2.2.2.2.2.2.2⟩);cases q);clear HV;go_wp2;go_ret;exact ⟨by rw[HE.out];rfl,hb⟩
 replace H1:=hid (H1.out.2 rfl);as_aux_lemma =>
  go_upto_region 3 with fail
  go_cut [79] (fun zv wx=>(∃ q,zv=.bool q∧Hid ((0≤x.c∧x.c≤1073741825∧(0<x.c→x.s=4)∧(VoidR (J.map RM.m) x.p→x.s=4∧x.c=1))↔q=false))∧Below w.heap.size w wx∧Bx wx bs x)
  case first =>
   as_aux_lemma =>
    obtain ⟨-,s1,-,s3⟩:=al4 BXs.out;by_cases h1:0≤x.c;rotate_left
    ·
     have d1:=dT (p:=x.c<0);have d1g:=dT (p:=0 > x.c);go_wp2_with fail
     go_meet;exact ⟨⟨true,rfl,hid ⟨fun f=>(show False from by have:=f.1;omega).elim,fun h=>by cases h⟩⟩,hb,BXs.out⟩
    have d1:=dF (p:=x.c<0);have d1g:=dF (p:=0 > x.c);by_cases h2:x.c≤1073741825;rotate_left
    ·
     have d2:=dT (p:=1073741825<x.c);have d2g:=dT (p:=x.c > 1073741825);go_wp2_with fail
     go_meet;exact ⟨⟨true,rfl,hid ⟨fun f=>(show False from by have:=f.2.1;omega).elim,fun h=>by cases h⟩⟩,hb,BXs.out⟩
    have d2:=dF (p:=1073741825<x.c);have d2g:=dF (p:=x.c > 1073741825);by_cases h3:0<x.c
    ·
     have d3:=dT (p:=0<x.c);have d3g:=dT (p:=x.c > 0);by_cases h4:4≤x.s∧x.s≤4;rotate_left
     ·
      have d4:(((x.s:Int)) == 4)=false:=bF;have d4n:(((x.s:Int)) != 4)=true:=by rw[bne,d4];rfl
      go_wp2_with fail
      go_meet;exact ⟨⟨true,rfl,hid ⟨fun f=>(show False from h4 (by have:=f.2.2.1 h3;omega)).elim,fun h=>by cases h⟩⟩,hb,BXs.out⟩
     have d4:(((x.s:Int)) == 4)=true:=bT;have d4n:(((x.s:Int)) != 4)=false:=by rw[bne,d4];rfl
     have s0:=BXs.out 0 _ rfl;go_wp2_with fail
     refine cr (CV.out _ hb) fun v2 k2=>?_;replace BXs:=hid ((BXs.out).below k2);replace hb:=bstep hb k2;clear k2 s0 s1 s3;obtain ⟨-,s1,-,s3⟩:=al4 BXs.out;cases q2
     ·
      go_wp2_with fail
      go_meet;exact ⟨⟨false,rfl,hid ⟨fun _=>rfl,fun _=>⟨h1,h2,fun hc=>by omega,fun h=>by have:=Q2.out.1 h;cases this⟩⟩⟩,hb,BXs.out⟩
     by_cases h9:4≤x.s∧x.s≤4;rotate_left
     ·
      have d9:(((x.s:Int)) == 4)=false:=bF;have d9n:(((x.s:Int)) != 4)=true:=by rw[bne,d9];rfl
      exfalso;omega
     have d9:(((x.s:Int)) == 4)=true:=bT;have d9n:(((x.s:Int)) != 4)=false:=by rw[bne,d9];rfl
     by_cases hx:1≤x.c∧x.c≤1;rotate_left
     ·
      have dx:((x.c) == 1)=false:=by rw[beq_eq_false_iff_ne];omega
      have dxn:((x.c) != 1)=true:=by rw[bne,dx];rfl
      go_wp2_with fail
      go_meet;exact ⟨⟨true,rfl,hid ⟨fun f=>(show False from hx (by have:=f.2.2.2 (Q2.out.2 (by simp));omega)).elim,fun h=>by cases h⟩⟩,hb,BXs.out⟩
     have dx:((x.c) == 1)=true:=by rw[beq_iff_eq];omega
     have dxn:((x.c) != 1)=false:=by rw[bne,dx];rfl
     go_wp2_with fail
     go_meet;exact ⟨⟨false,rfl,hid ⟨fun _=>rfl,fun _=>⟨h1,h2,fun hc=>by omega,fun h=>by omega⟩⟩⟩,hb,BXs.out⟩
    have d3:=dF (p:=0<x.c);have d3g:=dF (p:=x.c > 0);have s0:=BXs.out 0 _ rfl;go_wp2_with fail
    refine cr (CV.out _ hb) fun v3 k3=>?_;replace BXs:=hid ((BXs.out).below k3);replace hb:=bstep hb k3;clear k3 s0 s1 s3;obtain ⟨-,s1,-,s3⟩:=al4 BXs.out;cases q2
    ·
     go_wp2_with fail
     go_meet;exact ⟨⟨false,rfl,hid ⟨fun _=>rfl,fun _=>⟨h1,h2,fun hc=>by omega,fun h=>by have:=Q2.out.1 h;cases this⟩⟩⟩,hb,BXs.out⟩
    by_cases h9:4≤x.s∧x.s≤4;rotate_left
    ·
     have d9:(((x.s:Int)) == 4)=false:=bF;have d9n:(((x.s:Int)) != 4)=true:=by rw[bne,d9];rfl
     go_wp2_with fail
     go_meet;exact ⟨⟨true,rfl,hid ⟨fun f=>(show False from h9 (by have:=f.2.2.2 (Q2.out.2 (by simp));omega)).elim,fun h=>by cases h⟩⟩,hb,BXs.out⟩
    have d9:(((x.s:Int)) == 4)=true:=bT;have d9n:(((x.s:Int)) != 4)=false:=by rw[bne,d9];rfl
    by_cases hx:1≤x.c∧x.c≤1;rotate_left
    ·
     have dx:((x.c) == 1)=false:=by rw[beq_eq_false_iff_ne];omega
     have dxn:((x.c) != 1)=true:=by rw[bne,dx];rfl
     go_wp2_with fail
     go_meet;exact ⟨⟨true,rfl,hid ⟨fun f=>(show False from hx (by have:=f.2.2.2 (Q2.out.2 (by simp));omega)).elim,fun h=>by cases h⟩⟩,hb,BXs.out⟩
    have dx:((x.c) == 1)=true:=by rw[beq_iff_eq];omega
    have dxn:((x.c) != 1)=false:=by rw[bne,dx];rfl
    exfalso;omega
  clear hb BXs;obtain ⟨⟨z79,rfl,H3⟩,hb,BXs⟩:=hcut;replace BXs:=hid BXs;cases z79
  rotate_left
  ·
   have HE:Hid (v=false):=hid (not_true fun e=>by have f:=HV.out.2 e;exact by have q:=H3.out.1 (⟨f.2.1.2.2.2.2.1,f.2.1.2.2.2.2.2.1,f.2.1.2.2.2.2.2.2.1,f.2.2.1⟩);cases q);clear HV;go_wp2;go_ret;exact ⟨by rw[HE.out];rfl,hb⟩
  replace H3:=hid (H3.out.2 rfl);as_aux_lemma =>
   go_upto_region 5 with fail
   go_cut [116] (fun zv wx=>(∃ q,zv=.bool q∧Hid ((GoneM x.k x.g∧(x.s≠4→x.q=Pl.zero)∧(x.q=Pl.zero∨BodyM x.q x.p)∧WordsM (J.map RM.m) x.p x.w∧¬ ForgM (J.map RM.m) x.p)↔q=false))∧Below w.heap.size w wx∧Bx wx bs x)
   case first =>
    as_aux_lemma =>
     obtain ⟨-,-,s2,-,-,s5⟩:=al6 BXs.out;go_wp2_with fail
     refine cr (CS.out _ hb ⟨H1.out.2.2.2.1,H1.out.2.2.2.2.1⟩) fun v4 k4=>?_;replace BXs:=hid ((BXs.out).below k4);replace hb:=bstep hb k4;clear k4 s2 s5;cases q3
     ·
      go_wp2_with fail
      go_meet;exact ⟨⟨true,rfl,hid ⟨fun f=>(show False from by have:=Q3.out.1 f.1;cases this).elim,fun h=>by cases h⟩⟩,hb,BXs.out⟩
     obtain ⟨-,s1,-,-,-,-,s6,s7,s8,s9,s10,s11,s12,s13⟩:=al14 BXs.out;by_cases h1:4≤x.s∧x.s≤4
     ·
      have d1:(((x.s:Int)) == 4)=true:=bT;have d1n:(((x.s:Int)) != 4)=false:=by rw[bne,d1];rfl
      clear s6 s7 s8 s9 s10 s11 s12 s13;have HZP:Hid (x.s≠4→x.q=Pl.zero):=hid (fun h=>absurd (show x.s=4 by omega) h);obtain ⟨s0,-,-,-,-,-,s6,s7,s8,s9,s10,s11,s12,s13⟩:=al14 BXs.out;go_wp2_with fail
      refine cr (CL.out _) fun v5 k5=>?_;replace BXs:=hid ((BXs.out).below k5);replace hb:=bstep hb k5;clear k5 s0 s6 s7 s8 s9 s10 s11 s12 s13 s1;cases q4
      ·
       go_wp2_with fail
       go_meet;exact ⟨⟨true,rfl,hid ⟨fun f=>(show False from by have:=Q4.out.1 f.2.2.1;cases this).elim,fun h=>by cases h⟩⟩,hb,BXs.out⟩
      obtain ⟨s0,s1,s2,s3,s4,s5,s6,s7,s8,s9,s10,s11,s12,s13,s14⟩:=al15 BXs.out;go_wp2_with fail
      refine cr (CW.out _ hb) fun v6 k6=>?_;replace BXs:=hid ((BXs.out).below k6);replace hb:=bstep hb k6;clear k6 s0 s1 s2 s3 s4 s5 s6 s7 s8 s9 s10 s11 s12 s13 s14;cases q5
      ·
       go_wp2_with fail
       go_meet;exact ⟨⟨true,rfl,hid ⟨fun f=>(show False from by have:=Q5.out.1 f.2.2.2.1;cases this).elim,fun h=>by cases h⟩⟩,hb,BXs.out⟩
      have s0:=BXs.out 0 _ rfl;go_wp2_with fail
      refine cr (CF.out _ hb) fun v7 k7=>?_;replace BXs:=hid ((BXs.out).below k7);replace hb:=bstep hb k7;clear k7 s0;cases q6
      rotate_left
      ·
       go_wp2_with fail
       go_meet;exact ⟨⟨true,rfl,hid ⟨fun f=>(show False from f.2.2.2.2 (Q6.out.2 (by simp))).elim,fun h=>by cases h⟩⟩,hb,BXs.out⟩
      go_wp2_with fail
      go_meet;exact ⟨⟨false,rfl,hid ⟨fun _=>rfl,fun _=>⟨Q3.out.2 (by simp),HZP.out,Q4.out.2 (by simp),Q5.out.2 (by simp),fun h=>by have:=Q6.out.1 h;cases this⟩⟩⟩,hb,BXs.out⟩
     have d1:(((x.s:Int)) == 4)=false:=bF;have d1n:(((x.s:Int)) != 4)=true:=by rw[bne,d1];rfl
     cases z
     ·
      go_wp2_with fail
      go_meet;exact ⟨⟨true,rfl,hid ⟨fun f=>(show False from by have:=Z.out.1 (f.2.1 (fun e=>h1 (by omega)));cases this).elim,fun h=>by cases h⟩⟩,hb,BXs.out⟩
     have HZP:Hid (x.s≠4→x.q=Pl.zero):=hid (fun h=>Z.out.2 (by simp));obtain ⟨s0,-,-,-,-,-,s6,s7,s8,s9,s10,s11,s12,s13⟩:=al14 BXs.out;go_wp2_with fail
     refine cr (CL.out _) fun v8 k8=>?_;replace BXs:=hid ((BXs.out).below k8);replace hb:=bstep hb k8;clear k8 s0 s6 s7 s8 s9 s10 s11 s12 s13 s1;cases q4
     ·
      go_wp2_with fail
      go_meet;exact ⟨⟨true,rfl,hid ⟨fun f=>(show False from by have:=Q4.out.1 f.2.2.1;cases this).elim,fun h=>by cases h⟩⟩,hb,BXs.out⟩
     obtain ⟨s0,s1,s2,s3,s4,s5,s6,s7,s8,s9,s10,s11,s12,s13,s14⟩:=al15 BXs.out;go_wp2_with fail
     refine cr (CW.out _ hb) fun v9 k9=>?_;replace BXs:=hid ((BXs.out).below k9);replace hb:=bstep hb k9;clear k9 s0 s1 s2 s3 s4 s5 s6 s7 s8 s9 s10 s11 s12 s13 s14;cases q5
     ·
      go_wp2_with fail
      go_meet;exact ⟨⟨true,rfl,hid ⟨fun f=>(show False from by have:=Q5.out.1 f.2.2.2.1;cases this).elim,fun h=>by cases h⟩⟩,hb,BXs.out⟩
     have s0:=BXs.out 0 _ rfl;go_wp2_with fail
     refine cr (CF.out _ hb) fun v10 k10=>?_;replace BXs:=hid ((BXs.out).below k10);replace hb:=bstep hb k10;clear k10 s0;cases q6
     rotate_left
     ·
      go_wp2_with fail
      go_meet;exact ⟨⟨true,rfl,hid ⟨fun f=>(show False from f.2.2.2.2 (Q6.out.2 (by simp))).elim,fun h=>by cases h⟩⟩,hb,BXs.out⟩
     go_wp2_with fail
     go_meet;exact ⟨⟨false,rfl,hid ⟨fun _=>rfl,fun _=>⟨Q3.out.2 (by simp),HZP.out,Q4.out.2 (by simp),Q5.out.2 (by simp),fun h=>by have:=Q6.out.1 h;cases this⟩⟩⟩,hb,BXs.out⟩
   clear hb BXs;obtain ⟨⟨z116,rfl,H5⟩,hb,BXs⟩:=hcut;replace BXs:=hid BXs;cases z116
   rotate_left
   ·
    have HE:Hid (v=false):=hid (not_true fun e=>by have f:=HV.out.2 e;exact by have q:=H5.out.1 (⟨f.2.2.2.1,f.2.2.2.2.1,f.2.2.2.2.2.1,f.2.2.2.2.2.2.1,f.2.2.2.2.2.2.2.1⟩);cases q);clear HV;go_wp2;go_ret;exact ⟨by rw[HE.out];rfl,hb⟩
   replace H5:=hid (H5.out.2 rfl);as_aux_lemma =>
    have HALL:Hid (v=true↔(if x.p=[49] then x.s≤2 else BornM (J.map RM.m) x.p)):=hid (HV.out.symm.trans ⟨fun f=>f.2.2.2.2.2.2.2.2,fun h=>⟨H1.out.1,⟨H1.out.2.1,H1.out.2.2.1,H1.out.2.2.2.1,H1.out.2.2.2.2.1,H3.out.1,H3.out.2.1,H3.out.2.2.1,H1.out.2.2.2.2.2.1,H1.out.2.2.2.2.2.2⟩,H3.out.2.2.2,H5.out.1,H5.out.2.1,H5.out.2.2.1,H5.out.2.2.2.1,H5.out.2.2.2.2,h⟩⟩);clear HV H1 H3 H5;go_upto_region 7 with (fail)
    have s0:=BXs.out 0 _ rfl;by_cases hp:x.p=[49]
    ·
     have dp:(x.p == [49])=true:=by rw[beq_iff_eq];exact hp
     have dpn:(x.p != [49])=false:=by rw[bne,dp];rfl
     have HP:=hid hp;clear hp;have s1:=BXs.out 1 _ rfl;by_cases h2:x.s≤2
     ·
      have d2:=dT (p:=(x.s:Int)≤2);have d2g:=dT (p:=2≥(x.s:Int));have HE:Hid (v=true):=hid (HALL.out.2 (by rw[if_pos HP.out];exact h2));go_wp2;go_ret;exact ⟨by rw[HE.out];rfl,hb⟩
     have d2:=dF (p:=(x.s:Int)≤2);have d2g:=dF (p:=2≥(x.s:Int));have HE:Hid (v=false):=hid (not_true fun e=>by have q:=HALL.out.1 e;rw[if_pos HP.out] at q;exact h2 q);go_wp2;go_ret;exact ⟨by rw[HE.out];rfl,hb⟩
    have dp:(x.p == [49])=false:=by rw[beq_eq_false_iff_ne];exact hp
    have dpn:(x.p != [49])=true:=by rw[bne,dp];rfl
    have HB:Hid (v=true↔BornM (J.map RM.m) x.p):=hid (by have q:=HALL.out;rwa [if_neg hp] at q);clear hp;go_wp2_with fail
    refine cr (CR.out _) fun v11 k11=>?_;replace BXs:=hid ((BXs.out).below k11);replace hb:=bstep hb k11;clear k11 s0;go_wp2_with fail
    refine cr (CO.out _ (LJ.out.below hb).lies.1) fun v12 k12=>?_;replace BXs:=hid ((BXs.out).below k12);replace hb:=bstep hb k12;clear k12;go_upto_region 10 with (fail)
    have m2:=box_cells (v12) y 92 2 (.int .i64 y.k) rfl;replace BXs:=hid ((BXs.out).below (balloc (Below.refl _ _) (.cells y 92)));replace hb:=bstep hb (balloc (Below.refl _ _) (.cells y 92));obtain ⟨we,hwe⟩:=nm ((v12).alloc (.cells y 92));rw[← hwe] at hb BXs m2 ⊢;obtain ⟨bm,hbm⟩:=nm ((v12).heap.size);rw[← hbm] at m2 ⊢;clear hwe hbm;have s0:=BXs.out 0 _ rfl;cases r
    ·
     have HE:Hid (v=false):=hid (not_true fun e=>by obtain ⟨y2,e2,_⟩:=HB.out.1 e;rw[← HPQ.out,HOF.out] at e2;cases e2);refine rh (aj4 hb BXs.out m2 s0) fun wd gH=>?_;refine tk (.range 10) ?_;refine tD ?_;clear hb BXs m2 s0;obtain ⟨hb,BXs,m2,s0⟩:=gH;replace BXs:=hid BXs;go_wp2;go_ret;exact ⟨by rw[HE.out];rfl,hb⟩
    by_cases hk:(n9:Int)≤y.k
    ·
     have dk:=dT (p:=(n9:Int)≤y.k);have dkg:=dT (p:=y.k≥(n9:Int));have HE:Hid (v=true):=hid (HB.out.2 ⟨y.m,by rw[← HPQ.out,HOF.out];rfl,by rw[HN9.out];exact hk⟩);refine rh (aj4 hb BXs.out m2 s0) fun wd gH=>?_;refine tk [0,1,2,3,5,6] ?_;refine tR 4 fun K hK=>?_;go_simp;go_at_call 203;refine cr (CN.out _) fun v13 k13=>?_;go_wp2_with fail
     refine tH hK gH k13 fun gH=>?_;clear hK K k13;refine tk [7,8,9] ?_;refine tD ?_;clear hb BXs m2 s0;obtain ⟨hb,BXs,m2,s0⟩:=gH;replace BXs:=hid BXs;go_wp2;go_ret;exact ⟨by rw[HE.out];rfl,hb⟩
    have dk:=dF (p:=(n9:Int)≤y.k);have dkg:=dF (p:=y.k≥(n9:Int));have HE:Hid (v=false):=hid (not_true fun e=>hk (by obtain ⟨y2,e2,h⟩:=HB.out.1 e;rw[← HPQ.out,HOF.out] at e2;cases e2;rw[HN9.out] at h;exact h));refine rh (aj4 hb BXs.out m2 s0) fun wd gH=>?_;refine tk [0,1,2,3,5,6] ?_;refine tR 4 fun K hK=>?_;go_simp;go_at_call 203;refine cr (CN.out _) fun v14 k14=>?_;go_wp2_with fail
    refine tH hK gH k14 fun gH=>?_;clear hK K k14;refine tk [7,8,9] ?_;refine tD ?_;clear hb BXs m2 s0;obtain ⟨hb,BXs,m2,s0⟩:=gH;replace BXs:=hid BXs;go_wp2;go_ret;exact ⟨by rw[HE.out];rfl,hb⟩
theorem may_any (J:List RM) (a:Option Addr) (c:Nat) (w:World) (hJ:MSz w a J) :
  CB 56 #[.slice a J.length c] w (tv (MayR (J.map RM.m))):=by
 obtain ⟨v,hv⟩:=nm (tv (MayR (J.map RM.m)));have HV:Hid (MayR (J.map RM.m)↔v=true):=hid (tv_eq hv);rw[← hv];have LJ:=hid hJ;have HN:=hid hJ.n;have hb:=Below.refl w.heap.size w;have HML:Hid ((J.map RM.m).length=J.length):=hid (List.length_map ..);clear hv hJ;by_cases h1:1≤J.length;rotate_left
 ·
  have d1:=dT (p:=(J.length:Int)<1);have d1g:=dT (p:=1 > (J.length:Int));go_enter Tryz.func56,Tryz.ntmps56;have HE:Hid (v=false):=hid (not_true fun e=>by have F0:=HV.out.2 e;exact h1 (by have:=F0.1.1;rw[HML.out] at this;exact this));clear HV;go_wp2;go_ret;exact ⟨by rw[HE.out];rfl,hb⟩
 have d1:=dF (p:=(J.length:Int)<1);have d1g:=dF (p:=1 > (J.length:Int));by_cases h2:J.length≤24;rotate_left
 ·
  have d2:=dT (p:=24<(J.length:Int));have d2g:=dT (p:=(J.length:Int) > 24);go_enter Tryz.func56,Tryz.ntmps56;have HE:Hid (v=false):=hid (not_true fun e=>by have F0:=HV.out.2 e;exact h2 (by have:=F0.1.2.1;rw[HML.out] at this;exact this));clear HV;go_wp2;go_ret;exact ⟨by rw[HE.out];rfl,hb⟩
 have d2:=dF (p:=24<(J.length:Int));have d2g:=dF (p:=(J.length:Int) > 24);obtain ⟨b0,o0,e0,hc0⟩:=LJ.out.lies.1.2 (by omega);have k0:w.cell? ⟨b0,o0,none⟩=some (.string ⟨(J[0]).p.toArray⟩):=by have q:=hc0 0 (by omega) 0 _ rfl;simpa using q
 have HX0:Hid (∀ h:0<(J.map RM.m).length,((J.map RM.m)[0]).p=(J[0]).p):=hid (fun h=>by rw[List.getElem_map];rfl);obtain ⟨p0,hp0⟩:=nm ((J[0]).p);rw[← hp0] at k0 HX0;have j1:(0:Int)<(J.length:Int):=by omega
 have HP0:Hid (0<(J.map RM.m).length):=hid (by rw[HML.out];omega);subst e0;clear hc0 hp0;by_cases h3:p0=[49];rotate_left
 ·
  have d3:(p0 == [49])=false:=by rw[beq_eq_false_iff_ne];exact h3
  have d3n:(p0 != [49])=true:=by rw[bne,d3];rfl
  go_enter Tryz.func56,Tryz.ntmps56;have HE:Hid (v=false):=hid (not_true fun e=>by have F0:=HV.out.2 e;exact h3 (by rw[← HX0.out HP0.out];exact F0.1.2.2 HP0.out));clear HV;go_wp2;go_ret;exact ⟨by rw[HE.out];rfl,hb⟩
 have d3:(p0 == [49])=true:=by rw[beq_iff_eq];exact h3
 have d3n:(p0 != [49])=false:=by rw[bne,d3];rfl
 have H3:=hid h3;clear h3;have H12:=hid (And.intro h1 h2);clear h1 h2;go_enter Tryz.func56,Tryz.ntmps56;go_upto_region 3 with (fail)
 clear k0;go_wp2_with fail
 go_loopw [3] (fun iv wr=>∃ k:Nat,k≤J.length∧iv=.int .i64 k∧Hid (∀ j,j<k→∀ h:j<(J.map RM.m).length,OneR (J.map RM.m) (J.map RM.m)[j]∧RiseAt (J.map RM.m) j)∧Below w.heap.size w wr) (fun iv _=>J.length - (intOf iv).toNat)
 case atStart=>exact ⟨0,by omega,rfl,hid (fun j h=>absurd h (by omega)),hb⟩
 clear hb;obtain ⟨k,hk,rfl,HA,hb⟩:=hrel;by_cases hlt:k<J.length;rotate_left
 ·have d1:decide ((k:Int)<(J.length:Int))=false:=dF;have HE:Hid (v=true):=hid (HV.out.1 ⟨⟨by rw[HML.out];exact H12.out.1,by rw[HML.out];exact H12.out.2,fun h=>by rw[HX0.out h];exact H3.out⟩,fun j hj h=>HA.out j (by rw[HML.out] at hj;omega) h⟩);clear HA HV;go_wp2;go_ret;exact ⟨by rw[HE.out];rfl,hb⟩
 obtain ⟨b,off,e9,hcell⟩:=(LJ.out.lies.1.below hb).2 (by omega);obtain ⟨rfl,rfl⟩:b0=b∧o0=off:=by simpa using e9
 have d5:=dT (p:=(k:Int)<(J.length:Int));have j2:(0:Int)≤(k:Int):=by omega
 have j3:(k:Int)<(J.length:Int):=by omega
 obtain ⟨c0,c1,c2,c3,c4,c5,c6,c7,c8,c9,c10,c11,c12,c13,c14⟩:=cl15 (o0+k*15) (hcell k hlt);have HOK:=hid (LJ.out.ok _ (List.getElem_mem hlt));have HIN:Hid (InnerM w J[k]):=hid (LJ.out.lies.2 _ (List.getElem_mem hlt));have HXK:Hid (∀ h:k<(J.map RM.m).length,(J.map RM.m)[k]=(J[k]).m):=hid (fun h=>List.getElem_map ..);have HXJ:Hid (∀ (i:Nat) (h:i<(J.map RM.m).length) (h':i<J.length),(J.map RM.m)[i]=(J[i]).m):=hid (fun i h h'=>List.getElem_map ..);obtain ⟨x,hx⟩:=nm J[k];rw[← hx] at c0 c1 c2 c3 c4 c5 c6 c7 c8 c9 c10 c11 c12 c13 c14 HOK HIN HXK;have HLL:Hid (k<(J.map RM.m).length):=hid (by rw[HML.out];exact hlt);have HPL:Hid (x.p.length≤1048576):=hid HOK.out.p;obtain ⟨q1,hq1⟩:=nm (tv (OneR (J.map RM.m) x.m));have Q1:Hid (OneR (J.map RM.m) x.m↔q1=true):=hid (tv_eq hq1);have CO:=hid (fun W (h:Below w.heap.size w W)=>qB hq1 (one_any J (some ⟨b0,o0,none⟩) c x W (LJ.out.below h) (HIN.out.below h) HOK.out));clear hx hq1 e9;by_cases h5:0<k
 ·
  obtain ⟨k1,hk1⟩:∃ k1,k=k1+1:=⟨k - 1,by omega⟩
  have w1:IntKind.i64.wrap ((k:Int) - 1)=(k1:Int):=by rw[IntKind.wrap_i64];have:=HN.out;omega
  have i1:(0:Int)≤(k1:Int):=by omega
  have i2:(k1:Int)<(J.length:Int):=by omega
  have b9:=cl1 (o0+k1*15) (hcell k1 (by omega));have uo:=(LJ.out.ok _ (List.getElem_mem (show k1<J.length by omega))).p;obtain ⟨u,hu⟩:=nm ((J[k1]).p);rw[← hu] at b9 uo;have HRJ:Hid (∀ h':k - 1<(J.map RM.m).length,((J.map RM.m)[k - 1]).p=u):=hid (fun h'=>by rw[hu,HXJ.out _ h' (by omega)];show (J[k - 1]).p=_;congr 2;omega);obtain ⟨z,hz⟩:=nm (cmpP u x.p);have CC:=hid (fun W=>RefPath.compare_any u x.p W (by omega) (by have:=HPL.out;omega));rw[← hz] at CC;have HZ:=hid hz;clear hu hk1 uo hz;have d2:=dT (p:=0<(k:Int));have d2g:decide ((k:Int) > 0)=true:=d2;have d2n:decide (0<k)=true:=decide_eq_true h5;have HLT:=hid hlt;have H5:=hid h5;clear hcell hlt hk h5;go_wp2_with fail
  cases q1
  ·
   as_aux_lemma =>
    have HE:Hid (v=false):=hid (not_true fun e=>by have f:=(HV.out.2 e).2 k HLL.out HLL.out;exact by have:=Q1.out.1 (by have q:=f.1;rw[HXK.out HLL.out] at q;exact q);cases this);clear HA HV;refine rh (aj2 hb (aj16 b9 c0 c1 c2 c3 c4 c5 c6 c7 c8 c9 c10 c11 c12 c13 c14)) fun wd gH=>?_;refine tk [0,1,2,3,4] ?_;refine tR 5 fun K hK=>?_;go_simp;go_at_call 137;refine cr (CO.out _ gH.1) fun v1 k1=>?_;go_wp2_with fail
    refine tH hK gH k1 fun gH=>?_;clear hK K k1;refine tk (.range' 6 20) ?_;refine tD ?_;clear hb b9 c0 c1 c2 c3 c4 c5 c6 c7 c8 c9 c10 c11 c12 c13 c14;obtain ⟨hb,b9,c0,c1,c2,c3,c4,c5,c6,c7,c8,c9,c10,c11,c12,c13,c14⟩:=gH;go_wp2;go_ret;exact ⟨by rw[HE.out];rfl,hb⟩
  by_cases hz:z<0;rotate_left
  ·
   as_aux_lemma =>
    have d3:=dT (p:=0≤z);have d3g:=dT (p:=z≥0);have HZN:=hid hz;clear hz;have HE:Hid (v=false):=hid (not_true fun e=>by have f:=(HV.out.2 e).2 k HLL.out HLL.out;exact HZN.out (by have q:=f.2 HLL.out H5.out (by have:=HLL.out;omega);rw[HRJ.out,HXK.out HLL.out] at q;rw[HZ.out];exact q));clear HA HV;refine rh (aj2 hb (aj16 b9 c0 c1 c2 c3 c4 c5 c6 c7 c8 c9 c10 c11 c12 c13 c14)) fun wd gH=>?_;refine tk [0,1,2,3,4] ?_;refine tR 5 fun K hK=>?_;go_simp;go_at_call 137;refine cr (CO.out _ gH.1) fun v2 k2=>?_;go_wp2_with fail
    refine tH hK gH k2 fun gH=>?_;clear hK K k2;refine tk (.range' 6 16) ?_;refine tR 22 fun K hK=>?_;go_simp;go_at_call 138;refine cr (CC.out _) fun v3 k3=>?_;go_wp2_with fail
    refine tH hK gH k3 fun gH=>?_;clear hK K k3;refine tk [23,24,25] ?_;refine tD ?_;clear hb b9 c0 c1 c2 c3 c4 c5 c6 c7 c8 c9 c10 c11 c12 c13 c14;obtain ⟨hb,b9,c0,c1,c2,c3,c4,c5,c6,c7,c8,c9,c10,c11,c12,c13,c14⟩:=gH;go_wp2;go_ret;exact ⟨by rw[HE.out];rfl,hb⟩
  as_aux_lemma =>
   have d3:=dF (p:=0≤z);have d3g:=dF (p:=z≥0);have HZ0:Hid (cmpP u x.p<0):=hid (by rw[← HZ.out];exact hz);clear hz;refine rh (aj2 hb (aj16 b9 c0 c1 c2 c3 c4 c5 c6 c7 c8 c9 c10 c11 c12 c13 c14)) fun wd gH=>?_;refine tk [0,1,2,3,4] ?_;refine tR 5 fun K hK=>?_;go_simp;go_at_call 137;refine cr (CO.out _ gH.1) fun v4 k4=>?_;go_wp2_with fail
   refine tH hK gH k4 fun gH=>?_;clear hK K k4;refine tk (.range' 6 16) ?_;refine tR 22 fun K hK=>?_;go_simp;go_at_call 138;refine cr (CC.out _) fun v5 k5=>?_;go_wp2_with fail
   refine tH hK gH k5 fun gH=>?_;clear hK K k5;refine tk [23,24,25] ?_;refine tD ?_;clear hb b9 c0 c1 c2 c3 c4 c5 c6 c7 c8 c9 c10 c11 c12 c13 c14;obtain ⟨hb,b9,c0,c1,c2,c3,c4,c5,c6,c7,c8,c9,c10,c11,c12,c13,c14⟩:=gH;have HA2:Hid (∀ j,j<k+1→∀ h:j<(J.map RM.m).length,OneR (J.map RM.m) (J.map RM.m)[j]∧RiseAt (J.map RM.m) j):=hid (upto_succ HA.out (fun h=>⟨by rw[HXK.out h];exact Q1.out.2 (by simp),fun h _ h'=>by rw[HRJ.out h',HXK.out h];exact HZ0.out⟩));clear HA;have hB1:=HN.out;have hB2:=HLT.out;go_wp2;go_roundw
   ·exact ⟨k+1,by have:=HLT.out;omega,by go_num,HA2,hb⟩
   have:=HLT.out;simp[intOf];omega
 have d2:=dF (p:=0<(k:Int));have d2g:decide ((k:Int) > 0)=false:=d2;have d2n:decide (0<k)=false:=decide_eq_false h5;have HLT:=hid hlt;have H5:=hid h5;clear hcell hlt hk h5;go_wp2_with fail
 cases q1
 ·
  as_aux_lemma =>
   have HE:Hid (v=false):=hid (not_true fun e=>by have f:=(HV.out.2 e).2 k HLL.out HLL.out;exact by have:=Q1.out.1 (by have q:=f.1;rw[HXK.out HLL.out] at q;exact q);cases this);clear HA HV;refine rh (aj16 hb c0 c1 c2 c3 c4 c5 c6 c7 c8 c9 c10 c11 c12 c13 c14) fun wd gH=>?_;refine tk [0,1,2,3,4] ?_;refine tR 5 fun K hK=>?_;go_simp;go_at_call 137;refine cr (CO.out _ gH.1) fun v6 k6=>?_;go_wp2_with fail
   refine tH hK gH k6 fun gH=>?_;clear hK K k6;refine tk (.range' 6 20) ?_;refine tD ?_;clear hb c0 c1 c2 c3 c4 c5 c6 c7 c8 c9 c10 c11 c12 c13 c14;obtain ⟨hb,c0,c1,c2,c3,c4,c5,c6,c7,c8,c9,c10,c11,c12,c13,c14⟩:=gH;go_wp2;go_ret;exact ⟨by rw[HE.out];rfl,hb⟩
 as_aux_lemma =>
  refine rh (aj16 hb c0 c1 c2 c3 c4 c5 c6 c7 c8 c9 c10 c11 c12 c13 c14) fun wd gH=>?_;refine tk [0,1,2,3,4] ?_;refine tR 5 fun K hK=>?_;go_simp;go_at_call 137;refine cr (CO.out _ gH.1) fun v7 k7=>?_;go_wp2_with fail
  refine tH hK gH k7 fun gH=>?_;clear hK K k7;refine tk (.range' 6 20) ?_;refine tD ?_;clear hb c0 c1 c2 c3 c4 c5 c6 c7 c8 c9 c10 c11 c12 c13 c14;obtain ⟨hb,c0,c1,c2,c3,c4,c5,c6,c7,c8,c9,c10,c11,c12,c13,c14⟩:=gH;have HA2:Hid (∀ j,j<k+1→∀ h:j<(J.map RM.m).length,OneR (J.map RM.m) (J.map RM.m)[j]∧RiseAt (J.map RM.m) j):=hid (upto_succ HA.out (fun h=>⟨by rw[HXK.out h];exact Q1.out.2 (by simp),fun _ h=>absurd h H5.out⟩));clear HA;have hB1:=HN.out;have hB2:=HLT.out;go_wp2;go_roundw
  ·exact ⟨k+1,by have:=HLT.out;omega,by go_num,HA2,hb⟩
  have:=HLT.out;simp[intOf];omega
end RefMem
end Go.Proofs.YtnpjkmomllkhpaaGreatDoor
