/- RefGive, CoderSameS, CoderAlive. -/
import Derived.Test.YtnpjkmomllkhpaaGreatDoorTn26
set_option linter.unusedVariables false
set_option linter.unusedSimpArgs false
set_option maxRecDepth 100000
set_option maxHeartbeats 40000000
namespace Go.Proofs.YtnpjkmomllkhpaaGreatDoor
namespace RefWrite
open RowKit YtnpjkmomllkhpaaGreatDoor.Mark Num Wire Bag Dots Coder RefMay
theorem kd_of_may {e:E} (h:mayE e=true):kd e.k≠0:=by
 unfold mayE at h;simp only[Bool.and_eq_true] at h;obtain ⟨_,_,h⟩:=h;unfold kinds at h;by_cases k1:kd e.k=1
 · omega
 by_cases k2:kd e.k=2
 · omega
 by_cases k3:kd e.k=3
 · omega
 rw[if_neg k1,if_neg k2,if_neg k3] at h;cases h
theorem keyed_of {x:RS} (of:SFit x) (h:mayS x.s=true):Keyed x:=fun y hy=>⟨of.key y hy,by
 unfold mayS at h;simp only[Bool.and_eq_true] at h;exact kd_of_may (es_of_may h.2.1 y.e (List.mem_map_of_mem hy))⟩
theorem refturn_any (a:Int) (w:World) (h1 : -9223372036854775808≤a) (h2:a≤9223372036854775807) :
  CP 64 #[.int .i64 a] w (.int .u64 (turn a)):=by
 by_cases h:0≤a
 ·have d1:decide (a≥0)=true:=decide_eq_true h;have d2:decide (0≤a)=true:=decide_eq_true h;have e1:IntKind.u64.wrap a=a:=by rw[IntKind.wrap_u64];omega
  have e2:IntKind.u64.wrap (2*a)=turn a:=by unfold turn;rw[IntKind.wrap_u64];omega
  go_enter Tryz.func64,Tryz.ntmps64;go_wp2;go_ret;exact ⟨rfl,rfl⟩
 have d1:decide (a≥0)=false:=decide_eq_false h;have d2:decide (0≤a)=false:=decide_eq_false h;have e0:IntKind.i64.wrap (a+1)=a+1:=by rw[IntKind.wrap_i64];omega
 have e1:IntKind.i64.wrap (-(a+1)) = -(a+1):=by rw[IntKind.wrap_i64];omega
 have e2:IntKind.u64.wrap (-(a+1)) = -(a+1):=by rw[IntKind.wrap_u64];omega
 have e3:IntKind.u64.wrap (2 * -(a+1))=2 * -(a+1):=by rw[IntKind.wrap_u64];omega
 have e4:IntKind.u64.wrap (2 * -(a+1)+1)=turn a:=by unfold turn;rw[IntKind.wrap_u64];omega
 go_enter Tryz.func64,Tryz.ntmps64;go_wp2;go_ret;exact ⟨rfl,rfl⟩
theorem refEntry (x:RE) (w:World) (hx:InnerE w x) (ox:x.Ok) (hky:x.k.length≤65536) (hf:(x.j.flatMap RI.d).length≤549755813888) (hs:(fE x).length≤70368744177664) :
  CB 10 #[.agg x] w (.tuple #[(outS (mayE x.e) (fE x)),.int .i64 (outE (mayE x.e))]):=by
 have lx:=hid hx;have OX:=hid ox;clear hx ox;obtain ⟨q,hq⟩:=nm (mayE x.e);obtain ⟨l,hl⟩:=nm (fE x);rw[← hq,← hl];have C0:=hid (fun W (h:InnerE W x)=>qB hq (RefMay.mayE_any x W h OX.out hky hf));have C1:=hid (fun W (h:InnerE W x) (hq2:q=true)=>(by have hy:=hq.symm.trans hq2;rw[hl];exact raw_any x W h OX.out hky (kd_of_may hy) hs:CB 40 #[.agg x] W l));clear hq hl hky hf hs;go_enter Tryz.func10,Tryz.ntmps10;go_upto_region 1 with (fail)
 have hb0:=balloc (Below.refl w.heap.size w) (.cells x 29);obtain ⟨t0,t1,t2,t3,t4,t5,t6⟩:=al7 (bx w x 29);obtain ⟨w0,hw0⟩:=nm (w.alloc (.cells x 29));rw[← hw0] at hb0 t0 t1 t2 t3 t4 t5 t6 ⊢;obtain ⟨bt,hbt⟩:=nm w.heap.size;rw[← hbt] at t0 t1 t2 t3 t4 t5 t6 ⊢;have hb:=hb0;clear hb0 hw0 hbt;replace lx:=hid (lx.out.below hb);go_wp2_with fail
 refine cr (C0.out _ lx.out) fun v1 k1=>?_;have hA:=kp k1 (aj7 t0 t1 t2 t3 t4 t5 t6);clear t0 t1 t2 t3 t4 t5 t6;obtain ⟨t0,t1,t2,t3,t4,t5,t6⟩:=hA;replace lx:=hid ((lx.out).below k1);replace hb:=bstep hb k1;clear k1;cases q
 ·
  go_wp2;go_ret2;exact ⟨by rfl,hb⟩
 go_wp2_with fail
 refine cr (C1.out _ lx.out (by trivial)) fun v2 k2=>?_;have hA:=kp k2 (aj7 t0 t1 t2 t3 t4 t5 t6);clear t0 t1 t2 t3 t4 t5 t6;obtain ⟨t0,t1,t2,t3,t4,t5,t6⟩:=hA;replace lx:=hid ((lx.out).below k2);replace hb:=bstep hb k2;clear k2;go_wp2;go_ret2;exact ⟨by rfl,hb⟩
theorem refState (x:RS) (w:World) (hx:InnerS w x) (ox:x.Ok) (of:SFit x) (hpb:(x.p.flatMap tx).length≤1099511627776) (hs:(fS x).length≤70368744177664) :
  CB 12 #[.agg x] w (.tuple #[(outS (mayS x.s) (fS x)),.int .i64 (outE (mayS x.s))]):=by
 have lx:=hid hx;have OX:=hid ox;clear hx ox;obtain ⟨q,hq⟩:=nm (mayS x.s);obtain ⟨l,hl⟩:=nm (fS x);rw[← hq,← hl];have C0:=hid (fun W (h:InnerS W x)=>qB hq (RefMay.mayS_any x W h OX.out of));have C1:=hid (fun W (h:InnerS W x) (hq2:q=true)=>(by have hy:=hq.symm.trans hq2;rw[hl];exact state_any x W h OX.out (keyed_of of hy) hpb hs:CB 45 #[.agg x] W l));clear hq hl of hpb hs;go_enter Tryz.func12,Tryz.ntmps12;go_upto_region 1 with (fail)
 have hb0:=balloc (Below.refl w.heap.size w) (.cells x 33);obtain ⟨t0,t1,t2⟩:=al3 (bx w x 33);obtain ⟨w0,hw0⟩:=nm (w.alloc (.cells x 33));rw[← hw0] at hb0 t0 t1 t2 ⊢;obtain ⟨bt,hbt⟩:=nm w.heap.size;rw[← hbt] at t0 t1 t2 ⊢;have hb:=hb0;clear hb0 hw0 hbt;replace lx:=hid (lx.out.below hb);go_wp2_with fail
 refine cr (C0.out _ lx.out) fun v3 k3=>?_;have hA:=kp k3 (aj3 t0 t1 t2);clear t0 t1 t2;obtain ⟨t0,t1,t2⟩:=hA;replace lx:=hid ((lx.out).below k3);replace hb:=bstep hb k3;clear k3;cases q
 ·
  go_wp2;go_ret2;exact ⟨by rfl,hb⟩
 go_wp2_with fail
 refine cr (C1.out _ lx.out (by trivial)) fun v4 k4=>?_;have hA:=kp k4 (aj3 t0 t1 t2);clear t0 t1 t2;obtain ⟨t0,t1,t2⟩:=hA;replace lx:=hid ((lx.out).below k4);replace hb:=bstep hb k4;clear k4;go_wp2;go_ret2;exact ⟨by rfl,hb⟩
theorem refDelta (ba:Option Addr) (bc:Nat) (B:List M) (x:RS) (w:World) (hx:InnerD w ba B x) (ox:DOk B x) (of:SFit x) (hpb:(x.p.flatMap tx).length≤1099511627776) (hs:(fD B x).length≤70368744177664) :
  CB 14 #[.agg #[.slice ba B.length bc,.slice x.aa x.a.length x.ac,.slice x.ea x.e.length x.ec,.slice x.pa x.p.length x.pc]] w (.tuple #[(outS (mayD B x.s) (fD B x)),.int .i64 (outE (mayD B x.s))]):=by
 have lx:=hid hx;have OX:=hid ox;clear hx ox;obtain ⟨q0,hq0⟩:=nm (mayL B);obtain ⟨q1,hq1⟩:=nm (mayS x.s);have HV:Hid (mayD B x.s=(q0 && q1)):=hid (by rw[hq0,hq1];rfl);obtain ⟨p0,hp0⟩:=nm (lst mk B);obtain ⟨p1,hp1⟩:=nm (fS x);have hfd:fD B x=p0++p1:=by rw[hp0,hp1];rfl
 rw[hfd,List.length_append] at hs;have z0:=Str.size_mk p0;have z1:=Str.size_mk p1;obtain ⟨C1,hC1,lC1,aC1,zC1,nC1,mC1⟩:=apd p0 p1 (by omega);have HD:Hid (fD B x=C1):=hid (by rw[hfd,hC1]);clear hfd;replace hC1:=hid hC1;replace lC1:=hid lC1;have C0:=hid (fun W (h:InnerD W ba B x)=>qB hq0 (RefDots.may_any B ba B.length bc W h.1 (by have:=OX.out.b;omega) (ok_of OX.out.bm)));have CS:=hid (fun W (h:InnerD W ba B x)=>qB hq1 (RefMay.mayS_any x W h.2 OX.out.ok of));have C2:=hid (fun W (h:InnerD W ba B x)=>qS hp0 (marks_any ba bc B W h.1 OX.out.b OX.out.bm (by rw[← hp0];omega)));have C3:=hid (fun W (h:InnerD W ba B x) (h1:q1=true)=>qS hp1 (state_any x W h.2 OX.out.ok (keyed_of of (hq1.symm.trans h1)) hpb (by rw[← hp1];omega)));clear hq0 hq1 hp0 hp1 of hpb;go_enter Tryz.func14,Tryz.ntmps14;go_upto_region 1 with (fail)
 have hb0:=balloc (Below.refl w.heap.size w) (.cells #[.slice ba B.length bc,.slice x.aa x.a.length x.ac,.slice x.ea x.e.length x.ec,.slice x.pa x.p.length x.pc] 35);obtain ⟨t0,t1,t2,t3⟩:=al4 (bx w [.slice ba B.length bc,.slice x.aa x.a.length x.ac,.slice x.ea x.e.length x.ec,.slice x.pa x.p.length x.pc] 35);obtain ⟨w0,hw0⟩:=nm (w.alloc (.cells #[.slice ba B.length bc,.slice x.aa x.a.length x.ac,.slice x.ea x.e.length x.ec,.slice x.pa x.p.length x.pc] 35));rw[← hw0] at hb0 t0 t1 t2 t3 ⊢;obtain ⟨bt,hbt⟩:=nm w.heap.size;rw[← hbt] at t0 t1 t2 t3 ⊢;have hb:=hb0;clear hb0 hw0 hbt;replace lx:=hid (lx.out.below hb);go_wp2_with fail
 refine cr (C0.out _ lx.out) fun v5 k5=>?_;have hA:=kp k5 (aj4 t0 t1 t2 t3);clear t0 t1 t2 t3;obtain ⟨t0,t1,t2,t3⟩:=hA;replace lx:=hid ((lx.out).below k5);replace hb:=bstep hb k5;clear k5;cases q0
 ·have HV2:Hid (mayD B x.s=false):=hid (by rw[HV.out];rfl);go_wp2;go_ret2;exact ⟨by rw[HV2.out];rfl,hb⟩
 go_wp2_with fail
 refine cr (CS.out _ lx.out) fun v6 k6=>?_;have hA:=kp k6 (aj4 t0 t1 t2 t3);clear t0 t1 t2 t3;obtain ⟨t0,t1,t2,t3⟩:=hA;replace lx:=hid ((lx.out).below k6);replace hb:=bstep hb k6;clear k6;cases q1
 ·have HV2:Hid (mayD B x.s=false):=hid (by rw[HV.out];rfl);go_wp2;go_ret2;exact ⟨by rw[HV2.out];rfl,hb⟩
 have HV2:Hid (mayD B x.s=true):=hid (by rw[HV.out];rfl);clear HV;go_upto_region 3 with (fail)
 refine rh (aj6 hb t0 t1 t2 t3 lx.out) fun wd gH=>?_;refine tk [0,1,3,4] ?_;refine tR 2 fun K hK=>?_;go_simp;go_at_call 50;refine cr (C2.out _ gH.2.2.2.2.2) fun v7 k7=>?_;go_wp2_with fail
 refine tH hK gH k7 fun gH=>?_;clear hK K k7;refine tR 5 fun K hK=>?_;go_simp;go_at_call 45;refine cr (C3.out _ gH.2.2.2.2.2 (by trivial)) fun v8 k8=>?_;go_wp2_with fail
 refine tH hK gH k8 fun gH=>?_;clear hK K k8;refine tk [6,7,8] ?_;refine tD ?_;clear hb t0 t1 t2 t3 lx;obtain ⟨hb,t0,t1,t2,t3,lx⟩:=gH;replace lx:=hid lx;go_wp2;go_ret2;exact ⟨by rw[HV2.out,HD.out];rfl,hb⟩
theorem refOp (x:O) (w:World) (ox:x.Ok) (hky:x.k.length≤65536) :
  CB 18 #[.agg x] w (.tuple #[(outS (mayO x) (opb x)),.int .i64 (outE (mayO x))]):=by
 have ok1:=ox.d;have ok2:=ox.k;have ok3:=ox.t;have OX:=hid ox;have tb:=turn_bound x.n ox.n.1 ox.n.2;clear ox;have w8:IntKind.u64.wrap (x.d:Int)=(x.d:Int):=by rw[IntKind.wrap_u64];omega
 have zt:=Str.size_mk x.t;obtain ⟨q,hq⟩:=nm ((turn x.n).toNat);have hq2:turn x.n=(q:Int):=by omega
 have hq3:q≤18446744073709551615:=by omega
 have TU:=hid (fun W=>(by rw[← hq2];exact refturn_any x.n W OX.out.n.1 OX.out.n.2:CP 64 #[.int .i64 x.n] W (.int .u64 (q:Nat))));obtain ⟨k,hk⟩:=nm (kd x.k);have hk3:k≤3:=by rw[hk];exact kd_le _
 have KD:=hid (fun W=>(by rw[hk];exact RefMay.refkind x.k W hky:CB 61 #[x.k] W (.int .u8 (k:Nat))));have HM:Hid (mayO x=(decide (1≤x.d) && (decide (x.d≤5) && (!decide (k=0) && decide (x.t.length≤4096))))):=hid (by rw[hk];rfl);clear hk hky;obtain ⟨p0,hp0⟩:=nm (upL x.d);obtain ⟨p1,hp1⟩:=nm (tx x.k);obtain ⟨p2,hp2⟩:=nm (upL q);obtain ⟨p3,hp3⟩:=nm (tx x.t);have b0:p0.length≤1048586:=by rw[hp0];have:=up_len x.d;omega
 have b1:p1.length≤1048586:=by rw[hp1];have:=tx_len x.k;omega
 have b2:p2.length≤1048586:=by rw[hp2];have:=up_len q;omega
 have b3:p3.length≤1048586:=by rw[hp3];have:=tx_len x.t;omega
 have R0:Hid (cat [x.d]=p0):=hid (by rw[hp0];simp[cat]);have R1:Hid ([x.k].flatMap tx=p1):=hid (by rw[hp1];simp);have R2:Hid (cat [q]=p2):=hid (by rw[hp2];simp[cat]);have R3:Hid ([x.t].flatMap tx=p3):=hid (by rw[hp3];simp);have z0:=Str.size_mk p0;have z1:=Str.size_mk p1;have z2:=Str.size_mk p2;have z3:=Str.size_mk p3;obtain ⟨C1,hC1,lC1,aC1,zC1,nC1,mC1⟩:=apd p0 p1 (by omega);obtain ⟨C2,hC2,lC2,aC2,zC2,nC2,mC2⟩:=apd C1 p2 (by omega);obtain ⟨C3,hC3,lC3,aC3,zC3,nC3,mC3⟩:=apd C2 p3 (by omega);have HV:Hid (opb x=C3):=hid (by rw[hC3,hC2,hC1,hp0,hp1,hp2,hp3,hq];rfl);replace hC1:=hid hC1;replace lC1:=hid lC1;replace hC2:=hid hC2;replace lC2:=hid lC2;replace hC3:=hid hC3;replace lC3:=hid lC3;clear hp0 hp1 hp2 hp3 hq hq2 tb;go_enter Tryz.func18,Tryz.ntmps18;go_upto_region 1 with (fail)
 have hb0:=balloc (Below.refl w.heap.size w) (.cells x 38);obtain ⟨t0,t1,t2,t3⟩:=al4 (bx w x 38);obtain ⟨w0,hw0⟩:=nm (w.alloc (.cells x 38));rw[← hw0] at hb0 t0 t1 t2 t3 ⊢;obtain ⟨bt,hbt⟩:=nm w.heap.size;rw[← hbt] at t0 t1 t2 t3 ⊢;have hb:=hb0;clear hb0 hw0 hbt;by_cases h1:1≤x.d;rotate_left
 ·have d1:decide ((x.d:Int)<1)=true:=dT;have HV2:Hid (mayO x=false):=hid (by rw[HM.out];rw[decide_eq_false h1];rfl);clear HM;go_wp2;go_ret2;exact ⟨by rw[HV2.out];rfl,hb⟩
 have d1:=dF (p:=(x.d:Int)<1);by_cases h2:x.d≤5;rotate_left
 ·have d2:decide ((x.d:Int) > 5)=true:=dT;have d3:=dT (p:=5<(x.d:Int));have HV2:Hid (mayO x=false):=hid (by rw[HM.out];rw[decide_eq_false h2];simp);clear HM;go_wp2;go_ret2;exact ⟨by rw[HV2.out];rfl,hb⟩
 have d2:=dF (p:=(x.d:Int) > 5);have d3:=dF (p:=5<(x.d:Int));go_wp2_with fail
 refine cr (KD.out _) fun v9 k9=>?_;have hA:=kp k9 (aj4 t0 t1 t2 t3);clear t0 t1 t2 t3;obtain ⟨t0,t1,t2,t3⟩:=hA;replace hb:=bstep hb k9;clear k9 KD;by_cases h3:k=0
 ·have d4:((k:Int) == 0)=true:=bT;have HV2:Hid (mayO x=false):=hid (by rw[HM.out];rw[decide_eq_true h3];simp);clear HM;go_wp2;go_ret2;exact ⟨by rw[HV2.out];rfl,hb⟩
 have d4:=bF (a:=k) (b:=0);by_cases h4:x.t.length≤4096;rotate_left
 ·have d5:decide ((x.t.length:Int) > 4096)=true:=dT;have d6:=dT (p:=4096<(x.t.length:Int));have HV2:Hid (mayO x=false):=hid (by rw[HM.out];rw[decide_eq_false h4];simp);clear HM;go_wp2;go_ret2;exact ⟨by rw[HV2.out];rfl,hb⟩
 have d5:=dF (p:=(x.t.length:Int) > 4096);have d6:=dF (p:=4096<(x.t.length:Int));have HV2:Hid (mayO x=true):=hid (by rw[HM.out,decide_eq_true h1,decide_eq_true h2,decide_eq_false h3,decide_eq_true h4];rfl);clear HM;go_upto_region 3 with (fail)
 refine rh (aj5 hb t0 t1 t2 t3) fun wd gH=>?_;refine tk [0,1,2,5,6,10,11,16,17] ?_;refine Rk.go (fun d=>match d with | 27=>.nat [x.d] 1 | 28=>.str p0 | 31=>.txt [x.k] 1 | 32=>.str p1 | 33=>.str C1 | 36=>.val (.int .u64 (q:Int)) | 37=>.nat [q] 1 | 38=>.str p2 | 39=>.str C2 | 42=>.txt [x.t] 1 | 43=>.str p3 | 44=>.str C3 | 2=>.str C3 | 3=>.val (.int .i64 0) | _=>.any) [27,28,31,32,33,36,37,38,39,42,43,44,2,3] [3,4,7,8,9,12,13,14,15,18,19,20,21,22] gH ?_ (fun f wz gH hR=>?_)
 ·
  refine rlN ?_;refine rrN 27 R0 ?_;refine rlT ?_;refine rrT 31 R1 ?_;refine rcc 28 32 ?_;refine Rely.st [32] (fun f wz gH hD K hK=>?_) ?_
  ·
   go_simp;go_at_call 64;refine cp (TU.out _) ?_;go_wp2_with fail
   refine hK.out _ _ _ (by first | rfl | rfl) rfl gH (Below.refl _ _)
  refine Rely.Steps.cons [36] (fun f wz gH hD K hK=>?_) ?_
  ·
   have f36:f 36=.int .u64 (q:Int):=hD 36 (by simp);simp only[Rely.fillA,Rely.fill,Act.put,List.setIfInBounds_toArray,List.set_cons_zero,List.set_cons_succ] at hK ⊢;go_simp;refine Rely.rA hK gH ⟨wz.heap.size,rfl,nats_here [q] (by intro y hy;simp at hy;omega) rfl 1 rfl (Below.refl 0 _)⟩ (by first | rfl | rw[f36])
  refine rrN 37 R2 ?_;refine rcc 33 38 ?_;refine rlT ?_;refine rrT 42 R3 ?_;refine rcc 39 43 ?_;refine rcR 44 ?_;refine Rely.st [2,27,28,31,32,33,36,37,38,39,42,43,44] (fun f wz gH hD K hK=>?_) ?_
  ·
   go_simp;refine hK.out _ _ _ (by first | rfl | rfl) rfl gH (Below.refl _ _)
  exact Rely.Steps.nil
 have f33:=Rk.e hR 33 9;have f36:f 36=.int .u64 (q:Int):=hR 36 (by simp) ⟨12,_,by simp only[List.getElem?_toArray,List.getElem?_cons_succ,List.getElem?_cons_zero];rfl,by kernel_rfl,rfl⟩;have f2:=Rk.e hR 2 21;have f3:f 3=.int .i64 0:=hR 3 (by simp) ⟨22,_,by simp only[List.getElem?_toArray,List.getElem?_cons_succ,List.getElem?_cons_zero];rfl,by kernel_rfl,rfl⟩;simp only[Rely.fillA,Rely.fill,List.setIfInBounds_toArray,List.set_cons_zero,List.set_cons_succ,f33,f36,f2,f3];refine NoPanic.normal ?_;clear hb t0 t1 t2 t3 hR f33 f36 f2 f3;obtain ⟨hb,t0,t1,t2,t3⟩:=gH;go_wp2;go_ret2;exact ⟨by rw[HV2.out,HV.out];rfl,hb⟩
end RefWrite
namespace Coder
open RowKit YtnpjkmomllkhpaaGreatDoor.Mark Num Wire Bag Dots
theorem same_s (x y:RS):decide (x.s=y.s)=(decide (x.a=y.a) && (decide (x.e.map RE.e=y.e.map RE.e) && decide (x.p=y.p))):=by
 rw[Bool.eq_iff_iff];simp only[Bool.and_eq_true,decide_eq_true_eq,RS.s,S.mk.injEq]
theorem sameS_any (x y:RS) (w:World) (hx:InnerS w x) (hy:InnerS w y) (ox:x.Ok) (oy:y.Ok) :
  CB 24 #[.agg x,.agg y] w (decide (x.s=y.s)):=by
 have lx:=hid hx;have ly:=hid hy;have hnx:=ox.e;have hny:=oy.e;have OX:=hid ox;have OY:=hid oy;clear hx hy ox oy;obtain ⟨V,hV⟩:=nm (decide (x.s=y.s));rw[← hV];obtain ⟨q0,hq0⟩:=nm (decide (x.a=y.a));obtain ⟨q2,hq2⟩:=nm (decide (x.p=y.p));have HV:Hid (V=(q0 && (decide (x.e.map RE.e=y.e.map RE.e) && q2))):=hid (by rw[hV,hq0,hq2];exact same_s x y);have C0:=hid (fun W (hx:InnerS W x) (hy:InnerS W y)=>qB hq0 (RefDots.same_any x.a y.a x.aa y.aa x.a.length y.a.length x.ac y.ac W hx.a hy.a (by have:=OX.out.a;omega) (by have:=OY.out.a;omega)));have C2:=hid (fun W (hx:InnerS W x) (hy:InnerS W y)=>qB hq2 (texts_any x.p y.p x.pa y.pa x.p.length y.p.length x.pc y.pc W hx.p hy.p (by have:=OX.out.p;omega)));clear hq0 hq2 hV;go_enter Tryz.func24,Tryz.ntmps24;go_upto_region 1 with (fail)
 have hb0:=balloc (balloc (Below.refl w.heap.size w) (.cells x 33)) (.cells y 33);have hB:=bx w x 33;have p0:=Coder.keepC (hB 0 _ rfl) (balloc (Below.refl _ _) (.cells y 33));have p1:=Coder.keepC (hB 1 _ rfl) (balloc (Below.refl _ _) (.cells y 33));have p2:=Coder.keepC (hB 2 _ rfl) (balloc (Below.refl _ _) (.cells y 33));clear hB;have r0:=box_cells (w.alloc (.cells x 33)) y 33 0 (.slice y.aa y.a.length y.ac) rfl;simp only[World.size_alloc] at r0;have r1:=box_cells (w.alloc (.cells x 33)) y 33 1 (.slice y.ea y.e.length y.ec) rfl;simp only[World.size_alloc] at r1;have r2:=box_cells (w.alloc (.cells x 33)) y 33 2 (.slice y.pa y.p.length y.pc) rfl;simp only[World.size_alloc] at r2;obtain ⟨w0,hw0⟩:=nm ((w.alloc (.cells x 33)).alloc (.cells y 33));rw[← hw0] at hb0 p0 p1 p2 r0 r1 r2 ⊢;obtain ⟨br,hbr⟩:=nm (w.heap.size+1);rw[← hbr] at r0 r1 r2 ⊢;obtain ⟨bp,hbp⟩:=nm w.heap.size;rw[← hbp] at p0 p1 p2 ⊢;have hb:=hb0;clear hb0 hw0 hbp hbr;replace lx:=hid (lx.out.below hb);replace ly:=hid (ly.out.below hb);go_wp2_with fail
 refine cr (C0.out _ lx.out ly.out) fun v1 k1=>?_;have hA:=kp k1 (aj6 p0 p1 p2 r0 r1 r2);clear p0 p1 p2 r0 r1 r2;obtain ⟨p0,p1,p2,r0,r1,r2⟩:=hA;replace lx:=hid ((lx.out).below k1);replace ly:=hid ((ly.out).below k1);replace hb:=bstep hb k1;clear k1;cases q0
 ·
  have HV2:Hid (V=false):=hid (by rw[HV.out];try simp);go_wp2;go_ret;exact ⟨by rw[HV2.out];rfl,hb⟩
 by_cases hn:x.e.length=y.e.length;rotate_left
 ·have hne:((x.e.length:Int) != (y.e.length:Int))=true:=by rw[bne_iff_ne];omega
  have he:decide (x.e.map RE.e=y.e.map RE.e)=false:=decide_eq_false fun h=>hn (by have:=congrArg List.length h;simpa using this);have HV2:Hid (V=false):=hid (by rw[HV.out,he];try simp);go_wp2;go_ret;exact ⟨by rw[HV2.out];rfl,hb⟩
 have hne:((x.e.length:Int) != (y.e.length:Int))=false:=by rw[bne_eq_false_iff_eq];omega
 have HN:=hid hn;clear hn;go_wp2_with fail
 refine cr (C2.out _ lx.out ly.out) fun v2 k2=>?_;have hA:=kp k2 (aj6 p0 p1 p2 r0 r1 r2);clear p0 p1 p2 r0 r1 r2;obtain ⟨p0,p1,p2,r0,r1,r2⟩:=hA;replace lx:=hid ((lx.out).below k2);replace ly:=hid ((ly.out).below k2);replace hb:=bstep hb k2;clear k2;cases q2
 ·
  have HV2:Hid (V=false):=hid (by rw[HV.out];try simp);go_wp2;go_ret;exact ⟨by rw[HV2.out];rfl,hb⟩
 have HV1:Hid (V=decide (x.e.map RE.e=y.e.map RE.e)):=hid (by rw[HV.out];simp);clear HV C0 C2;go_wp2_with fail
 go_loopw [5] (fun iv wr=>∃ k:Nat,k≤x.e.length∧iv=.int .i64 k∧Hid ((x.e.map RE.e).take k=(y.e.map RE.e).take k)∧Below w.heap.size w wr∧(wr.cell? ⟨bp,0,none⟩=some (.slice x.aa x.a.length x.ac))∧(wr.cell? ⟨bp,1,none⟩=some (.slice x.ea x.e.length x.ec))∧(wr.cell? ⟨bp,2,none⟩=some (.slice x.pa x.p.length x.pc))∧(wr.cell? ⟨br,0,none⟩=some (.slice y.aa y.a.length y.ac))∧(wr.cell? ⟨br,1,none⟩=some (.slice y.ea y.e.length y.ec))∧(wr.cell? ⟨br,2,none⟩=some (.slice y.pa y.p.length y.pc))∧Hid (InnerS wr x)∧Hid (InnerS wr y)) (fun iv _=>x.e.length - (intOf iv).toNat)
 case atStart=>exact ⟨0,by omega,rfl,hid rfl,hb,p0,p1,p2,r0,r1,r2,lx,ly⟩
 clear hb p0 p1 p2 r0 r1 r2 lx ly;obtain ⟨k,hk,rfl,hs,hb,p0,p1,p2,r0,r1,r2,lx,ly⟩:=hrel;by_cases hlt:k<x.e.length;rotate_left
 ·have HE:Hid (V=true):=hid (by
   have e:=HN.out;rw[HV1.out];refine decide_eq_true ?_;have h:=hs.out;rw[List.take_of_length_le (by simp;omega),List.take_of_length_le (by simp;omega)] at h;exact h)
  go_wp2;go_ret;exact ⟨by rw[HE.out];rfl,hb⟩
 have hl2:k<y.e.length:=by have:=HN.out;omega
 have d1:=dT (p:=(k:Int)<(x.e.length:Int));have j1:(0:Int)≤(k:Int):=by omega
 have j2:(k:Int)<(x.e.length:Int):=by omega
 have j3:(k:Int)<(y.e.length:Int):=by omega
 obtain ⟨b,o,hea,hc⟩:=lx.out.e.1.2 (by omega);obtain ⟨b2,o2,heb,hc2⟩:=ly.out.e.1.2 (by omega);rw[hea] at p1 ⊢;rw[heb] at r1 ⊢;obtain ⟨c0,c1,c2,c3,c4,c5,c6⟩:=cl7 (o+k*7) (hc k hlt);obtain ⟨f0,f1,f2,f3,f4,f5,f6⟩:=cl7 (o2+k*7) (hc2 k hl2);have lu:Hid (InnerE wr (x.e[k])):=hid (lx.out.e.2 _ (List.getElem_mem hlt));have lv:Hid (InnerE wr (y.e[k])):=hid (ly.out.e.2 _ (List.getElem_mem hl2));have OU:=hid (OX.out.em _ (List.getElem_mem hlt));have OV:=hid (OY.out.em _ (List.getElem_mem hl2));have t1:(x.e.map RE.e).take (k+1)=(x.e.map RE.e).take k++[(x.e[k]).e]:=by rw[List.take_succ_eq_append_getElem (by simpa using hlt),List.getElem_map]
 have t2:(y.e.map RE.e).take (k+1)=(y.e.map RE.e).take k++[(y.e[k]).e]:=by rw[List.take_succ_eq_append_getElem (by simpa using hl2),List.getElem_map]
 have t3:(x.e.map RE.e)[k]?=some (x.e[k]).e:=by rw[List.getElem?_map,List.getElem?_eq_getElem hlt];rfl
 have t4:(y.e.map RE.e)[k]?=some (y.e[k]).e:=by rw[List.getElem?_map,List.getElem?_eq_getElem hl2];rfl
 obtain ⟨u,hu⟩:=nm x.e[k];obtain ⟨v,hv⟩:=nm y.e[k];rw[← hu] at lu OU t1 t3 c0 c1 c2 c3 c4 c5 c6;rw[← hv] at lv OV t2 t4 f0 f1 f2 f3 f4 f5 f6;obtain ⟨q,hq⟩:=nm (decide (u.e=v.e));have HT:Hid (q=true→(x.e.map RE.e).take (k+1)=(y.e.map RE.e).take (k+1)):=hid (fun h=>by rw[t1,t2,hs.out,of_decide_eq_true (hq.symm.trans h)]);have HF:Hid (q=false→V=false):=hid (fun h=>by
  rw[HV1.out];refine decide_eq_false fun e=>?_;rw[e,t4] at t3;exact of_decide_eq_false (hq.symm.trans h) (Option.some.inj t3).symm)
 have D0:=hid (fun W (h1:InnerE W u) (h2:InnerE W v)=>qB hq (sameE_any u v W h1 h2 OU.out.1 OV.out.1));have HI:=hid hlt;clear hc hc2 hu hv hq t1 t2 t3 t4 hlt hl2 hs OU OV hea heb;go_wp2_with fail
 refine rhd (aj16 hb p0 p1 p2 r0 r1 r2 lx.out ly.out lu.out lv.out c0 c1 c2 c3 (aj10 c4 c5 c6 f0 f1 f2 f3 f4 f5 f6)) fun gH=>?_;refine tk (.range 10) ?_;refine tR 10 fun K hK=>?_;go_simp;go_at_call 23;refine cr (D0.out _ gH.2.2.2.2.2.2.2.2.2.1 gH.2.2.2.2.2.2.2.2.2.2.1) fun v3 k3=>?_;go_wp2_with fail
 refine tH hK gH k3 fun gH=>?_;clear hK K k3;refine tk [11] ?_;refine tD ?_;clear hb p0 p1 p2 r0 r1 r2 lx ly lu lv c0 c1 c2 c3 c4 c5 c6 f0 f1 f2 f3 f4 f5 f6;obtain ⟨hb,p0,p1,p2,r0,r1,r2,lx,ly,lu,lv,c0,c1,c2,c3,c4,c5,c6,f0,f1,f2,f3,f4,f5,f6⟩:=gH;replace lx:=hid lx;replace ly:=hid ly;replace lu:=hid lu;replace lv:=hid lv;clear D0 lu lv c0 c1 c2 c3 c4 c5 c6 f0 f1 f2 f3 f4 f5 f6;cases q
 ·have HV2:Hid (V=false):=hid (HF.out rfl);clear HT HF;go_wp2;go_ret;exact ⟨by rw[HV2.out];rfl,hb⟩
 have HT2:=hid (HT.out rfl);clear HT HF;go_wp2;go_roundw
 ·exact ⟨k+1,by have:=HI.out;omega,by go_num,HT2,hb,p0,p1,p2,r0,r1,r2,lx,ly⟩
 simp[intOf];have:=HI.out;omega
structure RS.Sz (x:RS):Prop where
 a:x.a.length≤1048576
 am:∀ m ∈ x.a,m.p.length≤1048576∧m.n≤18446744073709551615
 e:x.e.length≤1048576
 em:∀ y ∈ x.e,y.Ok
 p:x.p.length≤1048576
 pm:∀ m ∈ x.p,m.length≤1048576
end Coder
namespace CoderLaw
open RowKit YtnpjkmomllkhpaaGreatDoor.Mark Num Wire Bag Coder Taker
theorem _root_.Go.Proofs.YtnpjkmomllkhpaaGreatDoor.Coder.O.ext' {a b:O} (h1:a.d=b.d) (h2:a.k=b.k) (h3:a.n=b.n) (h4:a.t=b.t):a=b:=by cases a;cases b;simp_all
instance : DecidableEq O := fun a b => if h : a.d = b.d ∧ a.k = b.k ∧ a.n = b.n ∧ a.t = b.t then .isTrue (O.ext' h.1 h.2.1 h.2.2.1 h.2.2.2) else .isFalse fun e => h (by rw [e]; exact ⟨rfl, rfl, rfl, rfl⟩)
theorem eql_of_op (m k:O) (w:World):(Op.equalIn 10000 38 (.agg m) (.agg k)).run Tryz.prog w=.ok ((m.d:Int) == (k.d:Int) && (m.k == k.k && (m.n == k.n && m.t == k.t))) w:=by
 have hS:Tryz.prog.underlying 38=some (.struct (Tryz.prog.fieldsOf 38)):=by kernel_rfl
 rw[show (10000:Nat)=9999+1 from rfl,run_equalIn_agg w 9999 38 _ _ hS (by kernel_rfl)];simp only[Program.fieldsOf,Tryz.underlying38];have u1:=Tryz.underlying9;have u2:=Tryz.underlying5;have u3:=Tryz.underlying2;go_simp;by_cases h1:(m.d:Int)=(k.d:Int) <;> by_cases h2:m.k=k.k <;> by_cases h3:m.n=k.n <;> by_cases h4:m.t=k.t <;> simp[h1,h2,h3,h4]
theorem eqO_iff (m k:O):((m.d:Int) == (k.d:Int) && (m.k == k.k && (m.n == k.n && m.t == k.t)))=decide (m=k):=by
 obtain ⟨d,p,n,b⟩:=m;obtain ⟨d',p',n',b'⟩:=k;rw[Bool.eq_iff_iff];simp only[Bool.and_eq_true,beq_iff_eq,decide_eq_true_eq,O.mk.injEq];constructor
 · rintro ⟨h1,h2,h3,h4⟩;exact ⟨by omega,h2,h3,h4⟩
 rintro ⟨h1,h2,h3,h4⟩;exact ⟨by omega,h2,h3,h4⟩
theorem eql_op (m k:O) (w:World):(binOp .eql 38 (.agg m) (.agg k)).run Tryz.prog w=.ok (.bool (decide (m=k))) w:=by
 rw[run_eql_struct,eql_of_op,eqO_iff];rfl
def e1:Coder.E:=⟨[35,110],[⟨[49],1⟩],[⟨[49],2,0⟩],[],Cl.zero⟩
def x1 (m c:Nat):RE:=⟨[35,110],some ⟨m,0,none⟩,1,[⟨[49],1⟩],some ⟨c,0,none⟩,1,[⟨[49],2,0⟩],none,0,[],Cl.zero⟩
def s1:List UInt8:=[2,35,110,1,1,49,1,1,1,49,2,0]
def o1:O:=⟨1,[35,110],-3,[]⟩
theorem e1_may:mayE e1=true:=by decide +kernel
theorem e1_bytes:en e1=s1:=by decide +kernel
theorem e1_read:entryS s1 0=(e1,[],0):=by decide +kernel
theorem e1_more:entryS (s1++[120]) 0=(e1,[120],0):=by decide +kernel
theorem e0_may:mayE RE.zero.e=false:=by decide +kernel
theorem o1_may:mayO o1=true:=by decide +kernel
theorem o1_read:opS (opb o1) 0=(o1,[],0):=by decide +kernel
theorem o1_len:(opb o1).length≤65536:=by decide +kernel
theorem fit1 (m c:Nat):FitE (x1 m c).e where
 k:=by show 2≤_;decide
 s:=⟨by show 1≤_;decide,fun y hy=>by rw[List.mem_singleton.1 hy];exact ⟨by show 1≤_;decide,by show 1≤_;decide⟩⟩
 c:=⟨by show 1≤_;decide,fun y hy=>by rw[List.mem_singleton.1 hy];exact ⟨by show 1≤_;decide,by show 2≤_;decide,by show 0≤_;decide⟩⟩
 i:=⟨by show 0≤_;decide,fun y hy=>by cases hy⟩
 l:=⟨by show 0≤_;decide,by show 0≤_;decide⟩
theorem fit0:FitE RE.zero.e:=⟨by decide,⟨by decide,fun m hm=>by cases hm⟩,⟨by decide,fun m hm=>by cases hm⟩,⟨by decide,fun m hm=>by cases hm⟩,⟨by decide,by decide⟩⟩
theorem alive_entry (m c:Nat) (w:World) (h:InnerE w (x1 m c)) :
  CB 9 #[.agg #[.string ⟨#[35,110]⟩,.slice (some ⟨m,0,none⟩) 1 1,.slice (some ⟨c,0,none⟩) 1 1,.slice none 0 0,.int .u64 0,.string ⟨#[]⟩,.bool false]] w (.tuple #[.string ⟨#[2,35,110,1,1,49,1,1,1,49,2,0]⟩,.int .i64 0]):=by
 have hs:fE (x1 m c)=s1:=e1_bytes;have q:=giveEntry (x1 m c) w h (fit1 m c).ok (fit1 m c).fine (by rw[hs];decide);rw[show mayE (x1 m c).e=true from e1_may,hs] at q;exact q
theorem alive_none (w:World) :
  CB 9 #[.agg #[.string ⟨#[]⟩,.slice none 0 0,.slice none 0 0,.slice none 0 0,.int .u64 0,.string ⟨#[]⟩,.bool false]] w (.tuple #[.string ⟨#[]⟩,.int .i64 2]):=by
 have q:=giveEntry RE.zero w (own_zero w 0).inner ok_zero fit0.fine (by decide +kernel);rw[e0_may] at q;exact q
theorem alive_read (w:World) :
  Calls Tryz.prog 19 #[.string ⟨#[2,35,110,1,1,49,1,1,1,49,2,0]⟩] w fun e w'=>∃ x:RE,e=.returned (.tuple #[.agg x,.int .i64 0])∧x.e=e1∧InnerE w' x∧x.Ok∧Below w.heap.size w w':=by
 refine (read_entry s1 w (by decide) e1 [] 0 e1_read).mono ?_;rintro e w' ⟨x,rfl,hx,hi,ho,hb⟩;rw[show okS [] 0 (mayE e1)=true by rw[e1_may];decide] at hx ⊢;exact ⟨x,rfl,hx,hi.inner,ho,hb⟩
theorem alive_more (w:World) :
  Calls Tryz.prog 19 #[.string ⟨#[2,35,110,1,1,49,1,1,1,49,2,0,120]⟩] w fun e w'=>∃ x:RE,e=.returned (.tuple #[.agg x,.int .i64 8])∧Below w.heap.size w w':=by
 refine (read_entry (s1++[120]) w (by decide) e1 [120] 0 e1_more).mono ?_;rintro e w' ⟨x,rfl,hx,hi,ho,hb⟩;rw[show okS [120] 0 (mayE e1)=false by unfold okS;rw[e1_may];decide];exact ⟨x,rfl,hb⟩
theorem alive_op (w:World) :
  CB 17 #[.agg #[.int .u8 1,.string ⟨#[35,110]⟩,.int .i64 (-3),.string ⟨#[]⟩]] w (.tuple #[(opb o1),.int .i64 0]):=by
 have q:=giveOp o1 w ⟨by decide,by decide,by decide,by decide⟩;rw[o1_may] at q;exact q
theorem alive_back (w:World) :
  CB 31 #[(opb o1)] w (.tuple #[.agg #[.int .u8 1,.string ⟨#[35,110]⟩,.int .i64 (-3),.string ⟨#[]⟩],.int .i64 0]):=by
 refine (read_op (opb o1) w o1_len o1 [] 0 o1_read).mono ?_;rintro e w' ⟨x,rfl,hx,hb⟩;rw[show okS [] 0 (mayO o1)=true by rw[o1_may];decide] at hx ⊢;rw[hx];exact ⟨rfl,hb⟩
theorem inner1 (w:World) (T:TypeId) (vs:Array Value):InnerE (((w.alloc (.cells #[.string ⟨#[49]⟩,.int .u64 1] 96)).alloc (.cells #[.string ⟨#[49]⟩,.int .u64 2,.int .u64 0] 98)).alloc (.cells vs T)) (x1 w.heap.size (w.heap.size+1)):=by
 refine ⟨?_,?_,⟨Row.Lies.nil _ _,fun y hy=>by cases hy⟩⟩
 ·refine Mark.Lies.below (w:=(w.alloc (.cells #[.string ⟨#[49]⟩,.int .u64 1] 96))) ?_ (balloc (balloc (Below.refl _ _) _) _);exact mark_of (Row.lies_new (E:=dE) w ⟨[49],1⟩ 96)
 refine Row.Lies.below (w:=((w.alloc (.cells #[.string ⟨#[49]⟩,.int .u64 1] 96)).alloc (.cells #[.string ⟨#[49]⟩,.int .u64 2,.int .u64 0] 98))) ?_ (balloc (Below.refl _ _) _);have q:=Row.lies_new (E:=cE) (w.alloc (.cells #[.string ⟨#[49]⟩,.int .u64 1] 96)) ⟨[49],2,0⟩ 98;rw[World.size_alloc] at q;exact q
theorem alive_any (w:World):CB 8 #[] w (.bool true):=by
 go_enter Tryz.func8,Tryz.ntmps8;go_upto_region 2 with (fail)
 obtain ⟨W,hW⟩:=nm (((w.alloc (.cells #[.string ⟨#[49]⟩,.int .u64 1] 96)).alloc (.cells #[.string ⟨#[49]⟩,.int .u64 2,.int .u64 0] 98)).alloc (.cells #[.string ⟨#[35,110]⟩,.slice (some ⟨w.heap.size,0,none⟩) 1 1,.slice (some ⟨(w.heap.size+1),0,none⟩) 1 1,.slice none 0 0,.int .u64 0,.string ⟨#[]⟩,.bool false] 29));rw[← hW];have IX:InnerE W (x1 w.heap.size (w.heap.size+1)):=by rw[hW];exact inner1 w _ _
 have BE:Box W (w.heap.size+2) [.string ⟨#[35,110]⟩,.slice (some ⟨w.heap.size,0,none⟩) 1 1,.slice (some ⟨(w.heap.size+1),0,none⟩) 1 1,.slice none 0 0,.int .u64 0,.string ⟨#[]⟩,.bool false]:=by
  rw[hW];have q:=Box.new ((w.alloc (.cells #[.string ⟨#[49]⟩,.int .u64 1] 96)).alloc (.cells #[.string ⟨#[49]⟩,.int .u64 2,.int .u64 0] 98)) [.string ⟨#[35,110]⟩,.slice (some ⟨w.heap.size,0,none⟩) 1 1,.slice (some ⟨(w.heap.size+1),0,none⟩) 1 1,.slice none 0 0,.int .u64 0,.string ⟨#[]⟩,.bool false] 29 (by simp);simp only[World.size_alloc] at q;exact q
 have hb:Below w.heap.size w W:=by rw[hW];exact balloc (balloc (balloc (Below.refl _ _) _) _) _
 obtain ⟨eb,heb⟩:=nm (w.heap.size+1+1);replace BE:Box W eb [.string ⟨#[35,110]⟩,.slice (some ⟨w.heap.size,0,none⟩) 1 1,.slice (some ⟨(w.heap.size+1),0,none⟩) 1 1,.slice none 0 0,.int .u64 0,.string ⟨#[]⟩,.bool false]:=by rw[heb];exact BE
 rw[← heb];obtain ⟨cb,hcb⟩:=nm (w.heap.size+1);rw[← hcb] at IX BE ⊢;obtain ⟨mb,hmb⟩:=nm w.heap.size;replace IX:InnerE W (x1 mb cb):=by rw[hmb];exact IX
 replace BE:Box W eb [.string ⟨#[35,110]⟩,.slice (some ⟨mb,0,none⟩) 1 1,.slice (some ⟨cb,0,none⟩) 1 1,.slice none 0 0,.int .u64 0,.string ⟨#[]⟩,.bool false]:=by rw[hmb];exact BE
 have hG:w.heap.size≤W.heap.size:=hb.size;replace IX:=hid IX;replace BE:=hid BE;clear hW heb hcb hG hmb;have AX:(({ data:=#[2,35,110,1,1,49,1,1,1,49,2,0] }:ByteArray))++{ data:=#[120] }={ data:=#[2,35,110,1,1,49,1,1,1,49,2,0,120] }:=rfl;obtain ⟨t,ht⟩:=nm (opb o1);have AO:=hid (fun W=>(by rw[ht];exact alive_op W:CB 17 #[.agg #[.int .u8 1,.string ⟨#[35,110]⟩,.int .i64 (-3),.string ⟨#[]⟩]] W (.tuple #[t,.int .i64 0])));have AB:=hid (fun W=>(by rw[ht];exact alive_back W:CB 31 #[t] W (.tuple #[.agg #[.int .u8 1,.string ⟨#[35,110]⟩,.int .i64 (-3),.string ⟨#[]⟩],.int .i64 0])));have EO:∀ W,(binOp .eql 38 (.agg #[.int .u8 1,.string ⟨#[35,110]⟩,.int .i64 (-3),.string ⟨#[]⟩]) (.agg #[.int .u8 1,.string ⟨#[35,110]⟩,.int .i64 (-3),.string ⟨#[]⟩])).run Tryz.prog W=.ok (.bool true) W:=by
  intro W;have q:=eql_op o1 o1 W;rw[decide_eq_true (rfl:o1=o1)] at q;exact q
 clear ht;obtain ⟨c0,c1,c2,c3,c4,c5,c6⟩:=al7 BE.out.at;go_wp2_with fail
 refine cr (alive_entry mb cb _ IX.out) fun v1 k1=>?_;replace IX:=hid ((IX.out).below k1);replace BE:=hid ((BE.out).below k1);replace hb:=bstep hb k1;clear k1 c0 c1 c2 c3 c4 c5 c6;go_wp2_with fail
 refine (alive_read _).mono ?_;rintro e v2 ⟨x,rfl,hx,hi,ho,k2⟩;replace IX:=hid ((IX.out).below k2);replace BE:=hid ((BE.out).below k2);replace hb:=bstep hb k2;clear k2;have HX:=hid hx;have OX:=hid ho;have IR:=hid hi;clear hx ho hi;go_upto_region 4 with (fail)
 obtain ⟨W4,hW4⟩:=nm (v2.alloc (.cells x 29));rw[← hW4];have BR:Box W4 v2.heap.size x:=by rw[hW4];exact Box.new v2 x 29 (by simp)
 have kk:Below v2.heap.size v2 W4:=by rw[hW4];exact balloc (Below.refl _ _) _
 obtain ⟨rb,hrb⟩:=nm v2.heap.size;rw[← hrb] at BR ⊢;replace BR:=hid BR;replace IX:=hid ((IX.out).below kk);replace BE:=hid ((BE.out).below kk);replace IR:=hid ((IR.out).below kk);replace hb:=bstep hb kk;clear kk hW4 hrb;have SM:=hid (fun W (h1:InnerE W x) (h2:InnerE W (x1 mb cb))=>(by
  have q:=sameE_any x (x1 mb cb) W h1 h2 OX.out (fit1 mb cb).ok;rw[decide_eq_true (show x.e=(x1 mb cb).e from HX.out)] at q;exact q:CB 23 #[.agg x,.agg #[.string ⟨#[35,110]⟩,.slice (some ⟨mb,0,none⟩) 1 1,.slice (some ⟨cb,0,none⟩) 1 1,.slice none 0 0,.int .u64 0,.string ⟨#[]⟩,.bool false]] W (.bool true)))
 go_wp2_with fail
 refine (alive_more _).mono ?_;rintro e v3 ⟨x2,rfl,k3⟩;replace IX:=hid ((IX.out).below k3);replace BE:=hid ((BE.out).below k3);replace IR:=hid ((IR.out).below k3);replace BR:=hid ((BR.out).below k3);replace hb:=bstep hb k3;clear k3;go_upto_region 5 with (fail)
 obtain ⟨W5,hW5⟩:=nm (v3.alloc (.cells x2 29));rw[← hW5];have BS:Box W5 v3.heap.size x2:=by rw[hW5];exact Box.new v3 x2 29 (by simp)
 have kk:Below v3.heap.size v3 W5:=by rw[hW5];exact balloc (Below.refl _ _) _
 obtain ⟨rs,hrs⟩:=nm v3.heap.size;rw[← hrs] at BS ⊢;replace BS:=hid BS;replace IX:=hid ((IX.out).below kk);replace BE:=hid ((BE.out).below kk);replace IR:=hid ((IR.out).below kk);replace BR:=hid ((BR.out).below kk);replace hb:=bstep hb kk;clear kk hW5 hrs BS;go_wp2_with fail
 refine cr (alive_none _) fun v4 k4=>?_;replace IX:=hid ((IX.out).below k4);replace BE:=hid ((BE.out).below k4);replace IR:=hid ((IR.out).below k4);replace BR:=hid ((BR.out).below k4);replace hb:=bstep hb k4;clear k4;go_upto_region 7 with (fail)
 obtain ⟨W7,hW7⟩:=nm (v4.alloc (.cells #[.int .u8 1,.string ⟨#[35,110]⟩,.int .i64 (-3),.string ⟨#[]⟩] 38));rw[← hW7];have BO:Box W7 v4.heap.size [.int .u8 1,.string ⟨#[35,110]⟩,.int .i64 (-3),.string ⟨#[]⟩]:=by rw[hW7];exact Box.new v4 [.int .u8 1,.string ⟨#[35,110]⟩,.int .i64 (-3),.string ⟨#[]⟩] 38 (by simp)
 have kk:Below v4.heap.size v4 W7:=by rw[hW7];exact balloc (Below.refl _ _) _
 obtain ⟨ob,hob⟩:=nm v4.heap.size;rw[← hob] at BO ⊢;replace BO:=hid BO;replace IX:=hid ((IX.out).below kk);replace BE:=hid ((BE.out).below kk);replace IR:=hid ((IR.out).below kk);replace BR:=hid ((BR.out).below kk);replace hb:=bstep hb kk;clear kk hW7 hob;obtain ⟨c0,c1,c2,c3⟩:=al4 BO.out.at;go_wp2_with fail
 refine cr (AO.out _) fun v5 k5=>?_;replace IX:=hid ((IX.out).below k5);replace BE:=hid ((BE.out).below k5);replace IR:=hid ((IR.out).below k5);replace BR:=hid ((BR.out).below k5);replace BO:=hid ((BO.out).below k5);replace hb:=bstep hb k5;clear k5 c0 c1 c2 c3;go_wp2_with fail
 refine cr (AB.out _) fun v6 k6=>?_;replace IX:=hid ((IX.out).below k6);replace BE:=hid ((BE.out).below k6);replace IR:=hid ((IR.out).below k6);replace BR:=hid ((BR.out).below k6);replace BO:=hid ((BO.out).below k6);replace hb:=bstep hb k6;clear k6;go_upto_region 9 with (fail)
 obtain ⟨W9,hW9⟩:=nm (v6.alloc (.cells #[.int .u8 1,.string ⟨#[35,110]⟩,.int .i64 (-3),.string ⟨#[]⟩] 38));rw[← hW9];have BP:Box W9 v6.heap.size [.int .u8 1,.string ⟨#[35,110]⟩,.int .i64 (-3),.string ⟨#[]⟩]:=by rw[hW9];exact Box.new v6 [.int .u8 1,.string ⟨#[35,110]⟩,.int .i64 (-3),.string ⟨#[]⟩] 38 (by simp)
 have kk:Below v6.heap.size v6 W9:=by rw[hW9];exact balloc (Below.refl _ _) _
 obtain ⟨pb,hpb⟩:=nm v6.heap.size;rw[← hpb] at BP ⊢;replace BP:=hid BP;replace IX:=hid ((IX.out).below kk);replace BE:=hid ((BE.out).below kk);replace IR:=hid ((IR.out).below kk);replace BR:=hid ((BR.out).below kk);replace BO:=hid ((BO.out).below kk);replace hb:=bstep hb kk;clear kk hW9 hpb;obtain ⟨c0,c1,c2,c3,c4,c5,c6⟩:=al7 BE.out.at;obtain ⟨f0,f1,f2,f3,f4,f5,f6⟩:=al7 BR.out.at;go_wp2_with fail
 refine cr (SM.out _ IR.out IX.out) fun v7 k7=>?_;replace IX:=hid ((IX.out).below k7);replace BE:=hid ((BE.out).below k7);replace IR:=hid ((IR.out).below k7);replace BR:=hid ((BR.out).below k7);replace BO:=hid ((BO.out).below k7);replace BP:=hid ((BP.out).below k7);replace hb:=bstep hb k7;clear k7 c0 c1 c2 c3 c4 c5 c6 f0 f1 f2 f3 f4 f5 f6;obtain ⟨c0,c1,c2,c3⟩:=al4 BO.out.at;obtain ⟨f0,f1,f2,f3⟩:=al4 BP.out.at;go_wp2;go_ret;exact ⟨rfl,hb⟩
end CoderLaw
end Go.Proofs.YtnpjkmomllkhpaaGreatDoor
