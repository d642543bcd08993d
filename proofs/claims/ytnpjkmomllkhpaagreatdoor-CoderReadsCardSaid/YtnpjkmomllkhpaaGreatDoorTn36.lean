/- MemEq, MemPlan, RefMembers. -/
import Derived.Test.YtnpjkmomllkhpaaGreatDoorTn33
set_option linter.unusedVariables false
set_option linter.unusedSimpArgs false
set_option maxRecDepth 100000
set_option maxHeartbeats 40000000
namespace Go.Proofs.YtnpjkmomllkhpaaGreatDoor
namespace Mem
open RowKit Num Path Coder
abbrev prA (x:Pr):Value:=.agg x
abbrev plA (x:Pl):Value:=.agg x
theorem eq_pr (n:Nat) (m k:Pr) (w:World):(Op.equalIn (n+2) 87 (prA m) (prA k)).run Tryz.prog w=.ok (decide (m=k)) w:=by
 have hS:Tryz.prog.underlying 87=some (.struct (Tryz.prog.fieldsOf 87)):=by kernel_rfl
 have e:decide (m=k)=(m.b == k.b && ((m.n:Int) == (k.n:Int) && (m.o == k.o && (m.m:Int) == (k.m:Int)))):=by
  obtain ⟨b,n,o,p⟩:=m;obtain ⟨b',n',o',p'⟩:=k;rw[Bool.eq_iff_iff];simp only[Bool.and_eq_true,beq_iff_eq,decide_eq_true_eq,Pr.mk.injEq];constructor
  · rintro ⟨h1,h2,h3,h4⟩;exact ⟨h1,by omega,h3,by omega⟩
  rintro ⟨h1,h2,h3,h4⟩;exact ⟨h1,by omega,h3,by omega⟩
 rw[e,run_equalIn_agg w (n+1) 87 _ _ hS (by kernel_rfl)];simp only[Program.fieldsOf,Tryz.underlying87];have u1:=Tryz.underlying9;have u2:=Tryz.underlying25;go_simp;by_cases h1:m.b=k.b <;> by_cases h2:(m.n:Int)=(k.n:Int) <;> by_cases h3:m.o=k.o <;> by_cases h4:(m.m:Int)=(k.m:Int) <;> simp[h1,h2,h3,h4]
theorem eq_pl (m k:Pl) (w:World):(Op.equalIn 10000 89 (plA m) (plA k)).run Tryz.prog w=.ok (decide (m=k)) w:=by
 have hS:Tryz.prog.underlying 89=some (.struct (Tryz.prog.fieldsOf 89)):=by kernel_rfl
 have e:decide (m=k)=(m.k == k.k && ((m.r:Int) == (k.r:Int) && (m.l == k.l && (decide (m.a=k.a) && m.d == k.d)))):=by
  obtain ⟨b,n,o,p,q⟩:=m;obtain ⟨b',n',o',p',q'⟩:=k;rw[Bool.eq_iff_iff];simp only[Bool.and_eq_true,beq_iff_eq,decide_eq_true_eq,Pl.mk.injEq];constructor
  · rintro ⟨h1,h2,h3,h4⟩;exact ⟨h1,by omega,h3,h4⟩
  rintro ⟨h1,h2,h3,h4⟩;exact ⟨h1,by omega,h3,h4⟩
 rw[e,show (10000:Nat)=9999+1 from rfl,run_equalIn_agg w 9999 89 _ _ hS (by kernel_rfl)];simp only[Program.fieldsOf,Tryz.underlying89];have u1:=Tryz.underlying9;have u2:=Tryz.underlying25;have u3:=Tryz.underlying4;have hp:∀ W,(Op.equalIn 9999 87 (prA m.a) (prA k.a)).run Tryz.prog W=.ok (decide (m.a=k.a)) W:=fun W=>eq_pr 9997 m.a k.a W;unfold prA at hp;obtain ⟨q,hq⟩:=nm (decide (m.a=k.a));rw[← hq] at hp ⊢;clear hq e;have us:=Tryz.underlying87;go_simp;by_cases h1:m.k=k.k <;> by_cases h2:(m.r:Int)=(k.r:Int) <;> by_cases h3:m.l=k.l <;> by_cases h4:m.d=k.d <;> cases q <;> simp[h1,h2,h3,h4]
theorem eql_pl (m k:Pl) (w:World):(binOp .eql 89 (plA m) (plA k)).run Tryz.prog w=.ok (.bool (decide (m=k))) w:=by
 rw[run_eql_struct,eq_pl];rfl
theorem neq_pl (m k:Pl) (w:World):(binOp .neq 89 (plA m) (plA k)).run Tryz.prog w=.ok (.bool (!decide (m=k))) w:=by
 rw[run_neq_struct,eq_pl];rfl
theorem eql_pr (m k:Pr) (w:World):(binOp .eql 87 (prA m) (prA k)).run Tryz.prog w=.ok (.bool (decide (m=k))) w:=by
 rw[run_eql_struct,show (10000:Nat)=9998+2 from rfl,eq_pr];rfl
theorem tv_eq {A:Prop} {q:Bool} (h:q=tv A):A↔q=true:=⟨fun k=>h.trans (tv_true k),fun k=>of_tv (h.symm.trans k)⟩
theorem under_nil (p:List UInt8):¬ UnderM p []:=by
 unfold UnderM under;have:parse []=[]:=by decide
 rw[this];simp
theorem plan_any (x:RM) (w:World) (ok:x.q.Ok) (hp:x.p.length≤1048576) :
  CB 127 #[.agg x] w (tv (x.q=Pl.zero∨(x.s=4∧BodyM x.q x.p))):=by
 obtain ⟨t,s,k,c,l,ga,gc,gg,p,wa,wc,ww⟩:=x;simp only at ok hp ⊢;obtain ⟨q1,hq1⟩:=nm (under (parse t) (parse p.k));obtain ⟨q3,hq3⟩:=nm (tv (PathsM p.l));obtain ⟨q4,hq4⟩:=nm (under (parse t) (parse p.a.o));have Q1:Hid (UnderM t p.k↔q1=true):=hid (by rw[hq1];exact Iff.rfl);have Q3:Hid (PathsM p.l↔q3=true):=hid (tv_eq hq3);have Q4:Hid (UnderM t p.a.o↔q4=true):=hid (by rw[hq4];exact Iff.rfl);have C1:=hid (fun W=>qB hq1 (Path.under_any t p.k W (by omega) (by have:=ok.k;omega)));have C3:=hid (fun W=>qB hq3 (paths_any p.l W ok.l));have C4:=hid (fun W=>qB hq4 (Path.under_any t p.a.o W (by omega) (by have:=ok.o;omega)));obtain ⟨q2,hq2⟩:=nm (tv (RoundM p.r));have Q2:Hid (RoundM p.r↔q2=true):=hid (tv_eq hq2);have C2:=hid (fun W=>qB hq2 (round_any p.r W));clear hq2;obtain ⟨z,hz⟩:=nm (decide (p=Pl.zero));have Z:Hid (p=Pl.zero↔z=true):=hid (by rw[hz,decide_eq_true_eq]);obtain ⟨y,hy⟩:=nm (decide (p.a=Pr.zero));have YZ:Hid (p.a=Pr.zero↔y=true):=hid (by rw[hy,decide_eq_true_eq]);have EL:∀ W,(binOp .eql 89 (.agg p) (.agg #[.string ⟨#[]⟩,.int .u64 0,.string ⟨#[]⟩,.string ⟨#[]⟩,.int .u64 0,.string ⟨#[]⟩,.int .u64 0,.bool false])).run Tryz.prog W=.ok (.bool z) W:=by rw[hz];exact fun W=>eql_pl p Pl.zero W
 have ER:∀ W,(binOp .eql 87 (.agg p.a) (.agg #[.string ⟨#[]⟩,.int .u64 0,.string ⟨#[]⟩,.int .u64 0])).run Tryz.prog W=.ok (.bool y) W:=by rw[hy];exact fun W=>eql_pr p.a Pr.zero W
 clear hq1 hq3 hq4 hz hy;have HB:Hid (∀ A:Prop,(p=Pl.zero∨(s=4∧BodyM p t)→A)→(p=Pl.zero∨(s=4∧BodyM p t)→A)):=hid (fun _ h=>h);have OKM:=hid ok.m;have OKN:=hid ok.n;go_enter Tryz.func127,Tryz.ntmps127;go_upto_region 2 with (fail)
 have hb0:=balloc (balloc (Below.refl w.heap.size w) (.cells #[t,.int .u8 (s:Int),.int .i64 k,.int .i64 c,l,.slice ga gg.length gc,p.k,p.r,p.l,p.a.b,p.a.n,p.a.o,p.a.m,p.d,.slice wa ww.length wc] 92)) (.cells p 89);have hB:=bx w [t,.int .u8 (s:Int),.int .i64 k,.int .i64 c,l,.slice ga gg.length gc,p.k,p.r,p.l,p.a.b,p.a.n,p.a.o,p.a.m,p.d,.slice wa ww.length wc] 92;have t0:=Coder.keepC (hB 0 _ rfl) (balloc (Below.refl _ _) (.cells p 89));have t1:=Coder.keepC (hB 1 _ rfl) (balloc (Below.refl _ _) (.cells p 89));have t2:=Coder.keepC (hB 2 _ rfl) (balloc (Below.refl _ _) (.cells p 89));have t3:=Coder.keepC (hB 3 _ rfl) (balloc (Below.refl _ _) (.cells p 89));have t4:=Coder.keepC (hB 4 _ rfl) (balloc (Below.refl _ _) (.cells p 89));have t5:=Coder.keepC (hB 5 _ rfl) (balloc (Below.refl _ _) (.cells p 89));have t6:=Coder.keepC (hB 6 _ rfl) (balloc (Below.refl _ _) (.cells p 89));have t7:=Coder.keepC (hB 7 _ rfl) (balloc (Below.refl _ _) (.cells p 89));have t8:=Coder.keepC (hB 8 _ rfl) (balloc (Below.refl _ _) (.cells p 89));have t9:=Coder.keepC (hB 9 _ rfl) (balloc (Below.refl _ _) (.cells p 89));have t10:=Coder.keepC (hB 10 _ rfl) (balloc (Below.refl _ _) (.cells p 89));have t11:=Coder.keepC (hB 11 _ rfl) (balloc (Below.refl _ _) (.cells p 89));have t12:=Coder.keepC (hB 12 _ rfl) (balloc (Below.refl _ _) (.cells p 89));have t13:=Coder.keepC (hB 13 _ rfl) (balloc (Below.refl _ _) (.cells p 89));have t14:=Coder.keepC (hB 14 _ rfl) (balloc (Below.refl _ _) (.cells p 89));clear hB;have u0:=box_cells (w.alloc (.cells #[t,.int .u8 (s:Int),.int .i64 k,.int .i64 c,l,.slice ga gg.length gc,p.k,p.r,p.l,p.a.b,p.a.n,p.a.o,p.a.m,p.d,.slice wa ww.length wc] 92)) p 89 0 (.string ⟨p.k.toArray⟩) rfl;simp only[World.size_alloc] at u0;have u1:=box_cells (w.alloc (.cells #[t,.int .u8 (s:Int),.int .i64 k,.int .i64 c,l,.slice ga gg.length gc,p.k,p.r,p.l,p.a.b,p.a.n,p.a.o,p.a.m,p.d,.slice wa ww.length wc] 92)) p 89 1 (.int .u64 (p.r:Int)) rfl;simp only[World.size_alloc] at u1;have u2:=box_cells (w.alloc (.cells #[t,.int .u8 (s:Int),.int .i64 k,.int .i64 c,l,.slice ga gg.length gc,p.k,p.r,p.l,p.a.b,p.a.n,p.a.o,p.a.m,p.d,.slice wa ww.length wc] 92)) p 89 2 (.string ⟨p.l.toArray⟩) rfl;simp only[World.size_alloc] at u2;have u3:=box_cells (w.alloc (.cells #[t,.int .u8 (s:Int),.int .i64 k,.int .i64 c,l,.slice ga gg.length gc,p.k,p.r,p.l,p.a.b,p.a.n,p.a.o,p.a.m,p.d,.slice wa ww.length wc] 92)) p 89 3 (.string ⟨p.a.b.toArray⟩) rfl;simp only[World.size_alloc] at u3;have u4:=box_cells (w.alloc (.cells #[t,.int .u8 (s:Int),.int .i64 k,.int .i64 c,l,.slice ga gg.length gc,p.k,p.r,p.l,p.a.b,p.a.n,p.a.o,p.a.m,p.d,.slice wa ww.length wc] 92)) p 89 4 (.int .u64 (p.a.n:Int)) rfl;simp only[World.size_alloc] at u4;have u5:=box_cells (w.alloc (.cells #[t,.int .u8 (s:Int),.int .i64 k,.int .i64 c,l,.slice ga gg.length gc,p.k,p.r,p.l,p.a.b,p.a.n,p.a.o,p.a.m,p.d,.slice wa ww.length wc] 92)) p 89 5 (.string ⟨p.a.o.toArray⟩) rfl;simp only[World.size_alloc] at u5;have u6:=box_cells (w.alloc (.cells #[t,.int .u8 (s:Int),.int .i64 k,.int .i64 c,l,.slice ga gg.length gc,p.k,p.r,p.l,p.a.b,p.a.n,p.a.o,p.a.m,p.d,.slice wa ww.length wc] 92)) p 89 6 (.int .u64 (p.a.m:Int)) rfl;simp only[World.size_alloc] at u6;have u7:=box_cells (w.alloc (.cells #[t,.int .u8 (s:Int),.int .i64 k,.int .i64 c,l,.slice ga gg.length gc,p.k,p.r,p.l,p.a.b,p.a.n,p.a.o,p.a.m,p.d,.slice wa ww.length wc] 92)) p 89 7 (.bool p.d) rfl;simp only[World.size_alloc] at u7;obtain ⟨w0,hw0⟩:=nm ((w.alloc (.cells #[t,.int .u8 (s:Int),.int .i64 k,.int .i64 c,l,.slice ga gg.length gc,p.k,p.r,p.l,p.a.b,p.a.n,p.a.o,p.a.m,p.d,.slice wa ww.length wc] 92)).alloc (.cells p 89));rw[← hw0] at hb0 t0 t1 t2 t3 t4 t5 t6 t7 t8 t9 t10 t11 t12 t13 t14 u0 u1 u2 u3 u4 u5 u6 u7 ⊢;obtain ⟨bu,hbu⟩:=nm (w.heap.size+1);rw[← hbu] at u0 u1 u2 u3 u4 u5 u6 u7 ⊢;obtain ⟨bt,hbt⟩:=nm w.heap.size;rw[← hbt] at t0 t1 t2 t3 t4 t5 t6 t7 t8 t9 t10 t11 t12 t13 t14 ⊢;have hb:=hb0;clear hb0 hw0 hbt hbu t2 t3 t4 t5 t6 t7 t8 t9 t10 t11 t12 t13 t14;cases z
 rotate_left
 ·
  have HE:Hid (tv (p=Pl.zero∨(s=4∧BodyM p t))=true):=hid (tv_true (.inl (Z.out.2 (by simp))));go_wp2;go_ret;exact ⟨by rw[HE.out];rfl,hb⟩
 by_cases h1:4≤s∧s≤4;rotate_left
 ·
  have d1:(((s:Int)) == 4)=false:=bF;have d1n:(((s:Int)) != 4)=true:=by rw[bne,d1];rfl
  have HE:Hid (tv (p=Pl.zero∨(s=4∧BodyM p t))=false):=hid (tv_false fun f0=>f0.elim (fun h=>by have:=Z.out.1 h;cases this) fun f=>h1 (by have q:=f.1;omega));go_wp2;go_ret;exact ⟨by rw[HE.out];rfl,hb⟩
 have d1:(((s:Int)) == 4)=true:=bT;have d1n:(((s:Int)) != 4)=false:=by rw[bne,d1];rfl
 go_wp2_with fail
 refine cr (C1.out _) fun v1 k1=>?_;have hA:=kp k1 (aj10 t0 t1 u0 u1 u2 u3 u4 u5 u6 u7);clear t0 t1 u0 u1 u2 u3 u4 u5 u6 u7;obtain ⟨t0,t1,u0,u1,u2,u3,u4,u5,u6,u7⟩:=hA;replace hb:=bstep hb k1;clear k1;cases q1
 ·
  have HE:Hid (tv (p=Pl.zero∨(s=4∧BodyM p t))=false):=hid (tv_false fun f0=>f0.elim (fun h=>by have:=Z.out.1 h;cases this) fun f=>by have:=Q1.out.1 f.2.1;cases this);go_wp2;go_ret;exact ⟨by rw[HE.out];rfl,hb⟩
 go_wp2_with fail
 refine cr (C2.out _) fun v2 k2=>?_;have hA:=kp k2 (aj10 t0 t1 u0 u1 u2 u3 u4 u5 u6 u7);clear t0 t1 u0 u1 u2 u3 u4 u5 u6 u7;obtain ⟨t0,t1,u0,u1,u2,u3,u4,u5,u6,u7⟩:=hA;replace hb:=bstep hb k2;clear k2;cases q2
 ·
  have HE:Hid (tv (p=Pl.zero∨(s=4∧BodyM p t))=false):=hid (tv_false fun f0=>f0.elim (fun h=>by have:=Z.out.1 h;cases this) fun f=>by have:=Q2.out.1 f.2.2.1;cases this);go_wp2;go_ret;exact ⟨by rw[HE.out];rfl,hb⟩
 go_wp2_with fail
 refine cr (C3.out _) fun v3 k3=>?_;have hA:=kp k3 (aj10 t0 t1 u0 u1 u2 u3 u4 u5 u6 u7);clear t0 t1 u0 u1 u2 u3 u4 u5 u6 u7;obtain ⟨t0,t1,u0,u1,u2,u3,u4,u5,u6,u7⟩:=hA;replace hb:=bstep hb k3;clear k3;cases q3
 ·
  have HE:Hid (tv (p=Pl.zero∨(s=4∧BodyM p t))=false):=hid (tv_false fun f0=>f0.elim (fun h=>by have:=Z.out.1 h;cases this) fun f=>by have:=Q3.out.1 f.2.2.2.1;cases this);go_wp2;go_ret;exact ⟨by rw[HE.out];rfl,hb⟩
 cases y
 rotate_left
 ·
  obtain ⟨dd,hd⟩:=nm p.d;have HD:=hid hd;rw[← hd] at u7;clear hd;cases dd
  ·
   have HE:Hid (tv (p=Pl.zero∨(s=4∧BodyM p t))=true):=hid (tv_true (.inr ⟨by omega,⟨Q1.out.2 (by simp),Q2.out.2 (by simp),Q3.out.2 (by simp),by rw[if_pos (YZ.out.2 (by simp))];exact HD.out.symm⟩⟩));go_wp2;go_ret;exact ⟨by rw[HE.out];rfl,hb⟩
  have HE:Hid (tv (p=Pl.zero∨(s=4∧BodyM p t))=false):=hid (tv_false fun f0=>f0.elim (fun h=>by have:=Z.out.1 h;cases this) fun f=>by have q:=f.2.2.2.2;rw[if_pos (YZ.out.2 (by simp)),← HD.out] at q;cases q);go_wp2;go_ret;exact ⟨by rw[HE.out];rfl,hb⟩
 by_cases h5:p.a.b=t;rotate_left
 ·
  have d5:(p.a.b == t)=false:=by rw[beq_eq_false_iff_ne];exact h5
  have d5n:(p.a.b != t)=true:=by rw[bne,d5];rfl
  have HE:Hid (tv (p=Pl.zero∨(s=4∧BodyM p t))=false):=hid (tv_false fun f0=>f0.elim (fun h=>by have:=Z.out.1 h;cases this) fun f=>by have q:=f.2.2.2.2;rw[if_neg (fun h=>by have:=YZ.out.1 h;cases this)] at q;exact h5 q.1);go_wp2;go_ret;exact ⟨by rw[HE.out];rfl,hb⟩
 have d5:(p.a.b == t)=true:=by rw[beq_iff_eq];exact h5
 have d5n:(p.a.b != t)=false:=by rw[bne,d5];rfl
 have H5:=hid h5;clear h5;go_wp2_with fail
 refine cr (C4.out _) fun v4 k4=>?_;have hA:=kp k4 (aj10 t0 t1 u0 u1 u2 u3 u4 u5 u6 u7);clear t0 t1 u0 u1 u2 u3 u4 u5 u6 u7;obtain ⟨t0,t1,u0,u1,u2,u3,u4,u5,u6,u7⟩:=hA;replace hb:=bstep hb k4;clear k4;cases q4
 ·
  have HE:Hid (tv (p=Pl.zero∨(s=4∧BodyM p t))=false):=hid (tv_false fun f0=>f0.elim (fun h=>by have:=Z.out.1 h;cases this) fun f=>by have q:=f.2.2.2.2;rw[if_neg (fun h=>by have:=YZ.out.1 h;cases this)] at q;have:=Q4.out.1 q.2.1;cases this);go_wp2;go_ret;exact ⟨by rw[HE.out];rfl,hb⟩
 by_cases h6:p.a.m≤281474976710656;rotate_left
 ·
  have d6:=dF (p:=(p.a.m:Int)≤281474976710656);have d6g:=dF (p:=281474976710656≥(p.a.m:Int));have HE:Hid (tv (p=Pl.zero∨(s=4∧BodyM p t))=false):=hid (tv_false fun f0=>f0.elim (fun h=>by have:=Z.out.1 h;cases this) fun f=>by have q:=f.2.2.2.2;rw[if_neg (fun h=>by have:=YZ.out.1 h;cases this)] at q;have q3:=q.2.2.1;have q4:=q.2.2.2;omega);go_wp2;go_ret;exact ⟨by rw[HE.out];rfl,hb⟩
 have d6:=dT (p:=(p.a.m:Int)≤281474976710656);have d6g:=dT (p:=281474976710656≥(p.a.m:Int));have w6:IntKind.u64.wrap (281474976710656 - (p.a.m:Int))=281474976710656 - (p.a.m:Int):=by rw[IntKind.wrap_u64];omega
 by_cases h7:p.a.n+p.a.m≤281474976710656;rotate_left
 ·
  have d7:=dF (p:=(p.a.n:Int)≤281474976710656 - (p.a.m:Int));have d7g:=dF (p:=281474976710656 - (p.a.m:Int)≥(p.a.n:Int));have HE:Hid (tv (p=Pl.zero∨(s=4∧BodyM p t))=false):=hid (tv_false fun f0=>f0.elim (fun h=>by have:=Z.out.1 h;cases this) fun f=>by have q:=f.2.2.2.2;rw[if_neg (fun h=>by have:=YZ.out.1 h;cases this)] at q;have q3:=q.2.2.1;have q4:=q.2.2.2;omega);go_wp2;go_ret;exact ⟨by rw[HE.out];rfl,hb⟩
 have d7:=dT (p:=(p.a.n:Int)≤281474976710656 - (p.a.m:Int));have d7g:=dT (p:=281474976710656 - (p.a.m:Int)≥(p.a.n:Int));have HE:Hid (tv (p=Pl.zero∨(s=4∧BodyM p t))=true):=hid (tv_true (.inr ⟨by omega,⟨Q1.out.2 (by simp),Q2.out.2 (by simp),Q3.out.2 (by simp),by rw[if_neg (fun h=>by have:=YZ.out.1 h;cases this)];exact ⟨H5.out,Q4.out.2 (by simp),by omega,h7⟩⟩⟩));go_wp2;go_ret;exact ⟨by rw[HE.out];rfl,hb⟩
theorem refplan_any (p:Pl) (t:List UInt8) (w:World) (ok:p.Ok) (hp:t.length≤1048576) :
  CB 198 #[.agg p,t] w (tv (p=Pl.zero∨BodyM p t)):=by
 obtain ⟨q1,hq1⟩:=nm (under (parse t) (parse p.k));obtain ⟨q3,hq3⟩:=nm (tv (PathsM p.l));obtain ⟨q4,hq4⟩:=nm (under (parse t) (parse p.a.o));have Q1:Hid (UnderM t p.k↔q1=true):=hid (by rw[hq1];exact Iff.rfl);have Q3:Hid (PathsM p.l↔q3=true):=hid (tv_eq hq3);have Q4:Hid (UnderM t p.a.o↔q4=true):=hid (by rw[hq4];exact Iff.rfl);have C1:=hid (fun W=>qB hq1 (RefPath.under_any t p.k W (by omega)));have C3:=hid (fun W=>qB hq3 (refpaths_any p.l W ok.l));have C4:=hid (fun W=>qB hq4 (RefPath.under_any t p.a.o W (by omega)));obtain ⟨z,hz⟩:=nm (decide (p=Pl.zero));have Z:Hid (p=Pl.zero↔z=true):=hid (by rw[hz,decide_eq_true_eq]);obtain ⟨y,hy⟩:=nm (decide (p.a=Pr.zero));have YZ:Hid (p.a=Pr.zero↔y=true):=hid (by rw[hy,decide_eq_true_eq]);have EL:∀ W,(binOp .eql 89 (.agg p) (.agg #[.string ⟨#[]⟩,.int .u64 0,.string ⟨#[]⟩,.string ⟨#[]⟩,.int .u64 0,.string ⟨#[]⟩,.int .u64 0,.bool false])).run Tryz.prog W=.ok (.bool z) W:=by rw[hz];exact fun W=>eql_pl p Pl.zero W
 have ER:∀ W,(binOp .eql 87 (.agg p.a) (.agg #[.string ⟨#[]⟩,.int .u64 0,.string ⟨#[]⟩,.int .u64 0])).run Tryz.prog W=.ok (.bool y) W:=by rw[hy];exact fun W=>eql_pr p.a Pr.zero W
 clear hq1 hq3 hq4 hz hy;have HB:Hid (∀ A:Prop,(p=Pl.zero∨BodyM p t→A)→(p=Pl.zero∨BodyM p t→A)):=hid (fun _ h=>h);have OKM:=hid ok.m;have OKN:=hid ok.n;go_enter Tryz.func198,Tryz.ntmps198;go_upto_region 1 with (fail)
 have hb0:=balloc (Below.refl w.heap.size w) (.cells p 89);obtain ⟨u0,u1,u2,u3,u4,u5,u6,u7⟩:=al8 (bx w p 89);obtain ⟨w0,hw0⟩:=nm (w.alloc (.cells p 89));rw[← hw0] at hb0 u0 u1 u2 u3 u4 u5 u6 u7 ⊢;obtain ⟨bu,hbu⟩:=nm w.heap.size;rw[← hbu] at u0 u1 u2 u3 u4 u5 u6 u7 ⊢;have hb:=hb0;clear hb0 hw0 hbu;cases z
 rotate_left
 ·
  have HE:Hid (tv (p=Pl.zero∨BodyM p t)=true):=hid (tv_true (.inl (Z.out.2 (by simp))));go_wp2;go_ret;exact ⟨by rw[HE.out];rfl,hb⟩
 go_wp2_with fail
 refine cr (C1.out _) fun v5 k5=>?_;have hA:=kp k5 (aj8 u0 u1 u2 u3 u4 u5 u6 u7);clear u0 u1 u2 u3 u4 u5 u6 u7;obtain ⟨u0,u1,u2,u3,u4,u5,u6,u7⟩:=hA;replace hb:=bstep hb k5;clear k5;cases q1
 ·
  have HE:Hid (tv (p=Pl.zero∨BodyM p t)=false):=hid (tv_false fun f0=>f0.elim (fun h=>by have:=Z.out.1 h;cases this) fun f=>by have:=Q1.out.1 f.1;cases this);go_wp2;go_ret;exact ⟨by rw[HE.out];rfl,hb⟩
 by_cases h2:1≤p.r;rotate_left
 ·
  have d2:=dT (p:=(p.r:Int)<1);have d2g:=dT (p:=1 > (p.r:Int));have HE:Hid (tv (p=Pl.zero∨BodyM p t)=false):=hid (tv_false fun f0=>f0.elim (fun h=>by have:=Z.out.1 h;cases this) fun f=>h2 f.2.1.1);go_wp2;go_ret;exact ⟨by rw[HE.out];rfl,hb⟩
 have d2:=dF (p:=(p.r:Int)<1);have d2g:=dF (p:=1 > (p.r:Int));by_cases h3:p.r≤281474976710656;rotate_left
 ·
  have d3:=dT (p:=281474976710656<(p.r:Int));have d3g:=dT (p:=(p.r:Int) > 281474976710656);have HE:Hid (tv (p=Pl.zero∨BodyM p t)=false):=hid (tv_false fun f0=>f0.elim (fun h=>by have:=Z.out.1 h;cases this) fun f=>h3 f.2.1.2);go_wp2;go_ret;exact ⟨by rw[HE.out];rfl,hb⟩
 have d3:=dF (p:=281474976710656<(p.r:Int));have d3g:=dF (p:=(p.r:Int) > 281474976710656);go_wp2_with fail
 refine cr (C3.out _) fun v6 k6=>?_;have hA:=kp k6 (aj8 u0 u1 u2 u3 u4 u5 u6 u7);clear u0 u1 u2 u3 u4 u5 u6 u7;obtain ⟨u0,u1,u2,u3,u4,u5,u6,u7⟩:=hA;replace hb:=bstep hb k6;clear k6;cases q3
 ·
  have HE:Hid (tv (p=Pl.zero∨BodyM p t)=false):=hid (tv_false fun f0=>f0.elim (fun h=>by have:=Z.out.1 h;cases this) fun f=>by have:=Q3.out.1 f.2.2.1;cases this);go_wp2;go_ret;exact ⟨by rw[HE.out];rfl,hb⟩
 cases y
 rotate_left
 ·
  obtain ⟨dd,hd⟩:=nm p.d;have HD:=hid hd;rw[← hd] at u7;clear hd;cases dd
  ·
   have HE:Hid (tv (p=Pl.zero∨BodyM p t)=true):=hid (tv_true (.inr ⟨Q1.out.2 (by simp),⟨h2,h3⟩,Q3.out.2 (by simp),by rw[if_pos (YZ.out.2 (by simp))];exact HD.out.symm⟩));go_wp2;go_ret;exact ⟨by rw[HE.out];rfl,hb⟩
  have HE:Hid (tv (p=Pl.zero∨BodyM p t)=false):=hid (tv_false fun f0=>f0.elim (fun h=>by have:=Z.out.1 h;cases this) fun f=>by have q:=f.2.2.2;rw[if_pos (YZ.out.2 (by simp)),← HD.out] at q;cases q);go_wp2;go_ret;exact ⟨by rw[HE.out];rfl,hb⟩
 go_wp2_with fail
 refine cr (C4.out _) fun v7 k7=>?_;have hA:=kp k7 (aj8 u0 u1 u2 u3 u4 u5 u6 u7);clear u0 u1 u2 u3 u4 u5 u6 u7;obtain ⟨u0,u1,u2,u3,u4,u5,u6,u7⟩:=hA;replace hb:=bstep hb k7;clear k7;cases q4
 ·
  have HE:Hid (tv (p=Pl.zero∨BodyM p t)=false):=hid (tv_false fun f0=>f0.elim (fun h=>by have:=Z.out.1 h;cases this) fun f=>by have q:=f.2.2.2;rw[if_neg (fun h=>by have:=YZ.out.1 h;cases this)] at q;have:=Q4.out.1 q.2.1;cases this);go_wp2;go_ret;exact ⟨by rw[HE.out];rfl,hb⟩
 by_cases h5:p.a.b=t;rotate_left
 ·
  have d5:(p.a.b == t)=false:=by rw[beq_eq_false_iff_ne];exact h5
  have d5n:(p.a.b != t)=true:=by rw[bne,d5];rfl
  have HE:Hid (tv (p=Pl.zero∨BodyM p t)=false):=hid (tv_false fun f0=>f0.elim (fun h=>by have:=Z.out.1 h;cases this) fun f=>by have q:=f.2.2.2;rw[if_neg (fun h=>by have:=YZ.out.1 h;cases this)] at q;exact h5 q.1);go_wp2;go_ret;exact ⟨by rw[HE.out];rfl,hb⟩
 have d5:(p.a.b == t)=true:=by rw[beq_iff_eq];exact h5
 have d5n:(p.a.b != t)=false:=by rw[bne,d5];rfl
 have H5:=hid h5;clear h5;by_cases h6:p.a.n≤281474976710656;rotate_left
 ·
  have d6:=dF (p:=(p.a.n:Int)≤281474976710656);have d6g:=dF (p:=281474976710656≥(p.a.n:Int));have HE:Hid (tv (p=Pl.zero∨BodyM p t)=false):=hid (tv_false fun f0=>f0.elim (fun h=>by have:=Z.out.1 h;cases this) fun f=>by have q:=f.2.2.2;rw[if_neg (fun h=>by have:=YZ.out.1 h;cases this)] at q;have q3:=q.2.2.1;have q4:=q.2.2.2;omega);go_wp2;go_ret;exact ⟨by rw[HE.out];rfl,hb⟩
 have d6:=dT (p:=(p.a.n:Int)≤281474976710656);have d6g:=dT (p:=281474976710656≥(p.a.n:Int));have w6:IntKind.u64.wrap (281474976710656 - (p.a.n:Int))=281474976710656 - (p.a.n:Int):=by rw[IntKind.wrap_u64];omega
 by_cases h7:p.a.n+p.a.m≤281474976710656;rotate_left
 ·
  have d7:=dF (p:=(p.a.m:Int)≤281474976710656 - (p.a.n:Int));have d7g:=dF (p:=281474976710656 - (p.a.n:Int)≥(p.a.m:Int));have HE:Hid (tv (p=Pl.zero∨BodyM p t)=false):=hid (tv_false fun f0=>f0.elim (fun h=>by have:=Z.out.1 h;cases this) fun f=>by have q:=f.2.2.2;rw[if_neg (fun h=>by have:=YZ.out.1 h;cases this)] at q;have q3:=q.2.2.1;have q4:=q.2.2.2;omega);go_wp2;go_ret;exact ⟨by rw[HE.out];rfl,hb⟩
 have d7:=dT (p:=(p.a.m:Int)≤281474976710656 - (p.a.n:Int));have d7g:=dT (p:=281474976710656 - (p.a.n:Int)≥(p.a.m:Int));have HE:Hid (tv (p=Pl.zero∨BodyM p t)=true):=hid (tv_true (.inr ⟨Q1.out.2 (by simp),⟨h2,h3⟩,Q3.out.2 (by simp),by rw[if_neg (fun h=>by have:=YZ.out.1 h;cases this)];exact ⟨H5.out,Q4.out.2 (by simp),by omega,h7⟩⟩));go_wp2;go_ret;exact ⟨by rw[HE.out];rfl,hb⟩
end Mem
namespace RefWrite
open RowKit YtnpjkmomllkhpaaGreatDoor.Mark Num Wire Coder Mem
theorem rawMembers_any (J:List RM) (a:Option Addr) (c:Nat) (w:World) (hJ:LiesM w a J) (hn:J.length≤1048576) (ok:∀ x ∈ J,WrM x) (hs:(lst fM J).length≤70368744177664) :
  CB 57 #[.slice a J.length c] w (lst fM J):=by
 have hb:=Below.refl w.heap.size w;have LJ:=hid hJ;have OK:=hid ok;have HN:=hid hn;have HS:=hid hs;obtain ⟨p,hp⟩:=nm (upL J.length);have R0:Hid (cat [J.length]=p):=hid (by rw[hp];simp[cat]);have HP0:Hid (p=acc fM J 0):=hid (by rw[hp,acc_zero]);have w8:IntKind.u64.wrap (J.length:Int)=(J.length:Int):=by rw[IntKind.wrap_u64];omega
 clear hJ ok hs hp;go_enter Tryz.func57,Tryz.ntmps57;go_wp2_with fail
 have N0:=nats_here [J.length] (by intro y hy;simp at hy;omega) (C:=#[J.length]) (t:=25) rfl 1 rfl (Below.refl 0 (w.alloc (.cells #[J.length] 25)));refine cr (nums_w N0 (by omega) p R0.out) fun v1 k1=>?_;replace hb:=bstep (balloc hb _) k1;clear k1 N0;go_wp2_with fail
 go_loopw [3,4] (fun sv iv wr=>∃ (q:Nat) (s:List UInt8),q≤J.length∧sv=.string ⟨s.toArray⟩∧iv=.int .i64 q∧Hid (s=acc fM J q)∧Below w.heap.size w wr) (fun _ iv _=>J.length - (intOf iv).toNat)
 case atStart=>exact ⟨0,p,by omega,rfl,rfl,HP0,hb⟩
 clear hb HP0 w8;obtain ⟨q,s,hq,rfl,rfl,HA,hb⟩:=hrel;by_cases hlt:q<J.length;rotate_left
 ·have d1:decide ((q:Int)<(J.length:Int))=false:=dF;have HE:Hid (s=lst fM J):=hid (by rw[HA.out,acc_all _ _ (by omega)]);clear HA;go_wp2;go_ret;exact ⟨by rw[← HE.out];rfl,hb⟩
 obtain ⟨b,off,rfl,hcell⟩:=(LJ.out.below hb).1.2 (by omega);have d1:=dT (p:=(q:Int)<(J.length:Int));have j1:(0:Int)≤(q:Int):=by omega
 have j2:(q:Int)<(J.length:Int):=by omega
 obtain ⟨c0,c1,c2,c3,c4,c5,c6,c7,c8,c9,c10,c11,c12,c13,c14⟩:=cl15 (off+q*15) (hcell q hlt);have HT:=hid (acc_step fM hlt);have hal:(acc fM J (q+1)).length≤70368744177664:=Nat.le_trans (acc_le fM J (q+1)) HS.out;rw[HT.out,List.length_append] at hal;have HIN:Hid (InnerM w J[q]):=hid (LJ.out.2 _ (List.getElem_mem hlt));have OX:=OK.out _ (List.getElem_mem hlt);obtain ⟨x,hx⟩:=nm J[q];rw[← hx] at c0 c1 c2 c3 c4 c5 c6 c7 c8 c9 c10 c11 c12 c13 c14 HT HIN OX hal;clear hx hcell;have OO:=OX.ok;have k0:=OX.k;have c0':=OX.c;have GG:=OX.g;have h1:=OO.p;have h2:=OO.s;have h3:=OO.k;have h4:=OO.c;have h5:=OO.l;have h6:=OO.g;have h7:=OO.w;have OQ:=OO.q;have OWm:=OO.wm;clear OX OO;obtain ⟨t,ss,kk,cc,ll,ga,gc,gg,qq,wa,wc,ww⟩:=x;simp only at c0 c1 c2 c3 c4 c5 c6 c7 c8 c9 c10 c11 c12 c13 c14 k0 c0' GG h1 h2 h3 h4 h5 h6 h7 OQ OWm;obtain ⟨kk,rfl⟩:=Int.eq_ofNat_of_zero_le k0;obtain ⟨cc,rfl⟩:=Int.eq_ofNat_of_zero_le c0';have w0:IntKind.u64.wrap (ss:Int)=(ss:Int):=by rw[IntKind.wrap_u64];omega
 have w1:IntKind.u64.wrap (kk:Int)=(kk:Int):=by rw[IntKind.wrap_u64];omega
 have w2:IntKind.u64.wrap (cc:Int)=(cc:Int):=by rw[IntKind.wrap_u64];omega
 have w3:IntKind.u64.wrap (gg.length:Int)=(gg.length:Int):=by rw[IntKind.wrap_u64];omega
 have w4:IntKind.u64.wrap (ww.length:Int)=(ww.length:Int):=by rw[IntKind.wrap_u64];omega
 have hfl:(fM ⟨t,ss,(kk:Int),(cc:Int),ll,ga,gc,gg,qq,wa,wc,ww⟩).length=(tx t).length+((upL ss).length+(upL kk).length+(upL cc).length+(upL ll).length)+(lst snb gg).length+(plb qq).length+(lst wdb ww).length:=by
  unfold fM mbb RM.m;simp only[List.length_append];rfl
 have hsl:s.length=(acc fM J q).length:=by rw[HA.out]
 have HB:Hid (s.length+((tx t).length+((upL ss).length+(upL kk).length+(upL cc).length+(upL ll).length)+(lst snb gg).length+(plb qq).length+(lst wdb ww).length)≤70368744177664):=hid (by rw[← hfl,hsl];exact hal);have hsb:s.length≤70368744177664:=by have:=HB.out;omega
 have zs:=Str.size_mk s;have HLT:=hid hlt;have HG:=hid GG;have HWm:=hid OWm;have HOQ:=hid OQ;clear hfl hsl hal hlt GG OWm OQ;go_upto_region 6 with (fail)
 clear c0 c1 c2 c3 c4 c5 c6 c7 c8 c9 c10 c11 c12 c13 c14;have BXs:=hid (Bx.new (wr) [t,.int .u8 (ss:Int),.int .i64 (kk:Int),.int .i64 (cc:Int),ll,.slice ga gg.length gc,qq.k,qq.r,qq.l,qq.a.b,qq.a.n,qq.a.o,qq.a.m,qq.d,.slice wa ww.length wc] 92);replace hb:=bstep hb (balloc (Below.refl _ _) (.cells #[t,.int .u8 (ss:Int),.int .i64 (kk:Int),.int .i64 (cc:Int),ll,.slice ga gg.length gc,qq.k,qq.r,qq.l,qq.a.b,qq.a.n,qq.a.o,qq.a.m,qq.d,.slice wa ww.length wc] 92));obtain ⟨wd,hwd⟩:=nm ((wr).alloc (.cells #[t,.int .u8 (ss:Int),.int .i64 (kk:Int),.int .i64 (cc:Int),ll,.slice ga gg.length gc,qq.k,qq.r,qq.l,qq.a.b,qq.a.n,qq.a.o,qq.a.m,qq.d,.slice wa ww.length wc] 92));have hqwd:(wr).alloc (.cells [.string ⟨t.toArray⟩,.int .u8 (ss:Int),.int .i64 (kk:Int),.int .i64 (cc:Int),.int .u64 (ll:Int),.slice ga gg.length gc,.string ⟨qq.k.toArray⟩,.int .u64 (qq.r:Int),.string ⟨qq.l.toArray⟩,.string ⟨qq.a.b.toArray⟩,.int .u64 (qq.a.n:Int),.string ⟨qq.a.o.toArray⟩,.int .u64 (qq.a.m:Int),.bool qq.d,.slice wa ww.length wc].toArray 92)=wd:=hwd.symm;rw[hqwd] at BXs;rw[← hwd] at hb  ⊢;obtain ⟨bs,hbs⟩:=nm ((wr).heap.size);rw[← hbs] at BXs ⊢;clear hqwd hwd hbs;obtain ⟨s0,s1,s2,s3,s4,s5⟩:=al6 BXs.out;obtain ⟨p0,hp0,bp0,Rp0,zp0⟩:=tq t;obtain ⟨Cp0,hCp0,lCp0,aCp0,zCp0,nCp0,mCp0⟩:=apd s p0 (by omega);obtain ⟨p1,hp1⟩:=nm (upL ss++upL kk++upL cc++upL ll++upL gg.length);have bp1:p1.length≤50:=by rw[hp1];have:=up_len ss;have:=up_len kk;have:=up_len cc;have:=up_len ll;have:=up_len gg.length;simp only[List.length_append];omega
 have Rp1:Hid (cat [ss,kk,cc,ll,gg.length]=p1):=hid (by rw[hp1];simp[cat]);have zp1:=Str.size_mk p1;obtain ⟨Cp1,hCp1,lCp1,aCp1,zCp1,nCp1,mCp1⟩:=apd Cp0 p1 (by omega);obtain ⟨H1,hH1⟩:=nm (s++(tx t++(upL ss++upL kk++upL cc++upL ll)));have HH1:=hid hH1;have HA1:Hid (Cp1=H1++acc snb gg 0):=hid (by rw[hH1,acc_zero,hCp1,hCp0,hp0,hp1];simp only[List.append_assoc]);have HL1:Hid (H1.length=s.length+(tx t).length+((upL ss).length+(upL kk).length+(upL cc).length+(upL ll).length)):=hid (by rw[hH1];simp only[List.length_append];omega);clear hH1;replace hCp0:=hid hCp0;replace lCp0:=hid lCp0;replace hCp1:=hid hCp1;replace lCp1:=hid lCp1;clear hp0 hp1;refine rh (aj8 hb BXs.out s0 s1 s2 s3 s4 s5) fun wd gH=>?_;refine tk [0,1,2,6,7,8,9,10,11,12,13,14,15,16,17,18,19,20] ?_;refine Rk.go (fun d=>match d with | 28=>.txt [t] 1 | 29=>.str p0 | 30=>.str Cp0 | 46=>.nat [ss,kk,cc,ll,gg.length] 5 | 47=>.str p1 | 48=>.str Cp1 | 3=>.str Cp1 | _=>.any) [28,29,30,46,47,48,3] [3,4,5,21,22,23,24] gH ?_ (fun f wz gH hR=>?_)
 ·
  refine rlT ?_;refine rrT 28 Rp0 ?_;refine rcR 29 ?_;refine rlN ?_;refine rrN 46 Rp1 ?_;refine rcc 30 47 ?_;refine rcR 48 ?_;exact Rely.Steps.nil
 have f3:=Rk.e hR 3 24;simp only[Rely.fillA,Rely.fill,List.setIfInBounds_toArray,List.set_cons_zero,List.set_cons_succ,f3];refine NoPanic.normal ?_;clear hb BXs s0 s1 s2 s3 s4 s5 hR f3;obtain ⟨hb,BXs,s0,s1,s2,s3,s4,s5⟩:=gH;replace BXs:=hid BXs;clear s0 s1 s2 s3 s4 s5;as_aux_lemma =>
  go_wp2_with fail
  go_loopw [3,6] (fun sv iv wr=>∃ (k:Nat) (s:List UInt8),k≤gg.length∧sv=.string ⟨s.toArray⟩∧iv=.int .i64 k∧Hid (s=H1++acc snb gg k)∧Below w.heap.size w wr∧Hid (Bx wr bs [t,.int .u8 (ss:Int),.int .i64 (kk:Int),.int .i64 (cc:Int),ll,.slice ga gg.length gc,qq.k,qq.r,qq.l,qq.a.b,qq.a.n,qq.a.o,qq.a.m,qq.d,.slice wa ww.length wc])) (fun _ iv _=>gg.length - (intOf iv).toNat)
  case atStart=>exact ⟨0,Cp1,by omega,rfl,rfl,HA1,hb,BXs⟩
  clear hb BXs HA1 aCp0 zCp0 nCp0 mCp0 aCp1 zCp1 nCp1 mCp1 bp0 zp0 Rp0 bp1 zp1 Rp1;obtain ⟨k,s1,hk,rfl,rfl,HA1,hb,BXs⟩:=hrel;have s5:=BXs.out 5 _ rfl;by_cases hlt:k<gg.length;rotate_left
  ·have d2:decide ((k:Int)<(gg.length:Int))=false:=dF;have HE1:Hid (s1=H1++lst snb gg):=hid (by rw[HA1.out,acc_all _ _ (by omega)]);clear HA1 hk;have hsl1:s1.length=H1.length+(lst snb gg).length:=by rw[HE1.out,List.length_append]
   have hsb1:s1.length+(plb qq).length+(lst wdb ww).length≤70368744177664:=by have:=HB.out;have:=HL1.out;omega
   have zs1:=Str.size_mk s1;have q1:=HOQ.out.k;have q2:=HOQ.out.r;have q3:=HOQ.out.l;have q4:=HOQ.out.b;have q5:=HOQ.out.n;have q6:=HOQ.out.o;have q7:=HOQ.out.m;clear hsl1;obtain ⟨-,-,-,-,-,-,s6,s7,s8,s9,s10,s11,s12,s13⟩:=al14 BXs.out;go_upto_region 12 with (fail)
   clear s5 s6 s7 s8 s9 s10 s11 s12 s13;have BXu:=hid (Bx.new (wr) qq 89);replace BXs:=hid ((BXs.out).below (balloc (Below.refl _ _) (.cells qq 89)));replace hb:=bstep hb (balloc (Below.refl _ _) (.cells qq 89));obtain ⟨we,hwe⟩:=nm ((wr).alloc (.cells qq 89));have hqwe:(wr).alloc (.cells [.string ⟨qq.k.toArray⟩,.int .u64 (qq.r:Int),.string ⟨qq.l.toArray⟩,.string ⟨qq.a.b.toArray⟩,.int .u64 (qq.a.n:Int),.string ⟨qq.a.o.toArray⟩,.int .u64 (qq.a.m:Int),.bool qq.d].toArray 89)=we:=hwe.symm;rw[hqwe] at BXu;rw[← hwe] at hb BXs ⊢;obtain ⟨bu,hbu⟩:=nm ((wr).heap.size);rw[← hbu] at BXu ⊢;clear hqwe hwe hbu;obtain ⟨u0,u1,u2,u3,u4,u5,u6,u7⟩:=al8 BXu.out;have s14:=BXs.out 14 _ rfl;obtain ⟨r0,hr0,br0,Rr0,zr0⟩:=tq qq.k;obtain ⟨Cr0,hCr0,lCr0,aCr0,zCr0,nCr0,mCr0⟩:=apd s1 r0 (by omega);obtain ⟨r1,hr1⟩:=nm (upL qq.r);have br1:r1.length≤10:=by rw[hr1];have:=up_len qq.r;omega
   have Rr1:Hid (cat [qq.r]=r1):=hid (by rw[hr1];simp[cat]);have zr1:=Str.size_mk r1;obtain ⟨Cr1,hCr1,lCr1,aCr1,zCr1,nCr1,mCr1⟩:=apd Cr0 r1 (by omega);obtain ⟨r2,hr2⟩:=nm (tx qq.l++tx qq.a.b);have br2:r2.length≤2097172:=by rw[hr2];have:=tx_len qq.l;have:=tx_len qq.a.b;rw[List.length_append];omega
   have Rr2:Hid ([qq.l,qq.a.b].flatMap tx=r2):=hid (by rw[hr2];simp);have zr2:=Str.size_mk r2;obtain ⟨Cr2,hCr2,lCr2,aCr2,zCr2,nCr2,mCr2⟩:=apd Cr1 r2 (by omega);obtain ⟨r3,hr3⟩:=nm (upL qq.a.n);have br3:r3.length≤10:=by rw[hr3];have:=up_len qq.a.n;omega
   have Rr3:Hid (cat [qq.a.n]=r3):=hid (by rw[hr3];simp[cat]);have zr3:=Str.size_mk r3;obtain ⟨Cr3,hCr3,lCr3,aCr3,zCr3,nCr3,mCr3⟩:=apd Cr2 r3 (by omega);obtain ⟨r4,hr4,br4,Rr4,zr4⟩:=tq qq.a.o;obtain ⟨Cr4,hCr4,lCr4,aCr4,zCr4,nCr4,mCr4⟩:=apd Cr3 r4 (by omega);obtain ⟨r5,hr5⟩:=nm (upL qq.a.m);have br5:r5.length≤10:=by rw[hr5];have:=up_len qq.a.m;omega
   have Rr5:Hid (cat [qq.a.m]=r5):=hid (by rw[hr5];simp[cat]);have zr5:=Str.size_mk r5;obtain ⟨Cr5,hCr5,lCr5,aCr5,zCr5,nCr5,mCr5⟩:=apd Cr4 r5 (by omega);obtain ⟨r6,hr6⟩:=nm (tb qq.d);have br6:r6.length≤1:=by rw[hr6];simp[tb]
   have Rr6:Hid (tb qq.d=r6):=hid hr6.symm;have zr6:=Str.size_mk r6;obtain ⟨Cr6,hCr6,lCr6,aCr6,zCr6,nCr6,mCr6⟩:=apd Cr5 r6 (by omega);obtain ⟨r7,hr7⟩:=nm (upL ww.length);have br7:r7.length≤10:=by rw[hr7];have:=up_len ww.length;omega
   have Rr7:Hid (cat [ww.length]=r7):=hid (by rw[hr7];simp[cat]);have zr7:=Str.size_mk r7;obtain ⟨Cr7,hCr7,lCr7,aCr7,zCr7,nCr7,mCr7⟩:=apd Cr6 r7 (by omega);obtain ⟨H2,hH2⟩:=nm (s1++plb qq);have HH2:=hid hH2;have HA1:Hid (Cr7=H2++acc wdb ww 0):=hid (by rw[hH2,acc_zero,hCr7,hCr6,hCr5,hCr4,hCr3,hCr2,hCr1,hCr0,hr0,hr1,hr2,hr3,hr4,hr5,hr6,hr7];unfold plb prb;simp only[List.append_assoc]);have HL2:Hid (H2.length=s1.length+(plb qq).length):=hid (by rw[hH2,List.length_append]);clear hH2;replace hCr0:=hid hCr0;replace lCr0:=hid lCr0;replace hCr1:=hid hCr1;replace lCr1:=hid lCr1;replace hCr2:=hid hCr2;replace lCr2:=hid lCr2;replace hCr3:=hid hCr3;replace lCr3:=hid lCr3;replace hCr4:=hid hCr4;replace lCr4:=hid lCr4;replace hCr5:=hid hCr5;replace lCr5:=hid lCr5;replace hCr6:=hid hCr6;replace lCr6:=hid lCr6;replace hCr7:=hid hCr7;replace lCr7:=hid lCr7;clear hr0 hr1 hr2 hr3 hr4 hr5 hr6 hr7;have HSB:=hid hsb1;clear hsb1;refine rh (aj12 hb BXs.out BXu.out u0 u1 u2 u3 u4 u5 u6 u7 s14) fun wd gH=>?_;refine tk [0,1,2,6,7,11,12,13,14,15,19,20,21,25,26,27,31,32,33,37,38,41,42,43,44] ?_;refine Rk.go (fun d=>match d with | 79=>.txt [qq.k] 1 | 80=>.str r0 | 81=>.str Cr0 | 84=>.nat [qq.r] 1 | 85=>.str r1 | 86=>.str Cr1 | 92=>.txt [qq.l,qq.a.b] 2 | 93=>.str r2 | 94=>.str Cr2 | 98=>.nat [qq.a.n] 1 | 99=>.str r3 | 100=>.str Cr3 | 104=>.txt [qq.a.o] 1 | 105=>.str r4 | 106=>.str Cr4 | 110=>.nat [qq.a.m] 1 | 111=>.str r5 | 112=>.str Cr5 | 115=>.str r6 | 116=>.str Cr6 | 121=>.nat [ww.length] 1 | 122=>.str r7 | 123=>.str Cr7 | 3=>.str Cr7 | _=>.any) [79,80,81,84,85,86,92,93,94,98,99,100,104,105,106,110,111,112,115,116,121,122,123,3] [3,4,5,8,9,10,16,17,18,22,23,24,28,29,30,34,35,36,39,40,45,46,47,48] gH ?_ (fun f wz gH hR=>?_)
   ·
    refine rlT ?_;refine rrT 79 Rr0 ?_;refine rcR 80 ?_;refine rlN ?_;refine rrN 84 Rr1 ?_;refine rcc 81 85 ?_;refine rlT ?_;refine rrT 92 Rr2 ?_;refine rcc 86 93 ?_;refine rlN ?_;refine rrN 98 Rr3 ?_;refine rcc 94 99 ?_;refine rlT ?_;refine rrT 104 Rr4 ?_;refine rcc 100 105 ?_;refine rlN ?_;refine rrN 110 Rr5 ?_;refine rcc 106 111 ?_;refine rrB Rr6 ?_;refine rcc 112 115 ?_;refine rlN ?_;refine rrN 121 Rr7 ?_;refine rcc 116 122 ?_;refine rcR 123 ?_;exact Rely.Steps.nil
   have f3:=Rk.e hR 3 48;simp only[Rely.fillA,Rely.fill,List.setIfInBounds_toArray,List.set_cons_zero,List.set_cons_succ,f3];refine NoPanic.normal ?_;clear hb BXs BXu u0 u1 u2 u3 u4 u5 u6 u7 s14 hR f3;obtain ⟨hb,BXs,BXu,u0,u1,u2,u3,u4,u5,u6,u7,s14⟩:=gH;replace BXs:=hid BXs;replace BXu:=hid BXu;as_aux_lemma =>
    clear u0 u1 u2 u3 u4 u5 u6 u7 s14 BXu;go_wp2_with fail
    go_loopw [3,8] (fun sv iv wr=>∃ (k:Nat) (s:List UInt8),k≤ww.length∧sv=.string ⟨s.toArray⟩∧iv=.int .i64 k∧Hid (s=H2++acc wdb ww k)∧Below w.heap.size w wr∧Hid (Bx wr bs [t,.int .u8 (ss:Int),.int .i64 (kk:Int),.int .i64 (cc:Int),ll,.slice ga gg.length gc,qq.k,qq.r,qq.l,qq.a.b,qq.a.n,qq.a.o,qq.a.m,qq.d,.slice wa ww.length wc])) (fun _ iv _=>ww.length - (intOf iv).toNat)
    case atStart=>exact ⟨0,Cr7,by omega,rfl,rfl,HA1,hb,BXs⟩
    clear hb BXs HA1 aCr0 zCr0 nCr0 mCr0 aCr1 zCr1 nCr1 mCr1 aCr2 zCr2 nCr2 mCr2 aCr3 zCr3 nCr3 mCr3 aCr4 zCr4 nCr4 mCr4 aCr5 zCr5 nCr5 mCr5 aCr6 zCr6 nCr6 mCr6 aCr7 zCr7 nCr7 mCr7 br0 zr0 Rr0 br1 zr1 Rr1 br2 zr2 Rr2 br3 zr3 Rr3 br4 zr4 Rr4 br5 zr5 Rr5 br6 zr6 Rr6 br7 zr7 Rr7 q1 q2 q3 q4 q5 q6 q7;obtain ⟨k,s2,hk,rfl,rfl,HA1,hb,BXs⟩:=hrel;have s14:=BXs.out 14 _ rfl;by_cases hlt:k<ww.length;rotate_left
    ·have d3:decide ((k:Int)<(ww.length:Int))=false:=dF;have HE2:Hid (s2=acc fM J (q+1)):=hid (by rw[HT.out,HA1.out,acc_all _ _ (by omega),HH2.out,HE1.out,HH1.out,HA.out];unfold fM mbb RM.m;simp only[List.append_assoc];rfl);have hB1:=HLT.out;have hB2:=HN.out;clear HA1;go_wp2;go_roundw
     ·exact ⟨q+1,s2,by have:=HLT.out;omega,rfl,by go_num,HE2,hb⟩
     have:=HLT.out;simp[intOf];omega
    obtain ⟨b2,o2,rfl,hcell⟩:=(HIN.out.w.below hb).2 (by show 0<ww.length;omega);have d3:=dT (p:=(k:Int)<(ww.length:Int));have i1:(0:Int)≤(k:Int):=by omega
    have i2:(k:Int)<(ww.length:Int):=by omega
    obtain ⟨e0,e1,e2,e3,e4,e5,e6⟩:=cl7 (o2+k*7) (hcell k hlt);have HT2:=hid (acc_step wdb hlt);have ow:=HWm.out _ (List.getElem_mem hlt);have hle:=Nat.le_trans (Nat.le_of_eq (congrArg List.length HT2.out).symm) (acc_le wdb ww (k+1));rw[List.length_append] at hle;obtain ⟨m,hm⟩:=nm ww[k];rw[← hm] at e0 e1 e2 e3 e4 e5 e6 HT2 ow hle;have y1:=ow.o;have y2:=ow.h;have y3:=ow.k;have y4:=ow.r;have y5:=ow.c;have hsl2:s2.length=H2.length+(acc wdb ww k).length:=by rw[HA1.out,List.length_append]
    have hsb2:s2.length≤70368744177664:=by have:=HSB.out;have:=HL2.out;omega
    have zs2:=Str.size_mk s2;have HLT2:=hid hlt;clear hm hcell hle hsl2 hlt hk ow;go_upto_region 17 with (fail)
    clear s14 e0 e1 e2 e3 e4 e5 e6;have BXm:=hid (Bx.new (wr) m 94);replace BXs:=hid ((BXs.out).below (balloc (Below.refl _ _) (.cells m 94)));replace hb:=bstep hb (balloc (Below.refl _ _) (.cells m 94));obtain ⟨wf,hwf⟩:=nm ((wr).alloc (.cells m 94));have hqwf:(wr).alloc (.cells [.string ⟨m.o.toArray⟩,.int .u64 (m.h:Int),.string ⟨m.k.toArray⟩,.int .u64 (m.r:Int),.bool m.g,.int .u64 (m.c:Int),.bool m.p].toArray 94)=wf:=hwf.symm;rw[hqwf] at BXm;rw[← hwf] at hb BXs ⊢;obtain ⟨bm,hbm⟩:=nm ((wr).heap.size);rw[← hbm] at BXm ⊢;clear hqwf hwf hbm;obtain ⟨m0,m1,m2,m3,m4,m5,m6⟩:=al7 BXm.out;obtain ⟨y0,hy0,by0,Ry0,zy0⟩:=tq m.o;obtain ⟨Cy0,hCy0,lCy0,aCy0,zCy0,nCy0,mCy0⟩:=apd s2 y0 (by omega);obtain ⟨y1,hy1⟩:=nm (upL m.h);have by1:y1.length≤10:=by rw[hy1];have:=up_len m.h;omega
    have Ry1:Hid (cat [m.h]=y1):=hid (by rw[hy1];simp[cat]);have zy1:=Str.size_mk y1;obtain ⟨Cy1,hCy1,lCy1,aCy1,zCy1,nCy1,mCy1⟩:=apd Cy0 y1 (by omega);obtain ⟨y2,hy2,by2,Ry2,zy2⟩:=tq m.k;obtain ⟨Cy2,hCy2,lCy2,aCy2,zCy2,nCy2,mCy2⟩:=apd Cy1 y2 (by omega);obtain ⟨y3,hy3⟩:=nm (upL m.r);have by3:y3.length≤10:=by rw[hy3];have:=up_len m.r;omega
    have Ry3:Hid (cat [m.r]=y3):=hid (by rw[hy3];simp[cat]);have zy3:=Str.size_mk y3;obtain ⟨Cy3,hCy3,lCy3,aCy3,zCy3,nCy3,mCy3⟩:=apd Cy2 y3 (by omega);obtain ⟨y4,hy4⟩:=nm (tb m.g);have by4:y4.length≤1:=by rw[hy4];simp[tb]
    have Ry4:Hid (tb m.g=y4):=hid hy4.symm;have zy4:=Str.size_mk y4;obtain ⟨Cy4,hCy4,lCy4,aCy4,zCy4,nCy4,mCy4⟩:=apd Cy3 y4 (by omega);obtain ⟨y5,hy5⟩:=nm (upL m.c);have by5:y5.length≤10:=by rw[hy5];have:=up_len m.c;omega
    have Ry5:Hid (cat [m.c]=y5):=hid (by rw[hy5];simp[cat]);have zy5:=Str.size_mk y5;obtain ⟨Cy5,hCy5,lCy5,aCy5,zCy5,nCy5,mCy5⟩:=apd Cy4 y5 (by omega);obtain ⟨y6,hy6⟩:=nm (tb m.p);have by6:y6.length≤1:=by rw[hy6];simp[tb]
    have Ry6:Hid (tb m.p=y6):=hid hy6.symm;have zy6:=Str.size_mk y6;obtain ⟨Cy6,hCy6,lCy6,aCy6,zCy6,nCy6,mCy6⟩:=apd Cy5 y6 (by omega);have HA2:Hid (Cy6=H2++acc wdb ww (k+1)):=hid (by rw[HT2.out,hCy6,hCy5,hCy4,hCy3,hCy2,hCy1,hCy0,HA1.out,hy0,hy1,hy2,hy3,hy4,hy5,hy6];unfold wdb;simp only[List.append_assoc]);clear HA1;replace hCy0:=hid hCy0;replace lCy0:=hid lCy0;replace hCy1:=hid hCy1;replace lCy1:=hid lCy1;replace hCy2:=hid hCy2;replace lCy2:=hid lCy2;replace hCy3:=hid hCy3;replace lCy3:=hid lCy3;replace hCy4:=hid hCy4;replace lCy4:=hid lCy4;replace hCy5:=hid hCy5;replace lCy5:=hid lCy5;replace hCy6:=hid hCy6;replace lCy6:=hid lCy6;clear hy0 hy1 hy2 hy3 hy4 hy5 hy6;refine rh (aj10 hb BXs.out BXm.out m0 m1 m2 m3 m4 m5 m6) fun wd gH=>?_;refine tk [0,1,2,6,7,11,12,16,17,21,22,25,26,30,31] ?_;refine Rk.go (fun d=>match d with | 139=>.txt [m.o] 1 | 140=>.str y0 | 141=>.str Cy0 | 144=>.nat [m.h] 1 | 145=>.str y1 | 146=>.str Cy1 | 149=>.txt [m.k] 1 | 150=>.str y2 | 151=>.str Cy2 | 154=>.nat [m.r] 1 | 155=>.str y3 | 156=>.str Cy3 | 159=>.str y4 | 160=>.str Cy4 | 163=>.nat [m.c] 1 | 164=>.str y5 | 165=>.str Cy5 | 168=>.str y6 | 169=>.str Cy6 | 3=>.str Cy6 | _=>.any) [139,140,141,144,145,146,149,150,151,154,155,156,159,160,163,164,165,168,169,3] [3,4,5,8,9,10,13,14,15,18,19,20,23,24,27,28,29,32,33,34] gH ?_ (fun f wz gH hR=>?_)
    ·
     refine rlT ?_;refine rrT 139 Ry0 ?_;refine rcR 140 ?_;refine rlN ?_;refine rrN 144 Ry1 ?_;refine rcc 141 145 ?_;refine rlT ?_;refine rrT 149 Ry2 ?_;refine rcc 146 150 ?_;refine rlN ?_;refine rrN 154 Ry3 ?_;refine rcc 151 155 ?_;refine rrB Ry4 ?_;refine rcc 156 159 ?_;refine rlN ?_;refine rrN 163 Ry5 ?_;refine rcc 160 164 ?_;refine rrB Ry6 ?_;refine rcc 165 168 ?_;refine rcR 169 ?_;exact Rely.Steps.nil
    have f3:=Rk.e hR 3 34;simp only[Rely.fillA,Rely.fill,List.setIfInBounds_toArray,List.set_cons_zero,List.set_cons_succ,f3];refine NoPanic.normal ?_;clear hb BXs BXm m0 m1 m2 m3 m4 m5 m6 hR f3;obtain ⟨hb,BXs,BXm,m0,m1,m2,m3,m4,m5,m6⟩:=gH;replace BXs:=hid BXs;replace BXm:=hid BXm;have hB1:=HLT2.out;go_wp2;go_roundw
    ·exact ⟨k+1,Cy6,by have:=HLT2.out;omega,rfl,by go_num,HA2,hb,BXs⟩
    have:=HLT2.out;simp[intOf];omega
  obtain ⟨b1,o1,rfl,hcell⟩:=(HIN.out.g.below hb).2 (by show 0<gg.length;omega);have d2:=dT (p:=(k:Int)<(gg.length:Int));have i1:(0:Int)≤(k:Int):=by omega
  have i2:(k:Int)<(gg.length:Int):=by omega
  obtain ⟨e0,e1⟩:=cl2 (o1+k*2) (hcell k hlt);have HT1:=hid (acc_step snb hlt);have gb:=HG.out _ (List.getElem_mem hlt);have hle:=Nat.le_trans (Nat.le_of_eq (congrArg List.length HT1.out).symm) (acc_le snb gg (k+1));rw[List.length_append] at hle;obtain ⟨m,hm⟩:=nm gg[k];rw[← hm] at e0 e1 HT1 gb hle;clear hm hcell;obtain ⟨nf,nv⟩:=m;simp only at e0 e1 gb;obtain ⟨g1,g2,g3,g4⟩:=gb;obtain ⟨nf,rfl⟩:=Int.eq_ofNat_of_zero_le g1;obtain ⟨nv,rfl⟩:=Int.eq_ofNat_of_zero_le g3;have x1:IntKind.u64.wrap (nf:Int)=(nf:Int):=by rw[IntKind.wrap_u64];omega
  have x2:IntKind.u64.wrap (nv:Int)=(nv:Int):=by rw[IntKind.wrap_u64];omega
  have hsl1:s1.length=H1.length+(acc snb gg k).length:=by rw[HA1.out,List.length_append]
  have hsb1:s1.length≤70368744177664:=by have:=HB.out;have:=HL1.out;omega
  have zs1:=Str.size_mk s1;have HLT1:=hid hlt;clear hle hsl1 hlt hk;obtain ⟨q0,hq0⟩:=nm (upL nf++upL nv);have bq0:q0.length≤20:=by rw[hq0];have:=up_len nf;have:=up_len nv;simp only[List.length_append];omega
  have Rq0:Hid (cat [nf,nv]=q0):=hid (by rw[hq0];simp[cat]);have zq0:=Str.size_mk q0;obtain ⟨Cq0,hCq0,lCq0,aCq0,zCq0,nCq0,mCq0⟩:=apd s1 q0 (by omega);have HA2:Hid (Cq0=H1++acc snb gg (k+1)):=hid (by rw[HT1.out,hCq0,HA1.out,hq0,List.append_assoc];rfl);clear HA1;replace hCq0:=hid hCq0;replace lCq0:=hid lCq0;clear hq0;go_wp2_with fail
  refine rh (aj5 hb BXs.out s5 e0 e1) fun wd gH=>?_;refine tk (.range 15) ?_;refine Rk.go (fun d=>match d with | 71=>.nat [nf,nv] 2 | 72=>.str q0 | 73=>.str Cq0 | 3=>.str Cq0 | _=>.any) [71,72,73,3] [15,16,17,18] gH ?_ (fun f wz gH hR=>?_)
  ·
   refine rlN ?_;refine rrN 71 Rq0 ?_;refine rcR 72 ?_;refine rcR 73 ?_;exact Rely.Steps.nil
  have f3:=Rk.e hR 3 18;simp only[Rely.fillA,Rely.fill,List.setIfInBounds_toArray,List.set_cons_zero,List.set_cons_succ,f3];refine NoPanic.normal ?_;clear hb BXs s5 e0 e1 hR f3;obtain ⟨hb,BXs,s5,e0,e1⟩:=gH;replace BXs:=hid BXs;have hB1:=HLT1.out;go_wp2;go_roundw
  ·exact ⟨k+1,Cq0,by have:=HLT1.out;omega,rfl,by go_num,HA2,hb,BXs⟩
  have:=HLT1.out;simp[intOf];omega
end RefWrite
end Go.Proofs.YtnpjkmomllkhpaaGreatDoor
