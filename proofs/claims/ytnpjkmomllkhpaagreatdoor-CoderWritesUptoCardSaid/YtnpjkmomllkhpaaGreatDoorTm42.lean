/- CoderWritesWalk. -/
import Derived.Test.YtnpjkmomllkhpaaGreatDoorTm28
import Derived.Test.YtnpjkmomllkhpaaGreatDoorTm39
import Derived.Test.YtnpjkmomllkhpaaGreatDoorTm41
set_option linter.unusedVariables false
set_option linter.unusedSimpArgs false
namespace Go.Proofs.YtnpjkmomllkhpaaGreatDoor
set_option maxRecDepth 100000
set_option maxHeartbeats 40000000
namespace CoderWrites
open RowKit YtnpjkmomllkhpaaGreatDoor.Mark Num Wire Bag Coder Taker CoderLaw
theorem dots_len (N:Nat):∀ L:List RI,(∀ y ∈ L,y.d.length≤N)→(L.flatMap RI.d).length≤L.length*N
 | [],_=>by simp
 | x::L,h=>by
  rw[List.flatMap_cons,List.length_append,List.length_cons,Nat.add_mul]
  have h1:=h x (List.mem_cons_self ..)
  have h2:=dots_len N L fun y hy=>h y (List.mem_cons_of_mem _ hy)
  omega
theorem dots_few {x:RE} (f:x.Few):(x.j.flatMap RI.d).length≤549755813888:=by
 have fi:=f.i
 have h1:=dots_len 400 x.j (fun y hy=>by
  have hw:=BagLaw.wt_text y.it (List.mem_map.2 ⟨y,hy,rfl⟩)
  have e:y.it.d.length=y.d.length:=rfl
  omega)
 have h2:=BagLaw.wt_len (x.j.map RI.it)
 rw[List.length_map] at h2
 have h3:x.j.length*400≤400*400:=Nat.mul_le_mul_right _ (by omega)
 omega
theorem fit_few {x:RS} (o:x.Sz) (f:x.Few):RefMay.SFit x:=⟨fineS_few o f,fun y hy=>by have:=(f.em y hy).k;omega,fun y hy=>dots_few (f.em y hy)⟩
theorem pb_few {x:RS} (f:x.Few):(x.p.flatMap tx).length≤1099511627776:=by
 have h1:=CoderLaw.flat_len tx 266 x.p fun t ht=>by have a1:=tx_len t;have a2:=f.pm t ht;omega
 have h2:x.p.length*266≤60*266:=Nat.mul_le_mul_right _ f.p
 omega
theorem walk (x0:Coder.RE) (x1:Coder.RS) (B2:List Mark.M) (s2:Option Addr) (c2:Nat) (x2:Coder.RS) (J3:List Mem.RM) (s3:Option Addr) (c3:Nat) (x4:Coder.O) (w:World) (w0:x0.Ok) (l0:Coder.InnerE w x0) (w1:x1.Sz) (l1:Coder.InnerS w x1) (w2:CoderLaw.DSz B2 x2) (l2:Coder.InnerD w s2 B2 x2) (w3:Mem.MSz w s3 J3) (w4:x4.Ok) :
  CB 3 #[.agg x0,.agg x1,.agg #[.slice s2 B2.length c2,.slice x2.aa x2.a.length x2.ac,.slice x2.ea x2.e.length x2.ec,.slice x2.pa x2.p.length x2.pc],.slice s3 J3.length c3,.agg x4] w (.bool true):=by
 have hk4:=w4.k
 have ht4:=w4.t
 have hb2:=w2.b
 have W0:=hid w0
 have W1:=hid w1
 have W2:=hid w2
 have W4:=hid w4
 have W3:=hid w3.ok
 have N3:=hid w3.n
 replace l0:=hid l0
 replace l1:=hid l1
 replace l2:=hid l2
 have l3:=hid w3
 clear w0 w1 w2 w3 w4
 have z4:=Str.size_mk x4.k
 have y4:=Str.size_mk x4.t
 go_enter Tryz.func3,Tryz.ntmps3
 go_upto_region 1 with (fail)
 obtain ⟨W,hW⟩:=nm ((((w.alloc (.cells x0 29)).alloc (.cells x1 33)).alloc (.cells #[.slice s2 B2.length c2,.slice x2.aa x2.a.length x2.ac,.slice x2.ea x2.e.length x2.ec,.slice x2.pa x2.p.length x2.pc] 35)).alloc (.cells x4 38))
 rw[← hW]
 have G0:Box W (w.heap.size) x0:=by
  rw[hW]
  have q:=Box.new w x0 29 (by simp)
  try simp only[World.size_alloc] at q
  exact (((q).alloc _).alloc _).alloc _
 have G1:Box W (w.heap.size+1) x1:=by
  rw[hW]
  have q:=Box.new (w.alloc (.cells x0 29)) x1 33 (by simp)
  try simp only[World.size_alloc] at q
  exact ((q).alloc _).alloc _
 have G2:Box W (w.heap.size+1+1) [.slice s2 B2.length c2,.slice x2.aa x2.a.length x2.ac,.slice x2.ea x2.e.length x2.ec,.slice x2.pa x2.p.length x2.pc]:=by
  rw[hW]
  have q:=Box.new ((w.alloc (.cells x0 29)).alloc (.cells x1 33)) [.slice s2 B2.length c2,.slice x2.aa x2.a.length x2.ac,.slice x2.ea x2.e.length x2.ec,.slice x2.pa x2.p.length x2.pc] 35 (by simp)
  try simp only[World.size_alloc] at q
  exact (q).alloc _
 have G4:Box W (w.heap.size+1+1+1) x4:=by
  rw[hW]
  have q:=Box.new (((w.alloc (.cells x0 29)).alloc (.cells x1 33)).alloc (.cells #[.slice s2 B2.length c2,.slice x2.aa x2.a.length x2.ac,.slice x2.ea x2.e.length x2.ec,.slice x2.pa x2.p.length x2.pc] 35)) x4 38 (by simp)
  try simp only[World.size_alloc] at q
  exact q
 have hb:Below w.heap.size w W:=by rw[hW];exact balloc (balloc (balloc (balloc (Below.refl _ _) _) _) _) _
 obtain ⟨b4,hb4'⟩:=nm (w.heap.size+1+1+1)
 replace G4:Box W b4 x4:=by rw[hb4'];exact G4
 rw[← hb4']
 replace G4:=hid G4
 obtain ⟨b2,hb2'⟩:=nm (w.heap.size+1+1)
 replace G2:Box W b2 [.slice s2 B2.length c2,.slice x2.aa x2.a.length x2.ac,.slice x2.ea x2.e.length x2.ec,.slice x2.pa x2.p.length x2.pc]:=by rw[hb2'];exact G2
 rw[← hb2']
 replace G2:=hid G2
 obtain ⟨b1,hb1'⟩:=nm (w.heap.size+1)
 replace G1:Box W b1 x1:=by rw[hb1'];exact G1
 rw[← hb1']
 replace G1:=hid G1
 obtain ⟨b0,hb0'⟩:=nm w.heap.size
 replace G0:Box W b0 x0:=by rw[hb0'];exact G0
 rw[← hb0']
 replace G0:=hid G0
 clear hW hb0' hb1' hb2' hb4'
 replace l0:=hid (l0.out.below hb)
 replace l1:=hid (l1.out.below hb)
 replace l2:=hid (l2.out.below hb)
 replace l3:=hid (l3.out.below hb)
 obtain ⟨u0_0,u0_1,u0_2,u0_3,u0_4,u0_5,u0_6⟩:=al7 G0.out.at
 go_wp2_with fail
 refine (largeE_any x0 _ l0.out W0.out).mono ?_
 rintro e v1 ⟨z,rfl,hz,k1⟩
 replace G0:=hid ((G0.out).below k1)
 replace G1:=hid ((G1.out).below k1)
 replace G2:=hid ((G2.out).below k1)
 replace G4:=hid ((G4.out).below k1)
 replace l0:=hid ((l0.out).below k1)
 replace l1:=hid ((l1.out).below k1)
 replace l2:=hid ((l2.out).below k1)
 replace l3:=hid ((l3.out).below k1)
 replace hb:=bstep hb k1
 clear k1 u0_0 u0_1 u0_2 u0_3 u0_4 u0_5 u0_6
 have HZ0:=hid hz
 clear hz
 cases z
 rotate_left
 ·
  go_wp2_with fail
  refine cr (alive_any _) fun v2 k2=>?_
  replace hb:=bstep hb k2
  clear k2
  go_wp2
  go_ret
  exact ⟨rfl,hb⟩
 replace HZ0:Hid (x0.Few):=hid (by first | exact HZ0.out rfl | exact HZ0.out trivial | exact HZ0.out)
 obtain ⟨u1_0,u1_1,u1_2⟩:=al3 G1.out.at
 go_wp2_with fail
 refine (largeS_any x1 _ l1.out W1.out).mono ?_
 rintro e v3 ⟨z,rfl,hz,k3⟩
 replace G0:=hid ((G0.out).below k3)
 replace G1:=hid ((G1.out).below k3)
 replace G2:=hid ((G2.out).below k3)
 replace G4:=hid ((G4.out).below k3)
 replace l0:=hid ((l0.out).below k3)
 replace l1:=hid ((l1.out).below k3)
 replace l2:=hid ((l2.out).below k3)
 replace l3:=hid ((l3.out).below k3)
 replace hb:=bstep hb k3
 clear k3 u1_0 u1_1 u1_2
 have HZ1:=hid hz
 clear hz
 cases z
 rotate_left
 ·
  go_wp2_with fail
  refine cr (alive_any _) fun v4 k4=>?_
  replace hb:=bstep hb k4
  clear k4
  go_wp2
  go_ret
  exact ⟨rfl,hb⟩
 replace HZ1:Hid (x1.Few):=hid (by first | exact HZ1.out rfl | exact HZ1.out trivial | exact HZ1.out)
 obtain ⟨u2_0,u2_1,u2_2,u2_3⟩:=al4 G2.out.at
 go_wp2_with fail
 refine (largeS_any x2 _ l2.out.2 W2.out.x).mono ?_
 rintro e v5 ⟨z,rfl,hz,k5⟩
 replace G0:=hid ((G0.out).below k5)
 replace G1:=hid ((G1.out).below k5)
 replace G2:=hid ((G2.out).below k5)
 replace G4:=hid ((G4.out).below k5)
 replace l0:=hid ((l0.out).below k5)
 replace l1:=hid ((l1.out).below k5)
 replace l2:=hid ((l2.out).below k5)
 replace l3:=hid ((l3.out).below k5)
 replace hb:=bstep hb k5
 clear k5 u2_0 u2_1 u2_2 u2_3
 have HZ2:=hid hz
 clear hz
 cases z
 rotate_left
 ·
  go_wp2_with fail
  refine cr (alive_any _) fun v6 k6=>?_
  replace hb:=bstep hb k6
  clear k6
  go_wp2
  go_ret
  exact ⟨rfl,hb⟩
 replace HZ2:Hid (x2.Few):=hid (by first | exact HZ2.out rfl | exact HZ2.out trivial | exact HZ2.out)
 by_cases f2:60<B2.length
 ·have d1:decide ((60:Int)<(B2.length:Int))=true:=dT
  clear f2
  obtain ⟨u2_0,u2_1,u2_2,u2_3⟩:=al4 G2.out.at
  go_wp2_with fail
  refine cr (alive_any _) fun v7 k7=>?_
  replace hb:=bstep hb k7
  clear k7
  go_wp2
  go_ret
  exact ⟨rfl,hb⟩
 have d2:decide ((60:Int)<(B2.length:Int))=false:=dF
 have F2:Hid (B2.length≤60):=hid (by omega)
 clear f2
 obtain ⟨u2_0,u2_1,u2_2,u2_3⟩:=al4 G2.out.at
 go_wp2_with fail
 refine (Mem.large_any J3 s3 c3 _ l3.out).mono ?_
 rintro e v8 ⟨z,rfl,hz,k8⟩
 replace G0:=hid ((G0.out).below k8)
 replace G1:=hid ((G1.out).below k8)
 replace G2:=hid ((G2.out).below k8)
 replace G4:=hid ((G4.out).below k8)
 replace l0:=hid ((l0.out).below k8)
 replace l1:=hid ((l1.out).below k8)
 replace l2:=hid ((l2.out).below k8)
 replace l3:=hid ((l3.out).below k8)
 replace hb:=bstep hb k8
 clear k8 u2_0 u2_1 u2_2 u2_3
 have HZ3:=hid hz
 clear hz
 cases z
 rotate_left
 ·
  go_wp2_with fail
  refine cr (alive_any _) fun v9 k9=>?_
  replace hb:=bstep hb k9
  clear k9
  go_wp2
  go_ret
  exact ⟨rfl,hb⟩
 replace HZ3:Hid (Mem.FewM J3):=hid (by first | exact HZ3.out rfl | exact HZ3.out trivial | exact HZ3.out)
 by_cases fk:1024<x4.k.length
 ·have d1:decide ((1024:Int)<(x4.k.length:Int))=true:=dT
  have d1n:decide (1024<x4.k.length)=true:=decide_eq_true fk
  clear fk
  obtain ⟨u4_0,u4_1,u4_2,u4_3⟩:=al4 G4.out.at
  go_wp2_with fail
  refine cr (alive_any _) fun v10 k10=>?_
  replace hb:=bstep hb k10
  clear k10
  go_wp2
  go_ret
  exact ⟨rfl,hb⟩
 have dk:decide ((1024:Int)<(x4.k.length:Int))=false:=dF
 have dkn:decide (1024<x4.k.length)=false:=decide_eq_false fk
 have Fk:=hid fk
 clear fk
 by_cases ft:8192<x4.t.length
 ·have d1:decide ((8192:Int)<(x4.t.length:Int))=true:=dT
  have d1n:decide (8192<x4.t.length)=true:=decide_eq_true ft
  clear ft
  obtain ⟨u4_0,u4_1,u4_2,u4_3⟩:=al4 G4.out.at
  go_wp2_with fail
  refine cr (alive_any _) fun v11 k11=>?_
  replace hb:=bstep hb k11
  clear k11
  go_wp2
  go_ret
  exact ⟨rfl,hb⟩
 have dt:decide ((8192:Int)<(x4.t.length:Int))=false:=dF
 have dtn:decide (8192<x4.t.length)=false:=decide_eq_false ft
 have Ft:=hid ft
 clear ft
 obtain ⟨u4_0,u4_1,u4_2,u4_3⟩:=al4 G4.out.at
 go_upto_region 3 with (fail)
 clear u4_0 u4_1 u4_2 u4_3 dk dkn dt dtn d2
 obtain ⟨p0,hp0⟩:=nm (outS (mayE x0.e) (fE x0))
 obtain ⟨e0,he0⟩:=nm (outE (mayE x0.e))
 have C00:=hid (fun W (h:InnerE W x0)=>(by rw[hp0,he0];exact giveEntry x0 W h W0.out (fine_few W0.out HZ0.out) (Nat.le_trans (fe_few W0.out HZ0.out) (by decide)):CB 9 #[.agg x0] W (.tuple #[p0,.int .i64 e0])))
 have C01:=hid (fun W (h:InnerE W x0)=>(by rw[hp0,he0];exact RefWrite.refEntry x0 W h W0.out (by have:=HZ0.out.k;omega) (dots_few HZ0.out) (Nat.le_trans (fe_few W0.out HZ0.out) (by decide)):CB 10 #[.agg x0] W (.tuple #[p0,.int .i64 e0])))
 clear hp0 he0
 have sp0:(p0 == p0)=true:=by simp
 have sn0:(p0 != p0)=false:=by simp
 have se0:(e0 == e0)=true:=by simp
 have sf0:(e0 != e0)=false:=by simp
 obtain ⟨u0_0,u0_1,u0_2,u0_3,u0_4,u0_5,u0_6⟩:=al7 G0.out.at
 go_wp2_with fail
 refine cr (C00.out _ l0.out) fun v12 k12=>?_
 replace G0:=hid ((G0.out).below k12)
 replace G1:=hid ((G1.out).below k12)
 replace G2:=hid ((G2.out).below k12)
 replace G4:=hid ((G4.out).below k12)
 replace l0:=hid ((l0.out).below k12)
 replace l1:=hid ((l1.out).below k12)
 replace l2:=hid ((l2.out).below k12)
 replace l3:=hid ((l3.out).below k12)
 replace hb:=bstep hb k12
 clear k12 u0_0 u0_1 u0_2 u0_3 u0_4 u0_5 u0_6
 obtain ⟨u0_0,u0_1,u0_2,u0_3,u0_4,u0_5,u0_6⟩:=al7 G0.out.at
 go_wp2_with fail
 refine cr (C01.out _ l0.out) fun v13 k13=>?_
 replace G0:=hid ((G0.out).below k13)
 replace G1:=hid ((G1.out).below k13)
 replace G2:=hid ((G2.out).below k13)
 replace G4:=hid ((G4.out).below k13)
 replace l0:=hid ((l0.out).below k13)
 replace l1:=hid ((l1.out).below k13)
 replace l2:=hid ((l2.out).below k13)
 replace l3:=hid ((l3.out).below k13)
 replace hb:=bstep hb k13
 clear k13 u0_0 u0_1 u0_2 u0_3 u0_4 u0_5 u0_6 C00 C01
 obtain ⟨p1,hp1⟩:=nm (outS (mayS x1.s) (fS x1))
 obtain ⟨e1,he1⟩:=nm (outE (mayS x1.s))
 have C10:=hid (fun W (h:InnerS W x1)=>(by rw[hp1,he1];exact giveState x1 W h (ok_few W1.out HZ1.out) (fineS_few W1.out HZ1.out) (Nat.le_trans (fs_few W1.out HZ1.out) (by decide)):CB 11 #[.agg x1] W (.tuple #[p1,.int .i64 e1])))
 have C11:=hid (fun W (h:InnerS W x1)=>(by rw[hp1,he1];exact RefWrite.refState x1 W h (ok_few W1.out HZ1.out) (fit_few W1.out HZ1.out) (pb_few HZ1.out) (Nat.le_trans (fs_few W1.out HZ1.out) (by decide)):CB 12 #[.agg x1] W (.tuple #[p1,.int .i64 e1])))
 clear hp1 he1
 have sp1:(p1 == p1)=true:=by simp
 have sn1:(p1 != p1)=false:=by simp
 have se1:(e1 == e1)=true:=by simp
 have sf1:(e1 != e1)=false:=by simp
 obtain ⟨u1_0,u1_1,u1_2⟩:=al3 G1.out.at
 go_wp2_with fail
 refine cr (C10.out _ l1.out) fun v14 k14=>?_
 replace G0:=hid ((G0.out).below k14)
 replace G1:=hid ((G1.out).below k14)
 replace G2:=hid ((G2.out).below k14)
 replace G4:=hid ((G4.out).below k14)
 replace l0:=hid ((l0.out).below k14)
 replace l1:=hid ((l1.out).below k14)
 replace l2:=hid ((l2.out).below k14)
 replace l3:=hid ((l3.out).below k14)
 replace hb:=bstep hb k14
 clear k14 u1_0 u1_1 u1_2
 obtain ⟨u1_0,u1_1,u1_2⟩:=al3 G1.out.at
 go_wp2_with fail
 refine cr (C11.out _ l1.out) fun v15 k15=>?_
 replace G0:=hid ((G0.out).below k15)
 replace G1:=hid ((G1.out).below k15)
 replace G2:=hid ((G2.out).below k15)
 replace G4:=hid ((G4.out).below k15)
 replace l0:=hid ((l0.out).below k15)
 replace l1:=hid ((l1.out).below k15)
 replace l2:=hid ((l2.out).below k15)
 replace l3:=hid ((l3.out).below k15)
 replace hb:=bstep hb k15
 clear k15 u1_0 u1_1 u1_2 C10 C11
 obtain ⟨p2,hp2⟩:=nm (outS (mayD B2 x2.s) (fD B2 x2))
 obtain ⟨e2,he2⟩:=nm (outE (mayD B2 x2.s))
 have C20:=hid (fun W (h:InnerD W s2 B2 x2)=>(by rw[hp2,he2];exact giveDelta s2 c2 B2 x2 W h ⟨W2.out.b,W2.out.bm,ok_few W2.out.x HZ2.out,fineS_few W2.out.x HZ2.out⟩ (fd_few W2.out HZ2.out F2.out):CB 13 #[.agg #[.slice s2 B2.length c2,.slice x2.aa x2.a.length x2.ac,.slice x2.ea x2.e.length x2.ec,.slice x2.pa x2.p.length x2.pc]] W (.tuple #[p2,.int .i64 e2])))
 have C21:=hid (fun W (h:InnerD W s2 B2 x2)=>(by rw[hp2,he2];exact RefWrite.refDelta s2 c2 B2 x2 W h ⟨W2.out.b,W2.out.bm,ok_few W2.out.x HZ2.out,fineS_few W2.out.x HZ2.out⟩ (fit_few W2.out.x HZ2.out) (pb_few HZ2.out) (fd_few W2.out HZ2.out F2.out):CB 14 #[.agg #[.slice s2 B2.length c2,.slice x2.aa x2.a.length x2.ac,.slice x2.ea x2.e.length x2.ec,.slice x2.pa x2.p.length x2.pc]] W (.tuple #[p2,.int .i64 e2])))
 clear hp2 he2
 have sp2:(p2 == p2)=true:=by simp
 have sn2:(p2 != p2)=false:=by simp
 have se2:(e2 == e2)=true:=by simp
 have sf2:(e2 != e2)=false:=by simp
 obtain ⟨u2_0,u2_1,u2_2,u2_3⟩:=al4 G2.out.at
 go_wp2_with fail
 refine cr (C20.out _ l2.out) fun v16 k16=>?_
 replace G0:=hid ((G0.out).below k16)
 replace G1:=hid ((G1.out).below k16)
 replace G2:=hid ((G2.out).below k16)
 replace G4:=hid ((G4.out).below k16)
 replace l0:=hid ((l0.out).below k16)
 replace l1:=hid ((l1.out).below k16)
 replace l2:=hid ((l2.out).below k16)
 replace l3:=hid ((l3.out).below k16)
 replace hb:=bstep hb k16
 clear k16 u2_0 u2_1 u2_2 u2_3
 obtain ⟨u2_0,u2_1,u2_2,u2_3⟩:=al4 G2.out.at
 go_wp2_with fail
 refine cr (C21.out _ l2.out) fun v17 k17=>?_
 replace G0:=hid ((G0.out).below k17)
 replace G1:=hid ((G1.out).below k17)
 replace G2:=hid ((G2.out).below k17)
 replace G4:=hid ((G4.out).below k17)
 replace l0:=hid ((l0.out).below k17)
 replace l1:=hid ((l1.out).below k17)
 replace l2:=hid ((l2.out).below k17)
 replace l3:=hid ((l3.out).below k17)
 replace hb:=bstep hb k17
 clear k17 u2_0 u2_1 u2_2 u2_3 C20 C21
 obtain ⟨p3,hp3⟩:=nm (outS (Mem.tv (Mem.MayP (J3.map Mem.RM.m))) (lst fM J3))
 obtain ⟨e3,he3⟩:=nm (outE (Mem.tv (Mem.MayP (J3.map Mem.RM.m))))
 have C30:=hid (fun W (h:Mem.MSz W s3 J3)=>(by rw[hp3,he3];exact Mem.giveMembers J3 s3 c3 W h (fun _=>fms_few W3.out HZ3.out):CB 15 #[.slice s3 J3.length c3] W (.tuple #[p3,.int .i64 e3])))
 have C31:=hid (fun W (h:Mem.MSz W s3 J3)=>(by rw[hp3,he3];exact Mem.refMembers J3 s3 c3 W h (fun _=>fms_few W3.out HZ3.out):CB 16 #[.slice s3 J3.length c3] W (.tuple #[p3,.int .i64 e3])))
 clear hp3 he3
 have sp3:(p3 == p3)=true:=by simp
 have sn3:(p3 != p3)=false:=by simp
 have se3:(e3 == e3)=true:=by simp
 have sf3:(e3 != e3)=false:=by simp
 go_wp2_with fail
 refine cr (C30.out _ l3.out) fun v18 k18=>?_
 replace G0:=hid ((G0.out).below k18)
 replace G1:=hid ((G1.out).below k18)
 replace G2:=hid ((G2.out).below k18)
 replace G4:=hid ((G4.out).below k18)
 replace l0:=hid ((l0.out).below k18)
 replace l1:=hid ((l1.out).below k18)
 replace l2:=hid ((l2.out).below k18)
 replace l3:=hid ((l3.out).below k18)
 replace hb:=bstep hb k18
 clear k18
 go_wp2_with fail
 refine cr (C31.out _ l3.out) fun v19 k19=>?_
 replace G0:=hid ((G0.out).below k19)
 replace G1:=hid ((G1.out).below k19)
 replace G2:=hid ((G2.out).below k19)
 replace G4:=hid ((G4.out).below k19)
 replace l0:=hid ((l0.out).below k19)
 replace l1:=hid ((l1.out).below k19)
 replace l2:=hid ((l2.out).below k19)
 replace l3:=hid ((l3.out).below k19)
 replace hb:=bstep hb k19
 clear k19 C30 C31
 obtain ⟨p4,hp4⟩:=nm (outS (mayO x4) (opb x4))
 obtain ⟨e4,he4⟩:=nm (outE (mayO x4))
 have C40:=hid (fun W=>(by rw[hp4,he4];exact giveOp x4 W W4.out:CB 17 #[.agg x4] W (.tuple #[p4,.int .i64 e4])))
 have C41:=hid (fun W=>(by rw[hp4,he4];exact RefWrite.refOp x4 W W4.out (by have:=Fk.out;omega):CB 18 #[.agg x4] W (.tuple #[p4,.int .i64 e4])))
 clear hp4 he4
 have sp4:(p4 == p4)=true:=by simp
 have sn4:(p4 != p4)=false:=by simp
 have se4:(e4 == e4)=true:=by simp
 have sf4:(e4 != e4)=false:=by simp
 obtain ⟨u4_0,u4_1,u4_2,u4_3⟩:=al4 G4.out.at
 go_wp2_with fail
 refine cr (C40.out _) fun v20 k20=>?_
 replace G0:=hid ((G0.out).below k20)
 replace G1:=hid ((G1.out).below k20)
 replace G2:=hid ((G2.out).below k20)
 replace G4:=hid ((G4.out).below k20)
 replace l0:=hid ((l0.out).below k20)
 replace l1:=hid ((l1.out).below k20)
 replace l2:=hid ((l2.out).below k20)
 replace l3:=hid ((l3.out).below k20)
 replace hb:=bstep hb k20
 clear k20 u4_0 u4_1 u4_2 u4_3
 obtain ⟨u4_0,u4_1,u4_2,u4_3⟩:=al4 G4.out.at
 go_wp2_with fail
 refine cr (C41.out _) fun v21 k21=>?_
 replace G0:=hid ((G0.out).below k21)
 replace G1:=hid ((G1.out).below k21)
 replace G2:=hid ((G2.out).below k21)
 replace G4:=hid ((G4.out).below k21)
 replace l0:=hid ((l0.out).below k21)
 replace l1:=hid ((l1.out).below k21)
 replace l2:=hid ((l2.out).below k21)
 replace l3:=hid ((l3.out).below k21)
 replace hb:=bstep hb k21
 clear k21 u4_0 u4_1 u4_2 u4_3 C40 C41
 go_wp2_with fail
 refine cr (alive_any _) fun v22 k22=>?_
 replace hb:=bstep hb k22
 clear k22
 go_wp2
 go_ret
 exact ⟨rfl,hb⟩
end CoderWrites
end Go.Proofs.YtnpjkmomllkhpaaGreatDoor
