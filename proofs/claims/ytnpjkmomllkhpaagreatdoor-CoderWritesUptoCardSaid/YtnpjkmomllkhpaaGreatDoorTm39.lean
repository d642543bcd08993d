/- MemOpen. -/
import Derived.Test.YtnpjkmomllkhpaaGreatDoorTm26
import Derived.Test.YtnpjkmomllkhpaaGreatDoorTm38
set_option linter.unusedVariables false
set_option linter.unusedSimpArgs false
namespace Go.Proofs.YtnpjkmomllkhpaaGreatDoor
set_option maxRecDepth 100000
namespace CoderLaw
open RowKit YtnpjkmomllkhpaaGreatDoor.Mark Num Bag Coder Mem
theorem k_span:Tryz.prog.cellsOf 191=2:=by kernel_rfl
theorem k_said:Tryz.prog.cellsOf 94=7:=by kernel_rfl
theorem k_pruned:Tryz.prog.cellsOf 87=4:=by kernel_rfl
theorem k_plan:Tryz.prog.cellsOf 89=8:=by kernel_rfl
theorem k_member:Tryz.prog.cellsOf 92=15:=by kernel_rfl
theorem k_spans:Tryz.prog.cellsOf 85=1:=by kernel_rfl
theorem k_saids:Tryz.prog.cellsOf 90=1:=by kernel_rfl
section
variable {H:Type} {enc':TypeId × Value→H} {w:World} {base:Nat} {spare:Nat→Bool} {held:Bool} {cs:List Value}
theorem int_i64 {n:Int} (h:(Lit.int .i64 n).wf=true) : -9223372036854775808≤n∧n≤9223372036854775807:=by
 simp only[Lit.wf,Bool.and_eq_true,decide_eq_true_eq] at h
 exact h
theorem span_in (cs:List Value) (h:Tb enc' Tryz.prog w base spare held 191 cs):∃ m:Sn,cs=snE.cells m∧m.Ok:=by
 have hl:=(Tb.struct Tryz.underlying191 h).1.trans k_span
 have h0:=Tb.field Tryz.underlying191 h 0 _ rfl rfl rfl k_i64
 have h1:=Tb.field Tryz.underlying191 h 1 _ rfl rfl rfl k_i64
 match cs,hl with
 | [x,y],_ =>
  obtain ⟨n,e0,hn⟩:=Tb.int Tryz.underlying3 h0
  obtain ⟨m,e1,hm⟩:=Tb.int Tryz.underlying3 h1
  obtain rfl:x=_:=List.head_eq_of_cons_eq e0
  obtain rfl:y=_:=List.head_eq_of_cons_eq e1
  exact ⟨⟨n,m⟩,rfl,⟨int_i64 hn,int_i64 hm⟩⟩
theorem said_in (cs:List Value) (h:Tb enc' Tryz.prog w base spare held 94 cs):∃ m:Wd,cs=wdE.cells m∧m.Ok:=by
 have hl:=(Tb.struct Tryz.underlying94 h).1.trans k_said
 have h0:=Tb.field Tryz.underlying94 h 0 _ rfl rfl rfl k_str
 have h1:=Tb.field Tryz.underlying94 h 1 _ rfl rfl rfl k_u64
 have h2:=Tb.field Tryz.underlying94 h 2 _ rfl rfl rfl k_str
 have h3:=Tb.field Tryz.underlying94 h 3 _ rfl rfl rfl k_u64
 have h4:=Tb.field Tryz.underlying94 h 4 _ rfl rfl rfl k_bool
 have h5:=Tb.field Tryz.underlying94 h 5 _ rfl rfl rfl k_u64
 have h6:=Tb.field Tryz.underlying94 h 6 _ rfl rfl rfl k_bool
 match cs,hl with
 | [v0,v1,v2,v3,v4,v5,v6],_ =>
  obtain ⟨o,e0,ho⟩:=Tb.str Tryz.underlying9 h0
  obtain ⟨n1,e1,hn1⟩:=Tb.int Tryz.underlying25 h1
  obtain ⟨k,e2,hk⟩:=Tb.str Tryz.underlying9 h2
  obtain ⟨n3,e3,hn3⟩:=Tb.int Tryz.underlying25 h3
  obtain ⟨g,e4⟩:=Tb.bool Tryz.underlying4 h4
  obtain ⟨n5,e5,hn5⟩:=Tb.int Tryz.underlying25 h5
  obtain ⟨p,e6⟩:=Tb.bool Tryz.underlying4 h6
  obtain rfl:v0=_:=List.head_eq_of_cons_eq e0
  obtain rfl:v1=_:=List.head_eq_of_cons_eq e1
  obtain rfl:v2=_:=List.head_eq_of_cons_eq e2
  obtain rfl:v3=_:=List.head_eq_of_cons_eq e3
  obtain rfl:v4=_:=List.head_eq_of_cons_eq e4
  obtain rfl:v5=_:=List.head_eq_of_cons_eq e5
  obtain rfl:v6=_:=List.head_eq_of_cons_eq e6
  obtain ⟨n1,rfl,m1⟩:=nat_u64 hn1
  obtain ⟨n3,rfl,m3⟩:=nat_u64 hn3
  obtain ⟨n5,rfl,m5⟩:=nat_u64 hn5
  exact ⟨⟨o,n1,k,n3,g,n5,p⟩,rfl,⟨ho,m1,hk,m3,m5⟩⟩
theorem pruned_in (cs:List Value) (h:Tb enc' Tryz.prog w base spare held 87 cs):∃ m:Pr,cs=[.string ⟨m.b.toArray⟩,.int .u64 (m.n:Int),.string ⟨m.o.toArray⟩,.int .u64 (m.m:Int)]∧m.b.length≤1048576∧m.n≤18446744073709551615∧m.o.length≤1048576∧m.m≤18446744073709551615:=by
 have hl:=(Tb.struct Tryz.underlying87 h).1.trans k_pruned
 have h0:=Tb.field Tryz.underlying87 h 0 _ rfl rfl rfl k_str
 have h1:=Tb.field Tryz.underlying87 h 1 _ rfl rfl rfl k_u64
 have h2:=Tb.field Tryz.underlying87 h 2 _ rfl rfl rfl k_str
 have h3:=Tb.field Tryz.underlying87 h 3 _ rfl rfl rfl k_u64
 match cs,hl with
 | [v0,v1,v2,v3],_ =>
  obtain ⟨o,e0,ho⟩:=Tb.str Tryz.underlying9 h0
  obtain ⟨n1,e1,hn1⟩:=Tb.int Tryz.underlying25 h1
  obtain ⟨k,e2,hk⟩:=Tb.str Tryz.underlying9 h2
  obtain ⟨n3,e3,hn3⟩:=Tb.int Tryz.underlying25 h3
  obtain rfl:v0=_:=List.head_eq_of_cons_eq e0
  obtain rfl:v1=_:=List.head_eq_of_cons_eq e1
  obtain rfl:v2=_:=List.head_eq_of_cons_eq e2
  obtain rfl:v3=_:=List.head_eq_of_cons_eq e3
  obtain ⟨n1,rfl,m1⟩:=nat_u64 hn1
  obtain ⟨n3,rfl,m3⟩:=nat_u64 hn3
  exact ⟨⟨o,n1,k,n3⟩,rfl,ho,m1,hk,m3⟩
theorem plan_in (cs:List Value) (h:Tb enc' Tryz.prog w base spare held 89 cs):∃ m:Mem.Pl,cs=m.cells∧m.Ok:=by
 have hl:=(Tb.struct Tryz.underlying89 h).1.trans k_plan
 have h0:=Tb.field Tryz.underlying89 h 0 _ rfl rfl rfl k_str
 have h1:=Tb.field Tryz.underlying89 h 1 _ rfl rfl rfl k_u64
 have h2:=Tb.field Tryz.underlying89 h 2 _ rfl rfl rfl k_str
 have h3:=Tb.field Tryz.underlying89 h 3 _ rfl rfl rfl k_pruned
 have h4:=Tb.field Tryz.underlying89 h 4 _ rfl rfl rfl k_bool
 match cs,hl with
 | [v0,v1,v2,v3,v4,v5,v6,v7],_ =>
  obtain ⟨o,e0,ho⟩:=Tb.str Tryz.underlying9 h0
  obtain ⟨n1,e1,hn1⟩:=Tb.int Tryz.underlying25 h1
  obtain ⟨k,e2,hk⟩:=Tb.str Tryz.underlying9 h2
  obtain ⟨a,e3,a1,a2,a3,a4⟩:=pruned_in _ h3
  obtain ⟨g,e4⟩:=Tb.bool Tryz.underlying4 h4
  obtain rfl:v0=_:=List.head_eq_of_cons_eq e0
  obtain rfl:v1=_:=List.head_eq_of_cons_eq e1
  obtain rfl:v2=_:=List.head_eq_of_cons_eq e2
  have e5:[v3,v4,v5,v6]=[.string ⟨a.b.toArray⟩,.int .u64 (a.n:Int),.string ⟨a.o.toArray⟩,.int .u64 (a.m:Int)]:=e3
  simp only[List.cons.injEq,and_true] at e5
  obtain ⟨rfl,rfl,rfl,rfl⟩:=e5
  obtain rfl:v7=_:=List.head_eq_of_cons_eq e4
  obtain ⟨n1,rfl,m1⟩:=nat_u64 hn1
  exact ⟨⟨o,n1,k,a,g⟩,rfl,⟨ho,m1,hk,a1,a2,a3,a4⟩⟩
theorem member_in (cs:List Value) (h:Tb enc' Tryz.prog w base spare held 92 cs):∃ x:RM,cs=mbE.cells x∧(x.Ok∧InnerM w x):=by
 have hl:=(Tb.struct Tryz.underlying92 h).1.trans k_member
 have h0:=Tb.field Tryz.underlying92 h 0 _ rfl rfl rfl k_str
 have h1:=Tb.field Tryz.underlying92 h 1 _ rfl rfl rfl k_u8
 have h2:=Tb.field Tryz.underlying92 h 2 _ rfl rfl rfl k_i64
 have h3:=Tb.field Tryz.underlying92 h 3 _ rfl rfl rfl k_i64
 have h4:=Tb.field Tryz.underlying92 h 4 _ rfl rfl rfl k_u64
 have h5:=Tb.field Tryz.underlying92 h 5 _ rfl rfl rfl k_spans
 have h6:=Tb.field Tryz.underlying92 h 6 _ rfl rfl rfl k_plan
 have h7:=Tb.field Tryz.underlying92 h 7 _ rfl rfl rfl k_saids
 match cs,hl with
 | [v0,v1,v2,v3,v4,v5,v6,v7,v8,v9,va,vb,vc,vd,ve],_ =>
  obtain ⟨p,e0,hp⟩:=Tb.str Tryz.underlying9 h0
  obtain ⟨n1,e1,hn1⟩:=Tb.int Tryz.underlying5 h1
  obtain ⟨n2,e2,hn2⟩:=Tb.int Tryz.underlying3 h2
  obtain ⟨n3,e3,hn3⟩:=Tb.int Tryz.underlying3 h3
  obtain ⟨n4,e4,hn4⟩:=Tb.int Tryz.underlying25 h4
  obtain ⟨ga,gc,g,e5,g1,g2,g3,-⟩:=Row.rows_tb (E:=snE) Tryz.underlying85 k_span span_in h5
  obtain ⟨q,e6,hq⟩:=plan_in _ h6
  obtain ⟨wa,wc,ww,e7,w1,w2,w3,-⟩:=Row.rows_tb (E:=wdE) Tryz.underlying90 k_said said_in h7
  obtain rfl:v0=_:=List.head_eq_of_cons_eq e0
  obtain rfl:v1=_:=List.head_eq_of_cons_eq e1
  obtain rfl:v2=_:=List.head_eq_of_cons_eq e2
  obtain rfl:v3=_:=List.head_eq_of_cons_eq e3
  obtain rfl:v4=_:=List.head_eq_of_cons_eq e4
  obtain rfl:v5=_:=List.head_eq_of_cons_eq e5
  have e8:[v6,v7,v8,v9,va,vb,vc,vd]=[.string ⟨q.k.toArray⟩,.int .u64 (q.r:Int),.string ⟨q.l.toArray⟩,.string ⟨q.a.b.toArray⟩,.int .u64 (q.a.n:Int),.string ⟨q.a.o.toArray⟩,.int .u64 (q.a.m:Int),.bool q.d]:=e6
  simp only[List.cons.injEq,and_true] at e8
  obtain ⟨rfl,rfl,rfl,rfl,rfl,rfl,rfl,rfl⟩:=e8
  obtain rfl:ve=_:=List.head_eq_of_cons_eq e7
  obtain ⟨n1,rfl,m1⟩:=nat_u8 hn1
  obtain ⟨n4,rfl,m4⟩:=nat_u64 hn4
  exact ⟨⟨p,n1,n2,n3,n4,ga,gc,g,q,wa,wc,ww⟩,rfl,⟨hp,m1,int_i64 hn2,int_i64 hn3,m4,g3,g2,hq,w3,w2⟩,⟨g1,w1⟩⟩
end
section
variable {H:Type} {enc':TypeId × Value→H} {w:World} {base b0:Nat} {spare:Nat→Bool} {held:Bool} {r:Reach} {v:Value} {d:DataW H} {ps:List MemPlace} {ds:List (DataW H)} {j:Nat}
theorem open_members (hk:Rows.uptoSmall H ds=true) (hd:ds[j]?=some d) (hv:Value.okWide Tryz.prog w r b0 36 v) (h:DataW.Trod enc' Tryz.prog w base spare held 36 v d ps) :
  ∃ (J:List RM) (a:Option Addr) (c:Nat),v=.slice a J.length c∧MSz w a J:=by
 obtain ⟨a,c,J,e,h1,h2,h3,-⟩:=Row.rows_tb (E:=mbE) Tryz.underlying36 k_member member_in (Tb.of hk hd h)
 obtain ⟨a0,n0,c0,rfl⟩:=Go.WideShapes.okWide_slice Tryz.underlying36 hv
 have e':Value.slice a0 n0 c0=.slice a J.length c:=by simpa [Value.cells] using e
 exact ⟨J,a,c,e',⟨⟨h1,fun x hx=>(h2 x hx).2⟩,fun x hx=>(h2 x hx).1,h3⟩⟩
end
theorem fm_few {x:RM} (o:x.Ok) (f:x.w.length≤8192):(fM x).length≤20000000000:=by
 have h1:=tx_len x.p
 have h2:=lst_len snb 20 x.g (fun s _=>by unfold snb;rw[List.length_append];have:=up_len s.f.toNat;have:=up_len s.t.toNat;omega)
 have h3:x.g.length*20≤1048576*20:=Nat.mul_le_mul_right _ o.g
 have h4:=lst_len wdb 2097220 x.w (fun s hs=>by
  unfold wdb
  simp only[List.length_append]
  have:=tx_len s.o
  have:=tx_len s.k
  have:=up_len s.h
  have:=up_len s.r
  have:=up_len s.c
  have:=(o.wm s hs).o
  have:=(o.wm s hs).k
  have b1:(tb s.g).length=1:=rfl
  have b2:(tb s.p).length=1:=rfl
  omega)
 have h5:x.w.length*2097220≤8192*2097220:=Nat.mul_le_mul_right _ f
 have h6:(plb x.q).length≤5000000:=by
  unfold plb
  have a1:=prb_len o.q.b o.q.o
  simp only[List.length_append]
  have:=tx_len x.q.k
  have:=tx_len x.q.l
  have:=up_len x.q.r
  have b1:(tb x.q.d).length=1:=rfl
  have:=o.q.k
  have:=o.q.l
  omega
 have u1:=up_len x.s
 have u2:=up_len x.k.toNat
 have u3:=up_len x.c.toNat
 have u4:=up_len x.l
 have hp:=o.p
 unfold fM mbb RM.m
 simp only[List.length_append]
 omega
theorem fms_few {J:List RM} (o:∀ x ∈ J,x.Ok) (f:FewM J):(lst fM J).length≤70368744177664:=by
 have h1:=lst_len fM 20000000000 J (fun x hx=>by
  obtain ⟨i,hi,rfl⟩:=List.mem_iff_getElem.1 hx
  exact fm_few (o _ hx) (f.2 i hi))
 have h2:J.length*20000000000≤40*20000000000:=Nat.mul_le_mul_right _ f.1
 omega
end CoderLaw
end Go.Proofs.YtnpjkmomllkhpaaGreatDoor
