/- ReadPlain, RefRaw, RefState, RefMayS. -/
import Derived.Test.YtnpjkmomllkhpaaGreatDoorTn25
set_option linter.unusedVariables false
set_option linter.unusedSimpArgs false
set_option maxRecDepth 100000
set_option maxHeartbeats 40000000
namespace Go.Proofs.YtnpjkmomllkhpaaGreatDoor
namespace Taker
open RowKit YtnpjkmomllkhpaaGreatDoor.Mark Num Wire Bag Coder
theorem rd_back:∀ (l:List UInt8) (f i s:Nat),i+f=9→(rd l i s).2.2=0→∃ n r,l=up f n++r∧rd l i s=(s+n*128 ^ i,i+(up f n).length,0)∧(0<i→n≠0)
 | [],f,i,s,_,h=>by unfold rd at h;split at h <;> simp at h
 | c::r,f,i,s,hf,h=>by
  have hc:c.toNat<256:=c.toNat_lt;unfold rd at h ⊢;rw[if_neg (by omega)] at h ⊢;by_cases h1:128≤c.toNat
  ·rw[if_pos h1] at h ⊢;cases f with
   | zero =>
    obtain rfl:i=9:=by omega
    cases r <;> (unfold rd at h;simp at h)
   | succ f =>
    obtain ⟨n,t,e1,e2,e3⟩:=rd_back r f (i+1) _ (by omega) h;have hn:=e3 (by omega);refine ⟨(c.toNat - 128)+128*n,t,?_,?_,fun _=>by omega⟩
    · rw[up,if_neg (by omega),e1,show ((c.toNat - 128)+128*n) / 128=n by omega,show ((c.toNat - 128)+128*n) % 128+128=c.toNat by omega];simp
    rw[e2,up,if_neg (by omega),show ((c.toNat - 128)+128*n) / 128=n by omega,Nat.pow_succ,List.length_cons,Nat.add_mul,Prod.mk.injEq,Prod.mk.injEq];refine ⟨?_,by omega,rfl⟩;rw[Nat.add_assoc,Nat.mul_comm (128 ^ i) 128,← Nat.mul_assoc,Nat.mul_comm n 128]
  rw[if_neg h1] at h ⊢;split at h
  · simp at h
  rename_i h2
  split at h
  · simp at h
  rename_i h3
  rw[if_neg h2,if_neg h3];have hu:up f c.toNat=[c]:=by cases f <;> simp[up] <;> omega
  exact ⟨c.toNat,r,by rw[hu];rfl,by rw[hu];rfl,fun h0 e=>h3 ⟨h0,e⟩⟩
theorem rdL_back {l:List UInt8} (h:(rdL l).2.2=0):∃ n r,l=upL n++r∧rdL l=(n,(upL n).length,0):=by
 obtain ⟨n,r,e1,e2,_⟩:=rd_back l 9 0 0 rfl h;refine ⟨n,r,e1,?_⟩;have e2':rdL l=_:=e2;rw[e2',Nat.pow_zero,Nat.mul_one,Nat.zero_add,Nat.zero_add];rfl
theorem numS_back {most:Int} {l l':List UInt8} {E n:Int} (h:numS most l E=(n,l',0)):E=0∧∃ k:Nat,n=(k:Int)∧l=upL k++l':=by
 unfold numS at h;by_cases hE:E=0
 ·rw[if_neg (by simpa using hE)] at h;simp only[Prod.mk.injEq] at h;obtain ⟨h1,h2,h3⟩:=h;rw[if_pos h3] at h2;refine ⟨hE,?_⟩;unfold numT at h1 h2 h3;by_cases q:(rdL l).2.2=0
  ·rw[if_neg (by simpa using q)] at h1 h2 h3;split at h3
   · simp at h3
   rename_i hm
   rw[if_neg hm] at h1 h2;simp only at h1 h2;obtain ⟨k,r,e1,e2⟩:=rdL_back q;rw[e2] at h1 h2;simp only at h1 h2;refine ⟨k,h1.symm,?_⟩;rw[e1,List.drop_left] at h2;rw[e1,h2]
  rw[if_pos q] at h3;exact absurd h3 q
 rw[if_pos hE] at h;simp only[Prod.mk.injEq] at h;exact absurd h.2.2 hE
theorem textS_back {most:Int} {l l' p:List UInt8} {E:Int} (h:textS most l E=(p,l',0)):E=0∧l=tx p++l':=by
 unfold textS at h;by_cases hE:E=0
 ·rw[if_neg (by simpa using hE)] at h;simp only[Prod.mk.injEq] at h;obtain ⟨h1,h2,h3⟩:=h;rw[if_pos h3] at h2;refine ⟨hE,?_⟩;unfold textT at h1 h2 h3;by_cases q:(rdL l).2.2=0
  ·rw[if_neg (by simpa using q)] at h1 h2 h3;split at h3
   · simp at h3
   rename_i hm
   rw[if_neg hm] at h1 h2;split at h3
   · simp at h3
   rename_i hs
   rw[if_neg hs] at h1 h2;simp only at h1 h2;obtain ⟨k,r,e1,e2⟩:=rdL_back q;rw[e2] at h1 h2 hs;simp only at h1 h2 hs;rw[e1,List.length_append] at hs;rw[e1,List.drop_left] at h1;rw[e1,← List.drop_drop,List.drop_left] at h2;have hk:p.length=k:=by rw[← h1,List.length_take];omega
   rw[e1,tx,hk,List.append_assoc,← h1,← h2,List.take_append_drop]
  rw[if_pos q] at h3;exact absurd h3 q
 rw[if_pos hE] at h;simp only[Prod.mk.injEq] at h;exact absurd h.2.2 hE
theorem boolS_back {l l':List UInt8} {x:Bool} {E:Int} (h:boolS l E=(x,l',0)):E=0∧l=tb x++l':=by
 unfold boolS at h;by_cases hE:E=0
 ·rw[if_neg (by simpa using hE)] at h;simp only[Prod.mk.injEq] at h;obtain ⟨h1,h2,h3⟩:=h;rw[if_pos h3] at h2;refine ⟨hE,?_⟩;cases l with
  | nil=>simp[boolT] at h3
  | cons c r =>
   have e:boolT (c::r)=if 1<c.toNat then (false,0,8) else (c.toNat == 1,1,0):=rfl
   rw[e] at h1 h2 h3;by_cases q:1<c.toNat
   · rw[if_pos q] at h3;simp at h3
   rw[if_neg q] at h1 h2;have hc:c.toNat=0∨c.toNat=1:=by omega
   rcases hc with hc | hc
   ·have e:c=0:=UInt8.toNat_inj.1 hc;subst e;subst h1 h2;rfl
   have e:c=1:=UInt8.toNat_inj.1 hc;subst e;subst h1 h2;rfl
 rw[if_pos hE] at h;simp only[Prod.mk.injEq] at h;exact absurd h.2.2 hE
def Canon {α:Type} (f:List UInt8→Int→α × List UInt8 × Int) (enc:α→List UInt8):Prop:=∀ l x l',f l 0=(x,l',0)→l=enc x++l'
theorem num_canon {most:Int} {l l':List UInt8} {n:Nat} (h:((numS most l 0).1.toNat,(numS most l 0).2)=(n,l',0)):l=upL n++l':=by
 obtain ⟨m,p,q,e⟩:∃ m p q,numS most l 0=(m,p,q):=⟨_,_,_,rfl⟩
 rw[e] at h;simp only[Prod.mk.injEq] at h;obtain ⟨h1,rfl,rfl⟩:=h;obtain ⟨_,k,rfl,hk⟩:=numS_back e;rw[← h1];simpa using hk
theorem nat_canon:Canon natS upL:=fun _ _ _ h=>num_canon h
theorem small_canon:Canon smallS upL:=fun _ _ _ h=>num_canon h
theorem word_canon:Canon wordS tx:=fun _ _ _ h=>(textS_back h).2
theorem truth_canon:Canon truthS tb:=fun _ _ _ h=>(boolS_back h).2
theorem bind_ok {α β:Type} {p:α × List UInt8 × Int} {f:α→List UInt8→Int→β × List UInt8 × Int} {y:β} {l':List UInt8} (h:bindR p f=(y,l',0)) (hf:∀ x,Keeps (f x)):∃ x l,p=(x,l,0)∧f x l 0=(y,l',0):=by
 obtain ⟨x,l,E⟩:=p;have h':f x l E=(y,l',0):=h;by_cases hE:E=0
 · subst hE;exact ⟨x,l,rfl,h'⟩
 have:=(hf x).stay l E hE;rw[h'] at this;simp only[Prod.mk.injEq] at this;exact absurd this.2.symm hE
theorem loop_canon {α:Type} {each:List UInt8→Int→α × List UInt8 × Int} {enc:α→List UInt8} (he:Eats each) (hc:Canon each enc):∀ (n:Nat) (l:List UInt8) (xs:List α) (l':List UInt8),loopS each n l 0=(xs,l',0)→xs.length=n∧l=xs.flatMap enc++l'
 | 0,l,xs,l',h=>by
  have h':(([]:List α),l,(0:Int))=(xs,l',0):=h;simp only[Prod.mk.injEq,and_true] at h';obtain ⟨rfl,rfl⟩:=h';exact ⟨rfl,rfl⟩
 | n+1,l,xs,l',h=>by
  have h':(if (0:Int)≠0 then (([]:List α),l,(0:Int)) else bindR (each l 0) fun x l1 E1=>bindR (loopS each n l1 E1) fun xs l2 E2=>(x::xs,l2,E2))=(xs,l',0):=h;rw[if_neg (by simp)] at h';obtain ⟨y,l1,e1,h1⟩:=bind_ok h' (fun x=>(loopS_keeps he n).bind fun xs=>keeps_pure _);obtain ⟨ys,l2,e2,h2⟩:=bind_ok h1 (fun xs=>keeps_pure _);simp only[Prod.mk.injEq,and_true] at h2;obtain ⟨rfl,rfl⟩:=h2;obtain ⟨i1,i2⟩:=loop_canon he hc n _ _ _ e2;have c:=hc _ _ _ e1;exact ⟨by rw[List.length_cons,i1],by rw[List.flatMap_cons,List.append_assoc,← i2,← c]⟩
theorem many_canon {α:Type} {each:List UInt8→Int→α × List UInt8 × Int} {enc:α→List UInt8} (he:Eats each) (hc:Canon each enc):Canon (manyS each) (lst enc):=fun l xs l' h=>by
 obtain ⟨n,l1,e1,h1⟩:=bind_ok h (fun n=>loopS_keeps he n);obtain ⟨i1,i2⟩:=loop_canon he hc _ _ _ _ h1;have c:=nat_canon _ _ _ e1;unfold lst;rw[i1,List.append_assoc,← i2,← c]
theorem mark_canon:Canon markS mk:=fun l x l' h=>by
 obtain ⟨x0,l0,e0,h⟩:=bind_ok h (fun _=>nat_eats.keeps.bind fun _=>keeps_pure _);obtain ⟨x1,l1,e1,h⟩:=bind_ok h (fun _=>keeps_pure _);simp only[Prod.mk.injEq,and_true] at h;obtain ⟨rfl,rfl⟩:=h;rw[word_canon _ _ _ e0,nat_canon _ _ _ e1];simp only[mk,List.append_assoc]
theorem dot_canon:Canon dotS mk:=fun l x l' h=>by
 obtain ⟨x0,l0,e0,h⟩:=bind_ok h (fun _=>nat_eats.keeps.bind fun _=>keeps_pure _);obtain ⟨x1,l1,e1,h⟩:=bind_ok h (fun _=>keeps_pure _);simp only[Prod.mk.injEq,and_true] at h;obtain ⟨rfl,rfl⟩:=h;rw[word_canon _ _ _ e0,nat_canon _ _ _ e1];simp only[mk,List.append_assoc]
theorem count_canon:Canon countS ct:=fun l x l' h=>by
 obtain ⟨x0,l0,e0,h⟩:=bind_ok h (fun _=>nat_eats.keeps.bind fun _=>nat_eats.keeps.bind fun _=>keeps_pure _);obtain ⟨x1,l1,e1,h⟩:=bind_ok h (fun _=>nat_eats.keeps.bind fun _=>keeps_pure _);obtain ⟨x2,l2,e2,h⟩:=bind_ok h (fun _=>keeps_pure _);simp only[Prod.mk.injEq,and_true] at h;obtain ⟨rfl,rfl⟩:=h;rw[word_canon _ _ _ e0,nat_canon _ _ _ e1,nat_canon _ _ _ e2];simp only[ct,List.append_assoc]
theorem item_canon:Canon itemS itb:=fun l x l' h=>by
 obtain ⟨x0,l0,e0,h⟩:=bind_ok h (fun _=>(many_eats dot_eats).keeps.bind fun _=>keeps_pure _);obtain ⟨x1,l1,e1,h⟩:=bind_ok h (fun _=>keeps_pure _);simp only[Prod.mk.injEq,and_true] at h;obtain ⟨rfl,rfl⟩:=h;rw[word_canon _ _ _ e0,(many_canon dot_eats dot_canon) _ _ _ e1];simp only[itb,List.append_assoc]
theorem cell_canon:Canon cellS Coder.cl:=fun l x l' h=>by
 obtain ⟨x0,l0,e0,h⟩:=bind_ok h (fun _=>word_eats.keeps.bind fun _=>truth_eats.keeps.bind fun _=>keeps_pure _);obtain ⟨x1,l1,e1,h⟩:=bind_ok h (fun _=>truth_eats.keeps.bind fun _=>keeps_pure _);obtain ⟨x2,l2,e2,h⟩:=bind_ok h (fun _=>keeps_pure _);simp only[Prod.mk.injEq,and_true] at h;obtain ⟨rfl,rfl⟩:=h;rw[nat_canon _ _ _ e0,word_canon _ _ _ e1,truth_canon _ _ _ e2];simp only[Coder.cl,List.append_assoc]
theorem entry_tail (k:List UInt8) (s:List M):Keeps (fun l1 E1=>if kd k=1 then bindR (manyS countS l1 E1) fun c l2 E2=>((⟨k,s,c,[],Cl.zero⟩:Coder.E),l2,E2)
 else if kd k=2 then bindR (manyS itemS l1 E1) fun i l2 E2=>((⟨k,s,[],i,Cl.zero⟩:Coder.E),l2,E2)
 else if kd k=3 then bindR (cellS l1 E1) fun c l2 E2=>((⟨k,s,[],[],c⟩:Coder.E),l2,E2)
 else ((⟨k,s,[],[],Cl.zero⟩:Coder.E),l1,if E1≠0 then E1 else 8)):=by
 by_cases k1:kd k=1
 ·simp only[if_pos k1];exact (many_eats count_eats).keeps.bind fun _=>keeps_pure _
 by_cases k2:kd k=2
 ·simp only[if_neg k1,if_pos k2];exact (many_eats item_eats).keeps.bind fun _=>keeps_pure _
 by_cases k3:kd k=3
 ·simp only[if_neg k1,if_neg k2,if_pos k3];exact cell_eats.keeps.bind fun _=>keeps_pure _
 simp only[if_neg k1,if_neg k2,if_neg k3];exact ⟨fun l E hE=>by show (l,if E≠0 then E else 8)=(l,E);rw[if_pos hE],fun l=>Nat.le_refl _⟩
theorem entry_canon:Canon entryS en:=fun l x l' h=>by
 obtain ⟨k,l0,e0,h⟩:=bind_ok h (fun k=>(many_eats mark_eats).keeps.bind fun s=>entry_tail k s);obtain ⟨s,l1,e1,h⟩:=bind_ok h (fun s=>entry_tail k s);rw[word_canon _ _ _ e0,many_canon mark_eats mark_canon _ _ _ e1];by_cases k1:kd k=1
 ·simp only[if_pos k1] at h;obtain ⟨c,l2,e2,h⟩:=bind_ok h (fun _=>keeps_pure _);simp only[Prod.mk.injEq,and_true] at h;obtain ⟨rfl,rfl⟩:=h;rw[many_canon count_eats count_canon _ _ _ e2];simp only[en,body,if_pos k1,List.append_assoc]
 by_cases k2:kd k=2
 ·simp only[if_neg k1,if_pos k2] at h;obtain ⟨c,l2,e2,h⟩:=bind_ok h (fun _=>keeps_pure _);simp only[Prod.mk.injEq,and_true] at h;obtain ⟨rfl,rfl⟩:=h;rw[many_canon item_eats item_canon _ _ _ e2];simp only[en,body,if_neg k1,if_pos k2,List.append_assoc]
 by_cases k3:kd k=3
 ·simp only[if_neg k1,if_neg k2,if_pos k3] at h;obtain ⟨c,l2,e2,h⟩:=bind_ok h (fun _=>keeps_pure _);simp only[Prod.mk.injEq,and_true] at h;obtain ⟨rfl,rfl⟩:=h;rw[cell_canon _ _ _ e2];simp only[en,body,if_neg k1,if_neg k2,if_pos k3,List.append_assoc]
 simp only[if_neg k1,if_neg k2,if_neg k3,Prod.mk.injEq] at h;exact absurd h.2.2 (by decide)
theorem state_canon:Canon stateS Coder.stb:=fun l x l' h=>by
 obtain ⟨x0,l0,e0,h⟩:=bind_ok h (fun _=>(many_eats entry_eats).keeps.bind fun _=>(many_eats word_eats).keeps.bind fun _=>keeps_pure _);obtain ⟨x1,l1,e1,h⟩:=bind_ok h (fun _=>(many_eats word_eats).keeps.bind fun _=>keeps_pure _);obtain ⟨x2,l2,e2,h⟩:=bind_ok h (fun _=>keeps_pure _);simp only[Prod.mk.injEq,and_true] at h;obtain ⟨rfl,rfl⟩:=h;rw[(many_canon mark_eats mark_canon) _ _ _ e0,(many_canon entry_eats entry_canon) _ _ _ e1,(many_canon word_eats word_canon) _ _ _ e2];simp only[Coder.stb,List.append_assoc]
end Taker
namespace RefWrite
open RowKit YtnpjkmomllkhpaaGreatDoor.Mark Num Wire Bag Coder
theorem part_le {α:Type} (f:α→List UInt8) (L:List α) {k:Nat} (h:k<L.length):(acc f L k).length+(f L[k]).length≤(lst f L).length:=by
 have:=acc_le f L (k+1);rw[acc_step f h,List.length_append] at this;exact this
theorem raw_any (x:RE) (w:World) (hx:InnerE w x) (ox:x.Ok) (hky:x.k.length≤65536) (h0:kd x.k≠0) (hs:(fE x).length≤70368744177664) :
  CB 40 #[.agg x] w (fE x):=by
 have lx:=hid hx;have OX:=hid ox;have hcn:=ox.c;have hjn:=ox.j;have hkl:=ox.k;have htl:=ox.t;have hgl:=ox.g;obtain ⟨k,hk⟩:=nm (kd x.k);have hk3:k≤3:=by rw[hk];exact kd_le _
 have KD:=hid (fun W=>(by rw[hk];exact RefMay.refkind x.k W hky:CB 61 #[x.k] W (.int .u8 (k:Nat))));have HB:Hid (body x.e=if k=1 then lst ct x.c else if k=2 then lst itb (x.j.map RI.it) else if k=3 then cl x.l else []):=hid (by rw[hk];rfl);rw[← hk] at h0;have K0:=hid h0;obtain ⟨p0,hp0⟩:=nm (tx x.k);have b0:p0.length≤1048586:=by rw[hp0];have:=tx_len x.k;omega
 have R0:Hid ([x.k].flatMap tx=p0):=hid (by rw[hp0];simp);obtain ⟨p1,hp1⟩:=nm (lst mk x.s);obtain ⟨H,hH⟩:=nm (p0++p1);have HV0:Hid (fE x=H++body x.e):=hid (by rw[hH,hp0,hp1];rfl);rw[HV0.out,List.length_append] at hs;have hl:H.length=p0.length+p1.length:=by rw[hH,List.length_append]
 have aH:(({ data:=p0.toArray }:ByteArray))++{ data:=p1.toArray }={ data:=H.toArray }:=by rw[hH];exact Str.mk_append_mk p0 p1
 have b1:p1.length≤70368744177664:=by omega
 have z0:=Str.size_mk p0;have z1:=Str.size_mk p1;have zH:=Str.size_mk H;have nH:¬ (9223372036854775807<p0.length+p1.length):=by omega
 have mH:¬ (p0.length+p1.length > 9223372036854775807):=by omega
 have D6:=hid (fun W (h:InnerE W x)=>qS hp1 (marks_any x.sa x.sc x.s W h.s OX.out.s OX.out.sm (by rw[← hp1];exact b1)));have HLB:Hid (H.length+(body x.e).length≤70368744177664):=hid hs;replace hH:=hid hH;replace hl:=hid hl;clear hp0 hp1 hk hs hx ox h0 hky;go_enter Tryz.func40,Tryz.ntmps40;go_upto_region 1 with (fail)
 have hb0:=balloc (Below.refl w.heap.size w) (.cells x 29);obtain ⟨t0,t1,t2,t3,t4,t5,t6⟩:=al7 (bx w x 29);obtain ⟨w0,hw0⟩:=nm (w.alloc (.cells x 29));rw[← hw0] at hb0 t0 t1 t2 t3 t4 t5 t6 ⊢;obtain ⟨bt,hbt⟩:=nm w.heap.size;rw[← hbt] at t0 t1 t2 t3 t4 t5 t6 ⊢;have hb:=hb0;clear hb0 hw0 hbt;replace lx:=hid (lx.out.below hb);go_upto_region 1 with fail
 go_cut [3] (fun s wx=>s=.string ⟨H.toArray⟩∧Below w.heap.size w wx∧wx.cell? ⟨bt,0,none⟩=some ↑x.k∧wx.cell? ⟨bt,1,none⟩=some (.slice x.sa x.s.length x.sc)∧wx.cell? ⟨bt,2,none⟩=some (.slice x.ca x.c.length x.cc)∧wx.cell? ⟨bt,3,none⟩=some (.slice x.ia x.j.length x.ic)∧wx.cell? ⟨bt,4,none⟩=some ↑x.l.s∧wx.cell? ⟨bt,5,none⟩=some ↑x.l.t∧wx.cell? ⟨bt,6,none⟩=some ↑x.l.g∧InnerE wx x)
 case first =>
  refine rh (aj9 hb t0 t1 t2 t3 t4 t5 t6 lx.out) fun wd gH=>?_;refine tk [0,1,4,5] ?_;refine tR 2 fun K hK=>?_;go_simp;refine tA hK gH fun gH=>?_;clear hK K;have N2:=txts_here [x.k] (by intro y hy;simp at hy;subst hy;omega) rfl 1 rfl gH.1;try simp only[World.size_alloc] at N2
  refine tR 3 fun K hK=>?_;go_simp;go_at_call 63;refine cr (texts_w N2 p0 R0.out (by omega) (by omega)) fun v1 k1=>?_;replace N2:=(N2).below rfl k1;go_wp2_with fail
  refine tH hK gH k1 fun gH=>?_;clear hK K k1;refine tR 6 fun K hK=>?_;go_simp;go_at_call 50;refine cr (D6.out _ gH.2.2.2.2.2.2.2.2) fun v2 k2=>?_;replace N2:=(N2).below rfl k2;go_wp2_with fail
  refine tH hK gH k2 fun gH=>?_;clear hK K k2;refine tk [7,8] ?_;refine tD ?_;clear hb t0 t1 t2 t3 t4 t5 t6 lx;obtain ⟨hb,t0,t1,t2,t3,t4,t5,t6,lx⟩:=gH;replace lx:=hid lx;go_wp2_with fail
  go_meet;exact ⟨rfl,hb,t0,t1,t2,t3,t4,t5,t6,lx.out⟩
 clear hb t0 t1 t2 t3 t4 t5 t6 lx;obtain ⟨rfl,hb,t0,t1,t2,t3,t4,t5,t6,lx⟩:=hcut;replace lx:=hid lx;clear D6;go_wp2_with fail
 refine cr (KD.out _) fun v3 k3=>?_;have hA:=kp k3 (aj7 t0 t1 t2 t3 t4 t5 t6);clear t0 t1 t2 t3 t4 t5 t6;obtain ⟨t0,t1,t2,t3,t4,t5,t6⟩:=hA;replace lx:=hid ((lx.out).below k3);replace hb:=bstep hb k3;clear k3 KD;by_cases k1:k=1
 ·
  have zz1:=bT (a:=k) (b:=1);have HLC:Hid (H.length+(lst ct x.c).length≤70368744177664):=hid (by have:=HLB.out;rw[HB.out,if_pos k1] at this;exact this);have HVX:Hid (fE x=H++lst ct x.c):=hid (by rw[HV0.out,HB.out,if_pos k1]);have hHl:H.length≤70368744177664:=by have:=HLC.out;omega
  clear k1;have w8:IntKind.u64.wrap (x.c.length:Int)=(x.c.length:Int):=by rw[IntKind.wrap_u64];omega
  obtain ⟨pn,hpn⟩:=nm (upL x.c.length);have bn:pn.length≤10:=by rw[hpn];exact up_len _
  have RN:Hid (cat [x.c.length]=pn):=hid (by rw[hpn];simp[cat]);have zn:=Str.size_mk pn;obtain ⟨S1,hS1⟩:=nm (H++pn);have lS1:S1.length=H.length+pn.length:=by rw[hS1,List.length_append]
  have aS1:(({ data:=H.toArray }:ByteArray))++{ data:=pn.toArray }={ data:=S1.toArray }:=by rw[hS1];exact Str.mk_append_mk H pn
  have zS1:=Str.size_mk S1;have nS1:¬ (9223372036854775807<H.length+pn.length):=by omega
  have mS1:¬ (H.length+pn.length > 9223372036854775807):=by omega
  have HA1:Hid (S1=H++acc ct x.c 0):=hid (by rw[hS1,hpn,acc_zero]);replace hS1:=hid hS1;replace lS1:=hid lS1;clear hpn;go_upto_region 5 with (fail)
  go_wp2_with fail
  have N0:=nats_here [x.c.length] (by intro y hy;simp at hy;omega) (C:=#[x.c.length]) (t:=25) rfl 1 rfl (balloc hb _);refine cr (nums_w N0 (by omega) pn RN.out) fun v4 k4=>?_;replace k4:=(balloc (Below.refl _ _) _).trans (k4.mono (balloc (Below.refl _ _) _).size);have hA:=kp k4 (aj7 t0 t1 t2 t3 t4 t5 t6);clear t0 t1 t2 t3 t4 t5 t6;obtain ⟨t0,t1,t2,t3,t4,t5,t6⟩:=hA;replace lx:=hid ((lx.out).below k4);replace hb:=bstep hb k4;clear k4 N0 RN;go_wp2_with fail
  go_loopw [3,4] (fun sv iv wr=>∃ (q:Nat) (s:List UInt8),q≤x.c.length∧sv=.string ⟨s.toArray⟩∧iv=.int .i64 q∧Hid (s=H++acc ct x.c q)∧Below w.heap.size w wr∧(wr.cell? ⟨bt,0,none⟩=some ↑x.k)∧(wr.cell? ⟨bt,1,none⟩=some (.slice x.sa x.s.length x.sc))∧(wr.cell? ⟨bt,2,none⟩=some (.slice x.ca x.c.length x.cc))∧(wr.cell? ⟨bt,3,none⟩=some (.slice x.ia x.j.length x.ic))∧(wr.cell? ⟨bt,4,none⟩=some ↑x.l.s)∧(wr.cell? ⟨bt,5,none⟩=some ↑x.l.t)∧(wr.cell? ⟨bt,6,none⟩=some ↑x.l.g)∧Hid (InnerE wr x)) (fun _ iv _=>x.c.length - (intOf iv).toNat)
  case atStart=>exact ⟨0,S1,by omega,rfl,rfl,HA1,hb,t0,t1,t2,t3,t4,t5,t6,lx⟩
  clear hb t0 t1 t2 t3 t4 t5 t6 lx HA1 bn zn;obtain ⟨q,s,hq,rfl,rfl,HA,hb,t0,t1,t2,t3,t4,t5,t6,lx⟩:=hrel;by_cases hlt:q<x.c.length;rotate_left
  ·have HE:Hid (fE x=s):=hid (by rw[HVX.out,HA.out,acc_all _ _ (by omega)]);have dq:=dF (p:=(q:Int)<(x.c.length:Int));go_wp2;go_ret;exact ⟨by rw[HE.out];rfl,hb⟩
  have d1:=dT (p:=(q:Int)<(x.c.length:Int));have j1:(0:Int)≤(q:Int):=by omega
  have j2:(q:Int)<(x.c.length:Int):=by omega
  obtain ⟨b,o,hea,hc⟩:=lx.out.c.2 (by omega);rw[hea] at t2 ⊢;obtain ⟨c0,c1,c2⟩:=cl3 (o+q*3) (hc q hlt);have HT:=hid (acc_step ct hlt);have hcm:=OX.out.cm _ (List.getElem_mem hlt);have hal:=part_le ct x.c hlt;have hsl:s.length=H.length+(acc ct x.c q).length:=by rw[HA.out,List.length_append]
  obtain ⟨m,hm⟩:=nm x.c[q];rw[← hm] at c0 c1 c2 HT hcm hal;have hb1:=hcm.1;have hb2:=hcm.2.1;have hb3:=hcm.2.2;have hsl2:s.length≤70368744177664:=by have:=HLC.out;omega
  have zs:=Str.size_mk s;obtain ⟨r0,hr0⟩:=nm (tx m.p);have e0:r0.length≤1048586:=by rw[hr0];have:=tx_len m.p;omega
  have Q0:Hid ([m.p].flatMap tx=r0):=hid (by rw[hr0];simp);have y0:=Str.size_mk r0;obtain ⟨r1,hr1⟩:=nm (upL m.a++upL m.b);have e1:r1.length≤20:=by rw[hr1,List.length_append];have:=up_len m.a;have:=up_len m.b;omega
  have Q1:Hid (cat [m.a,m.b]=r1):=hid (by rw[hr1];simp[cat]);have y1:=Str.size_mk r1;clear hal hsl;obtain ⟨C1,hC1,lC1,aC1,zC1,nC1,mC1⟩:=apd s r0 (by omega);obtain ⟨C2,hC2,lC2,aC2,zC2,nC2,mC2⟩:=apd C1 r1 (by omega);have HV:Hid (C2=H++acc ct x.c (q+1)):=hid (by rw[HT.out,hC2,hC1,HA.out,hr0,hr1];unfold ct;simp only[List.append_assoc]);have HI:=hid hlt;replace hC1:=hid hC1;replace lC1:=hid lC1;replace hC2:=hid hC2;replace lC2:=hid lC2;clear hr0 hr1 hm hc hlt HT HA hcm hea;go_wp2_with fail
  refine rh (aj12 hb t0 t1 t2 t3 t4 t5 t6 lx.out c0 c1 c2) fun wd gH=>?_;refine tk [0,1,2,3,4,5,6,10,11,12,13,14,15,16,17,18,19,20,21] ?_;refine tR2 7 22 (fun K hK=>?_) fun K hK=>?_
  ·
   go_simp;refine tA hK gH fun gH=>?_;clear hK K;have N7:=txts_here [m.p] (by intro y hy;simp at hy;subst hy;omega) rfl 1 rfl gH.1;try simp only[World.size_alloc] at N7
   refine tR2 8 22 (fun K hK=>?_) fun K hK=>?_
   ·
    go_simp;go_at_call 63;refine cr (texts_w N7 r0 Q0.out (by omega) (by omega)) fun v5 k5=>?_;replace N7:=(N7).below rfl k5;go_wp2_with fail
    refine tH hK gH k5 fun gH=>?_;clear hK K k5;refine tk [9] ?_;refine tR 22 fun K hK=>?_;go_simp;refine tA hK gH fun gH=>?_;clear hK K;replace N7:=txts_move N7 gH.1;have N22:=nats_here [m.a,m.b] (by intro y hy;simp at hy;omega) rfl 2 rfl gH.1;try simp only[World.size_alloc] at N22
    refine tR 23 fun K hK=>?_;go_simp;go_at_call 62;refine cr (nums_w N22 (by omega) r1 Q1.out) fun v6 k6=>?_;replace N7:=(N7).below rfl k6;replace N22:=(N22).below rfl k6;go_wp2_with fail
    refine tH hK gH k6 fun gH=>?_;clear hK K k6;refine tk [24,25] ?_;refine tD ?_;clear hb t0 t1 t2 t3 t4 t5 t6 lx c0 c1 c2;obtain ⟨hb,t0,t1,t2,t3,t4,t5,t6,lx,c0,c1,c2⟩:=gH;replace lx:=hid lx;go_wp2;go_roundw
    ·exact ⟨q+1,C2,by have:=HI.out;omega,rfl,by go_num,HV,hb,t0,t1,t2,t3,t4,t5,t6,lx⟩
    simp[intOf];have:=HI.out;omega
   go_simp;refine tA hK gH fun gH=>?_;clear hK K;replace N7:=txts_move N7 gH.1;have N22:=nats_here [m.a,m.b] (by intro y hy;simp at hy;omega) rfl 2 rfl gH.1;try simp only[World.size_alloc] at N22
   refine tR 8 fun K hK=>?_;go_simp;go_at_call 63;refine cr (texts_w N7 r0 Q0.out (by omega) (by omega)) fun v7 k7=>?_;replace N7:=(N7).below rfl k7;replace N22:=(N22).below rfl k7;go_wp2_with fail
   refine tH hK gH k7 fun gH=>?_;clear hK K k7;refine tk [9] ?_;refine tR 23 fun K hK=>?_;go_simp;go_at_call 62;refine cr (nums_w N22 (by omega) r1 Q1.out) fun v8 k8=>?_;replace N7:=(N7).below rfl k8;replace N22:=(N22).below rfl k8;go_wp2_with fail
   refine tH hK gH k8 fun gH=>?_;clear hK K k8;refine tk [24,25] ?_;refine tD ?_;clear hb t0 t1 t2 t3 t4 t5 t6 lx c0 c1 c2;obtain ⟨hb,t0,t1,t2,t3,t4,t5,t6,lx,c0,c1,c2⟩:=gH;replace lx:=hid lx;go_wp2;go_roundw
   ·exact ⟨q+1,C2,by have:=HI.out;omega,rfl,by go_num,HV,hb,t0,t1,t2,t3,t4,t5,t6,lx⟩
   simp[intOf];have:=HI.out;omega
  go_simp;refine tA hK gH fun gH=>?_;clear hK K;have N22:=nats_here [m.a,m.b] (by intro y hy;simp at hy;omega) rfl 2 rfl gH.1;try simp only[World.size_alloc] at N22
  refine tR 7 fun K hK=>?_;go_simp;refine tA hK gH fun gH=>?_;clear hK K;replace N22:=nats_move N22 gH.1;have N7:=txts_here [m.p] (by intro y hy;simp at hy;subst hy;omega) rfl 1 rfl gH.1;try simp only[World.size_alloc] at N7
  refine tR 8 fun K hK=>?_;go_simp;go_at_call 63;refine cr (texts_w N7 r0 Q0.out (by omega) (by omega)) fun v9 k9=>?_;replace N22:=(N22).below rfl k9;replace N7:=(N7).below rfl k9;go_wp2_with fail
  refine tH hK gH k9 fun gH=>?_;clear hK K k9;refine tk [9] ?_;refine tR 23 fun K hK=>?_;go_simp;go_at_call 62;refine cr (nums_w N22 (by omega) r1 Q1.out) fun v10 k10=>?_;replace N22:=(N22).below rfl k10;replace N7:=(N7).below rfl k10;go_wp2_with fail
  refine tH hK gH k10 fun gH=>?_;clear hK K k10;refine tk [24,25] ?_;refine tD ?_;clear hb t0 t1 t2 t3 t4 t5 t6 lx c0 c1 c2;obtain ⟨hb,t0,t1,t2,t3,t4,t5,t6,lx,c0,c1,c2⟩:=gH;replace lx:=hid lx;go_wp2;go_roundw
  ·exact ⟨q+1,C2,by have:=HI.out;omega,rfl,by go_num,HV,hb,t0,t1,t2,t3,t4,t5,t6,lx⟩
  simp[intOf];have:=HI.out;omega
 by_cases k2:k=2
 ·
  have zz1:=bF (a:=k) (b:=1);have zz2:=bT (a:=k) (b:=2);obtain ⟨Is,hIs⟩:=nm (x.j.map RI.it);have HLC:Hid (H.length+(lst itb Is).length≤70368744177664):=hid (by have:=HLB.out;rw[HB.out,if_neg k1,if_pos k2,← hIs] at this;exact this);have HVX:Hid (fE x=H++lst itb Is):=hid (by rw[HV0.out,HB.out,if_neg k1,if_pos k2,← hIs]);have hHl:H.length≤70368744177664:=by have:=HLC.out;omega
  have HIL:Hid (Is.length=x.j.length):=hid (by rw[hIs,List.length_map]);have HIs:=hid hIs;clear k1 k2 hIs;have w8:IntKind.u64.wrap (x.j.length:Int)=(x.j.length:Int):=by rw[IntKind.wrap_u64];omega
  obtain ⟨pn,hpn⟩:=nm (upL x.j.length);have bn:pn.length≤10:=by rw[hpn];exact up_len _
  have RN:Hid (cat [x.j.length]=pn):=hid (by rw[hpn];simp[cat]);have zn:=Str.size_mk pn;obtain ⟨S1,hS1⟩:=nm (H++pn);have lS1:S1.length=H.length+pn.length:=by rw[hS1,List.length_append]
  have aS1:(({ data:=H.toArray }:ByteArray))++{ data:=pn.toArray }={ data:=S1.toArray }:=by rw[hS1];exact Str.mk_append_mk H pn
  have zS1:=Str.size_mk S1;have nS1:¬ (9223372036854775807<H.length+pn.length):=by omega
  have mS1:¬ (H.length+pn.length > 9223372036854775807):=by omega
  have HA1:Hid (S1=H++acc itb Is 0):=hid (by rw[hS1,hpn,acc_zero,HIL.out]);replace hS1:=hid hS1;replace lS1:=hid lS1;clear hpn;go_upto_region 11 with (fail)
  go_wp2_with fail
  have N0:=nats_here [x.j.length] (by intro y hy;simp at hy;omega) (C:=#[x.j.length]) (t:=25) rfl 1 rfl (balloc hb _);refine cr (nums_w N0 (by omega) pn RN.out) fun v11 k11=>?_;replace k11:=(balloc (Below.refl _ _) _).trans (k11.mono (balloc (Below.refl _ _) _).size);have hA:=kp k11 (aj7 t0 t1 t2 t3 t4 t5 t6);clear t0 t1 t2 t3 t4 t5 t6;obtain ⟨t0,t1,t2,t3,t4,t5,t6⟩:=hA;replace lx:=hid ((lx.out).below k11);replace hb:=bstep hb k11;clear k11 N0 RN;go_wp2_with fail
  go_loopw [3,5] (fun sv iv wr=>∃ (q:Nat) (s:List UInt8),q≤x.j.length∧sv=.string ⟨s.toArray⟩∧iv=.int .i64 q∧Hid (s=H++acc itb Is q)∧Below w.heap.size w wr∧(wr.cell? ⟨bt,0,none⟩=some ↑x.k)∧(wr.cell? ⟨bt,1,none⟩=some (.slice x.sa x.s.length x.sc))∧(wr.cell? ⟨bt,2,none⟩=some (.slice x.ca x.c.length x.cc))∧(wr.cell? ⟨bt,3,none⟩=some (.slice x.ia x.j.length x.ic))∧(wr.cell? ⟨bt,4,none⟩=some ↑x.l.s)∧(wr.cell? ⟨bt,5,none⟩=some ↑x.l.t)∧(wr.cell? ⟨bt,6,none⟩=some ↑x.l.g)∧Hid (InnerE wr x)) (fun _ iv _=>x.j.length - (intOf iv).toNat)
  case atStart=>exact ⟨0,S1,by omega,rfl,rfl,HA1,hb,t0,t1,t2,t3,t4,t5,t6,lx⟩
  clear hb t0 t1 t2 t3 t4 t5 t6 lx HA1 bn zn;obtain ⟨q,s,hq,rfl,rfl,HA,hb,t0,t1,t2,t3,t4,t5,t6,lx⟩:=hrel;by_cases hlt:q<x.j.length;rotate_left
  ·have HE:Hid (fE x=s):=hid (by rw[HVX.out,HA.out,acc_all _ _ (by have:=HIL.out;omega)]);have dq:=dF (p:=(q:Int)<(x.j.length:Int));go_wp2;go_ret;exact ⟨by rw[HE.out];rfl,hb⟩
  have d1:=dT (p:=(q:Int)<(x.j.length:Int));have j1:(0:Int)≤(q:Int):=by omega
  have j2:(q:Int)<(x.j.length:Int):=by omega
  obtain ⟨b,o,hea,hc⟩:=lx.out.i.1.2 (by omega);rw[hea] at t3 ⊢;obtain ⟨c0,c1⟩:=cl2 (o+q*2) (hc q hlt);have ly:Hid (Row.Lies dE wr (x.j[q]).a (x.j[q]).d.length (x.j[q]).d):=hid (lx.out.i.2 _ (List.getElem_mem hlt));have hqi:q<Is.length:=by have:=HIL.out;omega
  have hiq:Is[q]=(x.j[q]).it:=by
   have e:=HIs.out;subst e;rw[List.getElem_map]
  have HT:=hid (acc_step itb hqi);have hal:=part_le itb Is hqi;rw[hiq] at HT hal;have hcm:=OX.out.jm _ (List.getElem_mem hlt);have hsl:s.length=H.length+(acc itb Is q).length:=by rw[HA.out,List.length_append]
  obtain ⟨m,hm⟩:=nm x.j[q];rw[← hm] at c0 c1 ly HT hal hcm;obtain ⟨t,da,dc,D⟩:=m;dsimp only at c0 c1 ly hcm;have hb1:=hcm.1;have hdl:=hcm.2.1;have HDM:=hid hcm.2.2.1;have hsl2:s.length≤70368744177664:=by have:=HLC.out;omega
  have zs:=Str.size_mk s;obtain ⟨r0,hr0⟩:=nm (tx t);have e0:r0.length≤1048586:=by rw[hr0];have:=tx_len t;omega
  have Q0:Hid ([t].flatMap tx=r0):=hid (by rw[hr0];simp);have y0:=Str.size_mk r0;have hib:(itb (RI.it ⟨t,da,dc,D⟩)).length=r0.length+(lst mk D).length:=by rw[hr0];unfold itb;rw[List.length_append];rfl
  rw[hib] at hal;have HAL:Hid (s.length+(r0.length+(lst mk D).length)≤70368744177664):=hid (by have:=HLC.out;omega);obtain ⟨r1,hr1⟩:=nm (upL D.length);have e1:r1.length≤10:=by rw[hr1];exact up_len _
  have Q1:Hid (cat [D.length]=r1):=hid (by rw[hr1];simp[cat]);have y1:=Str.size_mk r1;have w9:IntKind.u64.wrap (D.length:Int)=(D.length:Int):=by rw[IntKind.wrap_u64];omega
  clear hal hsl hib;obtain ⟨C1,hC1,lC1,aC1,zC1,nC1,mC1⟩:=apd s r0 (by omega);obtain ⟨C2,hC2,lC2,aC2,zC2,nC2,mC2⟩:=apd C1 r1 (by omega);have HA2:Hid (C2=C1++acc mk D 0):=hid (by rw[hC2,hr1,acc_zero]);have HV:Hid (C1++lst mk D=H++acc itb Is (q+1)):=hid (by rw[HT.out,hC1,HA.out,hr0];unfold itb;simp only[List.append_assoc];rfl);have HCL:Hid (C1.length=s.length+r0.length):=hid lC1;have HI:=hid hlt;replace hC1:=hid hC1;replace lC1:=hid lC1;replace hC2:=hid hC2;replace lC2:=hid lC2;clear hr0 hr1 hm hc hlt HT HA hcm hea hqi hiq;go_wp2_with fail
  have N0:=txts_here [t] (by intro y hy;simp at hy;subst hy;omega) (C:=#[t]) (t:=9) rfl 1 rfl (balloc hb _);refine cr (texts_w N0 r0 Q0.out (by omega) (by omega)) fun v12 k12=>?_;replace k12:=(balloc (Below.refl _ _) _).trans (k12.mono (balloc (Below.refl _ _) _).size);clear c0 c1;have hA:=kp k12 (aj7 t0 t1 t2 t3 t4 t5 t6);clear t0 t1 t2 t3 t4 t5 t6;obtain ⟨t0,t1,t2,t3,t4,t5,t6⟩:=hA;replace lx:=hid ((lx.out).below k12);replace ly:=hid ((ly.out).below k12);replace hb:=bstep hb k12;clear k12 N0;go_wp2_with fail
  have N0:=nats_here [D.length] (by intro y hy;simp at hy;omega) (C:=#[D.length]) (t:=25) rfl 1 rfl (balloc hb _);refine cr (nums_w N0 (by omega) r1 Q1.out) fun v13 k13=>?_;replace k13:=(balloc (Below.refl _ _) _).trans (k13.mono (balloc (Below.refl _ _) _).size);have hA:=kp k13 (aj7 t0 t1 t2 t3 t4 t5 t6);clear t0 t1 t2 t3 t4 t5 t6;obtain ⟨t0,t1,t2,t3,t4,t5,t6⟩:=hA;replace lx:=hid ((lx.out).below k13);replace ly:=hid ((ly.out).below k13);replace hb:=bstep hb k13;clear k13 N0 Q0 Q1;go_wp2_with fail
  go_loopw [3,7] (fun sv jv wr=>∃ (j:Nat) (s2:List UInt8),j≤D.length∧sv=.string ⟨s2.toArray⟩∧jv=.int .i64 j∧Hid (s2=C1++acc mk D j)∧Below w.heap.size w wr∧(wr.cell? ⟨bt,0,none⟩=some ↑x.k)∧(wr.cell? ⟨bt,1,none⟩=some (.slice x.sa x.s.length x.sc))∧(wr.cell? ⟨bt,2,none⟩=some (.slice x.ca x.c.length x.cc))∧(wr.cell? ⟨bt,3,none⟩=some (.slice (some ⟨b,o,none⟩) x.j.length x.ic))∧(wr.cell? ⟨bt,4,none⟩=some ↑x.l.s)∧(wr.cell? ⟨bt,5,none⟩=some ↑x.l.t)∧(wr.cell? ⟨bt,6,none⟩=some ↑x.l.g)∧Hid (InnerE wr x)∧Hid (Row.Lies dE wr da D.length D)) (fun _ jv _=>D.length - (intOf jv).toNat)
  case atStart=>exact ⟨0,C2,by omega,rfl,rfl,HA2,hb,t0,t1,t2,t3,t4,t5,t6,lx,ly⟩
  clear hb t0 t1 t2 t3 t4 t5 t6 lx ly HA2;obtain ⟨j,s2,hj,rfl,rfl,HA,hb,t0,t1,t2,t3,t4,t5,t6,lx,ly⟩:=hrel;by_cases hjt:j<D.length;rotate_left
  ·have HE:Hid (s2=H++acc itb Is (q+1)):=hid (by rw[← HV.out,HA.out,acc_all _ _ (by omega)]);have dj:=dF (p:=(j:Int)<(D.length:Int));go_wp2;go_roundw
   ·exact ⟨q+1,s2,by have:=HI.out;omega,rfl,by go_num,HE,hb,t0,t1,t2,t3,t4,t5,t6,lx⟩
   simp[intOf];have:=HI.out;omega
  have dj:=dT (p:=(j:Int)<(D.length:Int));have j3:(0:Int)≤(j:Int):=by omega
  have j4:(j:Int)<(D.length:Int):=by omega
  obtain ⟨b2,o2,rfl,hc2⟩:=ly.out.2 (by omega);obtain ⟨f0,f1⟩:=cl2 (o2+j*2) (hc2 j hjt);have HT:=hid (acc_step mk hjt);have hcm:=HDM.out _ (List.getElem_mem hjt);have hal:=part_le mk D hjt;have hsl:s2.length=C1.length+(acc mk D j).length:=by rw[HA.out,List.length_append]
  obtain ⟨m,hm⟩:=nm D[j];rw[← hm] at f0 f1 HT hcm hal;have hm1:=hcm.1;have hm2:=hcm.2;have hsl2:s2.length≤70368744177664:=by have:=HAL.out;have:=HCL.out;omega
  have zs2:=Str.size_mk s2;obtain ⟨r2,hr2⟩:=nm (tx m.p);have e2:r2.length≤1048586:=by rw[hr2];have:=tx_len m.p;omega
  have Q2:Hid ([m.p].flatMap tx=r2):=hid (by rw[hr2];simp);have y2:=Str.size_mk r2;obtain ⟨r3,hr3⟩:=nm (upL m.n);have e3:r3.length≤10:=by rw[hr3];exact up_len _
  have Q3:Hid (cat [m.n]=r3):=hid (by rw[hr3];simp[cat]);have y3:=Str.size_mk r3;clear hal hsl;obtain ⟨C3,hC3,lC3,aC3,zC3,nC3,mC3⟩:=apd s2 r2 (by omega);obtain ⟨C4,hC4,lC4,aC4,zC4,nC4,mC4⟩:=apd C3 r3 (by omega);have HVJ:Hid (C4=C1++acc mk D (j+1)):=hid (by rw[HT.out,hC4,hC3,HA.out,hr2,hr3];unfold mk;simp only[List.append_assoc]);have HJ:=hid hjt;replace hC3:=hid hC3;replace lC3:=hid lC3;replace hC4:=hid hC4;replace lC4:=hid lC4;clear hr2 hr3 hm hc2 hjt HT HA hcm;go_wp2_with fail
  refine rh (aj12 hb t0 t1 t2 t3 t4 t5 t6 lx.out ly.out f0 f1) fun wd gH=>?_;refine tk [0,1,2,3,4,5,9,10,11,12,13] ?_;refine tR2 6 14 (fun K hK=>?_) fun K hK=>?_
  ·
   go_simp;refine tA hK gH fun gH=>?_;clear hK K;have N6:=txts_here [m.p] (by intro y hy;simp at hy;subst hy;omega) rfl 1 rfl gH.1;try simp only[World.size_alloc] at N6
   refine tR2 7 14 (fun K hK=>?_) fun K hK=>?_
   ·
    go_simp;go_at_call 63;refine cr (texts_w N6 r2 Q2.out (by omega) (by omega)) fun v14 k14=>?_;replace N6:=(N6).below rfl k14;go_wp2_with fail
    refine tH hK gH k14 fun gH=>?_;clear hK K k14;refine tk [8] ?_;refine tR 14 fun K hK=>?_;go_simp;refine tA hK gH fun gH=>?_;clear hK K;replace N6:=txts_move N6 gH.1;have N14:=nats_here [m.n] (by intro y hy;simp at hy;omega) rfl 1 rfl gH.1;try simp only[World.size_alloc] at N14
    refine tR 15 fun K hK=>?_;go_simp;go_at_call 62;refine cr (nums_w N14 (by omega) r3 Q3.out) fun v15 k15=>?_;replace N6:=(N6).below rfl k15;replace N14:=(N14).below rfl k15;go_wp2_with fail
    refine tH hK gH k15 fun gH=>?_;clear hK K k15;refine tk [16,17] ?_;refine tD ?_;clear hb t0 t1 t2 t3 t4 t5 t6 lx ly f0 f1;obtain ⟨hb,t0,t1,t2,t3,t4,t5,t6,lx,ly,f0,f1⟩:=gH;replace lx:=hid lx;replace ly:=hid ly;go_wp2;go_roundw
    ·first | exact ⟨j+1,C4,by have:=HJ.out;omega,rfl,by go_num,HVJ,hb,t0,t1,t2,t3,t4,t5,t6,lx,ly⟩ | exact ⟨_,_,_,_,_,_,_,_,_,_,_,_,_,_,_,_,_,_,_,_,_,_,_,_,_,⟨j+1,C4,by have:=HJ.out;omega,rfl,by go_num,HVJ,hb,t0,t1,t2,t3,t4,t5,t6,lx,ly⟩,rfl⟩
    simp[intOf];have:=HJ.out;omega
   go_simp;refine tA hK gH fun gH=>?_;clear hK K;replace N6:=txts_move N6 gH.1;have N14:=nats_here [m.n] (by intro y hy;simp at hy;omega) rfl 1 rfl gH.1;try simp only[World.size_alloc] at N14
   refine tR 7 fun K hK=>?_;go_simp;go_at_call 63;refine cr (texts_w N6 r2 Q2.out (by omega) (by omega)) fun v16 k16=>?_;replace N6:=(N6).below rfl k16;replace N14:=(N14).below rfl k16;go_wp2_with fail
   refine tH hK gH k16 fun gH=>?_;clear hK K k16;refine tk [8] ?_;refine tR 15 fun K hK=>?_;go_simp;go_at_call 62;refine cr (nums_w N14 (by omega) r3 Q3.out) fun v17 k17=>?_;replace N6:=(N6).below rfl k17;replace N14:=(N14).below rfl k17;go_wp2_with fail
   refine tH hK gH k17 fun gH=>?_;clear hK K k17;refine tk [16,17] ?_;refine tD ?_;clear hb t0 t1 t2 t3 t4 t5 t6 lx ly f0 f1;obtain ⟨hb,t0,t1,t2,t3,t4,t5,t6,lx,ly,f0,f1⟩:=gH;replace lx:=hid lx;replace ly:=hid ly;go_wp2;go_roundw
   ·first | exact ⟨j+1,C4,by have:=HJ.out;omega,rfl,by go_num,HVJ,hb,t0,t1,t2,t3,t4,t5,t6,lx,ly⟩ | exact ⟨_,_,_,_,_,_,_,_,_,_,_,_,_,_,_,_,_,_,_,_,_,_,_,_,_,⟨j+1,C4,by have:=HJ.out;omega,rfl,by go_num,HVJ,hb,t0,t1,t2,t3,t4,t5,t6,lx,ly⟩,rfl⟩
   simp[intOf];have:=HJ.out;omega
  go_simp;refine tA hK gH fun gH=>?_;clear hK K;have N14:=nats_here [m.n] (by intro y hy;simp at hy;omega) rfl 1 rfl gH.1;try simp only[World.size_alloc] at N14
  refine tR 6 fun K hK=>?_;go_simp;refine tA hK gH fun gH=>?_;clear hK K;replace N14:=nats_move N14 gH.1;have N6:=txts_here [m.p] (by intro y hy;simp at hy;subst hy;omega) rfl 1 rfl gH.1;try simp only[World.size_alloc] at N6
  refine tR 7 fun K hK=>?_;go_simp;go_at_call 63;refine cr (texts_w N6 r2 Q2.out (by omega) (by omega)) fun v18 k18=>?_;replace N14:=(N14).below rfl k18;replace N6:=(N6).below rfl k18;go_wp2_with fail
  refine tH hK gH k18 fun gH=>?_;clear hK K k18;refine tk [8] ?_;refine tR 15 fun K hK=>?_;go_simp;go_at_call 62;refine cr (nums_w N14 (by omega) r3 Q3.out) fun v19 k19=>?_;replace N14:=(N14).below rfl k19;replace N6:=(N6).below rfl k19;go_wp2_with fail
  refine tH hK gH k19 fun gH=>?_;clear hK K k19;refine tk [16,17] ?_;refine tD ?_;clear hb t0 t1 t2 t3 t4 t5 t6 lx ly f0 f1;obtain ⟨hb,t0,t1,t2,t3,t4,t5,t6,lx,ly,f0,f1⟩:=gH;replace lx:=hid lx;replace ly:=hid ly;go_wp2;go_roundw
  ·first | exact ⟨j+1,C4,by have:=HJ.out;omega,rfl,by go_num,HVJ,hb,t0,t1,t2,t3,t4,t5,t6,lx,ly⟩ | exact ⟨_,_,_,_,_,_,_,_,_,_,_,_,_,_,_,_,_,_,_,_,_,_,_,_,_,⟨j+1,C4,by have:=HJ.out;omega,rfl,by go_num,HVJ,hb,t0,t1,t2,t3,t4,t5,t6,lx,ly⟩,rfl⟩
  simp[intOf];have:=HJ.out;omega
 have k3:k=3:=by have:=K0.out;omega
 have HLC:Hid (H.length+(cl x.l).length≤70368744177664):=hid (by have:=HLB.out;rw[HB.out,if_neg k1,if_neg k2,if_pos k3] at this;exact this);have HVX:Hid (fE x=H++cl x.l):=hid (by rw[HV0.out,HB.out,if_neg k1,if_neg k2,if_pos k3]);have zz1:=bF (a:=k) (b:=1);have zz2:=bF (a:=k) (b:=2);have hHl:H.length≤70368744177664:=by have:=HLC.out;omega
 obtain ⟨r0,hr0⟩:=nm (upL x.l.s);have e0:r0.length≤10:=by rw[hr0];exact up_len _
 have Q0:Hid (cat [x.l.s]=r0):=hid (by rw[hr0];simp[cat]);have y0:=Str.size_mk r0;obtain ⟨r1,hr1⟩:=nm (tx x.l.t);have e1:r1.length≤1048586:=by rw[hr1];have:=tx_len x.l.t;omega
 have Q1:Hid ([x.l.t].flatMap tx=r1):=hid (by rw[hr1];simp);have y1:=Str.size_mk r1;obtain ⟨r2,hr2⟩:=nm (tb x.l.g);have e2:r2.length≤1:=by rw[hr2];exact Nat.le_refl _
 have Q2:Hid (tb x.l.g=r2):=hid hr2.symm;have y2:=Str.size_mk r2;obtain ⟨C1,hC1,lC1,aC1,zC1,nC1,mC1⟩:=apd H r0 (by omega);obtain ⟨C2,hC2,lC2,aC2,zC2,nC2,mC2⟩:=apd C1 r1 (by omega);obtain ⟨C3,hC3,lC3,aC3,zC3,nC3,mC3⟩:=apd C2 r2 (by omega);have HE:Hid (fE x=C3):=hid (by rw[HVX.out,hC3,hC2,hC1,hr0,hr1,hr2];unfold cl;simp only[List.append_assoc]);replace hC1:=hid hC1;replace lC1:=hid lC1;replace hC2:=hid hC2;replace lC2:=hid lC2;replace hC3:=hid hC3;replace lC3:=hid lC3;clear hr0 hr1 hr2 k1 k2 k3;go_wp2_with fail
 refine rh (aj9 hb t0 t1 t2 t3 t4 t5 t6 lx.out) fun wd gH=>?_;refine tk [0,1,2,3,7,8,9,13,14,15] ?_;refine tR2 4 10 (fun K hK=>?_) fun K hK=>?_
 ·
  go_simp;refine tA hK gH fun gH=>?_;clear hK K;have N4:=nats_here [x.l.s] (by intro y hy;simp at hy;omega) rfl 1 rfl gH.1;try simp only[World.size_alloc] at N4
  refine tR2 5 10 (fun K hK=>?_) fun K hK=>?_
  ·
   go_simp;go_at_call 62;refine cr (nums_w N4 (by omega) r0 Q0.out) fun v20 k20=>?_;replace N4:=(N4).below rfl k20;go_wp2_with fail
   refine tH hK gH k20 fun gH=>?_;clear hK K k20;refine tk [6] ?_;refine tR 10 fun K hK=>?_;go_simp;refine tA hK gH fun gH=>?_;clear hK K;replace N4:=nats_move N4 gH.1;have N10:=txts_here [x.l.t] (by intro y hy;simp at hy;subst hy;omega) rfl 1 rfl gH.1;try simp only[World.size_alloc] at N10
   refine tR 11 fun K hK=>?_;go_simp;go_at_call 63;refine cr (texts_w N10 r1 Q1.out (by omega) (by omega)) fun v21 k21=>?_;replace N4:=(N4).below rfl k21;replace N10:=(N10).below rfl k21;go_wp2_with fail
   refine tH hK gH k21 fun gH=>?_;clear hK K k21;refine tk [12] ?_;refine tR 16 fun K hK=>?_;go_simp;go_at_call 111;refine cr (bool_w x.l.g r2 Q2.out _) fun v22 k22=>?_;replace N4:=(N4).below rfl k22;replace N10:=(N10).below rfl k22;go_wp2_with fail
   refine tH hK gH k22 fun gH=>?_;clear hK K k22;refine tk [17,18] ?_;refine tD ?_;clear hb t0 t1 t2 t3 t4 t5 t6 lx;obtain ⟨hb,t0,t1,t2,t3,t4,t5,t6,lx⟩:=gH;replace lx:=hid lx;go_wp2;go_ret;exact ⟨by rw[HE.out];rfl,hb⟩
  go_simp;refine tA hK gH fun gH=>?_;clear hK K;replace N4:=nats_move N4 gH.1;have N10:=txts_here [x.l.t] (by intro y hy;simp at hy;subst hy;omega) rfl 1 rfl gH.1;try simp only[World.size_alloc] at N10
  refine tR 5 fun K hK=>?_;go_simp;go_at_call 62;refine cr (nums_w N4 (by omega) r0 Q0.out) fun v23 k23=>?_;replace N4:=(N4).below rfl k23;replace N10:=(N10).below rfl k23;go_wp2_with fail
  refine tH hK gH k23 fun gH=>?_;clear hK K k23;refine tk [6] ?_;refine tR 11 fun K hK=>?_;go_simp;go_at_call 63;refine cr (texts_w N10 r1 Q1.out (by omega) (by omega)) fun v24 k24=>?_;replace N4:=(N4).below rfl k24;replace N10:=(N10).below rfl k24;go_wp2_with fail
  refine tH hK gH k24 fun gH=>?_;clear hK K k24;refine tk [12] ?_;refine tR 16 fun K hK=>?_;go_simp;go_at_call 111;refine cr (bool_w x.l.g r2 Q2.out _) fun v25 k25=>?_;replace N4:=(N4).below rfl k25;replace N10:=(N10).below rfl k25;go_wp2_with fail
  refine tH hK gH k25 fun gH=>?_;clear hK K k25;refine tk [17,18] ?_;refine tD ?_;clear hb t0 t1 t2 t3 t4 t5 t6 lx;obtain ⟨hb,t0,t1,t2,t3,t4,t5,t6,lx⟩:=gH;replace lx:=hid lx;go_wp2;go_ret;exact ⟨by rw[HE.out];rfl,hb⟩
 go_simp;refine tA hK gH fun gH=>?_;clear hK K;have N10:=txts_here [x.l.t] (by intro y hy;simp at hy;subst hy;omega) rfl 1 rfl gH.1;try simp only[World.size_alloc] at N10
 refine tR 4 fun K hK=>?_;go_simp;refine tA hK gH fun gH=>?_;clear hK K;replace N10:=txts_move N10 gH.1;have N4:=nats_here [x.l.s] (by intro y hy;simp at hy;omega) rfl 1 rfl gH.1;try simp only[World.size_alloc] at N4
 refine tR 5 fun K hK=>?_;go_simp;go_at_call 62;refine cr (nums_w N4 (by omega) r0 Q0.out) fun v26 k26=>?_;replace N10:=(N10).below rfl k26;replace N4:=(N4).below rfl k26;go_wp2_with fail
 refine tH hK gH k26 fun gH=>?_;clear hK K k26;refine tk [6] ?_;refine tR 11 fun K hK=>?_;go_simp;go_at_call 63;refine cr (texts_w N10 r1 Q1.out (by omega) (by omega)) fun v27 k27=>?_;replace N10:=(N10).below rfl k27;replace N4:=(N4).below rfl k27;go_wp2_with fail
 refine tH hK gH k27 fun gH=>?_;clear hK K k27;refine tk [12] ?_;refine tR 16 fun K hK=>?_;go_simp;go_at_call 111;refine cr (bool_w x.l.g r2 Q2.out _) fun v28 k28=>?_;replace N10:=(N10).below rfl k28;replace N4:=(N4).below rfl k28;go_wp2_with fail
 refine tH hK gH k28 fun gH=>?_;clear hK K k28;refine tk [17,18] ?_;refine tD ?_;clear hb t0 t1 t2 t3 t4 t5 t6 lx;obtain ⟨hb,t0,t1,t2,t3,t4,t5,t6,lx⟩:=gH;replace lx:=hid lx;go_wp2;go_ret;exact ⟨by rw[HE.out];rfl,hb⟩
theorem txts_of {w:World} {a:Option Addr} {L:List (List UInt8)} (h:Row.Lies wE w a L.length L) (hm:∀ m ∈ L,m.length≤1048576):Txts w a L.length (L.map fun n=>⟨n.toArray⟩):=by
 refine ⟨by simp,fun t ht=>?_,fun hp=>?_⟩
 ·obtain ⟨m,h1,rfl⟩:=List.mem_map.1 ht;have:=hm m h1;rw[Str.size_mk];unfold maxLen;omega
 obtain ⟨b,o,e,hc⟩:=h.2 hp;have hc':∀ j (hj:j<L.length),w.cell? ⟨b,o+j,none⟩=some ↑(L[j]):=fun j hj=>by
  have:=hc j hj 0 _ rfl;rwa [show o+j*wE.k+0=o+j from by show o+j*1+0=o+j;omega] at this
 refine ⟨b,o,e,World.block_lt_of_cell? _ _ (hc' 0 hp),fun j hj=>?_⟩;rw[List.length_map] at hj;rw[List.getElem_map];exact hc' j hj
def Keyed (x:RS):Prop:=∀ y ∈ x.e,y.k.length≤65536∧kd y.k≠0
theorem state_any (x:RS) (w:World) (hx:InnerS w x) (ox:x.Ok) (hky:Keyed x) (hpb:(x.p.flatMap tx).length≤1099511627776) (hs:(fS x).length≤70368744177664) :
  CB 45 #[.agg x] w (fS x):=by
 have lx:=hid hx;have OX:=hid ox;have KY:=hid hky;have hen:=ox.e;have hpn:=ox.p;obtain ⟨p1,hp1⟩:=nm (lst mk x.a);obtain ⟨p3,hp3⟩:=nm (x.p.flatMap tx);rw[← hp3] at hpb;have HV0:Hid (fS x=p1++lst fE x.e++(upL x.p.length++p3)):=hid (by rw[fS_is,hp1,hp3];rfl);rw[HV0.out] at hs;simp only[List.length_append] at hs;have HLB:Hid (p1.length+(lst fE x.e).length+((upL x.p.length).length+p3.length)≤70368744177664):=hid hs;have b1:p1.length≤70368744177664:=by omega
 have b3:p3.length≤70368744177664:=by omega
 have z1:=Str.size_mk p1;have z3:=Str.size_mk p3;have D1:=hid (fun W (h:InnerS W x)=>qS hp1 (marks_any x.aa x.ac x.a W h.a OX.out.a OX.out.am (by rw[← hp1];exact b1)));have D3:=hid (fun W (h:InnerS W x)=>(texts_w (txts_of h.p OX.out.pm) p3 hp3.symm hpb (by omega):CB 63 #[.slice x.pa x.p.length x.pc] W p3));obtain ⟨pn,hpn1⟩:=nm (upL x.e.length);have bn:pn.length≤10:=by rw[hpn1];exact up_len _
 have RN:Hid (cat [x.e.length]=pn):=hid (by rw[hpn1];simp[cat]);have zn:=Str.size_mk pn;have w8:IntKind.u64.wrap (x.e.length:Int)=(x.e.length:Int):=by rw[IntKind.wrap_u64];omega
 obtain ⟨pw,hpw⟩:=nm (upL x.p.length);have bw:pw.length≤10:=by rw[hpw];exact up_len _
 have RW:Hid (cat [x.p.length]=pw):=hid (by rw[hpw];simp[cat]);have zw:=Str.size_mk pw;have w9:IntKind.u64.wrap (x.p.length:Int)=(x.p.length:Int):=by rw[IntKind.wrap_u64];omega
 clear hs hx ox hky hp1 hp3 hpb;go_enter Tryz.func45,Tryz.ntmps45;go_upto_region 1 with (fail)
 have hb0:=balloc (Below.refl w.heap.size w) (.cells x 33);obtain ⟨t0,t1,t2⟩:=al3 (bx w x 33);obtain ⟨w0,hw0⟩:=nm (w.alloc (.cells x 33));rw[← hw0] at hb0 t0 t1 t2 ⊢;obtain ⟨bt,hbt⟩:=nm w.heap.size;rw[← hbt] at t0 t1 t2 ⊢;have hb:=hb0;clear hb0 hw0 hbt;replace lx:=hid (lx.out.below hb);obtain ⟨S1,hS1⟩:=nm (p1++pn);have lS1:S1.length=p1.length+pn.length:=by rw[hS1,List.length_append]
 have aS1:(({ data:=p1.toArray }:ByteArray))++{ data:=pn.toArray }={ data:=S1.toArray }:=by rw[hS1];exact Str.mk_append_mk p1 pn
 have zS1:=Str.size_mk S1;have nS1:¬ (9223372036854775807<p1.length+pn.length):=by omega
 have mS1:¬ (p1.length+pn.length > 9223372036854775807):=by omega
 have HA1:Hid (S1=p1++acc fE x.e 0):=hid (by rw[hS1,hpn1,acc_zero]);replace hS1:=hid hS1;replace lS1:=hid lS1;clear hpn1;refine rh (aj5 hb t0 t1 t2 lx.out) fun wd gH=>?_;refine tk [0,1,3,4,5,6] ?_;refine tR2 2 7 (fun K hK=>?_) fun K hK=>?_
 ·
  go_simp;go_at_call 50;refine cr (D1.out _ gH.2.2.2.2) fun v1 k1=>?_;go_wp2_with fail
  refine tH hK gH k1 fun gH=>?_;clear hK K k1;refine tR 7 fun K hK=>?_;go_simp;refine tA hK gH fun gH=>?_;clear hK K;have N7:=nats_here [x.e.length] (by intro y hy;simp at hy;omega) rfl 1 rfl gH.1;try simp only[World.size_alloc] at N7
  refine tR 8 fun K hK=>?_;go_simp;go_at_call 62;refine cr (nums_w N7 (by omega) pn RN.out) fun v2 k2=>?_;replace N7:=(N7).below rfl k2;go_wp2_with fail
  refine tH hK gH k2 fun gH=>?_;clear hK K k2;refine tk [9,10] ?_;refine tD ?_;clear hb t0 t1 t2 lx;obtain ⟨hb,t0,t1,t2,lx⟩:=gH;replace lx:=hid lx;go_wp2_with fail
  go_loopw [3,4] (fun sv iv wr=>∃ (q:Nat) (s:List UInt8),q≤x.e.length∧sv=.string ⟨s.toArray⟩∧iv=.int .i64 q∧Hid (s=p1++acc fE x.e q)∧Below w.heap.size w wr∧(wr.cell? ⟨bt,0,none⟩=some (.slice x.aa x.a.length x.ac))∧(wr.cell? ⟨bt,1,none⟩=some (.slice x.ea x.e.length x.ec))∧(wr.cell? ⟨bt,2,none⟩=some (.slice x.pa x.p.length x.pc))∧Hid (InnerS wr x)) (fun _ iv _=>x.e.length - (intOf iv).toNat)
  case atStart=>exact ⟨0,S1,by omega,rfl,rfl,HA1,hb,t0,t1,t2,lx⟩
  clear hb t0 t1 t2 lx HA1 bn zn D1;obtain ⟨q,s,hq,rfl,rfl,HA,hb,t0,t1,t2,lx⟩:=hrel;by_cases hlt:q<x.e.length;rotate_left
  ·
   have HE:Hid (s=p1++lst fE x.e):=hid (by rw[HA.out,acc_all _ _ (by omega)]);have dq:=dF (p:=(q:Int)<(x.e.length:Int));have hsl:s.length=p1.length+(lst fE x.e).length:=by rw[HE.out,List.length_append]
   have hsl2:s.length+pw.length+p3.length≤70368744177664:=by have:=HLB.out;rw[hpw];omega
   have zs:=Str.size_mk s;clear hsl;obtain ⟨C1,hC1,lC1,aC1,zC1,nC1,mC1⟩:=apd s pw (by omega);obtain ⟨C2,hC2,lC2,aC2,zC2,nC2,mC2⟩:=apd C1 p3 (by omega);have HR:Hid (fS x=C2):=hid (by rw[HV0.out,hC2,hC1,HE.out,hpw];simp only[List.append_assoc]);replace hC1:=hid hC1;replace lC1:=hid lC1;replace hC2:=hid hC2;replace lC2:=hid lC2;clear hpw HA;go_upto_region 6 with (fail)
   refine rh (aj5 hb t0 t1 t2 lx.out) fun wd gH=>?_;refine tk [0,1,2,3,4,8,9] ?_;refine tR 5 fun K hK=>?_;go_simp;refine tA hK gH fun gH=>?_;clear hK K;have N5:=nats_here [x.p.length] (by intro y hy;simp at hy;omega) rfl 1 rfl gH.1;try simp only[World.size_alloc] at N5
   refine tR 6 fun K hK=>?_;go_simp;go_at_call 62;refine cr (nums_w N5 (by omega) pw RW.out) fun v3 k3=>?_;replace N5:=(N5).below rfl k3;go_wp2_with fail
   refine tH hK gH k3 fun gH=>?_;clear hK K k3;refine tk [7] ?_;refine tR 10 fun K hK=>?_;go_simp;go_at_call 63;refine cr (D3.out _ gH.2.2.2.2) fun v4 k4=>?_;replace N5:=(N5).below rfl k4;go_wp2_with fail
   refine tH hK gH k4 fun gH=>?_;clear hK K k4;refine tk [11,12] ?_;refine tD ?_;clear hb t0 t1 t2 lx;obtain ⟨hb,t0,t1,t2,lx⟩:=gH;replace lx:=hid lx;go_wp2;go_ret;exact ⟨by rw[HR.out];rfl,hb⟩
  have d1:=dT (p:=(q:Int)<(x.e.length:Int));have j1:(0:Int)≤(q:Int):=by omega
  have j2:(q:Int)<(x.e.length:Int):=by omega
  obtain ⟨b,o,hea,hc⟩:=lx.out.e.1.2 (by omega);rw[hea] at t1 ⊢;obtain ⟨c0,c1,c2,c3,c4,c5,c6⟩:=cl7 (o+q*7) (hc q hlt);have HT:=hid (acc_step fE hlt);have hal:=part_le fE x.e hlt;have OY:=hid (show _∧_∧_ from ⟨lx.out.e.2 _ (List.getElem_mem hlt),OX.out.em _ (List.getElem_mem hlt),KY.out _ (List.getElem_mem hlt)⟩);have hsl:s.length=p1.length+(acc fE x.e q).length:=by rw[HA.out,List.length_append]
  obtain ⟨y,hy⟩:=nm x.e[q];rw[← hy] at c0 c1 c2 c3 c4 c5 c6 HT OY hal;obtain ⟨r0,hr0⟩:=nm (fE y);rw[← hr0] at hal;have hsl2:s.length+r0.length≤70368744177664:=by have:=HLB.out;omega
  have zs:=Str.size_mk s;have y0:=Str.size_mk r0;have DY:=hid (fun W (h:InnerE W y)=>qS hr0 (raw_any y W h OY.out.2.1.1 OY.out.2.2.1 OY.out.2.2.2 OY.out.2.1.2));have ly:Hid (InnerE wr y):=hid OY.out.1;clear hal hsl;obtain ⟨C1,hC1,lC1,aC1,zC1,nC1,mC1⟩:=apd s r0 (by omega);have HV:Hid (C1=p1++acc fE x.e (q+1)):=hid (by rw[HT.out,hC1,HA.out,hr0];simp only[List.append_assoc]);have HI:=hid hlt;replace hC1:=hid hC1;replace lC1:=hid lC1;clear hr0 hy hc hlt HT HA hea OY;go_wp2_with fail
  refine cr (DY.out _ ly.out) fun v5 k5=>?_;have hA:=kp k5 (aj3 t0 t1 t2);clear t0 t1 t2;obtain ⟨t0,t1,t2⟩:=hA;replace lx:=hid ((lx.out).below k5);replace hb:=bstep hb k5;clear k5;go_wp2;go_roundw
  ·exact ⟨q+1,C1,by have:=HI.out;omega,rfl,by go_num,HV,hb,t0,t1,t2,lx⟩
  simp[intOf];have:=HI.out;omega
 go_simp;refine tA hK gH fun gH=>?_;clear hK K;have N7:=nats_here [x.e.length] (by intro y hy;simp at hy;omega) rfl 1 rfl gH.1;try simp only[World.size_alloc] at N7
 refine tR 2 fun K hK=>?_;go_simp;go_at_call 50;refine cr (D1.out _ gH.2.2.2.2) fun v6 k6=>?_;replace N7:=(N7).below rfl k6;go_wp2_with fail
 refine tH hK gH k6 fun gH=>?_;clear hK K k6;refine tR 8 fun K hK=>?_;go_simp;go_at_call 62;refine cr (nums_w N7 (by omega) pn RN.out) fun v7 k7=>?_;replace N7:=(N7).below rfl k7;go_wp2_with fail
 refine tH hK gH k7 fun gH=>?_;clear hK K k7;refine tk [9,10] ?_;refine tD ?_;clear hb t0 t1 t2 lx;obtain ⟨hb,t0,t1,t2,lx⟩:=gH;replace lx:=hid lx;go_wp2_with fail
 go_loopw [3,4] (fun sv iv wr=>∃ (q:Nat) (s:List UInt8),q≤x.e.length∧sv=.string ⟨s.toArray⟩∧iv=.int .i64 q∧Hid (s=p1++acc fE x.e q)∧Below w.heap.size w wr∧(wr.cell? ⟨bt,0,none⟩=some (.slice x.aa x.a.length x.ac))∧(wr.cell? ⟨bt,1,none⟩=some (.slice x.ea x.e.length x.ec))∧(wr.cell? ⟨bt,2,none⟩=some (.slice x.pa x.p.length x.pc))∧Hid (InnerS wr x)) (fun _ iv _=>x.e.length - (intOf iv).toNat)
 case atStart=>exact ⟨0,S1,by omega,rfl,rfl,HA1,hb,t0,t1,t2,lx⟩
 clear hb t0 t1 t2 lx HA1 bn zn D1;obtain ⟨q,s,hq,rfl,rfl,HA,hb,t0,t1,t2,lx⟩:=hrel;by_cases hlt:q<x.e.length;rotate_left
 ·
  have HE:Hid (s=p1++lst fE x.e):=hid (by rw[HA.out,acc_all _ _ (by omega)]);have dq:=dF (p:=(q:Int)<(x.e.length:Int));have hsl:s.length=p1.length+(lst fE x.e).length:=by rw[HE.out,List.length_append]
  have hsl2:s.length+pw.length+p3.length≤70368744177664:=by have:=HLB.out;rw[hpw];omega
  have zs:=Str.size_mk s;clear hsl;obtain ⟨C1,hC1,lC1,aC1,zC1,nC1,mC1⟩:=apd s pw (by omega);obtain ⟨C2,hC2,lC2,aC2,zC2,nC2,mC2⟩:=apd C1 p3 (by omega);have HR:Hid (fS x=C2):=hid (by rw[HV0.out,hC2,hC1,HE.out,hpw];simp only[List.append_assoc]);replace hC1:=hid hC1;replace lC1:=hid lC1;replace hC2:=hid hC2;replace lC2:=hid lC2;clear hpw HA;go_upto_region 6 with (fail)
  refine rh (aj5 hb t0 t1 t2 lx.out) fun wd gH=>?_;refine tk [0,1,2,3,4,8,9] ?_;refine tR 5 fun K hK=>?_;go_simp;refine tA hK gH fun gH=>?_;clear hK K;have N5:=nats_here [x.p.length] (by intro y hy;simp at hy;omega) rfl 1 rfl gH.1;try simp only[World.size_alloc] at N5
  refine tR 6 fun K hK=>?_;go_simp;go_at_call 62;refine cr (nums_w N5 (by omega) pw RW.out) fun v8 k8=>?_;replace N5:=(N5).below rfl k8;go_wp2_with fail
  refine tH hK gH k8 fun gH=>?_;clear hK K k8;refine tk [7] ?_;refine tR 10 fun K hK=>?_;go_simp;go_at_call 63;refine cr (D3.out _ gH.2.2.2.2) fun v9 k9=>?_;replace N5:=(N5).below rfl k9;go_wp2_with fail
  refine tH hK gH k9 fun gH=>?_;clear hK K k9;refine tk [11,12] ?_;refine tD ?_;clear hb t0 t1 t2 lx;obtain ⟨hb,t0,t1,t2,lx⟩:=gH;replace lx:=hid lx;go_wp2;go_ret;exact ⟨by rw[HR.out];rfl,hb⟩
 have d1:=dT (p:=(q:Int)<(x.e.length:Int));have j1:(0:Int)≤(q:Int):=by omega
 have j2:(q:Int)<(x.e.length:Int):=by omega
 obtain ⟨b,o,hea,hc⟩:=lx.out.e.1.2 (by omega);rw[hea] at t1 ⊢;obtain ⟨c0,c1,c2,c3,c4,c5,c6⟩:=cl7 (o+q*7) (hc q hlt);have HT:=hid (acc_step fE hlt);have hal:=part_le fE x.e hlt;have OY:=hid (show _∧_∧_ from ⟨lx.out.e.2 _ (List.getElem_mem hlt),OX.out.em _ (List.getElem_mem hlt),KY.out _ (List.getElem_mem hlt)⟩);have hsl:s.length=p1.length+(acc fE x.e q).length:=by rw[HA.out,List.length_append]
 obtain ⟨y,hy⟩:=nm x.e[q];rw[← hy] at c0 c1 c2 c3 c4 c5 c6 HT OY hal;obtain ⟨r0,hr0⟩:=nm (fE y);rw[← hr0] at hal;have hsl2:s.length+r0.length≤70368744177664:=by have:=HLB.out;omega
 have zs:=Str.size_mk s;have y0:=Str.size_mk r0;have DY:=hid (fun W (h:InnerE W y)=>qS hr0 (raw_any y W h OY.out.2.1.1 OY.out.2.2.1 OY.out.2.2.2 OY.out.2.1.2));have ly:Hid (InnerE wr y):=hid OY.out.1;clear hal hsl;obtain ⟨C1,hC1,lC1,aC1,zC1,nC1,mC1⟩:=apd s r0 (by omega);have HV:Hid (C1=p1++acc fE x.e (q+1)):=hid (by rw[HT.out,hC1,HA.out,hr0];simp only[List.append_assoc]);have HI:=hid hlt;replace hC1:=hid hC1;replace lC1:=hid lC1;clear hr0 hy hc hlt HT HA hea OY;go_wp2_with fail
 refine cr (DY.out _ ly.out) fun v10 k10=>?_;have hA:=kp k10 (aj3 t0 t1 t2);clear t0 t1 t2;obtain ⟨t0,t1,t2⟩:=hA;replace lx:=hid ((lx.out).below k10);replace hb:=bstep hb k10;clear k10;go_wp2;go_roundw
 ·exact ⟨q+1,C1,by have:=HI.out;omega,rfl,by go_num,HV,hb,t0,t1,t2,lx⟩
 simp[intOf];have:=HI.out;omega
end RefWrite
namespace RefMay
open RowKit YtnpjkmomllkhpaaGreatDoor.Mark Num Wire Bag Dots Coder
structure SFit (x:RS):Prop where
 fine:x.Fine
 key:∀ y ∈ x.e,y.k.length≤65536
 few:∀ y ∈ x.e,(y.j.flatMap RI.d).length≤549755813888
theorem cov_any (L K:List M) (a1 a2:Option Addr) (n1 n2 c1 c2:Nat) (w:World) (hL:Mark.Lies w a1 n1 L) (hK:Mark.Lies w a2 n2 K) (hn1:n1≤549755813888) (hn2:n2≤549755813888) (h1:Ok L) (h2:Ok K) :
  CB 117 #[.slice a1 n1 c1,.slice a2 n2 c2] w (covB L K) :=
 (RefDots.covers_any L K a1 a2 n1 n2 c1 c2 w hL hK hn1 hn2 h1 h2).mono fun e w' ⟨r',he,hr,hb⟩=>⟨by rw[he];congr 2;rw[Bool.eq_iff_iff,hr,cov_iff],hb⟩
theorem mayS_any (x:RS) (w:World) (hx:InnerS w x) (ox:x.Ok) (of:SFit x) :
  CB 44 #[.agg x] w (mayS x.s):=by
 have lx:=hid hx;have OX:=hid ox;have OF:=hid of;have hne:=ox.e;have hnp:=ox.p;clear hx ox of;obtain ⟨q0,hq0⟩:=nm (mayL x.a);have HV:Hid (mayS x.s=(q0 && (mayRs x.a none x.e && mayPr x.a none x.p))):=hid (by rw[hq0,← mayRs_is];rfl);have C0:=hid (fun W (hx:InnerS W x)=>qB hq0 (RefDots.may_any x.a x.aa x.a.length x.ac W hx.a (by have:=OX.out.a;omega) (ok_of OX.out.am)));clear hq0;go_enter Tryz.func44,Tryz.ntmps44;go_upto_region 1 with (fail)
 have hb0:=balloc (Below.refl w.heap.size w) (.cells x 33);obtain ⟨p0,p1,p2⟩:=al3 (bx w x 33);obtain ⟨w0,hw0⟩:=nm (w.alloc (.cells x 33));rw[← hw0] at hb0 p0 p1 p2 ⊢;obtain ⟨bp,hbp⟩:=nm w.heap.size;rw[← hbp] at p0 p1 p2 ⊢;have hb:=hb0;clear hb0 hw0 hbp;replace lx:=hid (lx.out.below hb);go_wp2_with fail
 refine cr (C0.out _ lx.out) fun v1 k1=>?_;have hA:=kp k1 (aj3 p0 p1 p2);clear p0 p1 p2;obtain ⟨p0,p1,p2⟩:=hA;replace lx:=hid ((lx.out).below k1);replace hb:=bstep hb k1;clear k1 C0;cases q0
 ·have HV2:Hid (mayS x.s=false):=hid (by rw[HV.out];rfl);go_wp2;go_ret;exact ⟨by rw[HV2.out];rfl,hb⟩
 obtain ⟨U,hU⟩:=nm (mayPr x.a none x.p);have HV0:Hid (mayS x.s=(mayRs x.a (pE x.e 0) (x.e.drop 0) && U)):=hid (by rw[HV.out,hU];rfl);have HU:=hid hU;clear HV hU;go_wp2_with fail
 go_loopw [3] (fun iv wr=>∃ i:Nat,i≤x.e.length∧iv=.int .i64 i∧Hid (mayS x.s=(mayRs x.a (pE x.e i) (x.e.drop i) && U))∧Below w.heap.size w wr∧(wr.cell? ⟨bp,0,none⟩=some (.slice x.aa x.a.length x.ac))∧(wr.cell? ⟨bp,1,none⟩=some (.slice x.ea x.e.length x.ec))∧(wr.cell? ⟨bp,2,none⟩=some (.slice x.pa x.p.length x.pc))∧Hid (InnerS wr x)) (fun iv _=>x.e.length - (intOf iv).toNat)
 case atStart=>exact ⟨0,by omega,rfl,HV0,hb,p0,p1,p2,lx⟩
 clear HV0 hb p0 p1 p2 lx;obtain ⟨i,hi,rfl,HM,hb,p0,p1,p2,lx⟩:=hrel;by_cases hlt:i<x.e.length
 ·
  have d1:=dT (p:=(i:Int)<(x.e.length:Int));have j1:(0:Int)≤(i:Int):=by omega
  have j2:(i:Int)<(x.e.length:Int):=by omega
  obtain ⟨b,o,hea,hc⟩:=lx.out.e.1.2 (by omega);rw[hea];rw[hea] at p1;obtain ⟨c0,c1,c2,c3,c4,c5,c6⟩:=cl7 (o+i*7) (hc i hlt);have hst:=mayRs_step x.a hlt;have HPV:Hid (∀ k',i=k'+1→∃ pv,pE x.e i=some pv∧wr.cell? ⟨b,o+k'*7,none⟩=some ↑pv):=hid (fun k' hk=>by
   subst hk;have hkl:k'<x.e.length:=by omega
   exact ⟨(x.e[k']).k,pE_next hkl,hc k' hkl 0 _ rfl⟩)
  have ly:Hid (InnerE wr (x.e[i])):=hid (lx.out.e.2 _ (List.getElem_mem hlt));have OY:=hid (OX.out.em _ (List.getElem_mem hlt));have FY:=hid (show _∧_∧_ from ⟨OF.out.fine _ (List.getElem_mem hlt),OF.out.key _ (List.getElem_mem hlt),OF.out.few _ (List.getElem_mem hlt)⟩);obtain ⟨y,hy⟩:=nm x.e[i];rw[← hy] at hst ly OY FY c0 c1 c2 c3 c4 c5 c6;obtain ⟨q1,hq1⟩:=nm (mayE y.e);obtain ⟨r,hr⟩:=nm (covB x.a y.s);have D0:=hid (fun W (h:InnerE W y)=>qB hq1 (mayE_any y W h OY.out.1 FY.out.2.1 FY.out.2.2));have D1:=hid (fun W (h:InnerS W x) (h2:InnerE W y)=>qB hr (cov_any x.a y.s x.aa y.sa x.a.length y.s.length x.ac y.sc W h.a h2.s (by have:=OX.out.a;omega) (by have:=OY.out.1.s;omega) (ok_of OX.out.am) (ok_of OY.out.1.sm)));rw[← hq1,← hr] at hst;obtain ⟨o',ho'⟩:=nm (pE x.e i);rw[← ho'] at hst;have HO':=hid ho';obtain ⟨bad,hbad⟩:=nm (!(q1 && (!befT o' y.k && r)));have HBD:=hid hbad;have HST:Hid (mayS x.s=((!bad && mayRs x.a (pE x.e (i+1)) (x.e.drop (i+1))) && U)):=hid (by rw[HM.out,← ho',hst,hbad,Bool.not_not]);have HI:=hid hlt;clear hc hy hst hlt HM hq1 hr OY FY ho' hbad hea;go_upto_region 7 with (fail)
  have kS:=balloc (Below.refl wr.heap.size wr) (.cells y 29);obtain ⟨s0,s1,s2,s3,s4,s5,s6⟩:=al7 (bx wr y 29);obtain ⟨sb,hsb⟩:=nm wr.heap.size;obtain ⟨ws,hws⟩:=nm (wr.alloc (.cells y 29));rw[← hws] at kS s0 s1 s2 s3 s4 s5 s6 ⊢;rw[← hsb] at s0 s1 s2 s3 s4 s5 s6 ⊢;replace HPV:Hid (∀ k',i=k'+1→∃ pv,pE x.e i=some pv∧ws.cell? ⟨b,o+k'*7,none⟩=some ↑pv):=hid (fun k' hk=>by
   obtain ⟨pv,h1,h2⟩:=HPV.out k' hk;exact ⟨pv,h1,Coder.keepC h2 kS⟩)
  replace p0:=(Coder.keepC p0 kS)
  replace p1:=(Coder.keepC p1 kS)
  replace p2:=(Coder.keepC p2 kS)
  replace lx:=hid ((lx.out).below kS);replace ly:=hid ((ly.out).below kS);replace hb:=bstep hb kS;clear kS hsb hws c0 c1 c2 c3 c4 c5 c6;go_cut [48] (fun zv wx=>zv=.bool bad∧Below w.heap.size w wx∧wx.cell? ⟨bp,0,none⟩=some (.slice x.aa x.a.length x.ac)∧wx.cell? ⟨bp,1,none⟩=some (.slice (some ⟨b,o,none⟩) x.e.length x.ec)∧wx.cell? ⟨bp,2,none⟩=some (.slice x.pa x.p.length x.pc)∧InnerS wx x)
  case first =>
   cases q1
   ·have HZ:Hid (bad=true):=hid (by rw[HBD.out];rfl);clear HPV HBD;go_wp2_with fail
    refine rhd (aj13 hb p0 p1 p2 lx.out ly.out s0 s1 s2 s3 s4 s5 s6) fun gH=>?_;refine tk [0] ?_;refine tR 1 fun K hK=>?_;go_simp;go_at_call 39;refine cr (D0.out _ gH.2.2.2.2.2.1) fun v2 k2=>?_;go_wp2_with fail
    refine tH hK gH k2 fun gH=>?_;clear hK K k2;refine tk (.range' 2 25) ?_;refine tD ?_;clear hb p0 p1 p2 lx ly s0 s1 s2 s3 s4 s5 s6;obtain ⟨hb,p0,p1,p2,lx,ly,s0,s1,s2,s3,s4,s5,s6⟩:=gH;replace lx:=hid lx;replace ly:=hid ly;go_wp2_with fail
    go_meet;exact ⟨by rw[HZ.out],hb,p0,p1,p2,lx.out⟩
   cases r
   ·have HZ:Hid (bad=true):=hid (by rw[HBD.out,Bool.and_false];rfl);clear HPV HBD;go_wp2_with fail
    refine rhd (aj13 hb p0 p1 p2 lx.out ly.out s0 s1 s2 s3 s4 s5 s6) fun gH=>?_;refine tk [0] ?_;refine tR 1 fun K hK=>?_;go_simp;go_at_call 39;refine cr (D0.out _ gH.2.2.2.2.2.1) fun v3 k3=>?_;go_wp2_with fail
    refine tH hK gH k3 fun gH=>?_;clear hK K k3;refine tk [2,3,4,5,6,7] ?_;refine tR 8 fun K hK=>?_;go_simp;go_at_call 117;refine cr (D1.out _ gH.2.2.2.2.1 gH.2.2.2.2.2.1) fun v4 k4=>?_;go_wp2_with fail
    refine tH hK gH k4 fun gH=>?_;clear hK K k4;refine tk (.range' 9 18) ?_;refine tD ?_;clear hb p0 p1 p2 lx ly s0 s1 s2 s3 s4 s5 s6;obtain ⟨hb,p0,p1,p2,lx,ly,s0,s1,s2,s3,s4,s5,s6⟩:=gH;replace lx:=hid lx;replace ly:=hid ly;go_wp2_with fail
    go_meet;exact ⟨by rw[HZ.out],hb,p0,p1,p2,lx.out⟩
   have HY:Hid (bad=befT o' y.k):=hid (by rw[HBD.out];simp);clear HBD;by_cases hi0:i=0
   ·have z1:decide ((0:Int)<(i:Int))=false:=dF;have z1n:=dF (p:=0<i);have HZ:Hid (bad=false):=hid (by rw[HY.out,HO'.out,hi0];rfl);clear hi0 HPV HY;go_wp2_with fail
    refine rhd (aj13 hb p0 p1 p2 lx.out ly.out s0 s1 s2 s3 s4 s5 s6) fun gH=>?_;refine tk [0] ?_;refine tR 1 fun K hK=>?_;go_simp;go_at_call 39;refine cr (D0.out _ gH.2.2.2.2.2.1) fun v5 k5=>?_;go_wp2_with fail
    refine tH hK gH k5 fun gH=>?_;clear hK K k5;refine tk [2,3,4,5,6,7] ?_;refine tR 8 fun K hK=>?_;go_simp;go_at_call 117;refine cr (D1.out _ gH.2.2.2.2.1 gH.2.2.2.2.2.1) fun v6 k6=>?_;go_wp2_with fail
    refine tH hK gH k6 fun gH=>?_;clear hK K k6;refine tk (.range' 9 18) ?_;refine tD ?_;clear hb p0 p1 p2 lx ly s0 s1 s2 s3 s4 s5 s6;obtain ⟨hb,p0,p1,p2,lx,ly,s0,s1,s2,s3,s4,s5,s6⟩:=gH;replace lx:=hid lx;replace ly:=hid ly;go_wp2_with fail
    go_meet;exact ⟨by rw[HZ.out],hb,p0,p1,p2,lx.out⟩
   obtain ⟨k',hk'⟩:∃ k',i=k'+1:=⟨i - 1,by omega⟩
   obtain ⟨pv,hpv,hp0⟩:=HPV.out k' hk';have z1:=dT (p:=(0:Int)<(i:Int));have z1n:=dT (p:=0<i);have w1:IntKind.i64.wrap ((i:Int) - 1)=(k':Int):=by rw[IntKind.wrap_i64];omega
   have j5:(0:Int)≤(k':Int):=by omega
   have j6:(k':Int)<(x.e.length:Int):=by omega
   have z2:o'=some pv:=HO'.out.trans hpv;have HY2:Hid (bad = !(decide (TL pv y.k))):=hid (by rw[HY.out,z2];rfl);have HK':=hid hk';clear z2 hi0 HPV hpv hk' HY;rcases tl_ways pv y.k with hw | hw | hw
   ·obtain ⟨q1,q2,q3,q4⟩:=ways_less hw;have HZ:Hid (bad=false):=hid (by rw[HY2.out,decide_eq_true hw];rfl);clear hw;go_wp2_with fail
    refine rhd (aj14 hb p0 p1 p2 lx.out ly.out s0 s1 s2 s3 s4 s5 s6 hp0) fun gH=>?_;refine tk [0] ?_;refine tR 1 fun K hK=>?_;go_simp;go_at_call 39;refine cr (D0.out _ gH.2.2.2.2.2.1) fun v7 k7=>?_;go_wp2_with fail
    refine tH hK gH k7 fun gH=>?_;clear hK K k7;refine tk [2,3,4,5,6,7] ?_;refine tR 8 fun K hK=>?_;go_simp;go_at_call 117;refine cr (D1.out _ gH.2.2.2.2.1 gH.2.2.2.2.2.1) fun v8 k8=>?_;go_wp2_with fail
    refine tH hK gH k8 fun gH=>?_;clear hK K k8;refine tk (.range' 9 18) ?_;refine tD ?_;clear hb p0 p1 p2 lx ly s0 s1 s2 s3 s4 s5 s6 hp0;obtain ⟨hb,p0,p1,p2,lx,ly,s0,s1,s2,s3,s4,s5,s6,hp0⟩:=gH;replace lx:=hid lx;replace ly:=hid ly;go_wp2_with fail
    go_meet;exact ⟨by rw[HZ.out],hb,p0,p1,p2,lx.out⟩
   ·have q1:=less_self y.k;have HZ:Hid (bad=true):=hid (by rw[HY2.out,decide_eq_false (by rw[hw];exact linT.irr y.k)];rfl);have q3:(pv == y.k)=true:=by simp[hw]
    have q4:(y.k == pv)=true:=by simp[hw]
    have q5:Op.bytesLess pv y.k=false:=by rw[hw];exact q1
    have q6:Op.bytesLess y.k pv=false:=by rw[hw];exact q1
    clear hw;go_wp2_with fail
    refine rhd (aj14 hb p0 p1 p2 lx.out ly.out s0 s1 s2 s3 s4 s5 s6 hp0) fun gH=>?_;refine tk [0] ?_;refine tR 1 fun K hK=>?_;go_simp;go_at_call 39;refine cr (D0.out _ gH.2.2.2.2.2.1) fun v9 k9=>?_;go_wp2_with fail
    refine tH hK gH k9 fun gH=>?_;clear hK K k9;refine tk [2,3,4,5,6,7] ?_;refine tR 8 fun K hK=>?_;go_simp;go_at_call 117;refine cr (D1.out _ gH.2.2.2.2.1 gH.2.2.2.2.2.1) fun v10 k10=>?_;go_wp2_with fail
    refine tH hK gH k10 fun gH=>?_;clear hK K k10;refine tk (.range' 9 18) ?_;refine tD ?_;clear hb p0 p1 p2 lx ly s0 s1 s2 s3 s4 s5 s6 hp0;obtain ⟨hb,p0,p1,p2,lx,ly,s0,s1,s2,s3,s4,s5,s6,hp0⟩:=gH;replace lx:=hid lx;replace ly:=hid ly;go_wp2_with fail
    go_meet;exact ⟨by rw[HZ.out],hb,p0,p1,p2,lx.out⟩
   obtain ⟨q1,q2,q3,q4⟩:=ways_less hw;have HZ:Hid (bad=true):=hid (by rw[HY2.out,decide_eq_false (fun h=>linT.irr _ (linT.trans hw h))];rfl);clear hw;go_wp2_with fail
   refine rhd (aj14 hb p0 p1 p2 lx.out ly.out s0 s1 s2 s3 s4 s5 s6 hp0) fun gH=>?_;refine tk [0] ?_;refine tR 1 fun K hK=>?_;go_simp;go_at_call 39;refine cr (D0.out _ gH.2.2.2.2.2.1) fun v11 k11=>?_;go_wp2_with fail
   refine tH hK gH k11 fun gH=>?_;clear hK K k11;refine tk [2,3,4,5,6,7] ?_;refine tR 8 fun K hK=>?_;go_simp;go_at_call 117;refine cr (D1.out _ gH.2.2.2.2.1 gH.2.2.2.2.2.1) fun v12 k12=>?_;go_wp2_with fail
   refine tH hK gH k12 fun gH=>?_;clear hK K k12;refine tk (.range' 9 18) ?_;refine tD ?_;clear hb p0 p1 p2 lx ly s0 s1 s2 s3 s4 s5 s6 hp0;obtain ⟨hb,p0,p1,p2,lx,ly,s0,s1,s2,s3,s4,s5,s6,hp0⟩:=gH;replace lx:=hid lx;replace ly:=hid ly;go_wp2_with fail
   go_meet;exact ⟨by rw[HZ.out],hb,p0,p1,p2,lx.out⟩
  clear hb ly s0 s1 s2 s3 s4 s5 s6 p0 p1 p2 lx;obtain ⟨rfl,hb,p0,p1,p2,lx⟩:=hcut;replace lx:=hid lx;cases bad
  rotate_left
  ·have HV2:Hid (mayS x.s=false):=hid (by rw[HST.out];rfl);clear HST HBD;go_wp2;go_ret;exact ⟨by rw[HV2.out];rfl,hb⟩
  have HV2:Hid (mayS x.s=(mayRs x.a (pE x.e (i+1)) (x.e.drop (i+1)) && U)):=hid (by rw[HST.out];rfl);clear HST HBD;go_wp2;go_roundw
  ·exact ⟨i+1,by have:=HI.out;omega,by go_num,HV2,hb,p0,p1,p2,lx⟩
  simp[intOf];have:=HI.out;omega
 have HE:Hid (mayS x.s=mayPr x.a (pW x.p 0) (x.p.drop 0)):=hid (by rw[HM.out,List.drop_eq_nil_of_le (by omega),HU.out];rfl);have d1:=dF (p:=(i:Int)<(x.e.length:Int));clear HM HU;go_wp2_with fail
 clear hlt;go_loopw [5] (fun iv wr=>∃ i:Nat,i≤x.p.length∧iv=.int .i64 i∧Hid (mayS x.s=mayPr x.a (pW x.p i) (x.p.drop i))∧Below w.heap.size w wr∧(wr.cell? ⟨bp,0,none⟩=some (.slice x.aa x.a.length x.ac))∧(wr.cell? ⟨bp,1,none⟩=some (.slice x.ea x.e.length x.ec))∧(wr.cell? ⟨bp,2,none⟩=some (.slice x.pa x.p.length x.pc))∧Hid (InnerS wr x)) (fun iv _=>x.p.length - (intOf iv).toNat)
 case atStart=>exact ⟨0,by omega,rfl,HE,hb,p0,p1,p2,lx⟩
 clear HE hb p0 p1 p2 lx d1 hi;obtain ⟨i,hi,rfl,HM,hb,p0,p1,p2,lx⟩:=hrel;by_cases hlt:i<x.p.length;rotate_left
 ·have HE:Hid (mayS x.s=true):=hid (by rw[HM.out,List.drop_eq_nil_of_le (by omega)];rfl);go_wp2;go_ret;exact ⟨by rw[HE.out];rfl,hb⟩
 have d1:=dT (p:=(i:Int)<(x.p.length:Int));have j1:(0:Int)≤(i:Int):=by omega
 have j2:(i:Int)<(x.p.length:Int):=by omega
 obtain ⟨b,o,hea,hc⟩:=lx.out.p.2 (by omega);rw[hea];rw[hea] at p2;have c0:wr.cell? ⟨b,o+i,none⟩=some ↑(x.p[i]):=by
  have q:=hc i hlt 0 _ rfl;rw[show o+i*wE.k+0=o+i by show o+i*1+0=o+i;omega] at q;exact q
 have hst:=mayPr_step x.a hlt;have HPV:Hid (∀ k',i=k'+1→∃ pv,pW x.p i=some pv∧wr.cell? ⟨b,o+k',none⟩=some ↑pv):=hid (fun k' hk=>by
  subst hk;have hkl:k'<x.p.length:=by omega
  have q:=hc k' hkl 0 _ rfl;rw[show o+k'*wE.k+0=o+k' by show o+k'*1+0=o+k';omega] at q;exact ⟨x.p[k'],pW_next hkl,q⟩)
 obtain ⟨t,ht⟩:=nm x.p[i];rw[← ht] at hst c0;obtain ⟨z,hz⟩:=nm (ofL x.a t);have D1:=hid (fun W (h:InnerS W x)=>(by rw[hz];exact RefDots.of_any t x.a x.aa x.a.length x.ac W h.a (by have:=OX.out.a;omega) (ok_of OX.out.am):CP 109 #[.slice x.aa x.a.length x.ac,t] W (.int .u64 (z:Nat))));rw[← hz] at hst;obtain ⟨o',ho'⟩:=nm (pW x.p i);rw[← ho'] at hst;have HO':=hid ho';obtain ⟨bad,hbad⟩:=nm (!(!decide (t=[]) && (!befT o' t && decide (z=0))));have HST:Hid (mayS x.s=(!bad && mayPr x.a (pW x.p (i+1)) (x.p.drop (i+1)))):=hid (by rw[HM.out,← ho',hst,hbad,Bool.not_not]);have HBD:=hid hbad;have HI:=hid hlt;clear hc ht hst hlt HM hz hea hbad ho';go_upto_region 12 with (fail)
 go_cut [90] (fun zv wx=>zv=.bool bad∧Below w.heap.size w wx∧wx.cell? ⟨bp,0,none⟩=some (.slice x.aa x.a.length x.ac)∧wx.cell? ⟨bp,1,none⟩=some (.slice x.ea x.e.length x.ec)∧wx.cell? ⟨bp,2,none⟩=some (.slice (some ⟨b,o,none⟩) x.p.length x.pc)∧InnerS wx x)
 case first =>
  by_cases hp:t=[]
  ·have e0:(t == [])=true:=by rw[hp];rfl
   have HZ:Hid (bad=true):=hid (by rw[HBD.out,decide_eq_true hp];rfl);clear hp HPV;go_wp2_with fail
   refine rhd (aj6 hb p0 p1 p2 lx.out c0) fun gH=>?_;refine tk (.range 35) ?_;refine tD ?_;clear hb p0 p1 p2 lx c0;obtain ⟨hb,p0,p1,p2,lx,c0⟩:=gH;replace lx:=hid lx;go_wp2_with fail
   go_meet;exact ⟨by rw[HZ.out],hb,p0,p1,p2,lx.out⟩
  have e0:(t == [])=false:=by rw[beq_eq_false_iff_ne];exact hp
  have HY0:Hid (bad = !(!befT o' t && decide (z=0))):=hid (by rw[HBD.out,decide_eq_false hp];rfl);clear hp;by_cases h9:z=0;rotate_left
  ·have z9:decide ((0:Int)<(z:Int))=true:=dT;have z9n:=dT (p:=0<z);have HZ:Hid (bad=true):=hid (by rw[HY0.out,decide_eq_false h9,Bool.and_false];rfl);clear h9 HPV;go_wp2_with fail
   refine rhd (aj6 hb p0 p1 p2 lx.out c0) fun gH=>?_;refine tk (.range 14) ?_;refine tR 14 fun K hK=>?_;go_simp;go_at_call 109;refine cp (D1.out _ gH.2.2.2.2.1) ?_;go_wp2_with fail
   refine hK.out _ _ gH (fun gH=>?_);clear hK K;try simp only[Act.put,List.setIfInBounds_toArray,List.set_cons_zero,List.set_cons_succ]
   refine tk (.range' 15 20) ?_;refine tD ?_;clear hb p0 p1 p2 lx c0;obtain ⟨hb,p0,p1,p2,lx,c0⟩:=gH;replace lx:=hid lx;go_wp2_with fail
   go_meet;exact ⟨by rw[HZ.out],hb,p0,p1,p2,lx.out⟩
  have z9:=dF (p:=(0:Int)<(z:Int));have z9n:=dF (p:=0<z);have HY:Hid (bad=befT o' t):=hid (by rw[HY0.out,decide_eq_true h9];simp);clear h9 HY0;by_cases hi0:i=0
  ·have z1:decide ((0:Int)<(i:Int))=false:=dF;have z1n:=dF (p:=0<i);have HZ:Hid (bad=false):=hid (by rw[HY.out,HO'.out,hi0];rfl);clear hi0 HPV HY;go_wp2_with fail
   refine rhd (aj6 hb p0 p1 p2 lx.out c0) fun gH=>?_;refine tk (.range 14) ?_;refine tR 14 fun K hK=>?_;go_simp;go_at_call 109;refine cp (D1.out _ gH.2.2.2.2.1) ?_;go_wp2_with fail
   refine hK.out _ _ gH (fun gH=>?_);clear hK K;try simp only[Act.put,List.setIfInBounds_toArray,List.set_cons_zero,List.set_cons_succ]
   refine tk (.range' 15 20) ?_;refine tD ?_;clear hb p0 p1 p2 lx c0;obtain ⟨hb,p0,p1,p2,lx,c0⟩:=gH;replace lx:=hid lx;go_wp2_with fail
   go_meet;exact ⟨by rw[HZ.out],hb,p0,p1,p2,lx.out⟩
  obtain ⟨k',hk'⟩:∃ k',i=k'+1:=⟨i - 1,by omega⟩
  obtain ⟨pv,hpv,hp0⟩:=HPV.out k' hk';have z1:=dT (p:=(0:Int)<(i:Int));have z1n:=dT (p:=0<i);have w1:IntKind.i64.wrap ((i:Int) - 1)=(k':Int):=by rw[IntKind.wrap_i64];omega
  have j5:(0:Int)≤(k':Int):=by omega
  have j6:(k':Int)<(x.p.length:Int):=by omega
  have z2:o'=some pv:=HO'.out.trans hpv;have HY2:Hid (bad = !(decide (TL pv t))):=hid (by rw[HY.out,z2];rfl);have HK':=hid hk';clear z2 hi0 HPV hpv hk' HY;rcases tl_ways pv t with hw | hw | hw
  ·obtain ⟨q1,q2,q3,q4⟩:=ways_less hw;have HZ:Hid (bad=false):=hid (by rw[HY2.out,decide_eq_true hw];rfl);clear hw;go_wp2_with fail
   refine rhd (aj7 hb p0 p1 p2 lx.out c0 hp0) fun gH=>?_;refine tk (.range 14) ?_;refine tR 14 fun K hK=>?_;go_simp;go_at_call 109;refine cp (D1.out _ gH.2.2.2.2.1) ?_;go_wp2_with fail
   refine hK.out _ _ gH (fun gH=>?_);clear hK K;try simp only[Act.put,List.setIfInBounds_toArray,List.set_cons_zero,List.set_cons_succ]
   refine tk (.range' 15 20) ?_;refine tD ?_;clear hb p0 p1 p2 lx c0 hp0;obtain ⟨hb,p0,p1,p2,lx,c0,hp0⟩:=gH;replace lx:=hid lx;go_wp2_with fail
   go_meet;exact ⟨by rw[HZ.out],hb,p0,p1,p2,lx.out⟩
  ·have q1:=less_self t;have HZ:Hid (bad=true):=hid (by rw[HY2.out,decide_eq_false (by rw[hw];exact linT.irr t)];rfl);have q3:(pv == t)=true:=by simp[hw]
   have q4:(t == pv)=true:=by simp[hw]
   have q5:Op.bytesLess pv t=false:=by rw[hw];exact q1
   have q6:Op.bytesLess t pv=false:=by rw[hw];exact q1
   clear hw;go_wp2_with fail
   refine rhd (aj7 hb p0 p1 p2 lx.out c0 hp0) fun gH=>?_;refine tk (.range 14) ?_;refine tR 14 fun K hK=>?_;go_simp;go_at_call 109;refine cp (D1.out _ gH.2.2.2.2.1) ?_;go_wp2_with fail
   refine hK.out _ _ gH (fun gH=>?_);clear hK K;try simp only[Act.put,List.setIfInBounds_toArray,List.set_cons_zero,List.set_cons_succ]
   refine tk (.range' 15 20) ?_;refine tD ?_;clear hb p0 p1 p2 lx c0 hp0;obtain ⟨hb,p0,p1,p2,lx,c0,hp0⟩:=gH;replace lx:=hid lx;go_wp2_with fail
   go_meet;exact ⟨by rw[HZ.out],hb,p0,p1,p2,lx.out⟩
  obtain ⟨q1,q2,q3,q4⟩:=ways_less hw;have HZ:Hid (bad=true):=hid (by rw[HY2.out,decide_eq_false (fun h=>linT.irr _ (linT.trans hw h))];rfl);clear hw;go_wp2_with fail
  refine rhd (aj7 hb p0 p1 p2 lx.out c0 hp0) fun gH=>?_;refine tk (.range 14) ?_;refine tR 14 fun K hK=>?_;go_simp;go_at_call 109;refine cp (D1.out _ gH.2.2.2.2.1) ?_;go_wp2_with fail
  refine hK.out _ _ gH (fun gH=>?_);clear hK K;try simp only[Act.put,List.setIfInBounds_toArray,List.set_cons_zero,List.set_cons_succ]
  refine tk (.range' 15 20) ?_;refine tD ?_;clear hb p0 p1 p2 lx c0 hp0;obtain ⟨hb,p0,p1,p2,lx,c0,hp0⟩:=gH;replace lx:=hid lx;go_wp2_with fail
  go_meet;exact ⟨by rw[HZ.out],hb,p0,p1,p2,lx.out⟩
 clear hb c0 p0 p1 p2 lx;obtain ⟨rfl,hb,p0,p1,p2,lx⟩:=hcut;replace lx:=hid lx;cases bad
 rotate_left
 ·have HV2:Hid (mayS x.s=false):=hid (by rw[HST.out];rfl);clear HST HBD;go_wp2;go_ret;exact ⟨by rw[HV2.out];rfl,hb⟩
 have HV2:Hid (mayS x.s=mayPr x.a (pW x.p (i+1)) (x.p.drop (i+1))):=hid (by rw[HST.out];rfl);clear HST HBD;go_wp2;go_roundw
 ·exact ⟨i+1,by have:=HI.out;omega,by go_num,HV2,hb,p0,p1,p2,lx⟩
 simp[intOf];have:=HI.out;omega
end RefMay
end Go.Proofs.YtnpjkmomllkhpaaGreatDoor
