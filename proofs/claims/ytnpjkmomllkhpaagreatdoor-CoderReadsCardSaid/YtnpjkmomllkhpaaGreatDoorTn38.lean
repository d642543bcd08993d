/- ReadFitM, ReadMems, RefRead, RefReadS. -/
import Derived.Test.YtnpjkmomllkhpaaGreatDoorTn34
import Derived.Test.YtnpjkmomllkhpaaGreatDoorTn37
set_option linter.unusedVariables false
set_option linter.unusedSimpArgs false
set_option maxRecDepth 100000
set_option maxHeartbeats 8000000
namespace Go.Proofs.YtnpjkmomllkhpaaGreatDoor
namespace Taker
open RowKit Num Wire Coder Mem
def FitSn (x:Sn):Prop:=(0≤x.f∧x.f≤9223372036854775807)∧0≤x.t∧x.t≤9223372036854775807
def FitPr (x:Pr):Prop:=x.b.length≤65536∧x.n≤18446744073709551615∧x.o.length≤65536∧x.m≤18446744073709551615
def FitPl (x:Pl):Prop:=x.k.length≤65536∧x.r≤18446744073709551615∧x.l.length≤65536∧FitPr x.a
def FitWd (x:Wd):Prop:=x.o.length≤65536∧x.h≤18446744073709551615∧x.k.length≤65536∧x.r≤18446744073709551615∧x.c≤18446744073709551615
structure FitMb (y:Mb):Prop where
 p:y.p.length≤65536
 s:y.s≤255
 k:0≤y.k∧y.k≤9223372036854775807
 c:0≤y.c∧y.c≤9223372036854775807
 l:y.l≤18446744073709551615
 g:y.g.length≤65537∧∀ s ∈ y.g,FitSn s
 q:FitPl y.q
 w:y.w.length≤65537∧∀ s ∈ y.w,FitWd s
def SzOk (sz:Rdr Nat):Prop:=∀ l E n l' E',sz l E=(n,l',E')→n≤9223372036854775807
theorem size_szok:SzOk sizeS:=fun _ _ _ _ _ h=>by have:=(nat_of (by decide) h).2;omega
theorem half_szok:SzOk halfS:=fun _ _ _ _ _ h=>by have:=(nat_of (by decide) h).2;omega
variable {cnt sz:Rdr Nat}
theorem span_fit (hz:SzOk sz) {l l':List UInt8} {E E':Int} {x:Sn} (h:spanG sz l E=(x,l',E')):FitSn x:=by
 obtain ⟨x0,l0,E0,q0⟩:=tr (sz l E);obtain ⟨x1,l1,E1,q1⟩:=tr (sz l0 E0);simp only[spanG,bindR,q0,q1,Prod.mk.injEq] at h;rw[← h.1];have h0:=hz _ _ _ _ _ q0;have h1:=hz _ _ _ _ _ q1;exact ⟨by dsimp only;omega,by dsimp only;omega⟩
theorem plan_fit {l l':List UInt8} {E E':Int} {x:Pl} (h:planS l E=(x,l',E')):FitPl x:=by
 obtain ⟨x0,l0,E0,q0⟩:=tr (wordS l E);obtain ⟨x1,l1,E1,q1⟩:=tr (natS l0 E0);obtain ⟨x2,l2,E2,q2⟩:=tr (wordS l1 E1);obtain ⟨y0,m0,F0,p0⟩:=tr (wordS l2 E2);obtain ⟨y1,m1,F1,p1⟩:=tr (natS m0 F0);obtain ⟨y2,m2,F2,p2⟩:=tr (wordS m1 F1);obtain ⟨y3,m3,F3,p3⟩:=tr (natS m2 F2);simp only[planS,prunedS,bindR,q0,q1,q2,p0,p1,p2,p3,Prod.mk.injEq] at h;rw[← h.1];exact ⟨word_len q0,nat_le q1,word_len q2,word_len p0,nat_le p1,word_len p2,nat_le p3⟩
theorem said_fit {l l':List UInt8} {E E':Int} {x:Wd} (h:saidS l E=(x,l',E')):FitWd x:=by
 obtain ⟨x0,l0,E0,q0⟩:=tr (wordS l E);obtain ⟨x1,l1,E1,q1⟩:=tr (natS l0 E0);obtain ⟨x2,l2,E2,q2⟩:=tr (wordS l1 E1);obtain ⟨x3,l3,E3,q3⟩:=tr (natS l2 E2);obtain ⟨x4,l4,E4,q4⟩:=tr (truthS l3 E3);obtain ⟨x5,l5,E5,q5⟩:=tr (natS l4 E4);simp only[saidS,bindR,q0,q1,q2,q3,q4,q5,Prod.mk.injEq] at h;rw[← h.1];exact ⟨word_len q0,nat_le q1,word_len q2,nat_le q3,nat_le q5⟩
theorem memberG_fit (hc:Eats cnt) (hs:Eats sz) (hz:SzOk sz) {l l':List UInt8} {E E':Int} {y:Mb} (hl:l.length≤65536) (h:memberG cnt sz l E=(y,l',E')):FitMb y:=by
 obtain ⟨x0,l0,E0,q0⟩:=tr (wordS l E);obtain ⟨x1,l1,E1,q1⟩:=tr (smallS l0 E0);obtain ⟨x2,l2,E2,q2⟩:=tr (sz l1 E1);obtain ⟨x3,l3,E3,q3⟩:=tr (sz l2 E2);obtain ⟨x4,l4,E4,q4⟩:=tr (natS l3 E3);obtain ⟨x5,l5,E5,q5⟩:=tr (manyG cnt (spanG sz) l4 E4);obtain ⟨x6,l6,E6,q6⟩:=tr (planS l5 E5);obtain ⟨x7,l7,E7,q7⟩:=tr (manyG cnt saidS l6 E6);simp only[memberG,bindR,q0,q1,q2,q3,q4,q5,q6,q7,Prod.mk.injEq] at h;rw[← h.1];have a0:=word_eats.keeps.len q0;have a1:=small_eats.keeps.len q1;have a2:=hs.keeps.len q2;have a3:=hs.keeps.len q3;have a4:=nat_eats.keeps.len q4;have a5:=(manyG_eats hc (spanG_eats hs)).keeps.len q5;have a6:=plan_eats.keeps.len q6;have h2:=hz _ _ _ _ _ q2;have h3:=hz _ _ _ _ _ q3;exact ⟨word_len q0,small_le q1,⟨by dsimp only;omega,by dsimp only;omega⟩,⟨by dsimp only;omega,by dsimp only;omega⟩,nat_le q4,manyG_all (P:=FitSn) hc (spanG_eats hs) (fun _ _ _ _ _ _ e=>span_fit hz e) (by omega) q5,plan_fit q6,manyG_all (P:=FitWd) hc said_eats (fun _ _ _ _ _ _ e=>said_fit e) (by omega) q7⟩
def FitMs (L:List Mb):Prop:=L.length≤65537∧∀ x ∈ L,FitMb x
theorem membersG_fit (hc:Eats cnt) (hs:Eats sz) (hz:SzOk sz) {l l':List UInt8} {E E':Int} {y:List Mb} (hl:l.length≤65536) (h:manyG cnt (memberG cnt sz) l E=(y,l',E')):FitMs y :=
 manyG_all (P:=FitMb) hc (memberG_eats hc hs) (fun _ _ _ _ _ hl e=>memberG_fit hc hs hz hl e) hl h
theorem FitMb.ok {x:RM} (h:FitMb x.m):x.Ok where
 p:=by have q:x.p.length≤65536:=h.p;omega
 s:=h.s
 k:=by have q:0≤x.k∧x.k≤9223372036854775807:=h.k;omega
 c:=by have q:0≤x.c∧x.c≤9223372036854775807:=h.c;omega
 l:=h.l
 g:=by have q:x.g.length≤65537:=h.g.1;omega
 gm s hs:=by have q:=h.g.2 s hs;exact ⟨by have:=q.1;omega,by have:=q.2;omega⟩
 q:=by
  have q:FitPl x.q:=h.q;obtain ⟨q1,q2,q3,q4,q5,q6,q7⟩:=q;exact ⟨by omega,q2,by omega,by omega,q5,by omega,q7⟩
 w:=by have q:x.w.length≤65537:=h.w.1;omega
 wm s hs:=by have q:=h.w.2 s hs;obtain ⟨q1,q2,q3,q4,q5⟩:=q;exact ⟨by omega,q2,by omega,q4,q5⟩
theorem mbb_len {y:Mb} (h:FitMb y):(mbb y).length≤10000000000:=by
 have h1:=tx_len y.p;have h2:=lst_len snb 20 y.g (fun s _=>by unfold snb;rw[List.length_append];have:=up_len s.f.toNat;have:=up_len s.t.toNat;omega);have h3:=lst_len wdb 131300 y.w (fun s hs=>by
  obtain ⟨q1,q2,q3,q4,q5⟩:=h.w.2 s hs;have a1:=tx_len s.o;have a2:=tx_len s.k;have a3:=up_len s.h;have a4:=up_len s.r;have a5:=up_len s.c;unfold wdb tb;simp only[List.length_append,List.length_singleton];omega)
 have h4:y.g.length*20≤65537*20:=Nat.mul_le_mul_right _ h.g.1;have h5:y.w.length*131300≤65537*131300:=Nat.mul_le_mul_right _ h.w.1;obtain ⟨q1,q2,q3,q4,q5,q6,q7⟩:=h.q;have a1:=tx_len y.q.k;have a2:=tx_len y.q.l;have a3:=tx_len y.q.a.b;have a4:=tx_len y.q.a.o;have b1:=up_len y.q.r;have b2:=up_len y.q.a.n;have b3:=up_len y.q.a.m;have b4:=up_len y.s;have b5:=up_len y.k.toNat;have b6:=up_len y.c.toNat;have b7:=up_len y.l;have b8:=h.p;unfold mbb plb prb tb;simp only[List.length_append,List.length_singleton];omega
theorem msb_len {L:List Mb} (h:FitMs L) (hm:MayP L):(msb L).length≤70368744177664:=by
 have h1:=lst_len mbb 10000000000 L (fun x hx=>mbb_len (h.2 x hx));have h2:=hm.1.2.1;have h3:L.length*10000000000≤24*10000000000:=Nat.mul_le_mul_right _ h2;unfold msb;omega
end Taker
namespace Taker
open RowKit Num Wire Coder Mem
def OwnMs (w:World) (B:Nat) (a:Option Addr) (c:Nat) (J:List RM):Prop:=Row.Own mbE 92 w B (.slice a J.length c) J∧∀ z ∈ J,OwnB w B z
theorem OwnMs.nil (w:World) (B:Nat):OwnMs w B none 0 []:=⟨Row.Own.nil _ _,fun y hy=>by cases hy⟩
theorem OwnMs.but {w w':World} {B b c:Nat} {a:Option Addr} {J:List RM} (h:OwnMs w B a c J) (k:But b w w') (hb:b<B):OwnMs w' B a c J:=⟨own_but h.1 k hb,fun z hz=>(h.2 z hz).but k hb⟩
theorem OwnMs.base {w:World} {B B' c:Nat} {a:Option Addr} {J:List RM} (h:OwnMs w B a c J) (hB:B'≤B):OwnMs w B' a c J:=⟨Row.Own.base h.1 hB,fun z hz=>(h.2 z hz).base hB⟩
theorem OwnMs.sz {w:World} {B c:Nat} {a:Option Addr} {J:List RM} (h:OwnMs w B a c J) (hf:FitMs (J.map RM.m)):MSz w a J :=
 ⟨⟨lies_of h.1,fun x hx=>(h.2 x hx).inner⟩,fun x hx=>FitMb.ok (hf.2 x.m (List.mem_map.2 ⟨x,hx,rfl⟩)),by have:=hf.1;rw[List.length_map] at this;omega⟩
theorem members_read (b:Nat) (l:List UInt8) (E:Int) (w:World) (h:Rd w b l E) (hz:l.length≤1048576) (xs:List Mb) (l':List UInt8) (E':Int) (hn:manyS memberS l E=(xs,l',E')) :
  Calls Tryz.prog 79 #[.agg #[.pointer (some ⟨b,0,none⟩)]] w fun e w'=>∃ (a:Option Addr) (c:Nat) (J:List RM),e=.returned (.slice a J.length c)∧J.map RM.m=xs∧OwnMs w' w.heap.size a c J∧Rd w' b l' E'∧But b w w':=by
 have C:=hid (many_member b l E (w.alloc (.cells #[.pointer (some ⟨b,0,none⟩)] 124)) (h.alloc _) hz xs l' E' hn);have K:=hid ((But.refl b w).alloc (.cells #[.pointer (some ⟨b,0,none⟩)] 124));clear h hn;go_enter Tryz.func79,Tryz.ntmps79;go_wp2_with fail
 refine C.out.mono ?_;rintro e w1 ⟨v,L,rfl,hx,ho,hi,r,k⟩;replace K:=hid (K.out.trans k);obtain ⟨a,c,rfl,-⟩:=ho.lies;have O:Hid (OwnMs w1 w.heap.size a c L):=hid (OwnMs.base ⟨ho,hi⟩ (by rw[World.size_alloc];omega));have R:=hid r;have HX:=hid hx;clear k ho hi hx r C;go_wp2;go_ret;exact ⟨a,c,L,rfl,HX.out,O.out,R.out,K.out⟩
theorem whole_members (s:List UInt8) (w:World) (hs:s.length≤65536) (y:List Mb) (l':List UInt8) (E':Int) (hn:manyS memberS s 0=(y,l',E')) :
  Calls Tryz.prog 78 #[s,.func (.func 79) #[] #[],.func (.func 52) #[] #[]] w fun e w'=>∃ (a:Option Addr) (c:Nat) (J:List RM),e=.returned (.tuple #[.slice a J.length c,.int .i64 (errS (okS l' E' (tv (MayP y))))])∧J.map RM.m=pickS (okS l' E' (tv (MayP y))) y []∧OwnMs w' w.heap.size a c J∧Below w.heap.size w w':=by
 have HF:=membersG_fit nat_eats size_eats size_szok hs (members_is ▸ hn);obtain ⟨q,hq⟩:=nm (okS l' E' (tv (MayP y)));rw[← hq];have HQ:=hid hq;have hl:s.length≤maxLen:=Nat.le_trans hs (by decide);clear hq;go_enter Tryz.func78,Tryz.ntmps78;go_wp2_with fail
 refine (new_any s w hl).mono ?_;rintro e w1 ⟨rfl,R,k1⟩;obtain ⟨b,hbb⟩:=nm w.heap.size;rw[← hbb] at R k1 ⊢;have hb1:=R.lt;have hb:=k1;have HBB:=hid hbb;clear k1 hbb;go_upto_region 3 with (fail)
 obtain ⟨p,w2,hp,hw2,PB⟩:∃ p w2,p=w1.heap.size∧w2=w1.alloc (.cells #[.pointer (some ⟨b,0,none⟩)] 124)∧Hid (Box w2 p [.pointer (some ⟨b,0,none⟩)]):=⟨_,_,rfl,rfl,Box.new w1 [.pointer (some ⟨b,0,none⟩)] 124 (by simp)⟩
 rw[← hw2,← hp];replace R:Rd w2 b s 0:=by rw[hw2];exact R.alloc _
 replace hb:Below b w w2:=by rw[hw2];exact (hb.alloc (by omega) _)
 have NN:Hid (p≠b∧b<w2.heap.size∧b≤b):=hid (by rw[hw2,World.size_alloc];omega);clear hp hw2 hb1;have p0:=PB.out.at 0 _ rfl;go_wp2_with fail
 refine (members_read b _ _ _ R (by omega) _ _ _ hn).mono ?_;rintro e w3 ⟨a,c,J,rfl,hx,o,R1,k⟩;subst hx;have O:=hid (OwnMs.base o (Nat.le_of_lt NN.out.2.1));replace PB:=hid (PB.out.but k NN.out.1);have sz:=k.size;replace hb:=But.below hb k (Nat.le_refl b) (by have:=NN.out;omega);have HB:=hid hb;have N3:Hid (b<w2.heap.size∧b≤w3.heap.size):=hid (by have:=NN.out;omega);have O2:=hid o;replace HF:=hid HF;clear p0 hn o sz k R hb O;have p0:=PB.out.at 0 _ rfl;obtain ⟨e0,he0⟩:=nm (endS l' E');go_wp2_with fail
 refine (end_any b _ _ _ R1 _ he0.symm).mono ?_;rintro e w4 ⟨rfl,R2,k⟩;replace HB:=hid (But.below HB.out k (Nat.le_refl b) N3.out.2);have sz2:Hid (b≤w4.heap.size):=hid (by have:=N3.out;have:=k.size;omega);replace O2:=hid (OwnMs.but O2.out k N3.out.1);have HE:=hid he0;clear k R1 R2 p0 PB he0;by_cases hE:e0=0;rotate_left
 ·have d2:(e0 != 0)=true:=by rw[bne_iff_ne];exact hE
  have d1:(e0 == 0)=false:=by rw[beq_eq_false_iff_ne];exact hE
  have HG:Hid (q=false):=hid (by rw[HQ.out];unfold okS;rw[← HE.out,decide_eq_false hE];rfl);clear hE HQ;go_wp2;go_ret2;rw[HG.out];exact ⟨none,0,[],rfl,rfl,OwnMs.nil _ _,by rw[← HBB.out];exact HB.out⟩
 subst hE;obtain ⟨m,hm⟩:=nm (tv (MayP (J.map RM.m)));have C:=hid (fun W (h:MSz W a J)=>qB hm (may_any J a c W h));rw[← hm] at HQ;replace HQ:Hid (q=m):=hid (by rw[HQ.out];unfold okS;rw[← HE.out];rfl);have MS:=hid (OwnMs.sz O2.out HF.out);clear hm HE;go_wp2_with fail
 refine cr (C.out _ MS.out) fun w5 k=>?_;replace HB:=hid (HB.out.trans (k.mono sz2.out));replace O2:=hid (OwnMs.but O2.out (But.of k) N3.out.1);clear k C MS;cases m
 ·have HG:Hid (q=false):=hid HQ.out;clear HQ;go_wp2;go_ret2;rw[HG.out];exact ⟨none,0,[],rfl,rfl,OwnMs.nil _ _,by rw[← HBB.out];exact HB.out⟩
 have HG:Hid (q=true):=hid HQ.out;clear HQ;go_wp2;go_ret2;rw[HG.out];exact ⟨a,c,J,rfl,rfl,OwnMs.base O2.out (by have:=NN.out;have:=HBB.out;omega),by rw[← HBB.out];exact HB.out⟩
theorem read_members (s:List UInt8) (w:World) (hs:s.length≤65536) (y:List Mb) (l':List UInt8) (E':Int) (hn:manyS memberS s 0=(y,l',E')) :
  Calls Tryz.prog 27 #[s] w fun e w'=>∃ (a:Option Addr) (c:Nat) (J:List RM),e=.returned (.tuple #[.slice a J.length c,.int .i64 (errS (okS l' E' (tv (MayP y))))])∧J.map RM.m=pickS (okS l' E' (tv (MayP y))) y []∧OwnMs w' w.heap.size a c J∧Below w.heap.size w w':=by
 have C:=hid (whole_members s w hs y l' E' hn);obtain ⟨q,hq⟩:=nm (okS l' E' (tv (MayP y)));rw[← hq] at C ⊢;clear hq hn;go_enter Tryz.func27,Tryz.ntmps27;go_wp2_with fail
 refine C.out.mono ?_;rintro e w1 ⟨a,c,J,rfl,hx,o,k⟩;have HX:=hid hx;have O:=hid o;have K:=hid k;clear hx o k;go_wp2;go_ret2;exact ⟨a,c,J,rfl,HX.out,O.out,K.out⟩
end Taker
namespace RTake
open RowKit YtnpjkmomllkhpaaGreatDoor.Mark Num Wire Bag Coder Taker
structure Tq (w0 w:World) (b br:Nat) (l:List UInt8) (E:Int) (vs:List Value):Prop where
 s:Box w br vs
 r:RB w b l E
 k:But b w0 w
 n:br≠b∧w0.heap.size≤br∧b<br
section
variable {w0 w w1:World} {b br:Nat} {l l1:List UInt8} {E E1:Int} {vs:List Value}
theorem RB.alloc (h:RB w b l E) (o:Obj):RB (w.alloc o) b l E:=h.below (balloc (Below.refl _ _) o)
theorem RB.put {c:Nat} (h:RB w b l E) (hc:c≠b) (j:Nat) (v:Value):RB (w.setCell ⟨c,j,none⟩ v) b l E:=h.but ((But.refl c w).set ⟨c,j,none⟩ rfl v) hc.symm
theorem Tq.new (h:RB w b l E) (k:But b w0 w) (vs:List Value) (T:TypeId) (hv:vs≠[]:=by simp):∃ br W,br=w.heap.size∧W=w.alloc (.cells vs.toArray T)∧Hid (Tq w0 W b br l E vs):=by
 have hlt:=h.lt;have:=k.size;exact ⟨_,_,rfl,rfl,Box.new w vs T hv,h.alloc _,k.alloc _,by omega⟩
theorem Tq.go (h:Tq w0 w b br l E vs) (r:RB w1 b l1 E1) (k:But b w w1):Hid (Tq w0 w1 b br l1 E1 vs):=⟨h.s.but k h.n.1,r,h.k.trans k,h.n⟩
theorem Tq.put (h:Tq w0 w b br l E vs) (j:Nat) (v:Value) (hj:j<vs.length:=by simp):∃ w2,w2=w.setCell ⟨br,j,none⟩ v∧Hid (Tq w0 w2 b br l E (vs.set j v)) :=
 ⟨_,rfl,h.s.set j v hj rfl,h.r.put h.n.1 j v,h.k.put ⟨br,j,none⟩ h.n.2.1 v,h.n⟩
theorem Tq.low {B:Nat} (h:Tq w0 w b br l E vs) (k:Below B w w1) (hb:br<B) (hB:w0.heap.size≤B):Hid (Tq w0 w1 b br l E vs):=⟨h.s.low k hb,h.r.low k (by have:=h.n;omega),but_then h.k k hB,h.n⟩
theorem Tq.alloc (h:Tq w0 w b br l E vs) (o:Obj):Tq w0 (w.alloc o) b br l E vs:=⟨h.s.alloc o,h.r.alloc o,h.k.alloc o,h.n⟩
theorem wpApp {α:Type} {F:Row.Enc α} {te ts:TypeId} {z:Value} {bytes:Nat} {P:Program} (TY:Row.Typ P F ts te z bytes) {ops:Array Oper} {rest:List Oper} {o:Oper} {a:Act} {Q:Exit→Act→World→Prop} (hgd:o.guard=none) (s x:Operand)
  (ho:o.op=.call { callee:=.builtin .append,args:=#[s,x],argTypes:=#[ts,ts] }) (v:Value) (L:List α) (hs:a.eval s=v) (hown:Row.Own F te w (br+1) v L) (ax:Option Addr) (y:α) (hx:a.eval x=.slice ax 1 1) (hK:Row.Lies F w ax 1 [y])
  (hl:L.length≤65537) (T:Tq w0 w b br l E vs) (hb:bytes≤128∨L.length+1≤137438953472) {L':List α} (hL:L'=L++[y])
  (h:∀ a3 u3 w9,Hid (Tq w0 w9 b br l E vs)→Hid (Row.Own F te w9 (br+1) (.slice a3 L'.length u3) L')→w.grownBy w9 v.ownBlock→wpList P ops Q rest (a.put o.dst (.slice a3 L'.length u3)) w9):wpList P ops Q (o::rest) a w:=by
 subst hL;refine Row.wpList_app TY hgd s x ho (br+1) v L hs hown ax 1 1 [y] hx hK (by omega) T.s.1 (fun v9 w9 o9 g9 k9=>?_) hb;obtain ⟨a3,u3,rfl,-⟩:=o9.lies;exact h a3 u3 w9 (T.low k9 (Nat.lt_succ_self br) (by have:=T.n;omega)) o9 g9
theorem stepApp {α:Type} {F:Row.Enc α} {te ts:TypeId} {z:Value} {bytes:Nat} {P:Program} (TY:Row.Typ P F ts te z bytes) {ops:Array Oper} {o:Oper} {a:Act} {Q:Exit→Act→World→Prop} {K0:Act→World→Prop} {F0:Prop} (hgd:o.guard=none) (s x:Operand)
  (ho:o.op=.call { callee:=.builtin .append,args:=#[s,x],argTypes:=#[ts,ts] }) (v:Value) (L:List α) (hs:a.eval s=v) (hown:Row.Own F te w (br+1) v L) (q:Addr) (y:α) (hx:a.eval x=.slice (some q) 1 1) (hK:Row.Lies F w (some q) 1 [y])
  (hl:L.length≤65537) (T:Tq w0 w b br l E vs) (hb:bytes≤128∨L.length+1≤137438953472) {L':List α} (hL:L'=L++[y])
  (h:∀ a3 u3 w9,Hid (Tq w0 w9 b br l E vs)→Hid (Row.Own F te w9 (br+1) (.slice a3 L'.length u3) L')→w.grownBy w9 v.ownBlock→K0 (a.put o.dst (.slice a3 L'.length u3)) w9):if Region.wanted o (yielded ops a.tmps)=true then Oper.wp P o a w K0 Q else F0:=by
 subst hL;refine Row.step_app TY hgd s x ho (br+1) v L hs hown q 1 1 [y] hx hK (by omega) T.s.1 (fun v9 w9 o9 g9 k9=>?_) hb;obtain ⟨a3,u3,rfl,-⟩:=o9.lies;exact h a3 u3 w9 (T.low k9 (Nat.lt_succ_self br) (by have:=T.n;omega)) o9 g9
theorem Tq.below (h:Tq w0 w b br l E vs) (k:Below w.heap.size w w1):Hid (Tq w0 w1 b br l E vs):=⟨h.s.below k,h.r.below k,h.k.trans (But.of k),h.n⟩
theorem mark_cells {B c bm om:Nat} {L:List M} (h:OwnM w B (some ⟨bm,om,none⟩) c L) {j:Nat} (hj:j<L.length):w.cell? ⟨bm,om+j*2,none⟩=some ↑(L[j]).p∧w.cell? ⟨bm,om+j*2+1,none⟩=some ↑(L[j]).n:=by
 obtain ⟨b',o',e,hc⟩:=h.lies.2 (by omega);simp only[Option.some.injEq,Addr.mk.injEq,and_true] at e;obtain ⟨rfl,rfl⟩:=e;exact hc j hj
theorem Tq.stay (h:Tq w0 w b br l E vs) (hE:E≠0) (l':List UInt8):Tq w0 w b br l' E vs:=⟨h.s,h.r.stay hE l',h.k,h.n⟩
end
theorem but_own {w x y:World} {b c:Nat} (h:But b w x) (k:But c x y) (hc:w.heap.size≤c):But b w y :=
 ⟨k.os.trans h.os,k.tape.trans h.tape,k.output.trans h.output,Nat.le_trans h.size k.size,fun j hj hb=>(k.block j (Nat.lt_of_lt_of_le hj h.size) (by omega)).trans (h.block j hj hb)⟩
theorem two {k n:Nat} {E:Int} (h:¬ (k<n∧E=0)):(decide ((k:Int)<(n:Int))=true∧decide (k<n)=true∧(E == 0)=false)∨(decide ((k:Int)<(n:Int))=false∧decide (k<n)=false):=by
 by_cases hk:k<n
 · exact .inl ⟨dT,dT,bF⟩
 exact .inr ⟨dF,dF⟩
theorem Tq.fin {w W wv wF:World} {b bz be:Nat} {l0 l:List UInt8} {E0 E:Int} {zs vs:List Value} (T:Tq W wv b be l E vs) (Z:Tq w W b bz l0 E0 zs) (kz:But bz wv wF):RB wF b l E∧But b w wF :=
 ⟨T.r.but kz Z.n.1.symm,but_own (Z.k.trans T.k) kz Z.n.2.1⟩
theorem Tq.res {w W wv wF:World} {b bz be:Nat} {l0 l:List UInt8} {E0 E:Int} {zs vs:List Value} {α:Type} {x:α} {OW:World→Nat→α→Prop} (T:Tq W wv b be l E vs) (Z:Tq w W b bz l0 E0 zs) (kz:But bz wv wF) (h1:bz<be) (h2:w.heap.size≤be)
  (ob:∀ {w w':World} {B b:Nat} {x:α},OW w B x→But b w w'→b<B→OW w' B x) (os:∀ {w:World} {B B':Nat} {x:α},OW w B x→B'≤B→OW w B' x) (o:OW wv (be+1) x):OW wF w.heap.size x∧RB wF b l E∧But b w wF :=
 ⟨os (ob o kz (by omega)) (by omega),T.fin Z kz⟩
theorem entry_any (b:Nat) (l:List UInt8) (E:Int) (w:World) (h:RB w b l E) (hl:l.length≤65536) (y:Coder.E) (l':List UInt8) (E':Int) (hn:entryG cntS zR l E=(y,l',E')) :
  Calls Tryz.prog 67 #[.pointer (some ⟨b,0,none⟩)] w fun e w'=>∃ x:RE,e=.returned (.agg x)∧x.e=y∧OwnE w' w.heap.size x∧RB w' b l' E'∧But b w w':=by
 obtain ⟨x0,l0,E0,q0⟩:=tr (wordS l E);obtain ⟨x1,l1,E1,q1⟩:=tr (manyG cntS markS l0 E0);have hx0:=word_len q0;have hl0:=Nat.le_trans (word_eats.keeps.len q0) hl;have hl1:=Nat.le_trans ((manyG_eats cnt_eats mark_eats).keeps.len q1) hl0;simp only[entryG,bindR,q0,q1] at hn;have hn:=hid hn;replace q0:=hid q0;replace q1:=hid q1;replace hl0:=hid hl0;replace hl1:=hid hl1;clear hl;go_enter Tryz.func67,Tryz.ntmps67;go_upto_region 1 with (fail)
 obtain ⟨bz,W,hbz,hW,Z⟩:=Tq.new h (But.refl b w) [.string ⟨#[]⟩,.slice none 0 0,.slice none 0 0,.slice none 0 0,.int .u64 0,.string ⟨#[]⟩,.bool false] 29;rw[← hW,← hbz];have NZ:Hid (bz<W.heap.size∧w.heap.size≤W.heap.size):=hid (by rw[hW,World.size_alloc];omega);clear hW hbz h;go_wp2_with fail
 refine (text_any b _ _ _ Z.out.r _ _ _ q0.out).mono ?_;rintro e w1 ⟨rfl,r,k⟩;have R:=hid r;have K:=hid k;clear r k;go_upto_region 2 with (fail)
 obtain ⟨be,Wbe,hbe,hWbe,T⟩:=Tq.new R.out K.out [x0,.slice none 0 0,.slice none 0 0,.slice none 0 0,.int .u64 0,.string ⟨#[]⟩,.bool false] 29;rw[← hWbe,← hbe];have NE:Hid (bz<be∧W.heap.size≤be∧w.heap.size≤be):=hid (by have:=NZ.out;have:=K.out.size;omega);have NB:Hid (b<be+1):=hid (by have:=T.out.n;omega);clear hWbe hbe R K;go_wp2_with fail
 refine (marks_any b _ _ _ T.out.r hl0.out _ _ _ q1.out).mono ?_;rintro e w11 ⟨a1,u1,rfl,o1,r,k⟩;have O1:Hid (OwnM w11 (be+1) a1 u1 x1):=hid (o1.base T.out.s.1);clear o1;replace T:=T.out.go r k;clear r k;have z:=T.out.s.2.2;have t1:=T.out.s.at 1 _ rfl;go_upto_region 3 with (fail)
 obtain ⟨w12,hw12,T'⟩:=T.out.put 1 (.slice a1 x1.length u1);rw[← hw12];replace O1:=hid (OwnM.but O1.out (bsetB hw12) (Nat.lt_succ_self be));clear hw12 T;have T:=T';clear T';clear z t1;have t:=T.out.s.at 0 _ rfl;obtain ⟨q,hq⟩:=nm (kd x0);have KD:=hid (fun W=>(by rw[hq];exact RefMay.refkind x0 W hx0:CB 61 #[x0] W (.int .u8 (q:Nat))));rw[← hq] at hn;clear hq hx0;go_wp2_with fail
 refine cr (KD.out _) fun w4 k=>?_;replace O1:=hid (O1.out.but (But.of k) NB.out);replace T:=T.out.go (T.out.r.below k) (But.of k);clear k t;by_cases k1:q=1
 ·
  obtain ⟨n,l2,E2,q2⟩:=tr (cntS l1 E1);have hn6:=cnt_le hl1.out q2;have hn2:=hn.out;simp only[if_pos k1] at hn2;obtain ⟨x2,l3,E3,q3⟩:=tr (loopS countS n l2 E2);simp only[manyG,bindR,q2,q3,Prod.mk.injEq] at hn2;obtain ⟨rfl,rfl,rfl⟩:=hn2;have hl2:=Nat.le_trans (cnt_eats.keeps.len q2) hl1.out;have P:=hid (Lp.start (loc:=id) hl2 q3);have zz1:=bT (a:=q) (b:=1);have q2:=hid q2;clear hn q3 k1 hl2;go_wp2_with fail
  refine (count_any b _ _ _ T.out.r _ _ _ q2.out).mono ?_;rintro e w13 ⟨rfl,r,k⟩;replace O1:=hid (OwnM.but O1.out k NB.out);replace T:=T.out.go r k;clear r k;have O2:=hid (OwnC.nil w13 (be+1));go_wp2_with fail
  go_loopw [5] (fun iv wr=>∃ (k:Nat) (ys:List C) (l2:List UInt8) (E2:Int) (a2:Option Addr) (u2:Nat),iv=.int .i64 k∧k≤n∧Hid (Lp countS id n x2 l3 E3 k ys l2 E2)∧Hid (OwnC wr (be+1) a2 u2 ys)∧Hid (OwnM wr (be+1) a1 u1 x1)∧Hid (Tq W wr b be l2 E2 [x0,.slice a1 x1.length u1,.slice a2 ys.length u2,.slice none 0 0,.int .u64 0,.string ⟨#[]⟩,.bool false])) (fun iv _=>n - (intOf iv).toNat)
  case atStart=>exact ⟨0,[],l2,E2,none,0,rfl,by omega,P,O2,O1,T⟩
  clear O1 O2 T P;obtain ⟨k,ys,l2,E2,a2,u2,rfl,hkn,P,O2,O1,T⟩:=hrel;by_cases hx:k<n∧E2=0;rotate_left
  ·have HD:=hid (P.out.done (by omega));obtain ⟨s,r0,r1,z0,hlt,-⟩:=T.out.r.to;have ZB:=Z.out.s.but T.out.k Z.out.n.1;obtain ⟨c0,c1,c2,c3,c4,c5,c6⟩:=al7 T.out.s.at;obtain ⟨v0,v1,v2,v3,v4,v5,v6⟩:=al7 ZB.at;have z:=ZB.2.2;clear ZB;rcases two hx with ⟨d1,d2,d3⟩ | ⟨d1,d2⟩
   all_goals
    clear P hx;go_wp2;refine bodyPost_ret (v:=.agg #[x0,.slice a1 x1.length u1,.slice a2 ys.length u2,.slice none 0 0,.int .u64 0,.string ⟨#[]⟩,.bool false]) (by simp[results,Tryz.results67,go_sem,v0,v1,v2,v3,v4,v5,v6]) rfl ?_;obtain ⟨e1,rfl,rfl⟩:=HD.out;try rw[List.map_id] at e1
    subst e1;exact ⟨⟨x0,a1,u1,x1,a2,u2,ys,none,0,[],Cl.zero⟩,rfl,rfl,T.out.res Z.out (by repeat (first | refine But.set ?_ _ (by rfl) _ | exact But.refl bz wr)) NE.out.1 NE.out.2.2 OwnE.but OwnE.base ⟨O1.out,O2.out,OwnI.nil _ _⟩⟩
  obtain ⟨hk,rfl⟩:=hx;have d1:=dT (p:=(k:Int)<(n:Int));have d2:=dT (p:=k<n);obtain ⟨y0,m0,F0,p0⟩:=tr (wordS l2 0);obtain ⟨y1,m1,F1,p1⟩:=tr (natS m0 F0);obtain ⟨y2,m2,F2,p2⟩:=tr (natS m1 F1);obtain ⟨ys',hys⟩:=nm (ys++[(⟨y0,y1,y2⟩:C)]);have P':=hid (P.out.next (x:=(⟨y0,y1,y2⟩:C)) count_eats hk (by unfold countS;simp only[bindR,p0,p1,p2];rfl));rw[← hys] at P';have HY:=hid hys;have Q0:=hid p0;have Q1:=hid p1;have Q2:=hid p2;have HK:=hid hk;have HS:Hid (ys.length≤65537):=hid (by have:=P.out.sz;omega);clear p0 p1 p2 hk P hys;obtain ⟨⟨r0,r1⟩,z0,hlt,-⟩:=T.out.r.at;go_wp2_with fail
  refine (text_any b _ _ _ T.out.r _ _ _ Q0.out).mono ?_;rintro e w6 ⟨rfl,r,k6⟩;have R:=hid r;have K:=hid k6;clear r k6 r0 r1 z0 hlt;go_upto_region 13 with (fail)
  obtain ⟨bc,Wbc,hbc,hWbc,G⟩:=Tq.new R.out K.out [y0,.int .u64 0,.int .u64 0] 98;rw[← hWbc,← hbc];clear hWbc hbc R K;go_wp2_with fail
  refine (nat_any b _ _ _ G.out.r _ _ _ Q1.out).mono ?_;rintro e w14 ⟨rfl,r,k⟩;replace G:=G.out.go r k;clear r k;have z:=G.out.s.2.2;have t1:=G.out.s.at 1 _ rfl;go_upto_region 14 with (fail)
  obtain ⟨w15,hw15,T'⟩:=G.out.put 1 y1;rw[← hw15];clear hw15 G;have G:=T';clear T';clear z t1;go_wp2_with fail
  refine (nat_any b _ _ _ G.out.r _ _ _ Q2.out).mono ?_;rintro e w16 ⟨rfl,r,k⟩;replace G:=G.out.go r k;clear r k;have z:=G.out.s.2.2;have t2:=G.out.s.at 2 _ rfl;go_upto_region 15 with (fail)
  obtain ⟨w17,hw17,T'⟩:=G.out.put 2 y2;rw[← hw17];clear hw17 G;have G:=T';clear T';clear z t2;replace T:=T.out.go G.out.r G.out.k;replace O1:=hid (O1.out.but G.out.k NB.out);replace O2:=hid (O2.out.but G.out.k NB.out);obtain ⟨c0,c1,c2⟩:=al3 G.out.s.at;have t:=T.out.s.at 2 _ rfl;go_upto_region 11 with (at_builtin;refine wpApp typC rfl _ _ rfl _ ys rfl (O2.out.alloc _) _ ⟨y0,y1,y2⟩ rfl (Row.lies_new _ _ _) HS.out (T.out.alloc _) (.inl (by decide)) HY.out ?_;intro a3 u3 w9 T9 o9 g9;replace O1:=hid (kept_by (Row.Own.alloc O1.out _) (O2.out.alloc _) g9 (by decide));replace T:=T9;replace O2:=o9;clear T9 o9 g9 c0 c1 c2 t G;have z:=T.out.s.2.2;have t2:=T.out.s.at 2 _ rfl)
  obtain ⟨w18,hw18,T'⟩:=T.out.put 2 (.slice a3 ys'.length u3);rw[← hw18];replace O1:=hid (OwnM.but O1.out (bsetB hw18) (Nat.lt_succ_self be));replace O2:=hid (OwnC.but O2.out (bsetB hw18) (Nat.lt_succ_self be));clear hw18 T;have T:=T';clear T';clear z t2;go_wp2;go_roundw
  ·exact ⟨k+1,ys',m2,F2,a3,u3,by go_num,HK.out,P',O2,O1,T⟩
  simp[intOf];have:=HK.out;omega
 by_cases k2:q=2
 ·
  obtain ⟨n,l2,E2,q2⟩:=tr (cntS l1 E1);have hn6:=cnt_le hl1.out q2;have hn2:=hn.out;simp only[if_neg k1,if_pos k2] at hn2;obtain ⟨x2,l3,E3,q3⟩:=tr (loopS (itemG cntS) n l2 E2);simp only[manyG,bindR,q2,q3,Prod.mk.injEq] at hn2;obtain ⟨rfl,rfl,rfl⟩:=hn2;have hl2:=Nat.le_trans (cnt_eats.keeps.len q2) hl1.out;have P:=hid (Lp.start (loc:=RI.it) hl2 q3);have zz1:=bF (a:=q) (b:=1);have zz2:=bT (a:=q) (b:=2);have q2:=hid q2;clear hn q3 k1 k2 hl2;go_wp2_with fail
  refine (count_any b _ _ _ T.out.r _ _ _ q2.out).mono ?_;rintro e w19 ⟨rfl,r,k⟩;replace O1:=hid (OwnM.but O1.out k NB.out);replace T:=T.out.go r k;clear r k;have O2:=hid (OwnI.nil w19 (be+1));go_wp2_with fail
  go_loopw [8] (fun iv wr=>∃ (k:Nat) (ys:List RI) (l2:List UInt8) (E2:Int) (a2:Option Addr) (u2:Nat),iv=.int .i64 k∧k≤n∧Hid (Lp (itemG cntS) RI.it n x2 l3 E3 k ys l2 E2)∧Hid (OwnI wr (be+1) a2 u2 ys)∧Hid (OwnM wr (be+1) a1 u1 x1)∧Hid (Tq W wr b be l2 E2 [x0,.slice a1 x1.length u1,.slice none 0 0,.slice a2 ys.length u2,.int .u64 0,.string ⟨#[]⟩,.bool false])) (fun iv _=>n - (intOf iv).toNat)
  case atStart=>exact ⟨0,[],l2,E2,none,0,rfl,by omega,P,O2,O1,T⟩
  clear O1 O2 T P;obtain ⟨k,ys,l2,E2,a2,u2,rfl,hkn,P,O2,O1,T⟩:=hrel;by_cases hx:k<n∧E2=0;rotate_left
  ·have HD:=hid (P.out.done (by omega));obtain ⟨s,r0,r1,z0,hlt,-⟩:=T.out.r.to;have ZB:=Z.out.s.but T.out.k Z.out.n.1;obtain ⟨c0,c1,c2,c3,c4,c5,c6⟩:=al7 T.out.s.at;obtain ⟨v0,v1,v2,v3,v4,v5,v6⟩:=al7 ZB.at;have z:=ZB.2.2;clear ZB;rcases two hx with ⟨d1,d2,d3⟩ | ⟨d1,d2⟩
   all_goals
    clear P hx;go_wp2;refine bodyPost_ret (v:=.agg #[x0,.slice a1 x1.length u1,.slice none 0 0,.slice a2 ys.length u2,.int .u64 0,.string ⟨#[]⟩,.bool false]) (by simp[results,Tryz.results67,go_sem,v0,v1,v2,v3,v4,v5,v6]) rfl ?_;obtain ⟨e1,rfl,rfl⟩:=HD.out;try rw[List.map_id] at e1
    subst e1;exact ⟨⟨x0,a1,u1,x1,none,0,[],a2,u2,ys,Cl.zero⟩,rfl,rfl,T.out.res Z.out (by repeat (first | refine But.set ?_ _ (by rfl) _ | exact But.refl bz wr)) NE.out.1 NE.out.2.2 OwnE.but OwnE.base ⟨O1.out,OwnC.nil _ _,O2.out⟩⟩
  obtain ⟨hk,rfl⟩:=hx;have d1:=dT (p:=(k:Int)<(n:Int));have d2:=dT (p:=k<n);obtain ⟨y0,m0,F0,p0⟩:=tr (wordS l2 0);obtain ⟨y1,m1,F1,p1⟩:=tr (manyG cntS dotS m0 F0);have hy1:=Nat.le_trans (manyG_len cnt_eats dot_eats p1) (Nat.add_le_add_right (Nat.le_trans (word_eats.keeps.len p0) P.out.sz.2.1) 1);have P':=fun (x:RI) (hx:x.it=⟨y0,y1⟩)=>hid (P.out.next (x:=x) (itemG_eats cnt_eats) hk (by rw[hx];unfold itemG;simp only[bindR,p0,p1];rfl));replace P':=hid P';have Q0:=hid p0;have Q1:=hid p1;have HK:=hid hk;have HS:Hid (ys.length≤65537):=hid (by have:=P.out.sz;omega);have hm0:=hid (Nat.le_trans (word_eats.keeps.len p0) P.out.sz.2.1);have HY1:=hid hy1;clear p0 p1 hk P hy1;obtain ⟨⟨r0,r1⟩,z0,hlt,-⟩:=T.out.r.at;go_wp2_with fail
  refine (text_any b _ _ _ T.out.r _ _ _ Q0.out).mono ?_;rintro e w6 ⟨rfl,r,k6⟩;have R:=hid r;have K:=hid k6;clear r k6 r0 r1 z0 hlt;go_upto_region 22 with (fail)
  obtain ⟨bi,Wbi,hbi,hWbi,G⟩:=Tq.new R.out K.out [y0,.slice none 0 0] 155;rw[← hWbi,← hbi];have NI:Hid (b<bi+1∧be<bi):=hid (by have:=G.out.n;have:=T.out.s.1;have:=K.out.size;omega);clear hWbi hbi R K;go_wp2_with fail
  refine (marks_any b _ _ _ G.out.r hm0.out _ _ _ Q1.out).mono ?_;rintro e w20 ⟨am,um,rfl,o1,r,k⟩;have OM:Hid (OwnM w20 (bi+1) am um y1):=hid (o1.base G.out.s.1);clear o1;replace G:=G.out.go r k;clear r k;have OD:Hid (OwnD w20 (bi+1) none 0 []):=hid (Row.Own.nil _ _);have wy1:(y1.length:Int)≤65537:=by have:=HY1.out;omega
  go_wp2_with fail
  go_loopw [11] (fun iv wx=>∃ (ds es:List M) (ad:Option Addr) (ud:Nat),iv=.int .i64 (ds.length:Nat)∧Hid (y1=ds++es)∧Hid (OwnD wx (bi+1) ad ud ds)∧Hid (OwnM wx (bi+1) am um y1)∧Hid (Tq wr wx b bi m1 F1 [y0,.slice ad ds.length ud])) (fun iv _=>y1.length - (intOf iv).toNat)
  case atStart=>exact ⟨[],y1,none,0,rfl,hid rfl,OD,OM,G⟩
  clear OD OM G;obtain ⟨ds,es,ad,ud,rfl,HE,OD,OM,G⟩:=hrel;have hle:ds.length≤y1.length:=by rw[HE.out,List.length_append];omega
  by_cases hj:ds.length<y1.length;rotate_left
  ·obtain rfl:es=[]:=by
    have:=congrArg List.length HE.out;rw[List.length_append] at this;exact List.eq_nil_of_length_eq_zero (by omega)
   have d3:=dF (p:=(ds.length:Int)<(y1.length:Int));have d4:=dF (p:=ds.length<y1.length);replace HE:Hid (y1=ds):=hid (by rw[HE.out,List.append_nil]);clear hle hj;replace T:=T.out.go G.out.r G.out.k;replace O1:=hid (O1.out.but G.out.k NB.out);replace O2:=hid (O2.out.but G.out.k NB.out);obtain ⟨c0,c1⟩:=al2 G.out.s.at;have t:=T.out.s.at 3 _ rfl;obtain ⟨ys',hys⟩:=nm (ys++[(⟨y0,ad,ud,ds⟩:RI)]);have HY:=hid hys;clear hys;go_upto_region 20 with (at_builtin;refine wpApp typI rfl _ _ rfl _ ys rfl (O2.out.1.alloc _) _ (⟨y0,ad,ud,ds⟩:RI) rfl (Row.lies_new _ _ _) HS.out (T.out.alloc _) (.inl (by decide)) HY.out ?_;intro a3 u3 w9 T9 o9 g9;replace O1:=hid (kept_by (Row.Own.alloc O1.out _) (O2.out.1.alloc _) g9 (by decide));replace T:=T9;replace O2:Hid (OwnI w9 (be+1) a3 u3 ys'):=hid ⟨o9.out,by rw[HY.out];intro y hy;rcases List.mem_append.1 hy with hy | hy;(exact kept_by (Row.Own.alloc (O2.out.2 y hy) _) (O2.out.1.alloc _) g9 (by decide));(rw[List.mem_singleton.1 hy];exact kept_by (Row.Own.alloc (Row.Own.base OD.out (by have:=NI.out;omega)) _) (O2.out.1.alloc _) g9 (by decide))⟩;clear T9 o9 g9 c0 c1 t G;have z:=T.out.s.2.2;have t3:=T.out.s.at 3 _ rfl)
   obtain ⟨w21,hw21,T'⟩:=T.out.put 3 (.slice a3 ys'.length u3);rw[← hw21];replace O1:=hid (OwnM.but O1.out (bsetB hw21) (Nat.lt_succ_self be));replace O2:=hid (OwnI.but O2.out (bsetB hw21) (Nat.lt_succ_self be));clear hw21 T;have T:=T';clear T';clear z t3;go_wp2;go_roundw
   ·exact ⟨k+1,ys',m1,F1,a3,u3,by go_num,HK.out,(by rw[HY.out];exact P'.out ⟨y0,ad,ud,ds⟩ (by rw[HE.out];rfl)),O2,O1,T⟩
   simp[intOf];have:=HK.out;omega
  have d3:=dT (p:=(ds.length:Int)<(y1.length:Int));have d4:=dT (p:=ds.length<y1.length);have j1:(0:Int)≤(ds.length:Int):=by omega
  have j2:(ds.length:Int)<(y1.length:Int):=by omega
  have j3:(ds.length:Int)≤65537:=by omega
  obtain ⟨bm,om,rfl,-⟩:=OM.out.lies.2 (by omega);obtain ⟨c0,c1⟩:=mark_cells OM.out hj;obtain ⟨m,hm⟩:=nm y1[ds.length];have HM:=fun w' (h:OwnM w' (bi+1) (some ⟨bm,om,none⟩) um y1)=>mark_cells h hj;rw[← hm] at c0 c1 HM;replace HM:=hid HM;obtain ⟨es',hes⟩:∃ es',es=m::es':=by
   cases es with
   | nil=>have:=congrArg List.length HE.out;rw[List.length_append,List.length_nil] at this;omega
   | cons x es'=>exact ⟨es',by rw[hm];congr 1;simp[HE.out]⟩
  obtain ⟨ds',hds⟩:=nm (ds++[m]);replace HE:Hid (y1=ds'++es'):=hid (by rw[HE.out,hes,hds,List.append_assoc];rfl);have HDL:Hid (ds'.length=ds.length+1):=hid (by rw[hds];simp);have HDS:=hid hds;have HJ:=hid hj;clear hm hes hds hj hle;go_wp2_with fail
  obtain ⟨wd,hwd⟩:=nm (World.drew wr);have kd:Below wr.heap.size wr wd:=by rw[hwd];exact Below.drew (Below.refl _ _)
  refine rhd (And.intro c0 c1) ?_;rw[← hwd];intro gH;replace OD:=hid (Row.Own.below OD.out kd);replace OM:=hid (Row.Own.below OM.out kd);replace G:=G.out.below kd;clear kd hwd c0 c1;have t1:=G.out.s.at 1 _ rfl;refine tk [0,2,3,4,5,6,7,8,9,10,11,12] ?_;refine tR2 1 13 (fun K hK=>?_) fun K hK=>?_
  ·
   go_simp;refine hK.out _ _ gH fun gH=>?_;clear hK K;refine tR 13 fun K hK=>?_;go_simp;refine tA hK gH fun gH=>?_;clear hK K;refine tR 14 fun K hK=>?_;refine stepApp typD rfl _ _ rfl _ ds rfl (Row.Own.alloc OD.out _) _ m rfl (Row.lies_new _ _ _) (by omega) (G.out.alloc _) (.inl (by decide)) HDS.out ?_;intro a3 u3 w9 G9 o9 g9;have OM9:OwnM w9 (bi+1) (some ⟨bm,om,none⟩) um y1:=kept_by (Row.Own.alloc OM.out _) (Row.Own.alloc OD.out _) g9 (by decide);refine hK.out _ _ (HM.out _ OM9) fun gH=>?_;clear hK K t1;replace OM:=hid OM9;replace OD:=o9;replace G:=G9;clear OM9 o9 G9 g9;have z:=G.out.s.2.2;have t1:=G.out.s.at 1 _ rfl;refine tk [15] ?_;refine tR 16 fun K hK=>?_;go_simp;obtain ⟨w3,hw3,G'⟩:=G.out.put 1 (.slice a3 ds'.length u3);rw[← hw3];replace OM:=hid (OwnM.but OM.out (bsetB hw3) (Nat.lt_succ_self bi));replace OD:=hid (OwnD.but OD.out (bsetB hw3) (Nat.lt_succ_self bi));refine hK.out _ _ (HM.out _ OM.out) fun gH=>?_;clear hK K hw3 G z t1 gH;have G:=G';clear G';refine tD ?_;go_wp2;go_roundw
   ·exact ⟨ds',es',a3,u3,by rw[HDL.out];go_num,HE,OD,OM,G⟩
   simp[intOf];have:=HJ.out;omega
  go_simp;refine tA hK gH fun gH=>?_;clear hK K;have t1:=(G.out.alloc (.cells #[m.p,m.n] 167)).s.at 1 _ rfl;refine tR 1 fun K hK=>?_;go_simp;refine hK.out _ _ gH fun gH=>?_;clear hK K;refine tR 14 fun K hK=>?_;refine stepApp typD rfl _ _ rfl _ ds rfl (Row.Own.alloc OD.out _) _ m rfl (Row.lies_new _ _ _) (by omega) (G.out.alloc _) (.inl (by decide)) HDS.out ?_;intro a3 u3 w9 G9 o9 g9;have OM9:OwnM w9 (bi+1) (some ⟨bm,om,none⟩) um y1:=kept_by (Row.Own.alloc OM.out _) (Row.Own.alloc OD.out _) g9 (by decide);refine hK.out _ _ (HM.out _ OM9) fun gH=>?_;clear hK K t1;replace OM:=hid OM9;replace OD:=o9;replace G:=G9;clear OM9 o9 G9 g9;have z:=G.out.s.2.2;have t1:=G.out.s.at 1 _ rfl;refine tk [15] ?_;refine tR 16 fun K hK=>?_;go_simp;obtain ⟨w3,hw3,G'⟩:=G.out.put 1 (.slice a3 ds'.length u3);rw[← hw3];replace OM:=hid (OwnM.but OM.out (bsetB hw3) (Nat.lt_succ_self bi));replace OD:=hid (OwnD.but OD.out (bsetB hw3) (Nat.lt_succ_self bi));refine hK.out _ _ (HM.out _ OM.out) fun gH=>?_;clear hK K hw3 G z t1 gH;have G:=G';clear G';refine tD ?_;go_wp2;go_roundw
  ·exact ⟨ds',es',a3,u3,by rw[HDL.out];go_num,HE,OD,OM,G⟩
  simp[intOf];have:=HJ.out;omega
 obtain ⟨y0,m0,F0,p0⟩:=tr (natS l1 E1);obtain ⟨y1,m1,F1,p1⟩:=tr (wordS m0 F0);obtain ⟨y2,m2,F2,p2⟩:=tr (truthS m1 F1);have hn2:=hn.out;have hc:cellS l1 E1=(⟨y0,y1,y2⟩,m2,F2):=by unfold cellS;simp only[bindR,p0,p1,p2]
 simp only[if_neg k1,if_neg k2,zR,bindR,hc,ite_self,Prod.mk.injEq] at hn2;have zz1:=bF (a:=q) (b:=1);have zz2:=bF (a:=q) (b:=2);obtain ⟨rfl,rfl,rfl⟩:=hn2;have Q0:=hid p0;have Q1:=hid p1;have Q2:=hid p2;clear hn p0 p1 p2 hc k1 k2;go_wp2_with fail
 refine (nat_any b _ _ _ T.out.r _ _ _ Q0.out).mono ?_;rintro e w22 ⟨rfl,r,k⟩;replace O1:=hid (OwnM.but O1.out k NB.out);replace T:=T.out.go r k;clear r k;have z:=T.out.s.2.2;have t4:=T.out.s.at 4 _ rfl;go_upto_region 5 with (fail)
 obtain ⟨w23,hw23,T'⟩:=T.out.put 4 y0;rw[← hw23];replace O1:=hid (OwnM.but O1.out (bsetB hw23) (Nat.lt_succ_self be));clear hw23 T;have T:=T';clear T';clear z t4;go_wp2_with fail
 refine (text_any b _ _ _ T.out.r _ _ _ Q1.out).mono ?_;rintro e w24 ⟨rfl,r,k⟩;replace O1:=hid (OwnM.but O1.out k NB.out);replace T:=T.out.go r k;clear r k;have z:=T.out.s.2.2;have t5:=T.out.s.at 5 _ rfl;go_upto_region 6 with (fail)
 obtain ⟨w25,hw25,T'⟩:=T.out.put 5 y1;rw[← hw25];replace O1:=hid (OwnM.but O1.out (bsetB hw25) (Nat.lt_succ_self be));clear hw25 T;have T:=T';clear T';clear z t5;go_wp2_with fail
 refine (bool_any b _ _ _ T.out.r _ _ _ Q2.out).mono ?_;rintro e w26 ⟨rfl,r,k⟩;replace O1:=hid (OwnM.but O1.out k NB.out);replace T:=T.out.go r k;clear r k;have z:=T.out.s.2.2;have t6:=T.out.s.at 6 _ rfl;go_upto_region 28 with (fail)
 obtain ⟨w27,hw27,T'⟩:=T.out.put 6 y2;rw[← hw27];replace O1:=hid (OwnM.but O1.out (bsetB hw27) (Nat.lt_succ_self be));clear hw27 T;have T:=T';clear T';clear z t6;have ZB:=Z.out.s.but T.out.k Z.out.n.1;obtain ⟨c0,c1,c2,c3,c4,c5,c6⟩:=al7 T.out.s.at;obtain ⟨v0,v1,v2,v3,v4,v5,v6⟩:=al7 ZB.at;have z:=ZB.2.2;clear ZB;go_wp2;refine bodyPost_ret (v:=.agg #[x0,.slice a1 x1.length u1,.slice none 0 0,.slice none 0 0,y0,y1,y2]) (by simp[results,Tryz.results67,go_sem,v0,v1,v2,v3,v4,v5,v6]) rfl ?_;exact ⟨⟨x0,a1,u1,x1,none,0,[],none,0,[],⟨y0,y1,y2⟩⟩,rfl,rfl,T.out.res Z.out (by repeat (first | refine But.set ?_ _ (by rfl) _ | exact But.refl bz _)) NE.out.1 NE.out.2.2 OwnE.but OwnE.base ⟨O1.out,OwnC.nil _ _,OwnI.nil _ _⟩⟩
theorem Tq.resB {w W wv wF:World} {b bz be:Nat} {l0 l:List UInt8} {E0 E:Int} {zs vs:List Value} {α:Type} {x:α} {OW:World→Nat→α→Prop} (B:Nat) (T:Tq W wv b be l E vs) (Z:Tq w W b bz l0 E0 zs) (kz:But bz wv wF) (h1:bz<B) (h2:w.heap.size≤B)
  (ob:∀ {w w':World} {B b:Nat} {x:α},OW w B x→But b w w'→b<B→OW w' B x) (os:∀ {w:World} {B B':Nat} {x:α},OW w B x→B'≤B→OW w B' x) (o:OW wv B x):OW wF w.heap.size x∧RB wF b l E∧But b w wF :=
 ⟨os (ob o kz h1) h2,T.fin Z kz⟩
section
variable {P:Program} {ops:Array Oper} {Q:Exit→Act→World→Prop} {md:Region.Mode} {fuel:Nat} {listed:Array Bool} {a a':Act} {w:World}
theorem tAl {α:Type} {F:Row.Enc α} {y:α} {o:Obj} {K:Act→World→Prop} (hK:Shut (∀ a w,True→(True→wpAnyH P md ops Q (fun _=>True) fuel listed a w)→K a w)) (hL:Row.Lies F (w.alloc o) (some ⟨w.heap.size,0,none⟩) 1 [y])
  (h:∀ wa,Below w.heap.size w wa→Row.Lies F wa (some ⟨w.heap.size,0,none⟩) 1 [y]→wpAnyH P md ops Q (fun _=>True) fuel listed a' wa) (ha:a=a':=by (try simp only[Act.put,List.setIfInBounds_toArray,List.set_cons_zero,List.set_cons_succ]);rfl):K a (w.alloc o) :=
 hK.out a _ trivial fun _=>by rw[ha];exact h _ (balloc (Below.refl _ _) o) hL
end
theorem state_any (b:Nat) (l:List UInt8) (E:Int) (w:World) (h:RB w b l E) (hl:l.length≤65536) (y:S) (l':List UInt8) (E':Int) (hn:stateG cntS zR l E=(y,l',E')) :
  Calls Tryz.prog 71 #[.pointer (some ⟨b,0,none⟩)] w fun e w'=>∃ x:RS,e=.returned (.agg x)∧x.s=y∧OwnS w' w.heap.size x∧RB w' b l' E'∧But b w w':=by
 have he:=entryG_eats cnt_eats zR_keeps;obtain ⟨x1,l1,E1,q1⟩:=tr (manyG cntS markS l E);obtain ⟨n,l2,E2,q2⟩:=tr (cntS l1 E1);obtain ⟨x2,l3,E3,q3⟩:=tr (loopS (entryG cntS zR) n l2 E2);obtain ⟨n',l4,E4,q4⟩:=tr (cntS l3 E3);obtain ⟨x3,l5,E5,q5⟩:=tr (loopS wordS n' l4 E4);have hl1:=Nat.le_trans ((manyG_eats cnt_eats mark_eats).keeps.len q1) hl;have hl2:=Nat.le_trans (cnt_eats.keeps.len q2) hl1;have hl3:=Nat.le_trans ((loopS_keeps he n).len q3) hl2;have hl4:=Nat.le_trans (cnt_eats.keeps.len q4) hl3;have hn6:=cnt_le hl1 q2;have hn7:=cnt_le hl3 q4;have P:=hid (Lp.start (loc:=RE.e) hl2 q3);have P7:=hid (Lp.start (loc:=id) hl4 q5);simp only[stateG,manyG,bindR] at hn;have q1':=q1;unfold manyG at q1';simp only[bindR] at q1';simp only[q1',q2,q3,q4,q5,Prod.mk.injEq] at hn;obtain ⟨rfl,rfl,rfl⟩:=hn;replace q1:=hid q1;replace q2:=hid q2;replace q4:=hid q4;replace he:=hid he;replace hl:=hid hl;clear q1' q3 q5 hl1 hl2 hl3 hl4;go_enter Tryz.func71,Tryz.ntmps71;go_upto_region 1 with (fail)
 obtain ⟨bz,W,hbz,hW,Z⟩:=Tq.new h (But.refl b w) [.slice none 0 0,.slice none 0 0,.slice none 0 0] 33;rw[← hW,← hbz];have NZ:Hid (bz<W.heap.size∧w.heap.size≤W.heap.size):=hid (by rw[hW,World.size_alloc];omega);clear hW hbz h;go_wp2_with fail
 refine (marks_any b _ _ _ Z.out.r hl.out _ _ _ q1.out).mono ?_;rintro e w1 ⟨a1,u1,rfl,o1,r,k⟩;have O0:=hid o1;have N1:Hid (bz<w1.heap.size∧w.heap.size≤w1.heap.size∧b<W.heap.size∧W.heap.size≤w1.heap.size∧bz<W.heap.size∧w.heap.size≤W.heap.size):=hid (by have:=NZ.out;have:=k.size;have:=Z.out.r.lt;omega);replace Z:=Z.out.go r k;clear r k o1 q1 hl;go_upto_region 2 with (fail)
 obtain ⟨be,Wbe,hbe,hWbe,T⟩:=Tq.new Z.out.r (But.refl b w1) [.slice a1 x1.length u1,.slice none 0 0,.slice none 0 0] 33;rw[← hWbe,← hbe];have NE:Hid (bz<be∧w1.heap.size≤be∧w.heap.size≤be):=hid (by have:=N1.out;omega);have NB:Hid (b<be+1):=hid (by have:=T.out.n;omega);clear hWbe hbe;go_wp2_with fail
 refine (count_any b _ _ _ T.out.r _ _ _ q2.out).mono ?_;rintro e w11 ⟨rfl,r,k⟩;replace T:=T.out.go r k;clear r k;have O2:Hid (OwnEs w11 (be+1) none 0 []):=hid ⟨Row.Own.nil _ _,fun y hy=>by cases hy⟩;clear q2;go_wp2_with fail
 go_loopw [5] (fun iv wr=>∃ (k:Nat) (ys:List RE) (l2:List UInt8) (E2:Int) (a2:Option Addr) (u2:Nat),iv=.int .i64 k∧k≤n∧Hid (Lp (entryG cntS zR) RE.e n x2 l3 E3 k ys l2 E2)∧Hid (OwnEs wr (be+1) a2 u2 ys)∧Hid (Tq w1 wr b be l2 E2 [.slice a1 x1.length u1,.slice a2 ys.length u2,.slice none 0 0])) (fun iv _=>n - (intOf iv).toNat)
 case atStart=>exact ⟨0,[],l2,E2,none,0,rfl,by omega,P,O2,T⟩
 clear O2 T P;obtain ⟨k,ys,l2,E2,a2,u2,rfl,hkn,P,O2,T⟩:=hrel;by_cases hx:k<n∧E2=0;rotate_left
 ·have HD:=hid (P.out.done (by omega));obtain ⟨s,r0,r1,z0,hlt,-⟩:=T.out.r.to;rcases two hx with ⟨d1,d2,d3⟩ | ⟨d1,d2⟩
  all_goals
   clear P hx;go_wp2_with fail
   obtain ⟨e1,rfl,rfl⟩:=HD.out;have HD1:=hid e1;clear d1 d2 HD e1 r0 r1 z0 hlt;try clear d3
   skip;refine (count_any b _ _ _ T.out.r _ _ _ q4.out).mono ?_;rintro e w12 ⟨rfl,r,k⟩;replace O2:=hid (OwnEs.but O2.out k NB.out);replace T:=T.out.go r k;clear r k;have O3:Hid (OwnW w12 (be+1) none 0 []):=hid (Row.Own.nil _ _);clear q4;go_wp2_with fail
   go_loopw [6] (fun iv wr=>∃ (k:Nat) (zs:List (List UInt8)) (l2:List UInt8) (E2:Int) (a3:Option Addr) (u3:Nat),iv=.int .i64 k∧k≤n'∧Hid (Lp wordS id n' x3 l5 E5 k zs l2 E2)∧Hid (OwnW wr (be+1) a3 u3 zs)∧Hid (OwnEs wr (be+1) a2 u2 ys)∧Hid (Tq w1 wr b be l2 E2 [.slice a1 x1.length u1,.slice a2 ys.length u2,.slice a3 zs.length u3])) (fun iv _=>n' - (intOf iv).toNat)
   case atStart=>exact ⟨0,[],l4,E4,none,0,rfl,by omega,P7,O3,O2,T⟩
   clear O2 O3 T P7;obtain ⟨k,zs,l2,E2,a3,u3,rfl,hkn,P,O3,O2,T⟩:=hrel;by_cases hx:k<n'∧E2=0;rotate_left
   ·have HD:=hid (P.out.done (by omega));obtain ⟨s,r0,r1,z0,hlt,-⟩:=T.out.r.to;have ZB:=Z.out.s.but T.out.k Z.out.n.1;obtain ⟨c0,c1,c2⟩:=al3 T.out.s.at;obtain ⟨v0,v1,v2⟩:=al3 ZB.at;have z:=ZB.2.2;clear ZB;rcases two hx with ⟨d1,d2,d3⟩ | ⟨d1,d2⟩
    all_goals
     clear P hx;go_wp2;refine bodyPost_ret (v:=.agg #[.slice a1 x1.length u1,.slice a2 ys.length u2,.slice a3 zs.length u3]) (by simp[results,Tryz.results71,go_sem,v0,v1,v2]) rfl ?_;obtain ⟨e1,rfl,rfl⟩:=HD.out;rw[List.map_id] at e1;subst e1;exact ⟨⟨a1,u1,x1,a2,u2,ys,a3,u3,zs⟩,rfl,by show (⟨x1,ys.map RE.e,zs⟩:S)=_;rw[HD1.out],T.out.resB W.heap.size Z.out (by repeat (first | refine But.set ?_ _ (by rfl) _ | exact But.refl bz wr)) N1.out.2.2.2.2.1 N1.out.2.2.2.2.2 OwnS.but OwnS.base ⟨OwnM.but O0.out T.out.k N1.out.2.2.1,OwnEs.base O2.out (by have:=N1.out;have:=NE.out;omega),OwnW.base O3.out (by have:=N1.out;have:=NE.out;omega)⟩⟩
   obtain ⟨hk,rfl⟩:=hx;have d1:=dT (p:=(k:Int)<(n':Int));have d2:=dT (p:=k<n');obtain ⟨y0,m0,F0,p0⟩:=tr (wordS l2 0);obtain ⟨zs',hys⟩:=nm (zs++[y0]);have P':=hid (P.out.next (x:=y0) word_eats hk p0);rw[← hys] at P';have HY:=hid hys;have Q0:=hid p0;have HK:=hid hk;have HS:Hid (zs.length≤65537):=hid (by have:=P.out.sz;omega);clear p0 hk P hys;obtain ⟨⟨r0,r1⟩,z0,hlt,-⟩:=T.out.r.at;go_wp2_with fail
   clear r0 r1 z0 hlt;obtain ⟨wd,hwd⟩:=nm (World.drew wr);have kd:Below wr.heap.size wr wd:=by rw[hwd];exact Below.drew (Below.refl _ _)
   refine rhd trivial ?_;rw[← hwd];intro gH;clear hwd;replace O2:=hid (OwnEs.but O2.out (But.of kd) NB.out);replace O3:=hid (OwnW.but O3.out (But.of kd) NB.out);replace T:=T.out.below kd;clear kd;refine tk [0,2] ?_;refine tR2 1 3 (fun K hK=>?_) fun K hK=>?_
   ·
    have t1:=T.out.s.at 2 _ rfl;go_simp;refine hK.out _ _ trivial fun _=>?_;clear hK K t1;refine tR 3 fun K hK=>?_;go_simp;go_at_call 86;refine (text_any b _ _ _ T.out.r _ _ _ Q0.out).mono ?_;rintro e w13 ⟨rfl,r,k⟩;replace O2:=hid (OwnEs.but O2.out k NB.out);replace O3:=hid (OwnW.but O3.out k NB.out);replace T:=T.out.go r k;clear r k;go_wp2_with fail
    refine hK.out _ _ trivial fun _=>?_;clear hK K;refine tR 4 fun K hK=>?_;go_simp;refine tAl (F:=wE) (y:=y0) hK (Row.lies_new _ _ _) fun wa ka la=>?_;replace O2:=hid (OwnEs.but O2.out (But.of ka) NB.out);replace O3:=hid (OwnW.but O3.out (But.of ka) NB.out);replace T:=T.out.below ka;clear hK K ka;refine tR 5 fun K hK=>?_;refine stepApp typWord rfl _ _ rfl _ zs rfl O3.out _ y0 rfl la HS.out T.out (.inl (by decide)) HY.out ?_;intro a3 u3 w9 T9 o9 g9;have O2':OwnEs w9 (be+1) a2 u2 ys:=⟨kept_by O2.out.1 O3.out g9 (by decide),fun y hy=>OwnE.kept (O2.out.2 y hy) O3.out g9 (by decide) (by decide) (by decide) (by decide)⟩
    replace O2:=hid O2';replace O3:=o9;clear O2';refine hK.out _ _ trivial fun _=>?_;clear hK K o9 g9 la;have T:=T9;clear T9;have z:=T.out.s.2.2;have t1:=T.out.s.at 2 _ rfl;refine tk [6] ?_;refine tR 7 fun K hK=>?_;go_simp;obtain ⟨w3,hw3,T'⟩:=T.out.put 2 (.slice a3 zs'.length u3);rw[← hw3];replace O2:=hid (OwnEs.but O2.out (bsetB hw3) (Nat.lt_succ_self be));replace O3:=hid (OwnW.but O3.out (bsetB hw3) (Nat.lt_succ_self be));refine hK.out _ _ trivial fun _=>?_;clear hK K hw3 T z t1;have T:=T';clear T';refine tD ?_;go_wp2;go_roundw
    ·exact ⟨k+1,zs',m0,F0,a3,u3,by go_num,HK.out,P',O3,O2,T⟩
    simp[intOf];have:=HK.out;omega
   go_simp;go_at_call 86;refine (text_any b _ _ _ T.out.r _ _ _ Q0.out).mono ?_;rintro e w14 ⟨rfl,r,k⟩;replace O2:=hid (OwnEs.but O2.out k NB.out);replace O3:=hid (OwnW.but O3.out k NB.out);replace T:=T.out.go r k;clear r k;go_wp2_with fail
   refine hK.out _ _ trivial fun _=>?_;clear hK K;refine tR2 1 4 (fun K hK=>?_) fun K hK=>?_
   ·
    have t1:=T.out.s.at 2 _ rfl;go_simp;refine hK.out _ _ trivial fun _=>?_;clear hK K t1;refine tR 4 fun K hK=>?_;go_simp;refine tAl (F:=wE) (y:=y0) hK (Row.lies_new _ _ _) fun wa ka la=>?_;replace O2:=hid (OwnEs.but O2.out (But.of ka) NB.out);replace O3:=hid (OwnW.but O3.out (But.of ka) NB.out);replace T:=T.out.below ka;clear hK K ka;refine tR 5 fun K hK=>?_;refine stepApp typWord rfl _ _ rfl _ zs rfl O3.out _ y0 rfl la HS.out T.out (.inl (by decide)) HY.out ?_;intro a3 u3 w9 T9 o9 g9;have O2':OwnEs w9 (be+1) a2 u2 ys:=⟨kept_by O2.out.1 O3.out g9 (by decide),fun y hy=>OwnE.kept (O2.out.2 y hy) O3.out g9 (by decide) (by decide) (by decide) (by decide)⟩
    replace O2:=hid O2';replace O3:=o9;clear O2';refine hK.out _ _ trivial fun _=>?_;clear hK K o9 g9 la;have T:=T9;clear T9;have z:=T.out.s.2.2;have t1:=T.out.s.at 2 _ rfl;refine tk [6] ?_;refine tR 7 fun K hK=>?_;go_simp;obtain ⟨w3,hw3,T'⟩:=T.out.put 2 (.slice a3 zs'.length u3);rw[← hw3];replace O2:=hid (OwnEs.but O2.out (bsetB hw3) (Nat.lt_succ_self be));replace O3:=hid (OwnW.but O3.out (bsetB hw3) (Nat.lt_succ_self be));refine hK.out _ _ trivial fun _=>?_;clear hK K hw3 T z t1;have T:=T';clear T';refine tD ?_;go_wp2;go_roundw
    ·exact ⟨k+1,zs',m0,F0,a3,u3,by go_num,HK.out,P',O3,O2,T⟩
    simp[intOf];have:=HK.out;omega
   go_simp;refine tAl (F:=wE) (y:=y0) hK (Row.lies_new _ _ _) fun wa ka la=>?_;replace O2:=hid (OwnEs.but O2.out (But.of ka) NB.out);replace O3:=hid (OwnW.but O3.out (But.of ka) NB.out);replace T:=T.out.below ka;clear hK K ka;refine tR 1 fun K hK=>?_;have t1:=T.out.s.at 2 _ rfl;go_simp;refine hK.out _ _ trivial fun _=>?_;clear hK K t1;refine tR 5 fun K hK=>?_;refine stepApp typWord rfl _ _ rfl _ zs rfl O3.out _ y0 rfl la HS.out T.out (.inl (by decide)) HY.out ?_;intro a3 u3 w9 T9 o9 g9;have O2':OwnEs w9 (be+1) a2 u2 ys:=⟨kept_by O2.out.1 O3.out g9 (by decide),fun y hy=>OwnE.kept (O2.out.2 y hy) O3.out g9 (by decide) (by decide) (by decide) (by decide)⟩
   replace O2:=hid O2';replace O3:=o9;clear O2';refine hK.out _ _ trivial fun _=>?_;clear hK K o9 g9 la;have T:=T9;clear T9;have z:=T.out.s.2.2;have t1:=T.out.s.at 2 _ rfl;refine tk [6] ?_;refine tR 7 fun K hK=>?_;go_simp;obtain ⟨w3,hw3,T'⟩:=T.out.put 2 (.slice a3 zs'.length u3);rw[← hw3];replace O2:=hid (OwnEs.but O2.out (bsetB hw3) (Nat.lt_succ_self be));replace O3:=hid (OwnW.but O3.out (bsetB hw3) (Nat.lt_succ_self be));refine hK.out _ _ trivial fun _=>?_;clear hK K hw3 T z t1;have T:=T';clear T';refine tD ?_;go_wp2;go_roundw
   ·exact ⟨k+1,zs',m0,F0,a3,u3,by go_num,HK.out,P',O3,O2,T⟩
   simp[intOf];have:=HK.out;omega
 obtain ⟨hk,rfl⟩:=hx;have d1:=dT (p:=(k:Int)<(n:Int));have d2:=dT (p:=k<n);obtain ⟨y0,m0,F0,p0⟩:=tr (entryG cntS zR l2 0);have P':=fun (x:RE) (hx:x.e=y0)=>P.out.next (x:=x) he.out hk (by rw[hx];exact p0);replace P':=hid P';have Q0:=hid p0;have HK:=hid hk;have HL:=hid P.out.sz.2.1;have HS:Hid (ys.length≤65537):=hid (by have:=P.out.sz;omega);clear p0 hk P;obtain ⟨⟨r0,r1⟩,z0,hlt,-⟩:=T.out.r.at;go_wp2_with fail
 clear r0 r1 z0 hlt;obtain ⟨wd,hwd⟩:=nm (World.drew wr);have kd:Below wr.heap.size wr wd:=by rw[hwd];exact Below.drew (Below.refl _ _)
 refine rhd trivial ?_;rw[← hwd];intro gH;clear hwd;replace O2:=hid (OwnEs.but O2.out (But.of kd) NB.out);replace T:=T.out.below kd;clear kd;refine tk [0,2] ?_;refine tR2 1 3 (fun K hK=>?_) fun K hK=>?_
 ·
  have t1:=T.out.s.at 1 _ rfl;go_simp;refine hK.out _ _ trivial fun _=>?_;clear hK K t1;refine tR 3 fun K hK=>?_;go_simp;go_at_call 67;refine (entry_any b _ _ _ T.out.r HL.out _ _ _ Q0.out).mono ?_;rintro e w15 ⟨x,rfl,hx,ox,r,k⟩;have HX:=hid hx;have OX:Hid (OwnE w15 (be+1) x):=hid (ox.base T.out.s.1);obtain ⟨ys',hys⟩:=nm (ys++[x]);have HY:=hid hys;clear hx ox hys;replace O2:=hid (OwnEs.but O2.out k NB.out);replace T:=T.out.go r k;clear r k;go_wp2_with fail
  refine hK.out _ _ trivial fun _=>?_;clear hK K;refine tR 4 fun K hK=>?_;go_simp;refine tAl (F:=eE) (y:=x) hK (Row.lies_new _ _ _) fun wa ka la=>?_;replace O2:=hid (OwnEs.but O2.out (But.of ka) NB.out);replace OX:=hid (OwnE.but OX.out (But.of ka) NB.out);replace T:=T.out.below ka;clear hK K ka;refine tR 5 fun K hK=>?_;refine stepApp typEntry rfl _ _ rfl _ ys rfl O2.out.1 _ x rfl la HS.out T.out (.inl (by decide)) HY.out ?_;intro a3 u3 w9 T9 o9 g9;replace O2:Hid (OwnEs w9 (be+1) a3 u3 ys'):=hid ⟨o9.out,by rw[HY.out];intro y hy;rcases List.mem_append.1 hy with hy | hy;(exact OwnE.kept (O2.out.2 y hy) O2.out.1 g9 (by decide) (by decide) (by decide) (by decide));(rw[List.mem_singleton.1 hy];exact OwnE.kept OX.out O2.out.1 g9 (by decide) (by decide) (by decide) (by decide))⟩;clear OX;refine hK.out _ _ trivial fun _=>?_;clear hK K o9 g9 la;have T:=T9;clear T9;have z:=T.out.s.2.2;have t1:=T.out.s.at 1 _ rfl;refine tk [6] ?_;refine tR 7 fun K hK=>?_;go_simp;obtain ⟨w3,hw3,T'⟩:=T.out.put 1 (.slice a3 ys'.length u3);rw[← hw3];replace O2:=hid (OwnEs.but O2.out (bsetB hw3) (Nat.lt_succ_self be));refine hK.out _ _ trivial fun _=>?_;clear hK K hw3 T z t1;have T:=T';clear T';refine tD ?_;go_wp2;go_roundw
  ·exact ⟨k+1,ys',m0,F0,a3,u3,by go_num,HK.out,(by rw[HY.out];exact P'.out x HX.out),O2,T⟩
  simp[intOf];have:=HK.out;omega
 go_simp;go_at_call 67;refine (entry_any b _ _ _ T.out.r HL.out _ _ _ Q0.out).mono ?_;rintro e w16 ⟨x,rfl,hx,ox,r,k⟩;have HX:=hid hx;have OX:Hid (OwnE w16 (be+1) x):=hid (ox.base T.out.s.1);obtain ⟨ys',hys⟩:=nm (ys++[x]);have HY:=hid hys;clear hx ox hys;replace O2:=hid (OwnEs.but O2.out k NB.out);replace T:=T.out.go r k;clear r k;go_wp2_with fail
 refine hK.out _ _ trivial fun _=>?_;clear hK K;refine tR2 1 4 (fun K hK=>?_) fun K hK=>?_
 ·
  have t1:=T.out.s.at 1 _ rfl;go_simp;refine hK.out _ _ trivial fun _=>?_;clear hK K t1;refine tR 4 fun K hK=>?_;go_simp;refine tAl (F:=eE) (y:=x) hK (Row.lies_new _ _ _) fun wa ka la=>?_;replace O2:=hid (OwnEs.but O2.out (But.of ka) NB.out);replace OX:=hid (OwnE.but OX.out (But.of ka) NB.out);replace T:=T.out.below ka;clear hK K ka;refine tR 5 fun K hK=>?_;refine stepApp typEntry rfl _ _ rfl _ ys rfl O2.out.1 _ x rfl la HS.out T.out (.inl (by decide)) HY.out ?_;intro a3 u3 w9 T9 o9 g9;replace O2:Hid (OwnEs w9 (be+1) a3 u3 ys'):=hid ⟨o9.out,by rw[HY.out];intro y hy;rcases List.mem_append.1 hy with hy | hy;(exact OwnE.kept (O2.out.2 y hy) O2.out.1 g9 (by decide) (by decide) (by decide) (by decide));(rw[List.mem_singleton.1 hy];exact OwnE.kept OX.out O2.out.1 g9 (by decide) (by decide) (by decide) (by decide))⟩;clear OX;refine hK.out _ _ trivial fun _=>?_;clear hK K o9 g9 la;have T:=T9;clear T9;have z:=T.out.s.2.2;have t1:=T.out.s.at 1 _ rfl;refine tk [6] ?_;refine tR 7 fun K hK=>?_;go_simp;obtain ⟨w3,hw3,T'⟩:=T.out.put 1 (.slice a3 ys'.length u3);rw[← hw3];replace O2:=hid (OwnEs.but O2.out (bsetB hw3) (Nat.lt_succ_self be));refine hK.out _ _ trivial fun _=>?_;clear hK K hw3 T z t1;have T:=T';clear T';refine tD ?_;go_wp2;go_roundw
  ·exact ⟨k+1,ys',m0,F0,a3,u3,by go_num,HK.out,(by rw[HY.out];exact P'.out x HX.out),O2,T⟩
  simp[intOf];have:=HK.out;omega
 go_simp;refine tAl (F:=eE) (y:=x) hK (Row.lies_new _ _ _) fun wa ka la=>?_;replace O2:=hid (OwnEs.but O2.out (But.of ka) NB.out);replace OX:=hid (OwnE.but OX.out (But.of ka) NB.out);replace T:=T.out.below ka;clear hK K ka;refine tR 1 fun K hK=>?_;have t1:=T.out.s.at 1 _ rfl;go_simp;refine hK.out _ _ trivial fun _=>?_;clear hK K t1;refine tR 5 fun K hK=>?_;refine stepApp typEntry rfl _ _ rfl _ ys rfl O2.out.1 _ x rfl la HS.out T.out (.inl (by decide)) HY.out ?_;intro a3 u3 w9 T9 o9 g9;replace O2:Hid (OwnEs w9 (be+1) a3 u3 ys'):=hid ⟨o9.out,by rw[HY.out];intro y hy;rcases List.mem_append.1 hy with hy | hy;(exact OwnE.kept (O2.out.2 y hy) O2.out.1 g9 (by decide) (by decide) (by decide) (by decide));(rw[List.mem_singleton.1 hy];exact OwnE.kept OX.out O2.out.1 g9 (by decide) (by decide) (by decide) (by decide))⟩;clear OX;refine hK.out _ _ trivial fun _=>?_;clear hK K o9 g9 la;have T:=T9;clear T9;have z:=T.out.s.2.2;have t1:=T.out.s.at 1 _ rfl;refine tk [6] ?_;refine tR 7 fun K hK=>?_;go_simp;obtain ⟨w3,hw3,T'⟩:=T.out.put 1 (.slice a3 ys'.length u3);rw[← hw3];replace O2:=hid (OwnEs.but O2.out (bsetB hw3) (Nat.lt_succ_self be));refine hK.out _ _ trivial fun _=>?_;clear hK K hw3 T z t1;have T:=T';clear T';refine tD ?_;go_wp2;go_roundw
 ·exact ⟨k+1,ys',m0,F0,a3,u3,by go_num,HK.out,(by rw[HY.out];exact P'.out x HX.out),O2,T⟩
 simp[intOf];have:=HK.out;omega
end RTake
end Go.Proofs.YtnpjkmomllkhpaaGreatDoor
