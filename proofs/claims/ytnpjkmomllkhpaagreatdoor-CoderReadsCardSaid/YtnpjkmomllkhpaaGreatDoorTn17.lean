/- CoderEntry, CoderRead, CoderState. -/
import Derived.Test.YtnpjkmomllkhpaaGreatDoorTn15
import Derived.Test.YtnpjkmomllkhpaaGreatDoorTn16
set_option linter.unusedVariables false
set_option linter.unusedSimpArgs false
set_option maxRecDepth 100000
set_option maxHeartbeats 8000000
namespace Go.Proofs.YtnpjkmomllkhpaaGreatDoor
namespace Coder
open RowKit YtnpjkmomllkhpaaGreatDoor.Mark Num Wire Bag
structure RE where
 k:List UInt8
 sa:Option Addr
 sc:Nat
 s:List M
 ca:Option Addr
 cc:Nat
 c:List C
 ia:Option Addr
 ic:Nat
 j:List RI
 l:Cl
def RE.e (x:RE):E:=⟨x.k,x.s,x.c,x.j.map RI.it,x.l⟩
instance : Coe RE (Array Value) := ⟨fun x => #[x.k, .slice x.sa x.s.length x.sc, .slice x.ca x.c.length x.cc, .slice x.ia x.j.length x.ic, x.l.s, x.l.t, x.l.g]⟩
instance : Coe RE (List Value) := ⟨fun x => [x.k, .slice x.sa x.s.length x.sc, .slice x.ca x.c.length x.cc, .slice x.ia x.j.length x.ic, x.l.s, x.l.t, x.l.g]⟩
def eE:Row.Enc RE:=⟨7,by decide,fun x=>[x.k,.slice x.sa x.s.length x.sc,.slice x.ca x.c.length x.cc,.slice x.ia x.j.length x.ic,x.l.s,x.l.t,x.l.g],fun _=>rfl,fun x v hv=>by
 simp only[List.mem_cons,List.not_mem_nil,or_false] at hv;rcases hv with rfl | rfl | rfl | rfl | rfl | rfl | rfl <;> rfl⟩
def InnerI (w:World) (x:RE):Prop:=Row.Lies iE w x.ia x.j.length x.j∧∀ y ∈ x.j,Inner w y
theorem InnerI.below {w w':World} {x:RE} (h:InnerI w x) (k:Below w.heap.size w w'):InnerI w' x:=⟨h.1.below k,fun y hy=>(h.2 y hy).below k⟩
instance {x : RE} : Kept (fun w => InnerI w x) := ⟨fun k h => InnerI.below h k⟩
instance {w : World} {x : RE} : Hd w (InnerI w x) (fun w => InnerI w x) := ⟨id⟩
structure InnerE (w:World) (x:RE):Prop where
 s:Mark.Lies w x.sa x.s.length x.s
 c:Row.Lies cE w x.ca x.c.length x.c
 i:InnerI w x
theorem InnerE.below {w w':World} {x:RE} (h:InnerE w x) (k:Below w.heap.size w w'):InnerE w' x:=⟨h.s.below k,h.c.below k,h.i.below k⟩
instance {x : RE} : Kept (fun w => InnerE w x) := ⟨fun k h => InnerE.below h k⟩
instance {w : World} {x : RE} : Hd w (InnerE w x) (fun w => InnerE w x) := ⟨id⟩
structure RE.Ok (x:RE):Prop where
 k:x.k.length≤1048576
 s:x.s.length≤1048576
 sm:∀ m ∈ x.s,m.p.length≤1048576∧m.n≤18446744073709551615
 c:x.c.length≤1048576
 cm:∀ m ∈ x.c,m.p.length≤1048576∧m.a≤18446744073709551615∧m.b≤18446744073709551615
 j:x.j.length≤1048576
 jm:∀ y ∈ x.j,y.t.length≤1048576∧y.d.length≤1048576∧(∀ m ∈ y.d,m.p.length≤1048576∧m.n≤18446744073709551615)∧(fI y).length≤70368744177664
 t:x.l.t.length≤1048576
 g:x.l.s≤18446744073709551615
def fE (x:RE):List UInt8:=en x.e
theorem kind_k (k:List UInt8) (w:World) (h:k.length≤1048576):CB 97 #[k] w (.int .u8 (kd k:Nat)):=by
 have q:=Text.kind_any ⟨k.toArray⟩ w (by rw[Str.size_mk];unfold maxLen;omega);exact q
theorem entry_any (x:RE) (w:World) (hi:InnerE w x) (ok:x.Ok) (hs:(fE x).length≤70368744177664) :
  CB 38 #[.agg x] w (fE x):=by
 have hb:=Below.refl w.heap.size w;have lS:=hid hi.s;have lC:=hid hi.c;have lJ:=hid hi.i;clear hi;have ok1:=ok.k;have ok5:=ok.t;have ok6:=ok.g;have OK:=hid ok;clear ok;obtain ⟨p0,hp0⟩:=nm (tx x.k);have b0:p0.length≤1048586:=by rw[hp0];have:=tx_len x.k;omega
 have R0:Hid ([x.k].flatMap tx=p0):=hid (by rw[hp0];simp);obtain ⟨p1,hp1⟩:=nm (lst mk x.s);obtain ⟨H,hH⟩:=nm (p0++p1);have HV0:Hid (fE x=H++body x.e):=hid (by rw[hH,hp0,hp1];rfl);rw[HV0.out,List.length_append] at hs;have hl:H.length=p0.length+p1.length:=by rw[hH,List.length_append]
 have aH:(({ data:=p0.toArray }:ByteArray))++{ data:=p1.toArray }={ data:=H.toArray }:=by rw[hH];exact Str.mk_append_mk p0 p1
 have b1:p1.length≤70368744177664:=by omega
 have z0:=Str.size_mk p0;have z1:=Str.size_mk p1;have zH:=Str.size_mk H;have nH:¬ (9223372036854775807<p0.length+p1.length):=by omega
 have mH:¬ (p0.length+p1.length > 9223372036854775807):=by omega
 have D6:=hid (fun W (h:Mark.Lies W x.sa x.s.length x.s)=>qS hp1 (list_mark x.sa x.s.length x.sc x.s W h OK.out.s OK.out.sm (by rw[← hp1];exact b1)));obtain ⟨q,hq⟩:=nm (kd x.k);have KD:=hid (fun W=>(by rw[hq];exact kind_k x.k W ok1:CB 97 #[x.k] W (.int .u8 (q:Nat))));have HB:Hid (body x.e=if q=1 then lst ct x.c else if q=2 then lst itb (x.j.map RI.it) else if q=3 then cl x.l else []):=hid (by rw[hq];rfl);replace hH:=hid hH;replace hl:=hid hl;clear hp0 hp1 hq;obtain ⟨X0,X1,X2,X3,X4,X5,X6⟩:=al7 (fun i v h=>hid (bx w x 29 i v h));go_enter Tryz.func38,Tryz.ntmps38;go_wp2_with fail
 replace lS:=hid ((lS.out).below (balloc (Below.refl _ _) (.cells x 29)));replace lC:=hid ((lC.out).below (balloc (Below.refl _ _) (.cells x 29)));replace lJ:=hid ((lJ.out).below (balloc (Below.refl _ _) (.cells x 29)));replace hb:=bstep hb (balloc (Below.refl _ _) (.cells x 29));have x0:=X0.out;have x1:=X1.out;have x2:=X2.out;have x3:=X3.out;have x4:=X4.out;have x5:=X5.out;have x6:=X6.out;clear X0 X1 X2 X3 X4 X5 X6;go_upto_region 1 with fail
 go_cut [3] (fun s wx=>s=.string ⟨H.toArray⟩∧Below w.heap.size w wx∧Mark.Lies wx x.sa x.s.length x.s∧Row.Lies cE wx x.ca x.c.length x.c∧InnerI wx x∧wx.cell? ⟨w.heap.size,0,none⟩=some ↑x.k∧wx.cell? ⟨w.heap.size,1,none⟩=some (.slice x.sa x.s.length x.sc)∧wx.cell? ⟨w.heap.size,2,none⟩=some (.slice x.ca x.c.length x.cc)∧wx.cell? ⟨w.heap.size,3,none⟩=some (.slice x.ia x.j.length x.ic)∧wx.cell? ⟨w.heap.size,4,none⟩=some ↑x.l.s∧wx.cell? ⟨w.heap.size,5,none⟩=some ↑x.l.t∧wx.cell? ⟨w.heap.size,6,none⟩=some ↑x.l.g)
 case first =>
  refine rh (aj11 hb lS.out lC.out lJ.out x0 x1 x2 x3 x4 x5 x6) fun wd gH=>?_;refine tk [0,1,4,5] ?_;refine tR 2 fun K hK=>?_;go_simp;refine tA hK gH fun gH=>?_;clear hK K;have N2:=txts_here [x.k] (by intro y hy;simp at hy;subst hy;omega) rfl 1 rfl gH.1;try simp only[World.size_alloc] at N2
  refine tR 3 fun K hK=>?_;go_simp;go_at_call 98;refine cr (texts_w N2 p0 R0.out (by omega) (by omega)) fun v1 k1=>?_;replace N2:=(N2).below rfl k1;go_wp2_with fail
  refine tH hK gH k1 fun gH=>?_;clear hK K k1;refine tR 6 fun K hK=>?_;go_simp;go_at_call 99;refine cr (D6.out _ gH.2.1) fun v2 k2=>?_;replace N2:=(N2).below rfl k2;go_wp2_with fail
  refine tH hK gH k2 fun gH=>?_;clear hK K k2;refine tk [7,8] ?_;refine tD ?_;clear hb lS lC lJ x0 x1 x2 x3 x4 x5 x6;obtain ⟨hb,lS,lC,lJ,x0,x1,x2,x3,x4,x5,x6⟩:=gH;replace lS:=hid lS;replace lC:=hid lC;replace lJ:=hid lJ;go_wp2_with fail
  go_meet;exact ⟨rfl,hb,lS.out,lC.out,lJ.out,x0,x1,x2,x3,x4,x5,x6⟩
 clear hb lS lC lJ x0 x1 x2 x3 x4 x5 x6;obtain ⟨rfl,hb,lS,lC,lJ,x0,x1,x2,x3,x4,x5,x6⟩:=hcut;replace lS:=hid lS;replace lC:=hid lC;replace lJ:=hid lJ;clear lS;go_wp2_with fail
 refine cr (KD.out _) fun v3 k3=>?_;replace lC:=hid ((lC.out).below k3);replace lJ:=hid ((lJ.out).below k3);have hA:=kp k3 (aj7 x0 x1 x2 x3 x4 x5 x6);clear x0 x1 x2 x3 x4 x5 x6;obtain ⟨x0,x1,x2,x3,x4,x5,x6⟩:=hA;replace hb:=bstep hb k3;clear k3;by_cases k1:q=1
 ·
  have zz1:=bT (a:=q) (b:=1);obtain ⟨p2,hp2⟩:=nm (lst ct x.c);rw[HB.out,if_pos k1,← hp2] at hs;have b2:p2.length≤70368744177664:=by omega
  have z2:=Str.size_mk p2;obtain ⟨C2,hC2⟩:=nm (H++p2);have HV:Hid (fE x=C2):=hid (by rw[HV0.out,HB.out,if_pos k1,hC2,hp2]);have aC2:(({ data:=H.toArray }:ByteArray))++{ data:=p2.toArray }={ data:=C2.toArray }:=by rw[hC2];exact Str.mk_append_mk H p2
  have zC2:=Str.size_mk C2;have nC2:¬ (9223372036854775807<H.length+p2.length):=by omega
  have mC2:¬ (H.length+p2.length > 9223372036854775807):=by omega
  have D7:=hid (fun W (h:Row.Lies cE W x.ca x.c.length x.c)=>qS hp2 (list_count x.ca x.c.length x.cc x.c W h OK.out.c OK.out.cm (by rw[← hp2];exact b2)));replace hC2:=hid hC2;replace k1:=hid k1;clear hp2;go_wp2_with fail
  refine cr (D7.out _ lC.out) fun v4 k4=>?_;replace lC:=hid ((lC.out).below k4);replace lJ:=hid ((lJ.out).below k4);have hA:=kp k4 (aj7 x0 x1 x2 x3 x4 x5 x6);clear x0 x1 x2 x3 x4 x5 x6;obtain ⟨x0,x1,x2,x3,x4,x5,x6⟩:=hA;replace hb:=bstep hb k4;clear k4;go_wp2;go_ret;exact ⟨by rw[HV.out];rfl,hb⟩
 by_cases k2:q=2
 ·
  have zz1:=bF (a:=q) (b:=1);have zz2:=bT (a:=q) (b:=2);obtain ⟨p2,hp2⟩:=nm (lst itb (x.j.map RI.it));rw[HB.out,if_neg k1,if_pos k2,← hp2] at hs;have b2:p2.length≤70368744177664:=by omega
  have z2:=Str.size_mk p2;obtain ⟨C2,hC2⟩:=nm (H++p2);have HV:Hid (fE x=C2):=hid (by rw[HV0.out,HB.out,if_neg k1,if_pos k2,hC2,hp2]);have aC2:(({ data:=H.toArray }:ByteArray))++{ data:=p2.toArray }={ data:=C2.toArray }:=by rw[hC2];exact Str.mk_append_mk H p2
  have zC2:=Str.size_mk C2;have nC2:¬ (9223372036854775807<H.length+p2.length):=by omega
  have mC2:¬ (H.length+p2.length > 9223372036854775807):=by omega
  have D7:=hid (fun W (h:InnerI W x)=>(by rw[hp2,lst_map];exact list_item x.ia x.j.length x.ic x.j W h.1 OK.out.j (fun y hy=>⟨h.2 y hy,OK.out.jm y hy⟩) (by rw[show lst fI x.j=lst itb (x.j.map RI.it) from (lst_map itb RI.it x.j).symm,← hp2];exact b2):CB 103 #[.slice x.ia x.j.length x.ic,.func (.func 104) #[] #[]] W p2));replace hC2:=hid hC2;replace k1:=hid k1;replace k2:=hid k2;clear hp2;go_wp2_with fail
  refine cr (D7.out _ lJ.out) fun v5 k5=>?_;replace lC:=hid ((lC.out).below k5);replace lJ:=hid ((lJ.out).below k5);have hA:=kp k5 (aj7 x0 x1 x2 x3 x4 x5 x6);clear x0 x1 x2 x3 x4 x5 x6;obtain ⟨x0,x1,x2,x3,x4,x5,x6⟩:=hA;replace hb:=bstep hb k5;clear k5;go_wp2;go_ret;exact ⟨by rw[HV.out];rfl,hb⟩
 by_cases k3:q=3
 ·
  have zz1:=bF (a:=q) (b:=1);have zz2:=bF (a:=q) (b:=2);have zz3:=bT (a:=q) (b:=3);obtain ⟨p2,hp2⟩:=nm (cl x.l);rw[HB.out,if_neg k1,if_neg k2,if_pos k3,← hp2] at hs;have b2:p2.length≤70368744177664:=by omega
  have z2:=Str.size_mk p2;obtain ⟨C2,hC2⟩:=nm (H++p2);have HV:Hid (fE x=C2):=hid (by rw[HV0.out,HB.out,if_neg k1,if_neg k2,if_pos k3,hC2,hp2]);have aC2:(({ data:=H.toArray }:ByteArray))++{ data:=p2.toArray }={ data:=C2.toArray }:=by rw[hC2];exact Str.mk_append_mk H p2
  have zC2:=Str.size_mk C2;have nC2:¬ (9223372036854775807<H.length+p2.length):=by omega
  have mC2:¬ (H.length+p2.length > 9223372036854775807):=by omega
  have D7:=hid (fun W=>qS hp2 (cell_any x.l W ok5 ok6));replace hC2:=hid hC2;replace k1:=hid k1;replace k2:=hid k2;replace k3:=hid k3;clear hp2;go_wp2_with fail
  refine cr (D7.out _) fun v6 k6=>?_;replace lC:=hid ((lC.out).below k6);replace lJ:=hid ((lJ.out).below k6);have hA:=kp k6 (aj7 x0 x1 x2 x3 x4 x5 x6);clear x0 x1 x2 x3 x4 x5 x6;obtain ⟨x0,x1,x2,x3,x4,x5,x6⟩:=hA;replace hb:=bstep hb k6;clear k6;go_wp2;go_ret;exact ⟨by rw[HV.out];rfl,hb⟩
 have zz1:=bF (a:=q) (b:=1);have zz2:=bF (a:=q) (b:=2);have zz3:=bF (a:=q) (b:=3);have HV:Hid (fE x=H):=hid (by rw[HV0.out,HB.out,if_neg k1,if_neg k2,if_neg k3,List.append_nil]);go_wp2;go_ret;exact ⟨by rw[HV.out];rfl,hb⟩
end Coder
namespace Taker
open RowKit YtnpjkmomllkhpaaGreatDoor.Mark Num Wire Bag Coder
theorem own_ne {w:World} {B1 B2:Nat} {t1 t2:TypeId} {k1 k2 n1 n2:Nat} {v1 v2:Value} {x1 x2:List Value} (h1:w.ownsRow B1 t1 k1 v1 n1 x1) (h2:w.ownsRow B2 t2 k2 v2 n2 x2) (hne:t1≠t2):v1.ownBlock=none∨v1.ownBlock≠v2.ownBlock:=by
 rcases h1.2 with ⟨rfl,_⟩ | ⟨g1,c1,u1,rfl,_,hg1,_⟩
 · exact .inl rfl
 refine .inr fun e=>?_;rcases h2.2 with ⟨rfl,_⟩ | ⟨g2,c2,u2,rfl,_,hg2,_⟩
 · cases e
 have e:g1=g2:=by simpa [Value.ownBlock] using e
 subst e;rw[hg1] at hg2;simp only[Option.some.injEq,Obj.cells.injEq] at hg2;exact hne hg2.2.1
def OwnM (w:World) (B:Nat) (a:Option Addr) (c:Nat) (L:List M):Prop:=Row.Own dE 96 w B (.slice a L.length c) L
def OwnD (w:World) (B:Nat) (a:Option Addr) (c:Nat) (L:List M):Prop:=Row.Own dE 167 w B (.slice a L.length c) L
def OwnC (w:World) (B:Nat) (a:Option Addr) (c:Nat) (L:List C):Prop:=Row.Own cE 98 w B (.slice a L.length c) L
def OwnI (w:World) (B:Nat) (a:Option Addr) (c:Nat) (L:List RI):Prop:=Row.Own iE 155 w B (.slice a L.length c) L∧∀ y ∈ L,OwnD w B y.a y.c y.d
variable {w w':World} {B B' b:Nat} {a:Option Addr} {c:Nat}
theorem OwnM.but {L:List M} (h:OwnM w B a c L) (k:But b w w') (hb:b<B):OwnM w' B a c L:=own_but h k hb
theorem OwnD.but {L:List M} (h:OwnD w B a c L) (k:But b w w') (hb:b<B):OwnD w' B a c L:=own_but h k hb
theorem OwnC.but {L:List C} (h:OwnC w B a c L) (k:But b w w') (hb:b<B):OwnC w' B a c L:=own_but h k hb
theorem OwnI.but {L:List RI} (h:OwnI w B a c L) (k:But b w w') (hb:b<B):OwnI w' B a c L:=⟨own_but h.1 k hb,fun y hy=>(h.2 y hy).but k hb⟩
theorem OwnM.base {L:List M} (h:OwnM w B a c L) (hB:B'≤B):OwnM w B' a c L:=Row.Own.base h hB
theorem OwnD.base {L:List M} (h:OwnD w B a c L) (hB:B'≤B):OwnD w B' a c L:=Row.Own.base h hB
theorem OwnC.base {L:List C} (h:OwnC w B a c L) (hB:B'≤B):OwnC w B' a c L:=Row.Own.base h hB
theorem OwnI.base {L:List RI} (h:OwnI w B a c L) (hB:B'≤B):OwnI w B' a c L:=⟨Row.Own.base h.1 hB,fun y hy=>(h.2 y hy).base hB⟩
theorem lies_of {α:Type} {E:Row.Enc α} {te:TypeId} {L:List α} (h:Row.Own E te w B (.slice a L.length c) L):Row.Lies E w a L.length L:=by
 obtain ⟨a',c',e,-,-,hl,-⟩:=h.lies;simp only[Value.slice.injEq,true_and] at e;obtain ⟨rfl,rfl⟩:=e;exact hl
theorem mark_of {n:Nat} {L:List M} (h:Row.Lies dE w a n L):Mark.Lies w a n L:=by
 refine ⟨h.1,fun hn=>?_⟩;obtain ⟨b,o,e,hc⟩:=h.2 hn;exact ⟨b,o,e,fun j hj=>⟨hc j hj 0 _ rfl,hc j hj 1 _ rfl⟩⟩
theorem OwnM.lies {L:List M} (h:OwnM w B a c L):Mark.Lies w a L.length L:=mark_of (lies_of h)
theorem OwnI.inner {x:RE} (h:OwnI w B x.ia x.ic x.j):InnerI w x:=⟨lies_of h.1,fun y hy=>lies_of (h.2 y hy)⟩
structure OwnE (w:World) (B:Nat) (x:RE):Prop where
 s:OwnM w B x.sa x.sc x.s
 c:OwnC w B x.ca x.cc x.c
 i:OwnI w B x.ia x.ic x.j
theorem OwnE.but {x:RE} (h:OwnE w B x) (k:But b w w') (hb:b<B):OwnE w' B x:=⟨h.s.but k hb,h.c.but k hb,h.i.but k hb⟩
theorem OwnE.base {x:RE} (h:OwnE w B x) (hB:B'≤B):OwnE w B' x:=⟨h.s.base hB,h.c.base hB,h.i.base hB⟩
theorem OwnE.inner {x:RE} (h:OwnE w B x):InnerE w x:=⟨h.s.lies,lies_of h.c,h.i.inner⟩
theorem OwnM.nil (w:World) (B:Nat):OwnM w B none 0 []:=Row.Own.nil w B
theorem OwnC.nil (w:World) (B:Nat):OwnC w B none 0 []:=Row.Own.nil w B
theorem OwnI.nil (w:World) (B:Nat):OwnI w B none 0 []:=⟨Row.Own.nil w B,fun y hy=>by cases hy⟩
theorem kept_by {α β:Type} {E:Row.Enc α} {F:Row.Enc β} {te tf:TypeId} {v u:Value} {L:List α} {K:List β} (h:Row.Own E te w B v L) (ho:Row.Own F tf w B' u K) (hg:w.grownBy w' u.ownBlock) (hne:te≠tf):Row.Own E te w' B v L:=World.ownsRow.kept h hg (own_ne h ho hne)
def cellS (l:List UInt8) (E:Int):Cl × List UInt8 × Int:=bindR (natS l E) fun x0 l0 E0=>bindR (wordS l0 E0) fun x1 l1 E1=>bindR (truthS l1 E1) fun x2 l2 E2=>((⟨x0,x1,x2⟩:Cl),l2,E2)
theorem cell_any (b:Nat) (l:List UInt8) (E:Int) (w:World) (h:Rd w b l E) (x:Cl) (l':List UInt8) (E':Int) (hn:cellS l E=(x,l',E')) :
  Calls Tryz.prog 153 #[.agg #[.pointer (some ⟨b,0,none⟩)]] w fun e w'=>e=.returned (.agg x)∧Rd w' b l' E'∧But b w w':=by
 obtain ⟨x0,l0,E0,q0⟩:=tr (natS l E);obtain ⟨x1,l1,E1,q1⟩:=tr (wordS l0 E0);obtain ⟨x2,l2,E2,q2⟩:=tr (truthS l1 E1);simp only[cellS,bindR,q0,q1,q2,Prod.mk.injEq] at hn;obtain ⟨rfl,rfl,rfl⟩:=hn;replace q0:=hid q0;replace q1:=hid q1;replace q2:=hid q2;go_enter Tryz.func153,Tryz.ntmps153;go_upto_region 1 with (fail)
 obtain ⟨bp,br,W,hbp,hbr,hW,G⟩:=Tk.new h [.int .u64 0,.string ⟨#[]⟩,.bool false] 27;rw[← hW,← hbr,← hbp];clear hW hbr hbp h;have p0:=G.out.p.at 0 _ rfl;go_wp2_with fail
 refine (nat_any b _ _ _ G.out.r _ _ _ q0.out).mono ?_;rintro e w1 ⟨rfl,R1,k1⟩;obtain ⟨H,p1,c0,z0⟩:=G.out.go R1 k1 0;clear G p0 k1 R1;go_upto_region 2 with (fail)
 obtain ⟨w2,hw2,G⟩:=H.out.put 0 x0;rw[← hw2];clear H hw2 p1 c0 z0;have p0:=G.out.p.at 0 _ rfl;go_wp2_with fail
 refine (word_any b _ _ _ G.out.r _ _ _ q1.out).mono ?_;rintro e w1 ⟨rfl,R1,k1⟩;obtain ⟨H,p1,c1,z1⟩:=G.out.go R1 k1 1;clear G p0 k1 R1;go_upto_region 3 with (fail)
 obtain ⟨w2,hw2,G⟩:=H.out.put 1 x1;rw[← hw2];clear H hw2 p1 c1 z1;have p0:=G.out.p.at 0 _ rfl;go_wp2_with fail
 refine (bool_any b _ _ _ G.out.r _ _ _ q2.out).mono ?_;rintro e w1 ⟨rfl,R1,k1⟩;obtain ⟨H,p1,c2,z2⟩:=G.out.go R1 k1 2;clear G p0 k1 R1;go_upto_region 4 with (fail)
 obtain ⟨w2,hw2,G⟩:=H.out.put 2 x2;rw[← hw2];clear H hw2 p1 c2 z2;obtain ⟨c0,c1,c2⟩:=al3 G.out.s.at;have z:=G.out.s.2.2;go_wp2;refine bodyPost_ret (v:=.agg #[x0,x1,x2]) (by simp[results,Tryz.results153,go_sem,c0,c1,c2]) rfl ?_;exact ⟨rfl,(((G.out.e.put 0 _).put 1 _).put 2 _).r,(((G.out.e.put 0 _).put 1 _).put 2 _).k⟩
def opS (l:List UInt8) (E:Int):O × List UInt8 × Int:=bindR (smallS l E) fun x0 l0 E0=>bindR (wordS l0 E0) fun x1 l1 E1=>bindR (natS l1 E1) fun x2 l2 E2=>bindR (wordS l2 E2) fun x3 l3 E3=>((⟨x0,x1,back (x2:Nat),x3⟩:O),l3,E3)
theorem op_any (b:Nat) (l:List UInt8) (E:Int) (w:World) (h:Rd w b l E) (x:O) (l':List UInt8) (E':Int) (hn:opS l E=(x,l',E')) :
  Calls Tryz.prog 84 #[.agg #[.pointer (some ⟨b,0,none⟩)]] w fun e w'=>e=.returned (.agg x)∧Rd w' b l' E'∧But b w w':=by
 obtain ⟨x0,l0,E0,q0⟩:=tr (smallS l E);obtain ⟨x1,l1,E1,q1⟩:=tr (wordS l0 E0);obtain ⟨x2,l2,E2,q2⟩:=tr (natS l1 E1);obtain ⟨x3,l3,E3,q3⟩:=tr (wordS l2 E2);simp only[opS,bindR,q0,q1,q2,q3,Prod.mk.injEq] at hn;obtain ⟨rfl,rfl,rfl⟩:=hn;have hx2:x2≤18446744073709551615:=by have:=(nat_of (by decide) q2).2;omega
 replace q0:=hid q0;replace q1:=hid q1;replace q2:=hid q2;replace q3:=hid q3;go_enter Tryz.func84,Tryz.ntmps84;go_upto_region 1 with (fail)
 obtain ⟨bp,br,W,hbp,hbr,hW,G⟩:=Tk.new h [.int .u8 0,.string ⟨#[]⟩,.int .i64 0,.string ⟨#[]⟩] 38;rw[← hW,← hbr,← hbp];clear hW hbr hbp h;have p0:=G.out.p.at 0 _ rfl;go_wp2_with fail
 refine (small_any b _ _ _ G.out.r _ _ _ q0.out).mono ?_;rintro e w1 ⟨rfl,R1,k1⟩;obtain ⟨H,p1,c0,z0⟩:=G.out.go R1 k1 0;clear G p0 k1 R1;go_upto_region 2 with (fail)
 obtain ⟨w2,hw2,G⟩:=H.out.put 0 (.int .u8 x0);rw[← hw2];clear H hw2 p1 c0 z0;have p0:=G.out.p.at 0 _ rfl;go_wp2_with fail
 refine (word_any b _ _ _ G.out.r _ _ _ q1.out).mono ?_;rintro e w1 ⟨rfl,R1,k1⟩;obtain ⟨H,p1,c1,z1⟩:=G.out.go R1 k1 1;clear G p0 k1 R1;go_upto_region 3 with (fail)
 obtain ⟨w2,hw2,G⟩:=H.out.put 1 x1;rw[← hw2];clear H hw2 p1 c1 z1;have p0:=G.out.p.at 0 _ rfl;go_wp2_with fail
 refine (nat_any b _ _ _ G.out.r _ _ _ q2.out).mono ?_;rintro e w1 ⟨rfl,R1,k1⟩;obtain ⟨H,p1,c2,z2⟩:=G.out.go R1 k1 2;clear G p0 k1 R1;go_wp2_with fail
 refine cp (back_any _ _ (by omega) (by omega)) ?_;go_upto_region 4 with (fail)
 obtain ⟨w2,hw2,G⟩:=H.out.put 2 (.int .i64 (back (x2:Nat)));rw[← hw2];clear H hw2 p1 c2 z2;have p0:=G.out.p.at 0 _ rfl;go_wp2_with fail
 refine (word_any b _ _ _ G.out.r _ _ _ q3.out).mono ?_;rintro e w1 ⟨rfl,R1,k1⟩;obtain ⟨H,p1,c3,z3⟩:=G.out.go R1 k1 3;clear G p0 k1 R1;go_upto_region 5 with (fail)
 obtain ⟨w2,hw2,G⟩:=H.out.put 3 x3;rw[← hw2];clear H hw2 p1 c3 z3;obtain ⟨c0,c1,c2,c3⟩:=al4 G.out.s.at;have z:=G.out.s.2.2;go_wp2;refine bodyPost_ret (v:=.agg #[.int .u8 x0,x1,.int .i64 (back (x2:Nat)),x3]) (by simp[results,Tryz.results84,go_sem,c0,c1,c2,c3]) rfl ?_;exact ⟨rfl,((((G.out.e.put 0 _).put 1 _).put 2 _).put 3 _).r,((((G.out.e.put 0 _).put 1 _).put 2 _).put 3 _).k⟩
def itemS (l:List UInt8) (E:Int):It × List UInt8 × Int:=bindR (wordS l E) fun x0 l0 E0=>bindR (manyS dotS l0 E0) fun x1 l1 E1=>((⟨x0,x1⟩:It),l1,E1)
theorem item_eats:Eats itemS:=word_eats.bind fun _=>(many_eats dot_eats).keeps.bind fun _=>keeps_pure _
theorem item_any (b:Nat) (l:List UInt8) (E:Int) (w:World) (h:Rd w b l E) (hz:l.length≤1048576) (y:It) (l':List UInt8) (E':Int) (hn:itemS l E=(y,l',E')) :
  Calls Tryz.prog 152 #[.agg #[.pointer (some ⟨b,0,none⟩)]] w fun e w'=>∃ x:RI,e=.returned (.agg x)∧x.it=y∧OwnD w' w.heap.size x.a x.c x.d∧Rd w' b l' E'∧But b w w':=by
 obtain ⟨x0,l0,E0,q0⟩:=tr (wordS l E);obtain ⟨x1,l1,E1,q1⟩:=tr (manyS dotS l0 E0);simp only[itemS,bindR,q0,q1,Prod.mk.injEq] at hn;obtain ⟨rfl,rfl,rfl⟩:=hn;have hz0:Hid (l0.length≤1048576):=hid (by have:=word_eats.keeps.len q0;omega);replace q0:=hid q0;replace q1:=hid q1;clear hz;go_enter Tryz.func152,Tryz.ntmps152;go_upto_region 1 with (fail)
 obtain ⟨bp,br,W,hbp,hbr,hW,G⟩:=Tk.new h [.string ⟨#[]⟩,.slice none 0 0] 155;rw[← hW,← hbr,← hbp];clear hW hbr hbp h;have p0:=G.out.p.at 0 _ rfl;go_wp2_with fail
 refine (word_any b _ _ _ G.out.r _ _ _ q0.out).mono ?_;rintro e w1 ⟨rfl,R1,k1⟩;obtain ⟨H,p1,c0,z0⟩:=G.out.go R1 k1 0;clear G p0 k1 R1;go_upto_region 2 with (fail)
 obtain ⟨w2,hw2,G⟩:=H.out.put 0 x0;rw[← hw2];clear H hw2 p1 c0 z0;have p0:=G.out.p.at 0 _ rfl;go_wp2_with fail
 refine (many_dot b _ _ _ G.out.r hz0.out _ _ _ q1.out).mono ?_;rintro e w1 ⟨v,rfl,o1,R1,k1⟩;replace o1:=o1.base G.out.s.1;obtain ⟨a1,u1,rfl,-,-,-,-⟩:=o1.lies;have O1:Hid (OwnD w1 (br+1) a1 u1 x1):=hid o1;clear o1;obtain ⟨H,p1,c1,z1⟩:=G.out.go R1 k1 1;clear G p0 k1 R1;go_upto_region 3 with (fail)
 obtain ⟨w2,hw2,G⟩:=H.out.put 1 (.slice a1 x1.length u1);rw[← hw2];replace O1:=hid (O1.out.but (bsetB hw2) (Nat.lt_succ_self br));clear H hw2 p1 c1 z1;obtain ⟨c0,c1⟩:=al2 G.out.s.at;have z:=G.out.s.2.2;go_wp2;refine bodyPost_ret (v:=.agg #[x0,.slice a1 x1.length u1]) (by simp[results,Tryz.results152,go_sem,c0,c1]) rfl ?_;exact ⟨⟨x0,a1,u1,x1⟩,rfl,rfl,(O1.out.but ((G.out.e.put 0 _).put 1 _).o (Nat.lt_succ_self br)).base G.out.n.2.2.2.2.2,((G.out.e.put 0 _).put 1 _).r,((G.out.e.put 0 _).put 1 _).k⟩
theorem OwnD.kept {F:Type} {E2:Row.Enc F} {tf:TypeId} {u:Value} {K:List F} {L:List M} (h:OwnD w B a c L) (ho:Row.Own E2 tf w B' u K) (hg:w.grownBy w' u.ownBlock) (hne:167≠tf):OwnD w' B a c L:=kept_by h ho hg hne
theorem many_item (b:Nat) (l:List UInt8) (E:Int) (w:World) (h:Rd w b l E) (hz:l.length≤1048576) (xs:List (It)) (l':List UInt8) (E':Int) (hn:manyS itemS l E=(xs,l',E')) :
  Calls Tryz.prog 151 #[.agg #[.pointer (some ⟨b,0,none⟩)],.func (.func 152) #[] #[]] w fun e w'=>∃ (v:Value) (L:List RI),e=.returned v∧L.map RI.it=xs∧Row.Own iE 155 w' w.heap.size v L∧(∀ z ∈ L,OwnD w' w.heap.size z.a z.c z.d)∧Rd w' b l' E'∧But b w w' :=
 manyT iE typI RI.it (fun m=>.agg m) (fun W B z=>OwnD W B z.a z.c z.d) item_eats Tryz.func151 Tryz.ntmps151 (fun l E W h hz y l' E' hn=>item_any b l E W h hz y l' E' hn) (fun _ _ _ _ q k hb=>q.but k hb) (fun _ _ _ _ q hB=>q.base hB) (fun _ _ _ _ _ _ ho g q=>OwnD.kept q ho g (by decide)) h hz hn
def entryS (l:List UInt8) (E:Int):Coder.E × List UInt8 × Int:=bindR (wordS l E) fun k l0 E0=>bindR (manyS markS l0 E0) fun s l1 E1 =>
 if kd k=1 then bindR (manyS countS l1 E1) fun c l2 E2=>((⟨k,s,c,[],Cl.zero⟩:Coder.E),l2,E2)
 else if kd k=2 then bindR (manyS itemS l1 E1) fun i l2 E2=>((⟨k,s,[],i,Cl.zero⟩:Coder.E),l2,E2)
 else if kd k=3 then bindR (cellS l1 E1) fun c l2 E2=>((⟨k,s,[],[],c⟩:Coder.E),l2,E2)
 else ((⟨k,s,[],[],Cl.zero⟩:Coder.E),l1,if E1≠0 then E1 else 8)
theorem cell_eats:Eats cellS:=nat_eats.bind fun _=>word_eats.keeps.bind fun _=>truth_eats.keeps.bind fun _=>keeps_pure _
theorem entry_eats:Eats entryS:=word_eats.bind fun k=>(many_eats mark_eats).keeps.bind fun s=>by
 by_cases k1:kd k=1
 ·simp only[if_pos k1];exact (many_eats count_eats).keeps.bind fun _=>keeps_pure _
 by_cases k2:kd k=2
 ·simp only[if_neg k1,if_pos k2];exact (many_eats item_eats).keeps.bind fun _=>keeps_pure _
 by_cases k3:kd k=3
 ·simp only[if_neg k1,if_neg k2,if_pos k3];exact cell_eats.keeps.bind fun _=>keeps_pure _
 simp only[if_neg k1,if_neg k2,if_neg k3];exact ⟨fun l E hE=>by show (l,if E≠0 then E else 8)=(l,E);rw[if_pos hE],fun l=>Nat.le_refl _⟩
theorem word_len {l t l':List UInt8} {E E':Int} (h:wordS l E=(t,l',E')):t.length≤65536:=by
 unfold wordS textS at h;split at h
 · simp only[Prod.mk.injEq] at h;rw[← h.1];simp
 simp only[Prod.mk.injEq] at h;rw[← h.1];unfold textT;split
 · simp
 split
 · simp
 split
 · simp
 rename_i q _
 show ((l.drop _).take _).length≤65536
 rw[List.length_take];omega
theorem entry_any (b:Nat) (l:List UInt8) (E:Int) (w:World) (h:Rd w b l E) (hz:l.length≤1048576) (y:Coder.E) (l':List UInt8) (E':Int) (hn:entryS l E=(y,l',E')) :
  Calls Tryz.prog 66 #[.agg #[.pointer (some ⟨b,0,none⟩)]] w fun e w'=>∃ x:RE,e=.returned (.agg x)∧x.e=y∧OwnE w' w.heap.size x∧Rd w' b l' E'∧But b w w':=by
 obtain ⟨x0,l0,E0,q0⟩:=tr (wordS l E);obtain ⟨x1,l1,E1,q1⟩:=tr (manyS markS l0 E0);simp only[entryS,bindR,q0,q1] at hn;have hz0:Hid (l0.length≤1048576):=hid (by have:=word_eats.keeps.len q0;omega);have hz1:Hid (l1.length≤1048576):=hid (by have:=(many_eats mark_eats).keeps.len q1;have:=hz0.out;omega);have hx0:=word_len q0;have KD:=hid (fun W=>kind_k x0 W (by omega));obtain ⟨q,hq⟩:=nm (kd x0);rw[← hq] at KD hn;replace q0:=hid q0;replace q1:=hid q1;replace hn:=hid hn;clear hz hx0 hq;go_enter Tryz.func66,Tryz.ntmps66;go_upto_region 1 with (fail)
 obtain ⟨bp,br,W,hbp,hbr,hW,G⟩:=Tk.new h [.string ⟨#[]⟩,.slice none 0 0,.slice none 0 0,.slice none 0 0,.int .u64 0,.string ⟨#[]⟩,.bool false] 29;rw[← hW,← hbr,← hbp];clear hW hbr hbp h;have p0:=G.out.p.at 0 _ rfl;go_wp2_with fail
 refine (word_any b _ _ _ G.out.r _ _ _ q0.out).mono ?_;rintro e w1 ⟨rfl,R1,k1⟩;obtain ⟨H,p1,c0,z0⟩:=G.out.go R1 k1 0;clear G p0 k1 R1;go_upto_region 2 with (fail)
 obtain ⟨w2,hw2,G⟩:=H.out.put 0 x0;rw[← hw2];clear H hw2 p1 c0 z0;have p0:=G.out.p.at 0 _ rfl;go_wp2_with fail
 refine (many_mark b _ _ _ G.out.r hz0.out _ _ _ q1.out).mono ?_;rintro e w1 ⟨v,rfl,o1,R1,k1⟩;replace o1:=o1.base G.out.s.1;obtain ⟨a1,u1,rfl,-,-,-,-⟩:=o1.lies;have O1:Hid (OwnM w1 (br+1) a1 u1 x1):=hid o1;clear o1;obtain ⟨H,p1,c1,z1⟩:=G.out.go R1 k1 1;clear G p0 k1 R1;go_upto_region 3 with (fail)
 obtain ⟨w2,hw2,G⟩:=H.out.put 1 (.slice a1 x1.length u1);rw[← hw2];replace O1:=hid (O1.out.but (bsetB hw2) (Nat.lt_succ_self br));clear H hw2 p1 c1 z1;have c0:=G.out.s.at 0 _ rfl;go_wp2_with fail
 refine cr (KD.out _) fun w3 k3=>?_;obtain ⟨H,-⟩:=G.out.go (G.out.r.below k3 G.out.r.lt) (But.of k3) 0;replace O1:=hid (O1.out.but (But.of k3) G.out.n.2.2.2.2.1);clear G k3 c0;have G:=H;clear H;by_cases k1:q=1
 ·
  have zz1:=bT (a:=q) (b:=1);obtain ⟨x2,l2,E2,q2⟩:=tr (manyS countS l1 E1);have hn2:=hn.out;simp only[if_pos k1,q2,Prod.mk.injEq] at hn2;obtain ⟨rfl,rfl,rfl⟩:=hn2;replace q2:=hid q2;clear hn k1;have p0:=G.out.p.at 0 _ rfl;go_wp2_with fail
  refine (many_count b _ _ _ G.out.r hz1.out _ _ _ q2.out).mono ?_;rintro e w1 ⟨v,rfl,o1,R1,k1⟩;replace o1:=o1.base G.out.s.1;obtain ⟨a2,u2,rfl,-,-,-,-⟩:=o1.lies;have O2:Hid (OwnC w1 (br+1) a2 u2 x2):=hid o1;clear o1;replace O1:=hid (O1.out.but k1 G.out.n.2.2.2.2.1);obtain ⟨H,p1,c2,z2⟩:=G.out.go R1 k1 2;clear G p0 k1 R1;go_upto_region 11 with (fail)
  obtain ⟨w2,hw2,G⟩:=H.out.put 2 (.slice a2 x2.length u2);rw[← hw2];replace O1:=hid (O1.out.but (bsetB hw2) (Nat.lt_succ_self br));replace O2:=hid (O2.out.but (bsetB hw2) (Nat.lt_succ_self br));clear H hw2 p1 c2 z2;obtain ⟨c0,c1,c2,c3,c4,c5,c6⟩:=al7 G.out.s.at;have z:=G.out.s.2.2;go_wp2;refine bodyPost_ret (v:=.agg #[x0,.slice a1 x1.length u1,.slice a2 x2.length u2,.slice none 0 0,.int .u64 0,.string ⟨#[]⟩,.bool false]) (by simp[results,Tryz.results66,go_sem,c0,c1,c2,c3,c4,c5,c6]) rfl ?_;exact ⟨⟨x0,a1,u1,x1,a2,u2,x2,none,0,[],Cl.zero⟩,rfl,rfl,OwnE.base (OwnE.but (b:=br) (B:=br+1) ⟨O1.out,O2.out,OwnI.nil _ _⟩ (((((((G.out.e.put 0 _).put 1 _).put 2 _).put 3 _).put 4 _).put 5 _).put 6 _).o (Nat.lt_succ_self br)) G.out.n.2.2.2.2.2,(((((((G.out.e.put 0 _).put 1 _).put 2 _).put 3 _).put 4 _).put 5 _).put 6 _).r,(((((((G.out.e.put 0 _).put 1 _).put 2 _).put 3 _).put 4 _).put 5 _).put 6 _).k⟩
 by_cases k2:q=2
 ·
  have zz1:=bF (a:=q) (b:=1);have zz2:=bT (a:=q) (b:=2);obtain ⟨x2,l2,E2,q2⟩:=tr (manyS itemS l1 E1);have hn2:=hn.out;simp only[if_neg k1,if_pos k2,q2,Prod.mk.injEq] at hn2;obtain ⟨rfl,rfl,rfl⟩:=hn2;replace q2:=hid q2;clear hn k1 k2;clear hz0;have p0:=G.out.p.at 0 _ rfl;go_wp2_with fail
  refine (many_item b _ _ _ G.out.r hz1.out _ _ _ q2.out).mono ?_;rintro e w1 ⟨v,L,rfl,hL,o1,oi,R1,k1⟩;have hB:=G.out.s.1;replace o1:=o1.base hB;obtain ⟨a2,u2,rfl,-,-,-,-⟩:=o1.lies;have HL:=hid hL;have O2:Hid (OwnI w1 (br+1) a2 u2 L):=hid ⟨o1,fun y hy=>(oi y hy).base hB⟩;clear o1 oi hL hB;replace O1:=hid (O1.out.but k1 G.out.n.2.2.2.2.1);obtain ⟨H,p1,c3,z3⟩:=G.out.go R1 k1 3;clear G p0 k1 R1;go_upto_region 11 with (fail)
  obtain ⟨w2,hw2,G⟩:=H.out.put 3 (.slice a2 L.length u2);rw[← hw2];replace O1:=hid (O1.out.but (bsetB hw2) (Nat.lt_succ_self br));replace O2:=hid (O2.out.but (bsetB hw2) (Nat.lt_succ_self br));clear H hw2 p1 c3 z3;obtain ⟨c0,c1,c2,c3,c4,c5,c6⟩:=al7 G.out.s.at;have z:=G.out.s.2.2;go_wp2;refine bodyPost_ret (v:=.agg #[x0,.slice a1 x1.length u1,.slice none 0 0,.slice a2 L.length u2,.int .u64 0,.string ⟨#[]⟩,.bool false]) (by simp[results,Tryz.results66,go_sem,c0,c1,c2,c3,c4,c5,c6]) rfl ?_;exact ⟨⟨x0,a1,u1,x1,none,0,[],a2,u2,L,Cl.zero⟩,rfl,by rw[← HL.out];rfl,OwnE.base (OwnE.but (b:=br) (B:=br+1) ⟨O1.out,OwnC.nil _ _,O2.out⟩ (((((((G.out.e.put 0 _).put 1 _).put 2 _).put 3 _).put 4 _).put 5 _).put 6 _).o (Nat.lt_succ_self br)) G.out.n.2.2.2.2.2,(((((((G.out.e.put 0 _).put 1 _).put 2 _).put 3 _).put 4 _).put 5 _).put 6 _).r,(((((((G.out.e.put 0 _).put 1 _).put 2 _).put 3 _).put 4 _).put 5 _).put 6 _).k⟩
 by_cases k3:q=3
 ·
  have zz1:=bF (a:=q) (b:=1);have zz2:=bF (a:=q) (b:=2);have zz3:=bT (a:=q) (b:=3);obtain ⟨x2,l2,E2,q2⟩:=tr (cellS l1 E1);have hn2:=hn.out;simp only[if_neg k1,if_neg k2,if_pos k3,q2,Prod.mk.injEq] at hn2;obtain ⟨rfl,rfl,rfl⟩:=hn2;replace q2:=hid q2;clear hn k1 k2 k3;have p0:=G.out.p.at 0 _ rfl;go_wp2_with fail
  refine (cell_any b _ _ _ G.out.r _ _ _ q2.out).mono ?_;rintro e w1 ⟨rfl,R1,k1⟩;replace O1:=hid (O1.out.but k1 G.out.n.2.2.2.2.1);obtain ⟨H,p1,c4,z4⟩:=G.out.go R1 k1 4;obtain ⟨-,-,c5,z5⟩:=G.out.go R1 k1 5;obtain ⟨-,-,c6,z6⟩:=G.out.go R1 k1 6;clear G p0 k1 R1;go_upto_region 11 with (fail)
  obtain ⟨w2,hw2,G⟩:=H.out.put 4 x2.s;rw[← hw2];replace O1:=hid (O1.out.but (bsetB hw2) (Nat.lt_succ_self br));clear H hw2;have H:=G;clear G;obtain ⟨w2,hw2,G⟩:=H.out.put 5 x2.t;rw[← hw2];replace O1:=hid (O1.out.but (bsetB hw2) (Nat.lt_succ_self br));clear H hw2;have H:=G;clear G;obtain ⟨w2,hw2,G⟩:=H.out.put 6 x2.g;rw[← hw2];replace O1:=hid (O1.out.but (bsetB hw2) (Nat.lt_succ_self br));clear H hw2 p1 c4 z4 c5 z5 c6 z6;obtain ⟨c0,c1,c2,c3,c4,c5,c6⟩:=al7 G.out.s.at;have z:=G.out.s.2.2;go_wp2;refine bodyPost_ret (v:=.agg #[x0,.slice a1 x1.length u1,.slice none 0 0,.slice none 0 0,x2.s,x2.t,x2.g]) (by simp[results,Tryz.results66,go_sem,c0,c1,c2,c3,c4,c5,c6]) rfl ?_;exact ⟨⟨x0,a1,u1,x1,none,0,[],none,0,[],x2⟩,rfl,rfl,OwnE.base (OwnE.but (b:=br) (B:=br+1) ⟨O1.out,OwnC.nil _ _,OwnI.nil _ _⟩ (((((((G.out.e.put 0 _).put 1 _).put 2 _).put 3 _).put 4 _).put 5 _).put 6 _).o (Nat.lt_succ_self br)) G.out.n.2.2.2.2.2,(((((((G.out.e.put 0 _).put 1 _).put 2 _).put 3 _).put 4 _).put 5 _).put 6 _).r,(((((((G.out.e.put 0 _).put 1 _).put 2 _).put 3 _).put 4 _).put 5 _).put 6 _).k⟩
 have zz1:=bF (a:=q) (b:=1);have zz2:=bF (a:=q) (b:=2);have zz3:=bF (a:=q) (b:=3);have hn2:=hn.out;simp only[if_neg k1,if_neg k2,if_neg k3,Prod.mk.injEq] at hn2;obtain ⟨rfl,rfl,hE⟩:=hn2;replace hE:=hid hE;clear hn k1 k2 k3 KD;have p0:=G.out.p.at 0 _ rfl;go_wp2_with fail
 refine (fail_any b _ _ 8 _ G.out.r _ hE.out.symm).mono ?_;rintro e w2 ⟨rfl,R1,k1⟩;obtain ⟨H,-⟩:=G.out.go R1 k1 0;replace O1:=hid (O1.out.but k1 G.out.n.2.2.2.2.1);clear G p0 k1 R1;have G:=H;clear H;go_upto_region 11 with (fail)
 obtain ⟨c0,c1,c2,c3,c4,c5,c6⟩:=al7 G.out.s.at;have z:=G.out.s.2.2;go_wp2;refine bodyPost_ret (v:=.agg #[x0,.slice a1 x1.length u1,.slice none 0 0,.slice none 0 0,.int .u64 0,.string ⟨#[]⟩,.bool false]) (by simp[results,Tryz.results66,go_sem,c0,c1,c2,c3,c4,c5,c6]) rfl ?_;exact ⟨⟨x0,a1,u1,x1,none,0,[],none,0,[],Cl.zero⟩,rfl,rfl,OwnE.base (OwnE.but (b:=br) (B:=br+1) ⟨O1.out,OwnC.nil _ _,OwnI.nil _ _⟩ (((((((G.out.e.put 0 _).put 1 _).put 2 _).put 3 _).put 4 _).put 5 _).put 6 _).o (Nat.lt_succ_self br)) G.out.n.2.2.2.2.2,(((((((G.out.e.put 0 _).put 1 _).put 2 _).put 3 _).put 4 _).put 5 _).put 6 _).r,(((((((G.out.e.put 0 _).put 1 _).put 2 _).put 3 _).put 4 _).put 5 _).put 6 _).k⟩
end Taker
namespace Coder
open RowKit YtnpjkmomllkhpaaGreatDoor.Mark Num Wire Bag
structure RS where
 aa:Option Addr
 ac:Nat
 a:List M
 ea:Option Addr
 ec:Nat
 e:List RE
 pa:Option Addr
 pc:Nat
 p:List (List UInt8)
def RS.s (x:RS):S:=⟨x.a,x.e.map RE.e,x.p⟩
instance : Coe RS (Array Value) := ⟨fun x => #[.slice x.aa x.a.length x.ac, .slice x.ea x.e.length x.ec, .slice x.pa x.p.length x.pc]⟩
instance : Coe RS (List Value) := ⟨fun x => [.slice x.aa x.a.length x.ac, .slice x.ea x.e.length x.ec, .slice x.pa x.p.length x.pc]⟩
def InnerEs (w:World) (x:RS):Prop:=Row.Lies eE w x.ea x.e.length x.e∧∀ y ∈ x.e,InnerE w y
theorem InnerEs.below {w w':World} {x:RS} (h:InnerEs w x) (k:Below w.heap.size w w'):InnerEs w' x:=⟨h.1.below k,fun y hy=>(h.2 y hy).below k⟩
instance {x : RS} : Kept (fun w => InnerEs w x) := ⟨fun k h => InnerEs.below h k⟩
instance {w : World} {x : RS} : Hd w (InnerEs w x) (fun w => InnerEs w x) := ⟨id⟩
structure InnerS (w:World) (x:RS):Prop where
 a:Mark.Lies w x.aa x.a.length x.a
 e:InnerEs w x
 p:Row.Lies wE w x.pa x.p.length x.p
theorem InnerS.below {w w':World} {x:RS} (h:InnerS w x) (k:Below w.heap.size w w'):InnerS w' x:=⟨h.a.below k,h.e.below k,h.p.below k⟩
instance {x : RS} : Kept (fun w => InnerS w x) := ⟨fun k h => InnerS.below h k⟩
instance {w : World} {x : RS} : Hd w (InnerS w x) (fun w => InnerS w x) := ⟨id⟩
structure RS.Ok (x:RS):Prop where
 a:x.a.length≤1048576
 am:∀ m ∈ x.a,m.p.length≤1048576∧m.n≤18446744073709551615
 e:x.e.length≤1048576
 em:∀ y ∈ x.e,y.Ok∧(fE y).length≤70368744177664
 p:x.p.length≤1048576
 pm:∀ m ∈ x.p,m.length≤1048576
def fS (x:RS):List UInt8:=stb x.s
theorem fS_is (x:RS):fS x=lst mk x.a++lst fE x.e++lst tx x.p:=by
 unfold fS stb RS.s;rw[show lst en (x.e.map RE.e)=lst fE x.e from lst_map en RE.e x.e]
def fD (B:List M) (x:RS):List UInt8:=dl B x.s
end Coder
end Go.Proofs.YtnpjkmomllkhpaaGreatDoor
