/- CoderWrite, RelyKinds, CoderOp, MemBox. -/
import Derived.Test.YtnpjkmomllkhpaaGreatDoorTn9
import Derived.Test.YtnpjkmomllkhpaaGreatDoorTn12
set_option linter.unusedVariables false
set_option linter.unusedSimpArgs false
set_option maxRecDepth 100000
set_option maxHeartbeats 40000000
namespace Go.Proofs.YtnpjkmomllkhpaaGreatDoor
namespace Coder
open RowKit YtnpjkmomllkhpaaGreatDoor.Mark Num Wire
theorem box_cells (w:World) (C:Array Value) (T:TypeId) (j:Nat) (v:Value) (h:C[j]?=some v):(w.alloc (.cells C T)).cell? ⟨w.heap.size,j,none⟩=some v:=by
 rw[World.cell?_alloc_new];exact h
theorem keepC {w w':World} {b o:Nat} {v:Value} (h:w.cell? ⟨b,o,none⟩=some v) (k:Below w.heap.size w w'):w'.cell? ⟨b,o,none⟩=some v:=Dots.keepC h k
theorem one_mk (p:List UInt8):Wire.one ⟨p.toArray⟩=tx p:=by unfold Wire.one tx;rw[Str.size_mk]
theorem nats_here (l:List Nat) (hn:∀ n ∈ l,n≤18446744073709551615) {C:Array Value} (hC:C=(l.map fun n=>Value.int .u64 ((n:Nat):Int)).toArray) {t:TypeId} (len:Nat) (hl:l.length=len) {B:Nat} {w W:World} (_h:Below B w (W.alloc (.cells C t))) :
  Nats (W.alloc (.cells C t)) (some ⟨W.heap.size,0,none⟩) len l:=by
 refine ⟨hl,hn,fun _=>⟨W.heap.size,0,rfl,by rw[World.size_alloc];omega,fun j hj=>?_⟩⟩;rw[World.cell?_alloc_new,hC];simp[hj]
theorem txts_here (l:List (List UInt8)) (hn:∀ n ∈ l,n.length≤9223372036854775807) {C:Array Value} (hC:C=(l.map fun n=>Value.string ⟨n.toArray⟩).toArray) {t:TypeId} (len:Nat) (hl:l.length=len) {B:Nat} {w W:World} (_h:Below B w (W.alloc (.cells C t))) :
  Txts (W.alloc (.cells C t)) (some ⟨W.heap.size,0,none⟩) len (l.map fun n=>⟨n.toArray⟩):=by
 refine ⟨by rw[List.length_map];exact hl,fun n hm=>?_,fun _=>⟨W.heap.size,0,rfl,by rw[World.size_alloc];omega,fun j hj=>?_⟩⟩
 ·obtain ⟨x,hx,rfl⟩:=List.mem_map.1 hm;rw[Str.size_mk];exact hn x hx
 rw[World.cell?_alloc_new,hC];rw[List.length_map] at hj;simp[hj]
theorem nats_move {W:World} {a:Option Addr} {len:Nat} {l:List Nat} (h:Nats W a len l) {o:Obj} {B:Nat} {w:World} (_h:Below B w (W.alloc o)):Nats (W.alloc o) a len l:=h.below rfl (balloc (Below.refl _ _) _)
theorem txts_move {W:World} {a:Option Addr} {len:Nat} {l:List ByteArray} (h:Txts W a len l) {o:Obj} {B:Nat} {w:World} (_h:Below B w (W.alloc o)):Txts (W.alloc o) a len l:=h.below rfl (balloc (Below.refl _ _) _)
theorem nums_w {a:Option Addr} {len c:Nat} {l:List Nat} {w:World} (h:Nats w a len l) (hl:len≤1048576) (r:List UInt8) (hr:cat l=r) :
  CB 130 #[.slice a len c] w r:=by rw[← hr];exact nums_any a len c l w h hl
theorem texts_w {a:Option Addr} {len c:Nat} {l:List (List UInt8)} {w:World} (h:Txts w a len (l.map fun n=>⟨n.toArray⟩)) (r:List UInt8) (hr:l.flatMap tx=r) (hrl:r.length≤1099511627776) (hlen:len≤1099511627776) :
  CB 98 #[.slice a len c] w r:=by
 have e:tcat (l.map fun n=>(⟨n.toArray⟩:ByteArray))=r:=by
  rw[← hr];unfold tcat;rw[List.flatMap_map];exact congrArg (fun f=>l.flatMap f) (funext one_mk)
 rw[← e];exact texts_any a len c _ w h (by rw[e];exact hrl) hlen
theorem bool_wb (b:Bool) (r:List UInt8) (hr:tb b=r) (w:World):CB 173 #[b] w r:=by
 refine cp (bool_w b w) ?_;refine ⟨?_,Below.refl _ _⟩;rw[← hr];cases b <;> rfl
theorem tx_len (p:List UInt8):(tx p).length≤p.length+10:=by
 unfold tx;have:=(upL_length p.length).2;rw[List.length_append];omega
theorem up_len (n:Nat):(upL n).length≤10:=(upL_length n).2
theorem mark_any (m:M) (w:World) (hp:m.p.length≤1048576) (hn:m.n≤18446744073709551615) :
  CB 100 #[.agg m] w (mk m):=by
 have hb:=Below.refl w.heap.size w;obtain ⟨p0,hp0⟩:=nm (tx m.p);have b0:p0.length≤1048586:=by rw[hp0];have:=tx_len m.p;omega
 have R0:Hid ([m.p].flatMap tx=p0):=hid (by rw[hp0];simp);have z0:=Str.size_mk p0;obtain ⟨p1,hp1⟩:=nm (upL m.n);have b1:p1.length≤1048586:=by rw[hp1];have:=up_len m.n;omega
 have R1:Hid (cat [m.n]=p1):=hid (by rw[hp1];simp[cat]);have z1:=Str.size_mk p1;obtain ⟨C1,hC1,lC1,aC1,zC1,nC1,mC1⟩:=apd p0 p1 (by omega);have HV:Hid (mk m=C1):=hid (by rw[hC1];rw[hp0];rw[hp1];rfl);obtain ⟨X0,X1⟩:=al2 (fun i v h=>hid (bx w m 96 i v h));clear hp0 hp1;replace hC1:=hid hC1;replace lC1:=hid lC1;go_enter Tryz.func100,Tryz.ntmps100;go_wp2_with fail
 replace hb:=bstep hb (balloc (Below.refl _ _) (.cells m 96));have x0:=X0.out;have x1:=X1.out;clear X0 X1;refine rh (aj3 hb x0 x1) fun wd gH=>?_;refine tk [0,1,4,5] ?_;refine tR2 2 6 (fun K hK=>?_) fun K hK=>?_
 ·
  go_simp;refine tA hK gH fun gH=>?_;clear hK K;have N2:=txts_here [m.p] (by intro y hy;simp at hy;subst hy;omega) rfl 1 rfl gH.1;try simp only[World.size_alloc] at N2
  refine tR2 3 6 (fun K hK=>?_) fun K hK=>?_
  ·
   go_simp;go_at_call 98;refine cr (texts_w N2 p0 R0.out (by omega) (by omega)) fun v1 k1=>?_;replace N2:=(N2).below rfl k1;go_wp2_with fail
   refine tH hK gH k1 fun gH=>?_;clear hK K k1;refine tR 6 fun K hK=>?_;go_simp;refine tA hK gH fun gH=>?_;clear hK K;replace N2:=txts_move N2 gH.1;have N6:=nats_here [m.n] (by intro y hy;simp at hy;omega) rfl 1 rfl gH.1;try simp only[World.size_alloc] at N6
   refine tR 7 fun K hK=>?_;go_simp;go_at_call 130;refine cr (nums_w N6 (by omega) p1 R1.out) fun v2 k2=>?_;replace N2:=(N2).below rfl k2;replace N6:=(N6).below rfl k2;go_wp2_with fail
   refine tH hK gH k2 fun gH=>?_;clear hK K k2;refine tk [8,9] ?_;refine tD ?_;clear hb x0 x1;obtain ⟨hb,x0,x1⟩:=gH;go_wp2;go_ret;exact ⟨by rw[HV.out];rfl,hb⟩
  go_simp;refine tA hK gH fun gH=>?_;clear hK K;replace N2:=txts_move N2 gH.1;have N6:=nats_here [m.n] (by intro y hy;simp at hy;omega) rfl 1 rfl gH.1;try simp only[World.size_alloc] at N6
  refine tR 3 fun K hK=>?_;go_simp;go_at_call 98;refine cr (texts_w N2 p0 R0.out (by omega) (by omega)) fun v3 k3=>?_;replace N2:=(N2).below rfl k3;replace N6:=(N6).below rfl k3;go_wp2_with fail
  refine tH hK gH k3 fun gH=>?_;clear hK K k3;refine tR 7 fun K hK=>?_;go_simp;go_at_call 130;refine cr (nums_w N6 (by omega) p1 R1.out) fun v4 k4=>?_;replace N2:=(N2).below rfl k4;replace N6:=(N6).below rfl k4;go_wp2_with fail
  refine tH hK gH k4 fun gH=>?_;clear hK K k4;refine tk [8,9] ?_;refine tD ?_;clear hb x0 x1;obtain ⟨hb,x0,x1⟩:=gH;go_wp2;go_ret;exact ⟨by rw[HV.out];rfl,hb⟩
 go_simp;refine tA hK gH fun gH=>?_;clear hK K;have N6:=nats_here [m.n] (by intro y hy;simp at hy;omega) rfl 1 rfl gH.1;try simp only[World.size_alloc] at N6
 refine tR 2 fun K hK=>?_;go_simp;refine tA hK gH fun gH=>?_;clear hK K;replace N6:=nats_move N6 gH.1;have N2:=txts_here [m.p] (by intro y hy;simp at hy;subst hy;omega) rfl 1 rfl gH.1;try simp only[World.size_alloc] at N2
 refine tR 3 fun K hK=>?_;go_simp;go_at_call 98;refine cr (texts_w N2 p0 R0.out (by omega) (by omega)) fun v5 k5=>?_;replace N6:=(N6).below rfl k5;replace N2:=(N2).below rfl k5;go_wp2_with fail
 refine tH hK gH k5 fun gH=>?_;clear hK K k5;refine tR 7 fun K hK=>?_;go_simp;go_at_call 130;refine cr (nums_w N6 (by omega) p1 R1.out) fun v6 k6=>?_;replace N6:=(N6).below rfl k6;replace N2:=(N2).below rfl k6;go_wp2_with fail
 refine tH hK gH k6 fun gH=>?_;clear hK K k6;refine tk [8,9] ?_;refine tD ?_;clear hb x0 x1;obtain ⟨hb,x0,x1⟩:=gH;go_wp2;go_ret;exact ⟨by rw[HV.out];rfl,hb⟩
theorem dot_any (m:M) (w:World) (hp:m.p.length≤1048576) (hn:m.n≤18446744073709551615) :
  CB 172 #[.agg m] w (mk m):=by
 have hb:=Below.refl w.heap.size w;obtain ⟨p0,hp0⟩:=nm (tx m.p);have b0:p0.length≤1048586:=by rw[hp0];have:=tx_len m.p;omega
 have R0:Hid ([m.p].flatMap tx=p0):=hid (by rw[hp0];simp);have z0:=Str.size_mk p0;obtain ⟨p1,hp1⟩:=nm (upL m.n);have b1:p1.length≤1048586:=by rw[hp1];have:=up_len m.n;omega
 have R1:Hid (cat [m.n]=p1):=hid (by rw[hp1];simp[cat]);have z1:=Str.size_mk p1;obtain ⟨C1,hC1,lC1,aC1,zC1,nC1,mC1⟩:=apd p0 p1 (by omega);have HV:Hid (mk m=C1):=hid (by rw[hC1];rw[hp0];rw[hp1];rfl);obtain ⟨X0,X1⟩:=al2 (fun i v h=>hid (bx w m 167 i v h));clear hp0 hp1;replace hC1:=hid hC1;replace lC1:=hid lC1;go_enter Tryz.func172,Tryz.ntmps172;go_wp2_with fail
 replace hb:=bstep hb (balloc (Below.refl _ _) (.cells m 167));have x0:=X0.out;have x1:=X1.out;clear X0 X1;refine rh (aj3 hb x0 x1) fun wd gH=>?_;refine tk [0,1,4,5] ?_;refine tR2 2 6 (fun K hK=>?_) fun K hK=>?_
 ·
  go_simp;refine tA hK gH fun gH=>?_;clear hK K;have N2:=txts_here [m.p] (by intro y hy;simp at hy;subst hy;omega) rfl 1 rfl gH.1;try simp only[World.size_alloc] at N2
  refine tR2 3 6 (fun K hK=>?_) fun K hK=>?_
  ·
   go_simp;go_at_call 98;refine cr (texts_w N2 p0 R0.out (by omega) (by omega)) fun v7 k7=>?_;replace N2:=(N2).below rfl k7;go_wp2_with fail
   refine tH hK gH k7 fun gH=>?_;clear hK K k7;refine tR 6 fun K hK=>?_;go_simp;refine tA hK gH fun gH=>?_;clear hK K;replace N2:=txts_move N2 gH.1;have N6:=nats_here [m.n] (by intro y hy;simp at hy;omega) rfl 1 rfl gH.1;try simp only[World.size_alloc] at N6
   refine tR 7 fun K hK=>?_;go_simp;go_at_call 130;refine cr (nums_w N6 (by omega) p1 R1.out) fun v8 k8=>?_;replace N2:=(N2).below rfl k8;replace N6:=(N6).below rfl k8;go_wp2_with fail
   refine tH hK gH k8 fun gH=>?_;clear hK K k8;refine tk [8,9] ?_;refine tD ?_;clear hb x0 x1;obtain ⟨hb,x0,x1⟩:=gH;go_wp2;go_ret;exact ⟨by rw[HV.out];rfl,hb⟩
  go_simp;refine tA hK gH fun gH=>?_;clear hK K;replace N2:=txts_move N2 gH.1;have N6:=nats_here [m.n] (by intro y hy;simp at hy;omega) rfl 1 rfl gH.1;try simp only[World.size_alloc] at N6
  refine tR 3 fun K hK=>?_;go_simp;go_at_call 98;refine cr (texts_w N2 p0 R0.out (by omega) (by omega)) fun v9 k9=>?_;replace N2:=(N2).below rfl k9;replace N6:=(N6).below rfl k9;go_wp2_with fail
  refine tH hK gH k9 fun gH=>?_;clear hK K k9;refine tR 7 fun K hK=>?_;go_simp;go_at_call 130;refine cr (nums_w N6 (by omega) p1 R1.out) fun v10 k10=>?_;replace N2:=(N2).below rfl k10;replace N6:=(N6).below rfl k10;go_wp2_with fail
  refine tH hK gH k10 fun gH=>?_;clear hK K k10;refine tk [8,9] ?_;refine tD ?_;clear hb x0 x1;obtain ⟨hb,x0,x1⟩:=gH;go_wp2;go_ret;exact ⟨by rw[HV.out];rfl,hb⟩
 go_simp;refine tA hK gH fun gH=>?_;clear hK K;have N6:=nats_here [m.n] (by intro y hy;simp at hy;omega) rfl 1 rfl gH.1;try simp only[World.size_alloc] at N6
 refine tR 2 fun K hK=>?_;go_simp;refine tA hK gH fun gH=>?_;clear hK K;replace N6:=nats_move N6 gH.1;have N2:=txts_here [m.p] (by intro y hy;simp at hy;subst hy;omega) rfl 1 rfl gH.1;try simp only[World.size_alloc] at N2
 refine tR 3 fun K hK=>?_;go_simp;go_at_call 98;refine cr (texts_w N2 p0 R0.out (by omega) (by omega)) fun v11 k11=>?_;replace N6:=(N6).below rfl k11;replace N2:=(N2).below rfl k11;go_wp2_with fail
 refine tH hK gH k11 fun gH=>?_;clear hK K k11;refine tR 7 fun K hK=>?_;go_simp;go_at_call 130;refine cr (nums_w N6 (by omega) p1 R1.out) fun v12 k12=>?_;replace N6:=(N6).below rfl k12;replace N2:=(N2).below rfl k12;go_wp2_with fail
 refine tH hK gH k12 fun gH=>?_;clear hK K k12;refine tk [8,9] ?_;refine tD ?_;clear hb x0 x1;obtain ⟨hb,x0,x1⟩:=gH;go_wp2;go_ret;exact ⟨by rw[HV.out];rfl,hb⟩
theorem count_any (m:C) (w:World) (hp:m.p.length≤1048576) (hn:m.a≤18446744073709551615) (hn2:m.b≤18446744073709551615) :
  CB 102 #[.agg m] w (ct m):=by
 have hb:=Below.refl w.heap.size w;obtain ⟨p0,hp0⟩:=nm (tx m.p);have b0:p0.length≤1048586:=by rw[hp0];have:=tx_len m.p;omega
 have R0:Hid ([m.p].flatMap tx=p0):=hid (by rw[hp0];simp);have z0:=Str.size_mk p0;obtain ⟨p1,hp1⟩:=nm (upL m.a++upL m.b);have b1:p1.length≤1048586:=by rw[hp1];have:=up_len m.a;have:=up_len m.b;rw[List.length_append];omega
 have R1:Hid (cat [m.a,m.b]=p1):=hid (by rw[hp1];simp[cat]);have z1:=Str.size_mk p1;obtain ⟨C1,hC1,lC1,aC1,zC1,nC1,mC1⟩:=apd p0 p1 (by omega);have HV:Hid (ct m=C1):=hid (by rw[hC1];rw[hp0];rw[hp1];rfl);obtain ⟨X0,X1,X2⟩:=al3 (fun i v h=>hid (bx w m 98 i v h));clear hp0 hp1;replace hC1:=hid hC1;replace lC1:=hid lC1;go_enter Tryz.func102,Tryz.ntmps102;go_wp2_with fail
 replace hb:=bstep hb (balloc (Below.refl _ _) (.cells m 98));have x0:=X0.out;have x1:=X1.out;have x2:=X2.out;clear X0 X1 X2;refine rh (aj4 hb x0 x1 x2) fun wd gH=>?_;refine tk [0,1,4,5,6,7] ?_;refine tR2 2 8 (fun K hK=>?_) fun K hK=>?_
 ·
  go_simp;refine tA hK gH fun gH=>?_;clear hK K;have N2:=txts_here [m.p] (by intro y hy;simp at hy;subst hy;omega) rfl 1 rfl gH.1;try simp only[World.size_alloc] at N2
  refine tR2 3 8 (fun K hK=>?_) fun K hK=>?_
  ·
   go_simp;go_at_call 98;refine cr (texts_w N2 p0 R0.out (by omega) (by omega)) fun v13 k13=>?_;replace N2:=(N2).below rfl k13;go_wp2_with fail
   refine tH hK gH k13 fun gH=>?_;clear hK K k13;refine tR 8 fun K hK=>?_;go_simp;refine tA hK gH fun gH=>?_;clear hK K;replace N2:=txts_move N2 gH.1;have N8:=nats_here [m.a,m.b] (by intro y hy;simp at hy;omega) rfl 2 rfl gH.1;try simp only[World.size_alloc] at N8
   refine tR 9 fun K hK=>?_;go_simp;go_at_call 130;refine cr (nums_w N8 (by omega) p1 R1.out) fun v14 k14=>?_;replace N2:=(N2).below rfl k14;replace N8:=(N8).below rfl k14;go_wp2_with fail
   refine tH hK gH k14 fun gH=>?_;clear hK K k14;refine tk [10,11] ?_;refine tD ?_;clear hb x0 x1 x2;obtain ⟨hb,x0,x1,x2⟩:=gH;go_wp2;go_ret;exact ⟨by rw[HV.out];rfl,hb⟩
  go_simp;refine tA hK gH fun gH=>?_;clear hK K;replace N2:=txts_move N2 gH.1;have N8:=nats_here [m.a,m.b] (by intro y hy;simp at hy;omega) rfl 2 rfl gH.1;try simp only[World.size_alloc] at N8
  refine tR 3 fun K hK=>?_;go_simp;go_at_call 98;refine cr (texts_w N2 p0 R0.out (by omega) (by omega)) fun v15 k15=>?_;replace N2:=(N2).below rfl k15;replace N8:=(N8).below rfl k15;go_wp2_with fail
  refine tH hK gH k15 fun gH=>?_;clear hK K k15;refine tR 9 fun K hK=>?_;go_simp;go_at_call 130;refine cr (nums_w N8 (by omega) p1 R1.out) fun v16 k16=>?_;replace N2:=(N2).below rfl k16;replace N8:=(N8).below rfl k16;go_wp2_with fail
  refine tH hK gH k16 fun gH=>?_;clear hK K k16;refine tk [10,11] ?_;refine tD ?_;clear hb x0 x1 x2;obtain ⟨hb,x0,x1,x2⟩:=gH;go_wp2;go_ret;exact ⟨by rw[HV.out];rfl,hb⟩
 go_simp;refine tA hK gH fun gH=>?_;clear hK K;have N8:=nats_here [m.a,m.b] (by intro y hy;simp at hy;omega) rfl 2 rfl gH.1;try simp only[World.size_alloc] at N8
 refine tR 2 fun K hK=>?_;go_simp;refine tA hK gH fun gH=>?_;clear hK K;replace N8:=nats_move N8 gH.1;have N2:=txts_here [m.p] (by intro y hy;simp at hy;subst hy;omega) rfl 1 rfl gH.1;try simp only[World.size_alloc] at N2
 refine tR 3 fun K hK=>?_;go_simp;go_at_call 98;refine cr (texts_w N2 p0 R0.out (by omega) (by omega)) fun v17 k17=>?_;replace N8:=(N8).below rfl k17;replace N2:=(N2).below rfl k17;go_wp2_with fail
 refine tH hK gH k17 fun gH=>?_;clear hK K k17;refine tR 9 fun K hK=>?_;go_simp;go_at_call 130;refine cr (nums_w N8 (by omega) p1 R1.out) fun v18 k18=>?_;replace N8:=(N8).below rfl k18;replace N2:=(N2).below rfl k18;go_wp2_with fail
 refine tH hK gH k18 fun gH=>?_;clear hK K k18;refine tk [10,11] ?_;refine tD ?_;clear hb x0 x1 x2;obtain ⟨hb,x0,x1,x2⟩:=gH;go_wp2;go_ret;exact ⟨by rw[HV.out];rfl,hb⟩
theorem cell_any (m:Cl) (w:World) (hp:m.t.length≤1048576) (hn:m.s≤18446744073709551615) :
  CB 105 #[.agg m] w (cl m):=by
 have hb:=Below.refl w.heap.size w;obtain ⟨p0,hp0⟩:=nm (upL m.s);have b0:p0.length≤1048586:=by rw[hp0];have:=up_len m.s;omega
 have R0:Hid (cat [m.s]=p0):=hid (by rw[hp0];simp[cat]);have z0:=Str.size_mk p0;obtain ⟨p1,hp1⟩:=nm (tx m.t);have b1:p1.length≤1048586:=by rw[hp1];have:=tx_len m.t;omega
 have R1:Hid ([m.t].flatMap tx=p1):=hid (by rw[hp1];simp);have z1:=Str.size_mk p1;obtain ⟨C1,hC1,lC1,aC1,zC1,nC1,mC1⟩:=apd p0 p1 (by omega);obtain ⟨p2,hp2⟩:=nm (tb m.g);have b2:p2.length≤1048586:=by rw[hp2];simp[tb]
 have R2:Hid (tb m.g=p2):=hid hp2.symm;have z2:=Str.size_mk p2;obtain ⟨C2,hC2,lC2,aC2,zC2,nC2,mC2⟩:=apd C1 p2 (by omega);have HV:Hid (cl m=C2):=hid (by rw[hC2];rw[hC1];rw[hp0];rw[hp1];rw[hp2];rfl);obtain ⟨X0,X1,X2⟩:=al3 (fun i v h=>hid (bx w m 27 i v h));clear hp0 hp1 hp2;replace hC1:=hid hC1;replace lC1:=hid lC1;replace hC2:=hid hC2;replace lC2:=hid lC2;go_enter Tryz.func105,Tryz.ntmps105;go_wp2_with fail
 replace hb:=bstep hb (balloc (Below.refl _ _) (.cells m 27));have x0:=X0.out;have x1:=X1.out;have x2:=X2.out;clear X0 X1 X2;refine rh (aj4 hb x0 x1 x2) fun wd gH=>?_;refine tk [0,1,4,5,9,10] ?_;refine tR2 2 6 (fun K hK=>?_) fun K hK=>?_
 ·
  go_simp;refine tA hK gH fun gH=>?_;clear hK K;have N2:=nats_here [m.s] (by intro y hy;simp at hy;omega) rfl 1 rfl gH.1;try simp only[World.size_alloc] at N2
  refine tR2 3 6 (fun K hK=>?_) fun K hK=>?_
  ·
   go_simp;go_at_call 130;refine cr (nums_w N2 (by omega) p0 R0.out) fun v19 k19=>?_;replace N2:=(N2).below rfl k19;go_wp2_with fail
   refine tH hK gH k19 fun gH=>?_;clear hK K k19;refine tR 6 fun K hK=>?_;go_simp;refine tA hK gH fun gH=>?_;clear hK K;replace N2:=nats_move N2 gH.1;have N6:=txts_here [m.t] (by intro y hy;simp at hy;subst hy;omega) rfl 1 rfl gH.1;try simp only[World.size_alloc] at N6
   refine tR 7 fun K hK=>?_;go_simp;go_at_call 98;refine cr (texts_w N6 p1 R1.out (by omega) (by omega)) fun v20 k20=>?_;replace N2:=(N2).below rfl k20;replace N6:=(N6).below rfl k20;go_wp2_with fail
   refine tH hK gH k20 fun gH=>?_;clear hK K k20;refine tk [8] ?_;refine tR 11 fun K hK=>?_;go_simp;go_at_call 173;refine cr (bool_wb m.g p2 R2.out _) fun v21 k21=>?_;replace N2:=(N2).below rfl k21;replace N6:=(N6).below rfl k21;go_wp2_with fail
   refine tH hK gH k21 fun gH=>?_;clear hK K k21;refine tk [12,13] ?_;refine tD ?_;clear hb x0 x1 x2;obtain ⟨hb,x0,x1,x2⟩:=gH;go_wp2;go_ret;exact ⟨by rw[HV.out];rfl,hb⟩
  go_simp;refine tA hK gH fun gH=>?_;clear hK K;replace N2:=nats_move N2 gH.1;have N6:=txts_here [m.t] (by intro y hy;simp at hy;subst hy;omega) rfl 1 rfl gH.1;try simp only[World.size_alloc] at N6
  refine tR 3 fun K hK=>?_;go_simp;go_at_call 130;refine cr (nums_w N2 (by omega) p0 R0.out) fun v22 k22=>?_;replace N2:=(N2).below rfl k22;replace N6:=(N6).below rfl k22;go_wp2_with fail
  refine tH hK gH k22 fun gH=>?_;clear hK K k22;refine tR 7 fun K hK=>?_;go_simp;go_at_call 98;refine cr (texts_w N6 p1 R1.out (by omega) (by omega)) fun v23 k23=>?_;replace N2:=(N2).below rfl k23;replace N6:=(N6).below rfl k23;go_wp2_with fail
  refine tH hK gH k23 fun gH=>?_;clear hK K k23;refine tk [8] ?_;refine tR 11 fun K hK=>?_;go_simp;go_at_call 173;refine cr (bool_wb m.g p2 R2.out _) fun v24 k24=>?_;replace N2:=(N2).below rfl k24;replace N6:=(N6).below rfl k24;go_wp2_with fail
  refine tH hK gH k24 fun gH=>?_;clear hK K k24;refine tk [12,13] ?_;refine tD ?_;clear hb x0 x1 x2;obtain ⟨hb,x0,x1,x2⟩:=gH;go_wp2;go_ret;exact ⟨by rw[HV.out];rfl,hb⟩
 go_simp;refine tA hK gH fun gH=>?_;clear hK K;have N6:=txts_here [m.t] (by intro y hy;simp at hy;subst hy;omega) rfl 1 rfl gH.1;try simp only[World.size_alloc] at N6
 refine tR 2 fun K hK=>?_;go_simp;refine tA hK gH fun gH=>?_;clear hK K;replace N6:=txts_move N6 gH.1;have N2:=nats_here [m.s] (by intro y hy;simp at hy;omega) rfl 1 rfl gH.1;try simp only[World.size_alloc] at N2
 refine tR 3 fun K hK=>?_;go_simp;go_at_call 130;refine cr (nums_w N2 (by omega) p0 R0.out) fun v25 k25=>?_;replace N6:=(N6).below rfl k25;replace N2:=(N2).below rfl k25;go_wp2_with fail
 refine tH hK gH k25 fun gH=>?_;clear hK K k25;refine tR 7 fun K hK=>?_;go_simp;go_at_call 98;refine cr (texts_w N6 p1 R1.out (by omega) (by omega)) fun v26 k26=>?_;replace N6:=(N6).below rfl k26;replace N2:=(N2).below rfl k26;go_wp2_with fail
 refine tH hK gH k26 fun gH=>?_;clear hK K k26;refine tk [8] ?_;refine tR 11 fun K hK=>?_;go_simp;go_at_call 173;refine cr (bool_wb m.g p2 R2.out _) fun v27 k27=>?_;replace N6:=(N6).below rfl k27;replace N2:=(N2).below rfl k27;go_wp2_with fail
 refine tH hK gH k27 fun gH=>?_;clear hK K k27;refine tk [12,13] ?_;refine tD ?_;clear hb x0 x1 x2;obtain ⟨hb,x0,x1,x2⟩:=gH;go_wp2;go_ret;exact ⟨by rw[HV.out];rfl,hb⟩
end Coder
section
open RowKit Num Wire
inductive Rk
 | txt (l:List (List UInt8)) (n:Nat)
 | nat (l:List Nat) (n:Nat)
 | str (p:List UInt8)
 | val (v:Value)
 | any
def Rk.Is:Rk→Value→World→Prop
 | .txt l n,v,w=>∃ b,v=.slice (some ⟨b,0,none⟩) n n∧Txts w (some ⟨b,0,none⟩) n (l.map fun n=>⟨n.toArray⟩)
 | .nat l n,v,w=>∃ b,v=.slice (some ⟨b,0,none⟩) n n∧Nats w (some ⟨b,0,none⟩) n l
 | .str p,v,_=>v=.string ⟨p.toArray⟩
 | .val x,v,_=>v=x
 | .any,_,_=>True
theorem Rk.keep:∀ {k:Rk} {v:Value} {w w':World},k.Is v w→Below w.heap.size w w'→k.Is v w'
 | .txt _ _,_,_,_,⟨b,e,h⟩,k=>⟨b,e,h.below rfl k⟩
 | .nat _ _,_,_,_,⟨b,e,h⟩,k=>⟨b,e,h.below rfl k⟩
 | .str _,_,_,_,h,_=>h
 | .val _,_,_,_,h,_=>h
 | .any,_,_,_,_,_=>trivial
variable {tab:Nat→Rk} {f:Nat→Value} {w:World} {deps:List Nat}
theorem Rk.s {p:List UInt8} (hD:∀ d' ∈ deps,(tab d').Is (f d') w) (d:Nat) (hm:d ∈ deps:=by simp) (e:tab d=.str p:=by rfl):f d=.string ⟨p.toArray⟩:=by
 have:=hD d hm;rw[e] at this;exact this
theorem Rk.t {l:List (List UInt8)} {n:Nat} (hD:∀ d' ∈ deps,(tab d').Is (f d') w) (d:Nat) (hm:d ∈ deps:=by simp) (e:tab d=.txt l n:=by rfl):∃ b,f d=.slice (some ⟨b,0,none⟩) n n∧Txts w (some ⟨b,0,none⟩) n (l.map fun n=>⟨n.toArray⟩):=by
 have:=hD d hm;rw[e] at this;exact this
theorem Rk.n {l:List Nat} {n:Nat} (hD:∀ d' ∈ deps,(tab d').Is (f d') w) (d:Nat) (hm:d ∈ deps:=by simp) (e:tab d=.nat l n:=by rfl):∃ b,f d=.slice (some ⟨b,0,none⟩) n n∧Nats w (some ⟨b,0,none⟩) n l:=by
 have:=hD d hm;rw[e] at this;exact this
theorem tq (l:List UInt8) (h:l.length≤1048576:=by omega):∃ p,p=Coder.tx l∧p.length≤1048586∧Hid ([l].flatMap Coder.tx=p)∧({ data:=p.toArray }:ByteArray).size=p.length :=
 ⟨_,rfl,by have:=Coder.tx_len l;omega,hid (by simp),Str.size_mk _⟩
section
variable {P:Program} {ops:Array Oper} {Q:Exit→Act→World→Prop} {md:Region.Mode} {S:World→Prop} {listed:Array Bool} {a:Act} {D:List Nat} {i d n:Nat} {l:List Nat} {o:Oper} {A:(Nat→Value)→Value→Act} {B:(Nat→Value)→Act} {p q:List UInt8} {lt:List (List UInt8)} {ln:List Nat} {x:Bool} {fuel:Nat} {w:World}
abbrev Sts (P:Program) (md:Region.Mode) (ops:Array Oper) (Q:Exit→Act→World→Prop) (S:World→Prop) (tab:Nat→Rk) (listed:Array Bool) (a:Act) (D l:List Nat):Prop:=Rely.Steps P md ops Q S (fun d=>(tab d).Is) listed a D l
abbrev Arm (P:Program) (ops:Array Oper) (Q:Exit→Act→World→Prop) (S:World→Prop) (k:Rk) (o:Oper) (a:Act) (A:Value→Act) (w:World):Prop:=∀ K':Act→World→Prop,Shut (∀ b v w',b=A v→k.Is v w'→S w'→Below w.heap.size w w'→K' b w')→if Region.wanted o (yielded ops a.tmps)=true then Oper.wp P o a w K' Q else K' (a.put o.dst undef) w
theorem rlT (hs:Sts P md ops Q S tab listed a D l) (ho:ops[i]?=some o:=by simp only[List.getElem?_toArray,List.getElem?_cons_succ,List.getElem?_cons_zero];rfl) (hd:o.dst=some d:=by rfl) (hB:∀ f,Rely.fillA a D f=B f:=by intro f;simp only[Rely.fillA,Rely.fill,Act.put,List.setIfInBounds_toArray,List.set_cons_zero,List.set_cons_succ];rfl) (hA:∀ f v,(B f).put (some d) v=A f v:=by intro f v;simp only[Act.put,List.setIfInBounds_toArray,List.set_cons_zero,List.set_cons_succ];rfl)
  (h:∀ f w,S w→Arm P ops Q S (tab d) o (B f) (A f) w:=by intro f wz gH K hK;go_simp;refine Rely.rA hK gH ⟨wz.heap.size,rfl,Coder.txts_here _ (by intro y hy;simp at hy;first | (subst hy;omega) | (rcases hy with rfl | rfl <;> omega)) rfl _ rfl (Below.refl 0 _)⟩ rfl):Sts P md ops Q S tab listed a D (i::l) :=
 Rely.st [] (fun f w s _=>h f w s) hs ho hd rfl hB hA
theorem rlN (hs:Sts P md ops Q S tab listed a D l) (ho:ops[i]?=some o:=by simp only[List.getElem?_toArray,List.getElem?_cons_succ,List.getElem?_cons_zero];rfl) (hd:o.dst=some d:=by rfl) (hB:∀ f,Rely.fillA a D f=B f:=by intro f;simp only[Rely.fillA,Rely.fill,Act.put,List.setIfInBounds_toArray,List.set_cons_zero,List.set_cons_succ];rfl) (hA:∀ f v,(B f).put (some d) v=A f v:=by intro f v;simp only[Act.put,List.setIfInBounds_toArray,List.set_cons_zero,List.set_cons_succ];rfl)
  (h:∀ f w,S w→Arm P ops Q S (tab d) o (B f) (A f) w:=by intro f wz gH K hK;go_simp;refine Rely.rA hK gH ⟨wz.heap.size,rfl,Coder.nats_here _ (by intro y hy;simp at hy;omega) rfl _ rfl (Below.refl 0 _)⟩ rfl):Sts P md ops Q S tab listed a D (i::l) :=
 Rely.st [] (fun f w s _=>h f w s) hs ho hd rfl hB hA
theorem rcT (d1:Nat) (r:Hid (lt.flatMap Coder.tx=p)) (hs:Sts P md ops Q S tab listed a D l) (e:tab d1=.txt lt n:=by rfl) (ho:ops[i]?=some o:=by simp only[List.getElem?_toArray,List.getElem?_cons_succ,List.getElem?_cons_zero];rfl) (hd:o.dst=some d:=by rfl) (hdep:Rely.depOk md ops listed o [d1]=true:=by kernel_rfl) (hB:∀ f,Rely.fillA a D f=B f:=by intro f;simp only[Rely.fillA,Rely.fill,Act.put,List.setIfInBounds_toArray,List.set_cons_zero,List.set_cons_succ];rfl) (hA:∀ f v,(B f).put (some d) v=A f v:=by intro f v;simp only[Act.put,List.setIfInBounds_toArray,List.set_cons_zero,List.set_cons_succ];rfl)
  (h:∀ f w,S w→∀ b,f d1=.slice (some ⟨b,0,none⟩) n n→Txts w (some ⟨b,0,none⟩) n (lt.map fun n=>⟨n.toArray⟩)→Hid (lt.flatMap Coder.tx=p)→Arm P ops Q S (tab d) o (B f) (A f) w:=by
   intro f wz gH b fb N r K hK;go_simp;go_at_call 98;refine cr (Coder.texts_w N _ r.out (by omega) (by omega)) fun w9 k9=>?_;go_wp2_with fail;refine Rely.rK hK gH k9 rfl (by first | rfl | rw[fb])):Sts P md ops Q S tab listed a D (i::l) :=
 Rely.st [d1] (fun f w s hD K hK=>by obtain ⟨b,g,N⟩:=Rk.t hD d1 (by simp) e;exact h f w s b g N r K hK) hs ho hd hdep hB hA
theorem rcN (d1:Nat) (r:Hid (cat ln=p)) (hs:Sts P md ops Q S tab listed a D l) (e:tab d1=.nat ln n:=by rfl) (ho:ops[i]?=some o:=by simp only[List.getElem?_toArray,List.getElem?_cons_succ,List.getElem?_cons_zero];rfl) (hd:o.dst=some d:=by rfl) (hdep:Rely.depOk md ops listed o [d1]=true:=by kernel_rfl) (hB:∀ f,Rely.fillA a D f=B f:=by intro f;simp only[Rely.fillA,Rely.fill,Act.put,List.setIfInBounds_toArray,List.set_cons_zero,List.set_cons_succ];rfl) (hA:∀ f v,(B f).put (some d) v=A f v:=by intro f v;simp only[Act.put,List.setIfInBounds_toArray,List.set_cons_zero,List.set_cons_succ];rfl)
  (h:∀ f w,S w→∀ b,f d1=.slice (some ⟨b,0,none⟩) n n→Nats w (some ⟨b,0,none⟩) n ln→Hid (cat ln=p)→Arm P ops Q S (tab d) o (B f) (A f) w:=by
   intro f wz gH b fb N r K hK;go_simp;go_at_call 130;refine cr (Coder.nums_w N (by omega) _ r.out) fun w9 k9=>?_;go_wp2_with fail;refine Rely.rK hK gH k9 rfl (by first | rfl | rw[fb])):Sts P md ops Q S tab listed a D (i::l) :=
 Rely.st [d1] (fun f w s hD K hK=>by obtain ⟨b,g,N⟩:=Rk.n hD d1 (by simp) e;exact h f w s b g N r K hK) hs ho hd hdep hB hA
theorem rcc (d1 d2:Nat) (hs:Sts P md ops Q S tab listed a D l) (e1:tab d1=.str p:=by rfl) (e2:tab d2=.str q:=by rfl) (ho:ops[i]?=some o:=by simp only[List.getElem?_toArray,List.getElem?_cons_succ,List.getElem?_cons_zero];rfl) (hd:o.dst=some d:=by rfl) (hdep:Rely.depOk md ops listed o [d1,d2]=true:=by kernel_rfl) (hB:∀ f,Rely.fillA a D f=B f:=by intro f;simp only[Rely.fillA,Rely.fill,Act.put,List.setIfInBounds_toArray,List.set_cons_zero,List.set_cons_succ];rfl) (hA:∀ f v,(B f).put (some d) v=A f v:=by intro f v;simp only[Act.put,List.setIfInBounds_toArray,List.set_cons_zero,List.set_cons_succ];rfl)
  (h:∀ f w,S w→f d1=.string ⟨p.toArray⟩→f d2=.string ⟨q.toArray⟩→Arm P ops Q S (tab d) o (B f) (A f) w:=by
   intro f wz gH f1 f2 K hK;go_simp;refine hK.out _ _ _ (by first | rfl | rw[f1,f2]) rfl gH (Below.refl _ _)):Sts P md ops Q S tab listed a D (i::l) :=
 Rely.st [d1,d2] (fun f w s hD K hK=>h f w s (Rk.s hD d1 (by simp) e1) (Rk.s hD d2 (by simp) e2) K hK) hs ho hd hdep hB hA
theorem rcR (d1:Nat) (hs:Sts P md ops Q S tab listed a D l) (e1:tab d1=.str p:=by rfl) (ho:ops[i]?=some o:=by simp only[List.getElem?_toArray,List.getElem?_cons_succ,List.getElem?_cons_zero];rfl) (hd:o.dst=some d:=by rfl) (hdep:Rely.depOk md ops listed o [d1]=true:=by kernel_rfl) (hB:∀ f,Rely.fillA a D f=B f:=by intro f;simp only[Rely.fillA,Rely.fill,Act.put,List.setIfInBounds_toArray,List.set_cons_zero,List.set_cons_succ];rfl) (hA:∀ f v,(B f).put (some d) v=A f v:=by intro f v;simp only[Act.put,List.setIfInBounds_toArray,List.set_cons_zero,List.set_cons_succ];rfl)
  (h:∀ f w,S w→f d1=.string ⟨p.toArray⟩→Arm P ops Q S (tab d) o (B f) (A f) w:=by
   intro f wz gH f1 K hK;go_simp;refine hK.out _ _ _ (by first | rfl | rw[f1]) rfl gH (Below.refl _ _)):Sts P md ops Q S tab listed a D (i::l) :=
 Rely.st [d1] (fun f w s hD K hK=>h f w s (Rk.s hD d1 (by simp) e1) K hK) hs ho hd hdep hB hA
theorem Rk.go (tab:Nat→Rk) (D l:List Nat) (hS:S w) (hs:Sts P md ops Q S tab listed a D l)
  (fin:∀ f w,S w→(∀ d ∈ D,(∃ i o,ops[i]?=some o∧listed.getD i true=false∧o.dst=some d)→(tab d).Is (f d) w)→Q .normal (Rely.fillA a D f) w)
  (hok:Rely.ok ops listed D fuel=true:=by kernel_rfl) (hl:Rely.un ops listed=l:=by kernel_rfl):wpAnyH P md ops Q S fuel listed a w :=
 Rely.go (fun d=>(tab d).Is) D l (fun _ _ _ _ h k=>Rk.keep h k) hS hs fin hok hl
theorem Rk.e {f:Nat→Value} (hR:∀ d ∈ D,(∃ i o,ops[i]?=some o∧listed.getD i true=false∧o.dst=some d)→(tab d).Is (f d) w) (d i:Nat) (ho:ops[i]?=some o:=by simp only[List.getElem?_toArray,List.getElem?_cons_succ,List.getElem?_cons_zero];rfl) (hd:o.dst=some d:=by rfl) (hl:listed.getD i true=false:=by kernel_rfl) (hm:d ∈ D:=by simp) (e:tab d=.str p:=by rfl):f d=.string ⟨p.toArray⟩:=by
 have:=hR d hm ⟨i,o,ho,hl,hd⟩;rw[e] at this;exact this
end
end
namespace Coder
open RowKit YtnpjkmomllkhpaaGreatDoor.Mark Num Wire
structure O.Ok (x:O):Prop where
 d:x.d≤255
 k:x.k.length≤1048576
 n : -9223372036854775808≤x.n∧x.n≤9223372036854775807
 t:x.t.length≤1048576
theorem op_any (x:O) (w:World) (ok:x.Ok) :
  CB 60 #[.agg x] w (opb x):=by
 have hb:=Below.refl w.heap.size w;have ok1:=ok.d;have ok2:=ok.k;have ok3:=ok.t;have OK:=hid ok;have tb:=turn_bound x.n ok.n.1 ok.n.2;clear ok;have w8:IntKind.u64.wrap (x.d:Int)=(x.d:Int):=by rw[IntKind.wrap_u64];omega
 obtain ⟨q,hq⟩:=nm ((turn x.n).toNat);have hq2:turn x.n=(q:Int):=by omega
 have hq3:q≤18446744073709551615:=by omega
 have TU:=hid (fun W=>(by rw[← hq2];exact turn_any x.n W OK.out.n.1 OK.out.n.2:CP 140 #[.int .i64 x.n] W (.int .u64 (q:Nat))));obtain ⟨p0,hp0⟩:=nm (upL x.d);obtain ⟨p1,hp1⟩:=nm (tx x.k);obtain ⟨p2,hp2⟩:=nm (upL q);obtain ⟨p3,hp3⟩:=nm (tx x.t);have b0:p0.length≤1048586:=by rw[hp0];have:=up_len x.d;omega
 have b1:p1.length≤1048586:=by rw[hp1];have:=tx_len x.k;omega
 have b2:p2.length≤1048586:=by rw[hp2];have:=up_len q;omega
 have b3:p3.length≤1048586:=by rw[hp3];have:=tx_len x.t;omega
 have R0:Hid (cat [x.d]=p0):=hid (by rw[hp0];simp[cat]);have R1:Hid ([x.k].flatMap tx=p1):=hid (by rw[hp1];simp);have R2:Hid (cat [q]=p2):=hid (by rw[hp2];simp[cat]);have R3:Hid ([x.t].flatMap tx=p3):=hid (by rw[hp3];simp);have z0:=Str.size_mk p0;have z1:=Str.size_mk p1;have z2:=Str.size_mk p2;have z3:=Str.size_mk p3;obtain ⟨C1,hC1,lC1,aC1,zC1,nC1,mC1⟩:=apd p0 p1 (by omega);obtain ⟨C2,hC2,lC2,aC2,zC2,nC2,mC2⟩:=apd C1 p2 (by omega);obtain ⟨C3,hC3,lC3,aC3,zC3,nC3,mC3⟩:=apd C2 p3 (by omega);have HV:Hid (opb x=C3):=hid (by rw[hC3,hC2,hC1,hp0,hp1,hp2,hp3,hq];rfl);replace hC1:=hid hC1;replace lC1:=hid lC1;replace hC2:=hid hC2;replace lC2:=hid lC2;replace hC3:=hid hC3;replace lC3:=hid lC3;clear hp0 hp1 hp2 hp3 hq hq2 tb;obtain ⟨X0,X1,X2,X3⟩:=al4 (fun i v h=>hid (bx w x 38 i v h));go_enter Tryz.func60,Tryz.ntmps60;go_wp2_with fail
 replace hb:=bstep hb (balloc (Below.refl _ _) (.cells x 38));have x0:=X0.out;have x1:=X1.out;have x2:=X2.out;have x3:=X3.out;clear X0 X1 X2 X3;refine rh (aj5 hb x0 x1 x2 x3) fun wd gH=>?_;refine tk [0,1,2,5,6,10,11,16,17] ?_;refine Rk.go (fun d=>match d with | 6=>.nat [x.d] 1 | 7=>.str p0 | 10=>.txt [x.k] 1 | 11=>.str p1 | 12=>.str C1 | 15=>.val (.int .u64 (q:Int)) | 16=>.nat [q] 1 | 17=>.str p2 | 18=>.str C2 | 21=>.txt [x.t] 1 | 22=>.str p3 | 23=>.str C3 | 2=>.str C3 | _=>.any) [6,7,10,11,12,15,16,17,18,21,22,23,2] [3,4,7,8,9,12,13,14,15,18,19,20,21] gH ?_ (fun f wz gH hR=>?_)
 ·
  refine rlN ?_;refine rcN 6 R0 ?_;refine rlT ?_;refine rcT 10 R1 ?_;refine rcc 7 11 ?_;refine Rely.st [11] (fun f wz gH hD K hK=>?_) ?_
  ·
   go_simp;go_at_call 140;refine cp (TU.out _) ?_;go_wp2_with fail
   refine hK.out _ _ _ (by first | rfl | rfl) rfl gH (Below.refl _ _)
  refine Rely.Steps.cons [15] (fun f wz gH hD K hK=>?_) ?_
  ·
   have f15:f 15=.int .u64 (q:Int):=hD 15 (by simp);simp only[Rely.fillA,Rely.fill,Act.put,List.setIfInBounds_toArray,List.set_cons_zero,List.set_cons_succ] at hK ⊢;go_simp;refine Rely.rA hK gH ⟨wz.heap.size,rfl,nats_here [q] (by intro y hy;simp at hy;omega) rfl 1 rfl (Below.refl 0 _)⟩ (by first | rfl | rw[f15])
  refine rcN 16 R2 ?_;refine rcc 12 17 ?_;refine rlT ?_;refine rcT 21 R3 ?_;refine rcc 18 22 ?_;refine rcR 23 ?_;exact Rely.Steps.nil
 have f12:=Rk.e hR 12 9;have f15:f 15=.int .u64 (q:Int):=hR 15 (by simp) ⟨12,_,by simp only[List.getElem?_toArray,List.getElem?_cons_succ,List.getElem?_cons_zero];rfl,by kernel_rfl,rfl⟩;have f2:=Rk.e hR 2 21;simp only[Rely.fillA,Rely.fill,List.setIfInBounds_toArray,List.set_cons_zero,List.set_cons_succ,f12,f15,f2];refine NoPanic.normal ?_;clear hb x0 x1 x2 x3 hR f12 f15 f2;obtain ⟨hb,x0,x1,x2,x3⟩:=gH;go_wp2;go_ret;exact ⟨by rw[HV.out];rfl,hb⟩
end Coder
section
open RowKit
def Bx (w:World) (b:Nat) (l:List Value):Prop:=∀ (j:Nat) (v:Value),l[j]?=some v→w.cell? ⟨b,j,none⟩=some v
theorem Bx.below {w w':World} {b:Nat} {l:List Value} (h:Bx w b l) (k:Below w.heap.size w w'):Bx w' b l:=fun j v hv=>Coder.keepC (h j v hv) k
instance {b : Nat} {l : List Value} : Kept (fun w => Bx w b l) := ⟨fun k h => Bx.below h k⟩
instance {w : World} {b : Nat} {l : List Value} : Hd w (Bx w b l) (fun w => Bx w b l) := ⟨id⟩
theorem Bx.new (w:World) (l:List Value) (T:TypeId):Bx (w.alloc (.cells l.toArray T)) w.heap.size l:=fun j v hv=>Coder.box_cells w l.toArray T j v (by simpa using hv)
end
end Go.Proofs.YtnpjkmomllkhpaaGreatDoor
