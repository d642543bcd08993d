/- CoderTake, RefTake. -/
import Derived.Test.YtnpjkmomllkhpaaGreatDoorTn4
import Derived.Test.YtnpjkmomllkhpaaGreatDoorTn9
set_option linter.unusedVariables false
set_option linter.unusedSimpArgs false
set_option maxRecDepth 100000
set_option maxHeartbeats 4000000
namespace Go.Proofs.YtnpjkmomllkhpaaGreatDoor
namespace Taker
open RowKit YtnpjkmomllkhpaaGreatDoor.Mark Num Wire Bag Coder
def Box (w:World) (b:Nat) (vs:List Value):Prop:=b<w.heap.size∧(∀ j v,vs[j]?=some v→w.cell? ⟨b,j,none⟩=some v)∧∀ j,w.frozen? ⟨b,j,none⟩=false
theorem Box.at {w:World} {b:Nat} {vs:List Value} (h:Box w b vs) (j:Nat) (v:Value) (e:vs[j]?=some v):w.cell? ⟨b,j,none⟩=some v:=h.2.1 j v e
theorem Box.new (w:World) (vs:List Value) (T:TypeId) (_h:vs≠[]):Box (w.alloc (.cells vs.toArray T)) w.heap.size vs:=by
 refine ⟨by rw[World.size_alloc];omega,fun j v hv=>?_,fun j=>World.frozen?_alloc_at _ _ _ _ rfl⟩;rw[World.cell?_alloc_at _ _ _ j rfl,List.getElem?_toArray];exact hv
theorem Box.below {w w':World} {b:Nat} {vs:List Value} (h:Box w b vs) (k:Below w.heap.size w w'):Box w' b vs :=
 ⟨Nat.lt_of_lt_of_le h.1 k.size,fun j v hv=>(k.cell (p:=⟨b,j,none⟩) h.1).trans (h.2.1 j v hv),fun j=>(k.frozen (p:=⟨b,j,none⟩) h.1).trans (h.2.2 j)⟩
theorem Box.alloc {w:World} {b:Nat} {vs:List Value} (h:Box w b vs) (o:Obj):Box (w.alloc o) b vs:=h.below (balloc (Below.refl _ _) o)
theorem Box.but {w w':World} {b c:Nat} {vs:List Value} (h:Box w b vs) (k:But c w w') (hb:b≠c):Box w' b vs :=
 ⟨Nat.lt_of_lt_of_le h.1 k.size,fun j v hv=>(k.cell (p:=⟨b,j,none⟩) h.1 hb).trans (h.2.1 j v hv),fun j=>(k.frozen (p:=⟨b,j,none⟩) h.1 hb).trans (h.2.2 j)⟩
theorem Box.put {w:World} {b c:Nat} {vs:List Value} (h:Box w b vs) (hc:c≠b) (i:Nat) (u:Value):Box (w.setCell ⟨c,i,none⟩ u) b vs :=
 ⟨by rw[World.size_setCell];exact h.1,fun j v hv=>by rw[World.cell?_setCell_other _ _ _ _ (fun q=>hc (congrArg Addr.block q))];exact h.2.1 j v hv,fun j=>by rw[World.frozen?_setCell];exact h.2.2 j⟩
theorem Box.set {w:World} {b:Nat} {vs:List Value} (h:Box w b vs) (i:Nat) (u:Value) (hi:i<vs.length) {vs':List Value} (hv:vs'=vs.set i u):Box (w.setCell ⟨b,i,none⟩ u) b vs':=by
 subst hv;refine ⟨by rw[World.size_setCell];exact h.1,fun j v hv=>?_,fun j=>by rw[World.frozen?_setCell];exact h.2.2 j⟩;by_cases e:i=j
 ·subst e;rw[List.getElem?_set_self hi] at hv;rw[← hv];exact World.cell?_setCell_same _ _ _ (h.2.1 i _ (List.getElem?_eq_getElem hi))
 rw[List.getElem?_set_ne e] at hv;rw[World.cell?_setCell_other _ _ _ _ (fun q=>e (congrArg Addr.off q))];exact h.2.1 j v hv
theorem rd_put {w:World} {b c:Nat} {l:List UInt8} {E:Int} (h:Rd w b l E) (hc:c≠b) (i:Nat) (u:Value):Rd (w.setCell ⟨c,i,none⟩ u) b l E:=by
 obtain ⟨h1,h2,h3,h4,h5,h6⟩:=h;exact ⟨by rw[World.cell?_setCell_other _ _ _ _ (fun q=>hc (congrArg Addr.block q))];exact h1,by rw[World.cell?_setCell_other _ _ _ _ (fun q=>hc (congrArg Addr.block q))];exact h2,by rw[World.cell?_setCell_other _ _ _ _ (fun q=>hc (congrArg Addr.block q))];exact h3,by rw[World.frozen?_setCell];exact h4,by rw[World.frozen?_setCell];exact h5,h6⟩
def bindR {α β:Type} (p:α × List UInt8 × Int) (f:α→List UInt8→Int→β × List UInt8 × Int):β × List UInt8 × Int:=f p.1 p.2.1 p.2.2
def wordS (l:List UInt8) (E:Int):List UInt8 × List UInt8 × Int:=textS 65536 l E
def natS (l:List UInt8) (E:Int):Nat × List UInt8 × Int:=((numS 18446744073709551615 l E).1.toNat,(numS 18446744073709551615 l E).2)
def smallS (l:List UInt8) (E:Int):Nat × List UInt8 × Int:=((numS 255 l E).1.toNat,(numS 255 l E).2)
def truthS (l:List UInt8) (E:Int):Bool × List UInt8 × Int:=boolS l E
theorem nat_of {most:Int} (h0:0≤most) {l l':List UInt8} {E E':Int} {n:Nat} (h:((numS most l E).1.toNat,(numS most l E).2)=(n,l',E')):numS most l E=((n:Int),l',E')∧(n:Int)≤most:=by
 obtain ⟨m,p,q,e⟩:∃ m p q,numS most l E=(m,p,q):=⟨_,_,_,rfl⟩
 have hb:=numS_le e h0;rw[e] at h ⊢;simp only[Prod.mk.injEq] at h;obtain ⟨h1,h2,h3⟩:=h;subst h2;subst h3;have:(n:Int)=m:=by omega
 exact ⟨by rw[this],by omega⟩
theorem word_any (b:Nat) (l:List UInt8) (E:Int) (w:World) (h:Rd w b l E) (x:List UInt8) (l':List UInt8) (E':Int) (hn:wordS l E=(x,l',E')) :
  Calls Tryz.prog 146 #[.agg #[.pointer (some ⟨b,0,none⟩)]] w fun e w'=>e=.returned (.string ⟨x.toArray⟩)∧Rd w' b l' E'∧But b w w':=by
 have C:=hid (text_any b l E 65536 (by decide) (by decide) (w.alloc (.cells #[.pointer (some ⟨b,0,none⟩)] 124)) (h.alloc _) x l' E' hn);have K:=hid ((But.refl b w).alloc (.cells #[.pointer (some ⟨b,0,none⟩)] 124));go_enter Tryz.func146,Tryz.ntmps146;go_wp2_with fail
 refine C.out.mono ?_;rintro e w1 ⟨rfl,r,k⟩;replace K:=hid (K.out.trans k);clear k;go_wp2;go_ret;exact ⟨rfl,r,K.out⟩
theorem nat_any (b:Nat) (l:List UInt8) (E:Int) (w:World) (h:Rd w b l E) (x:Nat) (l':List UInt8) (E':Int) (hn:natS l E=(x,l',E')) :
  Calls Tryz.prog 163 #[.agg #[.pointer (some ⟨b,0,none⟩)]] w fun e w'=>e=.returned (.int .u64 (x:Nat))∧Rd w' b l' E'∧But b w w':=by
 have C:=hid (num_any b l E 18446744073709551615 (w.alloc (.cells #[.pointer (some ⟨b,0,none⟩)] 124)) (h.alloc _) (x:Int) l' E' (nat_of (by decide) hn).1);have K:=hid ((But.refl b w).alloc (.cells #[.pointer (some ⟨b,0,none⟩)] 124));go_enter Tryz.func163,Tryz.ntmps163;go_wp2_with fail
 refine C.out.mono ?_;rintro e w1 ⟨rfl,r,k⟩;replace K:=hid (K.out.trans k);clear k;go_wp2;go_ret;exact ⟨rfl,r,K.out⟩
theorem small_any (b:Nat) (l:List UInt8) (E:Int) (w:World) (h:Rd w b l E) (x:Nat) (l':List UInt8) (E':Int) (hn:smallS l E=(x,l',E')) :
  Calls Tryz.prog 161 #[.agg #[.pointer (some ⟨b,0,none⟩)]] w fun e w'=>e=.returned (.int .u8 (x:Nat))∧Rd w' b l' E'∧But b w w':=by
 have C:=hid (num_any b l E 255 (w.alloc (.cells #[.pointer (some ⟨b,0,none⟩)] 124)) (h.alloc _) (x:Int) l' E' (nat_of (by decide) hn).1);have K:=hid ((But.refl b w).alloc (.cells #[.pointer (some ⟨b,0,none⟩)] 124));have w8:IntKind.u8.wrap (x:Int)=(x:Int):=by have:=(nat_of (by decide) hn).2;rw[IntKind.wrap_u8];omega
 clear hn;go_enter Tryz.func161,Tryz.ntmps161;go_wp2_with fail
 refine C.out.mono ?_;rintro e w1 ⟨rfl,r,k⟩;replace K:=hid (K.out.trans k);clear k;go_wp2;go_ret;exact ⟨rfl,r,K.out⟩
structure Tk (w0 w:World) (b bp br:Nat) (l:List UInt8) (E:Int) (vs:List Value):Prop where
 p:Box w bp [.pointer (some ⟨b,0,none⟩)]
 s:Box w br vs
 r:Rd w b l E
 k:But b w0 w
 n:bp≠b∧br≠b∧br≠bp∧w0.heap.size≤br∧b<br+1∧w0.heap.size≤br+1
structure Te (w0 w1 w:World) (b br:Nat) (l:List UInt8) (E:Int):Prop where
 r:Rd w b l E
 k:But b w0 w
 o:But br w1 w
 n:br≠b∧w0.heap.size≤br
section
variable {w0 w w1:World} {b bp br:Nat} {l l1:List UInt8} {E E1:Int} {vs:List Value}
theorem Tk.new (h:Rd w b l E) (vs:List Value) (T:TypeId) (hv:vs≠[]:=by simp):∃ bp br W,bp=w.heap.size∧br=w.heap.size+1∧W=(w.alloc (.cells #[.pointer (some ⟨b,0,none⟩)] 124)).alloc (.cells vs.toArray T)∧Hid (Tk w W b bp br l E vs):=by
 have hlt:=h.lt;refine ⟨_,_,_,rfl,rfl,rfl,(Box.new w [.pointer (some ⟨b,0,none⟩)] 124 (by simp)).alloc _,?_,(h.alloc _).alloc _,((But.refl b w).alloc _).alloc _,by omega⟩;have q:=Box.new (w.alloc (.cells #[.pointer (some ⟨b,0,none⟩)] 124)) vs T hv;rw[World.size_alloc] at q;exact q
theorem Tk.go (h:Tk w0 w b bp br l E vs) (r:Rd w1 b l1 E1) (k:But b w w1) (j:Nat) {v:Value} (e:vs[j]?=some v:=by rfl):Hid (Tk w0 w1 b bp br l1 E1 vs)∧w1.cell? ⟨bp,0,none⟩=some (.pointer (some ⟨b,0,none⟩))∧w1.cell? ⟨br,j,none⟩=some v∧w1.frozen? ⟨br,j,none⟩=false :=
 ⟨⟨h.p.but k h.n.1,h.s.but k h.n.2.1,r,h.k.trans k,h.n⟩,(h.p.but k h.n.1).at 0 _ rfl,(h.s.but k h.n.2.1).at j v e,(h.s.but k h.n.2.1).2.2 j⟩
theorem Tk.put (h:Tk w0 w b bp br l E vs) (j:Nat) (v:Value) (hj:j<vs.length:=by simp):∃ w2,w2=w.setCell ⟨br,j,none⟩ v∧Hid (Tk w0 w2 b bp br l E (vs.set j v)) :=
 ⟨_,rfl,h.p.put h.n.2.2.1 j v,h.s.set j v hj rfl,rd_put h.r h.n.2.1 j v,h.k.put ⟨br,j,none⟩ h.n.2.2.2.1 v,h.n⟩
theorem bsetB {w2:World} {j:Nat} {v:Value} (h:w2=w.setCell ⟨br,j,none⟩ v):But br w w2:=by rw[h];exact (But.refl br w).set ⟨br,j,none⟩ rfl v
theorem Tk.e (h:Tk w0 w b bp br l E vs):Te w0 w w b br l E:=⟨h.r,h.k,But.refl _ _,h.n.2.1,h.n.2.2.2.1⟩
theorem Te.put (h:Te w0 w1 w b br l E) (j:Nat) (v:Value):Te w0 w1 (w.setCell ⟨br,j,none⟩ v) b br l E:=⟨rd_put h.r h.n.1 j v,h.k.put ⟨br,j,none⟩ h.n.2 v,h.o.set ⟨br,j,none⟩ rfl v,h.n⟩
end
def markS (l:List UInt8) (E:Int):M × List UInt8 × Int:=bindR (wordS l E) fun x0 l0 E0=>bindR (natS l0 E0) fun x1 l1 E1=>((⟨x0,x1⟩:M),l1,E1)
theorem mark_any (b:Nat) (l:List UInt8) (E:Int) (w:World) (h:Rd w b l E) (x:M) (l':List UInt8) (E':Int) (hn:markS l E=(x,l',E')) :
  Calls Tryz.prog 148 #[.agg #[.pointer (some ⟨b,0,none⟩)]] w fun e w'=>e=.returned (.agg x)∧Rd w' b l' E'∧But b w w':=by
 obtain ⟨x0,l0,E0,q0⟩:=tr (wordS l E);obtain ⟨x1,l1,E1,q1⟩:=tr (natS l0 E0);simp only[markS,bindR,q0,q1,Prod.mk.injEq] at hn;obtain ⟨rfl,rfl,rfl⟩:=hn;replace q0:=hid q0;replace q1:=hid q1;go_enter Tryz.func148,Tryz.ntmps148;go_upto_region 1 with (fail)
 obtain ⟨bp,br,W,hbp,hbr,hW,G⟩:=Tk.new h [.string ⟨#[]⟩,.int .u64 0] 96;rw[← hW,← hbr,← hbp];clear hW hbr hbp h;have p0:=G.out.p.at 0 _ rfl;go_wp2_with fail
 refine (word_any b _ _ _ G.out.r _ _ _ q0.out).mono ?_;rintro e w1 ⟨rfl,R1,k1⟩;obtain ⟨H,p1,c0,z0⟩:=G.out.go R1 k1 0;clear G p0 k1 R1;go_upto_region 2 with (fail)
 obtain ⟨w2,hw2,G⟩:=H.out.put 0 x0;rw[← hw2];clear H hw2 p1 c0 z0;have p0:=G.out.p.at 0 _ rfl;go_wp2_with fail
 refine (nat_any b _ _ _ G.out.r _ _ _ q1.out).mono ?_;rintro e w1 ⟨rfl,R1,k1⟩;obtain ⟨H,p1,c1,z1⟩:=G.out.go R1 k1 1;clear G p0 k1 R1;go_upto_region 3 with (fail)
 obtain ⟨w2,hw2,G⟩:=H.out.put 1 x1;rw[← hw2];clear H hw2 p1 c1 z1;obtain ⟨c0,c1⟩:=al2 G.out.s.at;have z:=G.out.s.2.2;go_wp2;refine bodyPost_ret (v:=.agg #[x0,x1]) (by simp[results,Tryz.results148,go_sem,c0,c1]) rfl ?_;exact ⟨rfl,((G.out.e.put 0 _).put 1 _).r,((G.out.e.put 0 _).put 1 _).k⟩
def dotS (l:List UInt8) (E:Int):M × List UInt8 × Int:=bindR (wordS l E) fun x0 l0 E0=>bindR (natS l0 E0) fun x1 l1 E1=>((⟨x0,x1⟩:M),l1,E1)
theorem dot_any (b:Nat) (l:List UInt8) (E:Int) (w:World) (h:Rd w b l E) (x:M) (l':List UInt8) (E':Int) (hn:dotS l E=(x,l',E')) :
  Calls Tryz.prog 214 #[.agg #[.pointer (some ⟨b,0,none⟩)]] w fun e w'=>e=.returned (.agg x)∧Rd w' b l' E'∧But b w w':=by
 obtain ⟨x0,l0,E0,q0⟩:=tr (wordS l E);obtain ⟨x1,l1,E1,q1⟩:=tr (natS l0 E0);simp only[dotS,bindR,q0,q1,Prod.mk.injEq] at hn;obtain ⟨rfl,rfl,rfl⟩:=hn;replace q0:=hid q0;replace q1:=hid q1;go_enter Tryz.func214,Tryz.ntmps214;go_upto_region 1 with (fail)
 obtain ⟨bp,br,W,hbp,hbr,hW,G⟩:=Tk.new h [.string ⟨#[]⟩,.int .u64 0] 167;rw[← hW,← hbr,← hbp];clear hW hbr hbp h;have p0:=G.out.p.at 0 _ rfl;go_wp2_with fail
 refine (word_any b _ _ _ G.out.r _ _ _ q0.out).mono ?_;rintro e w1 ⟨rfl,R1,k1⟩;obtain ⟨H,p1,c0,z0⟩:=G.out.go R1 k1 0;clear G p0 k1 R1;go_upto_region 2 with (fail)
 obtain ⟨w2,hw2,G⟩:=H.out.put 0 x0;rw[← hw2];clear H hw2 p1 c0 z0;have p0:=G.out.p.at 0 _ rfl;go_wp2_with fail
 refine (nat_any b _ _ _ G.out.r _ _ _ q1.out).mono ?_;rintro e w1 ⟨rfl,R1,k1⟩;obtain ⟨H,p1,c1,z1⟩:=G.out.go R1 k1 1;clear G p0 k1 R1;go_upto_region 3 with (fail)
 obtain ⟨w2,hw2,G⟩:=H.out.put 1 x1;rw[← hw2];clear H hw2 p1 c1 z1;obtain ⟨c0,c1⟩:=al2 G.out.s.at;have z:=G.out.s.2.2;go_wp2;refine bodyPost_ret (v:=.agg #[x0,x1]) (by simp[results,Tryz.results214,go_sem,c0,c1]) rfl ?_;exact ⟨rfl,((G.out.e.put 0 _).put 1 _).r,((G.out.e.put 0 _).put 1 _).k⟩
def countS (l:List UInt8) (E:Int):C × List UInt8 × Int:=bindR (wordS l E) fun x0 l0 E0=>bindR (natS l0 E0) fun x1 l1 E1=>bindR (natS l1 E1) fun x2 l2 E2=>((⟨x0,x1,x2⟩:C),l2,E2)
theorem count_any (b:Nat) (l:List UInt8) (E:Int) (w:World) (h:Rd w b l E) (x:C) (l':List UInt8) (E':Int) (hn:countS l E=(x,l',E')) :
  Calls Tryz.prog 150 #[.agg #[.pointer (some ⟨b,0,none⟩)]] w fun e w'=>e=.returned (.agg x)∧Rd w' b l' E'∧But b w w':=by
 obtain ⟨x0,l0,E0,q0⟩:=tr (wordS l E);obtain ⟨x1,l1,E1,q1⟩:=tr (natS l0 E0);obtain ⟨x2,l2,E2,q2⟩:=tr (natS l1 E1);simp only[countS,bindR,q0,q1,q2,Prod.mk.injEq] at hn;obtain ⟨rfl,rfl,rfl⟩:=hn;replace q0:=hid q0;replace q1:=hid q1;replace q2:=hid q2;go_enter Tryz.func150,Tryz.ntmps150;go_upto_region 1 with (fail)
 obtain ⟨bp,br,W,hbp,hbr,hW,G⟩:=Tk.new h [.string ⟨#[]⟩,.int .u64 0,.int .u64 0] 98;rw[← hW,← hbr,← hbp];clear hW hbr hbp h;have p0:=G.out.p.at 0 _ rfl;go_wp2_with fail
 refine (word_any b _ _ _ G.out.r _ _ _ q0.out).mono ?_;rintro e w1 ⟨rfl,R1,k1⟩;obtain ⟨H,p1,c0,z0⟩:=G.out.go R1 k1 0;clear G p0 k1 R1;go_upto_region 2 with (fail)
 obtain ⟨w2,hw2,G⟩:=H.out.put 0 x0;rw[← hw2];clear H hw2 p1 c0 z0;have p0:=G.out.p.at 0 _ rfl;go_wp2_with fail
 refine (nat_any b _ _ _ G.out.r _ _ _ q1.out).mono ?_;rintro e w1 ⟨rfl,R1,k1⟩;obtain ⟨H,p1,c1,z1⟩:=G.out.go R1 k1 1;clear G p0 k1 R1;go_upto_region 3 with (fail)
 obtain ⟨w2,hw2,G⟩:=H.out.put 1 x1;rw[← hw2];clear H hw2 p1 c1 z1;have p0:=G.out.p.at 0 _ rfl;go_wp2_with fail
 refine (nat_any b _ _ _ G.out.r _ _ _ q2.out).mono ?_;rintro e w1 ⟨rfl,R1,k1⟩;obtain ⟨H,p1,c2,z2⟩:=G.out.go R1 k1 2;clear G p0 k1 R1;go_upto_region 4 with (fail)
 obtain ⟨w2,hw2,G⟩:=H.out.put 2 x2;rw[← hw2];clear H hw2 p1 c2 z2;obtain ⟨c0,c1,c2⟩:=al3 G.out.s.at;have z:=G.out.s.2.2;go_wp2;refine bodyPost_ret (v:=.agg #[x0,x1,x2]) (by simp[results,Tryz.results150,go_sem,c0,c1,c2]) rfl ?_;exact ⟨rfl,(((G.out.e.put 0 _).put 1 _).put 2 _).r,(((G.out.e.put 0 _).put 1 _).put 2 _).k⟩
end Taker
namespace RTake
open RowKit Num Wire Coder Taker RefRd
theorem at_s (s:ByteArray) (k:Nat) (h:k<s.size):s.data.toList.getD k 0=s[k]:=by
 rw[List.getD_eq_getElem?_getD,List.getElem?_eq_getElem (by simpa using h)];rfl
theorem read_s (s:ByteArray) (w:World) (hs:s.size≤65536) :
  CP 164 #[.string s] w (.tuple #[.int .u64 ((rdR s.data.toList).1:Int),.int .i64 ((rdR s.data.toList).2.1:Int),.int .i64 (rdR s.data.toList).2.2]):=by
 obtain ⟨r,hr⟩:=nm (rdR s.data.toList);have hL:s.data.toList.length=s.size:=by simp
 have h1:=hi_le s.data.toList 10;have h2:∀ i (h:i<s.size),i<hiN s.data.toList 10→128≤s[i].toNat:=fun i h q=>by rw[← at_s s i h];exact hi_at _ _ _ q
 have h3:∀ (h:hiN s.data.toList 10<s.size),hiN s.data.toList 10<10→s[hiN s.data.toList 10].toNat<128:=fun h q=>by rw[← at_s s _ h];exact hi_end _ _ (by rw[hL];exact h) q
 unfold rdR at hr;rw[hL] at h1 hr;rw[show rdR s.data.toList=r from by rw[hr];unfold rdR;rw[hL]];obtain ⟨K,hK⟩:=nm (hiN s.data.toList 10);rw[← hK] at h1 hr;have h3':∀ (h:K<s.size),K<10→s[K].toNat<128:=by subst hK;exact h3
 rw[← hK] at h2;have HR:=hid hr;have H2:=hid h2;have H3:=hid h3';clear hr h2 h3 h3' hK hL;obtain ⟨hK1,hK2⟩:=h1;go_enter Tryz.func164,Tryz.ntmps164;go_wp2_with fail
 go_loop [5] (fun kv=>∃ k:Nat,k≤K∧kv=.int .i64 k) (fun kv=>10 - (intOf kv).toNat)
 case atStart=>exact ⟨0,by omega,rfl⟩
 obtain ⟨k,hk,rfl⟩:=hrel;by_cases hlt:k<K
 ·have q0:k<s.size:=by omega
  have d1:=dT (p:=(k:Int)<(s.size:Int));have d2:=dT (p:=(k:Int)<10);have d3:decide ((128:Int)≤(s[k].toNat:Int))=true:=dT (by have:=H2.out k q0 hlt;omega);go_wp2;exact ⟨⟨k+1,by omega,by go_num⟩,by simp[intOf];omega⟩
 obtain rfl:k=K:=by omega
 clear hk hlt H2;have j0:IntKind.i64.wrap ((k:Int)+1)=(k:Int)+1:=by rw[Str.wrap_i64];omega
 by_cases h10:k=10
 ·have d2:decide ((k:Int)<10)=false:=dF;have d4:=bT (a:=k) (b:=10);have HE:Hid (r=(0,0,9)):=hid (by rw[HR.out,if_pos h10]);by_cases hlt:k<s.size
  ·have d1:decide ((k:Int)<(s.size:Int))=true:=dT;clear HR H3 h10;go_wp2;go_ret3;exact ⟨by rw[HE.out];rfl,rfl⟩
  have d1:=dF (p:=(k:Int)<(s.size:Int));clear HR H3 h10;go_wp2;go_ret3;exact ⟨by rw[HE.out];rfl,rfl⟩
 have d4:=bF (a:=k) (b:=10);by_cases hlt:k<s.size;rotate_left
 ·have d1:decide ((k:Int)<(s.size:Int))=false:=dF;have d5:((k:Int) == (s.size:Int))=true:=bT;have HE:Hid (r=(0,0,20)):=hid (by rw[HR.out,if_neg h10,if_pos (by omega)]);clear HR H3 h10;go_wp2;go_ret3;exact ⟨by rw[HE.out];rfl,rfl⟩
 have d1:=dT (p:=(k:Int)<(s.size:Int));have d2:=dT (p:=(k:Int)<10);have h3:=H3.out hlt (by omega);have d3:=dF (p:=(128:Int)≤(s[k].toNat:Int));have d5:((k:Int) == (s.size:Int))=false:=bF;have HE:Hid (r=match vl s.data.toList (k+1) 0 with
  | none=>(0,0,9)
  | some n=>if 0<k∧s[k].toNat=0 then (0,0,8) else (n,k+1,0)):=hid (by rw[HR.out,if_neg h10,if_neg (by omega),at_s s k hlt];rfl)
 clear HR H3 h10 h3;go_wp2_with fail
 go_loop [6,7] (fun nv iv=>∃ (j m:Nat) (x:Int),j≤k+1∧nv=.int .u64 m∧m≤18446744073709551615∧iv=.int .i64 x∧Hid (x=(j:Int) - 1)∧Hid (vl s.data.toList (k+1) 0=vl s.data.toList j m)) (fun _ iv=>(intOf iv+1).toNat)
 case atStart=>exact ⟨k+1,0,k,by omega,rfl,by omega,rfl,hid (by omega),hid rfl⟩
 obtain ⟨j,m,x,hj,rfl,hm,rfl,HX,HV⟩:=hrel;by_cases j0:j=0
 ·subst j0;have hx:=HX.out;have d6:=dF (p:=(0:Int)≤x);have HF:Hid (r=if 0<k∧s[k].toNat=0 then (0,0,8) else (m,k+1,0)):=hid (by rw[HE.out,HV.out];rfl);clear HE HV hx;by_cases hk0:0<k
  ·have d7:decide ((0:Int)<(k:Int))=true:=dT;have d7':=dT (p:=0<k);by_cases hz:s[k].toNat=0
   ·have d8:((s[k].toNat:Int) == 0)=true:=bT;have HG:Hid (r=(0,0,8)):=hid (by rw[HF.out,if_pos ⟨hk0,hz⟩]);clear HF hz hk0;go_wp2;go_ret3;exact ⟨by rw[HG.out];rfl,rfl⟩
   have d8:((s[k].toNat:Int) == 0)=false:=bF;have HG:Hid (r=(m,k+1,0)):=hid (by rw[HF.out,if_neg (fun h=>hz h.2)]);clear HF hz hk0;go_wp2;go_ret3;exact ⟨by rw[HG.out];rfl,rfl⟩
  have d7:=dF (p:=(0:Int)<(k:Int));have d7':=dF (p:=0<k);have HG:Hid (r=(m,k+1,0)):=hid (by rw[HF.out,if_neg (fun h=>hk0 h.1)]);clear HF hk0;go_wp2;go_ret3;exact ⟨by rw[HG.out];rfl,rfl⟩
 obtain ⟨i,hi⟩:∃ i,j=i+1:=⟨j - 1,by omega⟩
 obtain rfl:x=(i:Int):=by have:=HX.out;omega
 have d6:=dT (p:=(0:Int)≤(i:Int));have q0:i<s.size:=by omega
 obtain ⟨d,hd⟩:=nm (s[i].toNat % 128);have hdl:d<128:=by omega
 have e1:(s[i].toNat:Int) % 128=(d:Int):=by omega
 have w1:IntKind.u64.wrap (d:Int)=(d:Int):=by rw[IntKind.wrap_u64];omega
 have w2:IntKind.u64.wrap (18446744073709551615 - (d:Int))=18446744073709551615 - (d:Int):=by rw[IntKind.wrap_u64];omega
 have HV2:Hid (vl s.data.toList (k+1) 0=if (18446744073709551615 - d) / 128<m then none else vl s.data.toList i (m*128+d)):=hid (by rw[HV.out,hi,vl,at_s s i q0,hd]);have HJ:=hid hi;clear hi hd HV HX j0;by_cases ho:(18446744073709551615 - d) / 128<m
 ·have d7:decide ((18446744073709551615 - (d:Int)) / 128<(m:Int))=true:=dT;have HG:Hid (r=(0,0,9)):=hid (by rw[HE.out,HV2.out,if_pos ho]);clear HE HV2 ho;go_wp2;go_ret3;exact ⟨by rw[HG.out];rfl,rfl⟩
 have d7:=dF (p:=(18446744073709551615 - (d:Int)) / 128<(m:Int));have HW:Hid (vl s.data.toList (k+1) 0=vl s.data.toList i (m*128+d)):=hid (by rw[HV2.out,if_neg ho]);obtain ⟨m',hm'⟩:=nm (m*128+d);have w3:IntKind.u64.wrap ((m:Int)*128)=(m:Int)*128:=by rw[IntKind.wrap_u64];omega
 have w4:(m:Int)*128+(d:Int)=(m':Int):=by omega
 have w5:IntKind.u64.wrap (m':Int)=(m':Int):=by rw[IntKind.wrap_u64];omega
 have hm2:m'≤18446744073709551615:=by omega
 have w6:IntKind.i64.wrap ((i:Int) - 1)=(i:Int) - 1:=by rw[Str.wrap_i64];omega
 rw[← hm'] at HW;clear HV2 ho hm';go_wp2;exact ⟨⟨i,m',(i:Int) - 1,by have:=HJ.out;omega,rfl,hm2,rfl,hid rfl,HW⟩,by simp[intOf]⟩
theorem read_r (l:List UInt8) (w:World) (hs:l.length≤65536) :
  CP 164 #[l] w (.tuple #[.int .u64 ((rdL l).1:Int),.int .i64 ((rdL l).2.1:Int),.int .i64 (rdL l).2.2]):=by
 have h:=read_s ⟨l.toArray⟩ w (by rw[Str.size_mk];exact hs);rw[rdR_eq] at h;exact h
def RB (w:World) (b:Nat) (l:List UInt8) (E:Int):Prop:=∃ s:List UInt8,Box w b [s,.int .i64 E]∧s.length≤65536∧(E=0→s=l)
section
variable {w w':World} {b c:Nat} {l:List UInt8} {E:Int}
theorem RB.at (h:RB w b l 0):(w.cell? ⟨b,0,none⟩=some (.string ⟨l.toArray⟩)∧w.cell? ⟨b,1,none⟩=some (.int .i64 0))∧(∀ j,w.frozen? ⟨b,j,none⟩=false)∧b<w.heap.size∧l.length≤65536:=by
 obtain ⟨s,hb,hl,hs⟩:=h;obtain rfl:=hs rfl;exact ⟨⟨hb.at 0 _ rfl,hb.at 1 _ rfl⟩,hb.2.2,hb.1,hl⟩
theorem RB.to (h:RB w b l E):∃ s:List UInt8,w.cell? ⟨b,0,none⟩=some (.string ⟨s.toArray⟩)∧w.cell? ⟨b,1,none⟩=some (.int .i64 E)∧(∀ j,w.frozen? ⟨b,j,none⟩=false)∧b<w.heap.size∧s.length≤65536:=by
 obtain ⟨s,hb,hl,hs⟩:=h;exact ⟨s,hb.at 0 _ rfl,hb.at 1 _ rfl,hb.2.2,hb.1,hl⟩
theorem RB.lt (h:RB w b l E):b<w.heap.size:=h.to.elim fun _ q=>q.2.2.2.1
theorem RB.err (h:RB w b l E) (l':List UInt8) (E':Int) (he:E'≠0:=by decide):RB (w.setCell ⟨b,1,none⟩ (.int .i64 E')) b l' E'∧But b w (w.setCell ⟨b,1,none⟩ (.int .i64 E')):=by
 obtain ⟨s,hb,hl,hs⟩:=h;exact ⟨⟨s,hb.set 1 _ (by simp) rfl,hl,fun e=>absurd e he⟩,(But.refl b w).set ⟨b,1,none⟩ rfl _⟩
theorem RB.eat (h:RB w b l 0) (k:Nat):RB (w.setCell ⟨b,0,none⟩ (.string ⟨(l.drop k).toArray⟩)) b (l.drop k) 0∧But b w (w.setCell ⟨b,0,none⟩ (.string ⟨(l.drop k).toArray⟩)):=by
 obtain ⟨s,hb,hl,hs⟩:=h;obtain rfl:=hs rfl;exact ⟨⟨_,hb.set 0 _ (by simp) rfl,by rw[List.length_drop];omega,fun _=>rfl⟩,(But.refl b w).set ⟨b,0,none⟩ rfl _⟩
theorem RB.below (h:RB w b l E) (k:Below w.heap.size w w'):RB w' b l E:=by
 obtain ⟨s,hb,hl,hs⟩:=h;exact ⟨s,hb.below k,hl,hs⟩
theorem RB.but (h:RB w b l E) (k:But c w w') (hb:b≠c):RB w' b l E:=by
 obtain ⟨s,h1,hl,hs⟩:=h;exact ⟨s,h1.but k hb,hl,hs⟩
theorem RB.stay (h:RB w b l E) (hE:E≠0) (l':List UInt8):RB w b l' E:=by
 obtain ⟨s,h1,hl,hs⟩:=h;exact ⟨s,h1,hl,fun e=>absurd e hE⟩
end
theorem num_any (b:Nat) (l:List UInt8) (E:Int) (most:Int) (w:World) (h:RB w b l E) (n:Int) (l':List UInt8) (E':Int) (hn:numS most l E=(n,l',E')) :
  Calls Tryz.prog 85 #[.pointer (some ⟨b,0,none⟩),.int .u64 most] w fun e w'=>e=.returned (.int .u64 n)∧RB w' b l' E'∧But b w w':=by
 unfold numS at hn;by_cases hE:E=0;rotate_left
 ·rw[if_pos hE] at hn;simp only[Prod.mk.injEq] at hn;obtain ⟨rfl,rfl,rfl⟩:=hn;obtain ⟨s,c0,c1,z,hlt,-⟩:=h.to;have d1:(E != 0)=true:=by rw[bne_iff_ne];exact hE
  have H:=hid h;clear h hE;go_enter Tryz.func85,Tryz.ntmps85;go_wp2;go_ret;exact ⟨rfl,H.out,But.refl _ _⟩
 subst hE;obtain ⟨⟨c0,c1⟩,z,hlt,hll⟩:=h.at;rw[if_neg (by simp)] at hn;simp only[Prod.mk.injEq] at hn;obtain ⟨hn,hl',he⟩:=hn;have C:=hid (fun W=>read_r l W hll);have hq:=rdL_size l;obtain ⟨a,k,q,hr⟩:=tr (rdL l);have hN:numT l most=if q≠0 then ((0:Int),0,q) else if most<(a:Int) then (0,0,9) else ((a:Nat),k,0):=by unfold numT;rw[hr]
 rw[hr] at C hq;simp only at C hq;rw[hN] at hn hl' he;have H:=hid h;have HQ:=hid hq;clear hr h hq hN;by_cases hE:q=0;rotate_left
 ·rw[if_pos hE] at hn hl' he;simp only at hn hl' he;rw[if_neg hE] at hl';subst hn hl' he;have d1:(q != 0)=true:=by rw[bne_iff_ne];exact hE
  have O:=hid (H.out.err l q hE);clear H HQ hE;go_enter Tryz.func85,Tryz.ntmps85;go_wp2_with fail
  refine cp (C.out _) ?_;go_wp2;go_ret;exact ⟨rfl,O.out⟩
 subst hE;simp only[ne_eq,not_true,if_false] at hn hl' he;have hq2:=(HQ.out rfl).1;clear HQ;by_cases hm:most<(a:Int)
 ·rw[if_pos hm] at hn hl' he;simp only[show ¬ (9:Int)=0 by decide,if_false] at hn hl' he;subst hn hl' he;have d1:=dT (p:=most<(a:Int));have O:=hid (H.out.err l 9);clear H hm;go_enter Tryz.func85,Tryz.ntmps85;go_wp2_with fail
  refine cp (C.out _) ?_;go_wp2;go_ret;exact ⟨rfl,O.out⟩
 rw[if_neg hm] at hn hl' he;simp only[if_true] at hn hl' he;subst hn hl' he;have d1:=dF (p:=most<(a:Int));have O:=hid (H.out.eat k);have hsl:=slice_from l k;have hsz:=Str.size_mk l;clear H hm;go_enter Tryz.func85,Tryz.ntmps85;go_wp2_with fail
 refine cp (C.out _) ?_;go_wp2;go_ret;exact ⟨rfl,O.out⟩
theorem int_any (b:Nat) (l:List UInt8) (E:Int) (most:Int) (m0:0≤most) (m1:most≤9223372036854775807) (w:World) (h:RB w b l E) (n:Int) (l':List UInt8) (E':Int) (hn:numS most l E=(n,l',E')) :
  Calls Tryz.prog 160 #[.pointer (some ⟨b,0,none⟩),.int .i64 most] w fun e w'=>e=.returned (.int .i64 n)∧RB w' b l' E'∧But b w w':=by
 obtain ⟨s,c0,c1,z,hlt,-⟩:=h.to;have d0:=dF (p:=most<0);by_cases hE:E=0;rotate_left
 ·unfold numS at hn;rw[if_pos hE] at hn;simp only[Prod.mk.injEq] at hn;obtain ⟨rfl,rfl,rfl⟩:=hn;have d1:(E != 0)=true:=by rw[bne_iff_ne];exact hE
  have d2:(E == 0)=false:=by rw[beq_eq_false_iff_ne];exact hE
  have H:=hid h;clear h hE;go_enter Tryz.func160,Tryz.ntmps160;go_wp2;go_ret;exact ⟨rfl,H.out,But.refl _ _⟩
 subst hE;have hb:=numS_le hn m0;have w1:IntKind.u64.wrap most=most:=by rw[IntKind.wrap_u64];omega
 have w2:IntKind.i64.wrap n=n:=by rw[Str.wrap_i64];omega
 have C:=hid (num_any b l 0 most w h n l' E' hn);clear hn h hb;go_enter Tryz.func160,Tryz.ntmps160;go_wp2_with fail
 refine C.out.mono ?_;rintro e w1 ⟨rfl,r,k⟩;have R:=hid r;have K:=hid k;clear r k;go_wp2;go_ret;exact ⟨rfl,R.out,K.out⟩
theorem text_any (b:Nat) (l:List UInt8) (E:Int) (w:World) (h:RB w b l E) (x:List UInt8) (l':List UInt8) (E':Int) (hn:wordS l E=(x,l',E')) :
  Calls Tryz.prog 86 #[.pointer (some ⟨b,0,none⟩),.int .i64 65536] w fun e w'=>e=.returned x∧RB w' b l' E'∧But b w w':=by
 unfold wordS textS at hn;by_cases hE:E=0;rotate_left
 ·rw[if_pos hE] at hn;simp only[Prod.mk.injEq] at hn;obtain ⟨rfl,rfl,rfl⟩:=hn;have d1:(E != 0)=true:=by rw[bne_iff_ne];exact hE
  have C:=hid (num_any b l E 18446744073709551615 w h 0 l E (by unfold numS;rw[if_pos hE]));clear h hE;go_enter Tryz.func86,Tryz.ntmps86;go_wp2_with fail
  refine C.out.mono ?_;rintro e w1 ⟨rfl,r,k⟩;obtain ⟨s,c0,c1,z,hlt,-⟩:=r.to;have R:=hid r;have K:=hid k;clear r k;go_wp2;go_ret;exact ⟨rfl,R.out,K.out⟩
 subst hE;rw[if_neg (by simp)] at hn;simp only[Prod.mk.injEq] at hn;obtain ⟨hn,hl',he⟩:=hn;have hq:=rdL_size l;obtain ⟨a,k,q,hr⟩:=tr (rdL l);have hN:textT l 65536=if q≠0 then (([]:List UInt8),0,q) else if (65536:Int)<0∨(65536:Int)<(a:Int) then ([],0,4) else if l.length - k<a then ([],0,20) else ((l.drop k).take a,k+a,0):=by unfold textT;rw[hr]
 rw[hr] at hq;simp only at hq;rw[hN] at hn hl' he;clear hN;by_cases hE:q=0;rotate_left
 ·have C:=hid (num_any b l 0 18446744073709551615 w h 0 l q (by unfold numS numT;rw[hr];simp[hE]));rw[if_pos hE] at hn hl' he;simp only at hn hl' he;rw[if_neg hE] at hl';subst hn hl' he;have d1:(q != 0)=true:=by rw[bne_iff_ne];exact hE
  clear h hE hq hr;go_enter Tryz.func86,Tryz.ntmps86;go_wp2_with fail
  refine C.out.mono ?_;rintro e w1 ⟨rfl,r,k⟩;obtain ⟨s,c0,c1,z,hlt,-⟩:=r.to;have R:=hid r;have K:=hid k;clear r k;go_wp2;go_ret;exact ⟨rfl,R.out,K.out⟩
 subst hE;simp only[ne_eq,not_true,if_false] at hn hl' he;have hk:=(hq rfl).1;have hll:=h.at.2.2.2;have hdl:(l.drop k).length=l.length - k:=List.length_drop;have hab:a≤18446744073709551615:=by have:=rdL_lt l;rw[hr] at this;exact this
 have C:=hid (num_any b l 0 18446744073709551615 w h a (l.drop k) 0 (by unfold numS numT;rw[hr];simp only[ne_eq,not_true,if_false];rw[if_neg (by omega)];simp));clear h hr hq;have w1:IntKind.u64.wrap 65536=65536:=by decide
 have w2:IntKind.u64.wrap ((l.length - k:Nat):Int)=((l.length - k:Nat):Int):=by rw[IntKind.wrap_u64];omega
 by_cases hm:(65536:Int)<(a:Int)
 ·rw[if_pos (Or.inr hm)] at hn hl' he;simp only[show ¬ (4:Int)=0 by decide,if_false] at hn hl' he;subst hn hl' he;have d3:=dT (p:=(65536:Int)<(a:Int));clear hm hk hll hdl hab w2;go_enter Tryz.func86,Tryz.ntmps86;go_wp2_with fail
  refine C.out.mono ?_;rintro e w1 ⟨rfl,r,k⟩;obtain ⟨⟨c0,c1⟩,z,hlt,-⟩:=r.at;have R:=hid (r.err l 4);have K:=hid k;clear r k;go_wp2;go_ret;exact ⟨rfl,R.out.1,K.out.trans R.out.2⟩
 have d3:=dF (p:=(65536:Int)<(a:Int));rw[if_neg (show ¬ ((65536:Int)<0∨(65536:Int)<(a:Int)) by omega)] at hn hl' he;by_cases hs:l.length - k<a
 ·rw[if_pos hs] at hn hl' he;simp only[show ¬ (20:Int)=0 by decide,if_false] at hn hl' he;subst hn hl' he;obtain ⟨t,ht⟩:=nm (l.drop k);rw[← ht] at C hdl;rw[← hdl] at w2 hs;have d4:=dT (p:=(t.length:Int)<(a:Int));have d5:=dT (p:=t.length<a);have hsz:=Str.size_mk t;clear hm hk hll hdl hab hs ht;go_enter Tryz.func86,Tryz.ntmps86;go_wp2_with fail
  refine C.out.mono ?_;rintro e w1 ⟨rfl,r,k⟩;obtain ⟨⟨c0,c1⟩,z,hlt,-⟩:=r.at;have R:=hid (r.err l 20);have K:=hid k;clear r k;go_wp2;go_ret;exact ⟨rfl,R.out.1,K.out.trans R.out.2⟩
 rw[if_neg hs] at hn hl' he;simp only[if_true] at hn hl' he;rw[← List.drop_drop] at hl';obtain ⟨t,ht⟩:=nm (l.drop k);rw[← ht] at C hdl hn hl';rw[← hdl] at w2 hs;subst hn hl' he;have d4:=dF (p:=(t.length:Int)<(a:Int));have d5:=dF (p:=t.length<a);have hsz:=Str.size_mk t;have hs1:a≤t.length:=by omega
 have x1:=slice_from t a;have x2:({ data:=t.toArray }:ByteArray).extract 0 a={ data:=(t.take a).toArray }:=by rw[slice_to];rfl
 clear hm hk hll hdl hab hs ht;go_enter Tryz.func86,Tryz.ntmps86;go_wp2_with fail
 refine C.out.mono ?_;rintro e w1 ⟨rfl,r,k⟩;obtain ⟨⟨c0,c1⟩,z,hlt,-⟩:=r.at;have R:=hid (r.eat a);have K:=hid k;clear r k;go_wp2;go_ret;exact ⟨rfl,R.out.1,K.out.trans R.out.2⟩
theorem bool_any (b:Nat) (l:List UInt8) (E:Int) (w:World) (h:RB w b l E) (x:Bool) (l':List UInt8) (E':Int) (hn:truthS l E=(x,l',E')) :
  Calls Tryz.prog 155 #[.pointer (some ⟨b,0,none⟩)] w fun e w'=>e=.returned (.bool x)∧RB w' b l' E'∧But b w w':=by
 unfold truthS boolS at hn;by_cases hE:E=0;rotate_left
 ·rw[if_pos hE] at hn;simp only[Prod.mk.injEq] at hn;obtain ⟨rfl,rfl,rfl⟩:=hn;obtain ⟨s,c0,c1,z,hlt,-⟩:=h.to;have d1:(E != 0)=true:=by rw[bne_iff_ne];exact hE
  have H:=hid h;clear h hE;go_enter Tryz.func155,Tryz.ntmps155;go_wp2;go_ret;exact ⟨rfl,H.out,But.refl _ _⟩
 subst hE;obtain ⟨⟨c0,c1⟩,z,hlt,hll⟩:=h.at;rw[if_neg (by simp)] at hn;simp only[Prod.mk.injEq] at hn;obtain ⟨hn,hl',he⟩:=hn;cases l with
 | nil =>
  have O:=hid (h.err [] 20);have e:boolT []=(false,0,20):=rfl;rw[e] at hn hl' he;simp only[show ¬ (20:Int)=0 by decide,if_false] at hn hl' he;subst hn hl' he;clear h hll;go_enter Tryz.func155,Tryz.ntmps155;go_wp2;go_ret;exact ⟨rfl,O.out⟩
 | cons c r =>
  have e:boolT (c::r)=if 1<c.toNat then (false,0,8) else (c.toNat == 1,1,0):=rfl
  have hsz:=Str.size_mk (c::r);have hg:∀ q,({ data:=(c::r).toArray }:ByteArray)[0]'q=c:=fun _=>rfl;rw[e] at hn hl' he;by_cases hc:1<c.toNat
  ·have O:=hid (h.err (c::r) 8);rw[if_pos hc] at hn hl' he;simp only[show ¬ (8:Int)=0 by decide,if_false] at hn hl' he;subst hn hl' he;have d1:=dT (p:=(1:Int)<(c.toNat:Int));clear h hll hc e;go_enter Tryz.func155,Tryz.ntmps155;go_wp2;go_ret;exact ⟨rfl,O.out⟩
  have O:Hid (RB (w.setCell ⟨b,0,none⟩ (.string ⟨r.toArray⟩)) b r 0∧But b w (w.setCell ⟨b,0,none⟩ (.string ⟨r.toArray⟩))):=hid (h.eat 1);have x1:({ data:=(c::r).toArray }:ByteArray).extract 1 (r.length+1)={ data:=r.toArray }:=slice_from (c::r) 1;rw[if_neg hc] at hn hl' he;simp only[if_true,List.drop_succ_cons,List.drop_zero] at hn hl' he;have d2:((c.toNat:Int) == 1)=x:=by rw[← hn,Bool.eq_iff_iff];simp;omega
  subst hl' he;have d1:=dF (p:=(1:Int)<(c.toNat:Int));clear hn;clear h hll hc e;go_enter Tryz.func155,Tryz.ntmps155;go_wp2;go_ret;exact ⟨rfl,O.out⟩
theorem end_any (b:Nat) (l:List UInt8) (E:Int) (w:World) (h:RB w b l E) (E':Int) (hn:endS l E=E') :
  Calls Tryz.prog 68 #[.pointer (some ⟨b,0,none⟩)] w fun e w'=>e=.returned (.int .i64 E')∧But b w w':=by
 unfold endS at hn;by_cases hE:E=0;rotate_left
 ·rw[if_pos hE] at hn;subst hn;obtain ⟨s,c0,c1,z,hlt,-⟩:=h.to;have d1:(E == 0)=false:=by rw[beq_eq_false_iff_ne];exact hE
  clear h hE;go_enter Tryz.func68,Tryz.ntmps68;go_wp2;go_ret;exact ⟨rfl,But.refl _ _⟩
 subst hE;obtain ⟨⟨c0,c1⟩,z,hlt,hll⟩:=h.at;rw[if_neg (by simp)] at hn;cases l with
 | nil =>
  simp only[List.isEmpty_nil,if_true] at hn;subst hn;clear h hll;go_enter Tryz.func68,Tryz.ntmps68;go_wp2;go_ret;exact ⟨rfl,But.refl _ _⟩
 | cons c r =>
  simp only[List.isEmpty_cons,Bool.false_eq_true,if_false] at hn;subst hn;have O:=hid (h.err [] 8);clear h hll;go_enter Tryz.func68,Tryz.ntmps68;go_wp2;go_ret;exact ⟨rfl,O.out.2⟩
end RTake
end Go.Proofs.YtnpjkmomllkhpaaGreatDoor
