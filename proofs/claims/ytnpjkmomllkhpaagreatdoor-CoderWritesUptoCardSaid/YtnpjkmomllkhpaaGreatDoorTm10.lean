/- CoderTake. -/
import Derived.Test.YtnpjkmomllkhpaaGreatDoorTm4
import Derived.Test.YtnpjkmomllkhpaaGreatDoorTm9
set_option linter.unusedVariables false
set_option linter.unusedSimpArgs false
namespace Go.Proofs.YtnpjkmomllkhpaaGreatDoor
set_option maxRecDepth 100000
set_option maxHeartbeats 4000000
namespace Taker
open RowKit YtnpjkmomllkhpaaGreatDoor.Mark Num Wire Bag Coder
def Box (w:World) (b:Nat) (vs:List Value):Prop:=b<w.heap.size∧(∀ j v,vs[j]?=some v→w.cell? ⟨b,j,none⟩=some v)∧∀ j,w.frozen? ⟨b,j,none⟩=false
theorem Box.at {w:World} {b:Nat} {vs:List Value} (h:Box w b vs) (j:Nat) (v:Value) (e:vs[j]?=some v):w.cell? ⟨b,j,none⟩=some v:=h.2.1 j v e
theorem Box.new (w:World) (vs:List Value) (T:TypeId) (_h:vs≠[]):Box (w.alloc (.cells vs.toArray T)) w.heap.size vs:=by
 refine ⟨by rw[World.size_alloc];omega,fun j v hv=>?_,fun j=>World.frozen?_alloc_at _ _ _ _ rfl⟩
 rw[World.cell?_alloc_at _ _ _ j rfl,List.getElem?_toArray]
 exact hv
theorem Box.below {w w':World} {b:Nat} {vs:List Value} (h:Box w b vs) (k:Below w.heap.size w w'):Box w' b vs :=
 ⟨Nat.lt_of_lt_of_le h.1 k.size,fun j v hv=>(k.cell (p:=⟨b,j,none⟩) h.1).trans (h.2.1 j v hv),fun j=>(k.frozen (p:=⟨b,j,none⟩) h.1).trans (h.2.2 j)⟩
theorem Box.alloc {w:World} {b:Nat} {vs:List Value} (h:Box w b vs) (o:Obj):Box (w.alloc o) b vs:=h.below (balloc (Below.refl _ _) o)
theorem Box.but {w w':World} {b c:Nat} {vs:List Value} (h:Box w b vs) (k:But c w w') (hb:b≠c):Box w' b vs :=
 ⟨Nat.lt_of_lt_of_le h.1 k.size,fun j v hv=>(k.cell (p:=⟨b,j,none⟩) h.1 hb).trans (h.2.1 j v hv),fun j=>(k.frozen (p:=⟨b,j,none⟩) h.1 hb).trans (h.2.2 j)⟩
theorem Box.put {w:World} {b c:Nat} {vs:List Value} (h:Box w b vs) (hc:c≠b) (i:Nat) (u:Value):Box (w.setCell ⟨c,i,none⟩ u) b vs :=
 ⟨by rw[World.size_setCell];exact h.1,fun j v hv=>by rw[World.cell?_setCell_other _ _ _ _ (fun q=>hc (congrArg Addr.block q))];exact h.2.1 j v hv,fun j=>by rw[World.frozen?_setCell];exact h.2.2 j⟩
theorem Box.set {w:World} {b:Nat} {vs:List Value} (h:Box w b vs) (i:Nat) (u:Value) (hi:i<vs.length) {vs':List Value} (hv:vs'=vs.set i u):Box (w.setCell ⟨b,i,none⟩ u) b vs':=by
 subst hv
 refine ⟨by rw[World.size_setCell];exact h.1,fun j v hv=>?_,fun j=>by rw[World.frozen?_setCell];exact h.2.2 j⟩
 by_cases e:i=j
 ·subst e
  rw[List.getElem?_set_self hi] at hv
  rw[← hv]
  exact World.cell?_setCell_same _ _ _ (h.2.1 i _ (List.getElem?_eq_getElem hi))
 ·rw[List.getElem?_set_ne e] at hv
  rw[World.cell?_setCell_other _ _ _ _ (fun q=>e (congrArg Addr.off q))]
  exact h.2.1 j v hv
theorem rd_put {w:World} {b c:Nat} {l:List UInt8} {E:Int} (h:Rd w b l E) (hc:c≠b) (i:Nat) (u:Value):Rd (w.setCell ⟨c,i,none⟩ u) b l E:=by
 obtain ⟨h1,h2,h3,h4,h5,h6⟩:=h
 exact ⟨by rw[World.cell?_setCell_other _ _ _ _ (fun q=>hc (congrArg Addr.block q))];exact h1,by rw[World.cell?_setCell_other _ _ _ _ (fun q=>hc (congrArg Addr.block q))];exact h2,by rw[World.cell?_setCell_other _ _ _ _ (fun q=>hc (congrArg Addr.block q))];exact h3,by rw[World.frozen?_setCell];exact h4,by rw[World.frozen?_setCell];exact h5,h6⟩
def bindR {α β:Type} (p:α × List UInt8 × Int) (f:α→List UInt8→Int→β × List UInt8 × Int):β × List UInt8 × Int:=f p.1 p.2.1 p.2.2
def wordS (l:List UInt8) (E:Int):List UInt8 × List UInt8 × Int:=textS 65536 l E
def natS (l:List UInt8) (E:Int):Nat × List UInt8 × Int:=((numS 18446744073709551615 l E).1.toNat,(numS 18446744073709551615 l E).2)
def smallS (l:List UInt8) (E:Int):Nat × List UInt8 × Int:=((numS 255 l E).1.toNat,(numS 255 l E).2)
def truthS (l:List UInt8) (E:Int):Bool × List UInt8 × Int:=boolS l E
theorem nat_of {most:Int} (h0:0≤most) {l l':List UInt8} {E E':Int} {n:Nat} (h:((numS most l E).1.toNat,(numS most l E).2)=(n,l',E')):numS most l E=((n:Int),l',E')∧(n:Int)≤most:=by
 obtain ⟨m,p,q,e⟩:∃ m p q,numS most l E=(m,p,q):=⟨_,_,_,rfl⟩
 have hb:=numS_le e h0
 rw[e] at h ⊢
 simp only[Prod.mk.injEq] at h
 obtain ⟨h1,h2,h3⟩:=h
 subst h2;subst h3
 have:(n:Int)=m:=by omega
 exact ⟨by rw[this],by omega⟩
theorem word_any (b:Nat) (l:List UInt8) (E:Int) (w:World) (h:Rd w b l E) (x:List UInt8) (l':List UInt8) (E':Int) (hn:wordS l E=(x,l',E')) :
  Calls Tryz.prog 146 #[.agg #[.pointer (some ⟨b,0,none⟩)]] w fun e w'=>e=.returned (.string ⟨x.toArray⟩)∧Rd w' b l' E'∧But b w w':=by
 have C:=hid (text_any b l E 65536 (by decide) (by decide) (w.alloc (.cells #[.pointer (some ⟨b,0,none⟩)] 124)) (h.alloc _) x l' E' hn)
 have K:=hid ((But.refl b w).alloc (.cells #[.pointer (some ⟨b,0,none⟩)] 124))
 go_enter Tryz.func146,Tryz.ntmps146
 go_wp2_with fail
 refine C.out.mono ?_
 rintro e w1 ⟨rfl,r,k⟩
 replace K:=hid (K.out.trans k)
 clear k
 go_wp2
 go_ret
 exact ⟨rfl,r,K.out⟩
theorem nat_any (b:Nat) (l:List UInt8) (E:Int) (w:World) (h:Rd w b l E) (x:Nat) (l':List UInt8) (E':Int) (hn:natS l E=(x,l',E')) :
  Calls Tryz.prog 163 #[.agg #[.pointer (some ⟨b,0,none⟩)]] w fun e w'=>e=.returned (.int .u64 (x:Nat))∧Rd w' b l' E'∧But b w w':=by
 have C:=hid (num_any b l E 18446744073709551615 (w.alloc (.cells #[.pointer (some ⟨b,0,none⟩)] 124)) (h.alloc _) (x:Int) l' E' (nat_of (by decide) hn).1)
 have K:=hid ((But.refl b w).alloc (.cells #[.pointer (some ⟨b,0,none⟩)] 124))
 go_enter Tryz.func163,Tryz.ntmps163
 go_wp2_with fail
 refine C.out.mono ?_
 rintro e w1 ⟨rfl,r,k⟩
 replace K:=hid (K.out.trans k)
 clear k
 go_wp2
 go_ret
 exact ⟨rfl,r,K.out⟩
theorem small_any (b:Nat) (l:List UInt8) (E:Int) (w:World) (h:Rd w b l E) (x:Nat) (l':List UInt8) (E':Int) (hn:smallS l E=(x,l',E')) :
  Calls Tryz.prog 161 #[.agg #[.pointer (some ⟨b,0,none⟩)]] w fun e w'=>e=.returned (.int .u8 (x:Nat))∧Rd w' b l' E'∧But b w w':=by
 have C:=hid (num_any b l E 255 (w.alloc (.cells #[.pointer (some ⟨b,0,none⟩)] 124)) (h.alloc _) (x:Int) l' E' (nat_of (by decide) hn).1)
 have K:=hid ((But.refl b w).alloc (.cells #[.pointer (some ⟨b,0,none⟩)] 124))
 have w8:IntKind.u8.wrap (x:Int)=(x:Int):=by have:=(nat_of (by decide) hn).2;rw[IntKind.wrap_u8];omega
 clear hn
 go_enter Tryz.func161,Tryz.ntmps161
 go_wp2_with fail
 refine C.out.mono ?_
 rintro e w1 ⟨rfl,r,k⟩
 replace K:=hid (K.out.trans k)
 clear k
 go_wp2
 go_ret
 exact ⟨rfl,r,K.out⟩
structure Tk (w0 w:World) (b bp br:Nat) (l:List UInt8) (E:Int) (vs:List Value):Prop where
 p:Box w bp [.pointer (some ⟨b,0,none⟩)]
 s:Box w br vs
 r:Rd w b l E
 k:But b w0 w
 n:bp≠b∧br≠b∧br≠bp∧w0.heap.size≤br∧b<br+1∧w0.heap.size≤br+1
structure Te (w0 w1 w:World) (b br:Nat) (l:List UInt8) (E:Int):Prop where
 r:Rd w b l E
 k:But b w0 w
 o:But br w1 w
 n:br≠b∧w0.heap.size≤br
section
variable {w0 w w1:World} {b bp br:Nat} {l l1:List UInt8} {E E1:Int} {vs:List Value}
theorem Tk.new (h:Rd w b l E) (vs:List Value) (T:TypeId) (hv:vs≠[]:=by simp):∃ bp br W,bp=w.heap.size∧br=w.heap.size+1∧W=(w.alloc (.cells #[.pointer (some ⟨b,0,none⟩)] 124)).alloc (.cells vs.toArray T)∧Hid (Tk w W b bp br l E vs):=by
 have hlt:=h.lt
 refine ⟨_,_,_,rfl,rfl,rfl,(Box.new w [.pointer (some ⟨b,0,none⟩)] 124 (by simp)).alloc _,?_,(h.alloc _).alloc _,((But.refl b w).alloc _).alloc _,by omega⟩
 have q:=Box.new (w.alloc (.cells #[.pointer (some ⟨b,0,none⟩)] 124)) vs T hv
 rw[World.size_alloc] at q
 exact q
theorem Tk.go (h:Tk w0 w b bp br l E vs) (r:Rd w1 b l1 E1) (k:But b w w1) (j:Nat) {v:Value} (e:vs[j]?=some v:=by rfl):Hid (Tk w0 w1 b bp br l1 E1 vs)∧w1.cell? ⟨bp,0,none⟩=some (.pointer (some ⟨b,0,none⟩))∧w1.cell? ⟨br,j,none⟩=some v∧w1.frozen? ⟨br,j,none⟩=false :=
 ⟨⟨h.p.but k h.n.1,h.s.but k h.n.2.1,r,h.k.trans k,h.n⟩,(h.p.but k h.n.1).at 0 _ rfl,(h.s.but k h.n.2.1).at j v e,(h.s.but k h.n.2.1).2.2 j⟩
theorem Tk.put (h:Tk w0 w b bp br l E vs) (j:Nat) (v:Value) (hj:j<vs.length:=by simp):∃ w2,w2=w.setCell ⟨br,j,none⟩ v∧Hid (Tk w0 w2 b bp br l E (vs.set j v)) :=
 ⟨_,rfl,h.p.put h.n.2.2.1 j v,h.s.set j v hj rfl,rd_put h.r h.n.2.1 j v,h.k.put ⟨br,j,none⟩ h.n.2.2.2.1 v,h.n⟩
theorem bsetB {w2:World} {j:Nat} {v:Value} (h:w2=w.setCell ⟨br,j,none⟩ v):But br w w2:=by rw[h];exact (But.refl br w).set ⟨br,j,none⟩ rfl v
theorem Tk.e (h:Tk w0 w b bp br l E vs):Te w0 w w b br l E:=⟨h.r,h.k,But.refl _ _,h.n.2.1,h.n.2.2.2.1⟩
theorem Te.put (h:Te w0 w1 w b br l E) (j:Nat) (v:Value):Te w0 w1 (w.setCell ⟨br,j,none⟩ v) b br l E:=⟨rd_put h.r h.n.1 j v,h.k.put ⟨br,j,none⟩ h.n.2 v,h.o.set ⟨br,j,none⟩ rfl v,h.n⟩
end
def markS (l:List UInt8) (E:Int):M × List UInt8 × Int:=bindR (wordS l E) fun x0 l0 E0=>bindR (natS l0 E0) fun x1 l1 E1=>((⟨x0,x1⟩:M),l1,E1)
theorem mark_any (b:Nat) (l:List UInt8) (E:Int) (w:World) (h:Rd w b l E) (x:M) (l':List UInt8) (E':Int) (hn:markS l E=(x,l',E')) :
  Calls Tryz.prog 148 #[.agg #[.pointer (some ⟨b,0,none⟩)]] w fun e w'=>e=.returned (.agg x)∧Rd w' b l' E'∧But b w w':=by
 obtain ⟨x0,l0,E0,q0⟩:=tr (wordS l E)
 obtain ⟨x1,l1,E1,q1⟩:=tr (natS l0 E0)
 simp only[markS,bindR,q0,q1,Prod.mk.injEq] at hn
 obtain ⟨rfl,rfl,rfl⟩:=hn
 replace q0:=hid q0
 replace q1:=hid q1
 go_enter Tryz.func148,Tryz.ntmps148
 go_upto_region 1 with (fail)
 obtain ⟨bp,br,W,hbp,hbr,hW,G⟩:=Tk.new h [.string ⟨#[]⟩,.int .u64 0] 96
 rw[← hW,← hbr,← hbp]
 clear hW hbr hbp h
 have p0:=G.out.p.at 0 _ rfl
 go_wp2_with fail
 refine (word_any b _ _ _ G.out.r _ _ _ q0.out).mono ?_
 rintro e w1 ⟨rfl,R1,k1⟩
 obtain ⟨H,p1,c0,z0⟩:=G.out.go R1 k1 0
 clear G p0 k1 R1
 go_upto_region 2 with (fail)
 obtain ⟨w2,hw2,G⟩:=H.out.put 0 x0
 rw[← hw2]
 clear H hw2 p1 c0 z0
 have p0:=G.out.p.at 0 _ rfl
 go_wp2_with fail
 refine (nat_any b _ _ _ G.out.r _ _ _ q1.out).mono ?_
 rintro e w1 ⟨rfl,R1,k1⟩
 obtain ⟨H,p1,c1,z1⟩:=G.out.go R1 k1 1
 clear G p0 k1 R1
 go_upto_region 3 with (fail)
 obtain ⟨w2,hw2,G⟩:=H.out.put 1 x1
 rw[← hw2]
 clear H hw2 p1 c1 z1
 obtain ⟨c0,c1⟩:=al2 G.out.s.at
 have z:=G.out.s.2.2
 go_wp2
 refine bodyPost_ret (v:=.agg #[x0,x1]) (by simp[results,Tryz.results148,go_sem,c0,c1]) rfl ?_
 exact ⟨rfl,((G.out.e.put 0 _).put 1 _).r,((G.out.e.put 0 _).put 1 _).k⟩
def dotS (l:List UInt8) (E:Int):M × List UInt8 × Int:=bindR (wordS l E) fun x0 l0 E0=>bindR (natS l0 E0) fun x1 l1 E1=>((⟨x0,x1⟩:M),l1,E1)
theorem dot_any (b:Nat) (l:List UInt8) (E:Int) (w:World) (h:Rd w b l E) (x:M) (l':List UInt8) (E':Int) (hn:dotS l E=(x,l',E')) :
  Calls Tryz.prog 214 #[.agg #[.pointer (some ⟨b,0,none⟩)]] w fun e w'=>e=.returned (.agg x)∧Rd w' b l' E'∧But b w w':=by
 obtain ⟨x0,l0,E0,q0⟩:=tr (wordS l E)
 obtain ⟨x1,l1,E1,q1⟩:=tr (natS l0 E0)
 simp only[dotS,bindR,q0,q1,Prod.mk.injEq] at hn
 obtain ⟨rfl,rfl,rfl⟩:=hn
 replace q0:=hid q0
 replace q1:=hid q1
 go_enter Tryz.func214,Tryz.ntmps214
 go_upto_region 1 with (fail)
 obtain ⟨bp,br,W,hbp,hbr,hW,G⟩:=Tk.new h [.string ⟨#[]⟩,.int .u64 0] 167
 rw[← hW,← hbr,← hbp]
 clear hW hbr hbp h
 have p0:=G.out.p.at 0 _ rfl
 go_wp2_with fail
 refine (word_any b _ _ _ G.out.r _ _ _ q0.out).mono ?_
 rintro e w1 ⟨rfl,R1,k1⟩
 obtain ⟨H,p1,c0,z0⟩:=G.out.go R1 k1 0
 clear G p0 k1 R1
 go_upto_region 2 with (fail)
 obtain ⟨w2,hw2,G⟩:=H.out.put 0 x0
 rw[← hw2]
 clear H hw2 p1 c0 z0
 have p0:=G.out.p.at 0 _ rfl
 go_wp2_with fail
 refine (nat_any b _ _ _ G.out.r _ _ _ q1.out).mono ?_
 rintro e w1 ⟨rfl,R1,k1⟩
 obtain ⟨H,p1,c1,z1⟩:=G.out.go R1 k1 1
 clear G p0 k1 R1
 go_upto_region 3 with (fail)
 obtain ⟨w2,hw2,G⟩:=H.out.put 1 x1
 rw[← hw2]
 clear H hw2 p1 c1 z1
 obtain ⟨c0,c1⟩:=al2 G.out.s.at
 have z:=G.out.s.2.2
 go_wp2
 refine bodyPost_ret (v:=.agg #[x0,x1]) (by simp[results,Tryz.results214,go_sem,c0,c1]) rfl ?_
 exact ⟨rfl,((G.out.e.put 0 _).put 1 _).r,((G.out.e.put 0 _).put 1 _).k⟩
def countS (l:List UInt8) (E:Int):C × List UInt8 × Int:=bindR (wordS l E) fun x0 l0 E0=>bindR (natS l0 E0) fun x1 l1 E1=>bindR (natS l1 E1) fun x2 l2 E2=>((⟨x0,x1,x2⟩:C),l2,E2)
theorem count_any (b:Nat) (l:List UInt8) (E:Int) (w:World) (h:Rd w b l E) (x:C) (l':List UInt8) (E':Int) (hn:countS l E=(x,l',E')) :
  Calls Tryz.prog 150 #[.agg #[.pointer (some ⟨b,0,none⟩)]] w fun e w'=>e=.returned (.agg x)∧Rd w' b l' E'∧But b w w':=by
 obtain ⟨x0,l0,E0,q0⟩:=tr (wordS l E)
 obtain ⟨x1,l1,E1,q1⟩:=tr (natS l0 E0)
 obtain ⟨x2,l2,E2,q2⟩:=tr (natS l1 E1)
 simp only[countS,bindR,q0,q1,q2,Prod.mk.injEq] at hn
 obtain ⟨rfl,rfl,rfl⟩:=hn
 replace q0:=hid q0
 replace q1:=hid q1
 replace q2:=hid q2
 go_enter Tryz.func150,Tryz.ntmps150
 go_upto_region 1 with (fail)
 obtain ⟨bp,br,W,hbp,hbr,hW,G⟩:=Tk.new h [.string ⟨#[]⟩,.int .u64 0,.int .u64 0] 98
 rw[← hW,← hbr,← hbp]
 clear hW hbr hbp h
 have p0:=G.out.p.at 0 _ rfl
 go_wp2_with fail
 refine (word_any b _ _ _ G.out.r _ _ _ q0.out).mono ?_
 rintro e w1 ⟨rfl,R1,k1⟩
 obtain ⟨H,p1,c0,z0⟩:=G.out.go R1 k1 0
 clear G p0 k1 R1
 go_upto_region 2 with (fail)
 obtain ⟨w2,hw2,G⟩:=H.out.put 0 x0
 rw[← hw2]
 clear H hw2 p1 c0 z0
 have p0:=G.out.p.at 0 _ rfl
 go_wp2_with fail
 refine (nat_any b _ _ _ G.out.r _ _ _ q1.out).mono ?_
 rintro e w1 ⟨rfl,R1,k1⟩
 obtain ⟨H,p1,c1,z1⟩:=G.out.go R1 k1 1
 clear G p0 k1 R1
 go_upto_region 3 with (fail)
 obtain ⟨w2,hw2,G⟩:=H.out.put 1 x1
 rw[← hw2]
 clear H hw2 p1 c1 z1
 have p0:=G.out.p.at 0 _ rfl
 go_wp2_with fail
 refine (nat_any b _ _ _ G.out.r _ _ _ q2.out).mono ?_
 rintro e w1 ⟨rfl,R1,k1⟩
 obtain ⟨H,p1,c2,z2⟩:=G.out.go R1 k1 2
 clear G p0 k1 R1
 go_upto_region 4 with (fail)
 obtain ⟨w2,hw2,G⟩:=H.out.put 2 x2
 rw[← hw2]
 clear H hw2 p1 c2 z2
 obtain ⟨c0,c1,c2⟩:=al3 G.out.s.at
 have z:=G.out.s.2.2
 go_wp2
 refine bodyPost_ret (v:=.agg #[x0,x1,x2]) (by simp[results,Tryz.results150,go_sem,c0,c1,c2]) rfl ?_
 exact ⟨rfl,(((G.out.e.put 0 _).put 1 _).put 2 _).r,(((G.out.e.put 0 _).put 1 _).put 2 _).k⟩
end Taker
end Go.Proofs.YtnpjkmomllkhpaaGreatDoor
