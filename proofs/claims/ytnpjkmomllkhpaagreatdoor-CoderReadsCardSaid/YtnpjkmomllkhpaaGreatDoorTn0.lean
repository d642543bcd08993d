/- Str, Brief, TextPlain, Rely, Conv. -/
import Derived.WalkKit
import Derived.Test.YtnpjkmomllkhpaaGreatDoorProg
import Derived.Below
import Derived.Deep.RegionHeld3
set_option linter.unusedVariables false
set_option linter.unusedSimpArgs false
namespace Go.Proofs.YtnpjkmomllkhpaaGreatDoor
namespace Str
theorem size_mk (l:List UInt8):(({ data:=l.toArray }:ByteArray)).size=l.length:=by show l.toArray.size=_;simp
theorem size_eq (s:ByteArray):s.size=s.data.toList.length:=by simp
theorem ext {s t:ByteArray} (h:s.data.toList=t.data.toList):s=t:=by
 cases s;cases t;simp at h;rw[h]
theorem mk_toList (s:ByteArray):(({ data:=s.data.toList.toArray }:ByteArray))=s:=ext (by simp)
theorem append_mk (l:List UInt8) (s:ByteArray):({ data:=l.toArray }:ByteArray)++s={ data:=(l++s.data.toList).toArray }:=ext (by simp[ByteArray.data_append])
theorem mk_append_mk (l m:List UInt8):({ data:=l.toArray }:ByteArray)++({ data:=m.toArray }:ByteArray)={ data:=(l++m).toArray }:=ext (by simp[ByteArray.data_append])
theorem extract_toList (s:ByteArray) (i j:Nat):(s.extract i j).data.toList=(s.data.toList.take j).drop i:=by
 simp[ByteArray.data_extract,List.extract_eq_take_drop,List.drop_take]
theorem drop_at (s:ByteArray) (k:Nat) (h:k<s.size):s.data.toList.drop k=s[k]::s.data.toList.drop (k+1):=by
 rw[List.drop_eq_getElem_cons (by simpa using h)];rfl
theorem wrap_i64 (m:Int):IntKind.i64.wrap m=if 9223372036854775808≤m % 18446744073709551616 then m % 18446744073709551616 - 18446744073709551616 else m % 18446744073709551616:=by
 simp[IntKind.wrap,IntKind.bits,IntKind.signed]
end Str
section
open RowKit
section
variable {P:Program} {ops:Array Oper} {Q:Exit→Act→World→Prop} {md:Region.Mode} {S:World→Prop} {oi:Oper} {v:Value} {fuel fuel':Nat} {listed listed':Array Bool} {a a1 a':Act} {w w':World}
structure Way (P:Program) (md:Region.Mode) (ops:Array Oper) (Q:Exit→Act→World→Prop) (S:World→Prop) (w:World) (_:List Nat) (fuel:Nat) (listed:Array Bool) (a:Act) (fuel':Nat) (listed':Array Bool) (a':Act):Prop where
 go:wpAnyH P md ops Q S fuel' listed' a' w→wpAnyH P md ops Q S fuel listed a w
theorem Way.nil:Way P md ops Q S w [] fuel listed a fuel listed a:=⟨fun h=>h⟩
theorem Way.t {i:Nat} {is:List Nat} (hi:ops[i]?=some oi) (hw:Region.wanted oi (yielded ops a.tmps)=true) (hs:Region.noSelect ops=true) (hf:Region.free md ops listed i=true) (hr:(Region.ready md ops listed).contains i=true)
  (hQ:∀ c a w,Q (.panic c) (a.put oi.dst v) w→Q (.panic c) a w) (hy:∀ w,S w→(execOp a.eval oi).run P w=.ok (.value v) w) (hS:S w) (ha:a.put oi.dst v=a1)
  (h:Way P md ops Q S w is fuel (listed.setIfInBounds i true) a1 fuel' listed' a'):Way P md ops Q S w (i::is) (fuel+1) listed a fuel' listed' a' :=
 ⟨fun g=>wpAnyH_take hi hs hf hr hQ (Or.inl ⟨hw,hy⟩) hS (by rw[ha];exact h.go g)⟩
theorem Way.u {i:Nat} {is:List Nat} (hi:ops[i]?=some oi) (hw:Region.wanted oi (yielded ops a.tmps)=false) (hs:Region.noSelect ops=true) (hf:Region.free md ops listed i=true) (hr:(Region.ready md ops listed).contains i=true)
  (hQ:∀ c a w,Q (.panic c) (a.put oi.dst undef) w→Q (.panic c) a w) (hS:S w) (ha:a.put oi.dst undef=a1)
  (h:Way P md ops Q S w is fuel (listed.setIfInBounds i true) a1 fuel' listed' a'):Way P md ops Q S w (i::is) (fuel+1) listed a fuel' listed' a' :=
 ⟨fun g=>wpAnyH_take hi hs hf hr hQ (Or.inr ⟨hw,rfl⟩) hS (by rw[ha];exact h.go g)⟩
theorem tk (is:List Nat) (h:wpAnyH P md ops Q S fuel' listed' a' w)
  (c:Way P md ops Q S w is fuel listed a fuel' listed' a':=by
   repeat (first
    | exact Way.nil
    | (apply Way.t;(focus (simp only[List.getElem?_toArray,List.getElem?_cons_succ,List.getElem?_cons_zero];rfl));(focus (rfl));(focus (kernel_rfl));(focus (kernel_rfl));(focus (kernel_rfl));(focus (exact fun _ _ _ h=>h));(focus (intro w hSw;(try dsimp only at hSw);go_simp;try with_reducible rfl));(focus (assumption));(focus ((try simp only[Act.put,List.setIfInBounds_toArray,List.set_cons_zero,List.set_cons_succ]) <;> rfl)))
    | (apply Way.u;(focus (simp only[List.getElem?_toArray,List.getElem?_cons_succ,List.getElem?_cons_zero];rfl));(focus (rfl));(focus (kernel_rfl));(focus (kernel_rfl));(focus (kernel_rfl));(focus (exact fun _ _ _ h=>h));(focus (assumption));(focus ((try simp only[Act.put,List.setIfInBounds_toArray,List.set_cons_zero,List.set_cons_succ]) <;> rfl))))) :
  wpAnyH P md ops Q S fuel listed a w:=c.go h
theorem tR (i:Nat) (h:∀ K':Act→World→Prop,Shut (∀ a w,S w→(S w→wpAnyH P md ops Q S fuel (listed.setIfInBounds i true) a w)→K' a w)→if Region.wanted oi (yielded ops a.tmps)=true then Oper.wp P oi a w K' Q else K' (a.put oi.dst undef) w)
  (ho:ops[i]?=some oi:=by simp only[List.getElem?_toArray,List.getElem?_cons_succ,List.getElem?_cons_zero];rfl) (hr:Region.ready md ops listed=[i]:=by kernel_rfl) :
  wpAnyH P md ops Q S (fuel+1) listed a w:=wpAnyH_ready hr (by simp) (AllReadyH.cons ho h AllReadyH.nil)
variable {o1 o2:Oper}
theorem tR2 (i j:Nat) (h:∀ K':Act→World→Prop,Shut (∀ a w,S w→(S w→wpAnyH P md ops Q S fuel (listed.setIfInBounds i true) a w)→K' a w)→if Region.wanted oi (yielded ops a.tmps)=true then Oper.wp P oi a w K' Q else K' (a.put oi.dst undef) w)
  (h1:∀ K':Act→World→Prop,Shut (∀ a w,S w→(S w→wpAnyH P md ops Q S fuel (listed.setIfInBounds j true) a w)→K' a w)→if Region.wanted o1 (yielded ops a.tmps)=true then Oper.wp P o1 a w K' Q else K' (a.put o1.dst undef) w)
  (ho:ops[i]?=some oi:=by simp only[List.getElem?_toArray,List.getElem?_cons_succ,List.getElem?_cons_zero];rfl) (ho1:ops[j]?=some o1:=by simp only[List.getElem?_toArray,List.getElem?_cons_succ,List.getElem?_cons_zero];rfl) (hr:Region.ready md ops listed=[i,j]:=by kernel_rfl) :
  wpAnyH P md ops Q S (fuel+1) listed a w:=wpAnyH_ready hr (by simp) (AllReadyH.cons ho h (AllReadyH.cons ho1 h1 AllReadyH.nil))
theorem tD (h:Q .normal a w) (hr:Region.ready md ops listed=[]:=by kernel_rfl):wpAnyH P md ops (NoPanic Q) S fuel listed a w:=wpAnyH_done (Q:=NoPanic Q) hr (NoPanic.normal h) fuel
class Kept (F:World→Prop):Prop where
 k:∀ {w w':World},Below w.heap.size w w'→F w→F w'
instance {F G : World → Prop} [f : Kept F] [g : Kept G] : Kept (fun w => F w ∧ G w) := ⟨fun k h => ⟨f.k k h.1, g.k k h.2⟩⟩
instance {p : Addr} {v : Value} : Kept (fun w => w.cell? p = some v) := ⟨fun k h => (k.cell (p := p) (World.block_lt_of_cell? _ _ h)).trans h⟩
instance {w0 : World} : Kept (fun w => Below w0.heap.size w0 w) := ⟨fun k h => h.trans (k.mono h.size)⟩
instance : Kept (fun _ => True) := ⟨fun _ h => h⟩
class Hd (w:World) (p:Prop) (S:outParam (World→Prop)):Prop where
 t:p→S w
instance {w : World} {p q : Prop} {F G : World → Prop} [f : Hd w p F] [g : Hd w q G] : Hd w (p ∧ q) (fun w => F w ∧ G w) := ⟨fun h => ⟨f.t h.1, g.t h.2⟩⟩
instance {w : World} {p : Addr} {v : Value} : Hd w (w.cell? p = some v) (fun w => w.cell? p = some v) := ⟨id⟩
instance {w w0 : World} : Hd w (Below w0.heap.size w0 w) (fun w => Below w0.heap.size w0 w) := ⟨id⟩
instance {w : World} : Hd w True (fun _ => True) := ⟨id⟩
theorem kp {p:Prop} [d:Hd w p S] [c:Kept S] (k:Below w.heap.size w w') (h:p):S w':=c.k k (d.t h)
theorem bal {o:Obj}:Below w.heap.size w (w.alloc o):=(Below.refl _ _).alloc (Nat.le_refl _) o
theorem tH [c:Kept S] {w0:World} {K:Act→World→Prop} (hK:Shut (∀ a w,S w→(S w→wpAnyH P md ops Q S fuel listed a w)→K a w)) (hS:S w0) (k:Below w0.heap.size w0 w) (h:S w→wpAnyH P md ops Q S fuel listed a' w)
  (ha:a=a':=by (try simp only[Act.put,List.setIfInBounds_toArray,List.set_cons_zero,List.set_cons_succ]);rfl):K a w:=hK.out a w (c.k k hS) (by rw[ha];exact h)
theorem tA [c:Kept S] {w0:World} {o:Obj} {K:Act→World→Prop} (hK:Shut (∀ a w,S w→(S w→wpAnyH P md ops Q S fuel listed a w)→K a w)) (hS:S w0) (h:S (w0.alloc o)→wpAnyH P md ops Q S fuel listed a' (w0.alloc o))
  (ha:a=a':=by (try simp only[Act.put,List.setIfInBounds_toArray,List.set_cons_zero,List.set_cons_succ]);rfl):K a (w0.alloc o):=hK.out a _ (c.k bal hS) (by rw[ha];exact h)
theorem rG {id:Nat} (S:World→Prop) [c:Kept S] (x:S w) (h:∀ wd,S wd→wpAnyH P .any ops (NoPanic Q) S ops.size (Array.replicate ops.size false) a wd) (hm:P.follows .mixedOrders=true:=by kernel_rfl):(Code.region id ops true).wp P Q a w :=
 wp_region_noPanic (wp_region_held_drew hm (c.k (Below.drew (Below.refl _ _)) x) (fun y=>h _ y))
theorem rgd {id:Nat} (S:World→Prop) [c:Kept S] (x:S w) (h:S w.drew→wpAnyH P .any ops (NoPanic Q) S ops.size (Array.replicate ops.size false) a w.drew) (hm:P.follows .mixedOrders=true:=by kernel_rfl):(Code.region id ops true).wp P Q a w :=
 wp_region_noPanic (wp_region_held_drew hm (c.k (Below.drew (Below.refl _ _)) x) h)
variable {w0:World} {id:Nat}
theorem bx (w:World) (L:List Value) (T:TypeId) (j:Nat) (v:Value) (h:L[j]?=some v):(w.alloc (.cells L.toArray T)).cell? ⟨w.heap.size,j,none⟩=some v:=by
 rw[World.cell?_alloc_new,List.getElem?_toArray];exact h
theorem apd (p q:List UInt8) (h:p.length+q.length≤9223372036854775807):∃ C:List UInt8,C=p++q∧C.length=p.length+q.length∧(({ data:=p.toArray }:ByteArray))++{ data:=q.toArray }={ data:=C.toArray }∧(({ data:=C.toArray }:ByteArray)).size=C.length∧¬ (9223372036854775807<p.length+q.length)∧¬ (p.length+q.length > 9223372036854775807) :=
 ⟨_,rfl,List.length_append,Str.mk_append_mk p q,Str.size_mk _,by omega,by omega⟩
variable {R:Nat→Value→Prop} {l:List Value} {v0 v1 v2 v3 v4 v5 v6 v7 v8 v9 v10 v11 v12 v13 v14 v15:Value} {p0 p1 p2 p3 p4 p5 p6 p7 p8 p9 p10 p11 p12 p13 p14 p15:Prop}
theorem al2 (h:∀ j v,(v0::v1::l)[j]?=some v→R j v):R 0 v0∧R 1 v1:=⟨h 0 _ rfl,h 1 _ rfl⟩
theorem al3 (h:∀ j v,(v0::v1::v2::l)[j]?=some v→R j v):R 0 v0∧R 1 v1∧R 2 v2:=⟨h 0 _ rfl,h 1 _ rfl,h 2 _ rfl⟩
theorem al4 (h:∀ j v,(v0::v1::v2::v3::l)[j]?=some v→R j v):R 0 v0∧R 1 v1∧R 2 v2∧R 3 v3:=⟨h 0 _ rfl,h 1 _ rfl,h 2 _ rfl,h 3 _ rfl⟩
theorem al5 (h:∀ j v,(v0::v1::v2::v3::v4::l)[j]?=some v→R j v):R 0 v0∧R 1 v1∧R 2 v2∧R 3 v3∧R 4 v4:=⟨h 0 _ rfl,h 1 _ rfl,h 2 _ rfl,h 3 _ rfl,h 4 _ rfl⟩
theorem al6 (h:∀ j v,(v0::v1::v2::v3::v4::v5::l)[j]?=some v→R j v):R 0 v0∧R 1 v1∧R 2 v2∧R 3 v3∧R 4 v4∧R 5 v5:=⟨h 0 _ rfl,h 1 _ rfl,h 2 _ rfl,h 3 _ rfl,h 4 _ rfl,h 5 _ rfl⟩
theorem al7 (h:∀ j v,(v0::v1::v2::v3::v4::v5::v6::l)[j]?=some v→R j v):R 0 v0∧R 1 v1∧R 2 v2∧R 3 v3∧R 4 v4∧R 5 v5∧R 6 v6:=⟨h 0 _ rfl,h 1 _ rfl,h 2 _ rfl,h 3 _ rfl,h 4 _ rfl,h 5 _ rfl,h 6 _ rfl⟩
theorem al8 (h:∀ j v,(v0::v1::v2::v3::v4::v5::v6::v7::l)[j]?=some v→R j v):R 0 v0∧R 1 v1∧R 2 v2∧R 3 v3∧R 4 v4∧R 5 v5∧R 6 v6∧R 7 v7:=⟨h 0 _ rfl,h 1 _ rfl,h 2 _ rfl,h 3 _ rfl,h 4 _ rfl,h 5 _ rfl,h 6 _ rfl,h 7 _ rfl⟩
theorem al14 (h:∀ j v,(v0::v1::v2::v3::v4::v5::v6::v7::v8::v9::v10::v11::v12::v13::l)[j]?=some v→R j v):R 0 v0∧R 1 v1∧R 2 v2∧R 3 v3∧R 4 v4∧R 5 v5∧R 6 v6∧R 7 v7∧R 8 v8∧R 9 v9∧R 10 v10∧R 11 v11∧R 12 v12∧R 13 v13:=⟨h 0 _ rfl,h 1 _ rfl,h 2 _ rfl,h 3 _ rfl,h 4 _ rfl,h 5 _ rfl,h 6 _ rfl,h 7 _ rfl,h 8 _ rfl,h 9 _ rfl,h 10 _ rfl,h 11 _ rfl,h 12 _ rfl,h 13 _ rfl⟩
theorem al15 (h:∀ j v,(v0::v1::v2::v3::v4::v5::v6::v7::v8::v9::v10::v11::v12::v13::v14::l)[j]?=some v→R j v):R 0 v0∧R 1 v1∧R 2 v2∧R 3 v3∧R 4 v4∧R 5 v5∧R 6 v6∧R 7 v7∧R 8 v8∧R 9 v9∧R 10 v10∧R 11 v11∧R 12 v12∧R 13 v13∧R 14 v14:=⟨h 0 _ rfl,h 1 _ rfl,h 2 _ rfl,h 3 _ rfl,h 4 _ rfl,h 5 _ rfl,h 6 _ rfl,h 7 _ rfl,h 8 _ rfl,h 9 _ rfl,h 10 _ rfl,h 11 _ rfl,h 12 _ rfl,h 13 _ rfl,h 14 _ rfl⟩
variable {b:Nat}
theorem cl1 (x:Nat) (h:∀ j v,(v0::l)[j]?=some v→w.cell? ⟨b,x+j,none⟩=some v):w.cell? ⟨b,x,none⟩=some v0:=h 0 _ rfl
theorem cl2 (x:Nat) (h:∀ j v,(v0::v1::l)[j]?=some v→w.cell? ⟨b,x+j,none⟩=some v):w.cell? ⟨b,x,none⟩=some v0∧w.cell? ⟨b,x+1,none⟩=some v1:=⟨h 0 _ rfl,h 1 _ rfl⟩
theorem cl3 (x:Nat) (h:∀ j v,(v0::v1::v2::l)[j]?=some v→w.cell? ⟨b,x+j,none⟩=some v):w.cell? ⟨b,x,none⟩=some v0∧w.cell? ⟨b,x+1,none⟩=some v1∧w.cell? ⟨b,x+2,none⟩=some v2:=⟨h 0 _ rfl,h 1 _ rfl,h 2 _ rfl⟩
theorem cl6 (x:Nat) (h:∀ j v,(v0::v1::v2::v3::v4::v5::l)[j]?=some v→w.cell? ⟨b,x+j,none⟩=some v):w.cell? ⟨b,x,none⟩=some v0∧w.cell? ⟨b,x+1,none⟩=some v1∧w.cell? ⟨b,x+2,none⟩=some v2∧w.cell? ⟨b,x+3,none⟩=some v3∧w.cell? ⟨b,x+4,none⟩=some v4∧w.cell? ⟨b,x+5,none⟩=some v5:=⟨h 0 _ rfl,h 1 _ rfl,h 2 _ rfl,h 3 _ rfl,h 4 _ rfl,h 5 _ rfl⟩
theorem cl7 (x:Nat) (h:∀ j v,(v0::v1::v2::v3::v4::v5::v6::l)[j]?=some v→w.cell? ⟨b,x+j,none⟩=some v):w.cell? ⟨b,x,none⟩=some v0∧w.cell? ⟨b,x+1,none⟩=some v1∧w.cell? ⟨b,x+2,none⟩=some v2∧w.cell? ⟨b,x+3,none⟩=some v3∧w.cell? ⟨b,x+4,none⟩=some v4∧w.cell? ⟨b,x+5,none⟩=some v5∧w.cell? ⟨b,x+6,none⟩=some v6:=⟨h 0 _ rfl,h 1 _ rfl,h 2 _ rfl,h 3 _ rfl,h 4 _ rfl,h 5 _ rfl,h 6 _ rfl⟩
theorem cl15 (x:Nat) (h:∀ j v,(v0::v1::v2::v3::v4::v5::v6::v7::v8::v9::v10::v11::v12::v13::v14::l)[j]?=some v→w.cell? ⟨b,x+j,none⟩=some v):w.cell? ⟨b,x,none⟩=some v0∧w.cell? ⟨b,x+1,none⟩=some v1∧w.cell? ⟨b,x+2,none⟩=some v2∧w.cell? ⟨b,x+3,none⟩=some v3∧w.cell? ⟨b,x+4,none⟩=some v4∧w.cell? ⟨b,x+5,none⟩=some v5∧w.cell? ⟨b,x+6,none⟩=some v6∧w.cell? ⟨b,x+7,none⟩=some v7∧w.cell? ⟨b,x+8,none⟩=some v8∧w.cell? ⟨b,x+9,none⟩=some v9∧w.cell? ⟨b,x+10,none⟩=some v10∧w.cell? ⟨b,x+11,none⟩=some v11∧w.cell? ⟨b,x+12,none⟩=some v12∧w.cell? ⟨b,x+13,none⟩=some v13∧w.cell? ⟨b,x+14,none⟩=some v14:=⟨h 0 _ rfl,h 1 _ rfl,h 2 _ rfl,h 3 _ rfl,h 4 _ rfl,h 5 _ rfl,h 6 _ rfl,h 7 _ rfl,h 8 _ rfl,h 9 _ rfl,h 10 _ rfl,h 11 _ rfl,h 12 _ rfl,h 13 _ rfl,h 14 _ rfl⟩
theorem balo (o:Obj):Below w.heap.size w (w.alloc o):=bal
theorem dT {p:Prop} [Decidable p] (h:p:=by omega):decide p=true:=decide_eq_true h
theorem dF {p:Prop} [Decidable p] (h:¬ p:=by omega):decide p=false:=decide_eq_false h
theorem bT {a b:Int} (h:a=b:=by omega):(a == b)=true:=by rw[beq_iff_eq];exact h
theorem bF {a b:Int} (h:¬ a=b:=by omega):(a == b)=false:=by rw[beq_eq_false_iff_ne];exact h
theorem hid {p:Prop} (h:p):Hid p:=h
theorem aj2 (x0:p0) (x1:p1):p0∧p1:=⟨x0,x1⟩
theorem aj3 (x0:p0) (x1:p1) (x2:p2):p0∧p1∧p2:=⟨x0,x1,x2⟩
theorem aj4 (x0:p0) (x1:p1) (x2:p2) (x3:p3):p0∧p1∧p2∧p3:=⟨x0,x1,x2,x3⟩
theorem aj5 (x0:p0) (x1:p1) (x2:p2) (x3:p3) (x4:p4):p0∧p1∧p2∧p3∧p4:=⟨x0,x1,x2,x3,x4⟩
theorem aj6 (x0:p0) (x1:p1) (x2:p2) (x3:p3) (x4:p4) (x5:p5):p0∧p1∧p2∧p3∧p4∧p5:=⟨x0,x1,x2,x3,x4,x5⟩
theorem aj7 (x0:p0) (x1:p1) (x2:p2) (x3:p3) (x4:p4) (x5:p5) (x6:p6):p0∧p1∧p2∧p3∧p4∧p5∧p6:=⟨x0,x1,x2,x3,x4,x5,x6⟩
theorem aj8 (x0:p0) (x1:p1) (x2:p2) (x3:p3) (x4:p4) (x5:p5) (x6:p6) (x7:p7):p0∧p1∧p2∧p3∧p4∧p5∧p6∧p7:=⟨x0,x1,x2,x3,x4,x5,x6,x7⟩
theorem aj9 (x0:p0) (x1:p1) (x2:p2) (x3:p3) (x4:p4) (x5:p5) (x6:p6) (x7:p7) (x8:p8):p0∧p1∧p2∧p3∧p4∧p5∧p6∧p7∧p8:=⟨x0,x1,x2,x3,x4,x5,x6,x7,x8⟩
theorem aj10 (x0:p0) (x1:p1) (x2:p2) (x3:p3) (x4:p4) (x5:p5) (x6:p6) (x7:p7) (x8:p8) (x9:p9):p0∧p1∧p2∧p3∧p4∧p5∧p6∧p7∧p8∧p9:=⟨x0,x1,x2,x3,x4,x5,x6,x7,x8,x9⟩
theorem aj11 (x0:p0) (x1:p1) (x2:p2) (x3:p3) (x4:p4) (x5:p5) (x6:p6) (x7:p7) (x8:p8) (x9:p9) (x10:p10):p0∧p1∧p2∧p3∧p4∧p5∧p6∧p7∧p8∧p9∧p10:=⟨x0,x1,x2,x3,x4,x5,x6,x7,x8,x9,x10⟩
theorem aj12 (x0:p0) (x1:p1) (x2:p2) (x3:p3) (x4:p4) (x5:p5) (x6:p6) (x7:p7) (x8:p8) (x9:p9) (x10:p10) (x11:p11):p0∧p1∧p2∧p3∧p4∧p5∧p6∧p7∧p8∧p9∧p10∧p11:=⟨x0,x1,x2,x3,x4,x5,x6,x7,x8,x9,x10,x11⟩
theorem aj13 (x0:p0) (x1:p1) (x2:p2) (x3:p3) (x4:p4) (x5:p5) (x6:p6) (x7:p7) (x8:p8) (x9:p9) (x10:p10) (x11:p11) (x12:p12):p0∧p1∧p2∧p3∧p4∧p5∧p6∧p7∧p8∧p9∧p10∧p11∧p12:=⟨x0,x1,x2,x3,x4,x5,x6,x7,x8,x9,x10,x11,x12⟩
theorem aj14 (x0:p0) (x1:p1) (x2:p2) (x3:p3) (x4:p4) (x5:p5) (x6:p6) (x7:p7) (x8:p8) (x9:p9) (x10:p10) (x11:p11) (x12:p12) (x13:p13):p0∧p1∧p2∧p3∧p4∧p5∧p6∧p7∧p8∧p9∧p10∧p11∧p12∧p13:=⟨x0,x1,x2,x3,x4,x5,x6,x7,x8,x9,x10,x11,x12,x13⟩
theorem aj15 (x0:p0) (x1:p1) (x2:p2) (x3:p3) (x4:p4) (x5:p5) (x6:p6) (x7:p7) (x8:p8) (x9:p9) (x10:p10) (x11:p11) (x12:p12) (x13:p13) (x14:p14):p0∧p1∧p2∧p3∧p4∧p5∧p6∧p7∧p8∧p9∧p10∧p11∧p12∧p13∧p14:=⟨x0,x1,x2,x3,x4,x5,x6,x7,x8,x9,x10,x11,x12,x13,x14⟩
theorem aj16 (x0:p0) (x1:p1) (x2:p2) (x3:p3) (x4:p4) (x5:p5) (x6:p6) (x7:p7) (x8:p8) (x9:p9) (x10:p10) (x11:p11) (x12:p12) (x13:p13) (x14:p14) (x15:p15):p0∧p1∧p2∧p3∧p4∧p5∧p6∧p7∧p8∧p9∧p10∧p11∧p12∧p13∧p14∧p15:=⟨x0,x1,x2,x3,x4,x5,x6,x7,x8,x9,x10,x11,x12,x13,x14,x15⟩
theorem rh {S:World→Prop} {p:Prop} [d:Hd w p S] [c:Kept S] (x:p) (h:∀ wd,S wd→wpAnyH P .any ops (NoPanic Q) S ops.size (Array.replicate ops.size false) a wd) (hm:P.follows .mixedOrders=true:=by kernel_rfl):(Code.region id ops true).wp P Q a w:=rG S (d.t x) h hm
theorem rhd {S:World→Prop} {p:Prop} [d:Hd w p S] [c:Kept S] (x:p) (h:S w.drew→wpAnyH P .any ops (NoPanic Q) S ops.size (Array.replicate ops.size false) a w.drew) (hm:P.follows .mixedOrders=true:=by kernel_rfl):(Code.region id ops true).wp P Q a w:=rgd S (d.t x) h hm
theorem nm {α:Type} (a:α):∃ v,v=a:=⟨_,rfl⟩
theorem tr {α β γ:Type} (t:α × β × γ):∃ x y z,t=(x,y,z):=⟨_,_,_,rfl⟩
variable {f:FuncId} {ag:Array Value} {V:Ending→World→Prop} {vr:Value}
theorem cr {R:World→Prop} (h:Calls P f ag w fun e w'=>e=.returned vr∧R w') (k:∀ w',R w'→V (.returned vr) w'):Calls P f ag w V:=h.mono fun _ w' ⟨x,y⟩=>x ▸ k w' y
theorem cq {w2:World} (h:Calls P f ag w fun e w'=>e=.returned vr∧w'=w2) (k:V (.returned vr) w2):Calls P f ag w V:=h.mono fun _ _ ⟨x,y⟩=>x ▸ y ▸ k
theorem cp {R:World→Prop} (h:Calls P f ag w fun e w'=>e=.returned vr∧R w') (k:V (.returned vr) w) (hR:∀ w',R w'→w'=w:=by intro _ h;first | exact h | exact h.symm):Calls P f ag w V:=h.mono fun _ w' ⟨x,y⟩=>x ▸ (hR w' y).symm ▸ k
end
abbrev CB (f:FuncId) (ag:Array Value) (w:World) (v:Value):Prop:=Calls Tryz.prog f ag w fun e w'=>e=.returned v∧Below w.heap.size w w'
abbrev CP (f:FuncId) (ag:Array Value) (w:World) (v:Value):Prop:=Calls Tryz.prog f ag w fun e w'=>e=.returned v∧w=w'
instance : Coe (List UInt8) Value := ⟨fun l => .string ⟨l.toArray⟩⟩
instance : Coe Nat Value := ⟨fun n => .int .u64 n⟩
instance : Coe Bool Value := ⟨.bool⟩
theorem qB {f:FuncId} {ag:Array Value} {w:World} {a b:Bool} (h:a=b) (c:CB f ag w b):CB f ag w a:=h ▸ c
theorem qS {f:FuncId} {ag:Array Value} {w:World} {a b:List UInt8} (h:a=b) (c:CB f ag w b):CB f ag w a:=h ▸ c
end
namespace Text
theorem u8_eq {c:UInt8} {n:Nat} (h:c.toNat=n):c=UInt8.ofNat n:=by
 rw[← UInt8.toNat_inj,UInt8.toNat_ofNat',h];have:=c.toNat_lt;omega
theorem u8_nat {n:Nat} (h:n<256):(UInt8.ofNat n).toNat=n:=by rw[UInt8.toNat_ofNat'];omega
def enc (x:Nat):List UInt8 :=
 if x<128 then [UInt8.ofNat x]
 else if x<2048 then [UInt8.ofNat (192+x / 64),UInt8.ofNat (128+x % 64)]
 else if x<65536 then [UInt8.ofNat (224+x / 4096),UInt8.ofNat (128+x / 64 % 64),UInt8.ofNat (128+x % 64)]
 else [UInt8.ofNat (240+x / 262144),UInt8.ofNat (128+x / 4096 % 64),UInt8.ofNat (128+x / 64 % 64),UInt8.ofNat (128+x % 64)]
def Scalar (x:Nat):Prop:=x<55296∨(57344≤x∧x≤1114111)
instance (x : Nat) : Decidable (Scalar x) := inferInstanceAs (Decidable (_ ∨ _))
def Cont (c:UInt8):Prop:=128≤c.toNat∧c.toNat<192
instance (c : UInt8) : Decidable (Cont c) := inferInstanceAs (Decidable (_ ∧ _))
def rune:List UInt8→Option (Nat × Nat)
 | []=>none
 | c::r =>
  if c.toNat<128 then some (c.toNat,1)
  else if 192≤c.toNat∧c.toNat<224 then
   match r with
   | c1::_=>if Cont c1∧128≤64*(c.toNat - 192)+(c1.toNat - 128) then some (64*(c.toNat - 192)+(c1.toNat - 128),2) else none
   | []=>none
  else if 224≤c.toNat∧c.toNat<240 then
   match r with
   | c1::c2::_ =>
    if Cont c1∧Cont c2∧2048≤64*(64*(c.toNat - 224)+(c1.toNat - 128))+(c2.toNat - 128)∧Scalar (64*(64*(c.toNat - 224)+(c1.toNat - 128))+(c2.toNat - 128)) then
     some (64*(64*(c.toNat - 224)+(c1.toNat - 128))+(c2.toNat - 128),3) else none
   | _=>none
  else if 240≤c.toNat∧c.toNat<248 then
   match r with
   | c1::c2::c3::_ =>
    if Cont c1∧Cont c2∧Cont c3∧65536≤64*(64*(64*(c.toNat - 240)+(c1.toNat - 128))+(c2.toNat - 128))+(c3.toNat - 128)∧Scalar (64*(64*(64*(c.toNat - 240)+(c1.toNat - 128))+(c2.toNat - 128))+(c3.toNat - 128)) then
     some (64*(64*(64*(c.toNat - 240)+(c1.toNat - 128))+(c2.toNat - 128))+(c3.toNat - 128),4) else none
   | _=>none
  else none
theorem name (n:Nat) (h:n<256):∃ c:UInt8,UInt8.ofNat n=c∧c.toNat=n:=⟨_,rfl,u8_nat h⟩
theorem rune_enc (x:Nat) (t:List UInt8) (h:Scalar x):rune (enc x++t)=some (x,(enc x).length):=by
 have h':=h;unfold Scalar at h';unfold enc;split
 ·obtain ⟨c,e,hc⟩:=name x (by omega);rw[e];simp only[List.cons_append,List.nil_append,rune];rw[if_pos (by omega),hc];rfl
 split
 ·obtain ⟨c,e,hc⟩:=name (192+x / 64) (by omega);obtain ⟨c1,e1,hc1⟩:=name (128+x % 64) (by omega);have k:64*(c.toNat - 192)+(c1.toNat - 128)=x:=by omega
  rw[e,e1];simp only[List.cons_append,List.nil_append,rune];rw[if_neg (by omega),if_pos (by omega),if_pos (by unfold Cont;omega),k];rfl
 split
 ·obtain ⟨c,e,hc⟩:=name (224+x / 4096) (by omega);obtain ⟨c1,e1,hc1⟩:=name (128+x / 64 % 64) (by omega);obtain ⟨c2,e2,hc2⟩:=name (128+x % 64) (by omega);have k:64*(64*(c.toNat - 224)+(c1.toNat - 128))+(c2.toNat - 128)=x:=by omega
  rw[e,e1,e2];simp only[List.cons_append,List.nil_append,rune];rw[if_neg (by omega),if_neg (by omega),if_pos (by omega),k,if_pos ⟨by unfold Cont;omega,by unfold Cont;omega,by omega,h⟩];rfl
 obtain ⟨c,e,hc⟩:=name (240+x / 262144) (by omega);obtain ⟨c1,e1,hc1⟩:=name (128+x / 4096 % 64) (by omega);obtain ⟨c2,e2,hc2⟩:=name (128+x / 64 % 64) (by omega);obtain ⟨c3,e3,hc3⟩:=name (128+x % 64) (by omega);have k:64*(64*(64*(c.toNat - 240)+(c1.toNat - 128))+(c2.toNat - 128))+(c3.toNat - 128)=x:=by omega
 rw[e,e1,e2,e3];simp only[List.cons_append,List.nil_append,rune];rw[if_neg (by omega),if_neg (by omega),if_neg (by omega),if_pos (by omega),k,if_pos ⟨by unfold Cont;omega,by unfold Cont;omega,by unfold Cont;omega,by omega,h⟩];rfl
theorem rune_some {l:List UInt8} {x n:Nat} (h:rune l=some (x,n)):Scalar x∧n=(enc x).length∧∃ t,l=enc x++t:=by
 match l,h with
 | [],h=>simp[rune] at h
 | c::r,h =>
  simp only[rune] at h;split at h
  ·simp only[Option.some.injEq,Prod.mk.injEq] at h;obtain ⟨rfl,rfl⟩:=h;rename_i hc
   refine ⟨.inl (by omega),by simp[enc,hc],r,?_⟩;rw[enc,if_pos hc,← u8_eq rfl];rfl
  split at h
  ·rename_i hc
   match r,h with
   | [],h=>simp at h
   | c1::t,h =>
    simp only at h;split at h
    ·rename_i hx
     simp only[Option.some.injEq,Prod.mk.injEq] at h;obtain ⟨hx1,rfl⟩:=h;unfold Cont at hx;have e1:x / 64=c.toNat - 192:=by omega
     have e2:x % 64=c1.toNat - 128:=by omega
     have e:enc x=[c,c1]:=by
      rw[enc,if_neg (by omega),if_pos (by omega),← u8_eq (c:=c) (by omega),← u8_eq (c:=c1) (by omega)]
     exact ⟨.inl (by omega),by rw[e];rfl,t,by rw[e];rfl⟩
    simp at h
  split at h
  ·rename_i hc
   match r,h with
   | [],h=>simp at h
   | [_],h=>simp at h
   | c1::c2::t,h =>
    simp only at h;split at h
    ·rename_i hx
     simp only[Option.some.injEq,Prod.mk.injEq] at h;obtain ⟨hx1,rfl⟩:=h;obtain ⟨g1,g2,g3,g4⟩:=hx;rw[hx1] at g4;unfold Cont at g1 g2;have e1:x / 4096=c.toNat - 224:=by omega
     have e2:x / 64 % 64=c1.toNat - 128:=by omega
     have e3:x % 64=c2.toNat - 128:=by omega
     have e:enc x=[c,c1,c2]:=by
      rw[enc,if_neg (by omega),if_neg (by omega),if_pos (by omega),← u8_eq (c:=c) (by omega),← u8_eq (c:=c1) (by omega),← u8_eq (c:=c2) (by omega)]
     exact ⟨g4,by rw[e];rfl,t,by rw[e];rfl⟩
    simp at h
  split at h
  ·rename_i hc
   match r,h with
   | [],h=>simp at h
   | [_],h=>simp at h
   | [_,_],h=>simp at h
   | c1::c2::c3::t,h =>
    simp only at h;split at h
    ·rename_i hx
     simp only[Option.some.injEq,Prod.mk.injEq] at h;obtain ⟨hx1,rfl⟩:=h;obtain ⟨g1,g2,g3,g4,g5⟩:=hx;rw[hx1] at g5;unfold Cont at g1 g2 g3;have e1:x / 262144=c.toNat - 240:=by omega
     have e2:x / 4096 % 64=c1.toNat - 128:=by omega
     have e3:x / 64 % 64=c2.toNat - 128:=by omega
     have e4:x % 64=c3.toNat - 128:=by omega
     have e:enc x=[c,c1,c2,c3]:=by
      rw[enc,if_neg (by omega),if_neg (by omega),if_neg (by omega),← u8_eq (c:=c) (by omega),← u8_eq (c:=c1) (by omega),← u8_eq (c:=c2) (by omega),← u8_eq (c:=c3) (by omega)]
     exact ⟨g5,by rw[e];rfl,t,by rw[e];rfl⟩
    simp at h
  simp at h
theorem enc_length (x:Nat):1≤(enc x).length∧(enc x).length≤4:=by
 unfold enc;split;simp;split;simp;split <;> simp
def runesF:Nat→List UInt8→Option (List Nat)
 | _,[]=>some []
 | 0,_=>none
 | f+1,l=>match rune l with
  | none=>none
  | some (x,n)=>(runesF f (l.drop n)).map (x :: ·)
def runes (l:List UInt8):Option (List Nat):=runesF l.length l
def cat (xs:List Nat):List UInt8:=xs.flatMap enc
theorem cat_nil:cat []=[]:=rfl
theorem cat_cons (x:Nat) (xs:List Nat):cat (x::xs)=enc x++cat xs:=by simp[cat]
theorem cat_append (xs ys:List Nat):cat (xs++ys)=cat xs++cat ys:=by simp[cat]
theorem runesF_step (f:Nat) (l:List UInt8) (h:l≠[]) (x n:Nat) (hr:rune l=some (x,n)):runesF (f+1) l=(runesF f (l.drop n)).map (x :: ·):=by
 cases l with
 | nil=>exact absurd rfl h
 | cons c r=>rw[runesF];simp only[hr];intro e;cases e
theorem runesF_cat:∀ (xs:List Nat) (f:Nat),(cat xs).length≤f→(∀ x ∈ xs,Scalar x)→runesF f (cat xs)=some xs
 | [],f,_,_=>by cases f <;> rfl
 | x::xs,f,hf,hs=>by
  have hx:=hs x (List.mem_cons_self);obtain ⟨h1,h2⟩:=enc_length x;rw[cat_cons,List.length_append] at hf;obtain ⟨f,rfl⟩:∃ g,f=g+1:=⟨f - 1,by omega⟩
  have hne:cat (x::xs)≠[]:=by
   intro e;have:=congrArg List.length e;rw[cat_cons] at this;simp only[List.length_append,List.length_nil] at this;omega
  have hr:rune (cat (x::xs))=some (x,(enc x).length):=by rw[cat_cons];exact rune_enc x _ hx
  rw[runesF_step f _ hne x _ hr,show (cat (x::xs)).drop (enc x).length=cat xs by rw[cat_cons,List.drop_left],runesF_cat xs f (by omega) (fun y hy=>hs y (List.mem_cons_of_mem _ hy))];rfl
theorem runes_cat (xs:List Nat) (hs:∀ x ∈ xs,Scalar x):runes (cat xs)=some xs:=runesF_cat xs _ (Nat.le_refl _) hs
theorem runesF_some:∀ (f:Nat) (l:List UInt8) (xs:List Nat),runesF f l=some xs→l=cat xs∧∀ x ∈ xs,Scalar x:=by
 intro f;induction f with
 | zero =>
  intro l xs h;match l,h with
  | [],h=>simp[runesF] at h;subst h;exact ⟨rfl,fun x hx=>by cases hx⟩
  | _::_,h=>simp[runesF] at h
 | succ f ih =>
  intro l xs h;match l,h with
  | [],h=>simp[runesF] at h;subst h;exact ⟨rfl,fun x hx=>by cases hx⟩
  | c::r,h =>
   simp only[runesF] at h;match hr:rune (c::r),h with
   | none,h=>simp at h
   | some (x,n),h =>
    simp only[Option.map_eq_some_iff] at h;obtain ⟨ys,hy,rfl⟩:=h;obtain ⟨g1,g2,t,g3⟩:=rune_some hr;obtain ⟨k1,k2⟩:=ih _ _ hy;rw[g3,g2,List.drop_left] at k1;refine ⟨by rw[cat_cons,← k1,g3],fun y hy=>?_⟩;rcases List.mem_cons.1 hy with rfl | hy
    · exact g1
    exact k2 y hy
theorem runes_some {l:List UInt8} {xs:List Nat} (h:runes l=some xs):l=cat xs∧∀ x ∈ xs,Scalar x:=runesF_some _ _ _ h
theorem runes_behind (xs:List Nat) (t:List UInt8) (hx:∀ x ∈ xs,Scalar x):runes (cat xs++t)=(runes t).map (xs ++ ·):=by
 cases ht:runes t with
 | some ys =>
  obtain ⟨rfl,hy⟩:=runes_some ht;rw[← cat_append];exact runes_cat _ (fun z hz=>by rcases List.mem_append.1 hz with h | h;exact hx z h;exact hy z h)
 | none =>
  cases ha:runes (cat xs++t) with
  | none=>rfl
  | some zs =>
   exfalso;obtain ⟨e,hz⟩:=runes_some ha;clear ha;induction xs generalizing zs with
   | nil=>rw[show t=cat zs from e] at ht;rw[runes_cat zs hz] at ht;simp at ht
   | cons x xs ih =>
    cases zs with
    | nil =>
     have h1:=congrArg List.length e;have h2:=enc_length x;rw[cat_cons,cat_nil] at h1;simp only[List.length_append,List.length_nil] at h1;omega
    | cons z zs =>
     rw[cat_cons,cat_cons,List.append_assoc] at e;have h1:=rune_enc x (cat xs++t) (hx x List.mem_cons_self);rw[e,rune_enc z _ (hz z List.mem_cons_self)] at h1;simp only[Option.some.injEq,Prod.mk.injEq] at h1;obtain ⟨rfl,_⟩:=h1;exact ih (fun y hy=>hx y (List.mem_cons_of_mem _ hy)) zs (List.append_cancel_left e) (fun y hy=>hz y (List.mem_cons_of_mem _ hy))
theorem rune_none {t:List UInt8} (h:rune t=none) (ht:t≠[]):runes t=none:=by
 cases hr:runes t with
 | none=>rfl
 | some xs =>
  obtain ⟨rfl,hx⟩:=runes_some hr;cases xs with
  | nil=>exact absurd rfl ht
  | cons x xs=>rw[cat_cons,rune_enc x _ (hx x List.mem_cons_self)] at h;simp at h
end Text
section
open RowKit
namespace Rely
variable {P:Program} {ops:Array Oper} {Q:Exit→Act→World→Prop} {md:Region.Mode} {S:World→Prop}
def upd (f:Nat→Value) (d:Nat) (v:Value):Nat→Value:=fun x=>if x=d then v else f x
def fill (f:Nat→Value):List Nat→Array Value→Array Value
 | [],t=>t
 | d::D,t=>fill f D (t.setIfInBounds d (f d))
def fillA (a:Act) (D:List Nat) (f:Nat→Value):Act:={ a with tmps:=fill f D a.tmps }
theorem fill_set (f:Nat→Value):∀ (D:List Nat) (t:Array Value) (d:Nat) (v:Value),d ∉ D→(fill f D t).setIfInBounds d v=fill f D (t.setIfInBounds d v)
 | [],_,_,_,_=>rfl
 | e::D,t,d,v,h=>by
  have hne:e≠d:=fun x=>h (by rw[x];exact List.mem_cons_self ..);rw[fill,fill,fill_set f D _ d v (fun x=>h (List.mem_cons_of_mem _ x)),Array.setIfInBounds_comm _ _ hne]
theorem fill_other (f:Nat→Value) (d:Nat) (v:Value):∀ (D:List Nat) (t:Array Value),d ∉ D→fill (upd f d v) D t=fill f D t
 | [],_,_=>rfl
 | e::D,t,h=>by
  have hne:e≠d:=fun x=>h (by rw[x];exact List.mem_cons_self ..);have hu:upd f d v e=f e:=by unfold upd;rw[if_neg hne]
  rw[fill,fill,hu,fill_other f d v D _ (fun x=>h (List.mem_cons_of_mem _ x))]
theorem fill_upd (f:Nat→Value) (d:Nat) (v:Value):∀ (D:List Nat) (t:Array Value),d ∈ D→D.Nodup→(fill f D t).setIfInBounds d v=fill (upd f d v) D t
 | [],_,h,_=>by cases h
 | e::D,t,h,hn=>by
  rw[List.nodup_cons] at hn;by_cases hd:e=d
  ·subst hd;have hu:upd f e v e=v:=by unfold upd;rw[if_pos rfl]
   rw[fill,fill,fill_set f D _ e v hn.1,hu,fill_other f e v D _ hn.1,Array.setIfInBounds_setIfInBounds]
  have hu:upd f d v e=f e:=by unfold upd;rw[if_neg hd]
  rw[fill,fill,hu];exact fill_upd f d v D _ ((List.mem_cons.1 h).resolve_left (fun x=>hd x.symm)) hn.2
theorem fill_same (f:Nat→Value):∀ (D:List Nat) (t:Array Value),(∀ d ∈ D,f d=t.getD d undef)→fill f D t=t
 | [],_,_=>rfl
 | d::D,t,h=>by
  have e:t.setIfInBounds d (f d)=t:=by
   rw[h d (List.mem_cons_self ..)];apply Array.ext_getElem?;intro i;rw[Array.getElem?_setIfInBounds];by_cases hi:d=i
   ·subst hi;by_cases hl:d<t.size
    · simp[hl]
    simp[hl]
   simp[hi]
  rw[fill,e];exact fill_same f D t fun x hx=>h x (List.mem_cons_of_mem _ hx)
theorem filter_less {α:Type} (p q:α→Bool) (i:α):∀ l:List α,(∀ x,q x=true→p x=true)→i ∈ l→p i=true→q i=false→(l.filter q).length<(l.filter p).length
 | [],_,h,_,_=>by cases h
 | x::l,hq,h,h1,h2=>by
  have hle:(l.filter q).length≤(l.filter p).length:=by
   clear h;induction l with
   | nil=>simp
   | cons y l ih =>
    rw[List.filter_cons,List.filter_cons];cases hy:q y
    ·simp only[Bool.false_eq_true,if_false];split
     · rw[List.length_cons];omega
     exact ih
    rw[hq y hy];simp only[if_true,List.length_cons];omega
  rw[List.filter_cons,List.filter_cons];rcases List.mem_cons.1 h with rfl | h
  · rw[h1,h2];simp only[Bool.false_eq_true,if_false,if_true,List.length_cons];omega
  have ih:=filter_less p q i l hq h h1 h2;cases hy:q x
  ·simp only[Bool.false_eq_true,if_false];split
   · rw[List.length_cons];omega
   exact ih
  rw[hq x hy];simp only[if_true,List.length_cons];omega
def un (ops:Array Oper) (listed:Array Bool):List Nat:=(List.range ops.size).filter fun i => !listed.getD i true
theorem un_mem {listed:Array Bool} {i:Nat} {o:Oper} (h:ops[i]?=some o):i ∈ un ops listed↔listed.getD i true=false:=by
 unfold un;rw[List.mem_filter,List.mem_range];simp only[Bool.not_eq_true'];exact ⟨fun h=>h.2,fun k=>⟨(Array.getElem?_eq_some_iff.1 h).1,k⟩⟩
theorem un_set {listed:Array Bool} {i:Nat} (hi:i<ops.size) (h:listed.getD i true=false):(un ops (listed.setIfInBounds i true)).length<(un ops listed).length:=by
 have hs:i<listed.size:=by
  rcases Nat.lt_or_ge i listed.size with h' | h'
  · exact h'
  rw[Array.getD_eq_getD_getElem?,Array.getElem?_eq_none h'] at h;cases h
 refine filter_less _ _ i _ (fun x hx=>?_) (List.mem_range.2 hi) (by rw[h];rfl) ?_
 ·by_cases e:i=x
  · subst e;simp[hs] at hx
  rw[getD_set_ne true e] at hx;exact hx
 simp[hs]
theorem core (a:Act) (D:List Nat) (hD:D.Nodup) (R:Nat→Value→World→Prop) (listed0:Array Bool) (_hsz:listed0.size=ops.size)
  (hdst:∀ (i:Nat) (o:Oper),ops[i]?=some o→listed0.getD i true=false→∃ d,o.dst=some d∧d ∈ D)
  (hinj:∀ (i j:Nat) (oi oj:Oper) (d:Nat),ops[i]?=some oi→ops[j]?=some oj→listed0.getD i true=false→listed0.getD j true=false→oi.dst=some d→oj.dst=some d→i=j)
  (hdown:∀ (i:Nat) (o:Oper),ops[i]?=some o→∀ e ∈ o.after,e.on<i)
  (hst:∀ d x w w',R d x w→Below w.heap.size w w'→R d x w')
  (step:∀ (i:Nat) (o:Oper) (d:Nat),ops[i]?=some o→listed0.getD i true=false→o.dst=some d→∀ f w,S w→(∀ e ∈ o.after,Region.binds md e=true→listed0.getD e.on true=false→∀ o' d',ops[e.on]?=some o'→o'.dst=some d'→R d' (f d') w) →
   wpOp P ops Q i (fun a' w'=>∃ v,a'=(fillA a D f).put (some d) v∧R d v w'∧S w'∧Below w.heap.size w w') (fillA a D f) w)
  (fin:∀ f w,S w→(∀ i o d,ops[i]?=some o→listed0.getD i true=false→o.dst=some d→R d (f d) w)→Q .normal (fillA a D f) w) :
  ∀ (fuel:Nat) (listed:Array Bool) (f:Nat→Value) (w:World),listed.size=ops.size→(∀ i,listed0.getD i true=true→listed.getD i true=true)→(un ops listed).length≤fuel→S w →
   (∀ i o d,ops[i]?=some o→listed0.getD i true=false→listed.getD i true=true→o.dst=some d→R d (f d) w)→wpAnyH P md ops Q S fuel listed (fillA a D f) w:=by
 have all:∀ listed:Array Bool,listed.size=ops.size→Region.ready md ops listed=[]→∀ i,i<ops.size→listed.getD i true=true:=by
  intro listed hl hr i;induction i using Nat.strongRecOn with
  | ind i ih =>
   intro hi;cases h:listed.getD i true with
   | true=>rfl
   | false =>
    have ho:=Array.getElem?_eq_getElem hi;have:i ∈ Region.ready md ops listed:=mem_ready.2 ⟨h,_,ho,fun e he _=>by
     have h1:=hdown i _ ho e he;have h2:=ih e.on h1 (by omega);have h3:e.on<listed.size:=by omega
     rw[Array.getD_eq_getD_getElem?,Array.getElem?_eq_getElem h3] at h2 ⊢;exact h2⟩
    rw[hr] at this;cases this
 intro fuel;induction fuel with
 | zero =>
  intro listed f w hl hsub hc hS hR;have hall:∀ i o,ops[i]?=some o→listed.getD i true=true:=fun i o ho=>by
   cases h:listed.getD i true with
   | true=>rfl
   | false =>
    have:=(un_mem (ops:=ops) ho).2 h;have h0:un ops listed=[]:=List.length_eq_zero_iff.1 (by omega);rw[h0] at this;cases this
  refine ⟨?_,fin f w hS fun i o d ho h0 hd=>hR i o d ho h0 (hall i o ho) hd⟩;rw[List.eq_nil_iff_forall_not_mem];intro i hi;obtain ⟨h,o,ho,_⟩:=mem_ready.1 hi;rw[hall i o ho] at h;cases h
 | succ fuel ih =>
  intro listed f w hl hsub hc hS hR;refine ⟨fun hr=>fin f w hS fun i o d ho h0 hd=>hR i o d ho h0 (all listed hl hr i (Array.getElem?_eq_some_iff.1 ho).1) hd,fun i hi=>?_⟩;obtain ⟨hun,o,ho,hedge⟩:=mem_ready.1 hi;have h0:listed0.getD i true=false:=by
   cases h:listed0.getD i true with
   | false=>rfl
   | true=>rw[hsub i h] at hun;cases hun
  obtain ⟨d,hd,hdD⟩:=hdst i o ho h0;have hi':=(Array.getElem?_eq_some_iff.1 ho).1;refine wpOp_mono ?_ (step i o d ho h0 hd f w hS fun e he hb h1 o' d' ho' hd'=>hR e.on o' d' ho' h1 (by
   have h2:=hedge e he hb;have h3:e.on<listed.size:=by have:=hdown i o ho e he;omega
   rw[Array.getD_eq_getD_getElem?,Array.getElem?_eq_getElem h3] at h2 ⊢;exact h2) hd')
  rintro a' w' ⟨v,rfl,hv,hS',hb⟩;refine ⟨hS',?_⟩;have e:(fillA a D f).put (some d) v=fillA a D (upd f d v):=by
   unfold fillA Act.put;simp only[fill_upd f d v D a.tmps hdD hD]
  rw[e];refine ih _ _ w' (by rw[Array.size_setIfInBounds];exact hl) (fun j hj=>?_) (by have:=un_set (ops:=ops) hi' hun;omega) hS' fun j o' d' ho' h1 h2 hd'=>?_
  ·by_cases hij:i=j
   · subst hij;rw[h0] at hj;cases hj
   rw[getD_set_ne true hij];exact hsub j hj
  by_cases hij:i=j
  ·subst hij;rw[ho] at ho';cases ho';rw[hd] at hd';cases hd';have:upd f d v d=v:=by unfold upd;rw[if_pos rfl]
   rw[this];exact hv
  rw[getD_set_ne true hij] at h2;have hne:d'≠d:=fun e=>hij (hinj i j o o' d ho ho' h0 h1 hd (by rw[← e];exact hd'));have:upd f d v d'=f d':=by unfold upd;rw[if_neg hne]
  rw[this];exact hst _ _ _ _ (hR j o' d' ho' h1 h2 hd') hb
def ok (ops:Array Oper) (listed:Array Bool) (D:List Nat) (fuel:Nat):Bool :=
 decide (listed.size=ops.size) && decide D.Nodup && decide ((un ops listed).length≤fuel) && (List.range ops.size).all fun i=>match ops[i]? with
  | none=>true
  | some o=>o.after.all (fun e=>decide (e.on<i)) && (listed.getD i true || match o.dst with
   | none=>false
   | some d=>D.contains d && (List.range ops.size).all fun j=>j == i || listed.getD j true || match ops[j]? with
    | none=>true
    | some o'=>o'.dst != some d)
def StepOk (P:Program) (md:Region.Mode) (ops:Array Oper) (Q:Exit→Act→World→Prop) (S:World→Prop) (R:Nat→Value→World→Prop) (listed:Array Bool) (a:Act) (D:List Nat) (i:Nat):Prop :=
 ∀ o d,ops[i]?=some o→o.dst=some d→∀ f w,S w→(∀ e ∈ o.after,Region.binds md e=true→listed.getD e.on true=false→∀ o' d',ops[e.on]?=some o'→o'.dst=some d'→R d' (f d') w) →
  wpOp P ops Q i (fun a' w'=>∃ v,a'=(fillA a D f).put (some d) v∧R d v w'∧S w'∧Below w.heap.size w w') (fillA a D f) w
def Steps (P:Program) (md:Region.Mode) (ops:Array Oper) (Q:Exit→Act→World→Prop) (S:World→Prop) (R:Nat→Value→World→Prop) (listed:Array Bool) (a:Act) (D:List Nat) (l:List Nat):Prop:=∀ i ∈ l,StepOk P md ops Q S R listed a D i
variable {R:Nat→Value→World→Prop} {listed:Array Bool} {a:Act} {D:List Nat}
theorem Steps.nil:Steps P md ops Q S R listed a D []:=fun _ h=>by cases h
def depOk (md:Region.Mode) (ops:Array Oper) (listed:Array Bool) (o:Oper) (deps:List Nat):Bool :=
 deps.all fun d=>o.after.any fun e=>Region.binds md e && !listed.getD e.on true && match ops[e.on]? with
  | some o'=>o'.dst == some d
  | none=>false
theorem Steps.cons {i:Nat} {l:List Nat} {o:Oper} {d:Nat} (deps:List Nat)
  (h:∀ f w,S w→(∀ d' ∈ deps,R d' (f d') w)→∀ K':Act→World→Prop,Shut (∀ b v w',b=(fillA a D f).put (some d) v→R d v w'→S w'→Below w.heap.size w w'→K' b w') →
   if Region.wanted o (yielded ops (fillA a D f).tmps)=true then Oper.wp P o (fillA a D f) w K' Q else K' ((fillA a D f).put o.dst undef) w)
  (hs:Steps P md ops Q S R listed a D l) (ho:ops[i]?=some o:=by simp only[List.getElem?_toArray,List.getElem?_cons_succ,List.getElem?_cons_zero];rfl) (hd:o.dst=some d:=by rfl) (hdep:depOk md ops listed o deps=true:=by kernel_rfl) :
  Steps P md ops Q S R listed a D (i::l):=fun j hj=>by
 rcases List.mem_cons.1 hj with rfl | hj
 ·intro o2 d2 ho2 hd2 f w hS hR;rw[ho] at ho2;cases ho2;rw[hd] at hd2;cases hd2;refine wpOp_step ho fun K' hK=>h f w hS (fun d' hd'=>?_) K' fun b v w' e h1 h2 h3=>hK b w' ⟨v,e,h1,h2,h3⟩;have:=List.all_eq_true.1 hdep d' hd';obtain ⟨e,he,hb⟩:=Array.any_eq_true'.1 this;simp only[Bool.and_eq_true,Bool.not_eq_true'] at hb;obtain ⟨⟨h1,h2⟩,h3⟩:=hb;cases ho':ops[e.on]? with
  | none=>rw[ho'] at h3;cases h3
  | some o' =>
   rw[ho'] at h3;exact hR e he h1 h2 o' d' ho' (by simpa using h3)
 exact hs j hj
theorem st {i:Nat} {l:List Nat} {o:Oper} {d:Nat} (deps:List Nat) {A:(Nat→Value)→Value→Act} {B:(Nat→Value)→Act}
  (h:∀ f w,S w→(∀ d' ∈ deps,R d' (f d') w)→∀ K':Act→World→Prop,Shut (∀ b v w',b=A f v→R d v w'→S w'→Below w.heap.size w w'→K' b w') →
   if Region.wanted o (yielded ops (B f).tmps)=true then Oper.wp P o (B f) w K' Q else K' ((B f).put o.dst undef) w)
  (hs:Steps P md ops Q S R listed a D l) (ho:ops[i]?=some o:=by simp only[List.getElem?_toArray,List.getElem?_cons_succ,List.getElem?_cons_zero];rfl) (hd:o.dst=some d:=by rfl) (hdep:depOk md ops listed o deps=true:=by kernel_rfl)
  (hB:∀ f,fillA a D f=B f:=by intro f;simp only[Rely.fillA,Rely.fill,Act.put,List.setIfInBounds_toArray,List.set_cons_zero,List.set_cons_succ];rfl)
  (hA:∀ f v,(B f).put (some d) v=A f v:=by intro f v;simp only[Act.put,List.setIfInBounds_toArray,List.set_cons_zero,List.set_cons_succ];rfl):Steps P md ops Q S R listed a D (i::l) :=
 Steps.cons deps (fun f w s r K' hK=>by rw[hB];exact h f w s r K' (fun b v w' e=>hK.out b v w' (by rw[hB,hA,e]))) hs ho hd hdep
theorem go {fuel:Nat} {w:World} (R:Nat→Value→World→Prop) (D l:List Nat) (hst:∀ d x w w',R d x w→Below w.heap.size w w'→R d x w') (hS:S w)
  (hs:Steps P md ops Q S R listed a D l)
  (fin:∀ f w,S w→(∀ d ∈ D,(∃ i o,ops[i]?=some o∧listed.getD i true=false∧o.dst=some d)→R d (f d) w)→Q .normal (fillA a D f) w)
  (hok:ok ops listed D fuel=true:=by kernel_rfl) (hl:un ops listed=l:=by kernel_rfl):wpAnyH P md ops Q S fuel listed a w:=by
 unfold ok at hok;simp only[Bool.and_eq_true,decide_eq_true_eq] at hok;obtain ⟨⟨⟨h1,h2⟩,h3⟩,h4⟩:=hok;rw[List.all_eq_true] at h4;have h5:∀ i o,ops[i]?=some o→o.after.all (fun e=>decide (e.on<i))=true∧(listed.getD i true=true∨∃ d,o.dst=some d∧d ∈ D∧∀ j oj,ops[j]?=some oj→j≠i→listed.getD j true=false→oj.dst≠some d):=by
  intro i o ho;have q:=h4 i (List.mem_range.2 (Array.getElem?_eq_some_iff.1 ho).1);rw[ho] at q;simp only[Bool.and_eq_true,Bool.or_eq_true] at q;refine ⟨q.1,q.2.imp id fun q=>?_⟩;cases hd:o.dst with
  | none=>rw[hd] at q;cases q
  | some d =>
   rw[hd] at q;simp only[Bool.and_eq_true] at q;refine ⟨d,rfl,by simpa using q.1,fun j oj hj hne hun e=>?_⟩;have q2:=List.all_eq_true.1 q.2 j (List.mem_range.2 (Array.getElem?_eq_some_iff.1 hj).1);rw[hj,hun] at q2;simp only[Bool.or_eq_true,beq_iff_eq,hne,false_or,Bool.false_eq_true,bne_iff_ne] at q2;exact q2 e
 have e:fillA a D (fun d=>a.tmps.getD d undef)=a:=by
  unfold fillA;rw[fill_same _ D a.tmps fun d _=>rfl]
 have q:=core (P:=P) (Q:=Q) (md:=md) (S:=S) a D h2 R listed h1 (fun i o ho hu=>by
   rcases (h5 i o ho).2 with h | ⟨d,hd,hD,_⟩
   · rw[hu] at h;cases h
   exact ⟨d,hd,hD⟩)
  (fun i j oi oj d hi hj ui uj di dj=>by
   by_cases e:j=i
   · exact e.symm
   rcases (h5 i oi hi).2 with h | ⟨d',hd',_,h⟩
   · rw[ui] at h;cases h
   rw[di] at hd';cases hd';exact absurd dj (h j oj hj e uj))
  (fun i o ho e he=>by have:=Array.all_eq_true_iff_forall_mem.1 (h5 i o ho).1 e he;simpa using this)
  hst
  (fun i o d ho hu hd=>hs i (by rw[← hl];exact (un_mem ho).2 hu) o d ho hd)
  (fun f w hS hR=>fin f w hS fun d _ ⟨i,o,ho,hu,hd⟩=>hR i o d ho hu hd)
  fuel listed (fun d=>a.tmps.getD d undef) w h1 (fun _ h=>h) h3 hS (fun i o d ho hu hl' hd=>by rw[hu] at hl';cases hl')
 rw[e] at q;exact q
theorem rK [c:Kept S] {A:Value→Act} {b:Act} {v:Value} {w w':World} {R:Value→World→Prop} {K':Act→World→Prop} (hK:Shut (∀ b v w',b=A v→R v w'→S w'→Below w.heap.size w w'→K' b w')) (hS:S w) (k:Below w.heap.size w w') (hR:R v w') (hb:b=A v):K' b w':=hK.out b v w' hb hR (c.k k hS) k
theorem rA [c:Kept S] {A:Value→Act} {b:Act} {v:Value} {w:World} {o:Obj} {R:Value→World→Prop} {K':Act→World→Prop} (hK:Shut (∀ b v w',b=A v→R v w'→S w'→Below w.heap.size w w'→K' b w')) (hS:S w) (hR:R v (w.alloc o)) (hb:b=A v):K' b (w.alloc o):=hK.out b v _ hb hR (c.k bal hS) bal
end Rely
end
namespace Conv
open RowKit
theorem cells_at (w:World) (l:List UInt8) (C:Array Value) (T:TypeId) (hC:C=(l.map fun b=>Value.int .u8 (b.toNat:Int)).toArray) (j:Nat) (hj:j<l.length) :
  (w.alloc (.cells C T)).cell? ((⟨w.heap.size,0,none⟩:Addr).add j)=some (.int .u8 (l[j].toNat:Int)):=by
 rw[Go.WideShapes.add_plain,World.cell?_alloc_new,Nat.zero_add,hC];simp[hj]
theorem conv (w:World) (B:Nat) (hB:B=w.heap.size) (l:List UInt8) (n:Nat) (hn:n=l.length) (C:Array Value) (T:TypeId) (hC:C=(l.map fun b=>Value.int .u8 (b.toNat:Int)).toArray) :
  (convert 181 9 (.slice (some ⟨B,0,none⟩) n n)).run Tryz.prog (w.alloc (.cells C T))=.ok (.string ⟨l.toArray⟩) (w.alloc (.cells C T)):=by
 subst hn hB;exact run_convert_bytes_back (P:=Tryz.prog) _ 181 9 5 ⟨w.heap.size,0,none⟩ l.length l Tryz.underlying181 Tryz.underlying5 Tryz.underlying9 (fun j hj=>cells_at w l C T hC j hj)
theorem conv1 (a:Int) (b:UInt8) (h:a=(b.toNat:Int)) (w:World) (B:Nat) (hB:B=w.heap.size) :
  (convert 181 9 (.slice (some ⟨B,0,none⟩) 1 1)).run Tryz.prog (w.alloc (.cells #[.int .u8 a] 5))=.ok (.string ⟨#[b]⟩) (w.alloc (.cells #[.int .u8 a] 5)) :=
 conv w B hB [b] 1 rfl _ _ (by rw[h];rfl)
end Conv
end Go.Proofs.YtnpjkmomllkhpaaGreatDoor
