/- KMap, BagMap, BagOf. -/
import Derived.Test.YtnpjkmomllkhpaaGreatDoorTn18
import Derived.Sort.MapsRangeIn
import Derived.RangeFuncSeq
import Derived.Test.YtnpjkmomllkhpaaGreatDoorTn14
import Derived.DeepKeys4
import Derived.Maps.RangeWalk
set_option linter.unusedVariables false
set_option linter.unusedSimpArgs false
set_option maxRecDepth 100000
set_option maxHeartbeats 2000000
namespace Go.Proofs.YtnpjkmomllkhpaaGreatDoor
namespace KMap
open RowKit Go.Maps
open TextMap (RV)
structure Code (α:Type) (P:Program) (k:TypeId) where
 val:α→Value
 lit:α→List UInt8
 fine:α→Prop
 keyed:Keyed P k
 key:∀ x,fine x→keyOf P k (val x)=some (.string (lit x))
 back:∀ {v:Value} {l:Lit},keyOf P k v=some l→∃ x,fine x∧v=val x
 inj:∀ x y,val x=val y→x=y
variable {α:Type} {P:Program} {ts k es:TypeId} {C:Code α P k} {w w':World} {b r n cnt:Nat} {f:α→Option Value} {lf:α→Bool}
theorem Code.lit_inj (C:Code α P k) {x y:α} (hx:C.fine x) (hy:C.fine y) (h:C.lit x=C.lit y):x=y:=C.inj _ _ (C.keyed.inj (C.key x hx) (by rw[h];exact C.key y hy))
def Tells (C:Code α P k) (D:DataW Value) (f:α→Option Value):Prop :=
 ∀ x,(C.fine x→Maps.has D (.string (C.lit x))=(f x).isSome∧∀ v,f x=some v→∀ z,D.atKey (.string (C.lit x)) z=.held v)∧(¬ C.fine x→f x=none)
def Is (C:Code α P k) (w:World) (b n:Nat) (f:α→Option Value):Prop:=∃ D,w.ownsMap P k RV b n D∧Tells C D f
theorem Is.made (C:Code α P k) (w:World):Is C (w.alloc (.map #[] 0)) w.heap.size 0 (fun _=>none):=⟨_,World.ownsMap_made _ _ _ _,fun _=>⟨fun _=>⟨rfl,fun _ h=>by cases h⟩,fun _=>rfl⟩⟩
theorem Is.alloc (h:Is C w b n f) (o:Obj):Is C (w.alloc o) b n f:=by
 obtain ⟨D,h1,h2⟩:=h;exact ⟨D,World.ownsMap.alloc h1 o,h2⟩
theorem Is.lt (h:Is C w b n f):b<w.heap.size:=by
 obtain ⟨D,h1,_⟩:=h;exact World.ownsMap.lt h1
theorem Is.isMap (h:Is C w b n f):∃ es clock,w.heap[b]?=some (.map es clock):=by
 obtain ⟨D,⟨es,clock,hb,_⟩,_⟩:=h;exact ⟨es,clock,hb⟩
theorem Is.moved (h:Is C w b n f) (k:w'.heap[b]?=w.heap[b]?):Is C w' b n f:=by
 obtain ⟨D,⟨es,clock,hb,r⟩,h2⟩:=h;exact ⟨D,⟨es,clock,k.trans hb,r⟩,h2⟩
theorem Is.below (h:Is C w b n f) (k:Below w.heap.size w w'):Is C w' b n f:=h.moved (k.block _ h.lt)
theorem Is.ext (h:Is C w b n f) {g:α→Option Value} (hg:∀ q,f q=g q):Is C w b n g:=by
 obtain rfl:f=g:=funext hg;exact h
def put [DecidableEq α] (f:α→Option Value) (q:α) (v:Value):α→Option Value:=fun x=>if x=q then some v else f x
theorem Tells.put [DecidableEq α] {D:DataW Value} (h:Tells C D f) (hm:IsMap D) {q:α} (hq:C.fine q) (v:Value):Tells C (D.put (.string (C.lit q)) (.held v)) (KMap.put f q v):=fun x=>by
 unfold KMap.put;by_cases e:x=q
 ·subst e;rw[if_pos rfl];refine ⟨fun _=>⟨has_put_same hm (by trivial) _,fun y hy z=>?_⟩,fun c=>absurd hq c⟩;cases hy
  exact atKey_put_same hm (by trivial) _ _
 rw[if_neg e];refine ⟨fun hx=>?_,(h x).2⟩;have hne:Lit.string (C.lit x)≠Lit.string (C.lit q):=fun h=>e (C.lit_inj hx hq (by injection h));refine ⟨(has_put_other hne _).trans ((h x).1 hx).1,fun y hy z=>?_⟩;rw[atKey_put_other hne];exact ((h x).1 hx).2 y hy z
theorem run_put [DecidableEq α] (ht:P.underlying ts=some (.map k es)) (h:Is C w b n f) (hn:n<maxLen) {q:α} (hq:C.fine q) (v:Value) :
  ∃ w',(Instr.mapUpdate ts (.map (some b)) (C.val q) v).run P w=.ok () w'∧Is C w' b (n+1) (put f q v)∧w.grownBy w' (some b):=by
 obtain ⟨D,h1,h2⟩:=h;obtain ⟨w',hr,ho,hg⟩:=World.ownsMap.update h1 C.keyed ht hn (C.key q hq) (val:=v) (d:=.held v) (ps:=[]) rfl;exact ⟨w',hr,⟨_,ho,h2.put (World.ownsMap.isMap h1) hq v⟩,hg⟩
theorem run_look_ok (ht:P.underlying ts=some (.map k es)) {z:Value} (hz:(zeroValue es).run P w=.ok z w) (h:Is C w b n f) {q:α} (hq:C.fine q) :
  (Instr.lookup ts (.map (some b)) (C.val q) true).run P w=.ok (.tuple #[(f q).getD z,.bool (f q).isSome]) w:=by
 obtain ⟨D,h1,h2⟩:=h;obtain ⟨v,ps,hr,hv⟩:=World.ownsMap.look_ok h1 C.keyed ht hz (zd:=.held z) (zp:=[]) rfl (C.key q hq);rw[hr,((h2 q).1 hq).1];simp only[RV,Option.some.injEq,Prod.mk.injEq] at hv;cases hf:f q with
 | none =>
  have:=((h2 q).1 hq).1;rw[hf] at this;rw[atKey_of_not_has this] at hv;cases hv.1;rfl
 | some y =>
  rw[((h2 q).1 hq).2 y hf] at hv;cases hv.1;rfl
section
variable {ops:Array Oper} {rest:List Oper} {o:Oper} {a:Act} {Q:Exit→Act→World→Prop}
theorem wpList_put [DecidableEq α] (ht:P.underlying ts=some (.map k es)) (hg:o.guard=none) (m x v:Operand) (hop:o.op=Op.mapUpdate ts m x v) (b n:Nat) (f:α→Option Value) (q:α) (val:Value)
  (hm:a.eval m=.map (some b)) (hown:Is C w b n f) (hn:n<maxLen) (hx:a.eval x=C.val q) (hq:C.fine q) (hv:a.eval v=val)
  (hK:∀ w',Is C w' b (n+1) (put f q val)→w.grownBy w' (some b)→wpList P ops Q rest (a.put o.dst undef) w'):wpList P ops Q (o::rest) a w:=by
 refine wpList_plain hg fun K' hK'=>?_;obtain ⟨w',hrun,h1,h2⟩:=run_put ht hown hn hq val;unfold Oper.wp;simp[execOp,hop,hm,hx,hv,hrun,Result.andThen];exact hK' _ _ (hK w' h1 h2)
theorem wpList_look_ok (ht:P.underlying ts=some (.map k es)) {z:Value} (hz:(zeroValue es).run P w=.ok z w) (hg:o.guard=none) (m x:Operand) (hop:o.op=Op.lookup ts m x true) (b n:Nat) (f:α→Option Value) (q:α)
  (hm:a.eval m=.map (some b)) (hown:Is C w b n f) (hx:a.eval x=C.val q) (hq:C.fine q) (val:Value) (hv:(f q).getD z=val) (is:Bool) (hi:(f q).isSome=is) (hK:wpList P ops Q rest (a.put o.dst (.tuple #[val,.bool is])) w):wpList P ops Q (o::rest) a w:=by
 refine wpList_plain hg fun K' hK'=>?_;have hrun:=run_look_ok ht hz hown hq;rw[hv,hi] at hrun;unfold Oper.wp;simp[execOp,hop,hm,hx,hrun,Result.andThen];exact hK' _ _ hK
variable {F:Fence} {nn:Nat}
end
end KMap
namespace Bag
open RowKit Go.Maps YtnpjkmomllkhpaaGreatDoor.Mark Dots
def Pl.val (x:Pl):Value:=.agg #[x.t,x.m.p,x.m.n]
def Pl.fine (x:Pl):Prop:=x.t.length≤maxLen∧x.m.p.length≤maxLen∧x.m.n≤18446744073709551615
def dLits (x:M):List Lit:=[.string x.p,.int .u64 (x.n:Int)]
def dFine (x:M):Prop:=x.p.length≤maxLen∧x.n≤18446744073709551615
theorem laid:laidOutB Tryz.prog=true:=by kernel_rfl
theorem size_str (l:List UInt8):(⟨l.toArray⟩:ByteArray).size=l.length:=by show l.toArray.size=_;simp
theorem wf_u64 {n:Nat} (h:n≤18446744073709551615):(Lit.int .u64 (n:Int)).wf=true:=by
 simp only[Lit.wf,Bool.and_eq_true,decide_eq_true_eq];exact ⟨by show (0:Int)≤_;omega,by show (n:Int)≤18446744073709551615;omega⟩
theorem wf_u64_inv {z:Int} (h:(Lit.int .u64 z).wf=true):∃ n:Nat,z=(n:Int)∧n≤18446744073709551615:=by
 simp only[Lit.wf,Bool.and_eq_true,decide_eq_true_eq] at h;obtain ⟨h1,h2⟩:=h;have h1:(0:Int)≤z:=h1;have h2:z≤18446744073709551615:=h2;exact ⟨z.toNat,by omega,by omega⟩
theorem mk_str (s:ByteArray):∃ l:List UInt8,s=⟨l.toArray⟩:=⟨s.data.toList,by simp⟩
section
variable {P:Program} {t ts tn td:TypeId}
theorem lits_str (hu:P.underlying t=some .string) (d:Nat) (l:List UInt8) (h:l.length≤maxLen):P.keyLits (d+1) t [.string ⟨l.toArray⟩]=some [.string l]:=by
 unfold Program.keyLits;rw[hu];simp only[size_str];rw[if_pos h]
theorem lits_str_inv (hu:P.underlying t=some .string) (d:Nat) {cs:List Value} {ls:List Lit} (h:P.keyLits (d+1) t cs=some ls):∃ l:List UInt8,cs=[.string ⟨l.toArray⟩]∧l.length≤maxLen:=by
 unfold Program.keyLits at h;rw[hu] at h;match cs,h with
 | [.string s],h =>
  simp only at h;split at h
  ·obtain ⟨l,rfl⟩:=mk_str s;exact ⟨l,rfl,by rw[← size_str];assumption⟩
  cases h
theorem lits_u64 (hu:P.underlying t=some (.int .u64)) (d n:Nat) (h:n≤18446744073709551615):P.keyLits (d+1) t [.int .u64 (n:Int)]=some [.int .u64 (n:Int)]:=by
 unfold Program.keyLits;rw[hu];simp only[wf_u64 h,and_self,if_true]
theorem lits_u64_inv (hu:P.underlying t=some (.int .u64)) (d:Nat) {cs:List Value} {ls:List Lit} (h:P.keyLits (d+1) t cs=some ls):∃ n:Nat,cs=[.int .u64 (n:Int)]∧n≤18446744073709551615:=by
 unfold Program.keyLits at h;rw[hu] at h;match cs,h with
 | [.int q z],h =>
  simp only at h;split at h
  ·rename_i c
   obtain ⟨n,hz,hn⟩:=wf_u64_inv c.2;rw[c.1,hz];exact ⟨n,rfl,hn⟩
  cases h
theorem lits_two {f g : Field} (hu : P.underlying t = some (.struct #[f, g])) (hc : P.cellsOf t = P.cellsOf f.type + P.cellsOf g.type) (hf : f.offset = 0) (hg : g.offset = P.cellsOf f.type) (hn : (f.name != "_") = true) (hm : (g.name != "_") = true)
  (d:Nat) {xs ys:List Value} {la lb:List Lit} (ha:xs.length=P.cellsOf f.type) (hb:ys.length=P.cellsOf g.type) (h1:P.keyLits d f.type xs=some la) (h2:P.keyLits d g.type ys=some lb):P.keyLits (d+1) t (xs++ys)=some (la++lb):=by
 unfold Program.keyLits;rw[hu];have e1:((xs++ys).drop f.offset).take (P.cellsOf f.type)=xs:=by rw[hf,← ha];simp
 have e2:((xs++ys).drop g.offset).take (P.cellsOf g.type)=ys:=by rw[hg,← ha,← hb];simp
 simp[hc,ha,hb,e1,e2,h1,h2,hn,hm]
theorem lits_two_inv {f g:Field} (hu:P.underlying t=some (.struct #[f,g])) (hc:P.cellsOf t=P.cellsOf f.type+P.cellsOf g.type) (hf:f.offset=0) (hg:g.offset=P.cellsOf f.type)
  (d:Nat) {cs:List Value} {ls:List Lit} (h:P.keyLits (d+1) t cs=some ls):∃ xs ys la lb,cs=xs++ys∧P.keyLits d f.type xs=some la∧P.keyLits d g.type ys=some lb:=by
 unfold Program.keyLits at h;rw[hu] at h;simp only at h;split at h
 ·rename_i c
  have hl:=c.1;rw[hc] at hl;simp only[List.mapM_cons,List.mapM_nil,hf,List.drop_zero] at h;cases h1:P.keyLits d f.type (cs.take (P.cellsOf f.type)) with
  | none=>simp[h1] at h
  | some la =>
   cases h2:P.keyLits d g.type ((cs.drop g.offset).take (P.cellsOf g.type)) with
   | none=>simp[h1,h2] at h
   | some lb =>
    refine ⟨_,_,la,lb,?_,h1,h2⟩;rw[hg,show (cs.drop (P.cellsOf f.type)).take (P.cellsOf g.type)=cs.drop (P.cellsOf f.type) from List.take_of_length_le (by rw[List.length_drop,hl];omega),List.take_append_drop]
 cases h
end
theorem cells_str:Tryz.prog.cellsOf 9=1:=by kernel_rfl
theorem cells_u64:Tryz.prog.cellsOf 25=1:=by kernel_rfl
theorem cells_dot:Tryz.prog.cellsOf 167=2:=by kernel_rfl
theorem lits_dot (d:Nat) (x:M) (h:dFine x):Tryz.prog.keyLits (d+2) 167 [.string ⟨x.p.toArray⟩,.int .u64 (x.n:Int)]=some (dLits x) :=
 lits_two Tryz.underlying167 (by rw[cells_dot,cells_str,cells_u64]) rfl (by rw[cells_str]) rfl rfl (d+1) (xs:=[x.p]) (by rw[cells_str];rfl) (by rw[cells_u64];rfl) (lits_str Tryz.underlying9 d x.p h.1) (lits_u64 Tryz.underlying25 d x.n h.2)
theorem lits_dot_inv (d:Nat) {cs:List Value} {ls:List Lit} (h:Tryz.prog.keyLits (d+2) 167 cs=some ls):∃ x:M,dFine x∧cs=[.string ⟨x.p.toArray⟩,.int .u64 (x.n:Int)]:=by
 obtain ⟨xs,ys,la,lb,rfl,h1,h2⟩:=lits_two_inv Tryz.underlying167 (by rw[cells_dot,cells_str,cells_u64]) rfl (by rw[cells_str]) (d+1) h;obtain ⟨l,rfl,hl⟩:=lits_str_inv Tryz.underlying9 d h1;obtain ⟨n,rfl,hn⟩:=lits_u64_inv Tryz.underlying25 d h2;exact ⟨⟨l,n⟩,⟨hl,hn⟩,rfl⟩
theorem types_many:100≤Tryz.prog.types.size:=Nat.le_of_ble_eq_true (by kernel_rfl)
theorem size3:∃ n,Tryz.prog.types.size+1=n+3:=⟨Tryz.prog.types.size+1 - 3,by have:=types_many;omega⟩
theorem keyOf_struct {P:Program} {k:TypeId} {fs:Array Field} (hu:P.underlying k=some (.struct fs)) (v:Value):keyOf P k v=if P.keyType k && v.formed P k then (P.keyLits (P.types.size+1) k v.cells.toList).map fun ls=>.string (keyBytes ls) else none:=by
 unfold keyOf;rw[hu]
theorem formed_agg {P:Program} {k:TypeId} {fs:Array Field} (hu:P.underlying k=some (.struct fs)) (cs:Array Value) (h:cs.size=P.cellsOf k):(Value.agg cs).formed P k=true:=by
 unfold Value.formed;rw[hu];simpa using h
theorem agg_of {P:Program} {k:TypeId} {fs:Array Field} (hu:P.underlying k=some (.struct fs)) {v:Value} (h:v.formed P k=true):∃ cs,v=.agg cs:=by
 cases v <;> simp_all [Value.formed]
theorem key_dot (x:M) (h:dFine x):keyOf Tryz.prog 167 x.agg=some (.string (keyBytes (dLits x))):=by
 obtain ⟨n,hn⟩:=size3;have hk:Tryz.prog.keyType 167=true:=by kernel_rfl
 rw[keyOf_struct Tryz.underlying167,if_pos (by rw[hk,Bool.true_and];exact formed_agg Tryz.underlying167 _ (by rw[cells_dot];rfl)),hn];have e:x.agg.cells.toList=[.string ⟨x.p.toArray⟩,.int .u64 (x.n:Int)]:=rfl;rw[e,lits_dot (n+1) x h];rfl
theorem back_dot {v:Value} {l:Lit} (h:keyOf Tryz.prog 167 v=some l):∃ x:M,dFine x∧v=x.agg:=by
 obtain ⟨n,hn⟩:=size3;rw[keyOf_struct Tryz.underlying167] at h;split at h
 ·rename_i c
  rw[Bool.and_eq_true] at c;obtain ⟨cs,rfl⟩:=agg_of Tryz.underlying167 c.2;rw[hn] at h;have e:(Value.agg cs).cells.toList=cs.toList:=rfl;rw[e] at h;cases hl:Tryz.prog.keyLits (n+3) 167 cs.toList with
  | none=>rw[hl] at h;cases h
  | some ls =>
   obtain ⟨x,hx,ex⟩:=lits_dot_inv (n+1) hl;refine ⟨x,hx,?_⟩;unfold M.agg;rw[← Array.toArray_toList (xs:=cs),ex]
 cases h
theorem agg_inj (x y:M) (h:x.agg=y.agg):x=y:=by
 unfold M.agg at h;simp at h;exact M.ext' h.1 (by omega)
theorem row_dot:167<Tryz.prog.types.size:=of_decide_eq_true (by kernel_rfl)
theorem at_dot:Tryz.prog.keyTypeAt 3 167=true:=by kernel_rfl
theorem keyed_dot:Keyed Tryz.prog 167:=Keyed.of_law (deep_law_laid laid (m:=3) (by decide) row_dot at_dot (by rw[Tryz.underlying167]))
def dotsC:KMap.Code M Tryz.prog 167:=⟨M.agg,fun x=>keyBytes (dLits x),dFine,keyed_dot,key_dot,back_dot,agg_inj⟩
def unit:Value:=.agg #[]
def setF {α:Type} [DecidableEq α] (V:List α):α→Option Value:=fun p=>if p ∈ V then some unit else none
theorem setF_some {α:Type} [DecidableEq α] (V:List α) (p:α):(setF V p).isSome=decide (p ∈ V):=by
 unfold setF;by_cases h:p ∈ V <;> simp[h]
theorem setF_put {α:Type} [DecidableEq α] (V:List α) (q p:α):KMap.put (setF V) q unit p=setF (V++[q]) p:=by
 unfold KMap.put setF;by_cases h:p=q
 · subst h;simp
 simp[h]
def onT (t:List UInt8) (d:List M):List Pl:=d.map (fun m=>⟨t,m⟩)
theorem onT_len (t:List UInt8) (d:List M):(onT t d).length=d.length:=by simp[onT]
def pls (L:List It):List Pl:=L.flatMap (fun x=>onT x.t x.d)
theorem mem_pls (L:List It) (t:List UInt8) (m:M):(⟨t,m⟩:Pl) ∈ pls L↔Has L t m:=by
 unfold pls Has;rw[List.mem_flatMap];constructor
 ·rintro ⟨x,hx,h⟩;obtain ⟨m',hm,e⟩:=List.mem_map.1 h;cases e
  exact ⟨x,hx,rfl,hm⟩
 rintro ⟨x,hx,rfl,hm⟩;exact ⟨x,hx,List.mem_map.2 ⟨m,hm,rfl⟩⟩
theorem pls_snoc (L:List It) (x:It):pls (L++[x])=pls L++onT x.t x.d:=by simp[pls]
theorem but_grown {b:Nat} {w x:World} (k:w.grownBy x (some b)):But b w x:=⟨k.os,k.tape,k.output,k.size,fun j hj hb=>k.block j hj (by simpa using hb)⟩
structure Fine (L:List It):Prop where
 items:L.length≤1099511627776
 few:(pls L).length≤1099511627776
 fine:∀ p ∈ pls L,p.fine
theorem pls_take {L:List It} {i:Nat} (hi:i<L.length):pls (L.take (i+1))=pls (L.take i)++onT L[i].t L[i].d:=by
 rw[List.take_succ_eq_append_getElem hi,pls_snoc]
theorem pls_sub {L:List It} {i:Nat} (hi:i<L.length):(pls (L.take i)).length+L[i].d.length≤(pls L).length∧∀ m ∈ L[i].d,(⟨L[i].t,m⟩:Pl) ∈ pls L:=by
 constructor
 ·have h:pls L=pls (L.take (i+1))++pls (L.drop (i+1)):=by
   unfold pls;rw[← List.flatMap_append,List.take_append_drop]
  rw[h,pls_take hi];simp only[List.length_append,onT_len];omega
 intro m hm;rw[mem_pls];exact ⟨L[i],List.getElem_mem hi,rfl,hm⟩
theorem tl_lt {a b:List UInt8} (h:TL a b):a<b:=by
 have h1:Op.bytesLess a b=true:=by
  cases h0:Op.bytesLess a b with
  | true=>rfl
  | false =>
   exfalso;by_cases e:a=b
   · subst e;exact linT.irr _ h
   have:=Order.cmp_more a b e h0;unfold TL at h;omega
 rw[Go.Proofs.bytesLess_eq] at h1;exact of_decide_eq_true h1
theorem zero_unit {w:World}:(zeroValue 227).run Tryz.prog w=.ok (.agg #[]) w:=by kernel_rfl
end Bag
end Go.Proofs.YtnpjkmomllkhpaaGreatDoor
