/- TextMap. -/
import Derived.Test.YtnpjkmomllkhpaaGreatDoorTn1
import Derived.Sort.KeysCollected
set_option linter.unusedVariables false
set_option linter.unusedSimpArgs false
namespace Go.Proofs.YtnpjkmomllkhpaaGreatDoor
structure Save (b c:Nat) (w w':World):Prop where
 os:w'.os=w.os
 tape:w'.tape=w.tape
 output:w'.output=w.output
 size:w.heap.size≤w'.heap.size
 block:∀ k,k<w.heap.size→k≠b→k≠c→w'.heap[k]?=w.heap[k]?
namespace TextMap
open RowKit Go.Maps
variable {P:Program} {ts ks es:TypeId}
def RV:Value→Option (DataW Value × List MemPlace):=fun v=>some (.held v,[])
def Is (P:Program) (ks:TypeId) (w:World) (b n:Nat) (f:List UInt8→Option Value):Prop :=
 ∃ D,w.ownsMap P ks RV b n D∧∀ q,Maps.has D (.string q)=(f q).isSome∧∀ v,f q=some v→∀ z,D.atKey (.string q) z=.held v
variable {w w':World} {b n:Nat} {f:List UInt8→Option Value}
theorem Is.made (w:World):Is P ks (w.alloc (.map #[] 0)) w.heap.size 0 (fun _=>none):=⟨_,World.ownsMap_made _ _ _ _,fun _=>⟨rfl,fun _ h=>by cases h⟩⟩
theorem Is.alloc (h:Is P ks w b n f) (o:Obj):Is P ks (w.alloc o) b n f:=by
 obtain ⟨D,h1,h2⟩:=h;exact ⟨D,World.ownsMap.alloc h1 o,h2⟩
theorem Is.lt (h:Is P ks w b n f):b<w.heap.size:=by
 obtain ⟨D,h1,_⟩:=h;exact World.ownsMap.lt h1
theorem Is.isMap (h:Is P ks w b n f):∃ es clock,w.heap[b]?=some (.map es clock):=by
 obtain ⟨D,⟨es,clock,hb,_⟩,_⟩:=h;exact ⟨es,clock,hb⟩
theorem Is.moved (h:Is P ks w b n f) (k:w'.heap[b]?=w.heap[b]?):Is P ks w' b n f:=by
 obtain ⟨D,⟨es,clock,hb,r⟩,h2⟩:=h;exact ⟨D,⟨es,clock,k.trans hb,r⟩,h2⟩
theorem Is.below (h:Is P ks w b n f) (k:Below w.heap.size w w'):Is P ks w' b n f:=h.moved (k.block _ h.lt)
theorem Is.mono (h:Is P ks w b n f) {m:Nat} (hm:n≤m):Is P ks w b m f:=by
 obtain ⟨D,h1,h2⟩:=h;exact ⟨D,World.ownsMap.mono h1 hm,h2⟩
theorem Is.ext (h:Is P ks w b n f) {g:List UInt8→Option Value} (hg:∀ q,f q=g q):Is P ks w b n g:=by
 obtain rfl:f=g:=funext hg;exact h
def put (f:List UInt8→Option Value) (q:List UInt8) (v:Value):List UInt8→Option Value:=fun x=>if x=q then some v else f x
theorem key_of (hks:P.underlying ks=some .string) {q:List UInt8} (hq:q.length≤maxLen):keyOf P ks (.string ⟨q.toArray⟩)=some (.string q):=WideMaps.keyOf_string_mk hks (by show (⟨q.toArray⟩:ByteArray).data.size≤maxLen;simpa using hq)
theorem run_put (ht:P.underlying ts=some (.map ks es)) (hks:P.underlying ks=some .string) (h:Is P ks w b n f) (hn:n<maxLen) {q:List UInt8} (hq:q.length≤maxLen) (v:Value) :
  ∃ w',(Instr.mapUpdate ts (.map (some b)) (.string ⟨q.toArray⟩) v).run P w=.ok () w'∧Is P ks w' b (n+1) (put f q v)∧w.grownBy w' (some b):=by
 obtain ⟨D,h1,h2⟩:=h;obtain ⟨w',hr,ho,hg⟩:=World.ownsMap.update h1 (string_keyed hks) ht hn (key_of hks hq) (val:=v) (d:=.held v) (ps:=[]) rfl;refine ⟨w',hr,⟨_,ho,fun x=>?_⟩,hg⟩;have hm:=World.ownsMap.isMap h1;unfold put;by_cases e:x=q
 ·subst e;rw[if_pos rfl];refine ⟨has_put_same hm (by trivial) _,fun y hy z=>?_⟩;cases hy
  exact atKey_put_same hm (by trivial) _ _
 rw[if_neg e];have hne:Lit.string x≠Lit.string q:=fun h=>e (by cases h;rfl);refine ⟨(has_put_other hne _).trans (h2 x).1,fun y hy z=>?_⟩;rw[atKey_put_other hne];exact (h2 x).2 y hy z
theorem run_look_ok (ht:P.underlying ts=some (.map ks es)) (hks:P.underlying ks=some .string) {z:Value} (hz:(zeroValue es).run P w=.ok z w) (h:Is P ks w b n f) {q:List UInt8} (hq:q.length≤maxLen) :
  (Instr.lookup ts (.map (some b)) (.string ⟨q.toArray⟩) true).run P w=.ok (.tuple #[(f q).getD z,.bool (f q).isSome]) w:=by
 obtain ⟨D,h1,h2⟩:=h;obtain ⟨v,ps,hr,hv⟩:=World.ownsMap.look_ok h1 (string_keyed hks) ht hz (zd:=.held z) (zp:=[]) rfl (key_of hks hq);rw[hr,(h2 q).1];simp only[RV,Option.some.injEq,Prod.mk.injEq] at hv;cases hf:f q with
 | none =>
  have:=(h2 q).1;rw[hf] at this;rw[atKey_of_not_has this] at hv;cases hv.1;rfl
 | some y =>
  rw[(h2 q).2 y hf] at hv;cases hv.1;rfl
variable {ops:Array Oper} {rest:List Oper} {o:Oper} {a:Act} {Q:Exit→Act→World→Prop}
theorem wpList_put (ht:P.underlying ts=some (.map ks es)) (hks:P.underlying ks=some .string) (hg:o.guard=none) (m x v:Operand) (hop:o.op=Op.mapUpdate ts m x v) (b n:Nat) (f:List UInt8→Option Value) (q:List UInt8) (val:Value)
  (hm:a.eval m=.map (some b)) (hown:Is P ks w b n f) (hn:n<maxLen) (hx:a.eval x=.string ⟨q.toArray⟩) (hq:q.length≤maxLen) (hv:a.eval v=val)
  (hK:∀ w',Is P ks w' b (n+1) (put f q val)→w.grownBy w' (some b)→wpList P ops Q rest (a.put o.dst undef) w'):wpList P ops Q (o::rest) a w:=by
 refine wpList_plain hg fun K' hK'=>?_;obtain ⟨w',hrun,h1,h2⟩:=run_put ht hks hown hn hq val;unfold Oper.wp;simp[execOp,hop,hm,hx,hv,hrun,Result.andThen];exact hK' _ _ (hK w' h1 h2)
theorem wpList_look_ok (ht:P.underlying ts=some (.map ks es)) (hks:P.underlying ks=some .string) {z:Value} (hz:(zeroValue es).run P w=.ok z w) (hg:o.guard=none) (m x:Operand) (hop:o.op=Op.lookup ts m x true) (b n:Nat) (f:List UInt8→Option Value) (q:List UInt8)
  (hm:a.eval m=.map (some b)) (hown:Is P ks w b n f) (hx:a.eval x=.string ⟨q.toArray⟩) (hq:q.length≤maxLen) (val:Value) (hv:(f q).getD z=val) (is:Bool) (hi:(f q).isSome=is) (hK:wpList P ops Q rest (a.put o.dst (.tuple #[val,.bool is])) w):wpList P ops Q (o::rest) a w:=by
 refine wpList_plain hg fun K' hK'=>?_;have hrun:=run_look_ok ht hks hz hown hq;rw[hv,hi] at hrun;unfold Oper.wp;simp[execOp,hop,hm,hx,hrun,Result.andThen];exact hK' _ _ hK
end TextMap
end Go.Proofs.YtnpjkmomllkhpaaGreatDoor
