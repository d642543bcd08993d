/- RowOwn, BagRow, Words. -/
import Derived.Laws.CopyRow
import Derived.Lib.AppendZerosOnto
import Derived.Test.YtnpjkmomllkhpaaGreatDoorTn9
set_option linter.unusedVariables false
set_option linter.unusedSimpArgs false
namespace Go.Proofs.YtnpjkmomllkhpaaGreatDoor
namespace Row
open RowKit
variable {α:Type} {E:Enc α} {P:Program} {ts te:TypeId} {z:Value} {bytes:Nat}
structure Typ (P:Program) (E:Enc α) (ts te:TypeId) (z:Value) (bytes:Nat):Prop where
 und:P.underlying ts=some (.slice te)
 info:∃ i,P.info? te=some i∧i.zero=some z∧i.size=E.k∧i.bytes=bytes
 zsize:z.cells.size=E.k
 small:bytes≤1024
theorem info_of {i? : Option TypeInfo} {z:Value} {s b:Nat} (h:i?.map (fun i=>(i.zero,i.size,i.bytes))=some (some z,s,b)):∃ i,i?=some i∧i.zero=some z∧i.size=s∧i.bytes=b:=by
 cases i? with
 | none=>cases h
 | some i=>simp only[Option.map_some,Option.some.injEq,Prod.mk.injEq] at h;exact ⟨i,rfl,h.1,h.2.1,h.2.2⟩
def Own (E:Enc α) (te:TypeId) (w:World) (B:Nat) (v:Value) (L:List α):Prop:=w.ownsRow B te E.k v L.length (flat E L)
theorem Own.nil (w:World) (B:Nat):Own E te w B (.slice none 0 0) []:=World.ownsRow_nil _ _ _ _
theorem Own.lies {w:World} {B:Nat} {v:Value} {L:List α} (h:Own E te w B v L):∃ a c,v=.slice a L.length c∧L.length≤c∧c≤maxLen∧Lies E w a L.length L∧(∀ q,a=some q→B≤q.block):=lies_own h
theorem Own.base {w:World} {B B':Nat} {v:Value} {L:List α} (h:Own E te w B v L) (hB:B'≤B):Own E te w B' v L:=by
 refine ⟨h.1,h.2.imp id ?_⟩;rintro ⟨g,cap,cur,h1,h2,h3⟩;exact ⟨g,cap,cur,h1,by omega,h3⟩
theorem Own.lt {w:World} {B:Nat} {v:Value} {L:List α} (h:Own E te w B v L):∀ k,v.ownBlock=some k→B≤k∧k<w.heap.size:=World.ownsRow.lt h
theorem Own.alloc {w:World} {B:Nat} {v:Value} {L:List α} (h:Own E te w B v L) (o:Obj):Own E te (w.alloc o) B v L:=World.ownsRow.alloc h o
theorem Own.below {w w':World} {B:Nat} {v:Value} {L:List α} (h:Own E te w B v L) (k:Below w.heap.size w w'):Own E te w' B v L:=by
 refine ⟨h.1,?_⟩;rcases h.2 with h' | ⟨g,cap,cur,e,hB,hg,hr⟩
 · exact .inl h'
 refine .inr ⟨g,cap,cur,e,hB,?_,hr⟩;rw[k.block g (Array.getElem?_eq_some_iff.1 hg).1];exact hg
instance {B : Nat} {v : Value} {L : List α} : Kept (fun w => Own E te w B v L) := ⟨fun k h => Own.below h k⟩
instance {w : World} {B : Nat} {v : Value} {L : List α} : Hd w (Own E te w B v L) (fun w => Own E te w B v L) := ⟨id⟩
theorem lies_new (w:World) (x:α) (T:TypeId):Lies E (w.alloc (.cells (E.cells x).toArray T)) (some ⟨w.heap.size,0,none⟩) 1 [x]:=by
 refine ⟨rfl,fun _=>⟨w.heap.size,0,rfl,fun j hj i u hu=>?_⟩⟩;obtain rfl:j=0:=by simp at hj;exact hj
 rw[Nat.zero_mul,Nat.zero_add,World.cell?_alloc_at _ _ _ i rfl,List.getElem?_toArray];exact hu
theorem wpList_app (T:Typ P E ts te z bytes) {ops:Array Oper} {rest:List Oper} {o:Oper} {a:Act} {w:World} {Q:Exit→Act→World→Prop} (hgd:o.guard=none) (s x:Operand)
  (ho:o.op=.call { callee:=.builtin .append,args:=#[s,x],argTypes:=#[ts,ts] }) (B:Nat) (v:Value) (L:List α) (hs:a.eval s=v) (hown:Own E te w B v L)
  (ax:Option Addr) (nx cx:Nat) (K:List α) (hx:a.eval x=.slice ax nx cx) (hK:Lies E w ax nx K)
  (hlen:L.length+nx≤1099511627776) (hbase:B≤w.heap.size)
  (h:∀ v' w',Own E te w' B v' (L++K)→w.grownBy w' v.ownBlock→Below B w w'→wpList P ops Q rest (a.put o.dst v') w') (hb:bytes≤128∨L.length+nx≤137438953472:=by first | exact .inl (by decide) | exact .inr (by omega)):wpList P ops Q (o::rest) a w:=by
 obtain ⟨i0,hi,hz0,hz1,hz2⟩:=T.info;cases ax with
 | none =>
  have hn0:nx=0:=by
   rcases Nat.eq_zero_or_pos nx with h | h
   · exact h
   obtain ⟨_,_,e,_⟩:=hK.2 h;cases e
  have hl0:K=[]:=List.length_eq_zero_iff.1 (by rw[← hK.1];exact hn0);subst hl0;subst hn0;refine wpList_plain hgd fun k hk=>?_;have hrun:(Builtin.append_ #[ts,ts] o.type #[v,.slice none 0 cx]).run P w=.ok v w:=by
   rcases hown.2 with ⟨rfl,_⟩ | ⟨g,cap,cur,rfl,_,_,hnc,_⟩
   · simp[Builtin.append_,run_underlying T.und,sizeOf,typeInfo,hi,Builtin.lenOf,Builtin.firstCells]
   simp[Builtin.append_,run_underlying T.und,sizeOf,typeInfo,hi,Builtin.lenOf,Builtin.firstCells,hnc,storeCells]
  unfold Oper.wp;simp[execOp,ho,resolve,invoke,builtin,hs,hx,hrun,Result.andThen];exact hk _ _ (h v w (by rw[List.append_nil];exact hown) (World.grownBy.refl _ _) (Below.refl _ _))
 | some q =>
  have hnews:∀ j u,(flat E K)[j]?=some u→w.cell? (q.add j)=some u:=fun j u hu=>by
   have hj:j<K.length*E.k:=by rw[← flat_length];exact (List.getElem?_eq_some_iff.1 hu).1
   have hK0:0<K.length:=by
    rcases Nat.eq_zero_or_pos K.length with h | h
    · rw[h] at hj;omega
    exact h
   obtain ⟨b,off,e,_⟩:=hK.2 (by rw[hK.1];exact hK0);obtain rfl:q=⟨b,off,none⟩:=Option.some.inj e;exact Lies.at hK j u hu
  have hsm:=T.small;refine wpList_append_own w hgd s x ts ho B te i0 z E.k bytes T.und hi hz0 hz1 hz2 T.zsize E.pos v L.length (flat E L) hs hown q nx cx (flat E K) hx (by rw[flat_length,hK.1]) hnews (flat_one E K) (by unfold maxLen;omega) (hb.elim (fun hb=>Nat.le_trans (Nat.mul_le_mul hlen hb) (by decide)) fun hb=>Nat.le_trans (Nat.mul_le_mul hb hsm) (by decide)) hbase ?_;intro v' w' h1 h2 _;refine h v' w' ?_ h2 (Below.grown (Below.refl B w) h2 hbase (fun k e=>(hown.lt k e).1));unfold Own;rw[flat_append,List.length_append,← hK.1];exact h1
theorem step_app (T:Typ P E ts te z bytes) {ops:Array Oper} {o:Oper} {a:Act} {w:World} {K0:Act→World→Prop} {Q:Exit→Act→World→Prop} {F:Prop} (hgd:o.guard=none) (s x:Operand)
  (ho:o.op=.call { callee:=.builtin .append,args:=#[s,x],argTypes:=#[ts,ts] }) (B:Nat) (v:Value) (L:List α) (hs:a.eval s=v) (hown:Own E te w B v L)
  (q:Addr) (nx cx:Nat) (K:List α) (hx:a.eval x=.slice (some q) nx cx) (hK:Lies E w (some q) nx K)
  (hlen:L.length+nx≤1099511627776) (hbase:B≤w.heap.size)
  (h:∀ v' w',Own E te w' B v' (L++K)→w.grownBy w' v.ownBlock→Below B w w'→K0 (a.put o.dst v') w') (hb:bytes≤128∨L.length+nx≤137438953472:=by first | exact .inl (by decide) | exact .inr (by omega)):if Region.wanted o (yielded ops a.tmps)=true then Oper.wp P o a w K0 Q else F:=by
 have hw:Region.wanted o (yielded ops a.tmps)=true:=by simp[Region.wanted,hgd]
 rw[if_pos hw];obtain ⟨i0,hi,hz0,hz1,hz2⟩:=T.info;have hnews:∀ j u,(flat E K)[j]?=some u→w.cell? (q.add j)=some u:=fun j u hu=>by
  have hj:j<K.length*E.k:=by rw[← flat_length];exact (List.getElem?_eq_some_iff.1 hu).1
  have hK0:0<K.length:=by
   rcases Nat.eq_zero_or_pos K.length with h | h
   · rw[h] at hj;omega
   exact h
  obtain ⟨b,off,e,_⟩:=hK.2 (by rw[hK.1];exact hK0);obtain rfl:q=⟨b,off,none⟩:=Option.some.inj e;exact Lies.at hK j u hu
 have hsm:=T.small;refine wp_append_own w s x ts ho B te i0 z E.k bytes T.und hi hz0 hz1 hz2 T.zsize E.pos v L.length (flat E L) hs hown q nx cx (flat E K) hx (by rw[flat_length,hK.1]) hnews (flat_one E K) (by unfold maxLen;omega) (hb.elim (fun hb=>Nat.le_trans (Nat.mul_le_mul hlen hb) (by decide)) fun hb=>Nat.le_trans (Nat.mul_le_mul hb hsm) (by decide)) hbase ?_;intro v' w' h1 h2 _;refine h v' w' ?_ h2 (Below.grown (Below.refl B w) h2 hbase (fun k e=>(hown.lt k e).1));unfold Own;rw[flat_append,List.length_append,← hK.1];exact h1
theorem own_of {w:World} {B g n cap:Nat} {L:List α} {cur:Array Value} (hB:B≤g) (hg:w.heap[g]?=some (.cells cur te (0,0))) (hn:n=L.length) (hc:L.length≤cap) (hm:cap≤maxLen) (hs:cur.size=cap*E.k) (ht:cur.toList.take (L.length*E.k)=flat E L) :
  Own E te w B (.slice (some ⟨g,0,none⟩) n cap) L:=by
 subst hn;exact ⟨flat_length E L,.inr ⟨g,cap,cur,rfl,hB,hg,hc,hm,hs,ht⟩⟩
end Row
namespace Bag
open RowKit YtnpjkmomllkhpaaGreatDoor.Mark Dots
def dE:Row.Enc M:=⟨2,by decide,M.cells,fun _=>rfl,fun x v hv=>by
 simp only[M.cells,List.mem_cons,List.not_mem_nil,or_false] at hv;rcases hv with rfl | rfl <;> rfl⟩
structure RI where
 t:List UInt8
 a:Option Addr
 c:Nat
 d:List M
def RI.it (x:RI):It:=⟨x.t,x.d⟩
instance : Coe RI (Array Value) := ⟨fun x => #[x.t, .slice x.a x.d.length x.c]⟩
instance : Coe RI (List Value) := ⟨fun x => [x.t, .slice x.a x.d.length x.c]⟩
def RI.cells (x:RI):List Value:=[x.t,.slice x.a x.d.length x.c]
def iE:Row.Enc RI:=⟨2,by decide,RI.cells,fun _=>rfl,fun x v hv=>by
 simp only[RI.cells,List.mem_cons,List.not_mem_nil,or_false] at hv;rcases hv with rfl | rfl <;> rfl⟩
theorem typD:Row.Typ Tryz.prog dE 153 167 (.agg #[.string ⟨#[]⟩,.int .u64 0]) 24:=⟨Tryz.underlying153,Row.info_of (by kernel_rfl),rfl,by decide⟩
theorem typI:Row.Typ Tryz.prog iE 24 155 (.agg #[.string ⟨#[]⟩,.slice none 0 0]) 40:=⟨Tryz.underlying24,Row.info_of (by kernel_rfl),rfl,by decide⟩
def Inner (w:World) (x:RI):Prop:=Row.Lies dE w x.a x.d.length x.d
def Lies (w:World) (a:Option Addr) (n:Nat) (L:List It):Prop:=∃ J:List RI,J.map RI.it=L∧Row.Lies iE w a n J∧∀ x ∈ J,Inner w x
variable {w w':World} {a:Option Addr} {n:Nat} {L:List It}
theorem Inner.below {x:RI} (h:Inner w x) (k:Below w.heap.size w w'):Inner w' x:=Row.Lies.below h k
theorem items_at {J:List RI} (h:Row.Lies iE w a n J) (hn:0<n):∃ b off,a=some ⟨b,off,none⟩∧∀ j (hj:j<J.length),w.cell? ⟨b,off+j*2,none⟩=some (.string ⟨J[j].t.toArray⟩)∧w.cell? ⟨b,off+j*2+1,none⟩=some (.slice J[j].a J[j].d.length J[j].c):=by
 obtain ⟨b,off,e,hc⟩:=h.2 hn;exact ⟨b,off,e,fun j hj=>⟨hc j hj 0 _ rfl,hc j hj 1 _ rfl⟩⟩
theorem dots_at {L:List M} (h:Row.Lies dE w a n L) (hn:0<n):∃ b off,a=some ⟨b,off,none⟩∧∀ j (hj:j<L.length),w.cell? ⟨b,off+j*2,none⟩=some (.string ⟨(L[j]).p.toArray⟩)∧w.cell? ⟨b,off+j*2+1,none⟩=some (.int .u64 ((L[j]).n:Int)):=by
 obtain ⟨b,off,e,hc⟩:=h.2 hn;exact ⟨b,off,e,fun j hj=>⟨hc j hj 0 _ rfl,hc j hj 1 _ rfl⟩⟩
end Bag
namespace Row
open RowKit
theorem Own.lies' {α:Type} {E:Enc α} {te:TypeId} {w:World} {B:Nat} {v:Value} {L:List α} (h:Own E te w B v L):∃ a c,v=.slice a L.length c∧L.length≤c∧c≤maxLen∧Lies E w a L.length L∧(∀ q,a=some q→B≤q.block)∧(a=none→c=0):=by
 obtain ⟨a,c,rfl,h1,h2,h3,h4⟩:=h.lies;refine ⟨a,c,rfl,h1,h2,h3,h4,fun e=>?_⟩;subst e;rcases h.2 with ⟨e,_⟩ | ⟨g,cap,cur,e,_⟩
 · simp only[Value.slice.injEq] at e;exact e.2.2
 simp at e
end Row
namespace Words
open RowKit
def enc:Row.Enc (List UInt8):=⟨1,by decide,fun x=>[x],fun _=>rfl,fun x v hv=>by
 simp only[List.mem_cons,List.not_mem_nil,or_false] at hv;rw[hv];rfl⟩
theorem info_str:(Tryz.prog.info? 9).map (fun i=>(i.zero,i.size,i.bytes))=some (some (.string ⟨#[]⟩),1,16):=by kernel_rfl
theorem typ:Row.Typ Tryz.prog enc 31 9 (.string ⟨#[]⟩) 16:=⟨Tryz.underlying31,Row.info_of info_str,rfl,by decide⟩
abbrev Mine:=Row.Own enc 9
abbrev Lies:=Row.Lies enc
theorem words_at {w:World} {n:Nat} {L:List (List UInt8)} {a:Option Addr} (h:Lies w a n L) (hn:0<n):∃ b off,a=some ⟨b,off,none⟩∧∀ j (hj:j<L.length),w.cell? ⟨b,off+j,none⟩=some ↑(L[j]):=by
 obtain ⟨b,off,e,hc⟩:=h.2 hn;exact ⟨b,off,e,fun j hj=>by have:=hc j hj 0 _ rfl;simpa [enc] using this⟩
theorem Lies.of_cells {w:World} {b off:Nat} {L:List (List UInt8)} (h:∀ j (hj:j<L.length),w.cell? ⟨b,off+j,none⟩=some ↑(L[j])):Lies w (some ⟨b,off,none⟩) L.length L:=by
 refine ⟨rfl,fun _=>⟨b,off,rfl,fun j hj i u hu=>?_⟩⟩;have hi:i=0:=by
  have:=(List.getElem?_eq_some_iff.1 hu).1;simp[enc] at this;exact this
 subst hi;simp only[enc,List.getElem?_cons_zero,Option.some.injEq] at hu;rw[← hu];simp[enc,h j hj]
end Words
end Go.Proofs.YtnpjkmomllkhpaaGreatDoor
