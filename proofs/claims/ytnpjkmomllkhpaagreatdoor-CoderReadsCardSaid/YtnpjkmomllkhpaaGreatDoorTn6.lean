/- Recs, Mark, DotOf, Sized, Trod, Row. -/
import Derived.Test.YtnpjkmomllkhpaaGreatDoorTn3
import Derived.Deep.Slices
import Derived.Deep.Fields
import Derived.ChangeArms
import Derived.Laws.AppendOwn
import Derived.Laws.OwnMore
import Derived.Lib.Hide
import Derived.SizedLaws
import Derived.OwnWalk
import Derived.Tactics
set_option linter.unusedVariables false
set_option linter.unusedSimpArgs false
set_option maxRecDepth 100000
set_option maxHeartbeats 1000000
namespace Go.Proofs.YtnpjkmomllkhpaaGreatDoor
section
open RowKit
inductive Fk where
 | int (k:IntKind)
 | str
 | bool

end
namespace Mark
open RowKit
structure M where
 p:List UInt8
 n:Nat
instance : Inhabited M := ⟨⟨[], 0⟩⟩
instance : Coe M (Array Value) := ⟨fun x => #[x.p, x.n]⟩
instance : Coe M (List Value) := ⟨fun x => [x.p, x.n]⟩
theorem M.ext' {a b:M} (h:a.p=b.p) (k:a.n=b.n):a=b:=by cases a;cases b;simp_all
def M.cells (m:M):List Value:=[m.p,m.n]
def M.agg (m:M):Value:=.agg #[m.p,m.n]
def flat (L:List M):List Value:=L.flatMap M.cells
theorem flat_nil:flat []=[]:=rfl
theorem flat_cons (m:M) (L:List M):flat (m::L)=.string ⟨m.p.toArray⟩::.int .u64 (m.n:Int)::flat L:=rfl
theorem flat_append (L K:List M):flat (L++K)=flat L++flat K:=by simp[flat]
theorem flat_snoc (L:List M) (m:M):flat L++[.string ⟨m.p.toArray⟩,.int .u64 (m.n:Int)]=flat (L++[m]):=by rw[flat_append];rfl
theorem flat_length:∀ L:List M,(flat L).length=L.length*2
 | []=>rfl
 | m::L=>by rw[flat_cons,List.length_cons,List.length_cons,flat_length L,List.length_cons];omega
theorem flat_get:∀ (L:List M) (j:Nat) (h:j<L.length),(flat L)[j*2]?=some (.string ⟨(L[j]).p.toArray⟩)∧(flat L)[j*2+1]?=some (.int .u64 ((L[j]).n:Int))
 | [],j,h=>absurd h (by simp)
 | m::L,0,h=>⟨rfl,rfl⟩
 | m::L,j+1,h=>by
  have:=flat_get L j (by simpa using h);rw[flat_cons,show (j+1)*2=j*2+1+1 by omega];simpa using this
theorem flat_one:∀ (L:List M),∀ u ∈ flat L,u.oneCell'=true
 | [],u,h=>by cases h
 | m::L,u,h=>by
  rw[flat_cons] at h;rcases List.mem_cons.1 h with rfl | h
  · rfl
  rcases List.mem_cons.1 h with rfl | h
  · rfl
  exact flat_one L u h
def Lies (w:World) (a:Option Addr) (n:Nat) (L:List M):Prop :=
 n=L.length∧(0<n→∃ b off,a=some ⟨b,off,none⟩∧∀ j (h:j<L.length),w.cell? ⟨b,off+j*2,none⟩=some (.string ⟨(L[j]).p.toArray⟩)∧w.cell? ⟨b,off+j*2+1,none⟩=some (.int .u64 ((L[j]).n:Int)))
theorem Lies.nil (w:World) (a:Option Addr):Lies w a 0 []:=⟨rfl,fun h=>absurd h (by omega)⟩
theorem Lies.mono {w w':World} {a:Option Addr} {n:Nat} {L:List M} (h:Lies w a n L) (k:∀ p v,w.cell? p=some v→(∀ q,a=some q→q.block=p.block)→w'.cell? p=some v):Lies w' a n L:=by
 refine ⟨h.1,fun hn=>?_⟩;obtain ⟨b,off,rfl,hc⟩:=h.2 hn;exact ⟨b,off,rfl,fun j hj=>⟨k _ _ (hc j hj).1 (fun q e=>by cases e;rfl),k _ _ (hc j hj).2 (fun q e=>by cases e;rfl)⟩⟩
theorem Lies.below {w w':World} {a:Option Addr} {n:Nat} {L:List M} (h:Lies w a n L) (k:Below w.heap.size w w'):Lies w' a n L :=
 h.mono fun p _ hv _=>(World.cell?_of_block (k.block p.block (World.block_lt_of_cell? _ _ hv))).trans hv
instance {a : Option Addr} {n : Nat} {L : List M} : Kept (fun w => Lies w a n L) := ⟨fun k h => Lies.below h k⟩
instance {w : World} {a : Option Addr} {n : Nat} {L : List M} : Hd w (Lies w a n L) (fun w => Lies w a n L) := ⟨id⟩
theorem lies_own {w:World} {B:Nat} {t:TypeId} {v:Value} {L:List M} (h:w.ownsRow B t 2 v L.length (flat L)) :
  ∃ a c,v=.slice a L.length c∧L.length≤c∧c≤maxLen∧Lies w a L.length L∧(∀ q,a=some q→B≤q.block):=by
 have h0:=h;rcases h.2 with ⟨rfl,hc⟩ | ⟨g,cap,cur,rfl,hB,_,hle,hmx,_⟩
 ·have:L=[]:=List.length_eq_zero_iff.1 hc;subst this;exact ⟨none,0,rfl,Nat.le_refl _,Nat.zero_le _,Lies.nil _ _,fun q e=>by cases e⟩
 refine ⟨_,cap,rfl,hle,hmx,⟨rfl,fun _=>⟨g,0,rfl,fun j hj=>?_⟩⟩,fun q e=>by cases e;exact hB⟩;have hg:=flat_get L j hj;rw[Nat.zero_add];exact ⟨(h0.cellAt (j*2) (by omega)).trans hg.1,(h0.cellAt (j*2+1) (by omega)).trans hg.2⟩
def Ok (L:List M):Prop:=∀ m ∈ L,m.n≤18446744073709551615∧m.p.length≤9223372036854775807
theorem info_mark:(Tryz.prog.info? 96).map (fun i=>(i.zero,i.size,i.bytes))=some (some (.agg #[.string ⟨#[]⟩,.int .u64 0]),2,24):=by kernel_rfl
end Mark
namespace Dots
open RowKit YtnpjkmomllkhpaaGreatDoor.Mark
def isQ (q:List UInt8) (m:M):Bool:=decide (m.p=q∧q≠[])
def mostL (f:M→Bool) (L:List M):Nat:=L.foldl (fun n m=>if f m then max n m.n else n) 0
def ofL (L:List M) (q:List UInt8):Nat:=mostL (isQ q) L
theorem mostL_snoc (f:M→Bool) (L:List M) (k:Nat) (h:k<L.length):mostL f (L.take (k+1))=if f L[k] then max (mostL f (L.take k)) (L[k]).n else mostL f (L.take k):=by
 unfold mostL;rw[List.take_succ_eq_append_getElem h,List.foldl_append];rfl
theorem mostL_le (f:M→Bool):∀ (L:List M) (a b:Nat),a≤b→(∀ m ∈ L,m.n≤b)→L.foldl (fun n m=>if f m then max n m.n else n) a≤b
 | [],a,b,h,_=>h
 | m::L,a,b,h,hm=>by
  rw[List.foldl_cons];refine mostL_le f L _ b ?_ (fun x hx=>hm x (List.mem_cons_of_mem _ hx));have:=hm m (List.mem_cons_self ..);split
  · omega
  exact h
theorem is_any (q:List UInt8) (B:Nat) (m:M) (w:World) (hB:B<w.heap.size) (hc:w.cell? ⟨B,0,none⟩=some ↑q) :
  CB 179 #[m.agg,.pointer (some ⟨B,0,none⟩)] w (isQ q m):=by
 obtain ⟨p,n⟩:=m;have h0:=Below.refl w.heap.size w;unfold M.agg;simp only;by_cases h:p=q
 ·subst h;by_cases h2:p=[]
  ·have hv:=hid (show isQ p ⟨p,n⟩=false by unfold isQ;simp[h2]);subst h2;go_enter Tryz.func179,Tryz.ntmps179;go_wp2;go_ret;exact ⟨by rw[hv.out];rfl,balloc h0 _⟩
  have hv:=hid (show isQ p ⟨p,n⟩=true by unfold isQ;simp[h2]);have y1:(!p.isEmpty)=true:=by cases p with | nil=>exact absurd rfl h2 | cons _ _=>rfl
  have y2:p.isEmpty=false:=by cases p with | nil=>exact absurd rfl h2 | cons _ _=>rfl
  clear h2;go_enter Tryz.func179,Tryz.ntmps179;go_wp2;go_ret;exact ⟨by rw[hv.out];rfl,balloc h0 _⟩
 have hv:=hid (show isQ q ⟨p,n⟩=false by unfold isQ;simp[h]);have y:(p == q)=false:=by rw[beq_eq_false_iff_ne];exact h
 clear h;go_enter Tryz.func179,Tryz.ntmps179;go_wp2;go_ret;exact ⟨by rw[hv.out];rfl,balloc h0 _⟩
theorem most_any (q:List UInt8) (B:Nat) (L:List M) (a:Option Addr) (n c:Nat) (w:World) (hB:B<w.heap.size) (hc:w.cell? ⟨B,0,none⟩=some ↑q) (hL:Lies w a n L) (hn:n≤1099511627776) (hok:Ok L) :
  CB 178 #[.slice a n c,.func (.func 179) #[] #[.pointer (some ⟨B,0,none⟩)]] w (.int .u64 (ofL L q:Nat)):=by
 have HL:=hid hL;have HO:=hid hok;have HC:=hid hc;clear hL hok hc;go_enter Tryz.func178,Tryz.ntmps178;go_wp2_with fail
 go_loopw [5,10] (fun nv iv wr=>∃ k:Nat,k≤n∧iv=.int .i64 k∧nv=.int .u64 (mostL (isQ q) (L.take k):Nat)∧Below w.heap.size w wr) (fun _ iv _=>n - (intOf iv).toNat)
 case atStart=>exact ⟨0,by omega,rfl,rfl,Below.refl _ _⟩
 obtain ⟨k,hk,rfl,rfl,hb⟩:=hrel;have hln:=HL.out.1;by_cases hlt:k<n
 ·obtain ⟨b,off,rfl,hcell⟩:=(HL.out.below hb).2 (by omega);obtain ⟨c1,c2⟩:=hcell k (by omega);have hs:=mostL_snoc (isQ q) L k (by omega);have hx:=mostL_le (isQ q) (L.take k) 0 18446744073709551615 (by omega) (fun m hm=>(HO.out m (List.mem_of_mem_take hm)).1);obtain ⟨m,hm⟩:=nm (L[k]'(by omega));have hmn:m.n≤18446744073709551615:=(HO.out m (by rw[hm];exact List.getElem_mem _)).1;rw[← hm] at c1 c2 hs;change mostL (isQ q) (L.take k)≤_ at hx;obtain ⟨x,hxx⟩:=nm (mostL (isQ q) (L.take k));rw[← hxx] at hs hx ⊢;have HS:=hid hs;have g0:=(hb.cell (p:=⟨B,0,none⟩) hB).trans HC.out;have CL:=hid (fun W (k:Below w.heap.size w W)=>is_any q B m W (Nat.lt_of_lt_of_le hB k.size) ((k.cell (p:=⟨B,0,none⟩) hB).trans HC.out));obtain ⟨r,hr⟩:=nm (isQ q m);rw[← hr] at CL HS;have q1:=World.block_lt_of_cell? _ _ c2;clear hm hcell hln hxx hs g0 hr;go_wp2_with fail
  refine cr (CL.out _ (balloc hb _)) fun v1 k1=>?_;have h1:=bstep (balloc hb _) k1;have c3:=(k1.cell (p:=⟨wr.heap.size,1,none⟩) (by simp)).trans (World.cell?_alloc_new ..);simp at c3;cases r with
  | false =>
   go_wp2;go_roundw
   ·exact ⟨k+1,by omega,by go_num,by rw[HS.out];rfl,h1⟩
   simp[intOf];omega
  | true =>
   go_wp2;go_roundw
   ·exact ⟨k+1,by omega,by go_num,by rw[HS.out,if_pos trivial,Nat.max_def];congr 1;split <;> split <;> omega,h1⟩
   simp[intOf];omega
 obtain rfl:k=n:=by omega
 have hv:L.take k=L:=List.take_of_length_le (by omega);have HV:=hid hv;have hd:=dF (p:=(k:Int)<(k:Int));clear hln hv;go_wp2;go_ret;exact ⟨by rw[HV.out];rfl,hb⟩
theorem of_any (q:List UInt8) (L:List M) (a:Option Addr) (n c:Nat) (w:World) (hL:Lies w a n L) (hn:n≤1099511627776) (hok:Ok L) :
  CB 113 #[.slice a n c,q] w (.int .u64 (ofL L q:Nat)):=by
 have C:=hid (fun W (k:Below w.heap.size w W) B (hB:B<W.heap.size) hc=>most_any q B L a n c W hB hc (hL.below k) hn hok);have h0:=Below.refl w.heap.size w;clear hL;go_enter Tryz.func113,Tryz.ntmps113;go_wp2_with fail
 refine cr (C.out _ (balloc h0 _) _ (by simp) (World.cell?_alloc_new ..)) fun v1 k1=>?_;have h1:=bstep (balloc h0 _) k1;go_wp2;go_ret;exact ⟨rfl,h1⟩
theorem keepC {w w':World} {b o:Nat} {v:Value} (h:w.cell? ⟨b,o,none⟩=some v) (k:Below w.heap.size w w'):w'.cell? ⟨b,o,none⟩=some v :=
 (k.cell (p:=⟨b,o,none⟩) (World.block_lt_of_cell? _ _ h)).trans h
def hasL (L:List M) (q:List UInt8) (x:Nat):Bool:=decide (1≤x) && decide (x≤ofL L q)
theorem has_any (q:List UInt8) (x:Nat) (L:List M) (a:Option Addr) (n c:Nat) (w:World) (hL:Lies w a n L) (hn:n≤1099511627776) (hok:Ok L) :
  CB 166 #[.slice a n c,.agg #[q,x]] w (hasL L q x):=by
 have C:=hid (fun W (k:Below w.heap.size w W)=>of_any q L a n c W (hL.below k) hn hok);have HV:Hid (hasL L q x=(decide (1≤x) && decide (x≤ofL L q))):=hid rfl;have h0:=Below.refl w.heap.size w;obtain ⟨o,ho⟩:=nm (ofL L q);rw[← ho] at C HV;clear hL ho;have c0:(w.alloc (.cells #[q,x] 167)).cell? ⟨w.heap.size,0,none⟩=some ↑q:=by rw[World.cell?_alloc_new];rfl
 have c1:(w.alloc (.cells #[q,x] 167)).cell? ⟨w.heap.size,1,none⟩=some ↑x:=by rw[World.cell?_alloc_new];rfl
 have hb:Below w.heap.size w (w.alloc (.cells #[q,x] 167)):=balloc h0 _;by_cases hx1:1≤x
 ·have d1:decide ((x:Int)≥1)=true:=dT;have d1':=dT (p:=(1:Int)≤(x:Int));go_enter Tryz.func166,Tryz.ntmps166;go_wp2_with fail
  refine rhd (aj2 c0 c1) fun gH=>?_;refine tk (.range 9) ?_;refine tR 9 fun K hK=>?_;go_simp;go_at_call 113;refine cr (C.out _ (by first | exact hb | exact Below.drew hb)) fun v1 k1=>?_;have h1:=bstep (w:=w) (by first | exact hb | exact Below.drew hb) k1;go_wp2_with fail
  refine tH hK gH k1 fun gH=>?_;clear hK K;refine tk [10,11,12] ?_;refine tD ?_;go_wp2;go_ret;exact ⟨by rw[HV.out,decide_eq_true hx1,Bool.true_and];rfl,h1⟩
 have d1:=dF (p:=(x:Int)≥1);have d1':=dF (p:=(1:Int)≤(x:Int));go_enter Tryz.func166,Tryz.ntmps166;go_wp2_with fail
 refine rhd (aj2 c0 c1) fun gH=>?_;refine tk (.range 13) ?_;refine tD ?_;go_wp2;go_ret;exact ⟨by rw[HV.out,decide_eq_false hx1];rfl,Below.drew hb⟩
end Dots
section
open RowKit
section
variable {H:Type} {enc:TypeId × Value→H} {P:Program} {w:World} {base:Nat} {spare:Nat→Bool} {held:Bool} {ts:List TypeId} {ds:List (DataW H)}
theorem weights_all {e:TypeId}:∀ {l:List (DataW H)} {i:Nat} {d:DataW H},l[i]?=some d→∀ n ∈ d.weights P e,n ∈ DataW.weightsAll P e l
 | [],_,_,h,_,_=>by simp at h
 | x::l,0,d,h,n,hn=>by
  simp only[List.getElem?_cons_zero,Option.some.injEq] at h;subst h;simp only[DataW.weightsAll,List.mem_append];exact .inl hn
 | x::l,i+1,d,h,n,hn=>by
  simp only[List.getElem?_cons_succ] at h;simp only[DataW.weightsAll,List.mem_append];exact .inr (weights_all h n hn)
end
end
section
open RowKit
section
variable {H:Type} {enc:TypeId × Value→H} {P:Program} {w:World} {base:Nat} {spare:Nat→Bool} {held:Bool} {t e:TypeId} {cs:List Value}
def Tr (enc:TypeId × Value→H) (P:Program) (w:World) (base:Nat) (spare:Nat→Bool) (held:Bool) (t:TypeId) (cs:List Value):Prop :=
 ∃ fuel d ps,DataW.trod enc P w base spare held fuel t cs=some (d,ps)∧∀ n ∈ d.weights P t,n≤140737488351232
theorem Tr.int {k:IntKind} (ht:P.underlying t=some (.int k)) (h:Tr enc P w base spare held t cs):∃ n,cs=[.int k n]∧(Lit.int k n).wf=true:=by
 obtain ⟨fuel,d,ps,hf,_⟩:=h;obtain ⟨n,hn,_,hw⟩:=DataW.trod_int ht hf;exact ⟨n,hn,hw⟩
theorem Tr.bool (ht:P.underlying t=some .bool) (h:Tr enc P w base spare held t cs):∃ b,cs=[.bool b]:=by
 obtain ⟨fuel,d,ps,hf,_⟩:=h;obtain ⟨b,hb,_⟩:=DataW.trod_bool ht hf;exact ⟨b,hb⟩
theorem Tr.str (ht:P.underlying t=some .string) (h:Tr enc P w base spare held t cs):∃ l:List UInt8,cs=[.string ⟨l.toArray⟩]∧l.length≤140737488351232:=by
 obtain ⟨fuel,d,ps,hf,hz⟩:=h;obtain ⟨s,hs,hx,_⟩:=DataW.trod_string ht hf;simp only[Prod.mk.injEq] at hx;refine ⟨s.data.toList,by rw[hs],?_⟩;apply hz;rw[hx.1];simp[DataW.weights]
theorem Tr.struct {fs:Array Field} (ht:P.underlying t=some (.struct fs)) (h:Tr enc P w base spare held t cs) :
  cs.length=P.cellsOf t∧∀ (i:Nat) (f:Field),fs[i]?=some f→Tr enc P w base spare held f.type ((cs.drop f.offset).take (P.cellsOf f.type)):=by
 obtain ⟨fuel,d,ps,hf,hz⟩:=h;obtain ⟨xs,n,_,hx,hl,hlen,hi⟩:=DataW.trod_struct ht hf;simp only[Prod.mk.injEq] at hx;refine ⟨hl,fun i f hfi=>?_⟩;have hlt:i<fs.size:=(Array.getElem?_eq_some_iff.1 hfi).1;have h1:=hi i f hfi;rw[List.getElem?_eq_getElem (by omega)] at h1;refine ⟨n,xs[i].1,xs[i].2,h1,fun m hm=>hz m ?_⟩;rw[hx.1];simp only[DataW.weights,ht];refine DataW.weights_mem_each (j:=i) (t:=f.type) (d:=xs[i].1) ?_ ?_ m hm
 · rw[List.getElem?_map,Array.getElem?_toList,hfi];rfl
 rw[List.getElem?_map,List.getElem?_eq_getElem (by omega)];rfl
theorem Tr.slice (ht:P.underlying t=some (.slice e)) (h:Tr enc P w base spare held t cs) :
  ∃ a len cap,cs=[.slice a len cap]∧len*P.bytesOf e≤140737488351232∧len≤cap∧cap≤maxLen∧(a=none→len=0∧cap=0) ∧
   ∀ y,a=some y→∀ i,i<len→∃ cs',w.cells? base (y.add (i*P.cellsOf e)) (P.cellsOf e)=some cs'∧Tr enc P w base spare held e cs':=by
 obtain ⟨fuel,d,ps,hf,hz⟩:=h;rcases Go.Deep.open_slice ht hf with ⟨h0,_⟩ | ⟨y,len,cap,m,n,D,Pl,hcs,_,hl,hm,hmm,hx,hi⟩
 · exact ⟨none,0,0,h0,by omega,Nat.le_refl _,Nat.zero_le _,fun _=>⟨rfl,rfl⟩,fun y hy=>by cases hy⟩
 simp only[Prod.mk.injEq] at hx;have hlm:len≤m:=by rw[hmm];split <;> omega
 have hmem:∀ k,k ∈ ((((List.range len).map D).length+((List.range (m - len)).map fun j=>D (len+j)).length)*P.bytesOf e::(DataW.weightsAll P e ((List.range len).map D)++DataW.weightsAll P e ((List.range (m - len)).map fun j=>D (len+j))))→k≤140737488351232:=by
  intro k hk;apply hz k;rw[hx.1];simp only[DataW.weights,ht];exact hk
 refine ⟨some y,len,cap,hcs,?_,hl,hm,(fun h=>(by cases h)),fun y' hy i hil=>?_⟩
 ·have h1:=hmem _ List.mem_cons_self;simp only[List.length_map,List.length_range] at h1;exact Nat.le_trans (Nat.mul_le_mul_right _ (by omega)) h1
 cases hy
 obtain ⟨cs',hc,hd⟩:=hi i (by omega);refine ⟨cs',hc,n,D i,Pl i,hd,fun k hk=>hmem k ?_⟩;refine List.mem_cons_of_mem _ (List.mem_append_left _ ?_);exact weights_all (i:=i) (d:=D i) (by rw[List.getElem?_map,List.getElem?_range hil];rfl) k hk
end
end
namespace Row
open RowKit
structure Enc (α:Type) where
 k:Nat
 pos:0<k
 cells:α→List Value
 len:∀ x,(cells x).length=k
 one:∀ x,∀ v ∈ cells x,v.oneCell'=true
variable {α:Type} (E:Enc α)
def flat (L:List α):List Value:=L.flatMap E.cells
theorem flat_nil:flat E []=[]:=rfl
theorem flat_cons (x:α) (L:List α):flat E (x::L)=E.cells x++flat E L:=rfl
theorem flat_append (L K:List α):flat E (L++K)=flat E L++flat E K:=by simp[flat]
theorem flat_length:∀ L:List α,(flat E L).length=L.length*E.k
 | []=>by simp[flat]
 | x::L=>by rw[flat_cons,List.length_append,E.len,flat_length L,List.length_cons,Nat.add_mul];omega
theorem flat_get:∀ (L:List α) (j:Nat) (h:j<L.length) (i:Nat),i<E.k→(flat E L)[j*E.k+i]?=(E.cells L[j])[i]?
 | x::L,0,_,i,hi=>by
  rw[flat_cons,Nat.zero_mul,Nat.zero_add,List.getElem?_append_left (by rw[E.len];exact hi)];rfl
 | x::L,j+1,h,i,hi=>by
  have hl:j<L.length:=by simpa using h
  rw[flat_cons,List.getElem?_append_right (by rw[E.len,Nat.add_mul];omega),E.len];rw[show (j+1)*E.k+i - E.k=j*E.k+i by rw[Nat.add_mul];omega];exact flat_get L j hl i hi
theorem flat_one (L:List α):∀ u ∈ flat E L,u.oneCell'=true:=by
 intro u hu;obtain ⟨x,_,h⟩:=List.mem_flatMap.1 hu;exact E.one x u h
def Lies (w:World) (a:Option Addr) (n:Nat) (L:List α):Prop :=
 n=L.length∧(0<n→∃ b off,a=some ⟨b,off,none⟩∧∀ j (h:j<L.length) i u,(E.cells L[j])[i]?=some u→w.cell? ⟨b,off+j*E.k+i,none⟩=some u)
variable {E}
theorem Lies.nil (w:World) (a:Option Addr):Lies E w a 0 []:=⟨rfl,fun h=>absurd h (by omega)⟩
theorem Lies.below {w w':World} {a:Option Addr} {n:Nat} {L:List α} (h:Lies E w a n L) (k:Below w.heap.size w w'):Lies E w' a n L:=by
 refine ⟨h.1,fun hn=>?_⟩;obtain ⟨b,off,e,hc⟩:=h.2 hn;exact ⟨b,off,e,fun j hj i u hu=>by
  have hv:=hc j hj i u hu;exact (World.cell?_of_block (k.block _ (World.block_lt_of_cell? _ _ hv))).trans hv⟩
instance {a : Option Addr} {n : Nat} {L : List α} : Kept (fun w => Lies E w a n L) := ⟨fun k h => Lies.below h k⟩
instance {w : World} {a : Option Addr} {n : Nat} {L : List α} : Hd w (Lies E w a n L) (fun w => Lies E w a n L) := ⟨id⟩
theorem Lies.at {w:World} {b off n:Nat} {L:List α} (h:Lies E w (some ⟨b,off,none⟩) n L):∀ j u,(flat E L)[j]?=some u→w.cell? ((⟨b,off,none⟩:Addr).add j)=some u:=by
 intro j u hu;have hj:j<L.length*E.k:=by rw[← flat_length];exact (List.getElem?_eq_some_iff.1 hu).1
 have hk:=E.pos;have hl:j / E.k<L.length:=(Nat.div_lt_iff_lt_mul hk).2 hj;obtain ⟨b',off',e,hc⟩:=h.2 (by rw[h.1];exact Nat.lt_of_le_of_lt (Nat.zero_le _) hl);simp only[Option.some.injEq,Addr.mk.injEq,and_true] at e;obtain ⟨rfl,rfl⟩:=e;rw[Go.WideShapes.add_plain];have hg:=flat_get E L (j / E.k) hl (j % E.k) (Nat.mod_lt _ hk);have e2:j / E.k*E.k+j % E.k=j:=by rw[Nat.mul_comm];exact Nat.div_add_mod j E.k
 rw[e2,hu] at hg;have:=hc (j / E.k) hl (j % E.k) u hg.symm;rw[Nat.add_assoc,e2] at this;exact this
theorem lies_own {w:World} {B:Nat} {t:TypeId} {v:Value} {L:List α} (h:w.ownsRow B t E.k v L.length (flat E L)) :
  ∃ a c,v=.slice a L.length c∧L.length≤c∧c≤maxLen∧Lies E w a L.length L∧(∀ q,a=some q→B≤q.block):=by
 have h0:=h;rcases h.2 with ⟨rfl,hc⟩ | ⟨g,cap,cur,rfl,hB,_,hle,hmx,_⟩
 ·have:L=[]:=List.length_eq_zero_iff.1 hc;subst this;exact ⟨none,0,rfl,Nat.le_refl _,Nat.zero_le _,Lies.nil _ _,fun q e=>by cases e⟩
 refine ⟨_,cap,rfl,hle,hmx,⟨rfl,fun _=>⟨g,0,rfl,fun j hj i u hu=>?_⟩⟩,fun q e=>by cases e;exact hB⟩;have hi:i<E.k:=by rw[← E.len L[j]];exact (List.getElem?_eq_some_iff.1 hu).1
 have hb:j*E.k+i<L.length*E.k:=by
  have:(j+1)*E.k≤L.length*E.k:=Nat.mul_le_mul_right _ hj;rw[Nat.add_mul] at this;omega
 rw[Nat.zero_add];exact (h0.cellAt (j*E.k+i) hb).trans ((flat_get E L j hj i hi).trans hu)
end Row
end Go.Proofs.YtnpjkmomllkhpaaGreatDoor
