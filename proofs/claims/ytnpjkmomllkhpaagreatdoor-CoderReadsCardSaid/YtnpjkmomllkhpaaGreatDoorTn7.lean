/- MarkOwn, MarkFn, MarkCompact. -/
import Derived.Test.YtnpjkmomllkhpaaGreatDoorTn6
import Derived.Lib.SliceRun
import Derived.WalkSpells
import Derived.Deep.DeepCutAuto
import Derived.Shelf.Abstract
set_option linter.unusedVariables false
set_option linter.unusedSimpArgs false
set_option maxRecDepth 100000
set_option maxHeartbeats 4000000
namespace Go.Proofs.YtnpjkmomllkhpaaGreatDoor
namespace Mark
open RowKit
theorem gtrans {a b c:World} {r:Option Nat} (h:a.grownBy b r) (k:b.grownBy c r):a.grownBy c r :=
 ⟨k.os.trans h.os,k.tape.trans h.tape,k.output.trans h.output,Nat.le_trans h.size k.size,fun i hi hne=>(k.block i (Nat.lt_of_lt_of_le hi h.size) hne).trans (h.block i hi hne)⟩
theorem grown_of {A B:World} (h:Below A.heap.size A B):A.grownBy B none:=⟨h.os,h.tape,h.output,h.size,fun k hk _=>h.block k hk⟩
theorem flat_set:∀ (K:List M) (i:Nat) (m:M),i<K.length→flat (K.set i m)=((flat K).set (i*2) (.string ⟨m.p.toArray⟩)).set (i*2+1) (.int .u64 (m.n:Int))
 | [],i,m,h=>absurd h (by simp)
 | x::K,0,m,_=>rfl
 | x::K,i+1,m,h=>by
  rw[List.set_cons_succ,flat_cons,flat_cons,flat_set K i m (by simpa using h),show (i+1)*2=i*2+1+1 by omega];rfl
theorem flat_take:∀ (K:List M) (i:Nat),flat (K.take i)=(flat K).take (i*2)
 | [],i=>by simp[flat_nil]
 | x::K,0=>by simp[flat_nil]
 | x::K,i+1=>by
  rw[List.take_succ_cons,flat_cons,flat_cons,flat_take K i,show (i+1)*2=i*2+1+1 by omega];rfl
section
variable {w:World} {B:Nat} {T:TypeId} {g n cap:Nat}
theorem own_set {K:List M} {i:Nat} (m:M) (h:w.ownsRow B T 2 (.slice (some ⟨g,0,none⟩) n cap) n (flat K)) (hK:K.length=n) (hi:i<n) :
  ((w.setCell ⟨g,i*2,none⟩ (.string ⟨m.p.toArray⟩)).setCell ⟨g,i*2+1,none⟩ (.int .u64 (m.n:Int))).ownsRow B T 2 (.slice (some ⟨g,0,none⟩) n cap) n (flat (K.set i m)) ∧
  w.grownBy ((w.setCell ⟨g,i*2,none⟩ (.string ⟨m.p.toArray⟩)).setCell ⟨g,i*2+1,none⟩ (.int .u64 (m.n:Int))) (some g):=by
 obtain ⟨h1,g1⟩:=h.stored (i*2) (.string ⟨m.p.toArray⟩);obtain ⟨h2,g2⟩:=h1.stored (i*2+1) (.int .u64 (m.n:Int));rw[flat_set K i m (by omega)];exact ⟨h2,gtrans g1 g2⟩
theorem own_cells:∀ (vs:List Value) (o:Nat) (w:World) (xs:List Value),w.ownsRow B T 2 (.slice (some ⟨g,0,none⟩) n cap) n xs →
  ∃ ys,(w.setCells g o vs).ownsRow B T 2 (.slice (some ⟨g,0,none⟩) n cap) n ys∧ys.take o=xs.take o∧w.grownBy (w.setCells g o vs) (some g)
 | [],o,w,xs,h=>⟨xs,h,rfl,World.grownBy.refl _ _⟩
 | v::vs,o,w,xs,h=>by
  obtain ⟨h1,g1⟩:=h.stored o v;obtain ⟨ys,h2,e2,g2⟩:=own_cells vs (o+1) _ _ h1;refine ⟨ys,h2,?_,gtrans g1 g2⟩;have:=congrArg (List.take o) e2;rw[List.take_take,List.take_take,Nat.min_eq_left (by omega)] at this;rw[this,List.take_set_of_le (Nat.le_refl _)]
theorem own_cut {xs:List Value} {i:Nat} (h:w.ownsRow B T 2 (.slice (some ⟨g,0,none⟩) n cap) n xs) (hi:i≤n):w.ownsRow B T 2 (.slice (some ⟨g,0,none⟩) i cap) i (xs.take (i*2)):=by
 rcases h.2 with ⟨h',_⟩ | ⟨g',cap',cur,h',hb,hg,hnc,hcm,hcs,htake⟩
 · simp at h'
 simp only[Value.slice.injEq,Option.some.injEq,Addr.mk.injEq,and_true,true_and] at h';obtain ⟨rfl,rfl⟩:=h';refine ⟨by rw[List.length_take,h.1];omega,.inr ⟨g,cap,cur,rfl,hb,hg,by omega,hcm,hcs,?_⟩⟩;rw[← htake,List.take_take,Nat.min_eq_left (by omega)]
theorem own_cap {xs:List Value} (h:w.ownsRow B T 2 (.slice (some ⟨g,0,none⟩) n cap) n xs):n≤cap∧cap≤maxLen∧B≤g:=by
 rcases h.2 with ⟨h',_⟩ | ⟨g',cap',cur,h',hb,hg,hnc,hcm,hcs,htake⟩
 · simp at h'
 simp only[Value.slice.injEq,Option.some.injEq,Addr.mk.injEq,and_true,true_and] at h';obtain ⟨rfl,rfl⟩:=h';exact ⟨hnc,hcm,hb⟩
theorem own_isSome {xs:List Value} (h:w.ownsRow B T 2 (.slice (some ⟨g,0,none⟩) n cap) n xs) (j:Nat) (hj:j<n*2):(w.cell? ⟨g,j,none⟩).isSome=true∧w.frozen? ⟨g,j,none⟩=false:=by
 refine ⟨?_,h.frozenAt j⟩;rw[h.cellAt j hj,List.getElem?_eq_getElem (by rw[h.1];exact hj)];rfl
end
theorem run_clear {w:World} {B:Nat} {T0 g n cap i m c:Nat} {xs:List Value} (h:w.ownsRow B T0 2 (.slice (some ⟨g,0,none⟩) n cap) n xs) (hi:i<n) (hm:m=n - i) (ty:TypeId) :
  ∃ vs,(Builtin.clear_ #[22] ty #[.slice (some ⟨g,i*2,none⟩) m c]).run Tryz.prog w=.ok (.tuple #[]) (w.setCells g (i*2) vs):=by
 have hv:∀ w,(zeroValue 96).run Tryz.prog w=.ok (.agg #[.string ⟨#[]⟩,.int .u64 0]) w:=fun _=>by kernel_rfl
 obtain ⟨vs,hvs⟩:=nm ((Builtin.zeroCells (Value.agg #[.string ⟨#[]⟩,.int .u64 0]).cells m).toList);have hlen:vs.length=m*2:=by rw[hvs];simp[Builtin.zeroCells,Value.cells]
 have h1:∀ v ∈ vs,v.oneCell'=true:=by
  intro v hv';rw[hvs] at hv';simp only[Builtin.zeroCells,Value.cells,Array.toList_map,List.mem_map] at hv';obtain ⟨j,_,rfl⟩:=hv';have hj:j % 2<2:=Nat.mod_lt _ (by decide);have:j % 2=0∨j % 2=1:=by omega
  rcases this with e | e <;> simp[e,Value.oneCell']
 have hst:=run_storeCells_cells (P:=Tryz.prog) g (i*2) vs 0 w (fun j hj=>by
   have:=(own_isSome h (i*2+j) (by omega)).1;simpa [Nat.add_assoc] using this) (fun j hj=>by
   have:=(own_isSome h (i*2+j) (by omega)).2;simpa [Nat.add_assoc] using this) h1
 simp only[Nat.add_zero] at hst;refine ⟨vs,?_⟩;obtain ⟨k,rfl⟩:∃ k,m=k+1:=⟨m - 1,by omega⟩
 simp only[Value.cells] at hvs;simp[Builtin.clear_,run_underlying Tryz.underlying22,hv,Value.cells,← hvs,hst]
def Own (w:World) (B:Nat) (v:Value) (L:List M):Prop:=w.ownsRow B 96 2 v L.length (flat L)
theorem Own.lies {w:World} {B:Nat} {v:Value} {L:List M} (h:Own w B v L):∃ a c,v=.slice a L.length c∧L.length≤c∧c≤maxLen∧Lies w a L.length L∧(∀ q,a=some q→B≤q.block):=lies_own h
theorem Own.below {w w':World} {B:Nat} {v:Value} {L:List M} (h:Own w B v L) (k:Below w.heap.size w w'):Own w' B v L:=World.ownsRow.kept h (grown_of k) (Classical.em _)
theorem Own.alloc {w:World} {B:Nat} {v:Value} {L:List M} (h:Own w B v L) (o:Obj):Own (w.alloc o) B v L:=World.ownsRow.alloc h o
theorem Own.drew {w:World} {B:Nat} {v:Value} {L:List M} (h:Own w B v L):Own w.drew B v L:=h.below (Below.drew (Below.refl _ _))
theorem Own.base {w:World} {B B':Nat} {v:Value} {L:List M} (h:Own w B v L) (hB:B'≤B):Own w B' v L:=by
 refine ⟨h.1,?_⟩;rcases h.2 with h | ⟨g,cap,cur,e,hb,r⟩
 · exact .inl h
 exact .inr ⟨g,cap,cur,e,Nat.le_trans hB hb,r⟩
theorem Own.nil (w:World) (B:Nat):Own w B (.slice none 0 0) []:=World.ownsRow_nil _ _ _ _
theorem Own.some {w:World} {B:Nat} {v:Value} {L:List M} (h:Own w B v L) (hL:L≠[]):∃ g cap,v=.slice (some ⟨g,0,none⟩) L.length cap∧L.length≤cap∧cap≤maxLen∧B≤g:=by
 rcases h.2 with ⟨_,h0⟩ | ⟨g,cap,cur,e,hb,_,hn,hm,_⟩
 · exact absurd (List.length_eq_zero_iff.1 h0) hL
 exact ⟨g,cap,e,hn,hm,hb⟩
theorem keepC {w w':World} {b o:Nat} {v:Value} (h:w.cell? ⟨b,o,none⟩=some v) (k:Below w.heap.size w w'):w'.cell? ⟨b,o,none⟩=some v :=
 (k.cell (p:=⟨b,o,none⟩) (World.block_lt_of_cell? _ _ h)).trans h
theorem bstepB {B:Nat} {w a b:World} (hB:B≤w.heap.size) (h:Below B w a) (k:Below a.heap.size a b):Below B w b:=h.trans (k.mono (Nat.le_trans hB h.size))
def Pred (g:Nat) (lb:Array Value) (p:M→Bool) (B:Nat) (w:World):Prop :=
 ∀ (W:World) (m:M),Below B w W→Calls Tryz.prog g (#[m.agg]++lb) W fun e w'=>e=.returned (.bool (p m))∧Below W.heap.size W w'
def Pred2 (g:Nat) (lb:Array Value) (p:M→M→Bool) (B:Nat) (w:World):Prop :=
 ∀ (W:World) (m k:M),Below B w W→Calls Tryz.prog g (#[m.agg,k.agg]++lb) W fun e w'=>e=.returned (.bool (p m k))∧Below W.heap.size W w'
def idxL (p:M→Bool) (L:List M):Int:=match L.findIdx? p with | some i=>(i:Int) | none => -1
def Enters (g:Nat):Prop:=∀ args w,(callFunc g args).run Tryz.prog w=.ok (.enter g args) w
theorem get_agg (m:M):m.agg=.agg m:=rfl
theorem index_any (g:Nat) (lb:Array Value) (p:M→Bool) (B:Nat) (eg:Enters g) (L:List M) (a:Option Addr) (n c:Nat) (w:World) (hB:B≤w.heap.size) (hp:Pred g lb p B w) (hL:Lies w a n L) (hn:n≤1099511627776) :
  CB 258 #[.slice a n c,.func (.func g) #[] lb] w (.int .i64 (idxL p L)):=by
 have HL:=hid hL;have HP:=hid hp;have eg':∀ args w,(callFunc g args).run Tryz.prog w=.ok (.enter g args) w:=eg;clear hL hp eg;go_enter Tryz.func258,Tryz.ntmps258;go_wp2_with fail
 go_loopw [5,8] (fun _ iv wr=>∃ k:Nat,k≤n∧iv=.int .i64 k∧Hid (∀ j (h:j<L.length),j<k→p L[j]=false)∧Below w.heap.size w wr) (fun _ iv _=>n - (intOf iv).toNat)
 case atStart=>exact ⟨0,by omega,rfl,hid (fun j _ h=>absurd h (by omega)),Below.refl _ _⟩
 obtain ⟨k,hk,rfl,HI,hb⟩:=hrel;have hln:=HL.out.1;by_cases hlt:k<n
 ·obtain ⟨b,off,rfl,hcell⟩:=(HL.out.below hb).2 (by omega);have hkl:k<L.length:=by omega
  obtain ⟨c1,c2⟩:=hcell k hkl;obtain ⟨m,hm⟩:=nm (L[k]'hkl);rw[← hm] at c1 c2;have hcall:=HP.out wr m (hb.mono hB);rw[get_agg] at hcall;have q1:=World.block_lt_of_cell? _ _ c2;have HM:=hid hm;obtain ⟨r,hr⟩:=nm (p m);rw[← hr] at hcall;have HR:=hid hr;clear hm hcell hln hr;cases r with
  | false =>
   have CL:=hid hcall;clear hcall;go_wp2_with (go_at_fn g;refine CL.out.mono ?_;rintro e v1 ⟨rfl,k1⟩)
   go_roundw
   case rel =>
    refine ⟨k+1,by omega,by go_num,hid (fun j hj hjk=>?_),bstep hb k1⟩;rcases Nat.lt_or_ge j k with h | h
    · exact HI.out j hj h
    obtain rfl:j=k:=by omega
    rw[← HM.out];exact HR.out.symm
   case measure=>simp[intOf];omega
  | true =>
   have hv:idxL p L=(k:Int):=by
    have:L.findIdx? p=some k:=by
     rw[List.findIdx?_eq_some_iff_getElem];exact ⟨hkl,by rw[← HM.out];exact HR.out.symm,fun j hj=>by simp[HI.out j (by omega) hj]⟩
    rw[idxL,this]
   have HV:=hid hv;have CL:=hid hcall;clear hv hcall;go_wp2_with (go_at_fn g;refine CL.out.mono ?_;rintro e v1 ⟨rfl,k1⟩)
   go_ret;exact ⟨by rw[HV.out];rfl,bstep hb k1⟩
 obtain rfl:k=n:=by omega
 have hv:idxL p L = -1:=by
  have:L.findIdx? p=none:=by
   rw[List.findIdx?_eq_none_iff];intro x hx;obtain ⟨j,hj,rfl⟩:=List.mem_iff_getElem.1 hx;exact HI.out j hj (by omega)
  rw[idxL,this]
 have HV:=hid hv;have hd:=dF (p:=(k:Int)<(k:Int));clear hln hv;go_wp2;go_ret;exact ⟨by rw[HV.out];rfl,hb⟩
theorem filter_all {p:M→Bool} {L:List M} (h:idxL p L = -1):L.filter (fun m => !p m)=L:=by
 unfold idxL at h;split at h
 · omega
 rename_i h2
 rw[List.findIdx?_eq_none_iff] at h2;exact List.filter_eq_self.2 fun x hx=>by simp[h2 x hx]
theorem idx_some {p:M→Bool} {L:List M} (h:idxL p L ≠ -1):∃ i:Nat,idxL p L=(i:Int)∧∃ hi:i<L.length,p L[i]=true∧(L.take (i+1)).filter (fun m => !p m)=L.take i:=by
 unfold idxL at h ⊢;split at h
 ·rename_i i h2
  rw[List.findIdx?_eq_some_iff_getElem] at h2;obtain ⟨hi,hp,hn⟩:=h2;refine ⟨i,rfl,hi,hp,?_⟩;rw[List.take_succ_eq_append_getElem hi,List.filter_append];have e1:(L.take i).filter (fun m => !p m)=L.take i:=List.filter_eq_self.2 fun x hx=>by
   obtain ⟨j,hj,rfl⟩:=List.mem_iff_getElem.1 hx;rw[List.length_take] at hj;have:=hn j (by omega);simpa using this
  rw[e1];simp[hp]
 exact absurd rfl h
structure Del (p:M→Bool) (L K:List M) (i j:Nat):Prop where
 len:K.length=L.length
 lt:i<j
 le:j≤L.length
 head:K.take i=(L.take j).filter (fun m => !p m)
 tail:K.drop j=L.drop j
theorem Del.get {p:M→Bool} {L K:List M} {i j:Nat} (h:Del p L K i j) (hj:j<L.length):K[j]'(by rw[h.len];exact hj)=L[j]:=by
 have:=congrArg List.head? h.tail;rw[List.head?_drop,List.head?_drop,List.getElem?_eq_getElem (by rw[h.len];exact hj),List.getElem?_eq_getElem hj] at this;exact Option.some.inj this
theorem Del.keep {p:M→Bool} {L K:List M} {i j:Nat} (h:Del p L K i j) (hj:j<L.length) (m:M) (hm:L[j]=m) (hp:p m=false):Del p L (K.set i m) (i+1) (j+1):=by
 have hlt:=h.lt;have hlen:=h.len;refine ⟨by rw[List.length_set];exact h.len,by omega,by omega,?_,?_⟩
 ·rw[List.take_succ_eq_append_getElem hj,List.filter_append,← h.head,List.take_succ_eq_append_getElem (by rw[List.length_set];omega),List.getElem_set_self,List.take_set_of_le (Nat.le_refl _),hm];simp[hp]
 rw[List.drop_set_of_lt (by omega)];have:=congrArg List.tail h.tail;rwa [List.tail_drop,List.tail_drop] at this
theorem Del.fin {p:M→Bool} {L K:List M} {i j:Nat} (h:Del p L K i j) (hj:j=L.length):(flat K).take (i*2)=flat (L.filter fun m => !p m)∧i=(L.filter fun m => !p m).length:=by
 have h1:K.take i=L.filter fun m => !p m:=by rw[h.head,hj,List.take_length]
 refine ⟨by rw[← flat_take,h1],?_⟩;have:=h.lt;have:=h.len;rw[← h1,List.length_take];omega
theorem Del.skip {p:M→Bool} {L K:List M} {i j:Nat} (h:Del p L K i j) (hj:j<L.length) (hp:p L[j]=true):Del p L K i (j+1):=by
 have hlt:=h.lt;refine ⟨h.len,by omega,by omega,?_,?_⟩
 · rw[List.take_succ_eq_append_getElem hj,List.filter_append,← h.head];simp[hp]
 have:=congrArg List.tail h.tail;rwa [List.tail_drop,List.tail_drop] at this
theorem delete_any (g:Nat) (lb:Array Value) (p:M→Bool) (B:Nat) (eg:Enters g) (L:List M) (v:Value) (w:World) (hB:B≤w.heap.size) (hp:Pred g lb p B w) (hO:Own w B v L) (hn:L.length≤1099511627776) :
  Calls Tryz.prog 227 #[v,.func (.func g) #[] lb] w fun e w'=>∃ v',e=.returned v'∧Own w' B v' (L.filter fun m => !p m)∧Below B w w':=by
 obtain ⟨a,c,rfl,hlc,hcm,hl,hq⟩:=hO.lies;have I:=hid (index_any g lb p B eg L a L.length c w hB hp hl hn);have HP:=hid hp;have eg':∀ args w,(callFunc g args).run Tryz.prog w=.ok (.enter g args) w:=eg;by_cases hi:idxL p L = -1
 ·have HF:=hid (filter_all hi);have HI:=hid hi;have HO:=hid hO;clear hp eg hi hl hq hO;go_enter Tryz.func227,Tryz.ntmps227;go_wp2_with fail
  refine cr I.out fun v1 k1=>?_;rw[HI.out];go_wp2;go_ret;exact ⟨_,rfl,by rw[HF.out];exact HO.out.below k1,k1.mono hB⟩
 obtain ⟨i0,hi0,hil,hpi,hfi⟩:=idx_some hi;obtain ⟨q,cap,hv,hnc,hcm2,hBq⟩:=hO.some (by intro e;rw[e] at hil;simp at hil);simp only[Value.slice.injEq,true_and] at hv;obtain ⟨rfl,rfl⟩:=hv;have HI:=hid hi0;have hD0:Del p L L i0 (i0+1):=⟨rfl,by omega,by omega,hfi.symm,rfl⟩
 have HD0:=hid hD0;have HO:Hid (w.ownsRow B 96 2 (.slice (some ⟨q,0,none⟩) L.length c) L.length (flat L)):=hid hO;obtain ⟨n,hn'⟩:=nm L.length;have HN:=hid hn';rw[← hn'] at I HO hil hnc hn hlc ⊢;have y0:((i0:Int) == -1)=false:=bF;clear hp eg hi hl hq hO hi0 hfi hpi hn' hD0;go_enter Tryz.func227,Tryz.ntmps227;go_wp2_with fail
 refine cr I.out fun v1 k1=>?_;rw[HI.out];have hb1:Below B w v1:=k1.mono hB;have HO1:=hid (World.ownsRow.kept HO.out (grown_of k1) (Classical.em _));clear HI k1;go_wp2_with fail
 go_loopw [5,6] (fun iv jv wr=>∃ (i j:Nat) (K:List M),iv=.int .i64 i∧jv=.int .i64 j∧i<j∧j≤n∧Hid (Del p L K i j)∧Hid (wr.ownsRow B 96 2 (.slice (some ⟨q,0,none⟩) n c) n (flat K))∧Below B w wr) (fun _ jv _=>n - (intOf jv).toNat)
 case atStart=>exact ⟨i0,i0+1,L,rfl,by go_num,by omega,by omega,HD0,HO1,hb1⟩
 obtain ⟨i,j,K,rfl,rfl,hij,hjn,HD,HW,hb⟩:=hrel;clear HO1 hb1;have hln:=HN.out;have hbs:B≤wr.heap.size:=Nat.le_trans hB hb.size;by_cases hlt:j<n
 ·have hkl:j<K.length:=by rw[HD.out.len];omega
  have hf:=flat_get K j hkl;have c1:=(HW.out.cellAt (j*2) (by omega)).trans hf.1;have c2:=(HW.out.cellAt (j*2+1) (by omega)).trans hf.2;have hjl:j<L.length:=by omega
  rw[HD.out.get hjl] at c1 c2;obtain ⟨m,hm⟩:=nm (L[j]'hjl);rw[← hm] at c1 c2;have q1:q<wr.heap.size:=World.block_lt_of_cell? _ _ c2;have hcall:=HP.out (wr.alloc (.cells m 96)) m (hb.alloc hbs _);rw[get_agg] at hcall;obtain ⟨r,hr⟩:=nm (p m);rw[← hr] at hcall;have HM:=hid hm;have HR:=hid hr;clear hm hf hln hr hkl;cases r with
  | true =>
   have CL:=hid hcall;clear hcall;go_wp2_with (go_at_fn g;refine CL.out.mono ?_;rintro e v2 ⟨rfl,k2⟩)
   go_roundw
   ·exact ⟨i,j+1,K,rfl,by go_num,by omega,by omega,hid (HD.out.skip hjl (by rw[← HM.out];exact HR.out.symm)),hid (World.ownsRow.kept (HW.out.alloc _) (grown_of k2) (Classical.em _)),(hb.alloc hbs _).trans (k2.mono (by simp;omega))⟩
   simp[intOf];omega
  | false =>
   have CL:=hid hcall;clear hcall;go_wp2_with fail
   refine cr CL.out fun v2 k2=>?_;have d1:=(k2.cell (p:=⟨wr.heap.size,0,none⟩) (by simp)).trans (World.cell?_alloc_new ..);have d2:=(k2.cell (p:=⟨wr.heap.size,1,none⟩) (by simp)).trans (World.cell?_alloc_new ..);simp at d1 d2;have hb2:Below B w v2:=(hb.alloc hbs _).trans (k2.mono (by simp;omega));have HW2:=hid (World.ownsRow.kept (HW.out.alloc (.cells m 96)) (grown_of k2) (Classical.em _));obtain ⟨f1,f2⟩:=own_isSome HW2.out (i*2) (by omega);obtain ⟨f3,f4⟩:=own_isSome HW2.out (i*2+1) (by omega);obtain ⟨x1,e1⟩:=Option.isSome_iff_exists.1 f1;obtain ⟨x2,e2⟩:=Option.isSome_iff_exists.1 f3;clear k2 f1 f3;go_wp2;go_roundw
   case rel =>
    obtain ⟨o1,g1⟩:=own_set m HW2.out (by have:=HD.out.len;have:=HN.out;omega) (show i<n by omega);exact ⟨i+1,j+1,K.set i m,by go_num,by go_num,by omega,by omega,hid (HD.out.keep hjl m HM.out.symm HR.out.symm),hid o1,Below.grown hb2 g1 (Nat.le_trans hB hb2.size) (fun k hk=>by cases hk;exact hBq)⟩
   case measure=>simp[intOf];omega
 obtain rfl:j=n:=by omega
 have hd:=dF (p:=(j:Int)<(j:Int));have hfin:=HD.out.fin HN.out;obtain ⟨vs,hclr⟩:=run_clear HW.out (i:=i) (m:=j - i) (c:=c - i) (by omega) rfl 0;obtain ⟨ys,o2,hys,g2⟩:=own_cells vs (i*2) wr _ HW.out;have o3:=own_cut o2 (i:=i) (by omega);rw[hys,hfin.1] at o3;have ho:Own (wr.setCells q (i*2) vs) B (.slice (some ⟨q,0,none⟩) i c) (L.filter fun m => !p m):=by
  unfold Own;rw[← hfin.2];exact o3
 have hb3:Below B w (wr.setCells q (i*2) vs):=Below.grown hb g2 hbs (fun k hk=>by cases hk;exact hBq);have hic:i<c:=by omega
 have HOO:=hid ho;clear hfin o2 hys g2 o3 ho hln;go_wp2;go_ret;exact ⟨_,rfl,HOO.out,hb3⟩
def dgo (p:M→M→Bool):M→List M→List M
 | _,[]=>[]
 | x,y::r=>if p y x then dgo p y r else y::dgo p y r
def dedup (p:M→M→Bool):List M→List M
 | []=>[]
 | x::r=>x::dgo p x r
theorem dgo_snoc (p:M→M→Bool):∀ (r:List M) (x y:M),dgo p x (r++[y])=dgo p x r++(if p y ((x::r).getLast (by simp)) then [] else [y])
 | [],x,y=>by
  simp only[List.nil_append,dgo,List.getLast_singleton];rfl
 | z::r,x,y=>by
  have e:(x::z::r).getLast (by simp)=(z::r).getLast (by simp):=List.getLast_cons (by simp);rw[List.cons_append,dgo,dgo,dgo_snoc p r z y,e];split <;> simp
theorem dedup_snoc (p:M→M→Bool) (L:List M) (hL:L≠[]) (y:M):dedup p (L++[y])=dedup p L++(if p y (L.getLast hL) then [] else [y]):=by
 cases L with
 | nil=>exact absurd rfl hL
 | cons x r=>rw[List.cons_append,dedup,dedup,dgo_snoc];rfl
theorem dedup_step (p:M→M→Bool) (L:List M) (j:Nat) (h:j+1<L.length):dedup p (L.take (j+1+1))=dedup p (L.take (j+1))++(if p L[j+1] L[j] then [] else [L[j+1]]):=by
 rw[List.take_succ_eq_append_getElem h,dedup_snoc p _ (by intro e;have:=congrArg List.length e;rw[List.length_take,List.length_nil] at this;omega)];congr 2
 rw[List.getLast_eq_getElem];simp;have:min (j+1) L.length - 1=j:=by omega
 simp[this]
structure Com (p:M→M→Bool) (L K:List M) (i j:Nat):Prop where
 len:K.length=L.length
 lt:i<j
 le:j≤L.length
 head:K.take i=dedup p (L.take j)
 tail:K.drop (j - 1)=L.drop (j - 1)
theorem Com.get {p:M→M→Bool} {L K:List M} {i j:Nat} (h:Com p L K i j) {k:Nat} (h1:j - 1≤k) (hk:k<L.length):K[k]'(by rw[h.len];exact hk)=L[k]:=by
 have:=congrArg (fun l=>l[k - (j - 1)]?) h.tail;simp only[List.getElem?_drop] at this;rw[show j - 1+(k - (j - 1))=k by omega,List.getElem?_eq_getElem (by rw[h.len];exact hk),List.getElem?_eq_getElem hk] at this;exact Option.some.inj this
theorem Com.tl {p:M→M→Bool} {L K:List M} {i j:Nat} (h:Com p L K i j):K.drop j=L.drop j:=by
 have hlt:=h.lt;have:=congrArg List.tail h.tail;rwa [List.tail_drop,List.tail_drop,show j - 1+1=j by omega] at this
theorem Com.keep {p:M→M→Bool} {L K:List M} {i j:Nat} (h:Com p L K i (j+1)) (hj:j+1<L.length) (m:M) (hm:L[j+1]=m) (hp:p L[j+1] L[j]=false):Com p L (K.set i m) (i+1) (j+1+1):=by
 have hlt:=h.lt;have hlen:=h.len;refine ⟨by rw[List.length_set];exact h.len,by omega,by omega,?_,?_⟩
 ·rw[dedup_step p L j hj,hp,← h.head,List.take_succ_eq_append_getElem (by rw[List.length_set];omega),List.getElem_set_self,List.take_set_of_le (Nat.le_refl _),hm];rfl
 show (K.set i m).drop (j+1)=L.drop (j+1)
 rw[List.drop_set_of_lt (by omega)];exact h.tl
theorem Com.skip {p:M→M→Bool} {L K:List M} {i j:Nat} (h:Com p L K i (j+1)) (hj:j+1<L.length) (hp:p L[j+1] L[j]=true):Com p L K i (j+1+1):=by
 have hlt:=h.lt;refine ⟨h.len,by omega,by omega,?_,?_⟩
 · rw[dedup_step p L j hj,hp,← h.head];simp
 exact h.tl
theorem Com.fin {p:M→M→Bool} {L K:List M} {i j:Nat} (h:Com p L K i j) (hj:j=L.length):(flat K).take (i*2)=flat (dedup p L)∧i=(dedup p L).length:=by
 have h1:K.take i=dedup p L:=by rw[h.head,hj,List.take_length]
 refine ⟨by rw[← flat_take,h1],?_⟩;have:=h.lt;have:=h.len;rw[← h1,List.length_take];omega
theorem dedup_step' (p:M→M→Bool) (L:List M) (f j:Nat) (e:f=j+1) (h:f<L.length) (hj:j<L.length):dedup p (L.take (f+1))=dedup p (L.take f)++(if p L[f] L[j] then [] else [L[f]]):=by
 subst e;exact dedup_step p L j h
theorem Com.keep' {p:M→M→Bool} {L K:List M} {i e j:Nat} (h:Com p L K i e) (he:e=j+1) (hl:e<L.length) (hj:j<L.length) (m k:M) (hm:L[e]=m) (hk:L[j]=k) (hp:p m k=false):Com p L (K.set i m) (i+1) (e+1):=by
 subst he;exact h.keep hl m hm (by rw[hm,hk];exact hp)
theorem Com.skip' {p:M→M→Bool} {L K:List M} {i e j:Nat} (h:Com p L K i e) (he:e=j+1) (hl:e<L.length) (hj:j<L.length) (m k:M) (hm:L[e]=m) (hk:L[j]=k) (hp:p m k=true):Com p L K i (e+1):=by
 subst he;exact h.skip hl (by rw[hm,hk];exact hp)
theorem compact_any (g:Nat) (lb:Array Value) (p:M→M→Bool) (B:Nat) (eg:Enters g) (L:List M) (v:Value) (w:World) (hB:B≤w.heap.size) (hp:Pred2 g lb p B w) (hO:Own w B v L) (hn:L.length≤1099511627776) :
  Calls Tryz.prog 232 #[v,.func (.func g) #[] lb] w fun e w'=>∃ v',e=.returned v'∧Own w' B v' (dedup p L)∧Below B w w':=by
 have eg':∀ args w,(callFunc g args).run Tryz.prog w=.ok (.enter g args) w:=eg;by_cases h2:L.length<2
 ·have hd:dedup p L=L:=by
   match L,h2 with
   | [],_=>rfl
   | [x],_=>rfl
  obtain ⟨a,c,rfl,_,_,_,_⟩:=hO.lies;have d:=dT (p:=(L.length:Int)<2);have HD:=hid hd;have HO:=hid hO;clear hp eg hd hO;go_enter Tryz.func232,Tryz.ntmps232;go_wp2;go_ret;exact ⟨_,rfl,by rw[HD.out];exact HO.out,Below.refl _ _⟩
 obtain ⟨q,c,rfl,hnc,hcm,hBq⟩:=hO.some (by intro e;rw[e] at h2;simp at h2);have HP:=hid hp;have HO:Hid (w.ownsRow B 96 2 (.slice (some ⟨q,0,none⟩) L.length c) L.length (flat L)):=hid hO;obtain ⟨n,hn'⟩:=nm L.length;have HN:=hid hn';rw[← hn'] at HO hnc hn h2 ⊢;have d:=dF (p:=(n:Int)<2);have hc9:c≤9223372036854775807:=hcm;clear hp eg hO hn';go_enter Tryz.func232,Tryz.ntmps232;go_wp2_with fail
 go_loopw [5] (fun kv wr=>∃ f j:Nat,Hid (f=j+1)∧j<f∧f≤n∧kv=.int .i64 (f:Int)∧Hid (dedup p (L.take f)=L.take f)∧Hid (wr.ownsRow B 96 2 (.slice (some ⟨q,0,none⟩) n c) n (flat L))∧Below B w wr) (fun kv _=>n - (intOf kv).toNat)
 case atStart=>exact ⟨1,0,hid rfl,by omega,by omega,rfl,hid (by cases L with | nil=>rfl | cons x r=>rfl),HO,Below.refl _ _⟩
 obtain ⟨f,j,HF,hjf,hf,rfl,HI,HW,hb⟩:=hrel;have hln:=HN.out;have hbs:B≤wr.heap.size:=Nat.le_trans hB hb.size;by_cases hlt:f<n
 ·have d1:decide ((f:Int)<(n:Int))=true:=dT;have hfl:f<L.length:=by omega
  have hjl:j<L.length:=by omega
  have hf1:=flat_get L f hfl;have hf0:=flat_get L j hjl;have c1:=(HW.out.cellAt (f*2) (by omega)).trans hf1.1;have c2:=(HW.out.cellAt (f*2+1) (by omega)).trans hf1.2;have c3:=(HW.out.cellAt (j*2) (by omega)).trans hf0.1;have c4:=(HW.out.cellAt (j*2+1) (by omega)).trans hf0.2;obtain ⟨m,hm⟩:=nm (L[f]'hfl);obtain ⟨k,hk⟩:=nm (L[j]'hjl);rw[← hm] at c1 c2;rw[← hk] at c3 c4;have hst:=dedup_step' p L f j HF.out hfl hjl;rw[HI.out] at hst;rw[← hm,← hk] at hst;have htk:=List.take_succ_eq_append_getElem hfl;rw[← hm] at htk;have CALL:=hid (fun W (k1:Below B w W)=>HP.out W m k k1);simp only[get_agg] at CALL;obtain ⟨r,hr⟩:=nm (p m k);rw[← hr] at CALL hst;have hw:IntKind.i64.wrap ((f:Int) - 1)=(j:Int):=by rw[IntKind.wrap_i64];have:=HF.out;omega
  have hj0:(0:Int)≤(j:Int):=by omega
  have hjn:(j:Int)<(n:Int):=by omega
  have hj1:(0:Int)≤(f:Int):=by omega
  have hjn1:(f:Int)<(n:Int):=by omega
  have HR:=hid hr;have HS:=hid hst;have HT:=hid htk;clear hf1 hf0 hm hk hr hst htk hln;cases r with
  | false =>
   go_wp2_with fail
   refine rhd (aj3 (aj2 c1 c2) c3 c4) fun gH=>?_;refine tk (.range 10) ?_;refine tR 10 fun K hK=>?_;go_simp;skip;refine cr (CALL.out _ (by first | exact hb | exact Below.drew hb)) fun v1 k1=>?_;have h1:=bstepB hB (by first | exact hb | exact Below.drew hb) k1;have HWN:=hid (World.ownsRow.kept (World.ownsRow.kept HW.out (grown_of (Below.drew (Below.refl _ _))) (Classical.em _)) (grown_of k1) (Classical.em _));go_wp2_with fail
   refine hK.out _ _ (⟨⟨keepC gH.1.1 k1,keepC gH.1.2 k1⟩,keepC gH.2.1 k1,keepC gH.2.2 k1⟩) (fun gH=>?_);clear hK K;try simp only[Act.put,List.setIfInBounds_toArray,List.set_cons_zero,List.set_cons_succ]
   refine tD ?_;clear gH c1 c2 c3 c4;go_wp2;go_roundw
   ·exact ⟨f+1,f,hid rfl,by omega,by omega,by go_num,hid (by rw[HS.out,HT.out];rfl),HWN,h1⟩
   simp[intOf];omega
  | true =>
   have hC0:Com p L L f (f+1):=⟨rfl,by omega,by omega,by rw[HS.out];simp,rfl⟩
   have HC0:=hid hC0;clear hC0;have hjc2:(f:Int)≤(c:Int):=by omega
   have hjn2:(f:Int)≤(n:Int):=by omega
   have hjc3:f<c:=by omega
   go_wp2_with fail
   refine rhd (aj3 (aj2 c1 c2) c3 c4) fun gH=>?_;refine tk (.range 10) ?_;refine tR 10 fun K hK=>?_;go_simp;skip;refine cr (CALL.out _ (by first | exact hb | exact Below.drew hb)) fun v2 k2=>?_;have h2:=bstepB hB (by first | exact hb | exact Below.drew hb) k2;have HWN:=hid (World.ownsRow.kept (World.ownsRow.kept HW.out (grown_of (Below.drew (Below.refl _ _))) (Classical.em _)) (grown_of k2) (Classical.em _));go_wp2_with fail
   refine hK.out _ _ (⟨⟨keepC gH.1.1 k2,keepC gH.1.2 k2⟩,keepC gH.2.1 k2,keepC gH.2.2 k2⟩) (fun gH=>?_);clear hK K;try simp only[Act.put,List.setIfInBounds_toArray,List.set_cons_zero,List.set_cons_succ]
   refine tD ?_;clear gH c1 c2 c3 c4 CALL HT HS hw;go_wp2_with fail
   obtain ⟨n2,hn2⟩:=nm (n - f);obtain ⟨c2,hc2⟩:=nm (c - f);rw[← hn2,← hc2];have hfn:f+n2≤n∧n≤f+n2:=by omega
   obtain ⟨hfn1,hfn2⟩:=hfn;clear hn2 hc2;go_loopw [5,7] (fun iv tv wr=>∃ (i t u:Nat) (K:List M),Hid (t=u+1)∧u<t∧t≤n2∧i<f+t∧iv=.int .i64 (i:Int)∧tv=.int .i64 (t:Int)∧Hid (Com p L K i (f+t))∧Hid (wr.ownsRow B 96 2 (.slice (some ⟨q,0,none⟩) n c) n (flat K))∧Below B w wr) (fun _ tv _=>n - (intOf tv).toNat)
   case atStart=>exact ⟨f,1,0,L,hid rfl,by omega,by omega,by omega,rfl,rfl,HC0,HWN,h2⟩
   clear HWN HC0 h2;obtain ⟨i,t,u,K,HTU,hut,htn,hit,rfl,rfl,HC,HV,hb2⟩:=hrel;have hln:=HN.out;have hbs2:B≤wr.heap.size:=Nat.le_trans hB hb2.size;by_cases hlt2:t<n2
   ·have d5:decide ((t:Int)<(n2:Int))=true:=dT;have hel:f+t<L.length:=by omega
    have hul:f+u<L.length:=by omega
    have hel2:f+t<K.length:=by rw[HC.out.len];exact hel
    have hul2:f+u<K.length:=by rw[HC.out.len];exact hul
    have hf1:=flat_get K (f+t) hel2;have hf0:=flat_get K (f+u) hul2;rw[HC.out.get (by omega) hel] at hf1;rw[HC.out.get (by have:=HTU.out;omega) hul] at hf0;rw[Nat.add_mul] at hf1 hf0;have c1:=(HV.out.cellAt (f*2+t*2) (by omega)).trans hf1.1;have c2:=(HV.out.cellAt (f*2+t*2+1) (by omega)).trans hf1.2;have c3:=(HV.out.cellAt (f*2+u*2) (by omega)).trans hf0.1;have c4:=(HV.out.cellAt (f*2+u*2+1) (by omega)).trans hf0.2;obtain ⟨m2,hm⟩:=nm (L[f+t]'hel);obtain ⟨k2,hk⟩:=nm (L[f+u]'hul);rw[← hm] at c1 c2;rw[← hk] at c3 c4;have CALL:=hid (fun W (k1:Below B w W)=>HP.out W m2 k2 k1);simp only[get_agg] at CALL;obtain ⟨r,hr⟩:=nm (p m2 k2);rw[← hr] at CALL;have hw:IntKind.i64.wrap ((t:Int) - 1)=(u:Int):=by rw[IntKind.wrap_i64];have:=HTU.out;omega
    have hu0:(0:Int)≤(u:Int):=by omega
    have hun:(u:Int)<(n2:Int):=by omega
    have ht0:(0:Int)≤(t:Int):=by omega
    have htn1:(t:Int)<(n2:Int):=by omega
    have HR:=hid hr;have HM:=hid hm;have HK:=hid hk;have htu1:u+1≤t∧t≤u+1:=by have:=HTU.out;omega
    clear hf1 hf0 hm hk hr hln;cases r with
    | true =>
     go_wp2_with fail
     refine rhd (aj3 (aj2 c1 c2) c3 c4) fun gH=>?_;refine tk (.range 10) ?_;refine tR 10 fun K hK=>?_;go_simp;skip;refine cr (CALL.out _ (by first | exact hb2 | exact Below.drew hb2)) fun v3 k3=>?_;have h3:=bstepB hB (by first | exact hb2 | exact Below.drew hb2) k3;have HWN:=hid (World.ownsRow.kept (World.ownsRow.kept HV.out (grown_of (Below.drew (Below.refl _ _))) (Classical.em _)) (grown_of k3) (Classical.em _));go_wp2_with fail
     refine hK.out _ _ (⟨⟨keepC gH.1.1 k3,keepC gH.1.2 k3⟩,keepC gH.2.1 k3,keepC gH.2.2 k3⟩) (fun gH=>?_);clear hK K;try simp only[Act.put,List.setIfInBounds_toArray,List.set_cons_zero,List.set_cons_succ]
     refine tk [11] ?_;refine tD ?_;clear gH c1 c2 c3 c4;go_wp2;go_roundw
     ·exact ⟨i,t+1,t,K,hid rfl,by omega,by omega,by omega,rfl,by go_num,hid (HC.out.skip' (e:=f+t) (j:=f+u) (by have:=HTU.out;omega) hel hul m2 k2 HM.out.symm HK.out.symm HR.out.symm),HWN,h3⟩
     simp[intOf];omega
    | false =>
     go_wp2_with fail
     refine rhd (aj3 (aj2 c1 c2) c3 c4) fun gH=>?_;refine tk (.range 10) ?_;refine tR 10 fun K hK=>?_;go_simp;skip;refine cr (CALL.out _ (by first | exact hb2 | exact Below.drew hb2)) fun v4 k4=>?_;have h4:=bstepB hB (by first | exact hb2 | exact Below.drew hb2) k4;have HWN:=hid (World.ownsRow.kept (World.ownsRow.kept HV.out (grown_of (Below.drew (Below.refl _ _))) (Classical.em _)) (grown_of k4) (Classical.em _));go_wp2_with fail
     refine hK.out _ _ (⟨⟨keepC gH.1.1 k4,keepC gH.1.2 k4⟩,keepC gH.2.1 k4,keepC gH.2.2 k4⟩) (fun gH=>?_);clear hK K;try simp only[Act.put,List.setIfInBounds_toArray,List.set_cons_zero,List.set_cons_succ]
     refine tk [11] ?_;refine tD ?_;obtain ⟨⟨c1,c2⟩,c3,c4⟩:=gH;obtain ⟨f1,f2⟩:=own_isSome HWN.out (i*2) (by omega);obtain ⟨f3,f4⟩:=own_isSome HWN.out (i*2+1) (by omega);obtain ⟨x1,e1⟩:=Option.isSome_iff_exists.1 f1;obtain ⟨x2,e2⟩:=Option.isSome_iff_exists.1 f3;clear f1 f3 c3 c4;go_wp2;go_roundw
     case rel =>
      obtain ⟨o1,g1⟩:=own_set m2 HWN.out (by have:=HC.out.len;have:=HN.out;omega) (show i<n by omega);exact ⟨i+1,t+1,t,K.set i m2,hid rfl,by omega,by omega,by omega,by go_num,by go_num,hid (HC.out.keep' (e:=f+t) (j:=f+u) (by have:=HTU.out;omega) hel hul m2 k2 HM.out.symm HK.out.symm HR.out.symm),hid o1,Below.grown h4 g1 (Nat.le_trans hB h4.size) (fun k hk=>by cases hk;exact hBq)⟩
     case measure=>simp[intOf];omega
   have d5:=dF (p:=(t:Int)<(n2:Int));obtain ⟨vs,hclr⟩:=run_clear HV.out (i:=i) (m:=n - i) (c:=c - i) (by omega) rfl 0;obtain ⟨ys,o2,hys,g2⟩:=own_cells vs (i*2) wr _ HV.out;have o3:=own_cut o2 (i:=i) (by omega);have hfin:=HC.out.fin (by omega);rw[hys,hfin.1] at o3;have ho:Own (wr.setCells q (i*2) vs) B (.slice (some ⟨q,0,none⟩) i c) (dedup p L):=by
    unfold Own;rw[← hfin.2];exact o3
   have hb3:Below B w (wr.setCells q (i*2) vs):=Below.grown hb2 g2 hbs2 (fun k hk=>by cases hk;exact hBq);have hic:i<c:=by omega
   have hin:i<n:=by omega
   have HOO:=hid ho;clear hfin o2 hys g2 o3 ho hln;go_wp2;go_ret;exact ⟨_,rfl,HOO.out,hb3⟩
 obtain rfl:f=n:=by omega
 have hv:dedup p L=L:=by have h:=HI.out;rwa [List.take_of_length_le (by omega)] at h
 have HVV:=hid hv;have d1:=dF (p:=(f:Int)<(f:Int));have HOW:Hid (Own wr B (.slice (some ⟨q,0,none⟩) f c) L):=hid (by unfold Own;rw[← hln];exact HW.out);clear hln hv;go_wp2;go_ret;exact ⟨_,rfl,by rw[HVV.out];exact HOW.out,hb⟩
end Mark
end Go.Proofs.YtnpjkmomllkhpaaGreatDoor
