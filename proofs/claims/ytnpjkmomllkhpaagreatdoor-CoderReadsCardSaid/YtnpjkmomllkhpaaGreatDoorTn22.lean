/- DotCovers, DotJoin, Pairs, DotRest, RefDotPut, RefDotClean, RefDotDrop, RefDotJoin. -/
import Derived.Test.YtnpjkmomllkhpaaGreatDoorTn20
import Derived.Test.YtnpjkmomllkhpaaGreatDoorTn21
import Derived.RangeFuncBox
import Derived.Test.YtnpjkmomllkhpaaGreatDoorTn9
set_option linter.unusedVariables false
set_option linter.unusedSimpArgs false
set_option maxRecDepth 100000
set_option maxHeartbeats 2000000
namespace Go.Proofs.YtnpjkmomllkhpaaGreatDoor
namespace Dots
open RowKit Go.Shelf YtnpjkmomllkhpaaGreatDoor.Mark
attribute [local go_sem] Oper.semAt_some
theorem pairs_w (a1 a2:Option Addr) (n1 c1 n2 c2:Nat) (w:World) :
  Calls Tryz.prog 176 #[.slice a1 n1 c1,.slice a2 n2 c2] w fun e w'=>e=.returned (.func (.func 226) #[] #[.pointer (some ⟨w.heap.size,0,none⟩),.pointer (some ⟨w.heap.size+1,0,none⟩)])∧w'=(w.alloc (.cells #[.slice a1 n1 c1] 22)).alloc (.cells #[.slice a2 n2 c2] 22):=by
 have hmf:∀ (fn:Fn) (first cap:Array Value) (w:World),(Instr.makeFunc fn first cap).run Tryz.prog w=.ok (.func fn first cap) w:=fun _ _ _ _=>rfl;go_enter Tryz.func176,Tryz.ntmps176;go_wp2;go_ret;exact ⟨rfl,rfl⟩
theorem mid_t {n1 n0:Nat} {A B C:World} (h:Mid n1 n0 A B) (k:Mid n1 n0 B C):Mid n1 n0 A C:=h.trans k
theorem mid_b {n1 n0:Nat} {w:World} (hn:n0≤w.heap.size) (W:World) (l:Nat) (o o':Obj) (hl:w.heap.size≤l) (h:W.heap[l]?=some o) (h1:o.isCells=false) (h2:o.isWalk=false):Mid n1 n0 W (W.putObj l o'):=mid_below (belowK_b hn W l o o' hl h h1 h2)
theorem rows_of {w0 w1 w2:World} {v1 v2:Value} {R S:List M} {n1:Nat} (hn:n1=w0.heap.size) (o1:Mark.Own w1 w0.heap.size v1 R) (b1:w0.heap.size≤w1.heap.size) (o2:Mark.Own w2 w1.heap.size v2 S) (b2:Below w1.heap.size w1 w2) :
  ∃ aA aB cA cB,v1=.slice aA R.length cA∧v2=.slice aB S.length cB∧Rows n1 (w2.heap.size+1+1) ((w2.alloc (.cells #[v1] 22)).alloc (.cells #[v2] 22)) w2.heap.size (w2.heap.size+1) aA aB cA cB R S:=by
 subst hn;have hs:=b2.size;have o1':=o1.below b2;obtain ⟨aA,cA,rfl,_,_,l1,i1⟩:=o1'.lies;obtain ⟨aB,cB,rfl,_,_,l2,i2⟩:=o2.lies;have k:Below w2.heap.size w2 ((w2.alloc (.cells #[.slice aA R.length cA] 22)).alloc (.cells #[.slice aB S.length cB] 22)):=balloc (balloc (Below.refl _ _) _) _;have lt:∀ (v:Value) (B:Nat) (L:List M),Mark.Own w2 B v L→∀ q n c,v=.slice (some q) n c→q.block<w2.heap.size:=by
  intro v B L h q n c e;exact (World.ownsRow.lt h q.block (by rw[e];rfl)).2
 refine ⟨aA,aB,cA,cB,rfl,rfl,⟨⟨by omega,by omega⟩,⟨by omega,by omega⟩,?_,?_,l1.below k,l2.below k,fun q e=>?_,fun q e=>?_⟩⟩
 · exact Lib.cell?_alloc_some _ (by rw[World.cell?_alloc_new];rfl)
 ·have h:=World.cell?_alloc_new (w:=w2.alloc (.cells #[.slice aA R.length cA] 22)) (c:=#[.slice aB S.length cB]) (i:=0) (t:=22);rw[World.size_alloc] at h;exact h
 · have:=i1 q e;have:=lt _ _ _ o1' q _ _ (by rw[e]);omega
 have:=i2 q e;have:=lt _ _ _ o2 q _ _ (by rw[e]);omega
def Box3 (W:World) (B:Nat) (x:P3):Prop:=W.heap[B]?=some (.cells x 241 (0,0))
theorem box3_own (B:Nat) (x:P3):Go.Own (fun (_:Unit) W=>Box3 W B x):=fun s X Y row hs hg hrow=>by
 refine (hg.block B (Array.getElem?_eq_some_iff.1 hs).1 fun e=>?_).trans hs;obtain ⟨o,ho,hc⟩:=hrow B e.symm;rw[show X.heap[B]?=_ from hs] at ho;cases ho;cases hc
theorem Box3.cells {W:World} {B:Nat} {x:P3} (h:Box3 W B x):W.cell? ⟨B,0,none⟩=some ↑x.p∧W.cell? ⟨B,1,none⟩=some ↑x.a∧W.cell? ⟨B,2,none⟩=some ↑x.b:=by
 unfold Box3 at h;refine ⟨?_,?_,?_⟩ <;> simp[World.cell?,h]
theorem covers_in (L K:List M) (a1 a2:Option Addr) (n1 n2 c1 c2:Nat) (w:World) (hL:Lies w a1 n1 L) (hK:Lies w a2 n2 K) (hn1:n1≤1099511627776) (hn2:n2≤1099511627776) :
  CallsIn Fence.wide 10 Tryz.prog 112 #[.slice a1 n1 c1,.slice a2 n2 c2] w fun e w'=>∃ R S:List M,IsVec R (ofL L)∧IsVec S (ofL K)∧e=.returned (.bool ((pairsL R S).all fun x=>decide (x.b≤x.a)))∧Below w.heap.size w w':=by
 have C1:=hid (fun W (k:Below w.heap.size w W)=>tidy_any L a1 n1 c1 W (hL.below k) hn1);have C2:=hid (fun W (k:Below w.heap.size w W)=>tidy_any K a2 n2 c2 W (hK.below k) hn2);have hl1:=hL.1;have hl2:=hK.1;have h0:=Below.refl w.heap.size w;have HL1:=hid hl1;have HL2:=hid hl2;clear hL hK hl1 hl2;refine callsIn_of_wp_marks Tryz.func112 rfl trivial ?_ rfl;simp only[Tryz.ntmps112,List.size_toArray,List.length_cons,List.length_nil,Nat.reduceAdd,Nat.reduceSub,Array.replicate_succ,Array.replicate_zero,List.push_toArray,List.append_toArray,List.nil_append,List.cons_append];gi_wp2_with fail
 refine ⟨trivial,(callsIn_wide.2 (C1.out _ (balloc h0 _))).mono ?_⟩;rintro e w1 ⟨v1,R,rfl,hR,hRl,o1,k1⟩;have h1:=bstep (balloc h0 _) k1;have s1:=k1.size;gi_wp2_with fail
 refine ⟨trivial,(callsIn_wide.2 (C2.out _ h1)).mono ?_⟩;rintro e w2 ⟨v2,S,rfl,hS,hSl,o2,k2⟩;have h2:=bstep h1 k2;obtain ⟨aA,aB,cA,cB,rfl,rfl,HRW⟩:=rows_of (n1:=w.heap.size+1) (by simp) o1 s1 o2 k2;gi_wp2_with fail
 refine ⟨trivial,(callsIn_wide.2 (pairs_w aA aB R.length cA S.length cB _)).mono ?_⟩;rintro e w3 ⟨rfl,rfl⟩;have hD0:=Boxed.new w 4 (.bool false);have hD1:Boxed w1 w.heap.size 4 (.bool false):=hD0.kept (grown_of k1) (by simp);have hD2:Boxed w2 w.heap.size 4 (.bool false):=hD1.kept (grown_of k2) (by simp);have s2:=h2.size;have s3:w.heap.size+1≤w2.heap.size:=by have:=k2.size;simp at s1;omega
 gi_wp2_with fail
 obtain ⟨W0,hW0⟩:∃ W0,((w2.alloc (.cells #[.slice aA R.length cA] 22)).alloc (.cells #[.slice aB S.length cB] 22))=W0:=⟨_,rfl⟩
 have hD3:Boxed W0 w.heap.size 4 (.bool false):=by rw[← hW0];exact (hD2.alloc _).alloc _
 have hB3:Below w.heap.size w W0:=by rw[← hW0];exact balloc (balloc h2 _) _
 have hs3:W0.heap.size=w2.heap.size+1+1:=by rw[← hW0];simp
 rw[hW0] at HRW ⊢;have hrl:R.length≤1099511627776:=by have:=HL1.out;omega
 have hsl:S.length≤1099511627776:=by have:=HL2.out;omega
 clear hW0 hD0 hD1 hD2 k1 k2 o1 o2 s1 h1 hRl hSl;refine wpIn_rangeFunc_ownH (α:=P3) (encs:=fun x=>#[x.agg]) (Kp:=Mid (w.heap.size+1) (w2.heap.size+1+1)) rfl (by decide) (gf:=226) (lb:=#[.pointer (some ⟨w2.heap.size,0,none⟩),.pointer (some ⟨w2.heap.size+1,0,none⟩)]) rfl trivial (enters_of Tryz.func226 (by kernel_rfl) rfl)
  (pairs_stops 9 (by decide) (w.heap.size+1) (w2.heap.size+1+1) w2.heap.size (w2.heap.size+1) aA aB cA cB R S W0 HRW (by omega) hrl hsl) mid_t (mid_b (by omega)) (Below.refl _ _) (fun _=>rfl)
  (fun pre W=>Boxed W w.heap.size 4 (.bool false)∧(∀ x ∈ pre,x.b≤x.a)∧W0.heap.size≤W.heap.size∧Below w.heap.size w W)
  (fun c pre W=>(c=.ret∧∃ x ∈ pre,x.a<x.b)∧Boxed W w.heap.size 4 (.bool false)∧Below w.heap.size w W)
  (OwnFrom.and ((boxed_own _ _ (fun _:List P3=>Value.bool false)).from _) (OwnFrom.and (ownFrom_pure _ (fun pre:List P3=>∀ x ∈ pre,x.b≤x.a)) (OwnFrom.and (fun s W W' row hs hg _=>Nat.le_trans hs hg.size) (ownFrom_below (Nat.le_refl _) (by omega)))))
  (fun c=>OwnFrom.and (ownFrom_pure _ (fun pre:List P3=>c=.ret∧∃ x ∈ pre,x.a<x.b)) (OwnFrom.and ((boxed_own _ _ (fun _:List P3=>Value.bool false)).from _) (ownFrom_below (Nat.le_refl _) (by omega))))
  ⟨hD3,fun x h=>(by cases h),Nat.le_refl _,hB3⟩
  (fun x a' W=>∃ Bx,W0.heap.size≤Bx∧Box3 W Bx x∧a'={ tmps:=#[.slice a1 n1 c1,.slice a2 n2 c2,undef,undef,.pointer (some ⟨w.heap.size,0,none⟩),.pointer (some ⟨Bx,0,none⟩),.slice a1 n1 c1,.slice aA R.length cA,.slice a2 n2 c2,.slice aB S.length cB,.func (.func 226) #[] #[.pointer (some ⟨w2.heap.size,0,none⟩),.pointer (some ⟨w2.heap.size+1,0,none⟩)],x.agg,undef,undef,undef,undef,undef],defers:=[] })
  (fun x a' s W W' row hs hg hr=>by obtain ⟨Bx,h1,h2,h3⟩:=hs;exact ⟨Bx,h1,(box3_own Bx x) s W W' row h2 hg (fun r e=>(hr r e).2),h3⟩) ?assign ?body ?done ?stop
 case assign =>
  rintro l pre ⟨xp,xa,xb⟩ W K ⟨hD,hall,hsz,hB⟩ hK;simp only[P3.agg] at hK ⊢;have hws:=hB.size;gi_wp2;exact hK _ _ ((KeepsOthers.alloc _ _).from _) (mid_below ((balloc (Below.refl W.heap.size W) _).mono (by omega))) ⟨hD.alloc _,hall,by simp;omega,balloc hB _⟩ ⟨W.heap.size,hsz,World.alloc_heap_new W _,rfl⟩
 case body =>
  rintro l pre ⟨xp,xa,xb⟩ a' W hl ⟨r,hr⟩ ⟨hD,hall,hsz,hB⟩ ⟨Bx,hBx,hbx,rfl⟩ hlt;obtain ⟨e1,e2,e3⟩:=hbx.cells;have q1:=hD.lt;have q2:=hD.cell;have q3:=hD.frozen;simp only at e1 e2 e3;by_cases hc:xa<xb
  ·have hd:decide ((xa:Int)<(xb:Int))=true:=dT;gi_wp2;exact ⟨(KeepsOthers.setCell _ _ _).from _,⟨rfl,_,List.mem_append.2 (.inr (List.mem_singleton.2 rfl)),hc⟩,hD.set _,bset hB (Nat.le_refl _) _⟩
  have hd:=dF (p:=(xa:Int)<(xb:Int));gi_wp2;refine ⟨KeepsFrom.refl _ _,mid_below (Below.refl _ _),hD,fun x hx=>?_,hsz,hB⟩;rcases List.mem_append.1 hx with h | h
  · exact hall x h
  rw[List.mem_singleton.1 h];show xb≤xa;omega
 case done =>
  rintro D xs W hD hxs ⟨hDb,hall,hsz,hB⟩ hK;have q1:=hDb.lt;have q2:=hDb.cell;have q3:=hDb.frozen;have hv:((pairsL R S).all fun x=>decide (x.b≤x.a))=true:=by
   rw[← hxs,List.all_eq_true];exact fun x hx=>decide_eq_true (hall x hx)
  have HV:=hid hv;clear hv hxs hall;gi_wp2;have hK2:(W.setCell ⟨w.heap.size,0,none⟩ (.bool true)).heap[D]?=some (.deferred (some [])):=(KeepsOthers.setCell _ _ _).same D _ hK rfl;refine ⟨by simp,.inl ⟨_,_,rfl,run_takeDeferred hK2,?_⟩⟩;have r0:=((hDb.set (.bool true)).kept (grownBy_putObj' _ D (.deferred none)) (by simp;omega)).cell;refine ⟨_,?_,R,S,hR,hS,rfl,(bset hB (Nat.le_refl _) _).trans (belowK_b (w:=w) (Nat.le_refl _) _ D _ _ (by omega) hK2 rfl rfl)⟩;rw[HV.out];simp[results,Tryz.f112,go_sem,r0]
 case stop =>
  rintro D c pre W hD hpre ⟨⟨rfl,x,hx,hbad⟩,hDb,hB⟩ hK;have hv:((pairsL R S).all fun x=>decide (x.b≤x.a))=false:=by
   rw[List.all_eq_false];exact ⟨x,hpre.2.subset hx,by simp;omega⟩
  have HV:=hid hv;clear hv;gi_wp2;have hK2:(W).heap[D]?=some (.deferred (some [])):=hK;refine ⟨by simp,.inl ⟨_,_,rfl,run_takeDeferred hK2,?_⟩⟩;have r0:=(hDb.kept (grownBy_putObj' _ D (.deferred none)) (by simp;omega)).cell;refine ⟨_,?_,R,S,hR,hS,rfl,hB.trans (belowK_b (w:=w) (Nat.le_refl _) _ D _ _ (by omega) hK2 rfl rfl)⟩;rw[HV.out];simp[results,Tryz.f112,go_sem,r0]
end Dots
namespace Dots
open RowKit Go.Shelf YtnpjkmomllkhpaaGreatDoor.Mark
attribute [local go_sem] Oper.semAt_some
theorem cells2_new (W:World) (u v:Value) (T:TypeId):∀ j z,([u,v]:List Value)[j]?=some z→(W.alloc (.cells #[u,v] T)).cell? ((⟨W.heap.size,0,none⟩:Addr).add j)=some z:=by
 intro j z h;rw[Go.WideShapes.add_plain,World.cell?_alloc_new,Nat.zero_add];simpa using h
end Dots
namespace Dots
open RowKit YtnpjkmomllkhpaaGreatDoor.Mark
theorem ofL_ne {m:M} {q:List UInt8} (h:m.p≠q) (A:List M):ofL (m::A) q=ofL A q:=by
 have:isQ q m=false:=by unfold isQ;simp[h]
 unfold ofL mostL;rw[List.foldl_cons,if_neg (by rw[this];decide)]
theorem ofL_none (A:List M) (q:List UInt8) (h:∀ m ∈ A,m.p≠q):ofL A q=0:=by
 rcases ofL_ex A q with e | ⟨m,hm,e,_⟩
 · exact e
 exact absurd e (h m hm)
theorem Vec.tail {m:M} {A:List M} (h:Vec (m::A)):Vec A:=⟨(List.pairwise_cons.1 h.1).2,fun x hx=>h.2 x (List.mem_cons_of_mem _ hx)⟩
theorem Vec.head {m:M} {A:List M} (h:Vec (m::A)):ofL (m::A) m.p=m.n:=vec_of h (List.mem_cons_self ..)
theorem less_ne {a b:M} (h:Less a b):a.p≠b.p:=fun e=>by unfold Less at h;rw[e,Order.cmp_self] at h;omega
def LessP (x y:P3):Prop:=Lib.compareBytes x.p y.p<0
structure PairLaw (A B:List M) (P:List P3):Prop where
 from_:∀ x ∈ P,(∃ m ∈ A,m.p=x.p)∨(∃ m ∈ B,m.p=x.p)
 rise:P.Pairwise LessP
 val:∀ x ∈ P,x.a=ofL A x.p∧x.b=ofL B x.p
 allA:∀ m ∈ A,∃ x ∈ P,x.p=m.p
 allB:∀ m ∈ B,∃ x ∈ P,x.p=m.p
theorem pair_law:∀ (k:Nat) (A B:List M),Vec A→Vec B→A.length+B.length≤k→PairLaw A B (pairsF k A B)
 | 0,A,B,_,_,h=>by
  obtain rfl:A=[]:=List.length_eq_zero_iff.1 (by omega);obtain rfl:B=[]:=List.length_eq_zero_iff.1 (by omega);exact ⟨fun x h=>(by cases h),List.Pairwise.nil,fun x h=>(by cases h),fun x h=>(by cases h),fun x h=>(by cases h)⟩
 | _+1,[],[],_,_,_=>⟨fun x h=>(by cases h),List.Pairwise.nil,fun x h=>(by cases h),fun x h=>(by cases h),fun x h=>(by cases h)⟩
 | k+1,m::A,[],hA,hB,h=>by
  have r:=pair_law k A [] hA.tail hB (by simp at h ⊢;omega);have hl:=(List.pairwise_cons.1 hA.1).1;have hgt:∀ y ∈ pairsF k A [],Lib.compareBytes m.p y.p<0:=by
   intro y hy;rcases r.from_ y hy with ⟨z,hz,e⟩ | ⟨z,hz,_⟩
   · rw[← e];exact hl z hz
   cases hz
  rw[pairsF];refine ⟨fun x hx=>?_,List.pairwise_cons.2 ⟨hgt,r.rise⟩,fun x hx=>?_,fun z hz=>?_,fun z hz=>by cases hz⟩
  ·rcases List.mem_cons.1 hx with rfl | hx
   · exact .inl ⟨m,List.mem_cons_self ..,rfl⟩
   rcases r.from_ x hx with ⟨z,hz,e⟩ | ⟨z,hz,_⟩
   · exact .inl ⟨z,List.mem_cons_of_mem _ hz,e⟩
   cases hz
  ·rcases List.mem_cons.1 hx with rfl | hx
   · exact ⟨hA.head.symm,rfl⟩
   have hne:m.p≠x.p:=fun e=>by have:=hgt x hx;rw[e,Order.cmp_self] at this;omega
   rw[ofL_ne hne];exact r.val x hx
  rcases List.mem_cons.1 hz with rfl | hz
  · exact ⟨_,List.mem_cons_self ..,rfl⟩
  obtain ⟨x,hx,e⟩:=r.allA z hz;exact ⟨x,List.mem_cons_of_mem _ hx,e⟩
 | k+1,[],m::B,hA,hB,h=>by
  have r:=pair_law k [] B hA hB.tail (by simp at h ⊢;omega);have hl:=(List.pairwise_cons.1 hB.1).1;have hgt:∀ y ∈ pairsF k [] B,Lib.compareBytes m.p y.p<0:=by
   intro y hy;rcases r.from_ y hy with ⟨z,hz,_⟩ | ⟨z,hz,e⟩
   · cases hz
   rw[← e];exact hl z hz
  rw[pairsF];refine ⟨fun x hx=>?_,List.pairwise_cons.2 ⟨hgt,r.rise⟩,fun x hx=>?_,fun z hz=>(by cases hz),fun z hz=>?_⟩
  ·rcases List.mem_cons.1 hx with rfl | hx
   · exact .inr ⟨m,List.mem_cons_self ..,rfl⟩
   rcases r.from_ x hx with ⟨z,hz,_⟩ | ⟨z,hz,e⟩
   · cases hz
   exact .inr ⟨z,List.mem_cons_of_mem _ hz,e⟩
  ·rcases List.mem_cons.1 hx with rfl | hx
   · exact ⟨rfl,hB.head.symm⟩
   have hne:m.p≠x.p:=fun e=>by have:=hgt x hx;rw[e,Order.cmp_self] at this;omega
   rw[ofL_ne hne];exact r.val x hx
  rcases List.mem_cons.1 hz with rfl | hz
  · exact ⟨_,List.mem_cons_self ..,rfl⟩
  obtain ⟨x,hx,e⟩:=r.allB z hz;exact ⟨x,List.mem_cons_of_mem _ hx,e⟩
 | k+1,m::A,n::B,hA,hB,h=>by
  have hlA:=(List.pairwise_cons.1 hA.1).1;have hlB:=(List.pairwise_cons.1 hB.1).1;rw[pairsF];by_cases hc:Lib.compareBytes m.p n.p<0
  ·rw[if_pos hc];have r:=pair_law k A (n::B) hA.tail hB (by simp at h ⊢;omega);have hlt:∀ z ∈ n::B,Less m z:=by
    intro z hz;rcases List.mem_cons.1 hz with rfl | hz
    · exact hc
    exact less_trans (a:=m) (b:=n) (c:=z) hc (hlB z hz)
   have hgt:∀ y ∈ pairsF k A (n::B),Lib.compareBytes m.p y.p<0:=by
    intro y hy;rcases r.from_ y hy with ⟨z,hz,e⟩ | ⟨z,hz,e⟩
    · rw[← e];exact hlA z hz
    rw[← e];exact hlt z hz
   refine ⟨fun x hx=>?_,List.pairwise_cons.2 ⟨hgt,r.rise⟩,fun x hx=>?_,fun z hz=>?_,fun z hz=>?_⟩
   ·rcases List.mem_cons.1 hx with rfl | hx
    · exact .inl ⟨m,List.mem_cons_self ..,rfl⟩
    rcases r.from_ x hx with ⟨z,hz,e⟩ | h'
    · exact .inl ⟨z,List.mem_cons_of_mem _ hz,e⟩
    exact .inr h'
   ·rcases List.mem_cons.1 hx with rfl | hx
    · exact ⟨hA.head.symm,(ofL_none _ _ fun z hz=>(less_ne (hlt z hz)).symm).symm⟩
    have hne:m.p≠x.p:=fun e=>by have:=hgt x hx;rw[e,Order.cmp_self] at this;omega
    rw[ofL_ne hne];exact r.val x hx
   ·rcases List.mem_cons.1 hz with rfl | hz
    · exact ⟨_,List.mem_cons_self ..,rfl⟩
    obtain ⟨x,hx,e⟩:=r.allA z hz;exact ⟨x,List.mem_cons_of_mem _ hx,e⟩
   obtain ⟨x,hx,e⟩:=r.allB z hz;exact ⟨x,List.mem_cons_of_mem _ hx,e⟩
  rw[if_neg hc];by_cases he:m.p=n.p
  ·rw[if_pos he];have r:=pair_law k A B hA.tail hB.tail (by simp at h;omega);have hgt:∀ y ∈ pairsF k A B,Lib.compareBytes n.p y.p<0:=by
    intro y hy;rcases r.from_ y hy with ⟨z,hz,e⟩ | ⟨z,hz,e⟩
    · rw[← e,← he];exact hlA z hz
    rw[← e];exact hlB z hz
   refine ⟨fun x hx=>?_,List.pairwise_cons.2 ⟨hgt,r.rise⟩,fun x hx=>?_,fun z hz=>?_,fun z hz=>?_⟩
   ·rcases List.mem_cons.1 hx with rfl | hx
    · exact .inl ⟨m,List.mem_cons_self ..,he⟩
    rcases r.from_ x hx with ⟨z,hz,e⟩ | ⟨z,hz,e⟩
    · exact .inl ⟨z,List.mem_cons_of_mem _ hz,e⟩
    exact .inr ⟨z,List.mem_cons_of_mem _ hz,e⟩
   ·rcases List.mem_cons.1 hx with rfl | hx
    · exact ⟨by show m.n=_;rw[← he];exact hA.head.symm,hB.head.symm⟩
    have hne:n.p≠x.p:=fun e=>by have:=hgt x hx;rw[e,Order.cmp_self] at this;omega
    rw[ofL_ne (by rw[he];exact hne),ofL_ne hne];exact r.val x hx
   ·rcases List.mem_cons.1 hz with rfl | hz
    · exact ⟨_,List.mem_cons_self ..,he.symm⟩
    obtain ⟨x,hx,e⟩:=r.allA z hz;exact ⟨x,List.mem_cons_of_mem _ hx,e⟩
   rcases List.mem_cons.1 hz with rfl | hz
   · exact ⟨_,List.mem_cons_self ..,rfl⟩
   obtain ⟨x,hx,e⟩:=r.allB z hz;exact ⟨x,List.mem_cons_of_mem _ hx,e⟩
  rw[if_neg he];have r:=pair_law k (m::A) B hA hB.tail (by simp at h ⊢;omega);have hnm:Less n m:=by
   unfold Less;rcases Order.cmp_ways m.p n.p with h' | h' | h'
   · omega
   · exact absurd (Order.cmp_zero _ _ h') he
   rw[Order.cmp_flip];omega
  have hlt:∀ z ∈ m::A,Less n z:=by
   intro z hz;rcases List.mem_cons.1 hz with rfl | hz
   · exact hnm
   exact less_trans hnm (hlA z hz)
  have hgt:∀ y ∈ pairsF k (m::A) B,Lib.compareBytes n.p y.p<0:=by
   intro y hy;rcases r.from_ y hy with ⟨z,hz,e⟩ | ⟨z,hz,e⟩
   · rw[← e];exact hlt z hz
   rw[← e];exact hlB z hz
  refine ⟨fun x hx=>?_,List.pairwise_cons.2 ⟨hgt,r.rise⟩,fun x hx=>?_,fun z hz=>?_,fun z hz=>?_⟩
  ·rcases List.mem_cons.1 hx with rfl | hx
   · exact .inr ⟨n,List.mem_cons_self ..,rfl⟩
   rcases r.from_ x hx with h' | ⟨z,hz,e⟩
   · exact .inl h'
   exact .inr ⟨z,List.mem_cons_of_mem _ hz,e⟩
  ·rcases List.mem_cons.1 hx with rfl | hx
   · exact ⟨(ofL_none _ _ fun z hz=>(less_ne (hlt z hz)).symm).symm,hB.head.symm⟩
   have hne:n.p≠x.p:=fun e=>by have:=hgt x hx;rw[e,Order.cmp_self] at this;omega
   rw[ofL_ne hne];exact r.val x hx
  · obtain ⟨x,hx,e⟩:=r.allA z hz;exact ⟨x,List.mem_cons_of_mem _ hx,e⟩
  rcases List.mem_cons.1 hz with rfl | hz
  · exact ⟨_,List.mem_cons_self ..,rfl⟩
  obtain ⟨x,hx,e⟩:=r.allB z hz;exact ⟨x,List.mem_cons_of_mem _ hx,e⟩
theorem covers_iff {R S:List M} {f g:List UInt8→Nat} (hR:IsVec R f) (hS:IsVec S g):((pairsL R S).all fun x=>decide (x.b≤x.a))=true↔∀ q,g q≤f q:=by
 have P:=pair_law _ R S hR.1 hS.1 (Nat.le_refl _);change PairLaw R S (pairsL R S) at P;rw[List.all_eq_true];constructor
 ·intro h q;by_cases hx:∃ x ∈ pairsL R S,x.p=q
  ·obtain ⟨x,hx,rfl⟩:=hx;have:=h x hx;rw[decide_eq_true_eq] at this;obtain ⟨e1,e2⟩:=P.val x hx;rw[← hR.2,← hS.2,← e1,← e2];exact this
  have:ofL S q=0:=ofL_none S q fun m hm e=>by
   obtain ⟨x,h1,e'⟩:=P.allB m hm;exact hx ⟨x,h1,e'.trans e⟩
  rw[hS.2] at this;omega
 intro h x hx;obtain ⟨e1,e2⟩:=P.val x hx;have:=h x.p;rw[← hR.2,← hS.2,← e1,← e2] at this;exact decide_eq_true this
end Dots
namespace Dots
open RowKit Go.Shelf YtnpjkmomllkhpaaGreatDoor.Mark
theorem covers_any (L K:List M) (a1 a2:Option Addr) (n1 n2 c1 c2:Nat) (w:World) (hL:Lies w a1 n1 L) (hK:Lies w a2 n2 K) (hn1:n1≤1099511627776) (hn2:n2≤1099511627776) :
  Calls Tryz.prog 112 #[.slice a1 n1 c1,.slice a2 n2 c2] w fun e w'=>∃ r:Bool,e=.returned (.bool r)∧(r=true↔∀ q,ofL K q≤ofL L q)∧Below w.heap.size w w' :=
 (callsIn_wide.1 (covers_in L K a1 a2 n1 n2 c1 c2 w hL hK hn1 hn2)).mono fun _ _ ⟨_,_,hR,hS,he,hb⟩=>⟨_,he,covers_iff hR hS,hb⟩
end Dots
namespace RefDots
open RowKit YtnpjkmomllkhpaaGreatDoor.Mark Dots
def putGo:Bool→M→List M→List M
 | true,_,R=>R
 | false,m,[]=>[m]
 | false,m,x::R=>if Op.bytesLess m.p x.p then m::x::R else x::putGo false m R
theorem putGo_true (m:M) (R:List M):putGo true m R=R:=by rw[putGo]
theorem putGo_mem (m:M):∀ (L:List M) (y:M),y ∈ putGo false m L↔y=m∨y ∈ L
 | [],y=>by rw[putGo,List.mem_singleton];simp
 | x::L,y=>by
  rw[putGo];split
  · rw[List.mem_cons]
  rw[List.mem_cons,putGo_mem m L y,List.mem_cons];constructor
  ·rintro (h | h | h)
   · exact .inr (.inl h)
   · exact .inl h
   exact .inr (.inr h)
  rintro (h | h | h)
  · exact .inr (.inl h)
  · exact .inl h
  exact .inr (.inr h)
theorem putGo_len (m:M):∀ (L:List M),(putGo false m L).length=L.length+1
 | []=>rfl
 | x::L=>by
  rw[putGo];split
  · rfl
  rw[List.length_cons,putGo_len m L,List.length_cons]
theorem putGo_vec (m:M) (hp:m.p≠[]) (hn:1≤m.n):∀ (L:List M),Vec L→(∀ x ∈ L,x.p≠m.p)→Vec (putGo false m L)
 | [],_,_=>⟨List.pairwise_singleton _ _,fun y hy=>by rw[putGo,List.mem_singleton] at hy;rw[hy];exact ⟨hp,hn⟩⟩
 | x::L,hv,hne=>by
  refine ⟨?_,fun y hy=>?_⟩
  ·have hx:=List.pairwise_cons.1 hv.1;have hxm:=hne x (List.mem_cons_self ..);rw[putGo];cases hl:Op.bytesLess m.p x.p with
   | true =>
    rw[if_pos rfl];have h1:Less m x:=by unfold Less;rw[Order.cmp_less _ _ hl];decide
    refine List.pairwise_cons.2 ⟨fun y hy=>?_,hv.1⟩;rcases List.mem_cons.1 hy with rfl | hy
    · exact h1
    exact less_trans h1 (hx.1 y hy)
   | false =>
    rw[if_neg (by decide)];have h1:Less x m:=by unfold Less;rw[Order.cmp_flip,Order.cmp_more _ _ (fun e=>hxm e.symm) hl];decide
    refine List.pairwise_cons.2 ⟨fun y hy=>?_,(putGo_vec m hp hn L hv.tail fun z hz=>hne z (List.mem_cons_of_mem _ hz)).1⟩;rcases (putGo_mem m L y).1 hy with rfl | hy
    · exact h1
    exact hx.1 y hy
  rcases (putGo_mem m _ y).1 hy with rfl | hy
  · exact ⟨hp,hn⟩
  exact hv.2 y hy
theorem put_vec {R:List M} {f:List UInt8→Nat} (h:IsVec R f) (m:M) (hp:m.p≠[]) (hn:1≤m.n) (h0:f m.p=0):IsVec (putGo false m R) (fun q=>if q=m.p then m.n else f q):=by
 have hne:∀ x ∈ R,x.p≠m.p:=fun x hx e=>by
  have h1:=vec_of h.1 hx;have h2:=h.2 x.p;have:=(h.1.2 x hx).2;rw[e] at h1 h2;omega
 have hv:=putGo_vec m hp hn R h.1 hne;refine ⟨hv,fun q=>?_⟩;by_cases e:q=m.p
 ·subst e;show _=if m.p=m.p then m.n else f m.p
  rw[if_pos rfl];exact vec_of hv ((putGo_mem m R m).2 (.inl rfl))
 show _=if q=m.p then m.n else f q
 rw[if_neg e,← h.2];refine Nat.le_antisymm ?_ ?_
 ·rcases ofL_ex (putGo false m R) q with e0 | ⟨y,hy,e1,e2,e3⟩
  · rw[e0];exact Nat.zero_le _
  rcases (putGo_mem m R y).1 hy with rfl | hy
  · exact absurd e1.symm e
  have:=ofL_le R y hy (by rw[e1];exact e2);rw[e1] at this;omega
 rcases ofL_ex R q with e0 | ⟨y,hy,e1,e2,e3⟩
 · rw[e0];exact Nat.zero_le _
 have:=ofL_le _ y ((putGo_mem m R y).2 (.inr hy)) (by rw[e1];exact e2);rw[e1] at this;omega
theorem own_block {w:World} {B:Nat} {v:Value} {L:List M} (h:Mark.Own w B v L):∀ k,v.ownBlock=some k→B≤k:=fun k e=>(h.lt k e).1
theorem wpList_push {ops:Array Oper} {rest:List Oper} {o:Oper} {a:Act} {w:World} {Q:Exit→Act→World→Prop} (hgd:o.guard=none) (s x:Operand)
  (ho:o.op=.call { callee:=.builtin .append,args:=#[s,x],argTypes:=#[22,22] }) (B:Nat) (v:Value) (L:List M) (hs:a.eval s=v) (hown:Mark.Own w B v L)
  (ad:Addr) (c:Nat) (m:M) (hx:a.eval x=.slice (some ad) 1 c) (hnews:∀ j u,(m:List Value)[j]?=some u→w.cell? (ad.add j)=some u)
  (hlen:L.length+1≤1099511627780) (hbase:B≤w.heap.size)
  (h:∀ v' w',Mark.Own w' B v' (L++[m])→Below B w w'→wpList Tryz.prog ops Q rest (a.put o.dst v') w'):wpList Tryz.prog ops Q (o::rest) a w:=by
 obtain ⟨i0,hi,hz0,hz1,hz2⟩:=info_parts info_mark;refine wpList_append_own w hgd s x 22 ho B 96 i0 (.agg #[.string ⟨#[]⟩,.int .u64 0]) 2 24 Tryz.underlying22 hi hz0 hz1 hz2 rfl (by decide) v L.length (flat L) hs hown ad 1 c _ hx rfl hnews (by simp[Value.oneCell']) (by unfold maxLen;omega) (by omega) hbase ?_;intro v' w' h1 h2 _;refine h v' w' ?_ (Below.grown (Below.refl B w) h2 hbase (own_block hown));unfold Mark.Own;rw[← flat_snoc,List.length_append];exact h1
theorem put_any (m:M) (L:List M) (a:Option Addr) (n c:Nat) (w:World) (hL:Lies w a n L) (hn:n≤1099511627776) :
  Calls Tryz.prog 234 #[.slice a n c,.agg m] w fun e w'=>∃ v:Value,e=.returned v∧Mark.Own w' w.heap.size v (putGo false m L)∧Below w.heap.size w w':=by
 have h0:=Below.refl w.heap.size w;have HL:=hid hL;have HP:=hid (putGo_len m L);clear hL;go_enter Tryz.func234,Tryz.ntmps234;go_wp2_with fail
 have x1:(w.alloc (.cells m 96)).cell? ⟨w.heap.size,0,none⟩=some ↑m.p:=by rw[World.cell?_alloc_new];rfl
 have x2:(w.alloc (.cells m 96)).cell? ⟨w.heap.size,1,none⟩=some ↑m.n:=by rw[World.cell?_alloc_new];rfl
 have hb0:Below w.heap.size w (w.alloc (.cells m 96)):=balloc h0 _;have hs0:(w.alloc (.cells m 96)).heap.size=w.heap.size+1:=by simp
 obtain ⟨B,hB⟩:=nm w.heap.size;rw[← hB] at x1 x2 hs0 ⊢;obtain ⟨wb,hwb⟩:=nm (w.alloc (.cells m 96));rw[← hwb] at x1 x2 hs0 hb0 ⊢;have HB:=hid (And.intro hB hs0);have HX:=hid (And.intro x1 x2);have HB0:=hid hb0;have HLb:=hid (HL.out.below hb0);clear hwb hB hs0 x1 x2 hb0 HL;go_loopw [5,6,7] (fun ov dv iv wr=>∃ (k:Nat) (d:Bool) (out:List M),k≤n∧iv=.int .i64 k∧dv=.bool d∧Mark.Own wr wb.heap.size ov out∧out++putGo d m (L.drop k)=putGo false m L∧Below wb.heap.size wb wr) (fun _ _ iv _=>n - (intOf iv).toNat)
 case atStart=>exact ⟨0,false,[],by omega,rfl,rfl,Mark.Own.nil _ _,rfl,Below.refl _ _⟩
 obtain ⟨k,d,out,hk,rfl,rfl,hown,hs,hb⟩:=hrel;have hln:=HLb.out.1;have x1:=(hb.cell (p:=⟨B,0,none⟩) (by have:=HB.out.2;show B<_;omega)).trans HX.out.1;have x2:=(hb.cell (p:=⟨B,1,none⟩) (by have:=HB.out.2;show B<_;omega)).trans HX.out.2;have hol:out.length≤n+1:=by
  have h1:=congrArg List.length hs;rw[List.length_append,HP.out] at h1;omega
 have hwr:=hb.size;by_cases hlt:k<n
 ·obtain ⟨b,off,rfl,hcell⟩:=HLb.out.2 (by omega);obtain ⟨c1,c2⟩:=hcell k (by omega);rw[List.drop_eq_getElem_cons (by omega)] at hs;obtain ⟨x,hx⟩:=nm (L[k]'(by omega));rw[← hx] at c1 c2 hs;have q1:=World.block_lt_of_cell? _ _ c2;have HD:=hid (And.intro c1 c2);replace c1:=(hb.cell (p:=⟨b,off+k*2,none⟩) q1).trans c1;replace c2:=(hb.cell (p:=⟨b,off+k*2+1,none⟩) q1).trans c2;have b1:(0:Int)≤(k:Int):=by omega
  have b2:(k:Int)<(n:Int):=by omega
  clear hx hcell hln;cases d with
  | true =>
   have HS:Hid ((out++[x])++putGo true m (L.drop (k+1))=putGo false m L):=hid (by rw[List.append_assoc,putGo_true];rw[putGo_true] at hs;exact hs);clear hs;go_wp2_with fail
   refine rhd (aj3 (aj2 x1 x2) c1 c2) fun gH=>?_;refine tk (.range 12) ?_;refine tD ?_;go_wp2_with (at_builtin;refine wpList_push rfl _ _ rfl wb.heap.size _ _ rfl ((Mark.Own.drew hown).alloc _) _ _ x rfl (cells2_new _ _ _ _) (by simp;omega) (by simp;omega) ?_;intro v1 w1 o1 k1;have g1:=(balloc (Below.drew hb) _).trans k1)
   go_roundw
   ·exact ⟨k+1,true,out++[x],by omega,by go_num,rfl,o1,HS.out,g1⟩
   simp[intOf];omega
  | false =>
   rw[putGo] at hs;cases hl:Op.bytesLess m.p x.p with
   | true =>
    rw[hl,if_pos rfl] at hs;have HS:Hid ((out++[m]++[x])++putGo true m (L.drop (k+1))=putGo false m L):=hid (by rw[List.append_assoc,List.append_assoc,putGo_true];exact hs);clear hs;go_wp2_with fail
    refine rhd (aj3 (aj2 x1 x2) c1 c2) fun gH=>?_;refine tk (.range 12) ?_;refine tD ?_;go_wp2_with (at_builtin;first | (refine wpList_push rfl _ _ rfl wb.heap.size _ _ rfl (o1.alloc _) _ _ x rfl (cells2_new _ _ _ _) (by simp;omega) (by simp;omega) ?_;intro v2 w2 o2 k2;have g2:=(balloc g1 _).trans k2) | (refine wpList_push rfl _ _ rfl wb.heap.size _ _ rfl ((Mark.Own.drew hown).alloc _) _ _ m rfl (cells2_new _ _ _ _) (by simp;omega) (by simp;omega) ?_;intro v1 w1 o1 k1;have g1:=(balloc (Below.drew hb) _).trans k1;have c3:=(g1.cell (p:=⟨b,off+k*2,none⟩) q1).trans HD.out.1;have c4:=(g1.cell (p:=⟨b,off+k*2+1,none⟩) q1).trans HD.out.2;clear x1 x2 c1 c2;have z1:=g1.size))
    go_roundw
    ·exact ⟨k+1,true,out++[m]++[x],by omega,by go_num,rfl,o2,HS.out,g2⟩
    simp[intOf];omega
   | false =>
    rw[hl,if_neg (by decide)] at hs;have HS:Hid ((out++[x])++putGo false m (L.drop (k+1))=putGo false m L):=hid (by rw[List.append_assoc];exact hs);clear hs;go_wp2_with fail
    refine rhd (aj3 (aj2 x1 x2) c1 c2) fun gH=>?_;refine tk (.range 12) ?_;refine tD ?_;go_wp2_with (at_builtin;refine wpList_push rfl _ _ rfl wb.heap.size _ _ rfl ((Mark.Own.drew hown).alloc _) _ _ x rfl (cells2_new _ _ _ _) (by simp;omega) (by simp;omega) ?_;intro v1 w1 o1 k1;have g1:=(balloc (Below.drew hb) _).trans k1)
    go_roundw
    ·exact ⟨k+1,false,out++[x],by omega,by go_num,rfl,o1,HS.out,g1⟩
    simp[intOf];omega
 obtain rfl:k=n:=by omega
 rw[List.drop_eq_nil_of_le (by omega)] at hs;have hd:=dF (p:=(k:Int)<(k:Int));clear hln;cases d with
 | true =>
  have HS:Hid (out=putGo false m L):=hid (by rw[← hs,putGo,List.append_nil]);clear hs;go_wp2;go_ret;exact ⟨_,rfl,by rw[← HS.out];exact hown.base (by have:=HB.out;omega),HB0.out.trans (hb.mono (by have:=HB.out;omega))⟩
 | false =>
  have HS:Hid (out++[m]=putGo false m L):=hid hs;clear hs;go_wp2_with (at_builtin;refine wpList_push rfl _ _ rfl wb.heap.size _ _ rfl (hown.alloc _) _ _ m rfl (cells2_new _ _ _ _) (by simp;omega) (by simp;omega) ?_;intro v1 w1 o1 k1;have g1:=(balloc hb _).trans k1)
  go_ret;exact ⟨_,rfl,by rw[← HS.out];exact o1.base (by have:=HB.out;omega),HB0.out.trans (g1.mono (by have:=HB.out;omega))⟩
theorem IsVec.congr {R:List M} {f g:List UInt8→Nat} (h:IsVec R f) (e:∀ q,f q=g q):IsVec R g:=⟨h.1,fun q=>(h.2 q).trans (e q)⟩
def OkF (f:List UInt8→Nat):Prop:=∀ q,f q≤18446744073709551615∧(f q≠0→q.length≤9223372036854775807)
theorem okF_of {L:List M} (h:Ok L):OkF (ofL L):=by
 intro q;rcases ofL_ex L q with e | ⟨m,hm,e1,e2,e3⟩
 · rw[e];exact ⟨by omega,fun h=>absurd rfl h⟩
 obtain ⟨h1,h2⟩:=h m hm;rw[← e3,← e1];exact ⟨h1,fun _=>h2⟩
theorem ok_vec {R:List M} {f:List UInt8→Nat} (h:IsVec R f) (k:OkF f):Ok R:=by
 intro m hm;have h1:=vec_of h.1 hm;have h2:=(h.1.2 m hm).2;have h3:=h.2 m.p;obtain ⟨k1,k2⟩:=k m.p;exact ⟨by omega,k2 (by omega)⟩
def seenF (L:List M) (k:Nat) (q:List UInt8):Nat:=if q ∈ (L.take k).map (·.p) then ofL L q else 0
theorem seenF_zero (L:List M) (q:List UInt8):seenF L 0 q=0:=by simp[seenF]
theorem seenF_step (L:List M) (k:Nat) (hk:k<L.length) (q:List UInt8):seenF L (k+1) q=if q=L[k].p then ofL L q else seenF L k q:=by
 unfold seenF;rw[List.take_succ_eq_append_getElem hk,List.map_append,List.map_cons,List.map_nil];by_cases e:q=L[k].p
 · rw[if_pos e,if_pos (List.mem_append.2 (.inr (by rw[e];exact List.mem_singleton.2 rfl)))]
 rw[if_neg e];have:(q ∈ List.map (fun x=>x.p) (List.take k L)++[L[k].p])↔q ∈ List.map (fun x=>x.p) (List.take k L):=by
  rw[List.mem_append,List.mem_singleton];exact ⟨fun h=>h.resolve_right e,.inl⟩
 simp only[this]
theorem seenF_all (L:List M) (k:Nat) (hk:L.length≤k) (q:List UInt8):seenF L k q=ofL L q:=by
 unfold seenF;rw[List.take_of_length_le hk];split
 · rfl
 rename_i h
 exact (ofL_none L q fun m hm e=>h (List.mem_map.2 ⟨m,hm,e⟩)).symm
theorem seenF_le (L:List M) (k:Nat) (q:List UInt8):seenF L k q=ofL L q∨seenF L k q=0:=by
 unfold seenF;split
 · exact .inl rfl
 exact .inr rfl
theorem okF_seen {L:List M} (h:Ok L) (k:Nat):OkF (seenF L k):=by
 intro q;rcases seenF_le L k q with e | e
 · rw[e];exact okF_of h q
 rw[e];exact ⟨by omega,fun h=>absurd rfl h⟩
theorem seen_keep (L:List M) (k:Nat) (hk:k<L.length) (h:ofL L L[k].p=0∨seenF L k L[k].p≠0) (q:List UInt8):seenF L k q=seenF L (k+1) q:=by
 rw[seenF_step L k hk];by_cases e:q=L[k].p
 ·rw[if_pos e];rcases seenF_le L k q with h1 | h1
  · exact h1
  rw[h1];rcases h with h | h
  · rw[e];exact h.symm
  rw[← e] at h;exact absurd h1 h
 rw[if_neg e]
theorem clean_any (L:List M) (a:Option Addr) (n c:Nat) (w:World) (hL:Lies w a n L) (hn:n≤1099511627776) (hok:Ok L) :
  Calls Tryz.prog 180 #[.slice a n c] w fun e w'=>∃ (v:Value) (R:List M),e=.returned v∧IsVec R (ofL L)∧R.length≤n∧Mark.Own w' w.heap.size v R∧Below w.heap.size w w':=by
 have h0:=Below.refl w.heap.size w;have HL:=hid hL;have HO:=hid hok;have C1:=hid (fun q W (k:Below w.heap.size w W)=>of_any q L a n c W (hL.below k) hn hok);clear hL hok;go_enter Tryz.func180,Tryz.ntmps180;go_wp2_with fail
 go_loopw [3,4] (fun ov iv wr=>∃ (k:Nat) (out:List M),k≤n∧iv=.int .i64 k∧Mark.Own wr w.heap.size ov out∧IsVec out (seenF L k)∧out.length≤k∧Below w.heap.size w wr) (fun _ iv _=>n - (intOf iv).toNat)
 case atStart=>exact ⟨0,[],by omega,rfl,Mark.Own.nil _ _,⟨⟨List.Pairwise.nil,fun m hm=>(by cases hm)⟩,fun q=>(seenF_zero L q).symm⟩,by simp,h0⟩
 obtain ⟨k,out,hk,rfl,hown,hv,hol,hb⟩:=hrel;have hln:=HL.out.1;obtain ⟨aO,cO,rfl,_,_,lO,_⟩:=hown.lies;by_cases hlt:k<n
 ·obtain ⟨b,off,rfl,hcell⟩:=(HL.out.below hb).2 (by omega);have c1:=(hcell k (by omega)).1;have hst:=seenF_step L k (by omega);have hkp:=seen_keep L k (by omega);have hmk:=HO.out L[k] (List.getElem_mem _);obtain ⟨m,hm⟩:=nm (L[k]'(by omega));rw[← hm] at c1 hst hkp hmk;have b1:(0:Int)≤(k:Int):=by omega
  have b2:(k:Int)<(n:Int):=by omega
  have hOk:=ok_vec hv (okF_seen HO.out k);have C2:=hid (of_any m.p out aO out.length cO wr lO (by omega) hOk);have C1:=hid (C1.out m.p);have hx:=(okF_of HO.out m.p).1;have hos:=hv.2 m.p;have hme:=ofL_empty L;obtain ⟨q,hq⟩:=nm m.p;rw[← hq] at c1 hst hkp hx hos C2 C1 hmk;obtain ⟨x,hxx⟩:=nm (ofL L q);obtain ⟨y,hyy⟩:=nm (ofL out q);rw[← hxx] at C1 hx hkp;rw[← hyy] at C2 hos;have hq2:=hmk.2;clear hm hcell hq hOk hmk;by_cases g1:0<x
  ·have e1:decide ((x:Int) > 0)=true:=dT;have e2:=dT (p:=(0:Int)<(x:Int));have e3:decide (0<x)=true:=decide_eq_true g1;by_cases g2:y=0
   ·have e4:((y:Int) == 0)=true:=bT;have hqn:q≠[]:=fun e=>by rw[e,hme] at hxx;omega
    have hnv:=IsVec.congr (g:=seenF L (k+1)) (put_vec hv ⟨q,x⟩ hqn g1 (by show seenF L k q=0;omega)) (fun p=>by
     show (if p=q then x else seenF L k p)=_
     rw[hst p];split
     · rename_i e;rw[e,hxx]
     rfl)
    have hnl:=putGo_len ⟨q,x⟩ out;have HV:=hid (And.intro hnv hnl);have HY:=hid g2;clear hst hkp hos hme hxx hyy hln hnv hnl hown hv g1 g2;go_wp2_with (go_at_call 109;(first | with_reducible refine (C1.out _ hb).mono ?_ | with_reducible refine (C2.out).mono ?_);rintro e w' ⟨rfl,rfl⟩)
    refine rhd (aj3 c1 lO hb) fun gH=>?_;refine tk (.range 12) ?_;refine tR 12 fun K hK=>?_;go_simp;go_at_call 109;refine cp (C1.out _ gH.2.2) ?_;go_wp2_with fail
    refine hK.out _ _ (gH) (fun gH=>?_);clear hK K;try simp only[Act.put,List.setIfInBounds_toArray,List.set_cons_zero,List.set_cons_succ]
    refine tk [13] ?_;refine tR 14 fun K hK=>?_;go_simp;go_at_call 234;refine (put_any ⟨q,x⟩ out aO out.length cO _ gH.2.1 (by omega)).mono ?_;rintro e v1 ⟨vP,rfl,oP,k1⟩;have h1:=bstep (w:=w) (by first | exact hb | exact Below.drew hb) k1;go_wp2_with fail
    refine hK.out _ _ (⟨Dots.keepC gH.1 k1,gH.2.1.below k1,h1⟩) (fun gH=>?_);clear hK K;try simp only[Act.put,List.setIfInBounds_toArray,List.set_cons_zero,List.set_cons_succ]
    refine tk [15] ?_;refine tD ?_;go_wp2;have hsz:=hb.size;go_roundw
    ·exact ⟨k+1,_,by omega,by go_num,oP.base (by simp;omega),HV.out.1,by rw[HV.out.2];omega,h1⟩
    simp[intOf];omega
   have e4:=bF (a:=y) (b:=0);have HV:=hid (IsVec.congr hv (hkp (.inr (by omega))));clear hst hkp hos hme hxx hyy hln g1 g2 hv;go_wp2_with (go_at_call 109;(first | with_reducible refine (C1.out _ hb).mono ?_ | with_reducible refine (C2.out).mono ?_);rintro e w' ⟨rfl,rfl⟩)
   go_roundw
   ·exact ⟨k+1,out,by omega,by go_num,hown,HV.out,by omega,hb⟩
   simp[intOf];omega
  have e1:=dF (p:=(x:Int) > 0);have e2:=dF (p:=(0:Int)<(x:Int));have e3:decide (0<x)=false:=decide_eq_false g1;have HV:=hid (IsVec.congr hv (hkp (.inl (by omega))));clear hst hkp hos hme hxx hyy hln g1 hv;go_wp2_with (go_at_call 109;with_reducible refine (C1.out _ hb).mono ?_;rintro e w' ⟨rfl,rfl⟩)
  go_roundw
  ·exact ⟨k+1,out,by omega,by go_num,hown,HV.out,by omega,hb⟩
  simp[intOf];omega
 obtain rfl:k=n:=by omega
 have hd:=dF (p:=(k:Int)<(k:Int));have HV:=hid (IsVec.congr hv (seenF_all L k (by omega)));clear hln hv;go_wp2;go_ret;exact ⟨_,out,rfl,HV.out,hol,hown,hb⟩
end RefDots

namespace RefDots
open RowKit YtnpjkmomllkhpaaGreatDoor.Mark Dots
theorem covers_of {R L K:List M} (h:IsVec R (ofL K)):(∀ m ∈ R,m.n≤ofL L m.p)↔∀ q,ofL K q≤ofL L q:=by
 constructor
 ·intro hm q;have:=h.2 q;rcases ofL_ex R q with e | ⟨m,hm',e1,e2,e3⟩
  · omega
  have:=hm m hm';rw[e1] at this;omega
 intro hq m hm;have h1:=vec_of h.1 hm;have h2:=h.2 m.p;have:=hq m.p;omega
theorem covers_any (L K:List M) (a1 a2:Option Addr) (n1 n2 c1 c2:Nat) (w:World) (hL:Lies w a1 n1 L) (hK:Lies w a2 n2 K) (hn1:n1≤549755813888) (hn2:n2≤549755813888) (hok1:Ok L) (hok2:Ok K) :
  Calls Tryz.prog 117 #[.slice a1 n1 c1,.slice a2 n2 c2] w fun e w'=>∃ r:Bool,e=.returned (.bool r)∧(r=true↔∀ q,ofL K q≤ofL L q)∧Below w.heap.size w w':=by
 have C:=hid (clean_any K a2 n2 c2 w hK (by omega) hok2);have CO:=hid (fun q W (k:Below w.heap.size w W)=>of_any q L a1 n1 c1 W (hL.below k) (by omega) hok1);have HO:=hid (okF_of hok1);clear hL hK;go_enter Tryz.func117,Tryz.ntmps117;go_wp2_with fail
 refine C.out.mono ?_;rintro e w1 ⟨v1,R,rfl,hR,hRl,o1,k1⟩;obtain ⟨aR,cR,rfl,_,_,lR,_⟩:=o1.lies;have HR:=hid (covers_of (L:=L) hR);have HOk:=hid (ok_vec hR (okF_of hok2));have HL:=hid lR;have HK:=hid k1;obtain ⟨l,hl⟩:=nm R.length;rw[← hl] at HL hRl ⊢;have HN:=hid hl;clear hR lR k1 C o1 hl;go_wp2_with fail
 go_loopw [6] (fun iv wr=>∃ (k:Nat),k≤l∧iv=.int .i64 k∧(∀ m ∈ R.take k,m.n≤ofL L m.p)∧Below w1.heap.size w1 wr) (fun iv _=>l - (intOf iv).toNat)
 case atStart=>exact ⟨0,by omega,rfl,fun m hm=>by simp at hm,Below.refl _ _⟩
 obtain ⟨k,hk,rfl,hs,hb⟩:=hrel;have hl:=HN.out;have hB:Below w.heap.size w wr:=HK.out.trans (hb.mono HK.out.size);by_cases hlt:k<l
 ·obtain ⟨b,off,rfl,hcell⟩:=(HL.out.below hb).2 (by omega);obtain ⟨d1,d2⟩:=hcell k (by omega);have hstep:R.take (k+1)=R.take k++[R[k]'(by omega)]:=List.take_succ_eq_append_getElem (by omega);have hmem:(R[k]'(by omega)) ∈ R:=List.getElem_mem _;have hmk:=HOk.out _ hmem;obtain ⟨m,hm⟩:=nm (R[k]'(by omega));rw[← hm] at d1 d2 hstep hmem hmk;have b1:(0:Int)≤(k:Int):=by omega
  have b2:(k:Int)<(l:Int):=by omega
  have CO:=hid (CO.out m.p);have hx:=(HO.out m.p).1;obtain ⟨x,hxx⟩:=nm (ofL L m.p);rw[← hxx] at CO hx;have hm1:=hmk.1;have hm2:=hmk.2;clear hm hcell hl hmk;by_cases hc:x<m.n
  ·have e1:decide ((x:Int)<(m.n:Int))=true:=dT;have e2:decide (x<m.n)=true:=decide_eq_true hc;have HV:Hid (¬ ∀ q,ofL K q≤ofL L q):=hid fun h=>by have:=HR.out.2 h m hmem;omega
   clear hs hstep hmem hxx hc;go_wp2_with fail
   refine rhd (aj2 (aj2 d1 d2) hB) fun gH=>?_;refine tk [0,1,2,3,4,5,7,8,9,10,11] ?_;refine tR 6 fun K hK=>?_;go_simp;go_at_call 109;refine cp (CO.out _ gH.2) ?_;go_wp2_with fail
   refine hK.out _ _ (gH) (fun gH=>?_);clear hK K;try simp only[Act.put,List.setIfInBounds_toArray,List.set_cons_zero,List.set_cons_succ]
   refine tk [12] ?_;refine tD ?_;go_wp2;go_ret;exact ⟨false,rfl,⟨fun h=>(by cases h),fun h=>absurd h HV.out⟩,Below.drew hB⟩
  have e1:=dF (p:=(x:Int)<(m.n:Int));have e2:decide (x<m.n)=false:=decide_eq_false hc;have HS:Hid (∀ y ∈ R.take (k+1),y.n≤ofL L y.p):=hid (by
   rw[hstep];intro y hy;rcases List.mem_append.1 hy with hy | hy
   · exact hs y hy
   rw[List.mem_singleton.1 hy];omega)
  clear hs hstep hmem hxx hc;go_wp2_with fail
  refine rhd (aj2 (aj2 d1 d2) hB) fun gH=>?_;refine tk [0,1,2,3,4,5,7,8,9,10,11] ?_;refine tR 6 fun K hK=>?_;go_simp;go_at_call 109;refine cp (CO.out _ gH.2) ?_;go_wp2_with fail
  refine hK.out _ _ (gH) (fun gH=>?_);clear hK K;try simp only[Act.put,List.setIfInBounds_toArray,List.set_cons_zero,List.set_cons_succ]
  refine tk [12] ?_;refine tD ?_;go_wp2;go_roundw
  ·exact ⟨k+1,by omega,by go_num,HS.out,Below.drew hb⟩
  simp[intOf];omega
 obtain rfl:k=l:=by omega
 have hd:=dF (p:=(k:Int)<(k:Int));rw[List.take_of_length_le (by omega)] at hs;have HV:=hid (HR.out.1 hs);clear hl hs;go_wp2;go_ret;exact ⟨true,rfl,⟨fun _=>HV.out,fun _=>rfl⟩,hB⟩
end RefDots
end Go.Proofs.YtnpjkmomllkhpaaGreatDoor
