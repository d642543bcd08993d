/- DotPairs. -/
import Derived.Test.YtnpjkmomllkhpaaGreatDoorTn8
import Derived.RangeFuncNested
import Derived.RangeFuncBound
import Derived.RangeFuncCalls
import Derived.RangeFuncLeaves
import Derived.RangeFuncFrom
import Derived.Shelf.RegionOpen
import Derived.OwnWalkIn
import Derived.TacticsInMore
import Derived.LoopNIn
import Derived.LoopIn
import Derived.ControlIn
import Derived.Laws.Cover1
set_option linter.unusedVariables false
set_option linter.unusedSimpArgs false
set_option maxRecDepth 100000
set_option maxHeartbeats 4000000
namespace Go.Proofs.YtnpjkmomllkhpaaGreatDoor
namespace Dots
open RowKit Go.Shelf YtnpjkmomllkhpaaGreatDoor.Mark
attribute [local go_sem] Oper.semAt_some
structure P3 where
 p:List UInt8
 a:Nat
 b:Nat
instance : Coe P3 (Array Value) := ⟨fun x => #[x.p, x.a, x.b]⟩
instance : Coe P3 (List Value) := ⟨fun x => [x.p, x.a, x.b]⟩
def P3.agg (x:P3):Value:=.agg #[x.p,x.a,x.b]
def pairsF:Nat→List M→List M→List P3
 | 0,_,_=>[]
 | _+1,[],[]=>[]
 | k+1,x::A,[]=>⟨x.p,x.n,0⟩::pairsF k A []
 | k+1,[],y::B=>⟨y.p,0,y.n⟩::pairsF k [] B
 | k+1,x::A,y::B=>if Lib.compareBytes x.p y.p<0 then ⟨x.p,x.n,0⟩::pairsF k A (y::B) else if x.p=y.p then ⟨y.p,x.n,y.n⟩::pairsF k A B else ⟨y.p,0,y.n⟩::pairsF k (x::A) B
def pairsL (A B:List M):List P3:=pairsF (A.length+B.length) A B
theorem pairsF_enough:∀ (k:Nat) (A B:List M),A.length+B.length≤k→pairsF k A B=pairsF (A.length+B.length) A B
 | 0,A,B,h=>by rw[show A.length+B.length=0 by omega]
 | k+1,[],[],_=>by rw[pairsF];rfl
 | k+1,x::A,[],h=>by
  have e:(x::A).length+([]:List M).length=(A.length+([]:List M).length)+1:=by simp
  rw[e,pairsF,pairsF,pairsF_enough k A [] (by simp at h ⊢;omega)]
 | k+1,[],y::B,h=>by
  have e:([]:List M).length+(y::B).length=(([]:List M).length+B.length)+1:=by simp
  rw[e,pairsF,pairsF,pairsF_enough k [] B (by simp at h ⊢;omega)]
 | k+1,x::A,y::B,h=>by
  have e:(x::A).length+(y::B).length=(A.length+B.length+1)+1:=by simp;omega
  have h':A.length+B.length+1≤k:=by simp at h;omega
  rw[e,pairsF,pairsF,pairsF_enough k A (y::B) (by simp;omega),pairsF_enough k A B (by omega),pairsF_enough k (x::A) B (by simp;omega),pairsF_enough (A.length+B.length+1) A (y::B) (by simp;omega),pairsF_enough (A.length+B.length+1) A B (by omega),pairsF_enough (A.length+B.length+1) (x::A) B (by simp;omega)]
theorem pF_A (x:M) (A:List M):pairsF ((x::A).length+([]:List M).length) (x::A) []=⟨x.p,x.n,0⟩::pairsF (A.length+([]:List M).length) A []:=rfl
theorem pF_B (y:M) (B:List M):pairsF (([]:List M).length+(y::B).length) [] (y::B)=⟨y.p,0,y.n⟩::pairsF (([]:List M).length+B.length) [] B:=rfl
theorem pF_two (x y:M) (A B:List M):pairsF ((x::A).length+(y::B).length) (x::A) (y::B)=if Lib.compareBytes x.p y.p<0 then ⟨x.p,x.n,0⟩::pairsF (A.length+(y::B).length) A (y::B) else if x.p=y.p then ⟨y.p,x.n,y.n⟩::pairsF (A.length+B.length) A B else ⟨y.p,0,y.n⟩::pairsF ((x::A).length+B.length) (x::A) B:=by
 have e:(x::A).length+(y::B).length=(A.length+B.length+1)+1:=by simp;omega
 rw[e,pairsF,pairsF_enough (A.length+B.length+1) A (y::B) (by simp;omega),pairsF_enough (A.length+B.length+1) A B (by omega),pairsF_enough (A.length+B.length+1) (x::A) B (by simp;omega)]
structure Mid (n1 n0:Nat) (W W':World):Prop where
 size:W.heap.size≤W'.heap.size
 same:∀ k,n1≤k→k<n0→W'.heap[k]?=W.heap[k]?
theorem Mid.trans {n1 n0:Nat} {A B C:World} (h:Mid n1 n0 A B) (k:Mid n1 n0 B C):Mid n1 n0 A C:=⟨Nat.le_trans h.size k.size,fun i h1 h2=>(k.same i h1 h2).trans (h.same i h1 h2)⟩
structure Rows (n1 n0:Nat) (W:World) (b1 b2:Nat) (aA aB:Option Addr) (cA cB:Nat) (A B:List M):Prop where
 o1:n1≤b1∧b1<n0
 o2:n1≤b2∧b2<n0
 x1:W.cell? ⟨b1,0,none⟩=some (.slice aA A.length cA)
 x2:W.cell? ⟨b2,0,none⟩=some (.slice aB B.length cB)
 rA:Lies W aA A.length A
 rB:Lies W aB B.length B
 iA:∀ q,aA=some q→n1≤q.block∧q.block<n0
 iB:∀ q,aB=some q→n1≤q.block∧q.block<n0
theorem Rows.keep {n1 n0:Nat} {W W':World} {b1 b2:Nat} {aA aB:Option Addr} {cA cB:Nat} {A B:List M} (h:Rows n1 n0 W b1 b2 aA aB cA cB A B) (k:Mid n1 n0 W W'):Rows n1 n0 W' b1 b2 aA aB cA cB A B where
 o1:=h.o1
 o2:=h.o2
 x1:=(World.cell?_of_block (k.same b1 h.o1.1 h.o1.2)).trans h.x1
 x2:=(World.cell?_of_block (k.same b2 h.o2.1 h.o2.2)).trans h.x2
 rA:=by
  cases e:aA with
  | none=>rw[e] at h;exact ⟨h.rA.1,fun hn=>by obtain ⟨_,_,e2,_⟩:=h.rA.2 hn;cases e2⟩
  | some q=>rw[e] at h;exact h.rA.mono fun p v hv hq=>(World.cell?_of_block (k.same p.block (by rw[← hq q rfl];exact (h.iA q rfl).1) (by rw[← hq q rfl];exact (h.iA q rfl).2))).trans hv
 rB:=by
  cases e:aB with
  | none=>rw[e] at h;exact ⟨h.rB.1,fun hn=>by obtain ⟨_,_,e2,_⟩:=h.rB.2 hn;cases e2⟩
  | some q=>rw[e] at h;exact h.rB.mono fun p v hv hq=>(World.cell?_of_block (k.same p.block (by rw[← hq q rfl];exact (h.iB q rfl).1) (by rw[← hq q rfl];exact (h.iB q rfl).2))).trans hv
 iA:=h.iA
 iB:=h.iB
theorem mid_below {n1 n0:Nat} {W W':World} (h:Below n0 W W'):Mid n1 n0 W W':=⟨h.size,fun k _ hk=>h.block k hk⟩
theorem pairs_stops (n:Nat) (hn:3≤n) (n1 n0 b1 b2:Nat) (aA aB:Option Addr) (cA cB:Nat) (A B:List M) (w:World) (hR:Rows n1 n0 w b1 b2 aA aB cA cB A B) (h0:n0≤w.heap.size) (hA:A.length≤1099511627776) (hB:B.length≤1099511627776) :
  SeqStopsK Fence.wide n Tryz.prog 226 #[.pointer (some ⟨b1,0,none⟩),.pointer (some ⟨b2,0,none⟩)] (fun x:P3=>#[x.agg]) (Mid n1 n0) (fun xs=>xs=pairsL A B) (fun pre=>pre≠[]∧pre <+: pairsL A B) (A.length+B.length) w:=fun l J Jx W hW hJ _ hY hj0=>by
 have HR0:=hid (hR.keep (mid_below (hW.mono h0)));have hWs:n0≤W.heap.size:=Nat.le_trans h0 hW.size;clear hR;obtain ⟨la,hla⟩:=nm A.length;obtain ⟨lb,hlb⟩:=nm B.length;rw[← hla] at hA;rw[← hlb] at hB;have HLA:=hid hla;have HLB:=hid hlb;refine callsIn_of_wp Tryz.func226 rfl trivial ?_ rfl;simp only[Tryz.ntmps226,List.size_toArray,List.length_cons,List.length_nil,Nat.reduceAdd,Nat.reduceSub,Array.replicate_succ,Array.replicate_zero,List.push_toArray,List.append_toArray,List.nil_append,List.cons_append];gi_wp2_with fail
 gi_loopw [4,5] (fun iv jv wr=>∃ (pre:List P3) (i j:Nat),iv=.int .i64 i∧jv=.int .i64 j∧i≤la∧j≤lb∧Hid (pre++pairsF ((A.drop i).length+(B.drop j).length) (A.drop i) (B.drop j)=pairsL A B)∧pre.length≤i+j∧Hid (Rows n1 n0 wr b1 b2 aA aB cA cB A B)∧W.heap.size≤wr.heap.size∧J pre wr) (fun iv jv _=>la+lb - (intOf iv).toNat - (intOf jv).toNat)
 case atStart=>exact ⟨[],0,0,rfl,rfl,by omega,by omega,hid rfl,by simp,HR0,Nat.le_refl _,hj0⟩
 clear HR0 hj0 hla hlb;obtain ⟨pre,i,j,rfl,rfl,hi,hj,HI,hpl,HR,hws,hjj⟩:=hrel;have hla:=HLA.out;have hlb:=HLB.out;have x1:=HR.out.x1;have x2:=HR.out.x2;rw[← hla] at x1;rw[← hlb] at x2;have hb1:b1≠wr.heap.size∧b2≠wr.heap.size:=⟨by have:=HR.out.o1;omega,by have:=HR.out.o2;omega⟩
 obtain ⟨hb1,hb2⟩:=hb1;have hIA:=HR.out.iA;have hIB:=HR.out.iB;by_cases hil:i<la
 ·by_cases hjl:j<lb
  ·
   obtain ⟨gA,oA,rfl,hcA⟩:=HR.out.rA.2 (by omega);have hil2:i<A.length:=by omega
   obtain ⟨a1,a2⟩:=hcA i hil2;obtain ⟨m,hm⟩:=nm (A[i]'hil2);rw[← hm] at a1 a2;have hgA:gA≠wr.heap.size:=by have:=hIA _ rfl;simp at this;omega
   have hdA:=List.drop_eq_getElem_cons hil2;rw[← hm] at hdA;clear hm hcA;obtain ⟨gB,oB,rfl,hcB⟩:=HR.out.rB.2 (by omega);have hjl2:j<B.length:=by omega
   obtain ⟨c1,c2⟩:=hcB j hjl2;obtain ⟨k,hk⟩:=nm (B[j]'hjl2);rw[← hk] at c1 c2;have hgB:gB≠wr.heap.size:=by have:=hIB _ rfl;simp at this;omega
   have hdB:=List.drop_eq_getElem_cons hjl2;rw[← hk] at hdB;clear hk hcB;have d1:=dT (p:=(i:Int)<(la:Int));have d2:=dT (p:=(j:Int)<(lb:Int));have e1:=bF (a:=j) (b:=(lb:Int));have e2:=bF (a:=i) (b:=(la:Int));have hi0:(0:Int)≤(i:Int):=by omega
   have hi1:(i:Int)<(la:Int):=by omega
   have hj0b:(0:Int)≤(j:Int):=by omega
   have hj1b:(j:Int)<(lb:Int):=by omega
   have hs:=HI.out;rw[hdA,hdB,pF_two] at hs;rw[← hdA,← hdB] at hs;clear hla hlb hdA hdB hIA hIB HI;rcases Order.cmp_ways m.p k.p with hc | hc | hc
   ·
    rw[if_pos (by omega)] at hs;have HS:=hid hs;have hne:m.p≠k.p:=fun e=>by rw[e,Order.cmp_self] at hc;cases hc
    have l1:Op.bytesLess m.p k.p=true:=by
     cases h:Op.bytesLess m.p k.p with
     | true=>rfl
     | false=>have:=Order.cmp_more _ _ hne h;omega
    have l2:Op.bytesLess k.p m.p=false:=by
     cases h:Op.bytesLess k.p m.p with
     | false=>rfl
     | true=>have h1:=Order.cmp_less _ _ h;rw[Order.cmp_flip] at h1;omega
    have l3:(m.p == k.p)=false:=by rw[beq_eq_false_iff_ne];exact hne
    have l4:(k.p == m.p)=false:=by rw[beq_eq_false_iff_ne];exact fun e=>hne e.symm
    clear hc hs hne;gi_wp2_with fail
    refine wpIn_wide.2 ?_;refine wp_region_noPanic ?_;refine wp_region_held_drew (S:=(fun w'=>w'.cell? ⟨b1,0,none⟩=some (.slice (some ⟨gA,oA,none⟩) la cA)∧w'.cell? ⟨b2,0,none⟩=some (.slice (some ⟨gB,oB,none⟩) lb cB)∧w'.cell? ⟨gA,oA+i*2,none⟩=some ↑m.p∧w'.cell? ⟨gA,oA+i*2+1,none⟩=some ↑m.n∧w'.cell? ⟨gB,oB+j*2,none⟩=some ↑k.p∧w'.cell? ⟨gB,oB+j*2+1,none⟩=some ↑k.n)) (by kernel_rfl) (⟨Lib.cell?_alloc_some _ x1,Lib.cell?_alloc_some _ x2,Lib.cell?_alloc_some _ a1,Lib.cell?_alloc_some _ a2,Lib.cell?_alloc_some _ c1,Lib.cell?_alloc_some _ c2⟩) (fun gH=>?_);refine tk (.range 24) ?_;refine tD ?_;gi_wp2_with fail
    refine wpIn_wide.2 ?_;refine wp_region_noPanic ?_;refine wp_region_held_drew (S:=(fun w'=>w'.cell? ⟨b1,0,none⟩=some (.slice (some ⟨gA,oA,none⟩) la cA)∧w'.cell? ⟨b2,0,none⟩=some (.slice (some ⟨gB,oB,none⟩) lb cB)∧w'.cell? ⟨gA,oA+i*2,none⟩=some ↑m.p∧w'.cell? ⟨gA,oA+i*2+1,none⟩=some ↑m.n∧w'.cell? ⟨gB,oB+j*2,none⟩=some ↑k.p∧w'.cell? ⟨gB,oB+j*2+1,none⟩=some ↑k.n)) (by kernel_rfl) (gH) (fun gH=>?_);refine tk (.range 24) ?_;refine tD ?_;gi_wp2_with fail
    refine wpIn_wide.2 ?_;refine wp_region_noPanic ?_;refine wp_region_held_drew (S:=(fun w'=>w'.cell? ⟨b1,0,none⟩=some (.slice (some ⟨gA,oA,none⟩) la cA)∧w'.cell? ⟨b2,0,none⟩=some (.slice (some ⟨gB,oB,none⟩) lb cB)∧w'.cell? ⟨gA,oA+i*2,none⟩=some ↑m.p∧w'.cell? ⟨gA,oA+i*2+1,none⟩=some ↑m.n∧w'.cell? ⟨gB,oB+j*2,none⟩=some ↑k.p∧w'.cell? ⟨gB,oB+j*2+1,none⟩=some ↑k.n)) (by kernel_rfl) (gH) (fun gH=>?_);refine tk (.range 11) ?_;refine tR 11 fun K hK=>?_;go_simp;refine hK.out _ _ (⟨Lib.cell?_alloc_some _ x1,Lib.cell?_alloc_some _ x2,Lib.cell?_alloc_some _ a1,Lib.cell?_alloc_some _ a2,Lib.cell?_alloc_some _ c1,Lib.cell?_alloc_some _ c2⟩) (fun gH=>?_);clear hK K;try simp only[Act.put,List.setIfInBounds_toArray,List.set_cons_zero,List.set_cons_succ]
    refine tk [12] ?_;refine tR 13 fun K hK=>?_;go_simp;refine hK.out _ _ (⟨Lib.cell?_alloc_some _ x1,Lib.cell?_alloc_some _ x2,Lib.cell?_alloc_some _ a1,Lib.cell?_alloc_some _ a2,Lib.cell?_alloc_some _ c1,Lib.cell?_alloc_some _ c2⟩) (fun gH=>?_);clear hK K;try simp only[Act.put,List.setIfInBounds_toArray,List.set_cons_zero,List.set_cons_succ]
    refine tD ?_;have hbw:Below wr.heap.size wr (wr.alloc (.cells #[m.p,m.n,.int .u64 0] 241)).drew.drew.drew:=Below.drew (Below.drew (Below.drew (balloc (Below.refl _ _) _)));have hj2:=hJ _ _ _ none hjj (grown_of hbw) (fun r e=>by cases e);obtain ⟨fn,tmps,assign,body,hy,hR⟩:=hY pre ⟨m.p,m.n,0⟩ _ hj2 (by have:=HLA.out;have:=HLB.out;omega);unfold P3.agg at hy;simp only[Int.natCast_zero] at hy;clear gH;gi_wp2_with fail
    refine ⟨fun _=>by omega,hR.mono ?_⟩;rintro e w4 (⟨rfl,hJ4,hk4⟩ | ⟨rfl,hx4⟩)
    ·gi_wp2;exact ⟨⟨pre++[⟨m.p,m.n,0⟩],i+1,j,by go_num,by go_num,by omega,by omega,hid (by rw[List.append_assoc];exact HS.out),by simp;omega,hid ((HR.out.keep (mid_below (hbw.mono (by omega)))).keep hk4),Nat.le_trans hws (Nat.le_trans hbw.size hk4.size),hJ4⟩,by simp[intOf];omega⟩
    gi_wp2;refine bodyPost_ret (results_none rfl _ _ _) rfl ?_;refine ⟨⟨_,rfl⟩,.inr ⟨pre++[⟨m.p,m.n,0⟩],⟨by simp,?_⟩,hx4⟩⟩;rw[← HS.out];exact ⟨_,by rw[List.append_assoc];rfl⟩
   ·
    have he:=Order.cmp_zero _ _ hc;rw[if_neg (by omega),if_pos he] at hs;have HS:=hid hs;rw[he] at a1;obtain ⟨mp,mn⟩:=m;simp only at he a1 a2 hs HS;subst he;have l1:Op.bytesLess k.p k.p=false:=by
     cases h:Op.bytesLess k.p k.p with
     | false=>rfl
     | true=>have h1:=Order.cmp_less _ _ h;rw[Order.cmp_self] at h1;cases h1
    clear hc hs;skip;gi_wp2_with fail
    refine wpIn_wide.2 ?_;refine wp_region_noPanic ?_;refine wp_region_held_drew (S:=(fun w'=>w'.cell? ⟨b1,0,none⟩=some (.slice (some ⟨gA,oA,none⟩) la cA)∧w'.cell? ⟨b2,0,none⟩=some (.slice (some ⟨gB,oB,none⟩) lb cB)∧w'.cell? ⟨gA,oA+i*2,none⟩=some ↑k.p∧w'.cell? ⟨gA,oA+i*2+1,none⟩=some ↑mn∧w'.cell? ⟨gB,oB+j*2,none⟩=some ↑k.p∧w'.cell? ⟨gB,oB+j*2+1,none⟩=some ↑k.n)) (by kernel_rfl) (⟨Lib.cell?_alloc_some _ x1,Lib.cell?_alloc_some _ x2,Lib.cell?_alloc_some _ a1,Lib.cell?_alloc_some _ a2,Lib.cell?_alloc_some _ c1,Lib.cell?_alloc_some _ c2⟩) (fun gH=>?_);refine tk (.range 24) ?_;refine tD ?_;gi_wp2_with fail
    refine wpIn_wide.2 ?_;refine wp_region_noPanic ?_;refine wp_region_held_drew (S:=(fun w'=>w'.cell? ⟨b1,0,none⟩=some (.slice (some ⟨gA,oA,none⟩) la cA)∧w'.cell? ⟨b2,0,none⟩=some (.slice (some ⟨gB,oB,none⟩) lb cB)∧w'.cell? ⟨gA,oA+i*2,none⟩=some ↑k.p∧w'.cell? ⟨gA,oA+i*2+1,none⟩=some ↑mn∧w'.cell? ⟨gB,oB+j*2,none⟩=some ↑k.p∧w'.cell? ⟨gB,oB+j*2+1,none⟩=some ↑k.n)) (by kernel_rfl) (gH) (fun gH=>?_);refine tk (.range 24) ?_;refine tD ?_;gi_wp2_with fail
    refine wpIn_wide.2 ?_;refine wp_region_noPanic ?_;refine wp_region_held_drew (S:=(fun w'=>w'.cell? ⟨b1,0,none⟩=some (.slice (some ⟨gA,oA,none⟩) la cA)∧w'.cell? ⟨b2,0,none⟩=some (.slice (some ⟨gB,oB,none⟩) lb cB)∧w'.cell? ⟨gA,oA+i*2,none⟩=some ↑k.p∧w'.cell? ⟨gA,oA+i*2+1,none⟩=some ↑mn∧w'.cell? ⟨gB,oB+j*2,none⟩=some ↑k.p∧w'.cell? ⟨gB,oB+j*2+1,none⟩=some ↑k.n)) (by kernel_rfl) (gH) (fun gH=>?_);refine tk (.range 11) ?_;refine tR 11 fun K hK=>?_;go_simp;refine hK.out _ _ (⟨Lib.cell?_alloc_some _ x1,Lib.cell?_alloc_some _ x2,Lib.cell?_alloc_some _ a1,Lib.cell?_alloc_some _ a2,Lib.cell?_alloc_some _ c1,Lib.cell?_alloc_some _ c2⟩) (fun gH=>?_);clear hK K;try simp only[Act.put,List.setIfInBounds_toArray,List.set_cons_zero,List.set_cons_succ]
    refine tk [12] ?_;refine tR 13 fun K hK=>?_;go_simp;refine hK.out _ _ (⟨Lib.cell?_alloc_some _ x1,Lib.cell?_alloc_some _ x2,Lib.cell?_alloc_some _ a1,Lib.cell?_alloc_some _ a2,Lib.cell?_alloc_some _ c1,Lib.cell?_alloc_some _ c2⟩) (fun gH=>?_);clear hK K;try simp only[Act.put,List.setIfInBounds_toArray,List.set_cons_zero,List.set_cons_succ]
    refine tD ?_;gi_wp2_with fail
    refine wpIn_wide.2 ?_;refine wp_region_noPanic ?_;refine wp_region_held_drew (S:=(fun w'=>w'.cell? ⟨b1,0,none⟩=some (.slice (some ⟨gA,oA,none⟩) la cA)∧w'.cell? ⟨b2,0,none⟩=some (.slice (some ⟨gB,oB,none⟩) lb cB)∧w'.cell? ⟨gA,oA+i*2,none⟩=some ↑k.p∧w'.cell? ⟨gA,oA+i*2+1,none⟩=some ↑mn∧w'.cell? ⟨gB,oB+j*2,none⟩=some ↑k.p∧w'.cell? ⟨gB,oB+j*2+1,none⟩=some ↑k.n)) (by kernel_rfl) (gH) (fun gH=>?_);refine tk (.range 11) ?_;refine tR 11 fun K hK=>?_;go_simp;refine hK.out _ _ (⟨Lib.cell?_alloc_some _ x1,Lib.cell?_alloc_some _ x2,Lib.cell?_alloc_some _ a1,Lib.cell?_alloc_some _ a2,Lib.cell?_alloc_some _ c1,Lib.cell?_alloc_some _ c2⟩) (fun gH=>?_);clear hK K;try simp only[Act.put,List.setIfInBounds_toArray,List.set_cons_zero,List.set_cons_succ]
    refine tk [12] ?_;refine tR 13 fun K hK=>?_;go_simp;refine hK.out _ _ (⟨Lib.cell?_alloc_some _ x1,Lib.cell?_alloc_some _ x2,Lib.cell?_alloc_some _ a1,Lib.cell?_alloc_some _ a2,Lib.cell?_alloc_some _ c1,Lib.cell?_alloc_some _ c2⟩) (fun gH=>?_);clear hK K;try simp only[Act.put,List.setIfInBounds_toArray,List.set_cons_zero,List.set_cons_succ]
    refine tD ?_;have hbw:Below wr.heap.size wr (wr.alloc (.cells #[k.p,mn,k.n] 241)).drew.drew.drew.drew:=Below.drew (Below.drew (Below.drew (Below.drew (balloc (Below.refl _ _) _))));have hj2:=hJ _ _ _ none hjj (grown_of hbw) (fun r e=>by cases e);obtain ⟨fn,tmps,assign,body,hy,hR⟩:=hY pre ⟨k.p,mn,k.n⟩ _ hj2 (by have:=HLA.out;have:=HLB.out;omega);unfold P3.agg at hy;simp only at hy;clear gH;gi_wp2_with fail
    refine ⟨fun _=>by omega,hR.mono ?_⟩;rintro e w4 (⟨rfl,hJ4,hk4⟩ | ⟨rfl,hx4⟩)
    ·gi_wp2;exact ⟨⟨pre++[⟨k.p,mn,k.n⟩],i+1,j+1,by go_num,by go_num,by omega,by omega,hid (by rw[List.append_assoc];exact HS.out),by simp;omega,hid ((HR.out.keep (mid_below (hbw.mono (by omega)))).keep hk4),Nat.le_trans hws (Nat.le_trans hbw.size hk4.size),hJ4⟩,by simp[intOf];omega⟩
    gi_wp2;refine bodyPost_ret (results_none rfl _ _ _) rfl ?_;refine ⟨⟨_,rfl⟩,.inr ⟨pre++[⟨k.p,mn,k.n⟩],⟨by simp,?_⟩,hx4⟩⟩;rw[← HS.out];exact ⟨_,by rw[List.append_assoc];rfl⟩
   have hne:m.p≠k.p:=fun e=>by rw[e,Order.cmp_self] at hc;cases hc
   rw[if_neg (by omega),if_neg hne] at hs;have HS:=hid hs;have l1:Op.bytesLess m.p k.p=false:=by
    cases h:Op.bytesLess m.p k.p with
    | false=>rfl
    | true=>have h1:=Order.cmp_less _ _ h;omega
   have l2:Op.bytesLess k.p m.p=true:=by
    cases h:Op.bytesLess k.p m.p with
    | true=>rfl
    | false=>have h1:=Order.cmp_more _ _ (fun e=>hne e.symm) h;rw[Order.cmp_flip] at h1;omega
   have l3:(m.p == k.p)=false:=by rw[beq_eq_false_iff_ne];exact hne
   have l4:(k.p == m.p)=false:=by rw[beq_eq_false_iff_ne];exact fun e=>hne e.symm
   clear hc hs hne;gi_wp2_with fail
   refine wpIn_wide.2 ?_;refine wp_region_noPanic ?_;refine wp_region_held_drew (S:=(fun w'=>w'.cell? ⟨b1,0,none⟩=some (.slice (some ⟨gA,oA,none⟩) la cA)∧w'.cell? ⟨b2,0,none⟩=some (.slice (some ⟨gB,oB,none⟩) lb cB)∧w'.cell? ⟨gA,oA+i*2,none⟩=some ↑m.p∧w'.cell? ⟨gA,oA+i*2+1,none⟩=some ↑m.n∧w'.cell? ⟨gB,oB+j*2,none⟩=some ↑k.p∧w'.cell? ⟨gB,oB+j*2+1,none⟩=some ↑k.n)) (by kernel_rfl) (⟨Lib.cell?_alloc_some _ x1,Lib.cell?_alloc_some _ x2,Lib.cell?_alloc_some _ a1,Lib.cell?_alloc_some _ a2,Lib.cell?_alloc_some _ c1,Lib.cell?_alloc_some _ c2⟩) (fun gH=>?_);refine tk (.range 24) ?_;refine tD ?_;gi_wp2_with fail
   refine wpIn_wide.2 ?_;refine wp_region_noPanic ?_;refine wp_region_held_drew (S:=(fun w'=>w'.cell? ⟨b1,0,none⟩=some (.slice (some ⟨gA,oA,none⟩) la cA)∧w'.cell? ⟨b2,0,none⟩=some (.slice (some ⟨gB,oB,none⟩) lb cB)∧w'.cell? ⟨gA,oA+i*2,none⟩=some ↑m.p∧w'.cell? ⟨gA,oA+i*2+1,none⟩=some ↑m.n∧w'.cell? ⟨gB,oB+j*2,none⟩=some ↑k.p∧w'.cell? ⟨gB,oB+j*2+1,none⟩=some ↑k.n)) (by kernel_rfl) (gH) (fun gH=>?_);refine tk (.range 24) ?_;refine tD ?_;gi_wp2_with fail
   refine wpIn_wide.2 ?_;refine wp_region_noPanic ?_;refine wp_region_held_drew (S:=(fun w'=>w'.cell? ⟨b1,0,none⟩=some (.slice (some ⟨gA,oA,none⟩) la cA)∧w'.cell? ⟨b2,0,none⟩=some (.slice (some ⟨gB,oB,none⟩) lb cB)∧w'.cell? ⟨gA,oA+i*2,none⟩=some ↑m.p∧w'.cell? ⟨gA,oA+i*2+1,none⟩=some ↑m.n∧w'.cell? ⟨gB,oB+j*2,none⟩=some ↑k.p∧w'.cell? ⟨gB,oB+j*2+1,none⟩=some ↑k.n)) (by kernel_rfl) (gH) (fun gH=>?_);refine tk (.range 11) ?_;refine tR 11 fun K hK=>?_;go_simp;refine hK.out _ _ (⟨Lib.cell?_alloc_some _ x1,Lib.cell?_alloc_some _ x2,Lib.cell?_alloc_some _ a1,Lib.cell?_alloc_some _ a2,Lib.cell?_alloc_some _ c1,Lib.cell?_alloc_some _ c2⟩) (fun gH=>?_);clear hK K;try simp only[Act.put,List.setIfInBounds_toArray,List.set_cons_zero,List.set_cons_succ]
   refine tk [12] ?_;refine tR 13 fun K hK=>?_;go_simp;refine hK.out _ _ (⟨Lib.cell?_alloc_some _ x1,Lib.cell?_alloc_some _ x2,Lib.cell?_alloc_some _ a1,Lib.cell?_alloc_some _ a2,Lib.cell?_alloc_some _ c1,Lib.cell?_alloc_some _ c2⟩) (fun gH=>?_);clear hK K;try simp only[Act.put,List.setIfInBounds_toArray,List.set_cons_zero,List.set_cons_succ]
   refine tD ?_;have hbw:Below wr.heap.size wr (wr.alloc (.cells #[k.p,.int .u64 0,k.n] 241)).drew.drew.drew:=Below.drew (Below.drew (Below.drew (balloc (Below.refl _ _) _)));have hj2:=hJ _ _ _ none hjj (grown_of hbw) (fun r e=>by cases e);obtain ⟨fn,tmps,assign,body,hy,hR⟩:=hY pre ⟨k.p,0,k.n⟩ _ hj2 (by have:=HLA.out;have:=HLB.out;omega);unfold P3.agg at hy;simp only[Int.natCast_zero] at hy;clear gH;gi_wp2_with fail
   refine ⟨fun _=>by omega,hR.mono ?_⟩;rintro e w4 (⟨rfl,hJ4,hk4⟩ | ⟨rfl,hx4⟩)
   ·gi_wp2;exact ⟨⟨pre++[⟨k.p,0,k.n⟩],i,j+1,by go_num,by go_num,by omega,by omega,hid (by rw[List.append_assoc];exact HS.out),by simp;omega,hid ((HR.out.keep (mid_below (hbw.mono (by omega)))).keep hk4),Nat.le_trans hws (Nat.le_trans hbw.size hk4.size),hJ4⟩,by simp[intOf];omega⟩
   gi_wp2;refine bodyPost_ret (results_none rfl _ _ _) rfl ?_;refine ⟨⟨_,rfl⟩,.inr ⟨pre++[⟨k.p,0,k.n⟩],⟨by simp,?_⟩,hx4⟩⟩;rw[← HS.out];exact ⟨_,by rw[List.append_assoc];rfl⟩
  obtain rfl:lb=j:=by omega
  obtain ⟨gA,oA,rfl,hcA⟩:=HR.out.rA.2 (by omega);have hil2:i<A.length:=by omega
  obtain ⟨a1,a2⟩:=hcA i hil2;obtain ⟨m,hm⟩:=nm (A[i]'hil2);rw[← hm] at a1 a2;have hgA:gA≠wr.heap.size:=by have:=hIA _ rfl;simp at this;omega
  have hdA:=List.drop_eq_getElem_cons hil2;rw[← hm] at hdA;clear hm hcA;have d1:=dT (p:=(i:Int)<(la:Int));have e1:((lb:Int) == (lb:Int))=true:=by simp
  have e2:=bF (a:=i) (b:=(la:Int));have d2:=dF (p:=(lb:Int)<(lb:Int));have hi0:(0:Int)≤(i:Int):=by omega
  have hi1:(i:Int)<(la:Int):=by omega
  have hdB:B.drop lb=[]:=List.drop_of_length_le (by omega);have hs:=HI.out;rw[hdA,hdB,pF_A] at hs;rw[← hdB] at hs;have HS:=hid hs;clear hla hlb hdA hdB hs HI hIA hIB;gi_wp2_with fail
  refine wpIn_wide.2 ?_;refine wp_region_noPanic ?_;refine wp_region_held_drew (S:=(fun w'=>w'.cell? ⟨b1,0,none⟩=some (.slice (some ⟨gA,oA,none⟩) la cA)∧w'.cell? ⟨b2,0,none⟩=some (.slice aB lb cB)∧w'.cell? ⟨gA,oA+i*2,none⟩=some ↑m.p∧w'.cell? ⟨gA,oA+i*2+1,none⟩=some ↑m.n)) (by kernel_rfl) (⟨Lib.cell?_alloc_some _ x1,Lib.cell?_alloc_some _ x2,Lib.cell?_alloc_some _ a1,Lib.cell?_alloc_some _ a2⟩) (fun gH=>?_);refine tk (.range 24) ?_;refine tD ?_;gi_wp2_with fail
  refine wpIn_wide.2 ?_;refine wp_region_noPanic ?_;refine wp_region_held_drew (S:=(fun w'=>w'.cell? ⟨b1,0,none⟩=some (.slice (some ⟨gA,oA,none⟩) la cA)∧w'.cell? ⟨b2,0,none⟩=some (.slice aB lb cB)∧w'.cell? ⟨gA,oA+i*2,none⟩=some ↑m.p∧w'.cell? ⟨gA,oA+i*2+1,none⟩=some ↑m.n)) (by kernel_rfl) (gH) (fun gH=>?_);refine tk (.range 24) ?_;refine tD ?_;gi_wp2_with fail
  refine wpIn_wide.2 ?_;refine wp_region_noPanic ?_;refine wp_region_held_drew (S:=(fun w'=>w'.cell? ⟨b1,0,none⟩=some (.slice (some ⟨gA,oA,none⟩) la cA)∧w'.cell? ⟨b2,0,none⟩=some (.slice aB lb cB)∧w'.cell? ⟨gA,oA+i*2,none⟩=some ↑m.p∧w'.cell? ⟨gA,oA+i*2+1,none⟩=some ↑m.n)) (by kernel_rfl) (gH) (fun gH=>?_);refine tk (.range 11) ?_;refine tR 11 fun K hK=>?_;go_simp;refine hK.out _ _ (⟨Lib.cell?_alloc_some _ x1,Lib.cell?_alloc_some _ x2,Lib.cell?_alloc_some _ a1,Lib.cell?_alloc_some _ a2⟩) (fun gH=>?_);clear hK K;try simp only[Act.put,List.setIfInBounds_toArray,List.set_cons_zero,List.set_cons_succ]
  refine tk [12] ?_;refine tR 13 fun K hK=>?_;go_simp;refine hK.out _ _ (⟨Lib.cell?_alloc_some _ x1,Lib.cell?_alloc_some _ x2,Lib.cell?_alloc_some _ a1,Lib.cell?_alloc_some _ a2⟩) (fun gH=>?_);clear hK K;try simp only[Act.put,List.setIfInBounds_toArray,List.set_cons_zero,List.set_cons_succ]
  refine tD ?_;have hbw:Below wr.heap.size wr (wr.alloc (.cells #[m.p,m.n,.int .u64 0] 241)).drew.drew.drew:=Below.drew (Below.drew (Below.drew (balloc (Below.refl _ _) _)));have hj2:=hJ _ _ _ none hjj (grown_of hbw) (fun r e=>by cases e);obtain ⟨fn,tmps,assign,body,hy,hR⟩:=hY pre ⟨m.p,m.n,0⟩ _ hj2 (by have:=HLA.out;have:=HLB.out;omega);unfold P3.agg at hy;simp only[Int.natCast_zero] at hy;clear gH;gi_wp2_with fail
  refine ⟨fun _=>by omega,hR.mono ?_⟩;rintro e w4 (⟨rfl,hJ4,hk4⟩ | ⟨rfl,hx4⟩)
  ·gi_wp2;exact ⟨⟨pre++[⟨m.p,m.n,0⟩],i+1,lb,by go_num,by go_num,by omega,by omega,hid (by rw[List.append_assoc];exact HS.out),by simp;omega,hid ((HR.out.keep (mid_below (hbw.mono (by omega)))).keep hk4),Nat.le_trans hws (Nat.le_trans hbw.size hk4.size),hJ4⟩,by simp[intOf];omega⟩
  gi_wp2;refine bodyPost_ret (results_none rfl _ _ _) rfl ?_;refine ⟨⟨_,rfl⟩,.inr ⟨pre++[⟨m.p,m.n,0⟩],⟨by simp,?_⟩,hx4⟩⟩;rw[← HS.out];exact ⟨_,by rw[List.append_assoc];rfl⟩
 obtain rfl:la=i:=by omega
 by_cases hjl:j<lb
 ·
  obtain ⟨gB,oB,rfl,hcB⟩:=HR.out.rB.2 (by omega);have hjl2:j<B.length:=by omega
  obtain ⟨c1,c2⟩:=hcB j hjl2;obtain ⟨k,hk⟩:=nm (B[j]'hjl2);rw[← hk] at c1 c2;have hgB:gB≠wr.heap.size:=by have:=hIB _ rfl;simp at this;omega
  have hdB:=List.drop_eq_getElem_cons hjl2;rw[← hk] at hdB;clear hk hcB;have d2:=dT (p:=(j:Int)<(lb:Int));have d1:=dF (p:=(la:Int)<(la:Int));have e2:((la:Int) == (la:Int))=true:=by simp
  have e1:=bF (a:=j) (b:=(lb:Int));have hj0b:(0:Int)≤(j:Int):=by omega
  have hj1b:(j:Int)<(lb:Int):=by omega
  have hdA:A.drop la=[]:=List.drop_of_length_le (by omega);have hs:=HI.out;rw[hdB,hdA,pF_B] at hs;rw[← hdA] at hs;have HS:=hid hs;clear hla hlb hdA hdB hs HI hIA hIB;gi_wp2_with fail
  refine wpIn_wide.2 ?_;refine wp_region_noPanic ?_;refine wp_region_held_drew (S:=(fun w'=>w'.cell? ⟨b1,0,none⟩=some (.slice aA la cA)∧w'.cell? ⟨b2,0,none⟩=some (.slice (some ⟨gB,oB,none⟩) lb cB)∧w'.cell? ⟨gB,oB+j*2,none⟩=some ↑k.p∧w'.cell? ⟨gB,oB+j*2+1,none⟩=some ↑k.n)) (by kernel_rfl) (⟨Lib.cell?_alloc_some _ x1,Lib.cell?_alloc_some _ x2,Lib.cell?_alloc_some _ c1,Lib.cell?_alloc_some _ c2⟩) (fun gH=>?_);refine tk (.range 24) ?_;refine tD ?_;gi_wp2_with fail
  refine wpIn_wide.2 ?_;refine wp_region_noPanic ?_;refine wp_region_held_drew (S:=(fun w'=>w'.cell? ⟨b1,0,none⟩=some (.slice aA la cA)∧w'.cell? ⟨b2,0,none⟩=some (.slice (some ⟨gB,oB,none⟩) lb cB)∧w'.cell? ⟨gB,oB+j*2,none⟩=some ↑k.p∧w'.cell? ⟨gB,oB+j*2+1,none⟩=some ↑k.n)) (by kernel_rfl) (gH) (fun gH=>?_);refine tk (.range 24) ?_;refine tD ?_;gi_wp2_with fail
  refine wpIn_wide.2 ?_;refine wp_region_noPanic ?_;refine wp_region_held_drew (S:=(fun w'=>w'.cell? ⟨b1,0,none⟩=some (.slice aA la cA)∧w'.cell? ⟨b2,0,none⟩=some (.slice (some ⟨gB,oB,none⟩) lb cB)∧w'.cell? ⟨gB,oB+j*2,none⟩=some ↑k.p∧w'.cell? ⟨gB,oB+j*2+1,none⟩=some ↑k.n)) (by kernel_rfl) (gH) (fun gH=>?_);refine tk (.range 11) ?_;refine tR 11 fun K hK=>?_;go_simp;refine hK.out _ _ (⟨Lib.cell?_alloc_some _ x1,Lib.cell?_alloc_some _ x2,Lib.cell?_alloc_some _ c1,Lib.cell?_alloc_some _ c2⟩) (fun gH=>?_);clear hK K;try simp only[Act.put,List.setIfInBounds_toArray,List.set_cons_zero,List.set_cons_succ]
  refine tk [12] ?_;refine tR 13 fun K hK=>?_;go_simp;refine hK.out _ _ (⟨Lib.cell?_alloc_some _ x1,Lib.cell?_alloc_some _ x2,Lib.cell?_alloc_some _ c1,Lib.cell?_alloc_some _ c2⟩) (fun gH=>?_);clear hK K;try simp only[Act.put,List.setIfInBounds_toArray,List.set_cons_zero,List.set_cons_succ]
  refine tD ?_;have hbw:Below wr.heap.size wr (wr.alloc (.cells #[k.p,.int .u64 0,k.n] 241)).drew.drew.drew:=Below.drew (Below.drew (Below.drew (balloc (Below.refl _ _) _)));have hj2:=hJ _ _ _ none hjj (grown_of hbw) (fun r e=>by cases e);obtain ⟨fn,tmps,assign,body,hy,hR⟩:=hY pre ⟨k.p,0,k.n⟩ _ hj2 (by have:=HLA.out;have:=HLB.out;omega);unfold P3.agg at hy;simp only[Int.natCast_zero] at hy;clear gH;gi_wp2_with fail
  refine ⟨fun _=>by omega,hR.mono ?_⟩;rintro e w4 (⟨rfl,hJ4,hk4⟩ | ⟨rfl,hx4⟩)
  ·gi_wp2;exact ⟨⟨pre++[⟨k.p,0,k.n⟩],la,j+1,by go_num,by go_num,by omega,by omega,hid (by rw[List.append_assoc];exact HS.out),by simp;omega,hid ((HR.out.keep (mid_below (hbw.mono (by omega)))).keep hk4),Nat.le_trans hws (Nat.le_trans hbw.size hk4.size),hJ4⟩,by simp[intOf];omega⟩
  gi_wp2;refine bodyPost_ret (results_none rfl _ _ _) rfl ?_;refine ⟨⟨_,rfl⟩,.inr ⟨pre++[⟨k.p,0,k.n⟩],⟨by simp,?_⟩,hx4⟩⟩;rw[← HS.out];exact ⟨_,by rw[List.append_assoc];rfl⟩
 obtain rfl:lb=j:=by omega
 have d1:=dF (p:=(la:Int)<(la:Int));have d2:=dF (p:=(lb:Int)<(lb:Int));have hs:=HI.out;rw[show A.drop la=[] from List.drop_of_length_le (by omega),show B.drop lb=[] from List.drop_of_length_le (by omega)] at hs;have hs2:pre=pairsL A B:=by rw[← hs];simp[pairsF]
 have HS:=hid hs2;clear hla hlb hs hs2 HI hIA hIB;gi_wp2;go_end0
 exact ⟨⟨_,rfl⟩,.inl ⟨pre,HS.out,hjj⟩⟩
end Dots
end Go.Proofs.YtnpjkmomllkhpaaGreatDoor
