/- PathSeq, PathSplit, PathFns. -/
import Derived.Test.YtnpjkmomllkhpaaGreatDoorTn28
import Derived.RangeFuncNested
import Derived.RangeFuncBound
import Derived.RangeFuncCalls
import Derived.RangeFuncLeaves
import Derived.RangeFuncFrom
import Derived.Shelf.Abstract
import Derived.Shelf.RegionOpen
import Derived.OwnWalkIn
import Derived.TacticsInMore
import Derived.LoopNIn
import Derived.LoopIn
set_option linter.unusedVariables false
set_option linter.unusedSimpArgs false
set_option maxRecDepth 100000
set_option maxHeartbeats 2000000
namespace Go.Proofs.YtnpjkmomllkhpaaGreatDoor
namespace Path
open RowKit Go.Shelf
attribute [local go_sem] Oper.semAt_some
def ys:List (List UInt8)→List Nat
 | []=>[]
 | f::r=>num1 f::(if num1 f=0 then [] else ys r)
theorem ys_length:∀ l,(ys l).length≤l.length
 | []=>by simp[ys]
 | f::r=>by
  have:=ys_length r;unfold ys;split
  · simp
  simp only[List.length_cons];omega
def mOf (a b:Value):Nat:=(match a with | .string s=>s.size | _=>0)+(match b with | .bool true=>1 | _=>0)
theorem mOf_eq (l:List UInt8) (b:Bool):mOf (.string ⟨l.toArray⟩) (.bool b)=l.length+(if b then 1 else 0):=by
 rw[← Str.size_mk l];cases b <;> rfl
theorem grown_of {A B:World} (h:Below A.heap.size A B):A.grownBy B none:=⟨h.os,h.tape,h.output,h.size,fun k hk _=>h.block k hk⟩
theorem numbers_stops (n:Nat) (hn:3≤n) (p:List UInt8) (hp:p.length≤1099511627776) (b:Nat) (w:World) (hb:b<w.heap.size) (hc:w.cell? ⟨b,0,none⟩=some ↑p) :
  SeqStops Fence.wide n Tryz.prog 261 #[.pointer (some ⟨b,0,none⟩)] (fun x:Nat=>Value.int .i64 (x:Int)) (fun xs=>xs=ys (figs p)) (fun pre=>pre≠[]∧pre <+: ys (figs p)) (p.length+1) w:=fun l J Jx W hW hJ _ hY h0=>by
 have hcW:=(hW.cell (p:=⟨b,0,none⟩) hb).trans hc;refine callsIn_of_wp Tryz.func261 rfl trivial ?_ rfl;simp only[Tryz.ntmps261,List.size_toArray,List.length_cons,List.length_nil,Nat.reduceAdd,Nat.reduceSub,Array.replicate_succ,Array.replicate_zero,List.push_toArray,List.append_toArray,List.nil_append,List.cons_append];gi_wp2_with fail
 gi_loopw [3,4] (fun lv mv wr=>∃ (pre:List Nat) (left:List UInt8) (more:Bool),lv=.string ⟨left.toArray⟩∧mv=.bool more∧Hid (pre++ys (if more then figs left else [])=ys (figs p))∧left.length≤p.length∧J pre wr) (fun lv mv _=>mOf lv mv)
 case atStart=>exact ⟨[],p,true,rfl,rfl,hid rfl,Nat.le_refl _,h0⟩
 obtain ⟨pre,left,more,rfl,rfl,HI,hlp,hj⟩:=hrel;cases more with
 | false =>
  gi_wp2;go_end0
  have hi:=HI.out;simp only[Bool.false_eq_true,if_false,ys,List.append_nil] at hi;exact ⟨⟨_,rfl⟩,.inl ⟨pre,hi,hj⟩⟩
 | true =>
  gi_wp2_with fail
  refine ⟨trivial,fun _=>by omega,(callsIn_wide.2 (cut_any left _ (by omega))).mono ?_⟩;rintro e w2 ⟨rfl,hb2⟩;have hj2:J pre w2:=hJ _ _ _ none hj (grown_of hb2) (fun r e=>by cases e);have hf:=figs_cut left;have hlc:=cutD_length left;obtain ⟨⟨fg,lf,mr⟩,hcd⟩:∃ r,cutD left=r:=⟨_,rfl⟩
  rw[hcd] at hf hlc ⊢;simp only at hf hlc;have hi:=HI.out;rw[show (if True then figs left else [])=figs left from if_pos trivial,hf,ys] at hi;have hnl:=num1_le fg;obtain ⟨m,hm⟩:=nm (num1 fg);rw[← hm] at hi hnl;have HM:=hid hm;have HI2:=hid hi;have HL:=hid hlc.2.2;have hlen:pre.length<p.length+1:=by
   have h1:=congrArg List.length hi;have h2:=ys_length (figs p);have h3:=figs_length p;simp only[List.length_append,List.length_cons] at h1;omega
  obtain ⟨hl1,hl2,_⟩:=hlc;clear hi hf hcd hm HI;gi_wp2_with fail
  refine ⟨trivial,fun _=>by omega,(callsIn_wide.2 (number_any fg _ (by omega))).mono ?_⟩;rintro e w3 ⟨rfl,rfl⟩;rw[← HM.out];obtain ⟨fn,tmps,assign,body,hy,hR⟩:=hY pre m w2 hj2 hlen;gi_wp2_with fail
  refine ⟨fun _=>by omega,hR.mono ?_⟩;rintro e w4 (⟨rfl,hJ4,_⟩ | ⟨rfl,hx4⟩)
  ·by_cases hm0:m=0
   ·have hb0:((m:Int) == 0)=true:=bT;gi_wp2;refine bodyPost_ret (results_none rfl _ _ _) rfl ?_;have hi:=HI2.out;rw[if_pos hm0] at hi;exact ⟨⟨_,rfl⟩,.inl ⟨_,hi,hJ4⟩⟩
   have hb0:=bF (a:=m) (b:=0);gi_wp2;have hi:=HI2.out;rw[if_neg hm0] at hi;refine ⟨⟨pre++[m],lf,mr,rfl,rfl,hid (by rw[List.append_assoc];exact hi),by omega,hJ4⟩,?_⟩;rw[mOf_eq,mOf_eq];cases mr
   · simp;omega
   have:=HL.out rfl;simp;omega
  gi_wp2;refine bodyPost_ret (results_none rfl _ _ _) rfl ?_;have hi:=HI2.out;refine ⟨⟨_,rfl⟩,.inr ⟨pre++[m],⟨by simp,?_⟩,hx4⟩⟩;rw[← hi];exact ⟨if m=0 then [] else ys (if mr=true then figs lf else []),by rw[List.append_assoc];rfl⟩
end Path
namespace Path
open RowKit Go.Shelf
attribute [local go_sem] Oper.semAt_some
theorem numbers_w (p:List UInt8) (w:World) :
  Calls Tryz.prog 235 #[p] w fun e w'=>e=.returned (.func (.func 261) #[] #[.pointer (some ⟨w.heap.size,0,none⟩)])∧w'=w.alloc (.cells #[p] 9):=by
 have hmf:∀ (fn:Fn) (first cap:Array Value) (w:World),(Instr.makeFunc fn first cap).run Tryz.prog w=.ok (.func fn first cap) w:=fun _ _ _ _=>rfl;go_enter Tryz.func235,Tryz.ntmps235;go_wp2;go_ret;exact ⟨rfl,rfl⟩
def Arr (W:World) (b:Nat) (l:List Nat):Prop:=∀ j,j<8→W.cell? ⟨b,j,none⟩=some (.int .i64 ((l.getD j 0:Nat):Int))∧W.frozen? ⟨b,j,none⟩=false
def One (W:World) (b:Nat) (n:Nat):Prop:=W.cell? ⟨b,0,none⟩=some (.int .i64 (n:Int))∧W.frozen? ⟨b,0,none⟩=false
theorem Arr.lt {W:World} {b:Nat} {l:List Nat} (h:Arr W b l):b<W.heap.size:=World.block_lt_of_cell? W ⟨b,0,none⟩ (h 0 (by decide)).1
theorem One.lt {W:World} {b n:Nat} (h:One W b n):b<W.heap.size:=World.block_lt_of_cell? W ⟨b,0,none⟩ h.1
theorem Arr.below {W W':World} {b:Nat} {l:List Nat} (h:Arr W b l) (k:Below W.heap.size W W'):Arr W' b l:=fun j hj =>
 ⟨(k.cell (p:=⟨b,j,none⟩) h.lt).trans (h j hj).1,(k.frozen (p:=⟨b,j,none⟩) h.lt).trans (h j hj).2⟩
theorem One.below {W W':World} {b n:Nat} (h:One W b n) (k:Below W.heap.size W W'):One W' b n :=
 ⟨(k.cell (p:=⟨b,0,none⟩) h.lt).trans h.1,(k.frozen (p:=⟨b,0,none⟩) h.lt).trans h.2⟩
theorem cell_set (W:World) (a c:Addr) (v u:Value) (h:W.cell? c=some u):(W.setCell a v).cell? c=if a=c then some v else some u:=by
 split
 · rename_i e;subst e;exact World.cell?_setCell_same _ _ _ h
 rename_i e;rw[World.cell?_setCell_other _ _ _ _ e];exact h
def ArrF (W:World) (b:Nat) (f:Nat→Int):Prop:=∀ j,j<8→W.cell? ⟨b,j,none⟩=some (.int .i64 (f j))∧W.frozen? ⟨b,j,none⟩=false
theorem Arr.f {W:World} {b:Nat} {l:List Nat} (h:Arr W b l):ArrF W b (fun j=>((l.getD j 0:Nat):Int)):=h
theorem ArrF.set {W:World} {b:Nat} {f:Nat→Int} (h:ArrF W b f) (k:Nat) (v:Int):ArrF (W.setCell ⟨b,k,none⟩ (.int .i64 v)) b (fun j=>if k=j then v else f j):=fun j hj=>by
 obtain ⟨h1,h2⟩:=h j hj;refine ⟨?_,by rw[World.frozen?_setCell];exact h2⟩;rw[cell_set _ _ _ _ _ h1];by_cases e:k=j
 · subst e;simp
 rw[if_neg (fun h=>e (by injection h))];simp only[if_neg e]
theorem ArrF.other {W:World} {b:Nat} {f:Nat→Int} (h:ArrF W b f) (a:Addr) (v:Value) (ha:a.block≠b):ArrF (W.setCell a v) b f:=fun j hj=>by
 obtain ⟨h1,h2⟩:=h j hj;refine ⟨?_,by rw[World.frozen?_setCell];exact h2⟩;rw[cell_set _ _ _ _ _ h1,if_neg (by intro e;subst e;exact ha rfl)]
theorem Arr.of {W:World} {b:Nat} {f:Nat→Int} {l:List Nat} (h:ArrF W b f) (e:∀ j,j<8→f j=((l.getD j 0:Nat):Int)):Arr W b l:=fun j hj=>by
 rw[← e j hj];exact h j hj
theorem One.set {W:World} {b n:Nat} (h:One W b n) (m:Nat):One (W.setCell ⟨b,0,none⟩ (.int .i64 (m:Int))) b m :=
 ⟨World.cell?_setCell_same _ _ _ h.1,by rw[World.frozen?_setCell];exact h.2⟩
theorem One.other {W:World} {b n:Nat} (h:One W b n) (a:Addr) (v:Value) (ha:a.block≠b):One (W.setCell a v) b n :=
 ⟨by rw[cell_set _ _ _ _ _ h.1,if_neg (by intro e;subst e;exact ha rfl)],by rw[World.frozen?_setCell];exact h.2⟩
def put8 (W:World) (b:Nat) (v0 v1 v2 v3 v4 v5 v6 v7:Int):World :=
 (((((((W.setCell ⟨b,0,none⟩ (.int .i64 v0)).setCell ⟨b,1,none⟩ (.int .i64 v1)).setCell ⟨b,2,none⟩ (.int .i64 v2)).setCell ⟨b,3,none⟩ (.int .i64 v3)).setCell ⟨b,4,none⟩ (.int .i64 v4)).setCell ⟨b,5,none⟩ (.int .i64 v5)).setCell ⟨b,6,none⟩ (.int .i64 v6)).setCell ⟨b,7,none⟩ (.int .i64 v7)
theorem put8_arr {W:World} {b:Nat} {f:Nat→Int} (h:ArrF W b f) (v0 v1 v2 v3 v4 v5 v6 v7:Int) (l:List Nat)
  (e:((l.getD 0 0:Nat):Int)=v0∧((l.getD 1 0:Nat):Int)=v1∧((l.getD 2 0:Nat):Int)=v2∧((l.getD 3 0:Nat):Int)=v3∧((l.getD 4 0:Nat):Int)=v4∧((l.getD 5 0:Nat):Int)=v5∧((l.getD 6 0:Nat):Int)=v6∧((l.getD 7 0:Nat):Int)=v7):Arr (put8 W b v0 v1 v2 v3 v4 v5 v6 v7) b l:=by
 refine Arr.of ((((((((h.set 0 v0).set 1 v1).set 2 v2).set 3 v3).set 4 v4).set 5 v5).set 6 v6).set 7 v7) fun j hj=>?_;obtain ⟨e0,e1,e2,e3,e4,e5,e6,e7⟩:=e;match j,hj with
 | 0,_=>simp only[e0];rfl
 | 1,_=>simp only[e1];rfl
 | 2,_=>simp only[e2];rfl
 | 3,_=>simp only[e3];rfl
 | 4,_=>simp only[e4];rfl
 | 5,_=>simp only[e5];rfl
 | 6,_=>simp only[e6];rfl
 | 7,_=>simp only[e7];rfl
theorem put8_one {W:World} {b c n:Nat} (h:One W c n) (hc:b≠c) (v0 v1 v2 v3 v4 v5 v6 v7:Int):One (put8 W b v0 v1 v2 v3 v4 v5 v6 v7) c n :=
 (((((((h.other _ _ hc).other _ _ hc).other _ _ hc).other _ _ hc).other _ _ hc).other _ _ hc).other _ _ hc).other _ _ hc
theorem put8_keeps (W:World) (b:Nat) (v0 v1 v2 v3 v4 v5 v6 v7:Int):KeepsOthers W (put8 W b v0 v1 v2 v3 v4 v5 v6 v7) :=
 (((((((KeepsOthers.setCell _ _ _).trans (KeepsOthers.setCell _ _ _)).trans (KeepsOthers.setCell _ _ _)).trans (KeepsOthers.setCell _ _ _)).trans (KeepsOthers.setCell _ _ _)).trans (KeepsOthers.setCell _ _ _)).trans (KeepsOthers.setCell _ _ _)).trans (KeepsOthers.setCell _ _ _)
theorem put8_below {w W:World} {b:Nat} (h:Below w.heap.size w W) (hb:w.heap.size≤b) (v0 v1 v2 v3 v4 v5 v6 v7:Int):Below w.heap.size w (put8 W b v0 v1 v2 v3 v4 v5 v6 v7) :=
 bset (bset (bset (bset (bset (bset (bset (bset h hb _) hb _) hb _) hb _) hb _) hb _) hb _) hb _
theorem Arr.put {W:World} {b D:Nat} {l:List Nat} (h:Arr W b l) (hK:W.heap[D]?=some (.deferred (some []))):Arr (W.putObj D (.deferred none)) b l:=fun j hj =>
 ⟨cell_kept (h j hj).1 (grownBy_putObj' _ D (.deferred none)) (fun r e=>by cases e;exact ⟨_,hK,rfl⟩),(frozen_kept (h j hj).1 (grownBy_putObj' _ D (.deferred none)) (fun r e=>by cases e;exact ⟨_,hK,rfl⟩)).trans (h j hj).2⟩
theorem One.put {W:World} {b D n:Nat} (h:One W b n) (hK:W.heap[D]?=some (.deferred (some []))):One (W.putObj D (.deferred none)) b n :=
 ⟨cell_kept h.1 (grownBy_putObj' _ D (.deferred none)) (fun r e=>by cases e;exact ⟨_,hK,rfl⟩),(frozen_kept h.1 (grownBy_putObj' _ D (.deferred none)) (fun r e=>by cases e;exact ⟨_,hK,rfl⟩)).trans h.2⟩
theorem drew_heap {W:World} {D:Nat} {o:Option Obj} (h:W.heap[D]?=o):W.drew.heap[D]?=o:=h
theorem Arr.drew {W:World} {b:Nat} {l:List Nat} (h:Arr W b l):Arr W.drew b l:=h.below (Below.drew (Below.refl _ _))
theorem One.drew {W:World} {b n:Nat} (h:One W b n):One W.drew b n:=h.below (Below.drew (Below.refl _ _))
def parse (p:List UInt8):List Nat:=if (∀ x ∈ ys (figs p),x≠0)∧(ys (figs p)).length≤8∧(ys (figs p)).getD 0 0=1 then ys (figs p) else []
def arr8 (l:List Nat):Value:=.agg #[.int .i64 (l.getD 0 0:Nat),.int .i64 (l.getD 1 0:Nat),.int .i64 (l.getD 2 0:Nat),.int .i64 (l.getD 3 0:Nat),.int .i64 (l.getD 4 0:Nat),.int .i64 (l.getD 5 0:Nat),.int .i64 (l.getD 6 0:Nat),.int .i64 (l.getD 7 0:Nat)]
def zeros:Array Value:=#[.int .i64 0,.int .i64 0,.int .i64 0,.int .i64 0,.int .i64 0,.int .i64 0,.int .i64 0,.int .i64 0]
theorem Arr.new (w:World) (t:TypeId) (b:Nat) (hb:b=w.heap.size):Arr (w.alloc (.cells zeros t)) b []:=by
 subst hb;intro j hj;refine ⟨?_,World.frozen?_alloc_at _ _ _ _ (by simp)⟩;rw[World.cell?_alloc_new];match j,hj with
 | 0,_ | 1,_ | 2,_ | 3,_ | 4,_ | 5,_ | 6,_ | 7,_=>rfl
theorem box_new (w:World) (v:Value) (t:TypeId) (b:Nat) (hb:b=w.heap.size):(w.alloc (.cells #[v] t)).cell? ⟨b,0,none⟩=some v:=by
 subst hb;rw[World.cell?_alloc_new];rfl
theorem One.new (w:World) (t:TypeId) (b:Nat) (hb:b=w.heap.size):One (w.alloc (.cells #[.int .i64 0] t)) b 0:=by
 subst hb;exact ⟨by rw[World.cell?_alloc_new];rfl,World.frozen?_alloc_at _ _ _ _ (by simp)⟩
theorem split_in (p:List UInt8) (w:World) (hp:p.length≤1099511627776) :
  CallsIn Fence.wide 10 Tryz.prog 182 #[p] w fun e w'=>e=.returned (.tuple #[arr8 (parse p),.int .i64 ((parse p).length:Nat)])∧Below w.heap.size w w':=by
 refine callsIn_of_wp_marks Tryz.func182 rfl trivial ?_ rfl;simp only[Tryz.ntmps182,List.size_toArray,List.length_cons,List.length_nil,Nat.reduceAdd,Nat.reduceSub,Array.replicate_succ,Array.replicate_zero,List.push_toArray,List.append_toArray,List.nil_append,List.cons_append];gi_wp2_with fail
 refine ⟨trivial,(callsIn_wide.2 (numbers_w p _)).mono ?_⟩;rintro e w1 ⟨rfl,rfl⟩;gi_wp2_with fail
 obtain ⟨W0,hW0⟩:∃ W0,(((w.alloc (.cells zeros 244)).alloc (.cells #[.int .i64 0] 3)).alloc (.cells zeros 244)).alloc (.cells #[p] 9)=W0:=⟨_,rfl⟩
 have hB0:Below w.heap.size w W0:=by rw[← hW0];exact balloc (balloc (balloc (balloc (Below.refl _ _) _) _) _) _
 have hA0:Arr W0 w.heap.size []:=by
  rw[← hW0];exact (((Arr.new w 244 _ rfl).below (balloc (Below.refl _ _) _)).below (balloc (Below.refl _ _) _)).below (balloc (Below.refl _ _) _)
 have hD0:One W0 (w.heap.size+1) 0:=by
  rw[← hW0];exact ((One.new _ 3 _ (by simp)).below (balloc (Below.refl _ _) _)).below (balloc (Below.refl _ _) _)
 have hN0:Arr W0 (w.heap.size+1+1) []:=by
  rw[← hW0];exact (Arr.new _ 244 _ (by simp)).below (balloc (Below.refl _ _) _)
 have hc0:W0.cell? ⟨w.heap.size+1+1+1,0,none⟩=some ↑p:=by rw[← hW0];exact box_new _ _ _ _ (by simp)
 have hs0:W0.heap.size=w.heap.size+1+1+1+1:=by rw[← hW0];simp
 unfold zeros at hW0;rw[hW0];clear hW0;refine wpIn_rangeFunc_ownF (α:=Nat) (encs:=fun x=>#[Value.int .i64 (x:Int)]) (Kp:=KeepsWalks) rfl (by decide) (gf:=261) (lb:=#[.pointer (some ⟨w.heap.size+1+1+1,0,none⟩)]) rfl trivial (enters_of Tryz.func261 (by kernel_rfl) rfl)
  (numbers_stops 9 (by decide) p hp (w.heap.size+1+1+1) W0 (by omega) hc0) walksK_t walksK_b (Below.refl _ _) (fun _=>rfl)
  (fun pre W=>(Arr W w.heap.size pre∧One W (w.heap.size+1) pre.length∧Arr W (w.heap.size+1+1) []∧(∀ x ∈ pre,x≠0)∧pre.length≤8)∧Below w.heap.size w W)
  (fun c pre W=>(c=.ret∧Arr W w.heap.size []∧One W (w.heap.size+1) 0∧(0 ∈ pre∨8<pre.length))∧Below w.heap.size w W)
  (OwnFrom.and (Own.from (fun s A B row hs hg hr=>⟨fun j hj=>⟨cell_kept (hs.1 j hj).1 hg hr,(frozen_kept (hs.1 j hj).1 hg hr).trans (hs.1 j hj).2⟩,⟨cell_kept hs.2.1.1 hg hr,(frozen_kept hs.2.1.1 hg hr).trans hs.2.1.2⟩,fun j hj=>⟨cell_kept (hs.2.2.1 j hj).1 hg hr,(frozen_kept (hs.2.2.1 j hj).1 hg hr).trans (hs.2.2.1 j hj).2⟩,hs.2.2.2⟩) _) (ownFrom_below (Nat.le_refl _) (by omega)))
  (fun c=>OwnFrom.and (Own.from (fun s A B row hs hg hr=>⟨hs.1,fun j hj=>⟨cell_kept (hs.2.1 j hj).1 hg hr,(frozen_kept (hs.2.1 j hj).1 hg hr).trans (hs.2.1 j hj).2⟩,⟨cell_kept hs.2.2.1.1 hg hr,(frozen_kept hs.2.2.1.1 hg hr).trans hs.2.2.1.2⟩,hs.2.2.2⟩) _) (ownFrom_below (Nat.le_refl _) (by omega)))
  ⟨⟨hA0,hD0,hN0,by simp,by simp⟩,hB0⟩
  (fun x=>{ tmps:=#[p,undef,.pointer (some ⟨w.heap.size,0,none⟩),.pointer (some ⟨w.heap.size+1,0,none⟩),.pointer (some ⟨w.heap.size+1+1,0,none⟩),.int .i64 (x:Int),p,.func (.func 261) #[] #[.pointer (some ⟨w.heap.size+1+1+1,0,none⟩)],.int .i64 (x:Int),undef,undef,undef,undef,undef,undef,undef,undef,undef,undef,undef,undef,undef,undef,undef,undef,undef,undef],defers:=[] }) ?assign ?body ?done ?stop
 case assign =>
  intro l x W K hK;gi_wp2;exact hK
 case body =>
  rintro l pre x W ⟨⟨hA,hD,hN,hne,hlen⟩,hB⟩ _;have qA:=hA.lt;have qD:=hD.lt;have qN:=hN.lt;have n0:W.cell? ⟨w.heap.size+1+1,0,none⟩=some (.int .i64 0):=(hN 0 (by decide)).1;have fa0:=(hA 0 (by decide)).2;have n1:W.cell? ⟨w.heap.size+1+1,1,none⟩=some (.int .i64 0):=(hN 1 (by decide)).1;have fa1:=(hA 1 (by decide)).2;have n2:W.cell? ⟨w.heap.size+1+1,2,none⟩=some (.int .i64 0):=(hN 2 (by decide)).1;have fa2:=(hA 2 (by decide)).2;have n3:W.cell? ⟨w.heap.size+1+1,3,none⟩=some (.int .i64 0):=(hN 3 (by decide)).1;have fa3:=(hA 3 (by decide)).2;have n4:W.cell? ⟨w.heap.size+1+1,4,none⟩=some (.int .i64 0):=(hN 4 (by decide)).1;have fa4:=(hA 4 (by decide)).2;have n5:W.cell? ⟨w.heap.size+1+1,5,none⟩=some (.int .i64 0):=(hN 5 (by decide)).1;have fa5:=(hA 5 (by decide)).2;have n6:W.cell? ⟨w.heap.size+1+1,6,none⟩=some (.int .i64 0):=(hN 6 (by decide)).1;have fa6:=(hA 6 (by decide)).2;have n7:W.cell? ⟨w.heap.size+1+1,7,none⟩=some (.int .i64 0):=(hN 7 (by decide)).1;have fa7:=(hA 7 (by decide)).2;have ca0:=(hA 0 (by decide)).1;have ca1:=(hA 1 (by decide)).1;have ca2:=(hA 2 (by decide)).1;have ca3:=(hA 3 (by decide)).1;have ca4:=(hA 4 (by decide)).1;have ca5:=(hA 5 (by decide)).1;have ca6:=(hA 6 (by decide)).1;have ca7:=(hA 7 (by decide)).1;obtain ⟨hd1,hd2⟩:=id hD;by_cases hx:x=0
  ·have hb0:((x:Int) == 0)=true:=bT;gi_wp2;change ownPostK _ _ _ _ _ _ _ ((put8 W w.heap.size 0 0 0 0 0 0 0 0).setCell ⟨w.heap.size+1,0,none⟩ (.int .i64 0));have hz:=put8_arr hA.f 0 0 0 0 0 0 0 0 [] (by simp);have ho:=put8_one hD (b:=w.heap.size) (by omega) 0 0 0 0 0 0 0 0;exact ⟨(put8_keeps _ _ _ _ _ _ _ _ _ _).trans (KeepsOthers.setCell _ _ _),⟨rfl,Arr.of (hz.f.other _ _ (by simp)) (fun _ _=>rfl),ho.set 0,.inl (by simp[hx])⟩,bset (put8_below hB (Nat.le_refl _) _ _ _ _ _ _ _ _) (by simp) _⟩
  have hb0:=bF (a:=x) (b:=0);by_cases h8:pre.length=8
  ·have hb8:((pre.length:Int) == 8)=true:=bT;gi_wp2;change ownPostK _ _ _ _ _ _ _ ((put8 W w.heap.size 0 0 0 0 0 0 0 0).setCell ⟨w.heap.size+1,0,none⟩ (.int .i64 0));have hz:=put8_arr hA.f 0 0 0 0 0 0 0 0 [] (by simp);have ho:=put8_one hD (b:=w.heap.size) (by omega) 0 0 0 0 0 0 0 0;exact ⟨(put8_keeps _ _ _ _ _ _ _ _ _ _).trans (KeepsOthers.setCell _ _ _),⟨rfl,Arr.of (hz.f.other _ _ (by simp)) (fun _ _=>rfl),ho.set 0,.inr (by simp;omega)⟩,bset (put8_below hB (Nat.le_refl _) _ _ _ _ _ _ _ _) (by simp) _⟩
  have hb8:((pre.length:Int) == 8)=false:=bF;have hk0:(0:Int)≤(pre.length:Int):=by omega
  have hk8:(pre.length:Int)<8:=by omega
  have hw:IntKind.i64.wrap ((pre.length:Int)+1)=(pre.length:Int)+1:=by rw[IntKind.wrap_i64];omega
  have ca:=(hA pre.length (by omega)).1;have fa:=(hA pre.length (by omega)).2;gi_wp2;refine ⟨(KeepsOthers.setCell _ _ _).trans (KeepsOthers.setCell _ _ _),((KeepsOthers.setCell _ _ _).trans (KeepsOthers.setCell _ _ _)).walks,⟨?_,?_,?_,?_,?_⟩,bset (bset hB (by simp) _) (by simp) _⟩
  ·refine Arr.of ((hA.f.set pre.length (x:Int)).other _ _ (by simp)) fun j hj=>?_;by_cases e:pre.length=j
   · subst e;simp
   simp only[if_neg e];by_cases e2:j<pre.length
   · rw[List.getD_eq_getElem?_getD,List.getD_eq_getElem?_getD,List.getElem?_append_left e2]
   rw[List.getD_eq_getElem?_getD,List.getD_eq_getElem?_getD,List.getElem?_eq_none (by omega),List.getElem?_eq_none (by simp;omega)]
  ·have:=(hD.other ⟨w.heap.size,pre.length,none⟩ (.int .i64 (x:Int)) (by simp)).set (pre++[x]).length;simpa using this
  · exact Arr.of ((hN.f.other _ _ (by simp;omega)).other _ _ (by simp)) (fun _ _=>rfl)
  ·intro y hy;rcases List.mem_append.1 hy with h | h
   · exact hne y h
   simp at h;rw[h];exact hx
  simp;omega
 case done =>
  rintro D xs W hD hxs ⟨⟨hA,hDp,hN,hne,hlen⟩,hB⟩ hK;have qA:=hA.lt;have qD:=hDp.lt;have qN:=hN.lt;obtain ⟨hd1,hd2⟩:=id hDp;obtain ⟨x0,ex0⟩:=nm (xs.getD 0 0:Nat);have cx0:=(hA 0 (by decide)).1;have fx0:=(hA 0 (by decide)).2;rw[← ex0] at cx0;obtain ⟨x1,ex1⟩:=nm (xs.getD 1 0:Nat);have cx1:=(hA 1 (by decide)).1;have fx1:=(hA 1 (by decide)).2;rw[← ex1] at cx1;obtain ⟨x2,ex2⟩:=nm (xs.getD 2 0:Nat);have cx2:=(hA 2 (by decide)).1;have fx2:=(hA 2 (by decide)).2;rw[← ex2] at cx2;obtain ⟨x3,ex3⟩:=nm (xs.getD 3 0:Nat);have cx3:=(hA 3 (by decide)).1;have fx3:=(hA 3 (by decide)).2;rw[← ex3] at cx3;obtain ⟨x4,ex4⟩:=nm (xs.getD 4 0:Nat);have cx4:=(hA 4 (by decide)).1;have fx4:=(hA 4 (by decide)).2;rw[← ex4] at cx4;obtain ⟨x5,ex5⟩:=nm (xs.getD 5 0:Nat);have cx5:=(hA 5 (by decide)).1;have fx5:=(hA 5 (by decide)).2;rw[← ex5] at cx5;obtain ⟨x6,ex6⟩:=nm (xs.getD 6 0:Nat);have cx6:=(hA 6 (by decide)).1;have fx6:=(hA 6 (by decide)).2;rw[← ex6] at cx6;obtain ⟨x7,ex7⟩:=nm (xs.getD 7 0:Nat);have cx7:=(hA 7 (by decide)).1;have fx7:=(hA 7 (by decide)).2;rw[← ex7] at cx7;have n0:W.cell? ⟨w.heap.size+1+1,0,none⟩=some (.int .i64 0):=(hN 0 (by decide)).1;have n1:W.cell? ⟨w.heap.size+1+1,1,none⟩=some (.int .i64 0):=(hN 1 (by decide)).1;have n2:W.cell? ⟨w.heap.size+1+1,2,none⟩=some (.int .i64 0):=(hN 2 (by decide)).1;have n3:W.cell? ⟨w.heap.size+1+1,3,none⟩=some (.int .i64 0):=(hN 3 (by decide)).1;have n4:W.cell? ⟨w.heap.size+1+1,4,none⟩=some (.int .i64 0):=(hN 4 (by decide)).1;have n5:W.cell? ⟨w.heap.size+1+1,5,none⟩=some (.int .i64 0):=(hN 5 (by decide)).1;have n6:W.cell? ⟨w.heap.size+1+1,6,none⟩=some (.int .i64 0):=(hN 6 (by decide)).1;have n7:W.cell? ⟨w.heap.size+1+1,7,none⟩=some (.int .i64 0):=(hN 7 (by decide)).1;have HEX:=hid (And.intro ex0 (And.intro ex1 (And.intro ex2 (And.intro ex3 (And.intro ex4 (And.intro ex5 (And.intro ex6 ex7)))))));have HXS:=hid hxs;clear ex0 ex1 ex2 ex3 ex4 ex5 ex6 ex7 hxs;by_cases h1:x0=1
  ·have hb1:((x0:Int) == 1)=true:=bT;obtain ⟨ex0,ex1,ex2,ex3,ex4,ex5,ex6,ex7⟩:=HEX.out;have hpar:parse p=xs:=by
    rw[parse,← HXS.out,if_pos ⟨hne,hlen,by rw[← ex0];exact h1⟩]
   have hz:=put8_arr hA.f 1 x1 x2 x3 x4 x5 x6 x7 xs (by rw[← ex0,ex1,ex2,ex3,ex4,ex5,ex6,ex7];simp[h1]);have ho:=put8_one hDp (b:=w.heap.size) (by omega) 1 x1 x2 x3 x4 x5 x6 x7;have hPAR:=hid hpar;clear ex0 ex1 ex2 ex3 ex4 ex5 ex6 ex7 hpar;gi_wp2;gi_region
   all_goals gi_wp2
   change bodyPostM _ _ _ _ _ _ _ (((put8 W w.heap.size 1 x1 x2 x3 x4 x5 x6 x7).setCell ⟨w.heap.size+1,0,none⟩ (.int .i64 (xs.length:Int))).drew);have hK2:(((put8 W w.heap.size 1 x1 x2 x3 x4 x5 x6 x7).setCell ⟨w.heap.size+1,0,none⟩ (.int .i64 (xs.length:Int))).drew).heap[D]?=some (.deferred (some [])):=drew_heap (((put8_keeps W w.heap.size 1 x1 x2 x3 x4 x5 x6 x7).trans (KeepsOthers.setCell _ _ _)).same D _ hK rfl);refine ⟨by simp,.inl ⟨_,_,rfl,run_takeDeferred hK2,?_⟩⟩;have hA9:Arr ((((put8 W w.heap.size 1 x1 x2 x3 x4 x5 x6 x7).setCell ⟨w.heap.size+1,0,none⟩ (.int .i64 (xs.length:Int))).drew).putObj D (.deferred none)) w.heap.size xs:=((Arr.of (hz.f.other ⟨w.heap.size+1,0,none⟩ (.int .i64 (xs.length:Int)) (by simp)) (fun _ _=>rfl)).drew).put hK2;have hD9:One ((((put8 W w.heap.size 1 x1 x2 x3 x4 x5 x6 x7).setCell ⟨w.heap.size+1,0,none⟩ (.int .i64 (xs.length:Int))).drew).putObj D (.deferred none)) (w.heap.size+1) xs.length:=Path.One.put (W:=((put8 W w.heap.size 1 x1 x2 x3 x4 x5 x6 x7).setCell ⟨w.heap.size+1,0,none⟩ (.int .i64 (xs.length:Int))).drew) (ho.set xs.length).drew hK2;have r0:=(hA9 0 (by decide)).1;have r1:=(hA9 1 (by decide)).1;have r2:=(hA9 2 (by decide)).1;have r3:=(hA9 3 (by decide)).1;have r4:=(hA9 4 (by decide)).1;have r5:=(hA9 5 (by decide)).1;have r6:=(hA9 6 (by decide)).1;have r7:=(hA9 7 (by decide)).1;have r8:=hD9.1;rw[hPAR.out];refine ⟨_,?_,rfl,(Below.drew (bset (put8_below hB (Nat.le_refl _) 1 x1 x2 x3 x4 x5 x6 x7) (by simp) _)).trans (belowK_b (w:=w) (Nat.le_refl _) _ D _ _ (by omega) hK2 rfl rfl)⟩;simp[results,Tryz.f182,go_sem,r0,r1,r2,r3,r4,r5,r6,r7,r8,arr8]
  have hb1:=bF (a:=x0) (b:=1);have hpar:parse p=[]:=by
   rw[parse,← HXS.out,if_neg (fun h=>h1 (by rw[HEX.out.1];exact h.2.2))]
  have hPAR:=hid hpar;have hz:=put8_arr hA.f 0 0 0 0 0 0 0 0 [] (by simp);have ho:=put8_one hDp (b:=w.heap.size) (by omega) 0 0 0 0 0 0 0 0;clear hpar;gi_wp2;change bodyPostM _ _ _ _ _ _ _ ((put8 W w.heap.size 0 0 0 0 0 0 0 0).setCell ⟨w.heap.size+1,0,none⟩ (.int .i64 0));have hK2:((put8 W w.heap.size 0 0 0 0 0 0 0 0).setCell ⟨w.heap.size+1,0,none⟩ (.int .i64 0)).heap[D]?=some (.deferred (some [])):=((put8_keeps W w.heap.size 0 0 0 0 0 0 0 0).trans (KeepsOthers.setCell _ _ _)).same D _ hK rfl;refine ⟨by simp,.inl ⟨_,_,rfl,run_takeDeferred hK2,?_⟩⟩;have hA9:Arr (((put8 W w.heap.size 0 0 0 0 0 0 0 0).setCell ⟨w.heap.size+1,0,none⟩ (.int .i64 0)).putObj D (.deferred none)) w.heap.size []:=(Arr.of (hz.f.other ⟨w.heap.size+1,0,none⟩ (.int .i64 0) (by simp)) (fun _ _=>rfl)).put hK2;have hD9:One (((put8 W w.heap.size 0 0 0 0 0 0 0 0).setCell ⟨w.heap.size+1,0,none⟩ (.int .i64 0)).putObj D (.deferred none)) (w.heap.size+1) 0:=Path.One.put (W:=(put8 W w.heap.size 0 0 0 0 0 0 0 0).setCell ⟨w.heap.size+1,0,none⟩ (.int .i64 0)) (ho.set 0) hK2;have r0:=(hA9 0 (by decide)).1;have r1:=(hA9 1 (by decide)).1;have r2:=(hA9 2 (by decide)).1;have r3:=(hA9 3 (by decide)).1;have r4:=(hA9 4 (by decide)).1;have r5:=(hA9 5 (by decide)).1;have r6:=(hA9 6 (by decide)).1;have r7:=(hA9 7 (by decide)).1;have r8:=hD9.1;rw[hPAR.out];refine ⟨_,?_,rfl,(bset (put8_below hB (Nat.le_refl _) 0 0 0 0 0 0 0 0) (by simp) _).trans (belowK_b (w:=w) (Nat.le_refl _) _ D _ _ (by omega) hK2 rfl rfl)⟩;simp[results,Tryz.f182,go_sem,r0,r1,r2,r3,r4,r5,r6,r7,r8,arr8]
 case stop =>
  rintro D c pre W hD hpre ⟨⟨rfl,hA,hDp,hbad⟩,hB⟩ hK;have hpar:parse p=[]:=by
   rw[parse,if_neg];rintro ⟨h1,h2,_⟩;rcases hbad with h | h
   · exact h1 0 (hpre.2.subset h) rfl
   have:=hpre.2.length_le;omega
  gi_wp2;have hK2:(W).heap[D]?=some (.deferred (some [])):=hK;refine ⟨by simp,.inl ⟨_,_,rfl,run_takeDeferred hK2,?_⟩⟩;have hA9:Arr ((W).putObj D (.deferred none)) w.heap.size []:=(hA).put hK2;have hD9:One ((W).putObj D (.deferred none)) (w.heap.size+1) 0:=Path.One.put (W:=W) (hDp) hK2;have r0:=(hA9 0 (by decide)).1;have r1:=(hA9 1 (by decide)).1;have r2:=(hA9 2 (by decide)).1;have r3:=(hA9 3 (by decide)).1;have r4:=(hA9 4 (by decide)).1;have r5:=(hA9 5 (by decide)).1;have r6:=(hA9 6 (by decide)).1;have r7:=(hA9 7 (by decide)).1;have r8:=hD9.1;rw[hpar];refine ⟨_,?_,rfl,(hB).trans (belowK_b (w:=w) (Nat.le_refl _) _ D _ _ (by omega) hK2 rfl rfl)⟩;simp[results,Tryz.f182,go_sem,r0,r1,r2,r3,r4,r5,r6,r7,r8,arr8]
end Path
namespace Path
open RowKit
theorem split_any (p:List UInt8) (w:World) (hp:p.length≤1099511627776) :
  CB 182 #[p] w (.tuple #[arr8 (parse p),.int .i64 ((parse p).length:Nat)]) :=
 callsIn_wide.1 (split_in p w hp)
theorem ys_le:∀ l,∀ x ∈ ys l,x≤1073741824
 | [],x,h=>by simp[ys] at h
 | f::r,x,h=>by
  unfold ys at h;rcases List.mem_cons.1 h with h | h
  · rw[h];exact num1_le f
  split at h
  · cases h
  exact ys_le r x h
theorem parse_length (p:List UInt8):(parse p).length≤8:=by
 unfold parse;split
 · rename_i h;exact h.2.1
 simp
theorem parse_mem (p:List UInt8):∀ x ∈ parse p,1≤x∧x≤1073741824:=by
 intro x hx;unfold parse at hx;split at hx
 · rename_i h;exact ⟨by have:=h.1 x hx;omega,ys_le _ x hx⟩
 cases hx
theorem deep_any (p:List UInt8) (w:World) (hp:p.length≤1099511627776) :
  CB 181 #[p] w (.int .i64 ((parse p).length:Nat)):=by
 have C:=hid (fun w=>split_any p w hp);go_enter Tryz.func181,Tryz.ntmps181;go_wp2_with fail
 refine cr (C.out _) fun w1 hb=>?_;unfold arr8;go_wp2;go_ret;exact ⟨rfl,balloc hb _⟩
theorem may_any (p:List UInt8) (w:World) (hp:p.length≤1099511627776) :
  CB 119 #[p] w (decide (0<(parse p).length)):=by
 have C:=hid (fun w=>deep_any p w hp);go_enter Tryz.func119,Tryz.ntmps119;go_wp2_with fail
 refine cr (C.out _) fun w1 hb=>?_;go_wp2;go_ret;exact ⟨congrArg (fun b=>Ending.returned (.bool b)) (by rw[Bool.eq_iff_iff]),hb⟩
def last (l:List Nat):Nat:=if l.length<2 then 0 else l.getD (l.length - 1) 0
theorem numberOf_any (p:List UInt8) (w:World) (hp:p.length≤1099511627776) :
  CB 122 #[p] w (.int .i64 ((last (parse p):Nat):Int)):=by
 have C:=hid (fun w=>split_any p w hp);have h8:=parse_length p;obtain ⟨l,hl⟩:=nm (parse p);rw[← hl] at C h8 ⊢;clear hl;by_cases h2:l.length<2
 ·have hd:decide ((l.length:Int)<2)=true:=dT;have hv:=hid (show last l=0 by rw[last,if_pos h2]);go_enter Tryz.func122,Tryz.ntmps122;go_wp2_with fail
  refine cr (C.out _) fun w1 hb=>?_;unfold arr8;go_wp2;go_ret;exact ⟨by rw[hv.out];rfl,balloc hb _⟩
 have hd:=dF (p:=(l.length:Int)<2);have hv:=hid (show last l=l.getD (l.length - 1) 0 by rw[last,if_neg h2]);obtain ⟨k,hk⟩:=nm (l.length - 1);have hw:IntKind.i64.wrap ((l.length:Int) - 1)=(k:Int):=by rw[IntKind.wrap_i64];omega
 have hk0:(0:Int)≤(k:Int):=by omega
 have hk8:(k:Int)<8:=by omega
 have hk9:k<8:=by omega
 have hget:∀ (W:World) (b:Nat),b=W.heap.size→(W.alloc (.cells #[.int .i64 (l.getD 0 0:Nat),.int .i64 (l.getD 1 0:Nat),.int .i64 (l.getD 2 0:Nat),.int .i64 (l.getD 3 0:Nat),.int .i64 (l.getD 4 0:Nat),.int .i64 (l.getD 5 0:Nat),.int .i64 (l.getD 6 0:Nat),.int .i64 (l.getD 7 0:Nat)] 244)).cell? ⟨b,k,none⟩=some (.int .i64 ((l.getD k 0:Nat):Int)):=by
  intro W b hb;subst hb;rw[World.cell?_alloc_new];match k,hk9 with
  | 0,_ | 1,_ | 2,_ | 3,_ | 4,_ | 5,_ | 6,_ | 7,_=>rfl
 have HG:=hid hget;clear hget;go_enter Tryz.func122,Tryz.ntmps122;go_wp2_with fail
 refine cr (C.out _) fun w1 hb=>?_;have hg:=HG.out w1 _ rfl;unfold arr8;generalize hy:l.getD k 0=y at hg;have HY:=hid hy;clear hy;generalize l.getD 0 0=x0 at hg ⊢;generalize l.getD 1 0=x1 at hg ⊢;generalize l.getD 2 0=x2 at hg ⊢;generalize l.getD 3 0=x3 at hg ⊢;generalize l.getD 4 0=x4 at hg ⊢;generalize l.getD 5 0=x5 at hg ⊢;generalize l.getD 6 0=x6 at hg ⊢;generalize l.getD 7 0=x7 at hg ⊢;have hk':=hid hk;clear hk;go_wp2;go_ret;exact ⟨by rw[hv.out,← hk'.out,HY.out];rfl,balloc hb _⟩
end Path
end Go.Proofs.YtnpjkmomllkhpaaGreatDoor
