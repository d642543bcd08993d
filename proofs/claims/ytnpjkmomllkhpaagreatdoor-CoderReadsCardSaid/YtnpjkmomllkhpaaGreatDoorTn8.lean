/- DotTidy, Vec. -/
import Derived.Test.YtnpjkmomllkhpaaGreatDoorTn7
import Derived.Test.YtnpjkmomllkhpaaGreatDoorTn5
import Derived.Laws.IdiomStrings
set_option linter.unusedVariables false
set_option linter.unusedSimpArgs false
set_option maxRecDepth 100000
set_option maxHeartbeats 2000000
namespace Go.Proofs.YtnpjkmomllkhpaaGreatDoor
namespace Mark
open RowKit
theorem Lies.at {w:World} {b off n:Nat} {L:List M} (h:Lies w (some ⟨b,off,none⟩) n L):∀ j u,(flat L)[j]?=some u→w.cell? ((⟨b,off,none⟩:Addr).add j)=some u:=by
 intro j u hu;have hj:j<L.length*2:=by rw[← flat_length];exact (List.getElem?_eq_some_iff.1 hu).1
 obtain ⟨b',off',e,hc⟩:=h.2 (by rw[h.1];omega);simp only[Option.some.injEq,Addr.mk.injEq,and_true] at e;obtain ⟨rfl,rfl⟩:=e;rw[Go.WideShapes.add_plain];have hg:=flat_get L (j / 2) (by omega);obtain ⟨c1,c2⟩:=hc (j / 2) (by omega);have h2:j % 2=0∨j % 2=1:=by omega
 rcases h2 with h2 | h2
 ·rw[show j / 2*2=j by omega,hu] at hg;rw[show off+j / 2*2=off+j by omega] at c1;rw[c1,hg.1]
 rw[show j / 2*2+1=j by omega,hu] at hg;rw[show off+j / 2*2+1=off+j by omega] at c2;rw[c2,hg.2]
theorem clone_any (L:List M) (a:Option Addr) (n c:Nat) (w:World) (hL:Lies w a n L) (hn:n≤1099511627776) :
  Calls Tryz.prog 228 #[.slice a n c] w fun e w'=>∃ v',e=.returned v'∧Own w' w.heap.size v' L∧Below w.heap.size w w':=by
 obtain ⟨i0,hi,hz0,hz1,hz2⟩:=info_parts info_mark;have h0:=Below.refl w.heap.size w;cases a with
 | none =>
  have heq:∀ w,(binOp .eql 22 (.slice none n c) (.slice none 0 0)).run Tryz.prog w=.ok (.bool true) w:=fun w=>Lib.run_eql_slice_nil (P:=Tryz.prog) w 22 96 none n c 0 0 Tryz.underlying22;have hn0:n=0:=by
   rcases Nat.eq_zero_or_pos n with h | h
   · exact h
   obtain ⟨_,_,e,_⟩:=hL.2 h;cases e
  have hl0:L=[]:=List.length_eq_zero_iff.1 (by rw[← hL.1];exact hn0);subst hl0;subst hn0;clear hL;go_enter Tryz.func228,Tryz.ntmps228;go_wp2;go_ret;exact ⟨_,rfl,Own.nil _ _,h0⟩
 | some q =>
  have heq:∀ w,(binOp .eql 22 (.slice (some q) n c) (.slice none 0 0)).run Tryz.prog w=.ok (.bool false) w:=fun w=>Lib.run_eql_slice_nil (P:=Tryz.prog) w 22 96 (some q) n c 0 0 Tryz.underlying22;have hnl:=hL.1;have hown:∀ o,o=Obj.cells #[] 96→(w.alloc o).ownsRow w.heap.size 96 2 (.slice (some ⟨w.heap.size,0,none⟩) 0 0) 0 []:=fun o ho=>by
   rw[ho];exact World.ownsRow_lit w #[] 0 (Nat.le_refl _) (by decide) rfl
  have hnews:∀ o j u,(flat L)[j]?=some u→(w.alloc o).cell? (q.add j)=some u:=fun o j u hu=>by
   have hj:j<L.length*2:=by rw[← flat_length];exact (List.getElem?_eq_some_iff.1 hu).1
   obtain ⟨b,off,e,_⟩:=hL.2 (by omega);obtain rfl:q=⟨b,off,none⟩:=Option.some.inj e;exact Lib.cell?_alloc_some o (hL.at j u hu)
  have HN:=hid hnews;have HO:=hid hown;have HNL:=hid hnl;have hfl:=flat_length L;rw[← hnl] at hfl;have HF:=hid hfl;clear hL hnl hnews hown hfl;go_enter Tryz.func228,Tryz.ntmps228;go_wp2_with (at_builtin;refine wpList_append_own _ rfl _ _ 22 rfl w.heap.size 96 i0 (.agg #[.string ⟨#[]⟩,.int .u64 0]) 2 24 Tryz.underlying22 hi hz0 hz1 hz2 rfl (by decide) _ _ _ rfl (HO.out _ rfl) q n c (flat L) rfl HF.out (HN.out _) (flat_one L) (by unfold maxLen;omega) (by omega) (by simp) ?_;intro v' w1 hown' hgrow _)
  go_ret;refine ⟨_,rfl,?_,Below.grown (balloc h0 _) hgrow (by simp) (fun k hk=>by cases hk;exact Nat.le_refl _)⟩;rw[Nat.zero_add,List.nil_append,HNL.out] at hown';exact hown'
end Mark
namespace Dots
open RowKit YtnpjkmomllkhpaaGreatDoor.Mark
def nought (m:M):Bool:=decide (m.p=[]∨m.n=0)
def alike (a b:M):Bool:=decide (a.p=b.p)
def cmpI (x y:Nat):Int:=if x<y then -1 else if y<x then 1 else 0
def cf (a b:M):Int:=if Lib.compareBytes a.p b.p≠0 then Lib.compareBytes a.p b.p else cmpI b.n a.n
theorem nought_pred (B:Nat) (w:World):Pred 229 #[] nought B w:=by
 intro W m _;obtain ⟨p,n⟩:=m;have h0:=Below.refl W.heap.size W;rw[get_agg];simp only;by_cases h1:p=[]
 ·have HV:=hid (show nought ⟨p,n⟩=true by unfold nought;simp[h1]);subst h1;go_enter Tryz.func229,Tryz.ntmps229;go_wp2;go_ret;exact ⟨by rw[HV.out];rfl,balloc h0 _⟩
 have y1:p.isEmpty=false:=by cases p with | nil=>exact absurd rfl h1 | cons _ _=>rfl
 have y1':(!p.isEmpty)=true:=by rw[y1];rfl
 by_cases h2:n=0
 ·have HV:=hid (show nought ⟨p,n⟩=true by unfold nought;simp[h2]);have z:=bT (a:=n) (b:=0);clear h1 h2;go_enter Tryz.func229,Tryz.ntmps229;go_wp2;go_ret;exact ⟨by rw[HV.out];rfl,balloc h0 _⟩
 have HV:=hid (show nought ⟨p,n⟩=false by unfold nought;simp[h1,h2]);have z:=bF (a:=n) (b:=0);clear h1 h2;go_enter Tryz.func229,Tryz.ntmps229;go_wp2;go_ret;exact ⟨by rw[HV.out];rfl,balloc h0 _⟩
theorem alike_pred (B:Nat) (w:World):Pred2 233 #[] alike B w:=by
 intro W m k _;obtain ⟨p,n⟩:=m;obtain ⟨q,x⟩:=k;have h0:=Below.refl W.heap.size W;rw[get_agg,get_agg];simp only;by_cases h1:p=q
 ·have HV:=hid (show alike ⟨p,n⟩ ⟨q,x⟩=true by unfold alike;simp[h1]);subst h1;go_enter Tryz.func233,Tryz.ntmps233;go_wp2;go_ret;exact ⟨by rw[HV.out];rfl,balloc (balloc h0 _) _⟩
 have HV:=hid (show alike ⟨p,n⟩ ⟨q,x⟩=false by unfold alike;simp[h1]);have y:(p == q)=false:=by rw[beq_eq_false_iff_ne];exact h1
 clear h1;go_enter Tryz.func233,Tryz.ntmps233;go_wp2;go_ret;exact ⟨by rw[HV.out];rfl,balloc (balloc h0 _) _⟩
theorem nan_any (x:Nat) (w:World):CP 256 #[x] w (.bool false):=by
 have y:((x:Int) != (x:Int))=false:=by simp
 go_enter Tryz.func256,Tryz.ntmps256;go_wp2;go_ret;exact ⟨rfl,rfl⟩
theorem cmpU_any (x y:Nat) (w:World):CP 224 #[x,y] w (.int .i64 (cmpI x y)):=by
 have N:=hid nan_any;by_cases h1:x<y
 ·have HV:=hid (show cmpI x y = -1 by rw[cmpI,if_pos h1]);go_enter Tryz.func224,Tryz.ntmps224;go_wp2_with (go_at_call 256;refine (N.out _ _).mono ?_;rintro e w' ⟨rfl,rfl⟩)
  go_ret;exact ⟨by rw[HV.out];rfl,rfl⟩
 by_cases h2:y<x
 ·have HV:=hid (show cmpI x y=1 by rw[cmpI,if_neg h1,if_pos h2]);go_enter Tryz.func224,Tryz.ntmps224;go_wp2_with (go_at_call 256;refine (N.out _ _).mono ?_;rintro e w' ⟨rfl,rfl⟩)
  go_ret;exact ⟨by rw[HV.out];rfl,rfl⟩
 have HV:=hid (show cmpI x y=0 by rw[cmpI,if_neg h1,if_neg h2]);go_enter Tryz.func224,Tryz.ntmps224;go_wp2_with (go_at_call 256;refine (N.out _ _).mono ?_;rintro e w' ⟨rfl,rfl⟩)
 go_ret;exact ⟨by rw[HV.out];rfl,rfl⟩
def orV (x y:Int):Int:=if x≠0 then x else y
theorem or_any (x y:Int) (b:Nat) (w:World) (c0:w.cell? ⟨b,0,none⟩=some (.int .i64 x)) (c1:w.cell? ⟨b,1,none⟩=some (.int .i64 y)):CP 223 #[.slice (some ⟨b,0,none⟩) 2 2] w (.int .i64 (orV x y)):=by
 by_cases h1:x=0
 ·have z1:(x != 0)=false:=by rw[bne_eq_false_iff_eq];exact h1
  have z1':(x == 0)=true:=by rw[beq_iff_eq];exact h1
  have HV:=hid (show orV x y=y by rw[orV,if_neg (by simpa using h1)]);by_cases h2:y=0
  ·have z2:(y != 0)=false:=by rw[bne_eq_false_iff_eq];exact h2
   have z2':(y == 0)=true:=by rw[beq_iff_eq];exact h2
   have HY:=hid h2;clear h1 h2;go_enter Tryz.func223,Tryz.ntmps223;go_wp2_with fail
   go_loop [5,8] (fun _ iv=>∃ k:Nat,k≤2∧iv=.int .i64 k) (fun _ iv=>2 - (intOf iv).toNat)
   case atStart=>exact ⟨0,by omega,rfl⟩
   obtain ⟨k,hk,rfl⟩:=hrel;have:k=0∨k=1∨k=2:=by omega
   rcases this with rfl | rfl | rfl
   ·go_wp2;go_round
    ·exact ⟨1,by omega,rfl⟩
    simp[intOf]
   ·go_wp2;go_round
    ·exact ⟨2,by omega,rfl⟩
    simp[intOf]
   go_wp2;go_ret;exact ⟨by rw[HV.out,HY.out];rfl,rfl⟩
  have z2:(y != 0)=true:=by rw[bne_iff_ne];exact h2
  have z2':(y == 0)=false:=by rw[beq_eq_false_iff_ne];exact h2
  clear h1 h2;go_enter Tryz.func223,Tryz.ntmps223;go_wp2_with fail
  go_loop [5,8] (fun _ iv=>∃ k:Nat,k≤1∧iv=.int .i64 k) (fun _ iv=>2 - (intOf iv).toNat)
  case atStart=>exact ⟨0,by omega,rfl⟩
  obtain ⟨k,hk,rfl⟩:=hrel;have:k=0∨k=1:=by omega
  rcases this with rfl | rfl
  ·go_wp2;go_round
   ·exact ⟨1,by omega,rfl⟩
   simp[intOf]
  go_wp2;go_ret;exact ⟨by rw[HV.out];rfl,rfl⟩
 have z1:(x != 0)=true:=by rw[bne_iff_ne];exact h1
 have z1':(x == 0)=false:=by rw[beq_eq_false_iff_ne];exact h1
 have HV:=hid (show orV x y=x by rw[orV,if_pos h1]);clear h1;go_enter Tryz.func223,Tryz.ntmps223;go_wp2_with fail
 go_loop [5,8] (fun _ iv=>iv=.int .i64 0) (fun _ iv=>2 - (intOf iv).toNat)
 case atStart=>exact rfl
 obtain rfl:=hrel;go_wp2;go_ret;exact ⟨by rw[HV.out];rfl,rfl⟩
theorem new_cell (W:World) (C:Array Value) (T:TypeId) (i b:Nat) (hb:b=W.heap.size):(W.alloc (.cells C T)).drew.cell? ⟨b,i,none⟩=C[i]?:=by
 subst hb;exact World.cell?_alloc_new ..
theorem cf_any (a b:M) (w:World):Calls Tryz.prog 231 #[.agg (a.cells).toArray,.agg (b.cells).toArray] w fun e w'=>e=.returned (.int .i64 (cf a b))∧∃ q os',w'=Sort.grow (w.drewN q) os':=by
 obtain ⟨p,n⟩:=a;obtain ⟨q,x⟩:=b;have S:=hid (fun w=>Tryz.strings_Compare ⟨p.toArray⟩ ⟨q.toArray⟩ w);have C:=hid (fun w=>cmpU_any x n w);have HV:Hid (cf ⟨p,n⟩ ⟨q,x⟩=orV (Lib.compareBytes p q) (cmpI x n)):=hid rfl;have c0:∀ T,((w.alloc (.cells #[p,n] T)).alloc (.cells #[q,x] T)).cell? ⟨w.heap.size,0,none⟩=some ↑p:=fun T=>Lib.cell?_alloc_some _ (by rw[World.cell?_alloc_new];rfl);have c1:∀ T,((w.alloc (.cells #[p,n] T)).alloc (.cells #[q,x] T)).cell? ⟨w.heap.size,1,none⟩=some ↑n:=fun T=>Lib.cell?_alloc_some _ (by rw[World.cell?_alloc_new];rfl);have c2:∀ T,((w.alloc (.cells #[p,n] T)).alloc (.cells #[q,x] T)).cell? ⟨w.heap.size+1,0,none⟩=some ↑q:=fun T=>by
  simp
 have c3:∀ T,((w.alloc (.cells #[p,n] T)).alloc (.cells #[q,x] T)).cell? ⟨w.heap.size+1,1,none⟩=some ↑x:=fun T=>by
  simp
 have HC:=hid (And.intro c0 (And.intro c1 (And.intro c2 c3)));clear c0 c1 c2 c3;obtain ⟨v,hv⟩:=nm (cmpI x n);rw[← hv] at C HV;clear hv;have OR:=hid (or_any (Lib.compareBytes p q) v);unfold M.cells;simp only;go_enter Tryz.func231,Tryz.ntmps231;go_wp2_with fail
 obtain ⟨c0,c1,c2,c3⟩:=HC.out;have c0:=c0 96;have c1:=c1 96;have c2:=c2 96;have c3:=c3 96;refine rhd (aj3 (aj2 c0 c1) c2 c3) fun gH=>?_;refine tk [0,1,2,3,5,6,7,8] ?_;refine tR 4 fun K hK=>?_;go_simp;go_at_call 183;refine cq (S.out _) ?_;go_wp2_with fail
 refine hK.out _ _ (gH) (fun gH=>?_);clear hK K;try simp only[Act.put,List.setIfInBounds_toArray,List.set_cons_zero,List.set_cons_succ]
 refine tR 9 fun K hK=>?_;go_simp;go_at_call 224;refine cp (C.out _) ?_;go_wp2_with fail
 refine hK.out _ _ (gH) (fun gH=>?_);clear hK K;try simp only[Act.put,List.setIfInBounds_toArray,List.set_cons_zero,List.set_cons_succ]
 refine tR 10 fun K hK=>?_;go_simp;refine hK.out _ _ (⟨⟨Lib.cell?_alloc_some _ gH.1.1,Lib.cell?_alloc_some _ gH.1.2⟩,Lib.cell?_alloc_some _ gH.2.1,Lib.cell?_alloc_some _ gH.2.2⟩) (fun gH=>?_);clear hK K;try simp only[Act.put,List.setIfInBounds_toArray,List.set_cons_zero,List.set_cons_succ]
 refine tR 11 fun K hK=>?_;go_simp;go_at_call 223;refine cp (OR.out _ _ (new_cell _ _ _ 0 _ (by simp)) (new_cell _ _ _ 1 _ (by simp))) ?_;go_wp2_with fail
 refine hK.out _ _ (gH) (fun gH=>?_);clear hK K;try simp only[Act.put,List.setIfInBounds_toArray,List.set_cons_zero,List.set_cons_succ]
 refine tk [12] ?_;refine tD ?_;go_wp2;go_ret;exact ⟨by rw[HV.out];rfl,1,_,by rw[Sort.alloc_eq_grow,Sort.alloc_eq_grow,Sort.alloc_eq_grow,Sort.grow_grow,Sort.grow_grow];rfl⟩
def Less (a b:M):Prop:=Lib.compareBytes a.p b.p<0
def Vec (R:List M):Prop:=R.Pairwise Less∧∀ m ∈ R,m.p≠[]∧1≤m.n
theorem less_irrefl (a:M):¬ Less a a:=by unfold Less;rw[Order.cmp_self];decide
theorem less_trans {a b c:M} (h:Less a b) (k:Less b c):Less a c:=by
 unfold Less at *;have h1:=Order.cmp_trans a.p b.p c.p (by omega) (by omega);rcases Order.cmp_ways a.p c.p with h2 | h2 | h2
 · omega
 ·have e:=Order.cmp_zero _ _ h2;rw[e,Order.cmp_flip] at h;omega
 omega
theorem fold_ge (f:M→Bool):∀ (L:List M) (a:Nat),a≤L.foldl (fun n m=>if f m then max n m.n else n) a
 | [],a=>Nat.le_refl _
 | m::L,a=>by
  rw[List.foldl_cons];refine Nat.le_trans ?_ (fold_ge f L _);split
  · exact Nat.le_max_left _ _
  exact Nat.le_refl _
theorem fold_mem (f:M→Bool):∀ (L:List M) (a:Nat) (m:M),m ∈ L→f m=true→m.n≤L.foldl (fun n m=>if f m then max n m.n else n) a
 | [],a,m,h,_=>by cases h
 | x::L,a,m,h,hf=>by
  rw[List.foldl_cons];rcases List.mem_cons.1 h with rfl | h
  ·refine Nat.le_trans ?_ (fold_ge f L _);rw[if_pos hf];exact Nat.le_max_right _ _
  exact fold_mem f L _ m h hf
theorem fold_ex (f:M→Bool):∀ (L:List M) (a:Nat),L.foldl (fun n m=>if f m then max n m.n else n) a=a∨∃ m ∈ L,f m=true∧m.n=L.foldl (fun n m=>if f m then max n m.n else n) a
 | [],a=>.inl rfl
 | x::L,a=>by
  rw[List.foldl_cons];rcases fold_ex f L (if f x then max a x.n else a) with h | ⟨m,hm,h1,h2⟩
  ·rw[h];split
   ·rename_i hf
    rcases Nat.le_total a x.n with h' | h'
    · exact .inr ⟨x,List.mem_cons_self ..,hf,(Nat.max_eq_right h').symm⟩
    exact .inl (Nat.max_eq_left h')
   exact .inl rfl
  exact .inr ⟨m,List.mem_cons_of_mem _ hm,h1,h2⟩
theorem isQ_iff (q:List UInt8) (m:M):isQ q m=true↔m.p=q∧q≠[]:=by unfold isQ;rw[decide_eq_true_eq]
theorem ofL_le (L:List M) (m:M) (h:m ∈ L) (hp:m.p≠[]):m.n≤ofL L m.p:=fold_mem _ L 0 m h ((isQ_iff _ _).2 ⟨rfl,hp⟩)
theorem ofL_ex (L:List M) (q:List UInt8):ofL L q=0∨∃ m ∈ L,m.p=q∧q≠[]∧m.n=ofL L q:=by
 rcases fold_ex (isQ q) L 0 with h | ⟨m,hm,h1,h2⟩
 · exact .inl h
 obtain ⟨e1,e2⟩:=(isQ_iff _ _).1 h1;exact .inr ⟨m,hm,e1,e2,h2⟩
theorem ofL_empty (L:List M):ofL L []=0:=by
 rcases ofL_ex L [] with h | ⟨m,_,_,h,_⟩
 · exact h
 exact absurd rfl h
theorem ofL_eq {L K:List M} (h1:∀ m ∈ L,m.p≠[]→1≤m.n→∃ k ∈ K,k.p=m.p∧m.n≤k.n) (h2:∀ k ∈ K,k.p≠[]→1≤k.n→∃ m ∈ L,m.p=k.p∧k.n≤m.n) (q:List UInt8):ofL L q=ofL K q:=by
 have key:∀ {L K:List M},(∀ m ∈ L,m.p≠[]→1≤m.n→∃ k ∈ K,k.p=m.p∧m.n≤k.n)→ofL L q≤ofL K q:=by
  intro L K h;rcases ofL_ex L q with e | ⟨m,hm,rfl,hp,he⟩
  · omega
  rcases Nat.eq_zero_or_pos m.n with h0 | h0
  · omega
  obtain ⟨k,hk,ek,hle⟩:=h m hm hp h0;have:=ofL_le K k hk (by rw[ek];exact hp);rw[ek] at this;omega
 exact Nat.le_antisymm (key h1) (key h2)
theorem vec_of {R:List M} (h:Vec R) {m:M} (hm:m ∈ R):ofL R m.p=m.n:=by
 obtain ⟨hp,hn⟩:=h.2 m hm;rcases ofL_ex R m.p with e | ⟨k,hk,e1,_,e2⟩
 · have:=ofL_le R m hm hp;omega
 have:k=m:=by
  obtain ⟨i,hi,rfl⟩:=List.mem_iff_getElem.1 hk;obtain ⟨j,hj,rfl⟩:=List.mem_iff_getElem.1 hm;have hs:=List.pairwise_iff_getElem.1 h.1;rcases Nat.lt_trichotomy i j with h' | h' | h'
  ·have:=hs i j hi hj h';unfold Less at this;rw[e1,Order.cmp_self] at this;omega
  · subst h';rfl
  have:=hs j i hj hi h';unfold Less at this;rw[e1,Order.cmp_self] at this;omega
 rw[this] at e2;exact e2.symm
def Le (a b:M):Prop:=Lib.compareBytes a.p b.p<0∨(a.p=b.p∧b.n≤a.n)
theorem le_trans {a b c:M} (h:Le a b) (k:Le b c):Le a c:=by
 rcases h with h | ⟨h,h'⟩
 ·rcases k with k | ⟨k,k'⟩
  · exact .inl (less_trans (a:=a) (b:=b) (c:=c) h k)
  rw[k] at h;exact .inl h
 rcases k with k | ⟨k,k'⟩
 · rw[← h] at k;exact .inl k
 exact .inr ⟨h.trans k,by omega⟩
theorem cf_le {a b:M} (h:¬ cf b a<0):Le a b:=by
 unfold cf at h;rcases Order.cmp_ways b.p a.p with e | e | e
 · rw[if_pos (by omega)] at h;omega
 ·have e2:=Order.cmp_zero _ _ e;rw[if_neg (by omega)] at h;refine .inr ⟨e2.symm,?_⟩;unfold cmpI at h;split at h
  · omega
  omega
 refine .inl ?_;rw[Order.cmp_flip];omega
theorem dgo_law:∀ (r:List M) (x:M),(x::r).Pairwise Le→(∀ y ∈ dgo alike x r,y ∈ r∧Less x y)∧(dgo alike x r).Pairwise Less∧∀ m ∈ r,(m.p=x.p∧m.n≤x.n)∨∃ y ∈ dgo alike x r,y.p=m.p∧m.n≤y.n
 | [],x,_=>⟨fun y h=>(by cases h),List.Pairwise.nil,fun m h=>(by cases h)⟩
 | y::r,x,h=>by
  rw[List.pairwise_cons] at h;obtain ⟨i1,i2,i3⟩:=dgo_law r y h.2;have hxy:=h.1 y (List.mem_cons_self ..);rw[dgo];by_cases ha:alike y x=true
  ·rw[if_pos ha];have e:y.p=x.p:=by unfold alike at ha;simpa using ha
   refine ⟨fun z hz=>⟨List.mem_cons_of_mem _ (i1 z hz).1,?_⟩,i2,fun m hm=>?_⟩
   · have:=(i1 z hz).2;unfold Less at *;rw[← e];exact this
   have hyx:y.n≤x.n:=by
    rcases hxy with h' | h'
    · rw[e,Order.cmp_self] at h';omega
    exact h'.2
   rcases List.mem_cons.1 hm with rfl | hm
   · exact .inl ⟨e,hyx⟩
   rcases i3 m hm with ⟨e1,e2⟩ | h'
   · exact .inl ⟨e1.trans e,by omega⟩
   exact .inr h'
  rw[if_neg ha];have ne:y.p≠x.p:=fun e=>ha (by unfold alike;simpa using e);have hl:Less x y:=by
   rcases hxy with h' | h'
   · exact h'
   exact absurd h'.1.symm ne
  refine ⟨fun z hz=>?_,?_,fun m hm=>?_⟩
  ·rcases List.mem_cons.1 hz with rfl | hz
   · exact ⟨List.mem_cons_self ..,hl⟩
   exact ⟨List.mem_cons_of_mem _ (i1 z hz).1,less_trans hl (i1 z hz).2⟩
  · exact List.pairwise_cons.2 ⟨fun z hz=>(i1 z hz).2,i2⟩
  rcases List.mem_cons.1 hm with rfl | hm
  · exact .inr ⟨m,List.mem_cons_self ..,rfl,Nat.le_refl _⟩
  rcases i3 m hm with ⟨e1,e2⟩ | ⟨z,hz,e⟩
  · exact .inr ⟨y,List.mem_cons_self ..,e1.symm,e2⟩
  exact .inr ⟨z,List.mem_cons_of_mem _ hz,e⟩
theorem dedup_law (S:List M) (h:S.Pairwise Le):(∀ y ∈ dedup alike S,y ∈ S)∧(dedup alike S).Pairwise Less∧∀ m ∈ S,∃ y ∈ dedup alike S,y.p=m.p∧m.n≤y.n:=by
 cases S with
 | nil=>exact ⟨fun y h=>(by cases h),List.Pairwise.nil,fun m h=>(by cases h)⟩
 | cons x r =>
  obtain ⟨i1,i2,i3⟩:=dgo_law r x h;rw[dedup];refine ⟨fun y hy=>?_,List.pairwise_cons.2 ⟨fun z hz=>(i1 z hz).2,i2⟩,fun m hm=>?_⟩
  ·rcases List.mem_cons.1 hy with rfl | hy
   · exact List.mem_cons_self ..
   exact List.mem_cons_of_mem _ (i1 y hy).1
  rcases List.mem_cons.1 hm with rfl | hm
  · exact ⟨m,List.mem_cons_self ..,rfl,Nat.le_refl _⟩
  rcases i3 m hm with ⟨e1,e2⟩ | ⟨z,hz,e⟩
  · exact ⟨x,List.mem_cons_self ..,e1.symm,e2⟩
  exact ⟨z,List.mem_cons_of_mem _ hz,e⟩
theorem dgo_len:∀ (r:List M) (x:M),(dgo alike x r).length≤r.length
 | [],_=>Nat.le_refl _
 | y::r,x=>by
  have:=dgo_len r y;rw[dgo];split <;> simp only[List.length_cons] <;> omega
theorem dedup_len (S:List M):(dedup alike S).length≤S.length:=by
 cases S with
 | nil=>exact Nat.le_refl _
 | cons x r=>have:=dgo_len r x;rw[dedup,List.length_cons,List.length_cons];omega
def IsVec (R:List M) (f:List UInt8→Nat):Prop:=Vec R∧∀ q,ofL R q=f q
theorem nought_iff (m:M):nought m=false↔m.p≠[]∧1≤m.n:=by
 unfold nought;rw[decide_eq_false_iff_not];constructor
 · intro h;exact ⟨fun e=>h (.inl e),by rcases Nat.eq_zero_or_pos m.n with e | e;exact absurd (.inr e) h;exact e⟩
 rintro ⟨h1,h2⟩ (e | e)
 · exact h1 e
 omega
theorem tidy_vec {L S:List M} (hp:S.Perm (L.filter fun m => !nought m)) (hs:S.Pairwise Le):IsVec (dedup alike S) (ofL L):=by
 obtain ⟨h1,h2,h3⟩:=dedup_law S hs;have hmem:∀ m,m ∈ S↔m ∈ L∧m.p≠[]∧1≤m.n:=by
  intro m;rw[hp.mem_iff,List.mem_filter];constructor
  · rintro ⟨a,b⟩;exact ⟨a,(nought_iff m).1 (by simpa using b)⟩
  rintro ⟨a,b⟩;exact ⟨a,by rw[(nought_iff m).2 b];rfl⟩
 refine ⟨⟨h2,fun m hm=>((hmem m).1 (h1 m hm)).2⟩,fun q=>ofL_eq ?_ ?_ q⟩
 ·intro m hm _ _;exact ⟨m,((hmem m).1 (h1 m hm)).1,rfl,Nat.le_refl _⟩
 intro k hk hp1 hn;exact h3 k ((hmem k).2 ⟨hk,hp1,hn⟩)
end Dots
end Go.Proofs.YtnpjkmomllkhpaaGreatDoor
