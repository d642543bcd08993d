/- DotSort. -/
import Derived.Test.YtnpjkmomllkhpaaGreatDoorTn8
import Derived.Shelf.SlSortCmp.NoneTotal
set_option linter.unusedVariables false
set_option linter.unusedSimpArgs false
set_option maxRecDepth 100000
set_option maxHeartbeats 1000000
namespace Go.Proofs.YtnpjkmomllkhpaaGreatDoor
namespace Dots
open RowKit Go.Shelf Go.Sort YtnpjkmomllkhpaaGreatDoor.Mark
theorem grow_below (w:World) (k:Nat) (os:Array Obj):Below w.heap.size w (Sort.grow (w.drewN k) os) :=
 ⟨rfl,rfl,rfl,by show w.heap.size≤(w.heap++os).size;rw[Array.size_append];omega,fun j hj=>by show (w.heap++os)[j]?=w.heap[j]?;exact Array.getElem?_append_left hj⟩
theorem flatK_eq (L:List M):flatK M.cells 2 L.toArray=(flat L).toArray:=by
 apply Array.ext
 · simp[flat_length]
 intro j h1 h2;have hj:j<L.length*2:=by simpa using h1
 have e1:=get_flatK M.cells 2 L.toArray j (by simpa using hj);rw[getElem!_pos (flatK M.cells 2 L.toArray) j h1] at e1;rw[e1];have hg:=flat_get L (j / 2) (by omega);have hL:L.toArray[j / 2]! = L[j / 2]'(by omega):=by rw[getElem!_pos L.toArray (j / 2) (by simp;omega)];simp
 rw[hL];have h3:(flat L)[j]?=some ((flat L).toArray[j]'h2):=by rw[List.getElem?_eq_getElem (by simpa using h2)];simp
 have h4:j % 2=0∨j % 2=1:=by omega
 rcases h4 with h4 | h4
 ·rw[show j / 2*2=j by omega,h3] at hg;rw[h4,Option.some.inj hg.1];rfl
 rw[show j / 2*2+1=j by omega,h3] at hg;rw[h4,Option.some.inj hg.2];rfl
theorem own_holds {w:World} {B:Nat} {T:TypeId} {g n cap:Nat} {L:List M} (h:w.ownsRow B T 2 (.slice (some ⟨g,0,none⟩) n cap) n (flat L)) (hn:L.length=n):HoldsK M.cells 2 w g 0 L.toArray:=by
 unfold HoldsK;rw[flatK_eq];intro j hj;have hj':j<n*2:=by rw[← hn,← flat_length];simpa using hj
 rw[Nat.zero_add];refine ⟨?_,h.frozenAt j⟩;rw[h.cellAt j hj',List.getElem?_eq_getElem (by simpa using hj),getElem!_pos (flat L).toArray j hj];simp
theorem own_put {w:World} {B:Nat} {T:TypeId} {g n cap q:Nat} {xs ys:List Value} (h:w.ownsRow B T 2 (.slice (some ⟨g,0,none⟩) n cap) n xs) (hy:ys.length=n*2) :
  (putRow id (Sort.ahead w q) g 0 ys.toArray).ownsRow B T 2 (.slice (some ⟨g,0,none⟩) n cap) n ys:=by
 rcases h.2 with ⟨e0,_⟩ | ⟨g',cap',cur,e0,hb,hg,hn,hm,hs,ht⟩
 · cases e0
 injection e0 with e1 _ e3
 injection e1 with e1
 injection e1 with e1
 subst e1;subst e3;refine ⟨hy,.inr ⟨g,cap,putCells id 0 ys.toArray cur,rfl,hb,?_,hn,hm,by simpa [putCells] using hs,?_⟩⟩
 · simp[putRow,mapBlock,Sort.ahead,Array.getElem?_modify,hg,onCells]
 apply List.ext_getElem?;intro j;rw[List.getElem?_take,Array.getElem?_toList];by_cases hj:j<n*2
 ·have hjc:j<cur.size:=by omega
  simp only[if_pos hj,putCells,Array.getElem?_mapIdx,Array.getElem?_eq_getElem hjc,Option.map_some];rw[if_pos (by simp;omega),List.getElem?_eq_getElem (by omega)];simp[getElem!_pos,show j<ys.length by omega]
 rw[if_neg hj,List.getElem?_eq_none (by omega)]
theorem below_put {B:Nat} {w0 w:World} {g q:Nat} {d:Array Value} (h:Below B w0 w) (hg:B≤g):Below B w0 (putRow id (Sort.ahead w q) g 0 d) :=
 ⟨h.os,h.tape,h.output,by simpa [putRow,mapBlock,Sort.ahead] using h.size,fun k hk=>by
  rw[← h.block k hk];simp[putRow,mapBlock,Sort.ahead,Array.getElem?_modify,show g≠k by omega]⟩
theorem lt_iff (a b:M):ltOf cf a b=decide (cf a b<0):=rfl
theorem cf_iff (a b:M):cf a b<0↔Less a b∨(a.p=b.p∧b.n<a.n):=by
 unfold cf Less;rcases Order.cmp_ways a.p b.p with e | e | e
 · rw[if_pos (by omega),e];simp
 ·have e2:=Order.cmp_zero _ _ e;rw[if_neg (by omega),e,e2];unfold cmpI;constructor
  ·intro h;split at h
   · exact .inr ⟨rfl,by omega⟩
   split at h <;> omega
  rintro (h | h)
  · omega
  rw[if_pos (by omega)];decide
 rw[if_pos (by omega),e];constructor
 · intro h;omega
 rintro (h | ⟨h,_⟩)
 · omega
 rw[h,Order.cmp_self] at e;omega
theorem swo:SWO (ltOf cf) where
 irrefl x:=by
  rw[lt_iff,decide_eq_false_iff_not,cf_iff];rintro (h | h)
  · exact less_irrefl x h
  omega
 trans x y z h1 h2:=by
  rw[lt_iff,decide_eq_true_eq,cf_iff] at *;rcases h1 with h1 | ⟨h1,h1'⟩ <;> rcases h2 with h2 | ⟨h2,h2'⟩
  · exact .inl (less_trans h1 h2)
  · refine .inl ?_;unfold Less at *;rw[← h2];exact h1
  · refine .inl ?_;unfold Less at *;rw[h1];exact h2
  exact .inr ⟨h1.trans h2,by omega⟩
 ntrans x y z h1 h2:=by
  rw[lt_iff,decide_eq_false_iff_not] at *;have k1:=cf_le h1;have k2:=cf_le h2;have k:=le_trans k2 k1;rw[cf_iff];rintro (h | ⟨h,h'⟩)
  ·rcases k with k | ⟨k,_⟩
   · exact less_irrefl x (less_trans (a:=x) (b:=z) (c:=x) h k)
   unfold Less at h;rw[k,Order.cmp_self] at h;omega
  rcases k with k | ⟨k,k'⟩
  · rw[h,Order.cmp_self] at k;omega
  omega
theorem sort_any (L:List M) (q cap B:Nat) (w:World) (hB:B≤w.heap.size) (hO:Own w B (.slice (some ⟨q,0,none⟩) L.length cap) L) (hn:L.length≤1099511627776) :
  Calls Tryz.prog 230 #[.slice (some ⟨q,0,none⟩) L.length cap,.func (.func 231) #[] #[]] w fun e w' =>
   ∃ S:List M,e=.returned (.tuple #[])∧S.Perm L∧S.Pairwise Le∧S.length=L.length∧Own w' B (.slice (some ⟨q,0,none⟩) L.length cap) S∧Below B w w':=by
 have hO':w.ownsRow B 96 2 (.slice (some ⟨q,0,none⟩) L.length cap) L.length (flat L):=hO;have hBq:=(own_cap hO').2.2;have hlt:=(hO'.lt q rfl).2;have eg:∀ args w,(callFunc 231 args).run Tryz.prog w=.ok (.enter 231 args) w:=enters_of Tryz.func231 (by kernel_rfl) rfl;have hcon:=AnyQ.slices_SortFunc Tryz.sortMark 2 (fun _=>by kernel_rfl) (fun _=>by kernel_rfl) M.cells (fun _=>rfl) (fun x v hv=>by simp[M.cells] at hv;rcases hv with rfl | rfl <;> rfl) cf swo 231 #[] q 0 cap L.toArray w eg (fun m os dk _ x y=>cf_any x y _) (own_holds hO' rfl) hlt (by simp;omega);change Calls Tryz.prog 230 _ _ _ at hcon;rw[List.size_toArray] at hcon;refine hcon.mono ?_;rintro e w' ⟨rfl,d',n,os,hp,hs,rfl⟩;obtain ⟨S⟩:=d';obtain ⟨hp1,_,hp2⟩:=hp;have hlen:S.length=L.length:=by simpa using hp1
 refine ⟨S,rfl,?_,?_,hlen,?_,?_⟩
 ·have e1:(S.toArray.extract 0 L.length).toList=S:=by simp[← hlen]
  have e2:(L.toArray.extract 0 L.length).toList=L:=by simp
  rw[e1,e2] at hp2;exact hp2
 ·rw[List.pairwise_iff_getElem];intro i j hi hj hij;have h:=hs i j (Nat.zero_le _) hij (by omega);rw[getElem!_pos S.toArray i (by simpa using hi),getElem!_pos S.toArray j (by simpa using hj)] at h;rw[lt_iff,decide_eq_false_iff_not] at h;exact cf_le (by simpa using h)
 ·unfold sortWorldK putRowK;rw[flatK_eq];have h1:=own_put (q:=n) (ys:=flat S) hO' (by rw[flat_length,hlen]);have h2:Own (putRow id (Sort.ahead w n) q 0 (flat S).toArray) B (.slice (some ⟨q,0,none⟩) L.length cap) S:=by unfold Own;rw[hlen];exact h1
  exact h2.below (grow_below _ 0 _)
 unfold sortWorldK putRowK;rw[flatK_eq];have h3:=below_put (q:=n) (d:=(flat S).toArray) (Below.refl B w) hBq;exact h3.trans ((grow_below _ 0 os).mono (Nat.le_trans hB h3.size))
theorem tidy_any (L:List M) (a:Option Addr) (n c:Nat) (w:World) (hL:Lies w a n L) (hn:n≤1099511627776) :
  Calls Tryz.prog 177 #[.slice a n c] w fun e w'=>∃ v R,e=.returned v∧IsVec R (ofL L)∧R.length≤L.length∧Own w' w.heap.size v R∧Below w.heap.size w w':=by
 have C:=hid (clone_any L a n c w hL hn);have hnl:L.length≤1099511627776:=by rw[← hL.1];exact hn
 clear hL;go_enter Tryz.func177,Tryz.ntmps177;go_wp2_with fail
 refine C.out.mono ?_;rintro e w1 ⟨v1,rfl,o1,b1⟩;go_wp2_with fail
 refine (delete_any 229 #[] nought w.heap.size (enters_of Tryz.func229 (by kernel_rfl) rfl) L v1 w1 b1.size (nought_pred _ _) o1 (by omega)).mono ?_;rintro e w2 ⟨v2,rfl,o2,b2⟩;have h2:=b1.trans b2;have hsz2:w.heap.size≤w2.heap.size:=h2.size;have hfl:(L.filter fun m => !nought m).length≤L.length:=List.length_filter_le _ _;obtain ⟨F,hF⟩:=nm (L.filter fun m => !nought m);rw[← hF] at o2 hfl;have HF:=hid hF;clear hF o1 b1 b2;by_cases hne:F=[]
 ·subst hne;obtain ⟨a2,c2,rfl,_,_,_,_⟩:=o2.lies;have N:=hid (fun W=>AnyF.slices_SortFunc_none Tryz.sortMark a2 c2 (.func (.func 231) #[] #[]) W);have hc:=compact_any 233 #[] alike w.heap.size (enters_of Tryz.func233 (by kernel_rfl) rfl) [] (.slice a2 0 c2) w2 hsz2 (alike_pred _ _) o2 (by simp);have HC:=hid hc;clear hc o2;go_wp2_with fail
  have N':=N.out w2;change Calls Tryz.prog 230 _ _ _ at N';refine cq N' ?_;go_wp2_with fail
  refine HC.out.mono ?_;rintro e w3 ⟨v3,rfl,o3,b3⟩;go_wp2;go_ret;refine ⟨_,_,rfl,tidy_vec (S:=[]) (by rw[← HF.out]) List.Pairwise.nil,by simp[dedup],o3,h2.trans b3⟩
 obtain ⟨q,cap,rfl,_,_,_⟩:=o2.some hne;have hs:=sort_any F q cap w.heap.size w2 hsz2 o2 (by omega);have HS:=hid hs;clear hs o2;go_wp2_with fail
 refine HS.out.mono ?_;rintro e w3 ⟨S,rfl,hp,hsrt,hlen,o3,b3⟩;have h3:=h2.trans b3;have hsz3:w.heap.size≤w3.heap.size:=h3.size;have HP:=hid hp;have HL:=hid hsrt;have hSn:S.length≤L.length:=by omega
 have o3':Own w3 w.heap.size (.slice (some ⟨q,0,none⟩) S.length cap) S:=by rw[hlen];exact o3
 have hc:=compact_any 233 #[] alike w.heap.size (enters_of Tryz.func233 (by kernel_rfl) rfl) S _ w3 hsz3 (alike_pred _ _) o3 (by omega);have HC:=hid hc;clear hc o3 o3' hp hsrt hlen;go_wp2_with fail
 refine HC.out.mono ?_;rintro e w4 ⟨v4,rfl,o4,b4⟩;go_wp2;go_ret;refine ⟨_,_,rfl,tidy_vec (S:=S) (by rw[← HF.out];exact HP.out) HL.out,?_,o4,h3.trans b4⟩;exact Nat.le_trans (dedup_len _) hSn
end Dots
end Go.Proofs.YtnpjkmomllkhpaaGreatDoor
