/- DotMay, RefDotOf, RefDotCmp, RefDotMay, BagPlain, CoderPlain. -/
import Derived.Test.YtnpjkmomllkhpaaGreatDoorTn8
import Derived.Laws.Cover1
import Derived.Laws.StructEq
import Derived.Test.YtnpjkmomllkhpaaGreatDoorTn1
set_option linter.unusedVariables false
set_option linter.unusedSimpArgs false
set_option maxRecDepth 100000
set_option maxHeartbeats 2000000
namespace Go.Proofs.YtnpjkmomllkhpaaGreatDoor
namespace Dots
open RowKit YtnpjkmomllkhpaaGreatDoor.Mark
def badB (last:List UInt8) (m:M):Bool:=decide (Lib.compareBytes m.p last≤0∨m.n<1∨281474976710656<m.n)
def mayGo:List UInt8→List M→Bool
 | _,[]=>true
 | last,m::r=>if badB last m then false else mayGo m.p r
def mayL (L:List M):Bool:=if 512<L.length then false else mayGo [] L
theorem leq_iff (a b:List UInt8):(Op.bytesLess a b || a == b)=decide (Lib.compareBytes a b≤0):=by
 by_cases he:a=b
 · subst he;rw[Order.cmp_self];simp
 have:(a == b)=false:=by rw[beq_eq_false_iff_ne];exact he
 rw[this,Bool.or_false];cases h:Op.bytesLess a b with
 | true=>have:=Order.cmp_less _ _ h;rw[this];rfl
 | false=>have:=Order.cmp_more _ _ he h;rw[this];rfl
theorem mayGo_step (last:List UInt8) (L:List M) (k:Nat) (h:k<L.length):mayGo last (L.drop k)=if badB last L[k] then false else mayGo L[k].p (L.drop (k+1)):=by
 rw[List.drop_eq_getElem_cons h,mayGo]
theorem may_any (L:List M) (a:Option Addr) (n c:Nat) (w:World) (hL:Lies w a n L) (hn:n≤1099511627776) (hok:Ok L) :
  CB 88 #[.slice a n c] w (mayL L):=by
 by_cases hbig:512<n
 ·have HV:=hid (show mayL L=false by rw[mayL,if_pos (by rw[← hL.1];exact hbig)]);have d:=dT (p:=(512:Int)<(n:Int));have d2:=dT (p:=(n:Int) > (512:Int));have h0:=Below.refl w.heap.size w;clear hL;go_enter Tryz.func88,Tryz.ntmps88;go_wp2;go_ret;exact ⟨by rw[HV.out];rfl,h0⟩
 have HV:=hid (show mayL L=mayGo [] L by rw[mayL,if_neg (by rw[← hL.1];exact hbig)]);have d:=dF (p:=(512:Int)<(n:Int));have d2:=dF (p:=(n:Int) > (512:Int));have HL:=hid hL;have HO:=hid hok;clear hL hok hbig;go_enter Tryz.func88,Tryz.ntmps88;go_wp2_with fail
 go_loopw [3,11] (fun nv iv wr=>∃ (k:Nat) (q:List UInt8),k≤n∧q.length≤9223372036854775807∧iv=.int .i64 k∧nv=.string ⟨q.toArray⟩∧mayL L=mayGo q (L.drop k)∧Below w.heap.size w wr) (fun _ iv _=>n - (intOf iv).toNat)
 case atStart=>exact ⟨0,[],by omega,by decide,rfl,rfl,HV.out,Below.refl _ _⟩
 obtain ⟨k,q,hk,hq,rfl,rfl,hs,hb⟩:=hrel;have hln:=HL.out.1;by_cases hlt:k<n
 ·obtain ⟨b,off,rfl,hcell⟩:=(HL.out.below hb).2 (by omega);obtain ⟨c1,c2⟩:=hcell k (by omega);rw[mayGo_step q L k (by omega)] at hs;obtain ⟨m,hm⟩:=nm (L[k]'(by omega));have hmn:m.n≤18446744073709551615∧m.p.length≤9223372036854775807:=HO.out m (by rw[hm];exact List.getElem_mem _);rw[← hm] at c1 c2 hs;have q1:=World.block_lt_of_cell? _ _ c2;have hbad:badB q m=decide (Lib.compareBytes m.p q≤0∨m.n<1∨281474976710656<m.n):=rfl;have l1:=leq_iff m.p q;have HM:=hid hmn.2;by_cases g1:Lib.compareBytes m.p q≤0
  ·rw[decide_eq_true g1] at l1;rw[show badB q m=true by rw[hbad];exact decide_eq_true (.inl g1),if_pos rfl] at hs;have HS:=hid hs;clear hm hcell hln hs hbad g1;go_wp2;go_ret;exact ⟨by rw[HS.out];rfl,balloc hb _⟩
  rw[decide_eq_false g1] at l1;by_cases g2:m.n<1
  ·rw[show badB q m=true by rw[hbad];exact decide_eq_true (.inr (.inl g2)),if_pos rfl] at hs;have HS:=hid hs;have e1:=dT (p:=(m.n:Int)<1);clear hm hcell hln hs hbad g1 g2;go_wp2;go_ret;exact ⟨by rw[HS.out];rfl,balloc hb _⟩
  have e1:=dF (p:=(m.n:Int)<1);by_cases g3:281474976710656<m.n
  ·rw[show badB q m=true by rw[hbad];exact decide_eq_true (.inr (.inr g3)),if_pos rfl] at hs;have HS:=hid hs;have e2:=dT (p:=(281474976710656:Int)<(m.n:Int));have e3:=dT (p:=(m.n:Int) > (281474976710656:Int));clear hm hcell hln hs hbad g1 g2 g3;go_wp2;go_ret;exact ⟨by rw[HS.out];rfl,balloc hb _⟩
  have e2:=dF (p:=(281474976710656:Int)<(m.n:Int));have e3:=dF (p:=(m.n:Int) > (281474976710656:Int));rw[show badB q m=false by rw[hbad];exact decide_eq_false (by omega),if_neg (by decide)] at hs;have HS:=hid hs;clear hm hcell hln hs hbad g1 g2 g3;go_wp2;go_roundw
  ·exact ⟨k+1,m.p,by omega,HM.out,by go_num,rfl,HS.out,balloc hb _⟩
  simp[intOf];omega
 obtain rfl:k=n:=by omega
 have hv:mayL L=true:=by rw[hs,List.drop_eq_nil_of_le (by omega)];rfl
 have HV:=hid hv;have hd:=dF (p:=(k:Int)<(k:Int));clear hln hv hs;go_wp2;go_ret;exact ⟨by rw[HV.out];rfl,hb⟩
def cmpD (a b:M):Int:=if Lib.compareBytes a.p b.p≠0 then Lib.compareBytes a.p b.p else cmpI a.n b.n
theorem compare_any (a b:M) (w:World):CB 165 #[.agg (a.cells).toArray,.agg (b.cells).toArray] w (.int .i64 (cmpD a b)):=by
 obtain ⟨p,n⟩:=a;obtain ⟨q,x⟩:=b;have S:=hid (fun w=>Tryz.strings_Compare ⟨p.toArray⟩ ⟨q.toArray⟩ w);have C:=hid (fun w=>cmpU_any n x w);have h0:=Below.refl w.heap.size w;have HV:Hid (cmpD ⟨p,n⟩ ⟨q,x⟩=orV (Lib.compareBytes p q) (cmpI n x)):=hid rfl;have c0:∀ T,((w.alloc (.cells #[p,n] T)).alloc (.cells #[q,x] T)).cell? ⟨w.heap.size,0,none⟩=some ↑p:=fun T=>Lib.cell?_alloc_some _ (by rw[World.cell?_alloc_new];rfl);have c1:∀ T,((w.alloc (.cells #[p,n] T)).alloc (.cells #[q,x] T)).cell? ⟨w.heap.size,1,none⟩=some ↑n:=fun T=>Lib.cell?_alloc_some _ (by rw[World.cell?_alloc_new];rfl);have c2:∀ T,((w.alloc (.cells #[p,n] T)).alloc (.cells #[q,x] T)).cell? ⟨w.heap.size+1,0,none⟩=some ↑q:=fun T=>by
  simp
 have c3:∀ T,((w.alloc (.cells #[p,n] T)).alloc (.cells #[q,x] T)).cell? ⟨w.heap.size+1,1,none⟩=some ↑x:=fun T=>by
  simp
 have HC:=hid (And.intro c0 (And.intro c1 (And.intro c2 c3)));clear c0 c1 c2 c3;obtain ⟨v,hv⟩:=nm (cmpI n x);rw[← hv] at C HV;clear hv;have OR:=hid (or_any (Lib.compareBytes p q) v);unfold M.cells;simp only;go_enter Tryz.func165,Tryz.ntmps165;go_wp2_with fail
 obtain ⟨c0,c1,c2,c3⟩:=HC.out;have c0:=c0 167;have c1:=c1 167;have c2:=c2 167;have c3:=c3 167;refine rhd (aj3 (aj2 c0 c1) c2 c3) fun gH=>?_;refine tk [0,1,2,3,5,6,7,8] ?_;refine tR 4 fun K hK=>?_;go_simp;go_at_call 183;refine cq (S.out _) ?_;go_wp2_with fail
 refine hK.out _ _ (gH) (fun gH=>?_);clear hK K;try simp only[Act.put,List.setIfInBounds_toArray,List.set_cons_zero,List.set_cons_succ]
 refine tR 9 fun K hK=>?_;go_simp;go_at_call 224;refine cp (C.out _) ?_;go_wp2_with fail
 refine hK.out _ _ (gH) (fun gH=>?_);clear hK K;try simp only[Act.put,List.setIfInBounds_toArray,List.set_cons_zero,List.set_cons_succ]
 refine tR 10 fun K hK=>?_;go_simp;refine hK.out _ _ (⟨⟨Lib.cell?_alloc_some _ gH.1.1,Lib.cell?_alloc_some _ gH.1.2⟩,Lib.cell?_alloc_some _ gH.2.1,Lib.cell?_alloc_some _ gH.2.2⟩) (fun gH=>?_);clear hK K;try simp only[Act.put,List.setIfInBounds_toArray,List.set_cons_zero,List.set_cons_succ]
 refine tR 11 fun K hK=>?_;go_simp;go_at_call 223;refine cp (OR.out _ _ (new_cell _ _ _ 0 _ (by simp)) (new_cell _ _ _ 1 _ (by simp))) ?_;go_wp2_with fail
 refine hK.out _ _ (gH) (fun gH=>?_);clear hK K;try simp only[Act.put,List.setIfInBounds_toArray,List.set_cons_zero,List.set_cons_succ]
 refine tk [12] ?_;refine tD ?_;go_wp2;go_ret;exact ⟨by rw[HV.out];rfl,Below.drew (balloc (balloc (balloc h0 _) _) _)⟩
end Dots
namespace RefDots
open RowKit YtnpjkmomllkhpaaGreatDoor.Mark Dots
theorem of_any (q:List UInt8) (L:List M) (a:Option Addr) (n c:Nat) (w:World) (hL:Lies w a n L) (hn:n≤1099511627776) (hok:Ok L) :
  CP 109 #[.slice a n c,q] w (.int .u64 (ofL L q:Nat)):=by
 have HL:=hid hL;have HO:=hid hok;clear hL hok;go_enter Tryz.func109,Tryz.ntmps109;go_wp2_with fail
 go_loop [5,6] (fun nv iv=>∃ k:Nat,k≤n∧iv=.int .i64 k∧nv=.int .u64 (mostL (isQ q) (L.take k):Nat)) (fun _ iv=>n - (intOf iv).toNat)
 case atStart=>exact ⟨0,by omega,rfl,rfl⟩
 obtain ⟨k,hk,rfl,rfl⟩:=hrel;have hln:=HL.out.1;by_cases hlt:k<n
 ·obtain ⟨b,off,rfl,hcell⟩:=HL.out.2 (by omega);obtain ⟨c1,c2⟩:=hcell k (by omega);have hs:=mostL_snoc (isQ q) L k (by omega);have hx:=mostL_le (isQ q) (L.take k) 0 18446744073709551615 (by omega) (fun m hm=>(HO.out m (List.mem_of_mem_take hm)).1);obtain ⟨m,hm⟩:=nm (L[k]'(by omega));have hmn:m.n≤18446744073709551615:=(HO.out m (by rw[hm];exact List.getElem_mem _)).1;rw[← hm] at c1 c2 hs;change mostL (isQ q) (L.take k)≤_ at hx;obtain ⟨x,hxx⟩:=nm (mostL (isQ q) (L.take k));rw[← hxx] at hs hx ⊢;by_cases he:m.p=q
  ·have l1:(m.p == q)=true:=by rw[beq_iff_eq];exact he
   by_cases hq:q=[]
   ·have l2:q.isEmpty=true:=by rw[hq];rfl
    have l3:(!q.isEmpty)=false:=by rw[l2];rfl
    have l4:(q == [])=true:=by rw[hq];rfl
    have l5:(q != [])=false:=by rw[hq];rfl
    rw[show isQ q m=false by unfold isQ;simp[hq],if_neg (by decide)] at hs;have HS:=hid hs;clear hm hcell hln hxx hs he hq;go_wp2;go_round
    ·exact ⟨k+1,by omega,by go_num,by rw[HS.out]⟩
    simp[intOf];omega
   have l2:q.isEmpty=false:=by cases q with | nil=>exact absurd rfl hq | cons _ _=>rfl
   have l3:(!q.isEmpty)=true:=by rw[l2];rfl
   have l4:(q == [])=false:=by rw[beq_eq_false_iff_ne];exact hq
   have l5:(q != [])=true:=by rw[bne_iff_ne];exact hq
   rw[show isQ q m=true by unfold isQ;simp[hq,he],if_pos rfl] at hs;have HS:=hid hs;clear hm hcell hln hxx hs he hq;go_wp2;go_round
   ·exact ⟨k+1,by omega,by go_num,by rw[HS.out];congr 1;omega⟩
   simp[intOf];omega
  have l1:(m.p == q)=false:=by rw[beq_eq_false_iff_ne];exact he
  rw[show isQ q m=false by unfold isQ;simp[he],if_neg (by decide)] at hs;have HS:=hid hs;clear hm hcell hln hxx hs he;go_wp2;go_round
  ·exact ⟨k+1,by omega,by go_num,by rw[HS.out]⟩
  simp[intOf];omega
 obtain rfl:k=n:=by omega
 have hv:L.take k=L:=List.take_of_length_le (by omega);have HV:=hid hv;have hd:=dF (p:=(k:Int)<(k:Int));clear hln hv;go_wp2;go_ret;exact ⟨by rw[HV.out];rfl,rfl⟩
theorem has_any (q:List UInt8) (x:Nat) (L:List M) (a:Option Addr) (n c:Nat) (w:World) (hL:Lies w a n L) (hn:n≤1099511627776) (hok:Ok L) :
  CB 110 #[.slice a n c,.agg #[q,x]] w (hasL L q x):=by
 have C:=hid (fun W (k:Below w.heap.size w W)=>of_any q L a n c W (hL.below k) hn hok);have HV:Hid (hasL L q x=(decide (1≤x) && decide (x≤ofL L q))):=hid rfl;have h0:=Below.refl w.heap.size w;obtain ⟨o,ho⟩:=nm (ofL L q);rw[← ho] at C HV;clear hL ho;have c0:(w.alloc (.cells #[q,x] 167)).cell? ⟨w.heap.size,0,none⟩=some ↑q:=by rw[World.cell?_alloc_new];rfl
 have c1:(w.alloc (.cells #[q,x] 167)).cell? ⟨w.heap.size,1,none⟩=some ↑x:=by rw[World.cell?_alloc_new];rfl
 have hb:Below w.heap.size w (w.alloc (.cells #[q,x] 167)):=balloc h0 _;by_cases hx1:1≤x
 ·have d1:decide ((x:Int)≥1)=true:=dT;have d1':=dT (p:=(1:Int)≤(x:Int));go_enter Tryz.func110,Tryz.ntmps110;go_wp2_with fail
  refine rhd (aj2 (aj2 c0 c1) hb) fun gH=>?_;refine tk (.range 9) ?_;refine tR 9 fun K hK=>?_;go_simp;go_at_call 109;refine cp (C.out _ (by first | exact gH.2 | exact Below.drew gH.2)) ?_;go_wp2_with fail
  refine hK.out _ _ (gH) (fun gH=>?_);clear hK K;try simp only[Act.put,List.setIfInBounds_toArray,List.set_cons_zero,List.set_cons_succ]
  refine tk [10,11,12] ?_;refine tD ?_;go_wp2;go_ret;exact ⟨by rw[HV.out,decide_eq_true hx1,Bool.true_and];rfl,Below.drew hb⟩
 have d1:=dF (p:=(x:Int)≥1);have d1':=dF (p:=(1:Int)≤(x:Int));go_enter Tryz.func110,Tryz.ntmps110;go_wp2_with fail
 refine rhd (aj2 (aj2 c0 c1) hb) fun gH=>?_;refine tk (.range 13) ?_;refine tD ?_;go_wp2;go_ret;exact ⟨by rw[HV.out,decide_eq_false hx1];rfl,Below.drew hb⟩
theorem eql_of (T:TypeId) (h:Tryz.prog.underlying T=Tryz.prog.underlying 96) (hp:Tryz.prog.stoodInHeld T=false) (m k:M) (w:World):(Op.equalIn 10000 T (.agg (m.cells).toArray) (.agg (k.cells).toArray)).run Tryz.prog w=.ok (m.p == k.p && (m.n:Int) == (k.n:Int)) w:=by
 have hS:Tryz.prog.underlying T=some (.struct (Tryz.prog.fieldsOf T)):=by rw[Program.fieldsOf,h];kernel_rfl
 rw[show (10000:Nat)=9999+1 from rfl,run_equalIn_agg w 9999 T _ _ hS hp];simp only[Program.fieldsOf,h,Tryz.underlying96,M.cells];have u1:=Tryz.underlying9;have u2:=Tryz.underlying25;go_simp;by_cases h1:m.p=k.p <;> by_cases h2:(m.n:Int)=(k.n:Int) <;> simp[h1,h2]
instance : DecidableEq M := fun a b => if h : a.p = b.p ∧ a.n = b.n then .isTrue (M.ext' h.1 h.2) else .isFalse (fun e => h (by rw [e]; exact ⟨rfl, rfl⟩))
theorem eqM_iff (m k:M):(m.p == k.p && (m.n:Int) == (k.n:Int))=decide (m=k):=by
 by_cases h:m=k
 · subst h;simp
 rw[decide_eq_false h];cases h1:(m.p == k.p) with
 | false=>rfl
 | true =>
  have e1:m.p=k.p:=by simpa using h1
  have:m.n≠k.n:=fun e=>h (M.ext' e1 e);simp;omega
theorem neq_mark (m k:M) (w:World):(binOp .neq 96 (.agg m) (.agg k)).run Tryz.prog w=.ok (.bool (!decide (m=k))) w:=by
 rw[run_neq_struct];have h:=eql_of 96 rfl (by kernel_rfl) m k w;rw[eqM_iff] at h;unfold M.cells at h;rw[h];rfl
theorem eql_dot (m k:M) (w:World):(binOp .eql 167 (.agg m) (.agg k)).run Tryz.prog w=.ok (.bool (decide (m=k))) w:=by
 rw[run_eql_struct];have h:=eql_of 167 (by kernel_rfl) (by kernel_rfl) m k w;rw[eqM_iff] at h;unfold M.cells at h;rw[h];rfl
theorem cmpD_ways (a b:M):cmpD a b=if (Op.bytesLess a.p b.p || (a.p == b.p && decide (a.n<b.n))) then -1 else if a=b then 0 else 1:=by
 unfold cmpD;rcases Order.cmp_ways a.p b.p with h | h | h
 ·have hl:Op.bytesLess a.p b.p=true:=by
   cases h':Op.bytesLess a.p b.p with
   | true=>rfl
   | false =>
    have hne:a.p≠b.p:=fun e=>by rw[e,Order.cmp_self] at h;omega
    have:=Order.cmp_more _ _ hne h';omega
  rw[hl,h];rfl
 ·have e:=Order.cmp_zero _ _ h;have hl:Op.bytesLess a.p b.p=false:=by
   cases h':Op.bytesLess a.p b.p with
   | false=>rfl
   | true=>have:=Order.cmp_less _ _ h';omega
  rw[hl,h,if_neg (by omega),Bool.false_or,e,beq_self_eq_true,Bool.true_and];unfold cmpI;by_cases h1:a.n<b.n
  · rw[if_pos h1,if_pos (decide_eq_true h1)]
  rw[if_neg h1,if_neg (show ¬ decide (a.n<b.n)=true by rw[decide_eq_true_eq];exact h1)];by_cases h2:b.n<a.n
  · rw[if_pos h2,if_neg (fun e'=>by rw[e'] at h2;omega)]
  rw[if_neg h2,if_pos (M.ext' e (by omega))]
 have hl:Op.bytesLess a.p b.p=false:=by
  cases h':Op.bytesLess a.p b.p with
  | false=>rfl
  | true=>have:=Order.cmp_less _ _ h';omega
 have hne:a.p≠b.p:=fun e=>by rw[e,Order.cmp_self] at h;omega
 have l1:(a.p == b.p)=false:=by rw[beq_eq_false_iff_ne];exact hne
 rw[hl,h,l1,if_pos (by omega),if_neg (by rw[Bool.false_or,Bool.false_and];decide),if_neg (fun e=>hne (by rw[e]))]
theorem compare_any (a b:M) (w:World):CB 174 #[.agg (a.cells).toArray,.agg (b.cells).toArray] w (.int .i64 (cmpD a b)):=by
 have h0:=Below.refl w.heap.size w;have hw:=cmpD_ways a b;have hE:=eql_dot a b;unfold M.cells;cases h1:Op.bytesLess a.p b.p with
 | true =>
  rw[h1,Bool.true_or,if_pos rfl] at hw;have HV:=hid hw;clear hw hE;go_enter Tryz.func174,Tryz.ntmps174;go_wp2;go_ret;exact ⟨by rw[HV.out];rfl,balloc (balloc h0 _) _⟩
 | false =>
  rw[h1,Bool.false_or] at hw;cases h2:(a.p == b.p && decide (a.n<b.n)) with
  | true =>
   rw[h2,if_pos rfl] at hw;have HV:=hid hw;rw[Bool.and_eq_true,decide_eq_true_eq] at h2;obtain ⟨h3,h4⟩:=h2;have h5:=dT (p:=(a.n:Int)<(b.n:Int));clear hw hE;go_enter Tryz.func174,Tryz.ntmps174;go_wp2;go_ret;exact ⟨by rw[HV.out];rfl,balloc (balloc h0 _) _⟩
  | false =>
   rw[h2,if_neg (by decide)] at hw;have HV:=hid hw;cases h3:(a.p == b.p) with
   | true =>
    rw[h3,Bool.true_and,decide_eq_false_iff_not] at h2;have h5:=dF (p:=(a.n:Int)<(b.n:Int));have h6:=dF (p:=a.n<b.n);clear hw h2;by_cases hab:a=b
    ·rw[decide_eq_true hab] at hE;have HV2:Hid (cmpD a b=0):=hid (by rw[HV.out,if_pos hab]);clear HV hab;go_enter Tryz.func174,Tryz.ntmps174;go_wp2;go_ret;exact ⟨by rw[HV2.out];rfl,balloc (balloc h0 _) _⟩
    rw[decide_eq_false hab] at hE;have HV2:Hid (cmpD a b=1):=hid (by rw[HV.out,if_neg hab]);clear HV hab;go_enter Tryz.func174,Tryz.ntmps174;go_wp2;go_ret;exact ⟨by rw[HV2.out];rfl,balloc (balloc h0 _) _⟩
   | false =>
    have hab:¬ a=b:=fun e=>by rw[e,beq_self_eq_true] at h3;cases h3
    rw[decide_eq_false hab] at hE;have HV2:Hid (cmpD a b=1):=hid (by rw[HV.out,if_neg hab]);clear HV hab hw h2;go_enter Tryz.func174,Tryz.ntmps174;go_wp2;go_ret;exact ⟨by rw[HV2.out];rfl,balloc (balloc h0 _) _⟩
theorem same_any (L K:List M) (a1 a2:Option Addr) (n1 n2 c1 c2:Nat) (w:World) (hL:Lies w a1 n1 L) (hK:Lies w a2 n2 K) (hn1:n1≤1099511627776) (hn2:n2≤1099511627776) :
  CB 29 #[.slice a1 n1 c1,.slice a2 n2 c2] w (decide (L=K)):=by
 have h0:=Below.refl w.heap.size w;by_cases hne:n1=n2
 ·subst hne;have HL:=hid hL;have HK:=hid hK;have hneq:((n1:Int) != (n1:Int))=false:=by simp
  clear hL hK;go_enter Tryz.func29,Tryz.ntmps29;go_wp2_with fail
  go_loopw [5] (fun iv wr=>∃ k:Nat,k≤n1∧iv=.int .i64 k∧L.take k=K.take k∧Below w.heap.size w wr) (fun iv _=>n1 - (intOf iv).toNat)
  case atStart=>exact ⟨0,by omega,rfl,rfl,h0⟩
  obtain ⟨k,hk,rfl,hs,hb⟩:=hrel;have hln:=HL.out.1;have hkn:=HK.out.1;by_cases hlt:k<n1
  ·obtain ⟨b1,o1,rfl,hcell1⟩:=(HL.out.below hb).2 (by omega);obtain ⟨b2,o2,rfl,hcell2⟩:=(HK.out.below hb).2 (by omega);obtain ⟨d1,d2⟩:=hcell1 k (by omega);obtain ⟨d3,d4⟩:=hcell2 k (by omega);have hs1:L.take (k+1)=L.take k++[L[k]'(by omega)]:=List.take_succ_eq_append_getElem (by omega);have hs2:K.take (k+1)=K.take k++[K[k]'(by omega)]:=List.take_succ_eq_append_getElem (by omega);obtain ⟨m,hm⟩:=nm (L[k]'(by omega));obtain ⟨x,hx⟩:=nm (K[k]'(by omega));rw[← hm] at d1 d2 hs1;rw[← hx] at d3 d4 hs2;have hE:=neq_mark m x;by_cases he:m=x
   ·rw[decide_eq_true he] at hE;have HS:Hid (L.take (k+1)=K.take (k+1)):=hid (by rw[hs1,hs2,hs,he]);clear hs hs1 hs2 hm hx hcell1 hcell2 hln hkn he;go_wp2_with fail
    refine rhd (aj3 (aj2 d1 d2) d3 d4) fun gH=>?_;refine tk (.range 9) ?_;refine tD ?_;go_wp2;go_roundw
    ·exact ⟨k+1,by omega,by go_num,HS.out,Below.drew hb⟩
    simp[intOf];omega
   rw[decide_eq_false he] at hE;have HV:Hid (decide (L=K)=false):=hid (decide_eq_false fun e=>he (by rw[hm,hx];simp only[e]));clear hs hs1 hs2 hm hx hcell1 hcell2 hln hkn he;go_wp2_with fail
   refine rhd (aj3 (aj2 d1 d2) d3 d4) fun gH=>?_;refine tk (.range 9) ?_;refine tD ?_;go_wp2;go_ret;exact ⟨by rw[HV.out];rfl,Below.drew hb⟩
  obtain rfl:k=n1:=by omega
  have hv:L=K:=by
   rw[← List.take_of_length_le (l:=L) (i:=k) (by omega),hs,List.take_of_length_le (by omega)]
  have HV:Hid (decide (L=K)=true):=hid (decide_eq_true hv);have hd:=dF (p:=(k:Int)<(k:Int));clear hln hkn hv hs;go_wp2;go_ret;exact ⟨by rw[HV.out];rfl,hb⟩
 have HV:Hid (decide (L=K)=false):=hid (decide_eq_false fun e=>hne (by rw[hL.1,hK.1,e]));have hneq:((n1:Int) != (n2:Int))=true:=by rw[bne_iff_ne];omega
 clear hL hK;go_enter Tryz.func29,Tryz.ntmps29;go_wp2;go_ret;exact ⟨by rw[HV.out];rfl,h0⟩
def before (L:List M):Nat→List UInt8
 | 0=>[]
 | k+1=>(L[k]?.map (·.p)).getD []
theorem cmp_nil (a:List UInt8):Lib.compareBytes a []≤0↔a=[]:=by
 cases a with
 | nil=>rw[Order.cmp_self];simp
 | cons x l =>
  constructor
  · intro h;simp[Lib.compareBytes] at h
  intro h;cases h
theorem nil_cmp (a:List UInt8):Lib.compareBytes [] a≤0:=by
 rw[Order.cmp_flip];rcases Order.cmp_ways a [] with h | h | h
 ·have:=(cmp_nil a).1 (by omega);rw[this,Order.cmp_self];decide
 · omega
 omega
theorem badB_def (q:List UInt8) (m:M):badB q m=decide (Lib.compareBytes m.p q≤0∨m.n<1∨281474976710656<m.n):=rfl
theorem may_any (L:List M) (a:Option Addr) (n c:Nat) (w:World) (hL:Lies w a n L) (hn:n≤1099511627776) (hok:Ok L) :
  CB 49 #[.slice a n c] w (mayL L):=by
 by_cases hbig:512<n
 ·have HV:=hid (show mayL L=false by rw[mayL,if_pos (by rw[← hL.1];exact hbig)]);have d:=dT (p:=(512:Int)<(n:Int));have d2:=dT (p:=(n:Int) > (512:Int));have h0:=Below.refl w.heap.size w;clear hL;go_enter Tryz.func49,Tryz.ntmps49;go_wp2;go_ret;exact ⟨by rw[HV.out];rfl,h0⟩
 have HV:=hid (show mayL L=mayGo [] L by rw[mayL,if_neg (by rw[← hL.1];exact hbig)]);have d:=dF (p:=(512:Int)<(n:Int));have d2:=dF (p:=(n:Int) > (512:Int));have HL:=hid hL;have HO:=hid hok;clear hL hok hbig;go_enter Tryz.func49,Tryz.ntmps49;go_wp2_with fail
 go_loopw [3] (fun iv wr=>∃ (k:Nat),k≤n∧iv=.int .i64 k∧mayL L=mayGo (before L k) (L.drop k)∧Below w.heap.size w wr) (fun iv _=>n - (intOf iv).toNat)
 case atStart=>exact ⟨0,by omega,rfl,HV.out,Below.refl _ _⟩
 obtain ⟨k,hk,rfl,hs,hb⟩:=hrel;have hln:=HL.out.1;by_cases hlt:k<n
 ·obtain ⟨b,off,rfl,hcell⟩:=(HL.out.below hb).2 (by omega);obtain ⟨c1,c2⟩:=hcell k (by omega);rw[mayGo_step _ L k (by omega)] at hs;have hnx:before L (k+1)=(L[k]'(by omega)).p:=by rw[before,List.getElem?_eq_getElem (by omega)];rfl
  rw[← hnx] at hs;obtain ⟨m,hm⟩:=nm (L[k]'(by omega));have hmn:m.n≤18446744073709551615∧m.p.length≤9223372036854775807:=HO.out m (by rw[hm];exact List.getElem_mem _);rw[← hm] at c1 c2 hs;have hbad:=badB_def (before L k) m;have b1:(0:Int)≤(k:Int):=by omega
  have b2:(k:Int)<(n:Int):=by omega
  by_cases g1:m.p=[]
  ·have l1:m.p.isEmpty=true:=by rw[g1];rfl
   have l2:(m.p == [])=true:=by rw[g1];rfl
   rw[show badB (before L k) m=true by rw[hbad];exact decide_eq_true (.inl (by rw[g1];exact nil_cmp _)),if_pos rfl] at hs;have HS:=hid hs;clear hm hcell hln hs hbad g1 hnx;go_wp2_with fail
   refine rhd (aj2 c1 c2) fun gH=>?_;refine tk (.range 40) ?_;refine tD ?_;go_wp2;go_ret;exact ⟨by rw[HS.out];rfl,Below.drew hb⟩
  have l1:m.p.isEmpty=false:=by cases h:m.p with | nil=>exact absurd h g1 | cons _ _=>rfl
  have l2:(m.p == [])=false:=by rw[beq_eq_false_iff_ne];exact g1
  by_cases g2:m.n<1
  ·rw[show badB (before L k) m=true by rw[hbad];exact decide_eq_true (.inr (.inl g2)),if_pos rfl] at hs;have HS:=hid hs;have e1:=dT (p:=(m.n:Int)<1);clear hm hcell hln hs hbad g1 g2 hnx;go_wp2_with fail
   refine rhd (aj2 c1 c2) fun gH=>?_;refine tk (.range 40) ?_;refine tD ?_;go_wp2;go_ret;exact ⟨by rw[HS.out];rfl,Below.drew hb⟩
  have e1:=dF (p:=(m.n:Int)<1);by_cases g3:281474976710656<m.n
  ·rw[show badB (before L k) m=true by rw[hbad];exact decide_eq_true (.inr (.inr g3)),if_pos rfl] at hs;have HS:=hid hs;have e2:=dT (p:=(281474976710656:Int)<(m.n:Int));have e3:=dT (p:=(m.n:Int) > (281474976710656:Int));clear hm hcell hln hs hbad g1 g2 g3 hnx;go_wp2_with fail
   refine rhd (aj2 c1 c2) fun gH=>?_;refine tk (.range 40) ?_;refine tD ?_;go_wp2;go_ret;exact ⟨by rw[HS.out];rfl,Below.drew hb⟩
  have e2:=dF (p:=(281474976710656:Int)<(m.n:Int));have e3:=dF (p:=(m.n:Int) > (281474976710656:Int));rcases Nat.eq_zero_or_pos k with hk0 | hk0
  ·have e4:decide ((k:Int) > 0)=false:=dF;have e5:=dF (p:=(0:Int)<(k:Int));rw[show badB (before L k) m=false by rw[hbad,hk0];exact decide_eq_false (fun h=>by rcases h with h | h | h;exact g1 ((cmp_nil _).1 h);omega;omega),if_neg (by decide)] at hs;have e6:=dF (p:=0<k);have HS:=hid hs;clear hm hcell hln hs hbad g1 g2 g3 hnx hk0;go_wp2_with fail
   refine rhd (aj2 c1 c2) fun gH=>?_;refine tk (.range 40) ?_;refine tD ?_;go_wp2;go_roundw
   ·exact ⟨k+1,by omega,by go_num,HS.out,Below.drew hb⟩
   simp[intOf];omega
  obtain ⟨j,hj⟩:∃ j,k=j+1:=⟨k - 1,by omega⟩
  have c3:=(hcell j (by omega)).1;obtain ⟨q,hq⟩:=nm ((L[j]'(by omega)).p);have hbf:before L k=q:=by rw[hj,before,List.getElem?_eq_getElem (by omega),hq];rfl
  have hql:q.length≤9223372036854775807:=by rw[hq];exact (HO.out _ (List.getElem_mem _)).2
  rw[← hq] at c3;rw[hbf] at hs hbad;have e4:=dT (p:=(k:Int) > 0);have e5:=dT (p:=(0:Int)<(k:Int));have e6:=dT (p:=0<k);have j1:(k:Int) - 1=(j:Int):=by omega
  have jw:IntKind.i64.wrap (j:Int)=(j:Int):=by rw[IntKind.wrap_i64];omega
  have b3:(0:Int)≤(j:Int):=by omega
  have b4:(j:Int)<(n:Int):=by omega
  have b5:j<n:=by omega
  have l3:=leq_iff m.p q;by_cases g4:Lib.compareBytes m.p q≤0
  ·rw[show badB q m=true by rw[hbad];exact decide_eq_true (.inl g4),if_pos rfl] at hs;rw[decide_eq_true g4] at l3;have HS:=hid hs;clear hm hcell hln hs hbad g1 g2 g3 hnx hk0 g4 hq hbf;have HJ:=hid hj;clear hj;go_wp2_with fail
   refine rhd (aj2 (aj2 c1 c2) c3) fun gH=>?_;refine tk (.range 40) ?_;refine tD ?_;go_wp2;go_ret;exact ⟨by rw[HS.out];rfl,Below.drew hb⟩
  rw[show badB q m=false by rw[hbad];exact decide_eq_false (by omega),if_neg (by decide)] at hs;rw[decide_eq_false g4] at l3;have HS:=hid hs;clear hm hcell hln hs hbad g1 g2 g3 hnx hk0 g4 hq hbf;have HJ:=hid hj;clear hj;go_wp2_with fail
  refine rhd (aj2 (aj2 c1 c2) c3) fun gH=>?_;refine tk (.range 40) ?_;refine tD ?_;go_wp2;go_roundw
  ·exact ⟨k+1,by omega,by go_num,HS.out,Below.drew hb⟩
  simp[intOf];omega
 obtain rfl:k=n:=by omega
 have hv:mayL L=true:=by rw[hs,List.drop_eq_nil_of_le (by omega)];rfl
 have HV:=hid hv;have hd:=dF (p:=(k:Int)<(k:Int));clear hln hv hs;go_wp2;go_ret;exact ⟨by rw[HV.out];rfl,hb⟩
end RefDots
namespace Bag
open RowKit YtnpjkmomllkhpaaGreatDoor.Mark Dots
structure It where
 t:List UInt8
 d:List M
structure Pl where
 t:List UInt8
 m:M
theorem Pl.ext' {a b:Pl} (h:a.t=b.t) (k:a.m=b.m):a=b:=by cases a;cases b;simp_all
instance : DecidableEq M := fun a b => if h : a.p = b.p ∧ a.n = b.n then .isTrue (M.ext' h.1 h.2) else .isFalse fun e => h (by rw [e]; exact ⟨rfl, rfl⟩)
instance : DecidableEq Pl := fun a b => if h : a.t = b.t ∧ a.m = b.m then .isTrue (Pl.ext' h.1 h.2) else .isFalse fun e => h (by rw [e]; exact ⟨rfl, rfl⟩)
def TL (a b:List UInt8):Prop:=Lib.compareBytes a b = -1
def DL (a b:M):Prop:=cmpD a b = -1
instance (a b : List UInt8) : Decidable (TL a b) := inferInstanceAs (Decidable (_ = _))
instance (a b : M) : Decidable (DL a b) := inferInstanceAs (Decidable (_ = _))
structure Lin {α:Type} (r:α→α→Prop):Prop where
 irr:∀ a,¬ r a a
 trans:∀ {a b c},r a b→r b c→r a c
 ways:∀ a b,r a b∨a=b∨r b a
theorem linT:Lin TL where
 irr a:=by unfold TL;rw[Order.cmp_self];decide
 trans {a b c} h k:=by
  unfold TL at *;have h1:=Order.cmp_trans a b c (by omega) (by omega);rcases Order.cmp_ways a c with e | e | e
  · exact e
  ·exfalso;have:=Order.cmp_zero _ _ e;subst this;rw[Order.cmp_flip] at k;omega
  omega
 ways a b:=by
  unfold TL;rcases Order.cmp_ways a b with e | e | e
  · exact .inl e
  · exact .inr (.inl (Order.cmp_zero _ _ e))
  exact .inr (.inr (by rw[Order.cmp_flip,e]))
theorem cmpI_iff (x y:Nat):(cmpI x y = -1↔x<y)∧(cmpI x y=0↔x=y)∧(cmpI x y=1↔y<x):=by unfold cmpI;split <;> (try split) <;> omega
theorem cmpI_ways (x y:Nat):cmpI x y = -1∨cmpI x y=0∨cmpI x y=1:=by unfold cmpI;split <;> (try split) <;> simp
theorem dl_iff (a b:M):DL a b↔TL a.p b.p∨(a.p=b.p∧a.n<b.n):=by
 unfold DL TL cmpD;rcases Order.cmp_ways a.p b.p with h | h | h
 · rw[if_pos (by omega),h];simp
 ·rw[if_neg (by omega),h,(cmpI_iff _ _).1];have:=Order.cmp_zero _ _ h;simp[this]
 rw[if_pos (by omega),h];have:a.p≠b.p:=fun e=>by rw[e,Order.cmp_self] at h;omega
 simp[this]
theorem linD:Lin DL where
 irr a:=by rw[dl_iff];rintro (h | h);exact linT.irr _ h;omega
 trans {a b c} h k:=by
  rw[dl_iff] at *;rcases h with h | ⟨h,h'⟩ <;> rcases k with k | ⟨k,k'⟩
  · exact .inl (linT.trans h k)
  · exact .inl (k ▸ h)
  · exact .inl (h ▸ k)
  exact .inr ⟨h.trans k,by omega⟩
 ways a b:=by
  rw[dl_iff,dl_iff];rcases linT.ways a.p b.p with h | h | h
  · exact .inl (.inl h)
  ·rcases Nat.lt_trichotomy a.n b.n with k | k | k
   · exact .inl (.inr ⟨h,k⟩)
   · exact .inr (.inl (M.ext' h k))
   exact .inr (.inr (.inr ⟨h.symm,k⟩))
  exact .inr (.inr (.inl h))
theorem cmpD_ways (a b:M):cmpD a b = -1∨(cmpD a b=0∧a=b)∨(cmpD a b=1∧a≠b∧DL b a):=by
 by_cases e:a=b
 ·refine .inr (.inl ⟨?_,e⟩);subst e;unfold cmpD;rw[Order.cmp_self,if_neg (by omega),(cmpI_iff _ _).2.1]
 by_cases h:cmpD a b = -1
 · exact .inl h
 refine .inr (.inr ⟨?_,e,?_⟩)
 ·unfold cmpD at h ⊢;rcases Order.cmp_ways a.p b.p with k | k | k
  · rw[if_pos (by omega)] at h;omega
  ·rw[if_neg (by omega)] at h ⊢;rcases cmpI_ways a.n b.n with j | j | j
   · omega
   · exact absurd (M.ext' (Order.cmp_zero _ _ k) ((cmpI_iff _ _).2.1.1 j)) e
   exact j
  rw[if_pos (by omega)];exact k
 rcases linD.ways a b with k | k | k
 · exact absurd k h
 · exact absurd k e
 exact k
def Has (R:List It) (t:List UInt8) (m:M):Prop:=∃ x ∈ R,x.t=t∧m ∈ x.d
def PL (a b:Pl):Prop:=TL a.t b.t∨(a.t=b.t∧DL a.m b.m)
end Bag
namespace Coder
open Num YtnpjkmomllkhpaaGreatDoor.Mark Bag
def tx (l:List UInt8):List UInt8:=upL l.length++l
def tb (b:Bool):List UInt8:=[if b then 1 else 0]
def lst {α:Type} (f:α→List UInt8) (L:List α):List UInt8:=upL L.length++L.flatMap f
structure C where
 p:List UInt8
 a:Nat
 b:Nat
structure Cl where
 s:Nat
 t:List UInt8
 g:Bool
def Cl.zero:Cl:=⟨0,[],false⟩
instance : Coe C (Array Value) := ⟨fun x => #[x.p, x.a, x.b]⟩
instance : Coe C (List Value) := ⟨fun x => [x.p, x.a, x.b]⟩
instance : Coe Cl (Array Value) := ⟨fun x => #[x.s, x.t, x.g]⟩
instance : Coe Cl (List Value) := ⟨fun x => [x.s, x.t, x.g]⟩
structure E where
 k:List UInt8
 s:List M
 c:List C
 i:List It
 l:Cl
structure S where
 a:List M
 e:List E
 p:List (List UInt8)
structure O where
 d:Nat
 k:List UInt8
 n:Int
 t:List UInt8
instance : Coe O (Array Value) := ⟨fun x => #[.int .u8 x.d, x.k, .int .i64 x.n, x.t]⟩
instance : Coe O (List Value) := ⟨fun x => [.int .u8 x.d, x.k, .int .i64 x.n, x.t]⟩
def kd (k:List UInt8):Nat:=Text.kind (Text.runes k)
def mk (m:M):List UInt8:=tx m.p++upL m.n
def ct (c:C):List UInt8:=tx c.p++(upL c.a++upL c.b)
def itb (x:It):List UInt8:=tx x.t++lst mk x.d
def cl (c:Cl):List UInt8:=upL c.s++tx c.t++tb c.g
def body (e:E):List UInt8:=if kd e.k=1 then lst ct e.c else if kd e.k=2 then lst itb e.i else if kd e.k=3 then cl e.l else []
def en (e:E):List UInt8:=(tx e.k++lst mk e.s)++body e
def stb (s:S):List UInt8:=lst mk s.a++lst en s.e++lst tx s.p
def dl (b:List M) (s:S):List UInt8:=lst mk b++stb s
def opb (o:O):List UInt8:=upL o.d++tx o.k++upL (turn o.n).toNat++tx o.t
def All {α:Type} (P:α→Prop) (L:List α):Prop:=L.length<18446744073709551616∧∀ x ∈ L,P x
def FM (m:M):Prop:=m.p.length<18446744073709551616∧m.n<18446744073709551616
def FC (c:C):Prop:=c.p.length<18446744073709551616∧c.a<18446744073709551616∧c.b<18446744073709551616
def FI (x:It):Prop:=x.t.length<18446744073709551616∧All FM x.d
def FL (c:Cl):Prop:=c.s<18446744073709551616∧c.t.length<18446744073709551616
structure FE (e:E):Prop where
 k:e.k.length<18446744073709551616
 s:All FM e.s
 c:All FC e.c
 i:All FI e.i
 l:FL e.l
 k1:kd e.k=1→e.i=[]∧e.l=Cl.zero
 k2:kd e.k=2→e.c=[]∧e.l=Cl.zero
 k3:kd e.k=3→e.c=[]∧e.i=[]
 is:kd e.k=1∨kd e.k=2∨kd e.k=3
theorem E.ext' {a b:E} (h1:a.k=b.k) (h2:a.s=b.s) (h3:a.c=b.c) (h4:a.i=b.i) (h5:a.l=b.l):a=b:=by cases a;cases b;simp_all
structure FS (s:S):Prop where
 a:All FM s.a
 e:All FE s.e
 p:All (fun l:List UInt8=>l.length<18446744073709551616) s.p
structure FO (o:O):Prop where
 d:o.d<18446744073709551616
 k:o.k.length<18446744073709551616
 n : -9223372036854775808≤o.n∧o.n≤9223372036854775807
 t:o.t.length<18446744073709551616
end Coder
end Go.Proofs.YtnpjkmomllkhpaaGreatDoor
