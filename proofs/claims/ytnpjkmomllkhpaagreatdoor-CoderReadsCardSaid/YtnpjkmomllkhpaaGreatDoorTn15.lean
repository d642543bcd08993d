/- CoderList, CoderMany, CoderItem, RefWrite, RelyRef. -/
import Derived.Test.YtnpjkmomllkhpaaGreatDoorTn13
import Derived.Test.YtnpjkmomllkhpaaGreatDoorTn14
import Derived.Test.YtnpjkmomllkhpaaGreatDoorTn10
set_option linter.unusedVariables false
set_option linter.unusedSimpArgs false
set_option maxRecDepth 100000
set_option maxHeartbeats 8000000
namespace Go.Proofs.YtnpjkmomllkhpaaGreatDoor
namespace Coder
open RowKit YtnpjkmomllkhpaaGreatDoor.Mark Num Wire Bag
def cE:Row.Enc C:=⟨3,by decide,fun x=>[x.p,x.a,x.b],fun _=>rfl,fun x v hv=>by
 simp only[List.mem_cons,List.not_mem_nil,or_false] at hv;rcases hv with rfl | rfl | rfl <;> rfl⟩
def wE:Row.Enc (List UInt8):=⟨1,by decide,fun x=>[x],fun _=>rfl,fun x v hv=>by
 simp only[List.mem_cons,List.not_mem_nil,or_false] at hv;subst hv;rfl⟩
theorem flat_take {α:Type} (f:α→List UInt8) (L:List α) (k:Nat) (h:k<L.length):(L.take (k+1)).flatMap f=(L.take k).flatMap f++f L[k]:=by
 rw[List.take_succ_eq_append_getElem h,List.flatMap_append,List.flatMap_singleton]
theorem flat_le {α:Type} (f:α→List UInt8) (L:List α) (k:Nat):((L.take k).flatMap f).length≤(L.flatMap f).length:=by
 have h:L.flatMap f=(L.take k).flatMap f++(L.drop k).flatMap f:=by rw[← List.flatMap_append,List.take_append_drop]
 rw[h,List.length_append];omega
theorem mark_row {a:Option Addr} {n:Nat} {w:World} {L:List M} (h:Mark.Lies w a n L):Row.Lies dE w a n L:=by
 refine ⟨h.1,fun hn=>?_⟩;obtain ⟨b,o,e,hc⟩:=h.2 hn;exact ⟨b,o,e,fun j hj i v hv=>match i,hv with
  | 0,hv=>by cases hv;exact (hc j hj).1
  | 1,hv=>by cases hv;exact (hc j hj).2
  | i+2,hv=>by simp[dE,M.cells] at hv⟩
theorem listT {α:Type} (E:Row.Enc α) (f:α→List UInt8) (val:α→Value) (X:α→Prop) {F fn:FuncId} {fd:Func} {nt:Nat} (GF:Tryz.prog.funcs[F]?=some fd) (GN:fd.ntmps=nt)
  {a:Option Addr} {n c:Nat} {L:List α} {w:World} (each:∀ m W,Below w.heap.size w W→X m→CB fn #[val m] W (f m)) (hL:Row.Lies E w a n L) (hn:n≤1048576) (hf:∀ x ∈ L,X x) (hs:(lst f L).length≤70368744177664)
  (script:∀ (H T:List UInt8) (B:Nat→List UInt8),H.length≤10→Hid (cat [n]=H)→Hid (B 0=H)→Hid (B n=T)→Hid (∀ (k:Nat) (h:k<L.length),B (k+1)=B k++f L[k])→Hid (∀ k,(B k).length≤70368744177664)→Hid (Row.Lies E w a n L)→Hid (∀ x ∈ L,X x)→Hid (n=L.length)→IntKind.u64.wrap (n:Int)=(n:Int) →
   Hid (∀ m W,Below w.heap.size w W→X m→CB fn #[val m] W (f m))→Hid (Tryz.prog.funcs[F]?=some fd)→Hid (fd.ntmps=nt)→CB F #[.slice a n c,.func (.func fn) #[] #[]] w T:=by
   intro H T B hH10 HC B0 BN BS BL HN HF HL wn EC GF GN;have gn:=GN.out;refine calls_of_wp GF.out rfl ?_;simp only[gn,List.size_toArray,List.length_cons,List.length_nil,Nat.reduceAdd,Nat.reduceSub,Array.replicate_succ,Array.replicate_zero,List.push_toArray,List.append_toArray,List.nil_append,List.cons_append];clear gn;go_wp2_with fail
   have I0:=Lib.IsBuilderF.of (Lib.fresh_isBuilder 183 5 w);have hb0:Below w.heap.size w (w.alloc (.cells #[.pointer none,.slice none 0 0] 183)):=balloc (Below.refl _ _) _;have hz:(w.alloc (.cells #[.pointer none,.slice none 0 0] 183)).heap.size=w.heap.size+1:=by rw[World.size_alloc]
   change Lib.IsBuilderF _ _ _ _ _ (w.alloc (.cells #[.pointer none,.slice none 0 0] 183)) at I0;generalize w.alloc (.cells #[.pointer none,.slice none 0 0] 183)=w0 at I0 hb0 hz ⊢;have N1:=nats_here [n] (by intro y hy;simp at hy;omega) (C:=#[n]) rfl (t:=25) 1 rfl (Below.refl 0 (w0.alloc (.cells #[n] 25)));rw[hz] at N1;refine cr (nums_w N1 (by omega) H HC.out) fun w1 b1=>?_;have I1:=isB_below (isB_below I0 (balloc (Below.refl _ _) _)) b1;have hb1:=bstep (balloc hb0 _) b1;have hs1:=hb1.size;clear I0 hb0 hz N1 b1;go_wp2_with fail
   refine (Build.writeString_any w.heap.size w.heap.size _ _ _ I1 (by rw[Str.size_mk];simp only[List.length_nil];omega) hs1).mono ?_;rintro e w2 ⟨rfl,I2,b2,_⟩;rw[strCells_mk,List.nil_append,← B0.out] at I2;have hb:=hb1.trans b2;clear I1 hb1 hs1 b2;have HI:=hid I2;clear I2;go_wp2_with fail
   go_loopw [16] (fun i wr=>∃ k:Nat,k≤n∧i=.int .i64 k∧Hid (Lib.IsBuilderF 183 5 w.heap.size w.heap.size (Lib.byteCells (B k)) wr)∧Below w.heap.size w wr) (fun i _=>n - (intOf i).toNat)
   case atStart=>exact ⟨0,by omega,rfl,HI,hb⟩
   clear hb HI;obtain ⟨k,hk,rfl,HI,hb⟩:=hrel;by_cases hlt:k<n
   ·have hkL:k<L.length:=by rw[← HL.out];exact hlt
    obtain ⟨b,off,rfl,hc⟩:=(HN.out.below hb).2 (by omega);replace hc:=hc k hkL;have hf:=HF.out _ (List.getElem_mem hkL);have Hct:=hid (BS.out k hkL);have hle:=BL.out (k+1);rw[Hct.out,List.length_append] at hle;obtain ⟨m,hm⟩:=nm L[k];rw[← hm] at hf Hct hle;first | (obtain ⟨hc0,hc1,hc2,hc3,hc4,hc5,hc6,hc7,hc8,hc9,hc10,hc11,hc12,hc13,hc14⟩:=cl15 (off+k*15) hc;rw[← hm] at hc0 hc1 hc2 hc3 hc4 hc5 hc6 hc7 hc8 hc9 hc10 hc11 hc12 hc13 hc14) | (obtain ⟨hc0,hc1,hc2,hc3,hc4,hc5,hc6⟩:=cl7 (off+k*7) hc;rw[← hm] at hc0 hc1 hc2 hc3 hc4 hc5 hc6) | (obtain ⟨hc0,hc1,hc2⟩:=cl3 (off+k*3) hc;rw[← hm] at hc0 hc1 hc2) | (obtain ⟨hc0,hc1⟩:=cl2 (off+k*2) hc;rw[← hm] at hc0 hc1) | (have hc0:=cl1 (off+k*1) hc;simp only[Nat.mul_one] at hc0;rw[← hm] at hc0)
    have HX:=hid hf;clear hm hc hf;go_wp2_with fail
    refine cr (EC.out m _ (by first | exact hb | exact balloc hb _) HX.out) fun w3 b3=>?_;have I3:Lib.IsBuilderF 183 5 w.heap.size w.heap.size (Lib.byteCells (B k)) w3:=by first | exact isB_below HI.out b3 | exact isB_below (isB_below HI.out (balloc (Below.refl _ _) _)) b3
    have hb3:Below w.heap.size w w3:=by first | exact bstep hb b3 | exact bstep (balloc hb _) b3
    have hs3:=hb3.size;clear HI b3;go_wp2_with fail
    refine (Build.writeString_any w.heap.size w.heap.size _ _ _ I3 (by rw[Lib.byteCells_length,Str.size_mk];omega) hs3).mono ?_;rintro e w4 ⟨rfl,I4,b4,_⟩;rw[strCells_mk,← Lib.byteCells_append,← Hct.out] at I4;have HI:=hid I4;clear I3 I4;go_wp2;go_roundw
    ·exact ⟨k+1,by omega,by go_num,HI,hb3.trans b4⟩
    simp[intOf];omega
   obtain rfl:k=n:=by omega
   have I:=HI.out;rw[BN.out] at I;have hsz:=hb.size;clear HI;go_wp2_with fail
   refine (Tryz.Builder_String_any_k w.heap.size w.heap.size T _ I hsz).mono ?_;rintro e w5 ⟨rfl,_,b5,_⟩;go_wp2;go_ret;exact ⟨rfl,hb.trans b5⟩):CB F #[.slice a n c,.func (.func fn) #[] #[]] w (lst f L):=by
 have e:lst f L=upL n++L.flatMap f:=by unfold lst;rw[← hL.1]
 rw[e,List.length_append] at hs;rw[e];exact script (upL n) _ (fun k=>upL n++(L.take k).flatMap f) (up_len n) (hid (by simp[cat])) (hid (by simp)) (hid (by simp only[List.take_of_length_le (Nat.le_of_eq hL.1.symm)])) (hid fun k h=>by simp only[flat_take f L k h,List.append_assoc]) (hid fun k=>by have:=flat_le f L k;simp only[List.length_append];omega)
  (hid hL) (hid hf) (hid hL.1) (by rw[IntKind.wrap_u64];omega) (hid each) (hid GF) (hid GN)
theorem list_mark (a:Option Addr) (n c:Nat) (L:List M) (w:World) (hL:Mark.Lies w a n L) (hn:n≤1048576) (hf:∀ x ∈ L,x.p.length≤1048576∧x.n≤18446744073709551615) (hs:(lst mk L).length≤70368744177664) :
  CB 99 #[.slice a n c,.func (.func 100) #[] #[]] w (lst mk L) :=
 listT dE mk (fun m=>.agg m) (fun x=>x.p.length≤1048576∧x.n≤18446744073709551615) Tryz.func99 Tryz.ntmps99 (fun m W _ h=>mark_any m W h.1 h.2) (mark_row hL) hn hf hs
theorem list_dot (a:Option Addr) (n c:Nat) (L:List M) (w:World) (hL:Row.Lies dE w a n L) (hn:n≤1048576) (hf:∀ x ∈ L,x.p.length≤1048576∧x.n≤18446744073709551615) (hs:(lst mk L).length≤70368744177664) :
  CB 171 #[.slice a n c,.func (.func 172) #[] #[]] w (lst mk L) :=
 listT dE mk (fun m=>.agg m) (fun x=>x.p.length≤1048576∧x.n≤18446744073709551615) Tryz.func171 Tryz.ntmps171 (fun m W _ h=>dot_any m W h.1 h.2) hL hn hf hs
theorem list_count (a:Option Addr) (n c:Nat) (L:List C) (w:World) (hL:Row.Lies cE w a n L) (hn:n≤1048576) (hf:∀ x ∈ L,x.p.length≤1048576∧x.a≤18446744073709551615∧x.b≤18446744073709551615) (hs:(lst ct L).length≤70368744177664) :
  CB 101 #[.slice a n c,.func (.func 102) #[] #[]] w (lst ct L) :=
 listT cE ct (fun m=>.agg m) (fun x=>x.p.length≤1048576∧x.a≤18446744073709551615∧x.b≤18446744073709551615) Tryz.func101 Tryz.ntmps101 (fun m W _ h=>count_any m W h.1 h.2.1 h.2.2) hL hn hf hs
end Coder
namespace Taker
open RowKit YtnpjkmomllkhpaaGreatDoor.Mark Num Wire Bag Coder
structure Keeps {α:Type} (R:List UInt8→Int→α × List UInt8 × Int):Prop where
 stay:∀ l E,E≠0→(R l E).2=(l,E)
 most:∀ l,(R l 0).2.1.length≤l.length
structure Eats {α:Type} (R:List UInt8→Int→α × List UInt8 × Int):Prop where
 keeps:Keeps R
 less:∀ l,(R l 0).2.2=0→(R l 0).2.1.length<l.length
theorem Keeps.len {α:Type} {R:List UInt8→Int→α × List UInt8 × Int} (h:Keeps R) {l l':List UInt8} {E E':Int} {x:α} (e:R l E=(x,l',E')):l'.length≤l.length:=by
 by_cases h0:E=0
 ·subst h0;have:=h.most l;rw[e] at this;exact this
 have:=h.stay l E h0;rw[e] at this;simp only[Prod.mk.injEq] at this;rw[this.1];exact Nat.le_refl _
theorem keeps_pure {α:Type} (x:α):Keeps (fun l E=>(x,l,E)):=⟨fun _ _ _=>rfl,fun _=>Nat.le_refl _⟩
theorem Keeps.bind {α β:Type} {R:List UInt8→Int→α × List UInt8 × Int} {f:α→List UInt8→Int→β × List UInt8 × Int} (h:Keeps R) (k:∀ x,Keeps (f x)):Keeps (fun l E=>bindR (R l E) f):=by
 refine ⟨fun l E hE=>?_,fun l=>?_⟩
 ·unfold bindR;rw[h.stay l E hE];exact (k _).stay l E hE
 unfold bindR;refine Nat.le_trans ?_ (h.most l);by_cases e:(R l 0).2.2=0
 ·rw[e];exact (k _).most _
 rw[(k (R l 0).1).stay (R l 0).2.1 _ e];exact Nat.le_refl _
theorem Eats.bind {α β:Type} {R:List UInt8→Int→α × List UInt8 × Int} {f:α→List UInt8→Int→β × List UInt8 × Int} (h:Eats R) (k:∀ x,Keeps (f x)):Eats (fun l E=>bindR (R l E) f):=by
 refine ⟨h.keeps.bind k,fun l hl=>?_⟩;unfold bindR at hl ⊢;by_cases e:(R l 0).2.2=0
 ·have:=h.less l e;rw[e];exact Nat.lt_of_le_of_lt ((k _).most _) this
 have:=(k (R l 0).1).stay (R l 0).2.1 _ e;rw[this] at hl;exact absurd hl e
theorem numT_eats {l:List UInt8} {most:Int} (h:(numT l most).2.2=0):0<(numT l most).2.1∧(numT l most).2.1≤l.length:=by
 unfold numT at h ⊢;by_cases e:(rdL l).2.2≠0
 · rw[if_pos e] at h;exact absurd h e
 rw[if_neg e] at h ⊢;have:=rdL_size l (by simpa using e);split at h
 · exact absurd h (by decide)
 rename_i q;rw[if_neg q];exact ⟨this.2,this.1⟩
theorem numS_eats (most:Int):Eats (numS most):=by
 refine ⟨⟨fun l E hE=>by unfold numS;rw[if_pos hE],fun l=>?_⟩,fun l h=>?_⟩
 ·unfold numS;rw[if_neg (by simp)];show (if (numT l most).2.2=0 then _ else _:List UInt8).length≤_
  split
  · rw[List.length_drop];omega
  exact Nat.le_refl _
 unfold numS at h ⊢;rw[if_neg (by simp)] at h ⊢;have:=numT_eats (show (numT l most).2.2=0 from h);simp only[show (numT l most).2.2=0 from h,if_true,List.length_drop];omega
theorem nat_eats:Eats natS:=⟨⟨fun l E hE=>(numS_eats _).keeps.stay l E hE,fun l=>(numS_eats 18446744073709551615).keeps.most l⟩,fun l h=>(numS_eats 18446744073709551615).less l h⟩
theorem small_eats:Eats smallS:=⟨⟨fun l E hE=>(numS_eats _).keeps.stay l E hE,fun l=>(numS_eats 255).keeps.most l⟩,fun l h=>(numS_eats 255).less l h⟩
theorem textT_eats {l:List UInt8} {most:Int} (h:(textT l most).2.2=0):0<(textT l most).2.1∧(textT l most).2.1≤l.length:=by
 refine ⟨?_,textT_size (l:=l) (most:=most) (x:=(textT l most).1) (k:=(textT l most).2.1) (by rw[← h])⟩;unfold textT at h ⊢;by_cases e:(rdL l).2.2≠0
 · rw[if_pos e] at h;exact absurd h e
 rw[if_neg e] at h ⊢;have:=rdL_size l (by simpa using e);split at h
 · exact absurd h (by decide)
 rename_i q1
 rw[if_neg q1];split at h
 · exact absurd h (by decide)
 rename_i q2
 rw[if_neg q2];show 0<(rdL l).2.1+_
 omega
theorem word_eats:Eats wordS:=by
 refine ⟨⟨fun l E hE=>by unfold wordS textS;rw[if_pos hE],fun l=>?_⟩,fun l h=>?_⟩
 ·unfold wordS textS;rw[if_neg (by simp)];show (if (textT l 65536).2.2=0 then _ else _:List UInt8).length≤_
  split
  · rw[List.length_drop];omega
  exact Nat.le_refl _
 unfold wordS textS at h ⊢;rw[if_neg (by simp)] at h ⊢;have:=textT_eats (show (textT l 65536).2.2=0 from h);simp only[show (textT l 65536).2.2=0 from h,if_true,List.length_drop];omega
theorem truth_eats:Eats truthS:=by
 refine ⟨⟨fun l E hE=>by unfold truthS boolS;rw[if_pos hE],fun l=>?_⟩,fun l h=>?_⟩
 ·unfold truthS boolS;rw[if_neg (by simp)];show (if (boolT l).2.2=0 then _ else _:List UInt8).length≤_
  split
  · rw[List.length_drop];omega
  exact Nat.le_refl _
 unfold truthS boolS at h ⊢;rw[if_neg (by simp)] at h ⊢;have h0:(boolT l).2.2=0:=h;simp only[h0,if_true,List.length_drop];cases l with
 | nil=>exact absurd h0 (by decide)
 | cons c r =>
  by_cases q:1<c.toNat
  · simp[boolT,q] at h0
  simp[boolT,q]
theorem mark_eats:Eats markS:=word_eats.bind fun _=>nat_eats.keeps.bind fun _=>keeps_pure _
theorem dot_eats:Eats dotS:=word_eats.bind fun _=>nat_eats.keeps.bind fun _=>keeps_pure _
theorem count_eats:Eats countS:=word_eats.bind fun _=>nat_eats.keeps.bind fun _=>nat_eats.keeps.bind fun _=>keeps_pure _
def loopS {α:Type} (each:List UInt8→Int→α × List UInt8 × Int):Nat→List UInt8→Int→List α × List UInt8 × Int
 | 0,l,E=>([],l,E)
 | n+1,l,E=>if E≠0 then ([],l,E) else bindR (each l E) fun x l1 E1=>bindR (loopS each n l1 E1) fun xs l2 E2=>(x::xs,l2,E2)
def manyS {α:Type} (each:List UInt8→Int→α × List UInt8 × Int) (l:List UInt8) (E:Int):List α × List UInt8 × Int:=bindR (natS l E) fun n l1 E1=>loopS each n l1 E1
theorem loopS_err {α:Type} (each:List UInt8→Int→α × List UInt8 × Int) (n:Nat) (l:List UInt8) {E:Int} (h:E≠0):loopS each n l E=([],l,E):=by
 cases n with
 | zero=>rfl
 | succ n=>show (if E≠0 then _ else _)=_;rw[if_pos h]
theorem loopS_keeps {α:Type} {each:List UInt8→Int→α × List UInt8 × Int} (h:Eats each):∀ n,Keeps (loopS each n)
 | 0=>keeps_pure _
 | n+1=>by
  have q:Keeps (fun l E=>bindR (each l E) fun x l1 E1=>bindR (loopS each n l1 E1) fun xs l2 E2=>(x::xs,l2,E2)):=h.keeps.bind fun x=>(loopS_keeps h n).bind fun xs=>keeps_pure _;refine ⟨fun l E hE=>by rw[loopS_err each _ l hE],fun l=>?_⟩;have e:loopS each (n+1) l 0=bindR (each l 0) fun x l1 E1=>bindR (loopS each n l1 E1) fun xs l2 E2=>(x::xs,l2,E2):=by
   show (if (0:Int)≠0 then _ else _)=_
   rw[if_neg (by simp)]
  rw[e];exact q.most l
theorem many_eats {α:Type} {each:List UInt8→Int→α × List UInt8 × Int} (h:Eats each):Eats (manyS each):=nat_eats.bind fun n=>loopS_keeps h n
theorem own_but {α:Type} {E:Row.Enc α} {te:TypeId} {w w':World} {B b:Nat} {v:Value} {L:List α} (h:Row.Own E te w B v L) (k:But b w w') (hb:b<B):Row.Own E te w' B v L:=by
 refine ⟨h.1,?_⟩;rcases h.2 with h' | ⟨g,cap,cur,e,hB,hg,hr⟩
 · exact .inl h'
 refine .inr ⟨g,cap,cur,e,hB,?_,hr⟩;rw[k.block g (Array.getElem?_eq_some_iff.1 hg).1 (by omega)];exact hg
theorem but_then {w x y:World} {b B:Nat} (h:But b w x) (k:Below B x y) (hB:w.heap.size≤B):But b w y :=
 ⟨k.os.trans h.os,k.tape.trans h.tape,k.output.trans h.output,Nat.le_trans h.size k.size,fun j hj hb=>(k.block j (by omega)).trans (h.block j hj hb)⟩
theorem Box.low {w w':World} {b B:Nat} {vs:List Value} (h:Box w b vs) (k:Below B w w') (hb:b<B):Box w' b vs :=
 ⟨Nat.lt_of_lt_of_le h.1 k.size,fun j v hv=>(k.cell (p:=⟨b,j,none⟩) hb).trans (h.2.1 j v hv),fun j=>(k.frozen (p:=⟨b,j,none⟩) hb).trans (h.2.2 j)⟩
theorem typM:Row.Typ Tryz.prog dE 22 96 (.agg #[.string ⟨#[]⟩,.int .u64 0]) 24:=⟨Tryz.underlying22,Row.info_of (by kernel_rfl),rfl,by decide⟩
theorem typC:Row.Typ Tryz.prog cE 23 98 (.agg #[.string ⟨#[]⟩,.int .u64 0,.int .u64 0]) 32:=⟨Tryz.underlying23,Row.info_of (by kernel_rfl),rfl,by decide⟩
theorem manyT {α β:Type} (E:Row.Enc β) {te ts:TypeId} {z:Value} {bytes:Nat} (TY:Row.Typ Tryz.prog E ts te z bytes) (loc:β→α) (val:β→Value) (Inn:World→Nat→β→Prop) {eachS:List UInt8→Int→α × List UInt8 × Int} (eats:Eats eachS)
  {F fn:FuncId} {fd:Func} {nt:Nat} (GF:Tryz.prog.funcs[F]?=some fd) (GN:fd.ntmps=nt) {b:Nat}
  (each:∀ (l:List UInt8) (E:Int) (W:World),Rd W b l E→l.length≤1048576→∀ y l' E',eachS l E=(y,l',E')→Calls Tryz.prog fn #[.agg #[.pointer (some ⟨b,0,none⟩)]] W fun e w'=>∃ x:β,e=.returned (val x)∧loc x=y∧Inn w' W.heap.size x∧Rd w' b l' E'∧But b W w')
  (ib:∀ B W W' x,Inn W B x→But b W W'→b<B→Inn W' B x) (ibase:∀ B B' W x,Inn W B x→B'≤B→Inn W B' x) (ik:∀ B W W' v ys x,Row.Own E te W B v ys→W.grownBy W' v.ownBlock→Inn W B x→Inn W' B x)
  {l:List UInt8} {E0:Int} {w:World} (h:Rd w b l E0) (hz:l.length≤1048576) {xs:List α} {l':List UInt8} {E':Int} (hn:manyS eachS l E0=(xs,l',E'))
  (script:∀ (n:Nat) (l1:List UInt8) (E1:Int) (P:Nat→List β→List UInt8→Int→Prop) (Q:List β→List UInt8→Int→Prop) (NX:List UInt8→β→List UInt8→Int→Prop) (OW:World→Value→List β→Prop) (IX:World→β→Prop),
   n≤18446744073709551615→Hid (numS 18446744073709551615 l E0=((n:Int),l1,E1))→Hid (P n [] l1 E1)→Hid (∀ ys l1 E1,P 0 ys l1 E1→Q ys l1 E1)→Hid (∀ n ys l1 E1,E1≠0→P n ys l1 E1→Q ys l1 E1) →
   Hid (∀ m ys l1 x l2 E2,P (m+1) ys l1 0→NX l1 x l2 E2→P m (ys++[x]) l2 E2)→Hid (∀ n ys l1,P n ys l1 0→ys.length≤1048576∧l1.length≤1048576) →
   Hid (∀ (l1:List UInt8) (W:World),Rd W b l1 0→l1.length≤1048576→w.heap.size+1≤W.heap.size→Calls Tryz.prog fn #[.agg #[.pointer (some ⟨b,0,none⟩)]] W fun e w'=>∃ (x:β) (l2:List UInt8) (E2:Int),e=.returned (val x)∧NX l1 x l2 E2∧IX w' x∧Rd w' b l2 E2∧But b W w') →
   Hid (∀ W,OW W (.slice none 0 0) [])→Hid (∀ W W' v ys,OW W v ys→But b W W'→OW W' v ys)→Hid (∀ W v ys,OW W v ys→Row.Own E te W (w.heap.size+1) v ys) →
   Hid (∀ W o W' v v' ys x,OW W v ys→IX W x→Row.Own E te W' (w.heap.size+1) v' (ys++[x])→(W.alloc o).grownBy W' v.ownBlock→OW W' v' (ys++[x]))→Hid (Row.Typ Tryz.prog E ts te z bytes)→Hid (Tryz.prog.funcs[F]?=some fd)→Hid (fd.ntmps=nt)→Hid (Rd w b l E0) →
   Calls Tryz.prog F #[.agg #[.pointer (some ⟨b,0,none⟩)],.func (.func fn) #[] #[]] w fun e w'=>∃ (v:Value) (L:List β) (l9:List UInt8) (E9:Int),e=.returned v∧Q L l9 E9∧OW w' v L∧Rd w' b l9 E9∧But b w w':=by
   intro n l1 E1 P Q NX OW IX hn0 Q0 P0 PE PX PN PL EC O0 OB OO OA TY GF GN h;have hlt:=h.out.lt;have gn:=GN.out;refine calls_of_wp GF.out rfl ?_;simp only[gn,List.size_toArray,List.length_cons,List.length_nil,Nat.reduceAdd,Nat.reduceSub,Array.replicate_succ,Array.replicate_zero,List.push_toArray,List.append_toArray,List.nil_append,List.cons_append];clear gn;go_upto_region 2 with (fail)
   obtain ⟨W,hW⟩:=nm (w.alloc (.cells #[.pointer (some ⟨b,0,none⟩)] 124));rw[← hW];have PB:Box W w.heap.size [.pointer (some ⟨b,0,none⟩)]:=by rw[hW];exact Box.new w [.pointer (some ⟨b,0,none⟩)] 124 (by simp)
   have R:=h.out.alloc (.cells #[.pointer (some ⟨b,0,none⟩)] 124);rw[← hW] at R;have K:But b w W:=by rw[hW];exact (But.refl b w).alloc _
   obtain ⟨B,hB⟩:=nm (w.heap.size+1);rw[← hB] at EC OO OA;obtain ⟨bp,hbp⟩:=nm w.heap.size;rw[← hbp] at PB ⊢;have n1:bp≠b:=by omega
   have N1:=hid n1;have NB:Hid (b<B∧w.heap.size≤B∧B=bp+1):=hid (by omega);replace PB:=hid PB;replace R:=hid R;replace K:=hid K;clear hW hbp n1 h hlt hB;have p0:=PB.out.at 0 _ rfl;go_wp2_with fail
   refine (num_any b _ _ 18446744073709551615 _ R.out _ _ _ Q0.out).mono ?_;rintro e w1 ⟨rfl,R1,k1⟩;replace PB:=hid (PB.out.but k1 N1.out);replace K:=hid (K.out.trans k1);replace R:=hid R1;clear k1 R1 p0;have O:=hid (O0.out w1);go_wp2_with fail
   go_loopw [5,6] (fun lv nv wr=>∃ (n:Nat) (v:Value) (ys:List _) (l1:List UInt8) (E1:Int),lv=v∧nv=.int .u64 (n:Nat)∧n≤18446744073709551615∧Hid (P n ys l1 E1)∧Hid (OW wr v ys)∧Hid (Rd wr b l1 E1)∧Hid (But b w wr)∧Hid (Box wr bp [.pointer (some ⟨b,0,none⟩)])) (fun _ nv _=>(intOf nv).toNat)
   case atStart=>exact ⟨n,_,[],l1,E1,rfl,rfl,hn0,P0,O,R,K,PB⟩
   clear O R K PB P0 Q0 hn0;obtain ⟨n,v,ys,l1,E1,rfl,rfl,hn0,HP,O,R,K,PB⟩:=hrel;have p0:=PB.out.at 0 _ rfl;by_cases hz0:n=0
   ·have d1:decide ((0:Int)<(n:Int))=false:=dF;have d2:=dF (p:=0<n);have HE:=hid (PE.out ys l1 E1 (by rw[← hz0];exact HP.out));clear hz0 HP;go_wp2;go_ret;exact ⟨_,ys,_,_,rfl,HE.out,O.out,R.out,K.out⟩
   obtain ⟨m,hm⟩:∃ m,n=m+1:=⟨n - 1,by omega⟩
   have d1:=dT (p:=(0:Int)<(n:Int));have d2:=dT (p:=0<n);have w1:IntKind.u64.wrap ((n:Int) - 1)=(m:Int):=by rw[IntKind.wrap_u64];omega
   have HM:=hid hm;clear hm hz0;go_wp2_with fail
   refine cp (err_any b _ _ _ R.out) ?_;by_cases hE:E1=0;rotate_left
   ·have d3:(E1 == 0)=false:=by rw[beq_eq_false_iff_ne];exact hE
    have HE:=hid (PX.out n ys l1 E1 hE HP.out);clear hE HP;go_wp2;go_ret;exact ⟨_,ys,_,_,rfl,HE.out,O.out,R.out,K.out⟩
   subst hE;have HLY:=hid (PL.out n ys l1 HP.out);go_wp2_with fail
   refine (EC.out l1 _ R.out HLY.out.2 (by have:=NB.out;have:=PB.out.1;omega)).mono ?_;rintro e w3 ⟨x,l2,E2,rfl,nx,ox,R1,k1⟩;replace HP:=hid (PN.out m ys l1 x l2 E2 (by rw[← HM.out];exact HP.out) nx);replace O:=hid (OB.out _ _ _ _ O.out k1);have OX:=hid ox;replace PB:=hid (PB.out.but k1 N1.out);replace K:=hid (K.out.trans k1);replace R:=hid R1;clear k1 R1 p0 ox nx;have HB3:Hid (B≤w3.heap.size):=hid (by have:=NB.out;have:=PB.out.1;omega);go_wp2_with (at_builtin;refine Row.wpList_app (hb:=.inr (by have:=HLY.out;omega)) TY.out rfl _ _ rfl B _ ys rfl ((OO.out _ _ _ O.out).alloc _) _ 1 1 [x] rfl (Row.lies_new _ x _) (by have:=HLY.out;omega) (by have:=HB3.out;rw[World.size_alloc];omega) ?_;intro v9 w9 o9 g9 k9)
   replace O:=hid (OA.out _ _ _ _ _ _ _ O.out OX.out o9 g9);replace k9:=((Below.refl B w3).alloc HB3.out _).trans k9;replace R:=hid (R.out.below k9 NB.out.1);replace PB:=hid (PB.out.low k9 (by have:=NB.out;omega));replace K:=hid (but_then K.out k9 NB.out.2.1);clear k9 g9 o9 OX;go_roundw
   ·exact ⟨m,v9,ys++[x],l2,E2,rfl,by go_num,by have:=HM.out;omega,HP,O,R,K,PB⟩
   simp[intOf];have:=HM.out;omega):Calls Tryz.prog F #[.agg #[.pointer (some ⟨b,0,none⟩)],.func (.func fn) #[] #[]] w fun e w'=>∃ (v:Value) (L:List β),e=.returned v∧L.map loc=xs∧Row.Own E te w' w.heap.size v L∧(∀ z ∈ L,Inn w' w.heap.size z)∧Rd w' b l' E'∧But b w w':=by
 have hlt:=h.lt;obtain ⟨n,l1,E1,q0⟩:=tr (natS l E0);have hn1:=hn;simp only[manyS,bindR,q0] at hn1;have hq:=nat_of (by decide) q0;refine (script n l1 E1 (fun n ys l1 E1=>bindR (loopS eachS n l1 E1) (fun zs l2 E2=>(ys.map loc++zs,l2,E2))=(xs,l',E')∧(E1=0→ys.length+l1.length≤l.length)) (fun ys l1 E1=>ys.map loc=xs∧l1=l'∧E1=E') (fun l1 x l2 E2=>eachS l1 0=(loc x,l2,E2))
  (fun W v ys=>Row.Own E te W (w.heap.size+1) v ys∧∀ z ∈ ys,Inn W (w.heap.size+1) z) (fun W x=>Inn W (w.heap.size+1) x) (by have:=hq.2;omega) (hid hq.1) (hid ⟨by rw[← hn1];rfl,fun e=>by have:=nat_eats.keeps.len q0;simpa using this⟩) (hid ?_) (hid ?_) (hid ?_) (hid ?_) (hid ?_)
  (hid fun W=>⟨Row.Own.nil _ _,fun z hz=>by cases hz⟩) (hid fun W W' v ys o k=>⟨own_but o.1 k (by omega),fun z hz=>ib _ _ _ _ (o.2 z hz) k (by omega)⟩) (hid fun W v ys o=>o.1) (hid ?_) (hid TY) (hid GF) (hid GN) (hid h)).mono ?_
 ·rintro ys l1 E1 ⟨e,-⟩;have e:(ys.map loc++[],l1,E1)=(xs,l',E'):=e;rw[List.append_nil] at e;simpa only[Prod.mk.injEq] using e
 ·rintro n ys l1 E1 hE ⟨e,-⟩;rw[loopS_err _ _ _ hE] at e;have e:(ys.map loc++[],l1,E1)=(xs,l',E'):=e;rw[List.append_nil] at e;simpa only[Prod.mk.injEq] using e
 ·rintro m ys l1 x l2 E2 ⟨e,hl⟩ nx;refine ⟨?_,fun e2=>?_⟩
  ·rw[← e];show _=bindR (if (0:Int)≠0 then _ else bindR (eachS l1 0) fun x l1 E1=>bindR (loopS eachS m l1 E1) fun xs l2 E2=>(x::xs,l2,E2)) _
   rw[if_neg (by simp),nx];simp only[bindR,List.map_append,List.map_cons,List.map_nil,List.append_assoc,List.singleton_append]
  have h1:=eats.less l1 (by rw[nx];exact e2);have h2:=hl rfl;rw[nx] at h1;simp only at h1;simp only[List.length_append,List.length_singleton];omega
 ·rintro n ys l1 ⟨-,hl⟩;have:=hl rfl;omega
 ·intro l1 W hR hl hB;obtain ⟨y,l2,E2,e⟩:=tr (eachS l1 0);refine (each l1 0 W hR hl y l2 E2 e).mono ?_;rintro e' w' ⟨x,rfl,rfl,hi,hr,hk⟩;exact ⟨x,l2,E2,rfl,e,ibase _ _ _ _ hi hB,hr,hk⟩
 ·intro W o W' v v' ys x ho hx ho' hg;refine ⟨ho',fun z hz=>ik _ _ _ _ _ _ (ho.1.alloc o) hg (ib _ _ _ _ ?_ ((But.refl b W).alloc o) (by omega))⟩;rcases List.mem_append.1 hz with hz | hz
  · exact ho.2 z hz
  rw[List.mem_singleton.1 hz];exact hx
 rintro e w' ⟨v,L,l9,E9,rfl,⟨rfl,rfl,rfl⟩,⟨ho,hi⟩,hr,hk⟩;exact ⟨v,L,rfl,rfl,ho.base (by omega),fun z hz=>ibase _ _ _ _ (hi z hz) (by omega),hr,hk⟩
theorem many_mark (b:Nat) (l:List UInt8) (E:Int) (w:World) (h:Rd w b l E) (hz:l.length≤1048576) (xs:List M) (l':List UInt8) (E':Int) (hn:manyS markS l E=(xs,l',E')) :
  Calls Tryz.prog 147 #[.agg #[.pointer (some ⟨b,0,none⟩)],.func (.func 148) #[] #[]] w fun e w'=>∃ v,e=.returned v∧Row.Own dE 96 w' w.heap.size v xs∧Rd w' b l' E'∧But b w w':=by
 refine (manyT dE typM id (fun m=>.agg m) (fun _ _ _=>True) mark_eats Tryz.func147 Tryz.ntmps147 (fun l E W h _ y l' E' hn=>(mark_any b l E W h y l' E' hn).mono fun e w' h=>⟨y,h.1,rfl,trivial,h.2⟩) (fun _ _ _ _ _ _ _=>trivial) (fun _ _ _ _ _ _=>trivial) (fun _ _ _ _ _ _ _ _ _=>trivial) h hz hn).mono ?_;rintro e w' ⟨v,L,rfl,rfl,ho,-,hr⟩;exact ⟨v,rfl,by rw[List.map_id];exact ho,hr⟩
theorem many_dot (b:Nat) (l:List UInt8) (E:Int) (w:World) (h:Rd w b l E) (hz:l.length≤1048576) (xs:List M) (l':List UInt8) (E':Int) (hn:manyS dotS l E=(xs,l',E')) :
  Calls Tryz.prog 213 #[.agg #[.pointer (some ⟨b,0,none⟩)],.func (.func 214) #[] #[]] w fun e w'=>∃ v,e=.returned v∧Row.Own dE 167 w' w.heap.size v xs∧Rd w' b l' E'∧But b w w':=by
 refine (manyT dE typD id (fun m=>.agg m) (fun _ _ _=>True) dot_eats Tryz.func213 Tryz.ntmps213 (fun l E W h _ y l' E' hn=>(dot_any b l E W h y l' E' hn).mono fun e w' h=>⟨y,h.1,rfl,trivial,h.2⟩) (fun _ _ _ _ _ _ _=>trivial) (fun _ _ _ _ _ _=>trivial) (fun _ _ _ _ _ _ _ _ _=>trivial) h hz hn).mono ?_;rintro e w' ⟨v,L,rfl,rfl,ho,-,hr⟩;exact ⟨v,rfl,by rw[List.map_id];exact ho,hr⟩
theorem many_count (b:Nat) (l:List UInt8) (E:Int) (w:World) (h:Rd w b l E) (hz:l.length≤1048576) (xs:List C) (l':List UInt8) (E':Int) (hn:manyS countS l E=(xs,l',E')) :
  Calls Tryz.prog 149 #[.agg #[.pointer (some ⟨b,0,none⟩)],.func (.func 150) #[] #[]] w fun e w'=>∃ v,e=.returned v∧Row.Own cE 98 w' w.heap.size v xs∧Rd w' b l' E'∧But b w w':=by
 refine (manyT cE typC id (fun m=>.agg m) (fun _ _ _=>True) count_eats Tryz.func149 Tryz.ntmps149 (fun l E W h _ y l' E' hn=>(count_any b l E W h y l' E' hn).mono fun e w' h=>⟨y,h.1,rfl,trivial,h.2⟩) (fun _ _ _ _ _ _ _=>trivial) (fun _ _ _ _ _ _=>trivial) (fun _ _ _ _ _ _ _ _ _=>trivial) h hz hn).mono ?_;rintro e w' ⟨v,L,rfl,rfl,ho,-,hr⟩;exact ⟨v,rfl,by rw[List.map_id];exact ho,hr⟩
end Taker
namespace Coder
open RowKit YtnpjkmomllkhpaaGreatDoor.Mark Num Wire Bag
theorem lst_map {α β:Type} (f:β→List UInt8) (h:α→β) (L:List α):lst f (L.map h)=lst (fun x=>f (h x)) L:=by
 unfold lst;rw[List.length_map,List.flatMap_map]
def fI (x:RI):List UInt8:=itb x.it
theorem item_any (x:RI) (w:World) (hi:Inner w x) (hp:x.t.length≤1048576) (hd:x.d.length≤1048576) (hm:∀ m ∈ x.d,m.p.length≤1048576∧m.n≤18446744073709551615) (hs:(fI x).length≤70368744177664) :
  CB 104 #[.agg x] w (fI x):=by
 have hb:=Below.refl w.heap.size w;have lI:=hid hi;clear hi;obtain ⟨p0,hp0⟩:=nm (tx x.t);have b0:p0.length≤1048586:=by rw[hp0];have:=tx_len x.t;omega
 have R0:Hid ([x.t].flatMap tx=p0):=hid (by rw[hp0];simp);obtain ⟨p1,hp1⟩:=nm (lst mk x.d);have z0:=Str.size_mk p0;have z1:=Str.size_mk p1;obtain ⟨C1,hC1⟩:=nm (p0++p1);have HV:Hid (fI x=C1):=hid (by rw[hC1,hp0,hp1];rfl);have lC1:C1.length=p0.length+p1.length:=by rw[hC1,List.length_append]
 have aC1:(({ data:=p0.toArray }:ByteArray))++{ data:=p1.toArray }={ data:=C1.toArray }:=by rw[hC1];exact Str.mk_append_mk p0 p1
 have zC1:=Str.size_mk C1;rw[HV.out] at hs;have b1:p1.length≤70368744177664:=by omega
 have nC1:¬ (9223372036854775807<p0.length+p1.length):=by omega
 have mC1:¬ (p0.length+p1.length > 9223372036854775807):=by omega
 have D6:=hid (fun W (h:Row.Lies dE W x.a x.d.length x.d)=>qS hp1 (list_dot x.a x.d.length x.c x.d W h hd hm (by rw[← hp1];exact b1)));obtain ⟨X0,X1⟩:=al2 (fun i v h=>hid (bx w x 155 i v h));replace hC1:=hid hC1;replace lC1:=hid lC1;clear hp0 hp1 hm hs;go_enter Tryz.func104,Tryz.ntmps104;go_wp2_with fail
 replace lI:=hid ((lI.out).below (balloc (Below.refl _ _) (.cells x 155)));replace hb:=bstep hb (balloc (Below.refl _ _) (.cells x 155));have x0:=X0.out;have x1:=X1.out;clear X0 X1;refine rG (fun w'=>Below w.heap.size w w'∧Row.Lies dE w' x.a x.d.length x.d∧w'.cell? ⟨w.heap.size,0,none⟩=some ↑x.t∧w'.cell? ⟨w.heap.size,1,none⟩=some (.slice x.a x.d.length x.c)) ⟨hb,lI.out,x0,x1⟩ fun wd gH=>?_;refine tk [0,1,4,5] ?_;refine tR 2 fun K hK=>?_;go_simp;refine tA hK gH fun gH=>?_;clear hK K;have N2:=txts_here [x.t] (by intro y hy;simp at hy;subst hy;omega) rfl 1 rfl gH.1;try simp only[World.size_alloc] at N2
 refine tR 3 fun K hK=>?_;go_simp;go_at_call 98;refine cr (texts_w N2 p0 R0.out (by omega) (by omega)) fun v1 k1=>?_;replace N2:=(N2).below rfl k1;go_wp2_with fail
 refine tH hK gH k1 fun gH=>?_;clear hK K k1;refine tR 6 fun K hK=>?_;go_simp;go_at_call 171;refine cr (D6.out _ gH.2.1) fun v2 k2=>?_;replace N2:=(N2).below rfl k2;go_wp2_with fail
 refine tH hK gH k2 fun gH=>?_;clear hK K k2;refine tk [7,8] ?_;refine tD ?_;clear hb lI x0 x1;obtain ⟨hb,lI,x0,x1⟩:=gH;replace lI:=hid lI;go_wp2;go_ret;exact ⟨by rw[HV.out];rfl,hb⟩
theorem list_item (a:Option Addr) (n c:Nat) (L:List RI) (w:World) (hL:Row.Lies iE w a n L) (hn:n≤1048576) (hf:∀ x ∈ L,Inner w x∧x.t.length≤1048576∧x.d.length≤1048576∧(∀ m ∈ x.d,m.p.length≤1048576∧m.n≤18446744073709551615)∧(fI x).length≤70368744177664) (hs:(lst fI L).length≤70368744177664) :
  CB 103 #[.slice a n c,.func (.func 104) #[] #[]] w (lst fI L) :=
 listT iE fI (fun m=>.agg m) (fun x=>Inner w x∧x.t.length≤1048576∧x.d.length≤1048576∧(∀ m ∈ x.d,m.p.length≤1048576∧m.n≤18446744073709551615)∧(fI x).length≤70368744177664) Tryz.func103 Tryz.ntmps103 (fun m W k h=>item_any m W (h.1.below k) h.2.1 h.2.2.1 h.2.2.2.1 h.2.2.2.2) hL hn hf hs
end Coder
namespace RefWrite
open RowKit YtnpjkmomllkhpaaGreatDoor.Mark Num Wire Bag Coder
theorem nums_w {a:Option Addr} {len c:Nat} {l:List Nat} {w:World} (h:Nats w a len l) (hl:len≤1048576) (r:List UInt8) (hr:cat l=r) :
  CB 62 #[.slice a len c] w r:=by
 subst hr;have C:=hid (refnums_any a len c l w h hl);go_enter Tryz.func62,Tryz.ntmps62;go_wp2_with fail
 refine cr C.out fun w1 k=>?_;go_wp2;go_ret;exact ⟨rfl,k⟩
theorem texts_w {a:Option Addr} {len c:Nat} {l:List (List UInt8)} {w:World} (h:Txts w a len (l.map fun n=>⟨n.toArray⟩)) (r:List UInt8) (hr:l.flatMap tx=r) (hrl:r.length≤1099511627776) (hlen:len≤1099511627776) :
  CB 63 #[.slice a len c] w r:=by
 have e:tcat (l.map fun n=>(⟨n.toArray⟩:ByteArray))=r:=by
  rw[← hr];unfold tcat;rw[List.flatMap_map];exact congrArg (fun f=>l.flatMap f) (funext one_mk)
 have C:=hid (reftexts_any a len c _ w h (by rw[e];exact hrl) hlen);rw[e] at C;clear e h;go_enter Tryz.func63,Tryz.ntmps63;go_wp2_with fail
 refine cr C.out fun w1 k=>?_;go_wp2;go_ret;exact ⟨rfl,k⟩
theorem bool_w (b:Bool) (r:List UInt8) (hr:tb b=r) (w:World):CB 111 #[b] w r:=by
 refine cp (refbool_w b w) ?_;refine ⟨?_,Below.refl _ _⟩;rw[← hr];cases b <;> rfl
def acc {α:Type} (f:α→List UInt8) (L:List α) (k:Nat):List UInt8:=upL L.length++(L.take k).flatMap f
theorem acc_zero {α:Type} (f:α→List UInt8) (L:List α):acc f L 0=upL L.length:=by unfold acc;simp
theorem acc_all {α:Type} (f:α→List UInt8) (L:List α) {k:Nat} (h:L.length≤k):acc f L k=lst f L:=by unfold acc lst;rw[List.take_of_length_le h]
theorem acc_step {α:Type} (f:α→List UInt8) {L:List α} {k:Nat} (h:k<L.length):acc f L (k+1)=acc f L k++f L[k]:=by
 unfold acc;rw[List.take_succ_eq_append_getElem h,List.flatMap_append,List.flatMap_singleton,List.append_assoc]
theorem acc_le {α:Type} (f:α→List UInt8) (L:List α) (k:Nat):(acc f L k).length≤(lst f L).length:=by
 unfold acc lst;rw[List.length_append,List.length_append];have:(L.take k).flatMap f++(L.drop k).flatMap f=L.flatMap f:=by rw[← List.flatMap_append,List.take_append_drop]
 have:=congrArg List.length this;rw[List.length_append] at this;omega
theorem marks_any (a:Option Addr) (c:Nat) (L:List M) (w:World) (hL:Mark.Lies w a L.length L) (hn:L.length≤1048576) (hm:∀ m ∈ L,m.p.length≤1048576∧m.n≤18446744073709551615) (hs:(lst mk L).length≤70368744177664) :
  CB 50 #[.slice a L.length c] w (lst mk L):=by
 have lL:=hid hL;have HM:=hid hm;have HS:=hid hs;have w8:IntKind.u64.wrap (L.length:Int)=(L.length:Int):=by rw[IntKind.wrap_u64];omega
 have RN:Hid (cat [L.length]=upL L.length):=hid (by simp[cat]);obtain ⟨p,hp⟩:=nm (upL L.length);rw[← hp] at RN;have hpl:p.length≤10:=by rw[hp];exact up_len _
 have HP0:Hid (p=acc mk L 0):=hid (by rw[hp,acc_zero]);have zp:=Str.size_mk p;have hb:=Below.refl w.heap.size w;clear hL hm hs hp;go_enter Tryz.func50,Tryz.ntmps50;go_wp2_with fail
 have N0:=nats_here [L.length] (by intro y hy;simp at hy;omega) (C:=#[L.length]) (t:=25) rfl 1 rfl (balloc hb _);refine cr (nums_w N0 (by omega) p RN.out) fun w1 k1=>?_;replace hb:=bstep (balloc hb _) k1;replace lL:=hid ((lL.out.below (balloc (Below.refl _ _) _)).below k1);clear k1 N0;go_wp2_with fail
 go_loopw [3,4] (fun sv iv wr=>∃ (k:Nat) (s:List UInt8),k≤L.length∧sv=.string ⟨s.toArray⟩∧iv=.int .i64 k∧Hid (s=acc mk L k)∧Below w.heap.size w wr∧Hid (Mark.Lies wr a L.length L)) (fun _ iv _=>L.length - (intOf iv).toNat)
 case atStart=>exact ⟨0,p,by omega,rfl,rfl,HP0,hb,lL⟩
 clear hb lL HP0 RN hpl zp;obtain ⟨k,s,hk,rfl,rfl,HA,hb,lL⟩:=hrel;by_cases hlt:k<L.length;rotate_left
 ·have HE:Hid (s=lst mk L):=hid (by rw[HA.out,acc_all _ _ (by omega)]);go_wp2;go_ret;exact ⟨by rw[HE.out];rfl,hb⟩
 have d1:=dT (p:=(k:Int)<(L.length:Int));have j1:(0:Int)≤(k:Int):=by omega
 have j2:(k:Int)<(L.length:Int):=by omega
 obtain ⟨b,o,rfl,hc⟩:=lL.out.2 (by omega);obtain ⟨c0,c1⟩:=hc k hlt;have HT:=hid (acc_step mk hlt);have hmk:=HM.out _ (List.getElem_mem hlt);have hal:=acc_le mk L (k+1);rw[HT.out,List.length_append,← HA.out] at hal;obtain ⟨m,hm⟩:=nm L[k];rw[← hm] at c0 c1 HT hmk hal;have hb1:=hmk.1;have hb2:=hmk.2;have hsl:s.length≤70368744177664:=by have:=HS.out;omega
 have zs:=Str.size_mk s;obtain ⟨p0,hp0⟩:=nm (tx m.p);have b0:p0.length≤1048586:=by rw[hp0];have:=tx_len m.p;omega
 have R0:Hid ([m.p].flatMap tx=p0):=hid (by rw[hp0];simp);have z0:=Str.size_mk p0;obtain ⟨p1,hp1⟩:=nm (upL m.n);have b1:p1.length≤10:=by rw[hp1];exact up_len m.n
 have R1:Hid (cat [m.n]=p1):=hid (by rw[hp1];simp[cat]);have z1:=Str.size_mk p1;clear hal;obtain ⟨C1,hC1,lC1,aC1,zC1,nC1,mC1⟩:=apd s p0 (by omega);obtain ⟨C2,hC2,lC2,aC2,zC2,nC2,mC2⟩:=apd C1 p1 (by omega);have HV:Hid (C2=acc mk L (k+1)):=hid (by rw[HT.out,← HA.out,hC2,hC1,hp0,hp1];unfold mk;rw[List.append_assoc]);have HI:=hid hlt;replace hC1:=hid hC1;replace lC1:=hid lC1;replace hC2:=hid hC2;replace lC2:=hid lC2;clear hp0 hp1 hm hc hlt HT HA hmk;go_wp2_with fail
 refine rh (aj4 hb lL.out c0 c1) fun wd gH=>?_;refine tk [0,1,2,3,4,5,9,10,11,12,13] ?_;refine tR2 6 14 (fun K hK=>?_) fun K hK=>?_
 ·
  go_simp;refine tA hK gH fun gH=>?_;clear hK K;have N6:=txts_here [m.p] (by intro y hy;simp at hy;subst hy;omega) rfl 1 rfl gH.1;try simp only[World.size_alloc] at N6
  refine tR2 7 14 (fun K hK=>?_) fun K hK=>?_
  ·
   go_simp;go_at_call 63;refine cr (texts_w N6 p0 R0.out (by omega) (by omega)) fun v1 k1=>?_;replace N6:=(N6).below rfl k1;go_wp2_with fail
   refine tH hK gH k1 fun gH=>?_;clear hK K k1;refine tk [8] ?_;refine tR 14 fun K hK=>?_;go_simp;refine tA hK gH fun gH=>?_;clear hK K;replace N6:=txts_move N6 gH.1;have N14:=nats_here [m.n] (by intro y hy;simp at hy;omega) rfl 1 rfl gH.1;try simp only[World.size_alloc] at N14
   refine tR 15 fun K hK=>?_;go_simp;go_at_call 62;refine cr (nums_w N14 (by omega) p1 R1.out) fun v2 k2=>?_;replace N6:=(N6).below rfl k2;replace N14:=(N14).below rfl k2;go_wp2_with fail
   refine tH hK gH k2 fun gH=>?_;clear hK K k2;refine tk [16,17] ?_;refine tD ?_;clear hb lL c0 c1;obtain ⟨hb,lL,c0,c1⟩:=gH;replace lL:=hid lL;go_wp2;go_roundw
   ·exact ⟨k+1,C2,by have:=HI.out;omega,rfl,by go_num,HV,hb,lL⟩
   simp[intOf];have:=HI.out;omega
  go_simp;refine tA hK gH fun gH=>?_;clear hK K;replace N6:=txts_move N6 gH.1;have N14:=nats_here [m.n] (by intro y hy;simp at hy;omega) rfl 1 rfl gH.1;try simp only[World.size_alloc] at N14
  refine tR 7 fun K hK=>?_;go_simp;go_at_call 63;refine cr (texts_w N6 p0 R0.out (by omega) (by omega)) fun v3 k3=>?_;replace N6:=(N6).below rfl k3;replace N14:=(N14).below rfl k3;go_wp2_with fail
  refine tH hK gH k3 fun gH=>?_;clear hK K k3;refine tk [8] ?_;refine tR 15 fun K hK=>?_;go_simp;go_at_call 62;refine cr (nums_w N14 (by omega) p1 R1.out) fun v4 k4=>?_;replace N6:=(N6).below rfl k4;replace N14:=(N14).below rfl k4;go_wp2_with fail
  refine tH hK gH k4 fun gH=>?_;clear hK K k4;refine tk [16,17] ?_;refine tD ?_;clear hb lL c0 c1;obtain ⟨hb,lL,c0,c1⟩:=gH;replace lL:=hid lL;go_wp2;go_roundw
  ·exact ⟨k+1,C2,by have:=HI.out;omega,rfl,by go_num,HV,hb,lL⟩
  simp[intOf];have:=HI.out;omega
 go_simp;refine tA hK gH fun gH=>?_;clear hK K;have N14:=nats_here [m.n] (by intro y hy;simp at hy;omega) rfl 1 rfl gH.1;try simp only[World.size_alloc] at N14
 refine tR 6 fun K hK=>?_;go_simp;refine tA hK gH fun gH=>?_;clear hK K;replace N14:=nats_move N14 gH.1;have N6:=txts_here [m.p] (by intro y hy;simp at hy;subst hy;omega) rfl 1 rfl gH.1;try simp only[World.size_alloc] at N6
 refine tR 7 fun K hK=>?_;go_simp;go_at_call 63;refine cr (texts_w N6 p0 R0.out (by omega) (by omega)) fun v5 k5=>?_;replace N14:=(N14).below rfl k5;replace N6:=(N6).below rfl k5;go_wp2_with fail
 refine tH hK gH k5 fun gH=>?_;clear hK K k5;refine tk [8] ?_;refine tR 15 fun K hK=>?_;go_simp;go_at_call 62;refine cr (nums_w N14 (by omega) p1 R1.out) fun v6 k6=>?_;replace N14:=(N14).below rfl k6;replace N6:=(N6).below rfl k6;go_wp2_with fail
 refine tH hK gH k6 fun gH=>?_;clear hK K k6;refine tk [16,17] ?_;refine tD ?_;clear hb lL c0 c1;obtain ⟨hb,lL,c0,c1⟩:=gH;replace lL:=hid lL;go_wp2;go_roundw
 ·exact ⟨k+1,C2,by have:=HI.out;omega,rfl,by go_num,HV,hb,lL⟩
 simp[intOf];have:=HI.out;omega
end RefWrite
section
open RowKit Num Wire
section
variable {tab:Nat→Rk}
variable {P:Program} {ops:Array Oper} {Q:Exit→Act→World→Prop} {md:Region.Mode} {S:World→Prop} {listed:Array Bool} {a:Act} {D:List Nat} {i d n:Nat} {l:List Nat} {o:Oper} {A:(Nat→Value)→Value→Act} {B:(Nat→Value)→Act} {p q:List UInt8} {lt:List (List UInt8)} {ln:List Nat} {x:Bool} {fuel:Nat} {w:World}
theorem rrT (d1:Nat) (r:Hid (lt.flatMap Coder.tx=p)) (hs:Sts P md ops Q S tab listed a D l) (e:tab d1=.txt lt n:=by rfl) (ho:ops[i]?=some o:=by simp only[List.getElem?_toArray,List.getElem?_cons_succ,List.getElem?_cons_zero];rfl) (hd:o.dst=some d:=by rfl) (hdep:Rely.depOk md ops listed o [d1]=true:=by kernel_rfl) (hB:∀ f,Rely.fillA a D f=B f:=by intro f;simp only[Rely.fillA,Rely.fill,Act.put,List.setIfInBounds_toArray,List.set_cons_zero,List.set_cons_succ];rfl) (hA:∀ f v,(B f).put (some d) v=A f v:=by intro f v;simp only[Act.put,List.setIfInBounds_toArray,List.set_cons_zero,List.set_cons_succ];rfl)
  (h:∀ f w,S w→∀ b,f d1=.slice (some ⟨b,0,none⟩) n n→Txts w (some ⟨b,0,none⟩) n (lt.map fun n=>⟨n.toArray⟩)→Hid (lt.flatMap Coder.tx=p)→Arm P ops Q S (tab d) o (B f) (A f) w:=by
   intro f wz gH b fb N r K hK;go_simp;go_at_call 63;refine cr (RefWrite.texts_w N _ r.out (by omega) (by omega)) fun w9 k9=>?_;go_wp2_with fail;refine Rely.rK hK gH k9 rfl (by first | rfl | rw[fb])):Sts P md ops Q S tab listed a D (i::l) :=
 Rely.st [d1] (fun f w s hD K hK=>by obtain ⟨b,g,N⟩:=Rk.t hD d1 (by simp) e;exact h f w s b g N r K hK) hs ho hd hdep hB hA
theorem rrN (d1:Nat) (r:Hid (cat ln=p)) (hs:Sts P md ops Q S tab listed a D l) (e:tab d1=.nat ln n:=by rfl) (ho:ops[i]?=some o:=by simp only[List.getElem?_toArray,List.getElem?_cons_succ,List.getElem?_cons_zero];rfl) (hd:o.dst=some d:=by rfl) (hdep:Rely.depOk md ops listed o [d1]=true:=by kernel_rfl) (hB:∀ f,Rely.fillA a D f=B f:=by intro f;simp only[Rely.fillA,Rely.fill,Act.put,List.setIfInBounds_toArray,List.set_cons_zero,List.set_cons_succ];rfl) (hA:∀ f v,(B f).put (some d) v=A f v:=by intro f v;simp only[Act.put,List.setIfInBounds_toArray,List.set_cons_zero,List.set_cons_succ];rfl)
  (h:∀ f w,S w→∀ b,f d1=.slice (some ⟨b,0,none⟩) n n→Nats w (some ⟨b,0,none⟩) n ln→Hid (cat ln=p)→Arm P ops Q S (tab d) o (B f) (A f) w:=by
   intro f wz gH b fb N r K hK;go_simp;go_at_call 62;refine cr (RefWrite.nums_w N (by omega) _ r.out) fun w9 k9=>?_;go_wp2_with fail;refine Rely.rK hK gH k9 rfl (by first | rfl | rw[fb])):Sts P md ops Q S tab listed a D (i::l) :=
 Rely.st [d1] (fun f w s hD K hK=>by obtain ⟨b,g,N⟩:=Rk.n hD d1 (by simp) e;exact h f w s b g N r K hK) hs ho hd hdep hB hA
theorem rrB (r:Hid (Coder.tb x=p)) (hs:Sts P md ops Q S tab listed a D l) (ho:ops[i]?=some o:=by simp only[List.getElem?_toArray,List.getElem?_cons_succ,List.getElem?_cons_zero];rfl) (hd:o.dst=some d:=by rfl) (hB:∀ f,Rely.fillA a D f=B f:=by intro f;simp only[Rely.fillA,Rely.fill,Act.put,List.setIfInBounds_toArray,List.set_cons_zero,List.set_cons_succ];rfl) (hA:∀ f v,(B f).put (some d) v=A f v:=by intro f v;simp only[Act.put,List.setIfInBounds_toArray,List.set_cons_zero,List.set_cons_succ];rfl)
  (h:∀ f w,S w→Hid (Coder.tb x=p)→Arm P ops Q S (tab d) o (B f) (A f) w:=by
   intro f wz gH r K hK;go_simp;go_at_call 111;refine cr (RefWrite.bool_w _ _ r.out _) fun w9 k9=>?_;go_wp2_with fail;refine Rely.rK hK gH k9 rfl rfl):Sts P md ops Q S tab listed a D (i::l) :=
 Rely.st [] (fun f w s _=>h f w s r) hs ho hd rfl hB hA
end
end
end Go.Proofs.YtnpjkmomllkhpaaGreatDoor
