/- MemPlain, MemSplit, MemPaths, MemRow, MemIn, MemFields, MemGone, CoderMember. -/
import Derived.Test.YtnpjkmomllkhpaaGreatDoorTn32
import Derived.Test.YtnpjkmomllkhpaaGreatDoorTn15
set_option linter.unusedVariables false
set_option linter.unusedSimpArgs false
set_option maxRecDepth 100000
set_option maxHeartbeats 40000000
namespace Go.Proofs.YtnpjkmomllkhpaaGreatDoor
namespace Mem
open Num Path Coder
structure Sn where
 f:Int
 t:Int
 deriving DecidableEq
structure Pr where
 b:List UInt8
 n:Nat
 o:List UInt8
 m:Nat
 deriving DecidableEq
def Pr.zero:Pr:=⟨[],0,[],0⟩
structure Pl where
 k:List UInt8
 r:Nat
 l:List UInt8
 a:Pr
 d:Bool
 deriving DecidableEq
def Pl.zero:Pl:=⟨[],0,[],.zero,false⟩
structure Wd where
 o:List UInt8
 h:Nat
 k:List UInt8
 r:Nat
 g:Bool
 c:Nat
 p:Bool
 deriving DecidableEq
structure Mb where
 p:List UInt8
 s:Nat
 k:Int
 c:Int
 l:Nat
 g:List Sn
 q:Pl
 w:List Wd
 deriving DecidableEq
def snb (s:Sn):List UInt8:=upL s.f.toNat++upL s.t.toNat
def prb (p:Pr):List UInt8:=tx p.b++upL p.n++tx p.o++upL p.m
def plb (p:Pl):List UInt8:=tx p.k++upL p.r++tx p.l++prb p.a++tb p.d
def wdb (w:Wd):List UInt8:=tx w.o++upL w.h++tx w.k++upL w.r++tb w.g++upL w.c++tb w.p
def mbb (m:Mb):List UInt8:=tx m.p++(upL m.s++upL m.k.toNat++upL m.c.toNat++upL m.l)++lst snb m.g++plb m.q++lst wdb m.w
def msb (L:List Mb):List UInt8:=lst mbb L
noncomputable def tv (P:Prop):Bool:=@decide P (Classical.propDecidable P)
theorem tv_true {P:Prop} (h:P):tv P=true:=by unfold tv;exact @decide_eq_true P (Classical.propDecidable P) h
theorem tv_false {P:Prop} (h:¬ P):tv P=false:=by unfold tv;exact @decide_eq_false P (Classical.propDecidable P) h
theorem tv_congr {P Q:Prop} (h:P↔Q):tv P=tv Q:=by rw[propext h]
theorem of_tv {P:Prop} (h:tv P=true):P:=by
 by_cases k:P
 · exact k
 rw[tv_false k] at h;cases h
def isP (p:List UInt8):Prop:=parse p≠[]
def numI (p:List UInt8):Int:=((last (parse p):Nat):Int)
def ofM (L:List Mb) (p:List UInt8):Option Mb:=L.find? fun m=>decide (m.p=p)
def InG (g:List Sn) (n:Int):Prop:=∃ s ∈ g,s.f≤n∧n<s.t
def HitM (L:List Mb) (q:List UInt8):Prop:=∃ m,ofM L (parentL q)=some m∧InG m.g (numI q)
def upsT (p:List UInt8):List (List UInt8):=(ups 8 (parse p)).map write
def ForgM (L:List Mb) (p:List UInt8):Prop:=isP p∧∃ q ∈ p::upsT p,HitM L q
def CutM (m:Mb) (p:List UInt8):Prop:=m.s=4∧0<m.c∧m.c≤numI p
def VoidM (L:List Mb) (p:List UInt8):Prop:=∃ m,ofM L (parentL p)=some m∧CutM m p
def VoidU (L:List Mb):List (List UInt8)→Prop
 | []=>False
 | q::r=>(∃ m,ofM L (parentL q)=some m∧CutM m q)∨(ofM L (parentL q)=none∧VoidU L r)
def VoidR (L:List Mb) (p:List UInt8):Prop:=isP p∧VoidU L (p::upsT p)
def FieldsM (m:Mb):Prop:=1≤m.s∧m.s≤4∧0≤m.k∧m.k≤1073741824∧0≤m.c∧m.c≤1073741825∧(0<m.c→m.s=4)∧m.l≤281474976710656∧(0<m.l→3≤m.s)
def SpanAt (k:Int) (g:List Sn) (j:Nat):Prop:=∀ h:j<g.length,1≤(g[j]).f∧(g[j]).f<(g[j]).t∧(g[j]).t≤k+1∧(0<j→∀ h':j - 1<g.length,(g[j - 1]).t<(g[j]).f)
def GoneM (k:Int) (g:List Sn):Prop:=∀ j,j<g.length→SpanAt k g j
def RoundM (n:Nat):Prop:=1≤n∧n≤281474976710656
def cmb:List UInt8→List (List UInt8)
 | []=>[[]]
 | c::r=>if c=44 then []::cmb r else match cmb r with
  | []=>[[c]]
  | x::y=>(c::x)::y
def PathAt (T:List (List UInt8)) (j:Nat):Prop:=∀ h:j<T.length,isP T[j]∧(0<j→∀ h':j - 1<T.length,cmpP T[j - 1] T[j]<0)
def PathsM (l:List UInt8):Prop:=(cmb l).length≤24∧∀ j,j<(cmb l).length→PathAt (cmb l) j
def UnderM (p a:List UInt8):Prop:=under (parse p) (parse a)=true
def BodyM (p:Pl) (t:List UInt8):Prop:=UnderM t p.k∧RoundM p.r∧PathsM p.l∧(if p.a=Pr.zero then p.d=false else p.a.b=t∧UnderM t p.a.o∧p.a.m≤281474976710656∧p.a.n+p.a.m≤281474976710656)
def WordM (w:Wd):Prop:=((w.k=[]∧w.r=0)∨(UnderM w.o w.k∧RoundM w.r))∧w.h≤281474976710656∧w.c≤281474976710656∧(w.c=0∨w.g=true)
def WordAt (L:List Mb) (p:List UInt8) (W:List Wd) (j:Nat):Prop:=∀ h:j<W.length,(0<j→∀ h':j - 1<W.length,cmpP (W[j - 1]).o (W[j]).o<0)∧(∃ x,ofM L (W[j]).o=some x∧x.s=4)∧(W[j]).o≠p∧WordM W[j]
def WordsM (L:List Mb) (p:List UInt8) (W:List Wd):Prop:=∀ j,j<W.length→WordAt L p W j
def BornM (L:List Mb) (p:List UInt8):Prop:=∃ x,ofM L (parentL p)=some x∧numI p≤x.k
def RiseAt (L:List Mb) (i:Nat):Prop:=∀ h:i<L.length,0<i→∀ h':i - 1<L.length,cmpP (L[i - 1]).p (L[i]).p<0
def OneP (L:List Mb) (i:Nat):Prop:=∀ h:i<L.length,isP (L[i]).p∧RiseAt L i∧(0<i→BornM L (L[i]).p)∧¬ ForgM L (L[i]).p∧(VoidM L (L[i]).p→(L[i]).s=4∧(L[i]).c=1) ∧
 FieldsM L[i]∧GoneM (L[i]).k (L[i]).g∧((L[i]).q=Pl.zero∨((L[i]).s=4∧BodyM (L[i]).q (L[i]).p))∧WordsM L (L[i]).p (L[i]).w
def HeadM (L:List Mb):Prop:=1≤L.length∧L.length≤24∧∀ h:0<L.length,(L[0]).p=[49]
def MayP (L:List Mb):Prop:=HeadM L∧(∀ h:0<L.length,(L[0]).s≤2)∧∀ i,i<L.length→OneP L i
def OneR (L:List Mb) (m:Mb):Prop:=isP m.p∧FieldsM m∧(VoidR L m.p→m.s=4∧m.c=1)∧GoneM m.k m.g∧(m.s≠4→m.q=Pl.zero)∧(m.q=Pl.zero∨BodyM m.q m.p)∧WordsM L m.p m.w∧¬ ForgM L m.p ∧
 (if m.p=[49] then m.s≤2 else BornM L m.p)
def MayR (L:List Mb):Prop:=HeadM L∧∀ i,i<L.length→∀ h:i<L.length,OneR L L[i]∧RiseAt L i
theorem rise_head {L:List Mb}:∀ {i:Nat},(∀ j,j≤i→RiseAt L j)→0<i→∀ (h:i<L.length) (h0:0<L.length),cmpP (L[0]).p (L[i]).p<0
 | 0,_,h,_,_=>absurd h (by omega)
 | 1,hr,_,h,h0=>hr 1 (Nat.le_refl _) h (by omega) h0
 | i+2,hr,_,h,h0=>by
  have a:=rise_head (i:=i+1) (fun j hj=>hr j (by omega)) (by omega) (by omega) h0;have b:cmpP (L[i+1]).p (L[i+2]).p<0:=hr (i+2) (Nat.le_refl _) h (by omega) (by omega);have c:=cmpP_trans _ _ _ (Int.le_of_lt a) (Int.le_of_lt b);rcases cmpP_ways (L[0]).p (L[i+2]).p with e | e | e
  · omega
  ·have q:=cmpP_zero _ _ e;rw[q,cmpP_flip] at a;exfalso;omega
  exfalso;omega
theorem parse_one:parse [49]=[1]:=by decide +kernel
theorem head_not {L:List Mb} (hh:HeadM L) (hr:∀ j,j<L.length→RiseAt L j) {i:Nat} (h:i<L.length) (hi:0<i):(L[i]).p≠[49]:=fun e=>by
 have a:=rise_head (i:=i) (fun j hj=>hr j (by omega)) hi h (by omega);rw[hh.2.2 (by omega),e,cmpP_self] at a;omega
theorem void_first {L:List Mb} {p:List UInt8} (hp:isP p) (h:(∃ x,ofM L (parentL p)=some x)∨upsT p=[]):VoidR L p↔VoidM L p:=by
 unfold VoidR VoidM;rcases h with ⟨x,hx⟩ | h
 ·constructor
  ·rintro ⟨_,h | h⟩
   · exact h
   rw[hx] at h;cases h.1
  exact fun h=>⟨hp,.inl h⟩
 rw[h];constructor
 ·rintro ⟨_,h | h⟩
  · exact h
  exact h.2.elim
 exact fun h=>⟨hp,.inl h⟩
theorem may_iff (L:List Mb):MayP L↔MayR L:=by
 have h1:upsT [49]=[]:=by unfold upsT;rw[parse_one];rfl
 constructor
 ·rintro ⟨hh,hs,ha⟩;have hr:∀ j,j<L.length→RiseAt L j:=fun j hj=>(ha j hj hj).2.1;refine ⟨hh,fun i _ hi=>⟨?_,hr i hi⟩⟩;obtain ⟨a1,a2,a3,a4,a5,a6,a7,a8,a9⟩:=ha i hi hi;by_cases h0:0<i
  ·have hn:=head_not hh hr hi h0;have hb:=a3 h0;have hv:=void_first a1 (.inl ⟨_,hb.choose_spec.1⟩);exact ⟨a1,a6,fun h=>a5 (hv.1 h),a7,fun h=>a8.elim id fun k=>absurd k.1 h,a8.imp id fun k=>k.2,a9,a4,by rw[if_neg hn];exact hb⟩
  obtain rfl:i=0:=by omega
  have hp:=hh.2.2 hi;have hv:=void_first (L:=L) a1 (.inr (by rw[hp];exact h1));exact ⟨a1,a6,fun h=>a5 (hv.1 h),a7,fun h=>a8.elim id fun k=>absurd k.1 h,a8.imp id fun k=>k.2,a9,a4,by rw[if_pos hp];exact hs hi⟩
 rintro ⟨hh,ha⟩;have hr:∀ j,j<L.length→RiseAt L j:=fun j hj=>(ha j hj hj).2;refine ⟨hh,fun h=>?_,fun i _ hi=>?_⟩
 ·have:=(ha 0 h h).1.2.2.2.2.2.2.2.2;rwa [if_pos (hh.2.2 h)] at this
 obtain ⟨⟨a1,a6,a5,a7,a8,a8',a9,a4,a3⟩,a2⟩:=ha i hi hi;have hq:(L[i]).q=Pl.zero∨((L[i]).s=4∧BodyM (L[i]).q (L[i]).p):=by
  by_cases h4:(L[i]).s=4
  · exact a8'.imp id fun k=>⟨h4,k⟩
  exact .inl (a8 h4)
 by_cases h0:0<i
 ·have hn:=head_not hh hr hi h0;rw[if_neg hn] at a3;have hv:=void_first a1 (.inl ⟨_,a3.choose_spec.1⟩);exact ⟨a1,a2,fun _=>a3,a4,fun h=>a5 (hv.2 h),a6,a7,hq,a9⟩
 obtain rfl:i=0:=by omega
 have hp:=hh.2.2 hi;have hv:=void_first (L:=L) a1 (.inr (by rw[hp];exact h1));exact ⟨a1,a2,fun h=>absurd h h0,a4,fun h=>a5 (hv.2 h),a6,a7,hq,a9⟩
end Mem
namespace Mem
open RowKit Num Path Coder
theorem cmb_cons (c:UInt8) (r:List UInt8):cmb (c::r)=if c=44 then []::cmb r else match cmb r with
  | []=>[[c]]
  | x::y=>(c::x)::y:=rfl
theorem cmb_ne:∀ l,cmb l≠[]
 | []=>by simp[cmb]
 | c::r=>by
  rw[cmb_cons];by_cases h:c=44
  · rw[if_pos h];simp
  rw[if_neg h];cases cmb r <;> simp
theorem cmb_index:∀ l:List UInt8,(Lib.indexByte l 44<0∧cmb l=[l])∨(∃ i:Nat,Lib.indexByte l 44=(i:Int)∧i<l.length∧cmb l=l.take i::cmb (l.drop (i+1)))
 | []=>.inl ⟨by simp[Lib.indexByte],rfl⟩
 | c::r=>by
  rw[cmb_cons];unfold Lib.indexByte;by_cases h:c=44
  · exact .inr ⟨0,by simp[h],by simp,by simp[h]⟩
  rcases cmb_index r with ⟨h1,h2⟩ | ⟨i,h1,h2,h3⟩
  ·refine .inl ⟨?_,?_⟩
   · simp[h];omega
   simp[h,h2]
  refine .inr ⟨i+1,?_,by simp;omega,?_⟩
  · simp[h];omega
  simp[h,h3]
theorem cmb_count:∀ l:List UInt8,(cmb l).length=l.count 44+1
 | []=>rfl
 | c::r=>by
  have ih:=cmb_count r;rw[cmb_cons];by_cases h:c=44
  ·subst h;rw[if_pos rfl,List.length_cons,ih,List.count_cons_self]
  rw[if_neg h,List.count_cons_of_ne (fun e=>h (by simpa using e))];cases hc:cmb r with
  | nil=>exact absurd hc (cmb_ne r)
  | cons x y=>rw[hc] at ih;simpa using ih
theorem cmb_len:∀ (l:List UInt8),∀ x ∈ cmb l,x.length≤l.length
 | [],x,h=>by simp[cmb] at h;simp[h]
 | c::r,x,h=>by
  have ih:=cmb_len r;rw[cmb_cons] at h;by_cases hc:c=44
  ·rw[if_pos hc] at h;rcases List.mem_cons.1 h with rfl | h
   · simp
   have:=ih x h;simp;omega
  rw[if_neg hc] at h;cases e:cmb r with
  | nil=>exact absurd e (cmb_ne r)
  | cons u v =>
   rw[e] at h ih;simp only at h;rcases List.mem_cons.1 h with rfl | h
   · have:=ih u (List.mem_cons_self ..);simp;omega
   have:=ih x (List.mem_cons_of_mem _ h);simp;omega
theorem count_le (l:List UInt8):(cmb l).length≤l.length+1:=by rw[cmb_count];have:=List.count_le_length (a:=(44:UInt8)) (l:=l);omega
def Arr2 (W:World) (b n:Nat) (D:List (List UInt8)):Prop:=∀ j,j<n→W.cell? ⟨b,j,none⟩=some ↑(D.getD j [])∧W.frozen? ⟨b,j,none⟩=false
theorem Arr2.set {W:World} {b n:Nat} {D:List (List UInt8)} (h:Arr2 W b n D) {i:Nat} (hi:i=D.length) (x:List UInt8):Arr2 (W.setCell ⟨b,i,none⟩ (.string ⟨x.toArray⟩)) b n (D++[x]):=fun j hj=>by
 refine ⟨?_,by rw[World.frozen?_setCell];exact (h j hj).2⟩;rw[Path.cell_set _ _ _ _ _ (h j hj).1];by_cases e:i=j
 · subst e;rw[if_pos rfl,hi];simp
 rw[if_neg (fun k=>e (by cases k;rfl))];have:j<D.length∨D.length<j:=by omega
 rcases this with h | h
 · simp[List.getElem?_append_left h]
 rw[List.getD_eq_getElem?_getD,List.getD_eq_getElem?_getD,List.getElem?_eq_none (by omega),List.getElem?_eq_none (by simp;omega)]
theorem Arr2.lies {W:World} {b n:Nat} {D:List (List UInt8)} (h:Arr2 W b n D) (hn:D.length≤n):Words.Lies W (some ⟨b,0,none⟩) D.length D:=by
 refine Words.Lies.of_cells fun j hj=>?_;have:=(h j (by omega)).1;rw[Nat.zero_add,this,List.getD_eq_getElem?_getD,List.getElem?_eq_getElem hj];rfl
theorem make_strs (n:Nat) (h:n≤65536) (w:World):(Instr.makeSlice 31 (.int .i64 (n:Int)) (.int .i64 (n:Int))).run Tryz.prog w=.ok (.slice (some ⟨w.heap.size,0,none⟩) n n) (w.alloc (.cells (madeCells #[.string ⟨#[]⟩] n) 9)):=by
 obtain ⟨i0,hi,hz0,hz1,hz2⟩:=Row.info_of Words.info_str;have hr:=run_make (P:=Tryz.prog) w 31 9 i0 (.string ⟨#[]⟩) Tryz.underlying31 hi hz0 .i64 .i64 (n:Int) (n:Int) (by omega) (by omega) (by rw[hz2];omega) (by omega);rw[hr,Int.toNat_natCast,hz1,Nat.mul_one];rfl
theorem Arr2.new (w:World) (n:Nat):Arr2 (w.alloc (.cells (madeCells #[.string ⟨#[]⟩] n) 9)) w.heap.size n []:=fun j hj=>by
 have h1:=heap_alloc_new w (.cells (madeCells #[.string ⟨#[]⟩] n) 9);refine ⟨?_,frozen_of_row _ _ j _ _ h1⟩;rw[cell_of_row _ _ j _ _ _ h1,← Array.getElem?_toList,toList_madeCells_one,List.getElem?_replicate,if_pos hj];rfl
theorem index_any' (s:List UInt8) (w:World):Calls Tryz.prog 269 #[s,.string ⟨#[44]⟩] w fun e w'=>e=.returned (.int .i64 (Lib.indexByte s 44))∧w'=w:=by
 have C:=hid (fun W=>Tryz.stringslite_Index_one ⟨s.toArray⟩ 44 W);simp only at C;go_enter Tryz.func269,Tryz.ntmps269;go_wp2_with fail
 refine cq (C.out _) ?_;go_wp2;go_ret;exact ⟨rfl,rfl⟩
theorem gen_any (l:List UInt8) (w:World) (hl:l.length≤1048576) (hc:(cmb l).length≤24) :
  Calls Tryz.prog 270 #[l,.string ⟨#[44]⟩,.int .i64 0,.int .i64 (-1)] w fun e w'=>∃ b c,e=.returned (.slice (some ⟨b,0,none⟩) (cmb l).length c)∧w.heap.size≤b∧Words.Lies w' (some ⟨b,0,none⟩) (cmb l).length (cmb l)∧Below w.heap.size w w':=by
 have hsz:=Str.size_mk l;have hln:=count_le l;have C0:=hid (fun W=>Tryz.strings_Count_one ⟨l.toArray⟩ 44 W);have hcn:(cmb l).length=Lib.countByte (⟨l.toArray⟩:ByteArray).data.toList 44+1:=cmb_count l;obtain ⟨k,hk⟩:=nm (Lib.countByte (⟨l.toArray⟩:ByteArray).data.toList 44);rw[← hk] at C0 hcn;obtain ⟨T,hT⟩:=nm (cmb l);have HT:=hid hT;have HTN:Hid (T.length=k+1):=hid (by rw[hT];exact hcn);have HK:Hid (k≤23∧k≤l.length):=hid (by omega);have d0:IntKind.i64.wrap ((k:Int)+1)=(k:Int)+1:=by rw[IntKind.wrap_i64];omega
 have d1:IntKind.i64.wrap ((l.length:Int)+1)=(l.length:Int)+1:=by rw[IntKind.wrap_i64];omega
 have d2:IntKind.i64.wrap ((k:Int)+1 - 1)=(k:Int):=by rw[IntKind.wrap_i64];omega
 have d3:min (k:Int) (l.length:Int)=(k:Int):=by omega
 have HM:=hid (fun W=>(by have q:=make_strs (k+1) (by omega) W;simpa using q:(Instr.makeSlice 31 (.int .i64 ((k:Int)+1)) (.int .i64 ((k:Int)+1))).run Tryz.prog W=.ok (.slice (some ⟨W.heap.size,0,none⟩) (k+1) (k+1)) (W.alloc (.cells (madeCells #[.string ⟨#[]⟩] (k+1)) 9))));have hm:=HM.out;rw[← hT];clear hcn hln hk hT;go_enter Tryz.func270,Tryz.ntmps270;go_wp2_with fail
 refine cq (C0.out _) ?_;go_upto_region 10 with fail
 have A0:=Arr2.new w (k+1);have hb:=balloc (Below.refl w.heap.size w) (.cells (madeCells #[.string ⟨#[]⟩] (k+1)) 9);obtain ⟨W0,hW0⟩:=nm (w.alloc (.cells (madeCells #[.string ⟨#[]⟩] (k+1)) 9));rw[← hW0] at A0 hb ⊢;obtain ⟨b,hbb⟩:=nm w.heap.size;have HB:Hid (w.heap.size≤b):=hid (by omega);rw[← hbb] at A0 ⊢;have A1:=hid A0;clear hW0 hbb A0 hm d3;go_wp2_with fail
 go_loopw [0,10] (fun sv iv wr=>∃ (i:Nat) (s:List UInt8) (D:List (List UInt8)),sv=.string ⟨s.toArray⟩∧iv=.int .i64 i∧Hid (D.length=i)∧Hid (T=D++cmb s)∧Hid (s.length≤l.length)∧Hid (Arr2 wr b (k+1) D)∧Below w.heap.size w wr) (fun _ iv _=>k - (intOf iv).toNat)
 case atStart=>exact ⟨0,l,[],rfl,rfl,hid rfl,hid HT.out,hid (Nat.le_refl _),A1,hb⟩
 clear hb A1;obtain ⟨i,s,D,rfl,rfl,HD,HE,HS,A,hb⟩:=hrel;have hss:=Str.size_mk s;have hsl:=HS.out;have hkk:=HK.out;have hlen:i+(cmb s).length=k+1:=by have q:=congrArg List.length HE.out;rw[List.length_append,HD.out,HTN.out] at q;omega
 have hne:=List.length_pos_iff.2 (cmb_ne s);have e1:(0:Int)≤(i:Int):=by omega
 have e2:(i:Int)<(k:Int)+1:=by omega
 have e3:(i:Int)<((k+1:Nat):Int):=by omega
 have CI:=hid (fun W=>index_any' s W);by_cases hlt:i<k
 ·have d4:decide ((i:Int)<(k:Int))=true:=dT;rcases cmb_index s with ⟨h1,h2⟩ | ⟨m,h1,h2,h3⟩
  · rw[h2] at hlen;simp at hlen;omega
  rw[h1] at CI;have d5:=dF (p:=(m:Int)<0);have q1:=slice_upto s m;have q2:=slice_from s (m+1);have w8:IntKind.i64.wrap ((m:Int)+1)=(m:Int)+1:=by rw[IntKind.wrap_i64];omega
  have m0:(0:Int)≤(m:Int):=by omega
  have m1:(m:Int)≤(s.length:Int):=by omega
  have m2:(m:Int)+1≤(s.length:Int):=by omega
  have m3:(0:Int)≤(m:Int)+1:=by omega
  have ac:=(A.out i (by omega)).1;have af:=(A.out i (by omega)).2;have HE2:Hid (T=(D++[s.take m])++cmb (s.drop (m+1))):=hid (by rw[HE.out,h3,List.append_assoc];rfl);have HS2:Hid ((s.drop (m+1)).length≤l.length):=hid (by rw[List.length_drop];omega);have HLT:=hid hlt;clear h1 h2 h3 hlen hne;go_wp2_with fail
  refine cq (CI.out _) ?_;go_wp2;go_roundw
  ·exact ⟨i+1,s.drop (m+1),D++[s.take m],rfl,by go_num,hid (by rw[List.length_append,HD.out];rfl),HE2,HS2,hid (A.out.set HD.out.symm _),hb.setCell HB.out _⟩
  have:=HLT.out;simp[intOf];omega
 have hik:i=k:=by omega
 subst hik;have d4:=dF (p:=(i:Int)<(i:Int));have hs1:cmb s=[s]:=by
  rcases cmb_index s with ⟨_,h2⟩ | ⟨m,h1,h2,h3⟩
  · exact h2
  rw[h3,List.length_cons] at hlen;have:=List.length_pos_iff.2 (cmb_ne (s.drop (m+1)));omega
 have HE2:Hid (T=D++[s]):=hid (by rw[HE.out,hs1]);have ac:=(A.out i (by omega)).1;have af:=(A.out i (by omega)).2;have x1:(0:Int)≤(i:Int)+1:=by omega
 have x2:(i:Int)+1≤(i:Int)+1:=by omega
 have w9:IntKind.i64.wrap ((i:Int)+1)=(i:Int)+1:=by rw[IntKind.wrap_i64];omega
 clear hs1 hlen hne hlt CI;go_wp2;go_ret;have A2:=A.out.set HD.out.symm s;have L2:=A2.lies (by rw[List.length_append,HD.out];exact Nat.le_refl _);rw[← HE2.out] at L2;exact ⟨b,_,by rw[HTN.out];rfl,HB.out,L2,hb.setCell HB.out _⟩
theorem split_any (l:List UInt8) (w:World) (hl:l.length≤1048576) (hc:(cmb l).length≤24) :
  Calls Tryz.prog 243 #[l,.string ⟨#[44]⟩] w fun e w'=>∃ b c,e=.returned (.slice (some ⟨b,0,none⟩) (cmb l).length c)∧w.heap.size≤b∧Words.Lies w' (some ⟨b,0,none⟩) (cmb l).length (cmb l)∧Below w.heap.size w w':=by
 have C:=hid (fun W=>gen_any l W hl hc);obtain ⟨T,hT⟩:=nm (cmb l);rw[← hT] at C ⊢;clear hT;go_enter Tryz.func243,Tryz.ntmps243;go_wp2_with fail
 refine (C.out _).mono ?_;rintro e w' ⟨b,c,rfl,h1,h2,k⟩;go_wp2;go_ret;exact ⟨b,c,rfl,h1,h2,k⟩
theorem cmb_free:∀ (u:List UInt8),(∀ c ∈ u,c≠44)→cmb u=[u]
 | [],_=>rfl
 | c::u,h=>by
  rw[cmb_cons,if_neg (h c (List.mem_cons_self ..)),cmb_free u fun x hx=>h x (List.mem_cons_of_mem _ hx)]
theorem cmb_more:∀ (u v:List UInt8),(∀ c ∈ u,c≠44)→cmb (u++44::v)=u::cmb v
 | [],v,_=>rfl
 | c::u,v,h=>by
  rw[List.cons_append,cmb_cons,if_neg (h c (List.mem_cons_self ..)),cmb_more u v fun x hx=>h x (List.mem_cons_of_mem _ hx)]
def seg (l:List UInt8) (a e:Nat):List UInt8:=(l.take e).drop a
theorem seg_free {l:List UInt8} {a e:Nat} (h:∀ j,a≤j→j<e→l[j]?≠some 44):∀ c ∈ seg l a e,c≠44:=by
 intro c hc e1;subst e1;obtain ⟨j,hj,hx⟩:=List.mem_iff_getElem.1 hc;unfold seg at hj hx;rw[List.length_drop,List.length_take] at hj;rw[List.getElem_drop,List.getElem_take] at hx;refine h (a+j) (by omega) (by omega) ?_;rw[List.getElem?_eq_getElem (by omega),hx]
theorem seg_end {l:List UInt8} {a:Nat} (h:∀ j,a≤j→j<l.length→l[j]?≠some 44):cmb (l.drop a)=[seg l a l.length]:=by
 have e:seg l a l.length=l.drop a:=by unfold seg;rw[List.take_length]
 rw[e];exact cmb_free _ (by rw[← e];exact seg_free h)
theorem seg_comma {l:List UInt8} {a e:Nat} (ha:a≤e) (h:∀ j,a≤j→j<e→l[j]?≠some 44) (he:e<l.length) (hc:l[e]=44):cmb (l.drop a)=seg l a e::cmb (l.drop (e+1)):=by
 have h1:l.drop a=seg l a e++44::l.drop (e+1):=by
  have h2:l=l.take e++44::l.drop (e+1):=by rw[← hc,← List.drop_eq_getElem_cons he,List.take_append_drop]
  unfold seg;conv=>lhs;rw[h2]
  rw[List.drop_append_of_le_length (by rw[List.length_take];omega)]
 rw[h1];exact cmb_more _ _ (seg_free h)
theorem slice_seg (l:List UInt8) (a e:Nat):({ data:=l.toArray }:ByteArray).extract a e={ data:=(seg l a e).toArray }:=Str.ext (by
 rw[Str.extract_toList,List.toList_toArray,List.toList_toArray];rfl)
theorem seg_len (l:List UInt8) (a e:Nat):(seg l a e).length≤l.length:=by unfold seg;rw[List.length_drop,List.length_take];omega
def StP (T:List (List UInt8)) (l:List UInt8) (n a:Nat):Prop:=(a≤l.length∧T.drop n=cmb (l.drop a)∧n<T.length)∨(l.length<a∧n=T.length)
theorem path_at {T:List (List UInt8)} {k:Nat} (hk:k<T.length) (h1:isP T[k]) (h2:0<k→∀ h':k - 1<T.length,cmpP T[k - 1] T[k]<0):PathAt T k:=fun _=>⟨h1,h2⟩
theorem upto_succ {A:Nat→Prop} {k:Nat} (h:∀ j,j<k→A j) (k1:A k):∀ j,j<k+1→A j:=fun j hj=>by
 rcases Nat.lt_or_ge j k with a | a
 · exact h j a
 obtain rfl:j=k:=by omega
 exact k1
theorem paths_any (l:List UInt8) (w:World) (hl:l.length≤1048576) :
  CB 191 #[l] w (tv (PathsM l)):=by
 have C0:=hid (fun W=>(Tryz.strings_Count_one ⟨l.toArray⟩ 44 W).mono (R':=fun e W'=>e=.returned (.int .i64 (Lib.countByte (⟨l.toArray⟩:ByteArray).data.toList 44))∧W=W') (fun _ _ h=>⟨h.1,h.2.symm⟩));have hcn:(cmb l).length=Lib.countByte (⟨l.toArray⟩:ByteArray).data.toList 44+1:=cmb_count l;obtain ⟨n,hn⟩:=nm (Lib.countByte (⟨l.toArray⟩:ByteArray).data.toList 44);rw[← hn] at C0 hcn;have hb:=Below.refl w.heap.size w;by_cases h:24≤n
 ·have d1:decide ((n:Int)≥24)=true:=dT;have d2:=dT (p:=(24:Int)≤(n:Int));have HE:Hid (tv (PathsM l)=false):=hid (tv_false fun f=>by have:=f.1;omega);clear hn hcn h;go_enter Tryz.func191,Tryz.ntmps191;go_wp2_with fail
  refine cp (C0.out _) ?_;go_wp2;go_ret;exact ⟨by rw[HE.out];rfl,hb⟩
 have d1:=dF (p:=(n:Int)≥24);have d2:=dF (p:=(24:Int)≤(n:Int));have C1:=hid (fun W=>split_any l W hl (by omega));obtain ⟨T,hT⟩:=nm (cmb l);have HTL:Hid (∀ s ∈ T,s.length≤1099511627776):=hid (by rw[hT];intro s hs;have:=cmb_len l s hs;omega);have HTN:Hid (T.length≤24):=hid (by rw[hT];omega);have HPM:Hid (PathsM l↔∀ j,j<T.length→PathAt T j):=hid (by rw[hT];exact ⟨fun f=>f.2,fun f=>⟨by omega,f⟩⟩);rw[← hT] at C1;clear hn hcn h hT;go_enter Tryz.func191,Tryz.ntmps191;go_wp2_with fail
 refine cp (C0.out _) ?_;go_wp2_with fail
 refine (C1.out _).mono ?_;rintro e w2 ⟨b,c,rfl,-,LT,k2⟩;replace LT:=hid LT;replace hb:=bstep hb k2;clear k2;go_wp2_with fail
 go_loopw [13] (fun iv wr=>∃ k:Nat,k≤T.length∧iv=.int .i64 k∧Hid (∀ j,j<k→PathAt T j)∧Below w.heap.size w wr∧Hid (Words.Lies wr (some ⟨b,0,none⟩) T.length T)) (fun iv _=>T.length - (intOf iv).toNat)
 case atStart=>exact ⟨0,by omega,rfl,hid (fun j h=>absurd h (by omega)),hb,LT⟩
 clear hb LT;obtain ⟨k,hk,rfl,HI,hb,LT⟩:=hrel;by_cases hlt:k<T.length;rotate_left
 ·have d3:decide ((k:Int)<(T.length:Int))=false:=dF;have HE:Hid (tv (PathsM l)=true):=hid (tv_true (HPM.out.2 fun j hj=>HI.out j (by omega)));clear HI;go_wp2;go_ret;exact ⟨by rw[HE.out];rfl,hb⟩
 obtain ⟨b9,o9,e9,hcell⟩:=Words.words_at LT.out (by omega);obtain ⟨rfl,rfl⟩:b=b9∧0=o9:=by simpa using e9
 have d3:=dT (p:=(k:Int)<(T.length:Int));have j1:(0:Int)≤(k:Int):=by omega
 have j2:(k:Int)<(T.length:Int):=by omega
 have c1:=hcell k hlt;rw[Nat.zero_add] at c1;have hsl:=HTL.out _ (List.getElem_mem hlt);obtain ⟨s,hs⟩:=nm T[k];rw[← hs] at c1 hsl;have HS:Hid (∀ h:k<T.length,T[k]=s):=hid (fun _=>hs.symm);obtain ⟨q,hq⟩:=nm (decide (0<(parse s).length));have CM:=hid (fun W=>Path.may_any s W hsl);rw[← hq] at CM;have HQ:Hid (isP s↔q=true):=hid (by rw[hq,decide_eq_true_eq];exact List.length_pos_iff.symm);have HLT:=hid hlt;have HSL:=hid hsl;clear hs hq hsl;by_cases h4:0<k
 ·obtain ⟨k1,hk1⟩:∃ k1,k=k1+1:=⟨k - 1,by omega⟩
  have w1:IntKind.i64.wrap ((k:Int) - 1)=(k1:Int):=by rw[IntKind.wrap_i64];have:=HTN.out;omega
  have i1:(0:Int)≤(k1:Int):=by omega
  have i2:(k1:Int)<(T.length:Int):=by omega
  have c3:=hcell k1 (by omega);rw[Nat.zero_add] at c3;have hul:=HTL.out _ (List.getElem_mem (show k1<T.length by omega));obtain ⟨u,hu⟩:=nm T[k1];rw[← hu] at c3 hul;have HU:Hid (∀ h':k - 1<T.length,T[k - 1]=u):=hid (fun h'=>by rw[hu];congr 1;omega);obtain ⟨z,hz⟩:=nm (cmpP u s);have CC:=hid (fun W=>Path.compare_any u s W hul HSL.out);rw[← hz] at CC;have HZ:=hid hz;have d5:=dT (p:=0<(k:Int));have d5g:decide ((k:Int) > 0)=true:=d5;have H4:=hid h4;clear hu hz hul hk1 hk hlt h4 hcell;go_wp2_with fail
  refine cr (CM.out _) fun v1 k9=>?_;replace c3:=Coder.keepC c3 k9;replace hb:=bstep hb k9;replace LT:=hid (LT.out.below k9);clear k9 c1;cases q
  ·have HE:Hid (tv (PathsM l)=false):=hid (tv_false fun f=>by have:=HQ.out.1 (by rw[← HS.out HLT.out];exact (HPM.out.1 f k HLT.out HLT.out).1);cases this);clear HI;go_wp2;go_ret;exact ⟨by rw[HE.out];rfl,hb⟩
  go_wp2_with fail
  refine cr (CC.out _) fun v1 k9=>?_;replace hb:=bstep hb k9;replace LT:=hid (LT.out.below k9);clear k9 c3;by_cases hz:z<0
  ·have d6:decide (z≥0)=false:=dF;have d6g:decide (0≤z)=false:=d6;have HI2:Hid (∀ j,j<k+1→PathAt T j):=hid (upto_succ HI.out (path_at HLT.out (by rw[HS.out HLT.out];exact HQ.out.2 (by simp)) fun _ h'=>by rw[HU.out,HS.out HLT.out,← HZ.out];exact hz));clear HI hz;have hB1:=HTN.out;have hB2:=HLT.out;go_wp2;go_roundw
   ·exact ⟨k+1,by have:=HLT.out;omega,by go_num,HI2,hb,LT⟩
   have:=HLT.out;simp[intOf];omega
  have d6:=dT (p:=z≥0);have d6g:decide (0≤z)=true:=d6;have HE:Hid (tv (PathsM l)=false):=hid (tv_false fun f=>hz (by have q:=(HPM.out.1 f k HLT.out HLT.out).2 H4.out (by have:=HLT.out;omega);rw[HU.out,HS.out HLT.out,← HZ.out] at q;exact q));clear HI hz;go_wp2;go_ret;exact ⟨by rw[HE.out];rfl,hb⟩
 have d5:=dF (p:=0<(k:Int));have d5g:decide ((k:Int) > 0)=false:=d5;have H4:=hid h4;clear hk hlt h4 hcell;go_wp2_with fail
 refine cr (CM.out _) fun v1 k9=>?_;replace hb:=bstep hb k9;replace LT:=hid (LT.out.below k9);clear k9 c1;cases q
 ·have HE:Hid (tv (PathsM l)=false):=hid (tv_false fun f=>by have:=HQ.out.1 (by rw[← HS.out HLT.out];exact (HPM.out.1 f k HLT.out HLT.out).1);cases this);clear HI;go_wp2;go_ret;exact ⟨by rw[HE.out];rfl,hb⟩
 have HI2:Hid (∀ j,j<k+1→PathAt T j):=hid (upto_succ HI.out (path_at HLT.out (by rw[HS.out HLT.out];exact HQ.out.2 (by simp)) fun h'=>absurd h' H4.out));clear HI;go_wp2;go_roundw
 ·exact ⟨k+1,by have:=HLT.out;omega,by go_num,HI2,hb,LT⟩
 have:=HLT.out;simp[intOf];omega
theorem refpaths_any (l:List UInt8) (w:World) (hl:l.length≤1048576) :
  CB 246 #[l] w (tv (PathsM l)):=by
 have hsz:=Str.size_mk l;obtain ⟨T,hT⟩:=nm (cmb l);have HTE:=hid hT;have HPM:Hid (PathsM l↔T.length≤24∧∀ j,j<T.length→PathAt T j):=hid (by rw[hT];exact Iff.rfl);have HTN:Hid (T.length≤l.length+1):=hid (by rw[hT];exact count_le l);have HT0:Hid (0<T.length):=hid (by rw[hT];exact List.length_pos_iff.2 (cmb_ne l));have hb:=Below.refl w.heap.size w;have HL:=hid hl;clear hT;go_enter Tryz.func246,Tryz.ntmps246;go_wp2_with fail
 go_loopw [3,4,5] (fun lv nv av wr=>∃ (n a:Nat) (u:List UInt8),lv=.string ⟨u.toArray⟩∧nv=.int .i64 n∧av=.int .i64 a∧Hid (StP T l n a)∧Hid (∀ j,j<n→PathAt T j)∧Hid (u.length≤1099511627776∧(0<n→∀ h':n - 1<T.length,T[n - 1]=u))∧Below w.heap.size w wr) (fun _ _ av _=>l.length+1 - (intOf av).toNat)
 case atStart=>exact ⟨0,0,[],rfl,rfl,rfl,hid (.inl ⟨by omega,by rw[List.drop_zero,List.drop_zero];exact HTE.out,HT0.out⟩),hid (fun j h=>absurd h (by omega)),hid ⟨by simp,fun h=>absurd h (by omega)⟩,hb⟩
 clear hb;obtain ⟨n,a,u,rfl,rfl,rfl,HA,HI,HU,hb⟩:=hrel;by_cases hal:a≤l.length;rotate_left
 ·have d3:decide ((a:Int)≤(l.length:Int))=false:=dF;have hn:n=T.length:=by rcases HA.out with h | h <;> omega
  have HV:Hid (PathsM l↔n≤24):=hid (HPM.out.trans ⟨fun f=>by omega,fun f=>⟨by omega,fun j hj=>HI.out j (by omega)⟩⟩);clear HA HI HU hn;by_cases h24:n≤24
  ·have d4:decide ((n:Int)≤24)=true:=dT;have HE:Hid (tv (PathsM l)=true):=hid (tv_true (HV.out.2 h24));go_wp2;go_ret;exact ⟨by rw[HE.out];rfl,hb⟩
  have d4:=dF (p:=(n:Int)≤24);have HE:Hid (tv (PathsM l)=false):=hid (tv_false fun f=>h24 (HV.out.1 f));go_wp2;go_ret;exact ⟨by rw[HE.out];rfl,hb⟩
 have d3:=dT (p:=(a:Int)≤(l.length:Int));have ha:T.drop n=cmb (l.drop a)∧n<T.length:=(by cases HA.out with | inl h=>exact h.2 | inr h=>exact absurd h.1 (by omega))
 have HD:=hid ha;have HAL:=hid hal;clear ha hal HA;go_wp2_with fail
 go_loopw [6] (fun ev wr=>∃ e:Nat,ev=.int .i64 e∧Hid (a≤e∧e≤l.length)∧Hid (∀ j,a≤j→j<e→l[j]?≠some 44)∧Below w.heap.size w wr) (fun ev _=>l.length - (intOf ev).toNat)
 case atStart=>exact ⟨a,rfl,hid ⟨by omega,HAL.out⟩,hid (fun j h1 h2=>absurd h1 (by omega)),hb⟩
 clear hb;obtain ⟨e,rfl,HE0,HF,hb⟩:=hrel;by_cases hel:e<l.length
 ·have d4:decide ((e:Int)<(l.length:Int))=true:=dT;have x1:(0:Int)≤(e:Int):=by omega
  have x2:(e:Int)<(l.length:Int):=by omega
  obtain ⟨c,hcc⟩:=nm l[e];have hgk:∀ h:e<(⟨l.toArray⟩:ByteArray).size,(⟨l.toArray⟩:ByteArray)[e]'h=c:=fun h=>hcc.symm;have hlc:l[e]?=some c:=by rw[hcc];exact List.getElem?_eq_getElem hel
  have HCC:=hid hcc;have HLC:=hid hlc;clear hcc hlc;by_cases hc:c=44
  ·have HT1:Hid (T.drop n=seg l a e::cmb (l.drop (e+1))):=hid (by rw[HD.out.1];exact seg_comma HE0.out.1 HF.out hel (by rw[← HCC.out];exact hc));have HN1:Hid (n+1<T.length):=hid (by
    have q:=congrArg List.length HT1.out;have q2:=List.length_pos_iff.2 (cmb_ne (l.drop (e+1)));rw[List.length_drop,List.length_cons] at q;omega)
   have HA2:Hid (StP T l (n+1) (e+1)):=hid (.inl ⟨hel,by rw[← List.drop_drop,HT1.out];rfl,HN1.out⟩);have HT2:Hid (∃ h:n<T.length,T[n]=seg l a e):=hid ⟨HD.out.2,by have q:=HT1.out;rw[List.drop_eq_getElem_cons HD.out.2] at q;exact (List.cons.inj q).1⟩;have HEL:Hid (e≤l.length):=hid HE0.out.2;have y1:((c.toNat:Int) == 44)=true:=by rw[hc];rfl
   have y2:((c.toNat:Int) != 44)=false:=by rw[hc];rfl
   clear HT1 hc HN1;obtain ⟨s,hs⟩:=nm (seg l a e);have hex:=slice_seg l a e;have hsl:=seg_len l a e;rw[← hs] at HT2 hex hsl;have hss:=Str.size_mk s;have x3:(0:Int)≤(a:Int):=by omega
   have x4:(a:Int)≤(e:Int):=by have:=HE0.out;omega
   have x5:(e:Int)≤(l.length:Int):=by have:=HEL.out;omega
   have x6:(0:Int)≤(e:Int):=by omega
   have w8:IntKind.i64.wrap ((e:Int)+1)=((e+1:Nat):Int):=by rw[IntKind.wrap_i64];have:=HEL.out;omega
   have w9:IntKind.i64.wrap ((n:Int)+1)=((n+1:Nat):Int):=by rw[IntKind.wrap_i64];have:=HD.out.2;have:=HTN.out;omega
   obtain ⟨q,hq⟩:=nm (decide (parse s≠[]));have CM:=hid (fun W=>RefPath.may_any s W (by omega));rw[← hq] at CM;have HQ:Hid (isP s↔q=true):=hid (by rw[hq,decide_eq_true_eq];exact Iff.rfl);obtain ⟨z,hz⟩:=nm (cmpP u s);have CC:=hid (fun W=>RefPath.compare_any u s W HU.out.1 (by omega));rw[← hz] at CC;have HZ:=hid hz;have HSL:=hid hsl;clear hs hq hz hsl;by_cases h4:0<n
   ·have d5:decide (0<(n:Int))=true:=dT;have d5g:decide ((n:Int) > 0)=true:=d5;have H4:=hid h4;clear h4;go_wp2_with fail
    refine cr (CM.out _) fun v1 k9=>?_;replace hb:=bstep hb k9;clear k9;cases q
    ·have HE:Hid (tv (PathsM l)=false):=hid (tv_false fun f=>by obtain ⟨h,h2⟩:=HT2.out;have:=HQ.out.1 (by rw[← h2];exact ((HPM.out.1 f).2 n h h).1);cases this);clear HI HA2;go_wp2;go_ret;exact ⟨by rw[HE.out];rfl,hb⟩
    go_wp2_with fail
    refine cr (CC.out _) fun v1 k9=>?_;replace hb:=bstep hb k9;clear k9;by_cases hz:z<0
    ·have d6:decide (z≥0)=false:=dF;have d6g:decide (0≤z)=false:=d6;have HI2:Hid (∀ j,j<n+1→PathAt T j):=hid (by
      obtain ⟨h,h2⟩:=HT2.out;exact upto_succ HI.out (path_at h (by rw[h2];exact HQ.out.2 (by simp)) fun _ h'=>by rw[HU.out.2 H4.out,h2,← HZ.out];exact hz))
     have HU2:Hid (s.length≤1099511627776∧(0<n+1→∀ h':n+1 - 1<T.length,T[n+1 - 1]=s)):=hid ⟨by have:=HSL.out;have:=HL.out;omega,fun _ h'=>HT2.out.2⟩;clear HI hz HU;go_wp2;go_roundw
     ·exact ⟨n+1,e+1,s,rfl,rfl,rfl,HA2,HI2,HU2,hb⟩
     have:=HEL.out;have:=HAL.out;have:=HE0.out;simp[intOf];omega
    have d6:=dT (p:=z≥0);have d6g:decide (0≤z)=true:=d6;have HE:Hid (tv (PathsM l)=false):=hid (tv_false fun f=>hz (by obtain ⟨h,h2⟩:=HT2.out;have q:=((HPM.out.1 f).2 n h h).2 H4.out (by omega);rw[HU.out.2 H4.out,h2,← HZ.out] at q;exact q));clear HI hz HA2;go_wp2;go_ret;exact ⟨by rw[HE.out];rfl,hb⟩
   have d5:=dF (p:=0<(n:Int));have d5g:decide ((n:Int) > 0)=false:=d5;have H4:=hid h4;clear h4;go_wp2_with fail
   refine cr (CM.out _) fun v1 k9=>?_;replace hb:=bstep hb k9;clear k9;cases q
   ·have HE:Hid (tv (PathsM l)=false):=hid (tv_false fun f=>by obtain ⟨h,h2⟩:=HT2.out;have:=HQ.out.1 (by rw[← h2];exact ((HPM.out.1 f).2 n h h).1);cases this);clear HI HA2;go_wp2;go_ret;exact ⟨by rw[HE.out];rfl,hb⟩
   have HI2:Hid (∀ j,j<n+1→PathAt T j):=hid (by
    obtain ⟨h,h2⟩:=HT2.out;exact upto_succ HI.out (path_at h (by rw[h2];exact HQ.out.2 (by simp)) fun h'=>absurd h' H4.out))
   have HU2:Hid (s.length≤1099511627776∧(0<n+1→∀ h':n+1 - 1<T.length,T[n+1 - 1]=s)):=hid ⟨by have:=HSL.out;have:=HL.out;omega,fun _ h'=>HT2.out.2⟩;clear HI HU;go_wp2;go_roundw
   ·exact ⟨n+1,e+1,s,rfl,rfl,rfl,HA2,HI2,HU2,hb⟩
   have:=HEL.out;have:=HAL.out;have:=HE0.out;simp[intOf];omega
  have y0:(c.toNat:Int)≠44:=fun q=>hc (UInt8.toNat_inj.1 (by have:(44:UInt8).toNat=44:=rfl;omega));have y1:((c.toNat:Int) == 44)=false:=by rw[beq_eq_false_iff_ne];exact y0
  have y2:((c.toNat:Int) != 44)=true:=by rw[bne_iff_ne];exact y0
  have HF2:Hid (∀ j,a≤j→j<e+1→l[j]?≠some 44):=hid (fun j h1 h2=>by
   rcases Nat.lt_or_ge j e with h | h
   · exact HF.out j h1 h
   obtain rfl:j=e:=by omega
   rw[HLC.out];exact fun q=>hc (Option.some.inj q))
  have HEL:=hid hel;clear hc;go_wp2;go_roundw
  ·exact ⟨e+1,by go_num,hid (by have:=HE0.out;have:=HEL.out;omega),HF2,hb⟩
  have:=HEL.out;simp[intOf];omega
 have d4:=dF (p:=(e:Int)<(l.length:Int));obtain rfl:e=l.length:=by have:=HE0.out;omega
 have HT1:Hid (T.drop n=[seg l a l.length]):=hid (by rw[HD.out.1];exact seg_end HF.out);have HA2:Hid (StP T l (n+1) (l.length+1)):=hid (.inr ⟨Nat.lt_succ_self _,by
  have q:=congrArg List.length HT1.out;rw[List.length_drop,List.length_singleton] at q;have:=HD.out.2;omega⟩)
 have HT2:Hid (∃ h:n<T.length,T[n]=seg l a l.length):=hid ⟨HD.out.2,by have q:=HT1.out;rw[List.drop_eq_getElem_cons HD.out.2] at q;exact (List.cons.inj q).1⟩;have HEL:Hid (l.length≤l.length):=hid (Nat.le_refl _);clear HT1 hel;obtain ⟨s,hs⟩:=nm (seg l a l.length);have hex:=slice_seg l a l.length;have hsl:=seg_len l a l.length;rw[← hs] at HT2 hex hsl;have hss:=Str.size_mk s;have x3:(0:Int)≤(a:Int):=by omega
 have x4:(a:Int)≤(l.length:Int):=by have:=HE0.out;omega
 have x5:(l.length:Int)≤(l.length:Int):=by have:=HEL.out;omega
 have x6:(0:Int)≤(l.length:Int):=by omega
 have w8:IntKind.i64.wrap ((l.length:Int)+1)=((l.length+1:Nat):Int):=by rw[IntKind.wrap_i64];have:=HEL.out;omega
 have w9:IntKind.i64.wrap ((n:Int)+1)=((n+1:Nat):Int):=by rw[IntKind.wrap_i64];have:=HD.out.2;have:=HTN.out;omega
 obtain ⟨q,hq⟩:=nm (decide (parse s≠[]));have CM:=hid (fun W=>RefPath.may_any s W (by omega));rw[← hq] at CM;have HQ:Hid (isP s↔q=true):=hid (by rw[hq,decide_eq_true_eq];exact Iff.rfl);obtain ⟨z,hz⟩:=nm (cmpP u s);have CC:=hid (fun W=>RefPath.compare_any u s W HU.out.1 (by omega));rw[← hz] at CC;have HZ:=hid hz;have HSL:=hid hsl;clear hs hq hz hsl;by_cases h4:0<n
 ·have d5:decide (0<(n:Int))=true:=dT;have d5g:decide ((n:Int) > 0)=true:=d5;have H4:=hid h4;clear h4;go_wp2_with fail
  refine cr (CM.out _) fun v1 k9=>?_;replace hb:=bstep hb k9;clear k9;cases q
  ·have HE:Hid (tv (PathsM l)=false):=hid (tv_false fun f=>by obtain ⟨h,h2⟩:=HT2.out;have:=HQ.out.1 (by rw[← h2];exact ((HPM.out.1 f).2 n h h).1);cases this);clear HI HA2;go_wp2;go_ret;exact ⟨by rw[HE.out];rfl,hb⟩
  go_wp2_with fail
  refine cr (CC.out _) fun v1 k9=>?_;replace hb:=bstep hb k9;clear k9;by_cases hz:z<0
  ·have d6:decide (z≥0)=false:=dF;have d6g:decide (0≤z)=false:=d6;have HI2:Hid (∀ j,j<n+1→PathAt T j):=hid (by
    obtain ⟨h,h2⟩:=HT2.out;exact upto_succ HI.out (path_at h (by rw[h2];exact HQ.out.2 (by simp)) fun _ h'=>by rw[HU.out.2 H4.out,h2,← HZ.out];exact hz))
   have HU2:Hid (s.length≤1099511627776∧(0<n+1→∀ h':n+1 - 1<T.length,T[n+1 - 1]=s)):=hid ⟨by have:=HSL.out;have:=HL.out;omega,fun _ h'=>HT2.out.2⟩;clear HI hz HU;go_wp2;go_roundw
   ·exact ⟨n+1,l.length+1,s,rfl,rfl,rfl,HA2,HI2,HU2,hb⟩
   have:=HEL.out;have:=HAL.out;have:=HE0.out;simp[intOf];omega
  have d6:=dT (p:=z≥0);have d6g:decide (0≤z)=true:=d6;have HE:Hid (tv (PathsM l)=false):=hid (tv_false fun f=>hz (by obtain ⟨h,h2⟩:=HT2.out;have q:=((HPM.out.1 f).2 n h h).2 H4.out (by omega);rw[HU.out.2 H4.out,h2,← HZ.out] at q;exact q));clear HI hz HA2;go_wp2;go_ret;exact ⟨by rw[HE.out];rfl,hb⟩
 have d5:=dF (p:=0<(n:Int));have d5g:decide ((n:Int) > 0)=false:=d5;have H4:=hid h4;clear h4;go_wp2_with fail
 refine cr (CM.out _) fun v1 k9=>?_;replace hb:=bstep hb k9;clear k9;cases q
 ·have HE:Hid (tv (PathsM l)=false):=hid (tv_false fun f=>by obtain ⟨h,h2⟩:=HT2.out;have:=HQ.out.1 (by rw[← h2];exact ((HPM.out.1 f).2 n h h).1);cases this);clear HI HA2;go_wp2;go_ret;exact ⟨by rw[HE.out];rfl,hb⟩
 have HI2:Hid (∀ j,j<n+1→PathAt T j):=hid (by
  obtain ⟨h,h2⟩:=HT2.out;exact upto_succ HI.out (path_at h (by rw[h2];exact HQ.out.2 (by simp)) fun h'=>absurd h' H4.out))
 have HU2:Hid (s.length≤1099511627776∧(0<n+1→∀ h':n+1 - 1<T.length,T[n+1 - 1]=s)):=hid ⟨by have:=HSL.out;have:=HL.out;omega,fun _ h'=>HT2.out.2⟩;clear HI HU;go_wp2;go_roundw
 ·exact ⟨n+1,l.length+1,s,rfl,rfl,rfl,HA2,HI2,HU2,hb⟩
 have:=HEL.out;have:=HAL.out;have:=HE0.out;simp[intOf];omega
instance : Coe Sn (Array Value) := ⟨fun x => #[.int .i64 x.f, .int .i64 x.t]⟩
instance : Coe Sn (List Value) := ⟨fun x => [.int .i64 x.f, .int .i64 x.t]⟩
instance : Coe Pr (Array Value) := ⟨fun x => #[x.b, x.n, x.o, x.m]⟩
instance : Coe Pr (List Value) := ⟨fun x => [x.b, x.n, x.o, x.m]⟩
instance : Coe Pl (Array Value) := ⟨fun x => #[x.k, x.r, x.l, x.a.b, x.a.n, x.a.o, x.a.m, x.d]⟩
instance : Coe Pl (List Value) := ⟨fun x => [x.k, x.r, x.l, x.a.b, x.a.n, x.a.o, x.a.m, x.d]⟩
instance : Coe Wd (Array Value) := ⟨fun x => #[x.o, x.h, x.k, x.r, x.g, x.c, x.p]⟩
instance : Coe Wd (List Value) := ⟨fun x => [x.o, x.h, x.k, x.r, x.g, x.c, x.p]⟩
def Sn.cells (x:Sn):List Value:=[.int .i64 x.f,.int .i64 x.t]
def snE:Row.Enc Sn:=⟨2,by decide,Sn.cells,fun _=>rfl,fun x v hv=>by
 simp only[Sn.cells,List.mem_cons,List.not_mem_nil,or_false] at hv;rcases hv with rfl | rfl <;> rfl⟩
def Wd.cells (x:Wd):List Value:=[x.o,x.h,x.k,x.r,x.g,x.c,x.p]
def wdE:Row.Enc Wd:=⟨7,by decide,Wd.cells,fun _=>rfl,fun x v hv=>by
 simp only[Wd.cells,List.mem_cons,List.not_mem_nil,or_false] at hv;rcases hv with rfl | rfl | rfl | rfl | rfl | rfl | rfl <;> rfl⟩
structure RM where
 p:List UInt8
 s:Nat
 k:Int
 c:Int
 l:Nat
 ga:Option Addr
 gc:Nat
 g:List Sn
 q:Pl
 wa:Option Addr
 wc:Nat
 w:List Wd
def RM.m (x:RM):Mb:=⟨x.p,x.s,x.k,x.c,x.l,x.g,x.q,x.w⟩
instance : Coe RM (Array Value) := ⟨fun x => #[x.p, .int .u8 x.s, .int .i64 x.k, .int .i64 x.c, x.l, .slice x.ga x.g.length x.gc, x.q.k, x.q.r, x.q.l, x.q.a.b, x.q.a.n, x.q.a.o, x.q.a.m, x.q.d, .slice x.wa x.w.length x.wc]⟩
instance : Coe RM (List Value) := ⟨fun x => [x.p, .int .u8 x.s, .int .i64 x.k, .int .i64 x.c, x.l, .slice x.ga x.g.length x.gc, x.q.k, x.q.r, x.q.l, x.q.a.b, x.q.a.n, x.q.a.o, x.q.a.m, x.q.d, .slice x.wa x.w.length x.wc]⟩
def RM.cells (x:RM):List Value:=[x.p,.int .u8 (x.s:Int),.int .i64 x.k,.int .i64 x.c,x.l,.slice x.ga x.g.length x.gc,x.q.k,x.q.r,x.q.l,x.q.a.b,x.q.a.n,x.q.a.o,x.q.a.m,x.q.d,.slice x.wa x.w.length x.wc]
def mbE:Row.Enc RM:=⟨15,by decide,RM.cells,fun _=>rfl,fun x v hv=>by
 simp only[RM.cells,List.mem_cons,List.not_mem_nil,or_false] at hv;rcases hv with rfl | rfl | rfl | rfl | rfl | rfl | rfl | rfl | rfl | rfl | rfl | rfl | rfl | rfl | rfl <;> rfl⟩
structure InnerM (w:World) (x:RM):Prop where
 g:Row.Lies snE w x.ga x.g.length x.g
 w:Row.Lies wdE w x.wa x.w.length x.w
theorem InnerM.below {w w':World} {x:RM} (h:InnerM w x) (k:Below w.heap.size w w'):InnerM w' x:=⟨h.g.below k,h.w.below k⟩
instance {x : RM} : Kept (fun w => InnerM w x) := ⟨fun k h => InnerM.below h k⟩
instance {w : World} {x : RM} : Hd w (InnerM w x) (fun w => InnerM w x) := ⟨id⟩
def LiesM (w:World) (a:Option Addr) (J:List RM):Prop:=Row.Lies mbE w a J.length J∧∀ x ∈ J,InnerM w x
theorem LiesM.below {w w':World} {a:Option Addr} {J:List RM} (h:LiesM w a J) (k:Below w.heap.size w w'):LiesM w' a J:=⟨h.1.below k,fun x hx=>(h.2 x hx).below k⟩
instance {a : Option Addr} {J : List RM} : Kept (fun w => LiesM w a J) := ⟨fun k h => LiesM.below h k⟩
instance {w : World} {a : Option Addr} {J : List RM} : Hd w (LiesM w a J) (fun w => LiesM w a J) := ⟨id⟩
structure Sn.Ok (x:Sn):Prop where
 f : -9223372036854775808≤x.f∧x.f≤9223372036854775807
 t : -9223372036854775808≤x.t∧x.t≤9223372036854775807
structure Wd.Ok (x:Wd):Prop where
 o:x.o.length≤1048576
 h:x.h≤18446744073709551615
 k:x.k.length≤1048576
 r:x.r≤18446744073709551615
 c:x.c≤18446744073709551615
structure Pl.Ok (x:Pl):Prop where
 k:x.k.length≤1048576
 r:x.r≤18446744073709551615
 l:x.l.length≤1048576
 b:x.a.b.length≤1048576
 n:x.a.n≤18446744073709551615
 o:x.a.o.length≤1048576
 m:x.a.m≤18446744073709551615
structure RM.Ok (x:RM):Prop where
 p:x.p.length≤1048576
 s:x.s≤255
 k : -9223372036854775808≤x.k∧x.k≤9223372036854775807
 c : -9223372036854775808≤x.c∧x.c≤9223372036854775807
 l:x.l≤18446744073709551615
 g:x.g.length≤1048576
 gm:∀ s ∈ x.g,s.Ok
 q:x.q.Ok
 w:x.w.length≤1048576
 wm:∀ s ∈ x.w,s.Ok
def inB (n:Int) (s:Sn):Bool:=decide (s.f≤n) && decide (n<s.t)
theorem in_iff (g:List Sn) (n:Int):InG g n↔g.any (inB n)=true:=by
 unfold InG inB;simp only[List.any_eq_true,Bool.and_eq_true,decide_eq_true_eq]
theorem within1 (s:Sn) (n:Int) (bn:Nat) (w:World) (h:w.cell? ⟨bn,0,none⟩=some (.int .i64 n)) :
  CB 240 #[.agg s,.pointer (some ⟨bn,0,none⟩)] w (inB n s):=by
 have hb:=balloc (Below.refl w.heap.size w) (.cells s 191);have h9:=Coder.keepC h hb;by_cases h1:s.f≤n
 ·have d1:decide (s.f≤n)=true:=decide_eq_true h1;obtain ⟨r,hr⟩:=nm (decide (n<s.t));have hv:Hid (inB n s=r):=hid (by unfold inB;rw[d1,hr];rfl);have hr':=hr.symm;clear hr;cases r with
  | _ =>
   go_enter Tryz.func240,Tryz.ntmps240;go_wp2;go_ret;exact ⟨by rw[hv.out];rfl,hb⟩
 have d1:decide (s.f≤n)=false:=decide_eq_false h1;have hv:Hid (inB n s=false):=hid (by unfold inB;rw[d1];rfl);go_enter Tryz.func240,Tryz.ntmps240;go_wp2;go_ret;exact ⟨by rw[hv.out];rfl,hb⟩
def idxS (p:Sn→Bool) (L:List Sn):Int:=match L.findIdx? p with | some i=>(i:Int) | none => -1
theorem idx_none {p:Sn→Bool} {L:List Sn} (h:∀ j (hj:j<L.length),p L[j]=false):idxS p L = -1:=by
 have:L.findIdx? p=none:=by
  rw[List.findIdx?_eq_none_iff];intro x hx;obtain ⟨j,hj,rfl⟩:=List.mem_iff_getElem.1 hx;exact h j hj
 rw[idxS,this]
theorem idx_some {p:Sn→Bool} {L:List Sn} {k:Nat} (hk:k<L.length) (h1:p L[k]=true) (h:∀ j (hj:j<L.length),j<k→p L[j]=false):idxS p L=(k:Int):=by
 have:L.findIdx? p=some k:=by
  rw[List.findIdx?_eq_some_iff_getElem];exact ⟨hk,h1,fun j hj=>by simp[h j (by omega) hj]⟩
 rw[idxS,this]
theorem idx_any (p:Sn→Bool) (L:List Sn):decide (idxS p L≥0)=L.any p:=by
 unfold idxS;cases h:L.findIdx? p with
 | none =>
  rw[List.findIdx?_eq_none_iff] at h;have:L.any p=false:=by rw[List.any_eq_false];intro x hx;rw[h x hx];simp
  rw[this];rfl
 | some i =>
  rw[List.findIdx?_eq_some_iff_getElem] at h;obtain ⟨hi,h1,_⟩:=h;have:L.any p=true:=by rw[List.any_eq_true];exact ⟨_,List.getElem_mem hi,h1⟩
  rw[this];exact decide_eq_true (by simp)
theorem index_any (n:Int) (bn:Nat) (L:List Sn) (a:Option Addr) (c:Nat) (w:World) (hc:w.cell? ⟨bn,0,none⟩=some (.int .i64 n)) (hL:Row.Lies snE w a L.length L) (hn:L.length≤1048576) :
  CB 266 #[.slice a L.length c,.func (.func 240) #[] #[.pointer (some ⟨bn,0,none⟩)]] w (.int .i64 (idxS (inB n) L)):=by
 have HL:=hid hL;have HC:=hid hc;clear hL hc;go_enter Tryz.func266,Tryz.ntmps266;go_wp2_with fail
 go_loopw [5,8] (fun _ iv wr=>∃ k:Nat,k≤L.length∧iv=.int .i64 k∧Hid (∀ j (h:j<L.length),j<k→inB n L[j]=false)∧Below w.heap.size w wr) (fun _ iv _=>L.length - (intOf iv).toNat)
 case atStart=>exact ⟨0,by omega,rfl,hid (fun j _ h=>absurd h (by omega)),Below.refl _ _⟩
 obtain ⟨k,hk,rfl,HI,hb⟩:=hrel;by_cases hlt:k<L.length
 ·obtain ⟨b,off,rfl,hcell⟩:=(HL.out.below hb).2 (by omega);have d1:=dT (p:=(k:Int)<(L.length:Int));have j1:(0:Int)≤(k:Int):=by omega
  have j2:(k:Int)<(L.length:Int):=by omega
  obtain ⟨c1,c2⟩:=cl2 (off+k*2) (hcell k hlt);obtain ⟨m,hm⟩:=nm L[k];rw[← hm] at c1 c2;have hcall:=within1 m n bn wr (Coder.keepC HC.out hb);have HM:=hid hm;obtain ⟨r,hr⟩:=nm (inB n m);rw[← hr] at hcall;have HR:=hid hr;have HLT:=hid hlt;clear hm hcell hr;cases r with
  | false =>
   have CL:=hid hcall;clear hcall;go_wp2_with fail
   refine cr CL.out fun v1 k1=>?_;go_wp2;go_roundw
   case rel =>
    refine ⟨k+1,by omega,by go_num,hid (fun j hj hjk=>?_),bstep hb k1⟩;rcases Nat.lt_or_ge j k with h | h
    · exact HI.out j hj h
    obtain rfl:j=k:=by omega
    rw[← HM.out];exact HR.out.symm
   case measure=>simp[intOf];omega
  | true =>
   have HV:=hid (idx_some hlt (by rw[← HM.out];exact HR.out.symm) HI.out);have CL:=hid hcall;clear hcall;go_wp2_with fail
   refine cr CL.out fun v1 k1=>?_;go_wp2;go_ret;exact ⟨by rw[HV.out];rfl,bstep hb k1⟩
 have d1:=dF (p:=(k:Int)<(L.length:Int));have HV:=hid (idx_none (p:=inB n) (L:=L) (fun j hj=>HI.out j hj (by omega)));go_wp2;go_ret;exact ⟨by rw[HV.out];rfl,hb⟩
theorem within_any (n:Int) (L:List Sn) (a:Option Addr) (c:Nat) (w:World) (hL:Row.Lies snE w a L.length L) (hn:L.length≤1048576) :
  CB 187 #[.slice a L.length c,.int .i64 n] w (L.any (inB n)):=by
 have hb:=balloc (Below.refl w.heap.size w) (.cells #[.int .i64 n] 3);have x0:=Coder.box_cells w #[.int .i64 n] 3 0 (.int .i64 n) rfl;have C:=hid (index_any n w.heap.size L a c (w.alloc (.cells #[.int .i64 n] 3)) x0 (hL.below hb) hn);have D:Hid (Calls Tryz.prog 239 #[.slice a L.length c,.func (.func 240) #[] #[.pointer (some ⟨w.heap.size,0,none⟩)]] (w.alloc (.cells #[.int .i64 n] 3)) fun e w'=>e=.returned (.bool (L.any (inB n)))∧Below (w.alloc (.cells #[.int .i64 n] 3)).heap.size (w.alloc (.cells #[.int .i64 n] 3)) w'):=hid (by
  obtain ⟨v,hv⟩:=nm (w.alloc (.cells #[.int .i64 n] 3));rw[← hv] at C ⊢;obtain ⟨z,hz⟩:=nm (idxS (inB n) L);rw[← hz] at C;have e:decide (z≥0)=L.any (inB n):=by rw[hz];exact idx_any _ _
  have e2:decide (0≤z)=L.any (inB n):=e;obtain ⟨r,hr⟩:=nm (L.any (inB n));rw[← hr] at e e2 ⊢;clear hr hz hv;go_enter Tryz.func239,Tryz.ntmps239;go_wp2_with fail
  refine cr C.out fun w' k=>?_;go_wp2;go_ret;exact ⟨rfl,k⟩)
 clear C x0;go_enter Tryz.func187,Tryz.ntmps187;go_wp2_with fail
 refine cr D.out fun w' k=>?_;go_wp2;go_ret;exact ⟨rfl,hb.trans (k.mono hb.size)⟩
theorem round_any (n:Nat) (w:World):CB 190 #[n] w (tv (RoundM n)):=by
 by_cases h1:1≤n;rotate_left
 ·
  have d1:=dF (p:=1≤(n:Int));have d1g:=dF (p:=(n:Int)≥1);have HV:Hid (tv (RoundM n)=false):=hid (tv_false fun f=>h1 f.1);go_enter Tryz.func190,Tryz.ntmps190;go_wp2;go_ret;exact ⟨by rw[HV.out];rfl,Below.refl _ _⟩
 have d1:=dT (p:=1≤(n:Int));have d1g:=dT (p:=(n:Int)≥1);by_cases h2:n≤281474976710656;rotate_left
 ·
  have d2:=dF (p:=(n:Int)≤281474976710656);have d2g:=dF (p:=281474976710656≥(n:Int));have HV:Hid (tv (RoundM n)=false):=hid (tv_false fun f=>h2 f.2);go_enter Tryz.func190,Tryz.ntmps190;go_wp2;go_ret;exact ⟨by rw[HV.out];rfl,Below.refl _ _⟩
 have d2:=dT (p:=(n:Int)≤281474976710656);have d2g:=dT (p:=281474976710656≥(n:Int));have HV:Hid (tv (RoundM n)=true):=hid (tv_true ⟨h1,h2⟩);go_enter Tryz.func190,Tryz.ntmps190;go_wp2;go_ret;exact ⟨by rw[HV.out];rfl,Below.refl _ _⟩
theorem fields_any (x:RM) (w:World):CB 125 #[.agg x] w (tv (FieldsM x.m)):=by
 have hb:=balloc (Below.refl w.heap.size w) (.cells x 92);by_cases h1:1≤x.s;rotate_left
 ·
  have d1:=dT (p:=(x.s:Int)<1);have d1g:=dT (p:=1 > (x.s:Int));have HV:Hid (tv (FieldsM x.m)=false):=hid (tv_false fun f=>h1 f.1);go_enter Tryz.func125,Tryz.ntmps125;go_wp2;go_ret;exact ⟨by rw[HV.out];rfl,hb⟩
 have d1:=dF (p:=(x.s:Int)<1);have d1g:=dF (p:=1 > (x.s:Int));by_cases h2:x.s≤4;rotate_left
 ·
  have d2:=dT (p:=4<(x.s:Int));have d2g:=dT (p:=(x.s:Int) > 4);have HV:Hid (tv (FieldsM x.m)=false):=hid (tv_false fun f=>h2 f.2.1);go_enter Tryz.func125,Tryz.ntmps125;go_wp2;go_ret;exact ⟨by rw[HV.out];rfl,hb⟩
 have d2:=dF (p:=4<(x.s:Int));have d2g:=dF (p:=(x.s:Int) > 4);by_cases h3:0≤x.k;rotate_left
 ·
  have d3:=dT (p:=x.k<0);have d3g:=dT (p:=0 > x.k);have HV:Hid (tv (FieldsM x.m)=false):=hid (tv_false fun f=>h3 f.2.2.1);go_enter Tryz.func125,Tryz.ntmps125;go_wp2;go_ret;exact ⟨by rw[HV.out];rfl,hb⟩
 have d3:=dF (p:=x.k<0);have d3g:=dF (p:=0 > x.k);by_cases h4:x.k≤1073741824;rotate_left
 ·
  have d4:=dT (p:=1073741824<x.k);have d4g:=dT (p:=x.k > 1073741824);have HV:Hid (tv (FieldsM x.m)=false):=hid (tv_false fun f=>h4 f.2.2.2.1);go_enter Tryz.func125,Tryz.ntmps125;go_wp2;go_ret;exact ⟨by rw[HV.out];rfl,hb⟩
 have d4:=dF (p:=1073741824<x.k);have d4g:=dF (p:=x.k > 1073741824);by_cases h5:0≤x.c;rotate_left
 ·
  have d5:=dT (p:=x.c<0);have d5g:=dT (p:=0 > x.c);have HV:Hid (tv (FieldsM x.m)=false):=hid (tv_false fun f=>h5 f.2.2.2.2.1);go_enter Tryz.func125,Tryz.ntmps125;go_wp2;go_ret;exact ⟨by rw[HV.out];rfl,hb⟩
 have d5:=dF (p:=x.c<0);have d5g:=dF (p:=0 > x.c);by_cases h6:x.c≤1073741825;rotate_left
 ·
  have d6:=dT (p:=1073741825<x.c);have d6g:=dT (p:=x.c > 1073741825);have HV:Hid (tv (FieldsM x.m)=false):=hid (tv_false fun f=>h6 f.2.2.2.2.2.1);go_enter Tryz.func125,Tryz.ntmps125;go_wp2;go_ret;exact ⟨by rw[HV.out];rfl,hb⟩
 have d6:=dF (p:=1073741825<x.c);have d6g:=dF (p:=x.c > 1073741825);by_cases h7:0<x.c
 ·
  have d7:=dT (p:=0<x.c);have d7g:=dT (p:=x.c > 0);by_cases h7s:4≤x.s;rotate_left
  ·
   have e7:(((x.s:Int)) == 4)=false:=bF;have e7n:(((x.s:Int)) != 4)=true:=by rw[bne,e7];rfl
   have HV:Hid (tv (FieldsM x.m)=false):=hid (tv_false fun f=>h7s (by have q:x.s=4:=f.2.2.2.2.2.2.1 h7;omega));go_enter Tryz.func125,Tryz.ntmps125;go_wp2;go_ret;exact ⟨by rw[HV.out];rfl,hb⟩
  have e7:(((x.s:Int)) == 4)=true:=bT;have e7n:(((x.s:Int)) != 4)=false:=by rw[bne,e7];rfl
  by_cases h8:x.l≤281474976710656;rotate_left
  ·
   have d8:=dT (p:=281474976710656<(x.l:Int));have d8g:=dT (p:=(x.l:Int) > 281474976710656);have HV:Hid (tv (FieldsM x.m)=false):=hid (tv_false fun f=>h8 f.2.2.2.2.2.2.2.1);go_enter Tryz.func125,Tryz.ntmps125;go_wp2;go_ret;exact ⟨by rw[HV.out];rfl,hb⟩
  have d8:=dF (p:=281474976710656<(x.l:Int));have d8g:=dF (p:=(x.l:Int) > 281474976710656);by_cases h9:0<x.l
  ·
   have d9:=dT (p:=0<(x.l:Int));have d9g:=dT (p:=(x.l:Int) > 0);by_cases h9s:3≤x.s;rotate_left
   ·
    have e9:=dT (p:=(x.s:Int)<3);have e9g:=dT (p:=3 > (x.s:Int));exfalso;omega
   have e9:=dF (p:=(x.s:Int)<3);have e9g:=dF (p:=3 > (x.s:Int));have HV:Hid (tv (FieldsM x.m)=true):=hid (tv_true ⟨h1,h2,h3,h4,h5,h6,fun z=>(show x.s=4 from by have z2:0<x.c:=z;omega),h8,fun z=>(show 3≤x.s from by have z2:0<x.l:=z;omega)⟩);go_enter Tryz.func125,Tryz.ntmps125;go_wp2;go_ret;exact ⟨by rw[HV.out];rfl,hb⟩
  have d9:=dF (p:=0<(x.l:Int));have d9g:=dF (p:=(x.l:Int) > 0);have HV:Hid (tv (FieldsM x.m)=true):=hid (tv_true ⟨h1,h2,h3,h4,h5,h6,fun z=>(show x.s=4 from by have z2:0<x.c:=z;omega),h8,fun z=>(show 3≤x.s from by have z2:0<x.l:=z;omega)⟩);go_enter Tryz.func125,Tryz.ntmps125;go_wp2;go_ret;exact ⟨by rw[HV.out];rfl,hb⟩
 have d7:=dF (p:=0<x.c);have d7g:=dF (p:=x.c > 0);by_cases h8:x.l≤281474976710656;rotate_left
 ·
  have d8:=dT (p:=281474976710656<(x.l:Int));have d8g:=dT (p:=(x.l:Int) > 281474976710656);have HV:Hid (tv (FieldsM x.m)=false):=hid (tv_false fun f=>h8 f.2.2.2.2.2.2.2.1);go_enter Tryz.func125,Tryz.ntmps125;go_wp2;go_ret;exact ⟨by rw[HV.out];rfl,hb⟩
 have d8:=dF (p:=281474976710656<(x.l:Int));have d8g:=dF (p:=(x.l:Int) > 281474976710656);by_cases h9:0<x.l
 ·
  have d9:=dT (p:=0<(x.l:Int));have d9g:=dT (p:=(x.l:Int) > 0);by_cases h9s:3≤x.s;rotate_left
  ·
   have e9:=dT (p:=(x.s:Int)<3);have e9g:=dT (p:=3 > (x.s:Int));have HV:Hid (tv (FieldsM x.m)=false):=hid (tv_false fun f=>h9s (f.2.2.2.2.2.2.2.2 h9));go_enter Tryz.func125,Tryz.ntmps125;go_wp2;go_ret;exact ⟨by rw[HV.out];rfl,hb⟩
  have e9:=dF (p:=(x.s:Int)<3);have e9g:=dF (p:=3 > (x.s:Int));have HV:Hid (tv (FieldsM x.m)=true):=hid (tv_true ⟨h1,h2,h3,h4,h5,h6,fun z=>(show x.s=4 from by have z2:0<x.c:=z;omega),h8,fun z=>(show 3≤x.s from by have z2:0<x.l:=z;omega)⟩);go_enter Tryz.func125,Tryz.ntmps125;go_wp2;go_ret;exact ⟨by rw[HV.out];rfl,hb⟩
 have d9:=dF (p:=0<(x.l:Int));have d9g:=dF (p:=(x.l:Int) > 0);have HV:Hid (tv (FieldsM x.m)=true):=hid (tv_true ⟨h1,h2,h3,h4,h5,h6,fun z=>(show x.s=4 from by have z2:0<x.c:=z;omega),h8,fun z=>(show 3≤x.s from by have z2:0<x.l:=z;omega)⟩);go_enter Tryz.func125,Tryz.ntmps125;go_wp2;go_ret;exact ⟨by rw[HV.out];rfl,hb⟩
theorem cuts_any (x:RM) (p:List UInt8) (w:World) (hp:p.length≤1048576):CB 188 #[.agg x,p] w (tv (CutM x.m p)):=by
 have C0:=hid (fun W=>numberOf_any p W (by omega));obtain ⟨n,hn⟩:=nm (last (parse p));rw[← hn] at C0;have HM:Hid (CutM x.m p↔x.s=4∧0<x.c∧x.c≤(n:Int)):=hid (by rw[hn];exact Iff.rfl);clear hn;go_enter Tryz.func188,Tryz.ntmps188;go_upto_region 1 with (fail)
 have hb0:=balloc (Below.refl w.heap.size w) (.cells x 92);obtain ⟨t0,t1,t2,t3,t4,t5,t6,t7,t8,t9,t10,t11,t12,t13,t14⟩:=al15 (bx w x 92);obtain ⟨w0,hw0⟩:=nm (w.alloc (.cells x 92));rw[← hw0] at hb0 t0 t1 t2 t3 t4 t5 t6 t7 t8 t9 t10 t11 t12 t13 t14 ⊢;obtain ⟨bt,hbt⟩:=nm w.heap.size;rw[← hbt] at t0 t1 t2 t3 t4 t5 t6 t7 t8 t9 t10 t11 t12 t13 t14 ⊢;have hb:=hb0;clear hb0 hw0 hbt t0 t2 t4 t5 t6 t7 t8 t9 t10 t11 t12 t13 t14;by_cases h1:4≤x.s∧x.s≤4;rotate_left
 ·
  have d1:(((x.s:Int)) == 4)=false:=bF;have d1n:(((x.s:Int)) != 4)=true:=by rw[bne,d1];rfl
  have HV:Hid (tv (CutM x.m p)=false):=hid (tv_false fun f0=>have f:=HM.out.1 f0;h1 (by have q:=f.1;omega));refine rh (aj3 hb t1 t3) fun wd gH=>?_;refine tk (.range 16) ?_;refine tD ?_;clear hb t1 t3;obtain ⟨hb,t1,t3⟩:=gH;go_wp2;go_ret;exact ⟨by rw[HV.out];rfl,hb⟩
 have d1:(((x.s:Int)) == 4)=true:=bT;have d1n:(((x.s:Int)) != 4)=false:=by rw[bne,d1];rfl
 by_cases h2:0<x.c;rotate_left
 ·
  have d2:=dF (p:=0<x.c);have d2g:=dF (p:=x.c > 0);have HV:Hid (tv (CutM x.m p)=false):=hid (tv_false fun f0=>have f:=HM.out.1 f0;h2 f.2.1);refine rh (aj3 hb t1 t3) fun wd gH=>?_;refine tk (.range 16) ?_;refine tD ?_;clear hb t1 t3;obtain ⟨hb,t1,t3⟩:=gH;go_wp2;go_ret;exact ⟨by rw[HV.out];rfl,hb⟩
 have d2:=dT (p:=0<x.c);have d2g:=dT (p:=x.c > 0);by_cases h3:x.c≤(n:Int);rotate_left
 ·
  have d3:=dF (p:=x.c≤(n:Int));have d3g:=dF (p:=(n:Int)≥x.c);have HV:Hid (tv (CutM x.m p)=false):=hid (tv_false fun f0=>have f:=HM.out.1 f0;h3 f.2.2);refine rh (aj3 hb t1 t3) fun wd gH=>?_;refine tk [0,1,2,3,4,5,6,7,8,9,11,12] ?_;refine tR 10 fun K hK=>?_;go_simp;go_at_call 122;refine cr (C0.out _) fun v1 k1=>?_;go_wp2_with fail
  refine tH hK gH k1 fun gH=>?_;clear hK K k1;refine tk [13,14,15] ?_;refine tD ?_;clear hb t1 t3;obtain ⟨hb,t1,t3⟩:=gH;go_wp2;go_ret;exact ⟨by rw[HV.out];rfl,hb⟩
 have d3:=dT (p:=x.c≤(n:Int));have d3g:=dT (p:=(n:Int)≥x.c);have HV:Hid (tv (CutM x.m p)=true):=hid (tv_true (HM.out.2 ⟨by omega,h2,h3⟩));refine rh (aj3 hb t1 t3) fun wd gH=>?_;refine tk [0,1,2,3,4,5,6,7,8,9,11,12] ?_;refine tR 10 fun K hK=>?_;go_simp;go_at_call 122;refine cr (C0.out _) fun v2 k2=>?_;go_wp2_with fail
 refine tH hK gH k2 fun gH=>?_;clear hK K k2;refine tk [13,14,15] ?_;refine tD ?_;clear hb t1 t3;obtain ⟨hb,t1,t3⟩:=gH;go_wp2;go_ret;exact ⟨by rw[HV.out];rfl,hb⟩
theorem gone_any (x:RM) (w:World) (hI:Row.Lies snE w x.ga x.g.length x.g) (hg:x.g.length≤1048576) (hm:∀ s ∈ x.g,s.Ok) (h0:0≤x.k) (hk:x.k≤1073741824) :
  CB 126 #[.agg x] w (tv (GoneM x.k x.g)):=by
 obtain ⟨pp,ss,kk,cc,ll,ga,gc,gg,qq,wa,wc,ww⟩:=x;simp only at hI hg hm h0 hk ⊢;have HG:=hid hI;have HM:=hid hm;have HN:=hid hg;have HK:=hid (And.intro h0 hk);clear hI hm hg h0 hk;go_enter Tryz.func126,Tryz.ntmps126;go_upto_region 1 with (fail)
 have hb0:=balloc (Below.refl w.heap.size w) (.cells #[pp,.int .u8 (ss:Int),.int .i64 kk,.int .i64 cc,ll,.slice ga gg.length gc,qq.k,qq.r,qq.l,qq.a.b,qq.a.n,qq.a.o,qq.a.m,qq.d,.slice wa ww.length wc] 92);obtain ⟨t0,t1,t2,t3,t4,t5,t6,t7,t8,t9,t10,t11,t12,t13,t14⟩:=al15 (bx w [pp,.int .u8 (ss:Int),.int .i64 kk,.int .i64 cc,ll,.slice ga gg.length gc,qq.k,qq.r,qq.l,qq.a.b,qq.a.n,qq.a.o,qq.a.m,qq.d,.slice wa ww.length wc] 92);obtain ⟨w0,hw0⟩:=nm (w.alloc (.cells #[pp,.int .u8 (ss:Int),.int .i64 kk,.int .i64 cc,ll,.slice ga gg.length gc,qq.k,qq.r,qq.l,qq.a.b,qq.a.n,qq.a.o,qq.a.m,qq.d,.slice wa ww.length wc] 92));rw[← hw0] at hb0 t0 t1 t2 t3 t4 t5 t6 t7 t8 t9 t10 t11 t12 t13 t14 ⊢;obtain ⟨bt,hbt⟩:=nm w.heap.size;rw[← hbt] at t0 t1 t2 t3 t4 t5 t6 t7 t8 t9 t10 t11 t12 t13 t14 ⊢;have hb:=hb0;clear hb0 hw0 hbt t0 t1 t3 t4 t6 t7 t8 t9 t10 t11 t12 t13 t14;go_wp2_with fail
 go_loopw [8] (fun iv wr=>∃ k:Nat,k≤gg.length∧iv=.int .i64 k∧Hid (∀ j,j<k→SpanAt kk gg j)∧Below w.heap.size w wr∧wr.cell? ⟨bt,2,none⟩=some (.int .i64 kk)∧wr.cell? ⟨bt,5,none⟩=some (.slice ga gg.length gc)) (fun iv _=>gg.length - (intOf iv).toNat)
 case atStart=>exact ⟨0,by omega,rfl,hid (fun j h=>absurd h (by omega)),hb,t2,t5⟩
 clear hb t2 t5;obtain ⟨k,hk,rfl,HI,hb,t2,t5⟩:=hrel;by_cases hlt:k<gg.length;rotate_left
 ·have d1:decide ((k:Int)<(gg.length:Int))=false:=dF;have HE:Hid (tv (GoneM kk gg)=true):=hid (tv_true fun j hj=>HI.out j (by omega));clear HI;go_wp2;go_ret;exact ⟨by rw[HE.out];rfl,hb⟩
 obtain ⟨b,off,rfl,hcell⟩:=(HG.out.below hb).2 (by omega);have d1:=dT (p:=(k:Int)<(gg.length:Int));have j1:(0:Int)≤(k:Int):=by omega
 have j2:(k:Int)<(gg.length:Int):=by omega
 obtain ⟨c1,c2⟩:=cl2 (off+k*2) (hcell k hlt);obtain ⟨f,hf⟩:=nm ((gg[k]).f);obtain ⟨t,ht⟩:=nm ((gg[k]).t);have mo:=HM.out _ (List.getElem_mem hlt);have mf:=mo.f;have mt:=mo.t;have hk0:=HK.out;rw[← hf] at c1 mf;rw[← ht] at c2 mt;have w2:IntKind.i64.wrap (kk+1)=kk+1:=by rw[IntKind.wrap_i64];omega
 have HS:Hid (∀ (A:Prop),(SpanAt kk gg k→A)→(1≤f∧f<t∧t≤kk+1∧(0<k→∀ h':k - 1<gg.length,(gg[k - 1]).t<f)→A)):=hid (fun A h1 h2=>h1 (fun h=>by rw[← hf,← ht];exact h2));have HS2:Hid (SpanAt kk gg k→1≤f∧f<t∧t≤kk+1∧(0<k→∀ h':k - 1<gg.length,(gg[k - 1]).t<f)):=hid (fun h=>by rw[hf,ht];exact h hlt);clear hf ht mo;by_cases h4:0<k
 ·
  obtain ⟨k1,hk1⟩:∃ k1,k=k1+1:=⟨k - 1,by omega⟩
  have w1:IntKind.i64.wrap ((k:Int) - 1)=(k1:Int):=by rw[IntKind.wrap_i64];have:=HN.out;omega
  have i1:(0:Int)≤(k1:Int):=by omega
  have i2:(k1:Int)<(gg.length:Int):=by omega
  obtain ⟨-,c3⟩:=cl2 (off+k1*2) (hcell k1 (by omega));obtain ⟨u,hu⟩:=nm ((gg[k1]).t);rw[← hu] at c3;have HU:Hid (∀ h':k - 1<gg.length,(gg[k - 1]).t=u):=hid (fun h'=>by rw[hu];congr 2;omega);have HK1:=hid hk1;clear hu hk1;have HLT:=hid hlt;clear hcell hlt hk;go_upto_region 4 with (fail)
  obtain ⟨s0,s1⟩:=al2 (bx (wr) [.int .i64 f,.int .i64 t] 191);have hA:=kp (w:=wr) (balo (.cells #[.int .i64 f,.int .i64 t] 191)) (aj5 t2 t5 c1 c2 c3);clear t2 t5 c1 c2 c3;obtain ⟨t2,t5,c1,c2,c3⟩:=hA;replace hb:=bstep hb (balloc (Below.refl _ _) (.cells #[.int .i64 f,.int .i64 t] 191));obtain ⟨wd,hwd⟩:=nm ((wr).alloc (.cells #[.int .i64 f,.int .i64 t] 191));rw[← hwd] at hb t2 t5 c1 c2 c3 s0 s1 ⊢;obtain ⟨bs,hbs⟩:=nm ((wr).heap.size);rw[← hbs] at s0 s1 ⊢;clear hwd hbs;have d5:=dT (p:=0<(k:Int));have d5g:decide ((k:Int) > 0)=true:=d5;by_cases h1:1≤f;rotate_left
  ·
   have d2:=dT (p:=f<1);have d2g:=dT (p:=1 > f);have HE:Hid (tv (GoneM kk gg)=false):=hid (tv_false fun F0=>have f0:=F0 k HLT.out;h1 (HS2.out f0).1);clear HI HS HS2;refine rh (aj8 hb t2 t5 c1 c2 c3 s0 s1) fun wd gH=>?_;refine tk (.range 34) ?_;refine tD ?_;clear hb t2 t5 c1 c2 c3 s0 s1;obtain ⟨hb,t2,t5,c1,c2,c3,s0,s1⟩:=gH;go_wp2;go_ret;exact ⟨by rw[HE.out];rfl,hb⟩
  have d2:=dF (p:=f<1);have d2g:=dF (p:=1 > f);by_cases h2:f<t;rotate_left
  ·
   have d3:=dT (p:=t≤f);have d3g:=dT (p:=f≥t);have HE:Hid (tv (GoneM kk gg)=false):=hid (tv_false fun F0=>have f0:=F0 k HLT.out;h2 (HS2.out f0).2.1);clear HI HS HS2;refine rh (aj8 hb t2 t5 c1 c2 c3 s0 s1) fun wd gH=>?_;refine tk (.range 34) ?_;refine tD ?_;clear hb t2 t5 c1 c2 c3 s0 s1;obtain ⟨hb,t2,t5,c1,c2,c3,s0,s1⟩:=gH;go_wp2;go_ret;exact ⟨by rw[HE.out];rfl,hb⟩
  have d3:=dF (p:=t≤f);have d3g:=dF (p:=f≥t);by_cases h3:t≤kk+1;rotate_left
  ·
   have d4:=dT (p:=kk+1<t);have d4g:=dT (p:=t > kk+1);have HE:Hid (tv (GoneM kk gg)=false):=hid (tv_false fun F0=>have f0:=F0 k HLT.out;h3 (HS2.out f0).2.2.1);clear HI HS HS2;refine rh (aj8 hb t2 t5 c1 c2 c3 s0 s1) fun wd gH=>?_;refine tk (.range 34) ?_;refine tD ?_;clear hb t2 t5 c1 c2 c3 s0 s1;obtain ⟨hb,t2,t5,c1,c2,c3,s0,s1⟩:=gH;go_wp2;go_ret;exact ⟨by rw[HE.out];rfl,hb⟩
  have d4:=dF (p:=kk+1<t);have d4g:=dF (p:=t > kk+1);by_cases h5:u<f;rotate_left
  ·
   have d6:=dT (p:=f≤u);have d6g:=dT (p:=u≥f);have HE:Hid (tv (GoneM kk gg)=false):=hid (tv_false fun F0=>have f0:=F0 k HLT.out;h5 (by have:=HLT.out;have q:=(HS2.out f0).2.2.2 h4 (by omega);rwa [HU.out] at q));clear HI HS HS2;refine rh (aj8 hb t2 t5 c1 c2 c3 s0 s1) fun wd gH=>?_;refine tk (.range 34) ?_;refine tD ?_;clear hb t2 t5 c1 c2 c3 s0 s1;obtain ⟨hb,t2,t5,c1,c2,c3,s0,s1⟩:=gH;go_wp2;go_ret;exact ⟨by rw[HE.out];rfl,hb⟩
  have d6:=dF (p:=f≤u);have d6g:=dF (p:=u≥f);have HI2:Hid (∀ j,j<k+1→SpanAt kk gg j):=hid (fun j hj=>by
   rcases Nat.lt_or_ge j k with h | h
   · exact HI.out j h
   obtain rfl:j=k:=by omega
   exact HS.out _ id ⟨h1,h2,h3,fun h h'=>by rw[HU.out];exact h5⟩)
  clear HI HS HS2;refine rh (aj8 hb t2 t5 c1 c2 c3 s0 s1) fun wd gH=>?_;refine tk (.range 34) ?_;refine tD ?_;clear hb t2 t5 c1 c2 c3 s0 s1;obtain ⟨hb,t2,t5,c1,c2,c3,s0,s1⟩:=gH;have hB1:=HN.out;have hB2:=HLT.out;go_wp2;go_roundw
  ·exact ⟨k+1,by have:=HLT.out;omega,by go_num,HI2,hb,t2,t5⟩
  have:=HLT.out;simp[intOf];omega
 have HLT:=hid hlt;clear hcell hlt hk;go_upto_region 4 with (fail)
 obtain ⟨s0,s1⟩:=al2 (bx (wr) [.int .i64 f,.int .i64 t] 191);have hA:=kp (w:=wr) (balo (.cells #[.int .i64 f,.int .i64 t] 191)) (aj4 t2 t5 c1 c2);clear t2 t5 c1 c2;obtain ⟨t2,t5,c1,c2⟩:=hA;replace hb:=bstep hb (balloc (Below.refl _ _) (.cells #[.int .i64 f,.int .i64 t] 191));obtain ⟨wd,hwd⟩:=nm ((wr).alloc (.cells #[.int .i64 f,.int .i64 t] 191));rw[← hwd] at hb t2 t5 c1 c2 s0 s1 ⊢;obtain ⟨bs,hbs⟩:=nm ((wr).heap.size);rw[← hbs] at s0 s1 ⊢;clear hwd hbs;have d5:=dF (p:=0<(k:Int));have d5g:decide ((k:Int) > 0)=false:=d5;by_cases h1:1≤f;rotate_left
 ·
  have d2:=dT (p:=f<1);have d2g:=dT (p:=1 > f);have HE:Hid (tv (GoneM kk gg)=false):=hid (tv_false fun F0=>have f0:=F0 k HLT.out;h1 (HS2.out f0).1);clear HI HS HS2;refine rh (aj7 hb t2 t5 c1 c2 s0 s1) fun wd gH=>?_;refine tk (.range 34) ?_;refine tD ?_;clear hb t2 t5 c1 c2 s0 s1;obtain ⟨hb,t2,t5,c1,c2,s0,s1⟩:=gH;go_wp2;go_ret;exact ⟨by rw[HE.out];rfl,hb⟩
 have d2:=dF (p:=f<1);have d2g:=dF (p:=1 > f);by_cases h2:f<t;rotate_left
 ·
  have d3:=dT (p:=t≤f);have d3g:=dT (p:=f≥t);have HE:Hid (tv (GoneM kk gg)=false):=hid (tv_false fun F0=>have f0:=F0 k HLT.out;h2 (HS2.out f0).2.1);clear HI HS HS2;refine rh (aj7 hb t2 t5 c1 c2 s0 s1) fun wd gH=>?_;refine tk (.range 34) ?_;refine tD ?_;clear hb t2 t5 c1 c2 s0 s1;obtain ⟨hb,t2,t5,c1,c2,s0,s1⟩:=gH;go_wp2;go_ret;exact ⟨by rw[HE.out];rfl,hb⟩
 have d3:=dF (p:=t≤f);have d3g:=dF (p:=f≥t);by_cases h3:t≤kk+1;rotate_left
 ·
  have d4:=dT (p:=kk+1<t);have d4g:=dT (p:=t > kk+1);have HE:Hid (tv (GoneM kk gg)=false):=hid (tv_false fun F0=>have f0:=F0 k HLT.out;h3 (HS2.out f0).2.2.1);clear HI HS HS2;refine rh (aj7 hb t2 t5 c1 c2 s0 s1) fun wd gH=>?_;refine tk (.range 34) ?_;refine tD ?_;clear hb t2 t5 c1 c2 s0 s1;obtain ⟨hb,t2,t5,c1,c2,s0,s1⟩:=gH;go_wp2;go_ret;exact ⟨by rw[HE.out];rfl,hb⟩
 have d4:=dF (p:=kk+1<t);have d4g:=dF (p:=t > kk+1);have HI2:Hid (∀ j,j<k+1→SpanAt kk gg j):=hid (fun j hj=>by
  rcases Nat.lt_or_ge j k with h | h
  · exact HI.out j h
  obtain rfl:j=k:=by omega
  exact HS.out _ id ⟨h1,h2,h3,fun h h'=>absurd h h4⟩)
 clear HI HS HS2;refine rh (aj7 hb t2 t5 c1 c2 s0 s1) fun wd gH=>?_;refine tk (.range 34) ?_;refine tD ?_;clear hb t2 t5 c1 c2 s0 s1;obtain ⟨hb,t2,t5,c1,c2,s0,s1⟩:=gH;have hB1:=HN.out;have hB2:=HLT.out;go_wp2;go_roundw
 ·exact ⟨k+1,by have:=HLT.out;omega,by go_num,HI2,hb,t2,t5⟩
 have:=HLT.out;simp[intOf];omega
theorem spans_any (x:RM) (w:World) (hI:Row.Lies snE w x.ga x.g.length x.g) (hg:x.g.length≤1048576) (hm:∀ s ∈ x.g,s.Ok) (h0:0≤x.k) (hk:x.k≤1073741824) :
  CB 197 #[.slice x.ga x.g.length x.gc,.int .i64 x.k] w (tv (GoneM x.k x.g)):=by
 obtain ⟨pp,ss,kk,cc,ll,ga,gc,gg,qq,wa,wc,ww⟩:=x;simp only at hI hg hm h0 hk ⊢;have HG:=hid hI;have HM:=hid hm;have HN:=hid hg;have HK:=hid (And.intro h0 hk);clear hI hm hg h0 hk;go_enter Tryz.func197,Tryz.ntmps197;have hb:=Below.refl w.heap.size w;go_wp2_with fail
 go_loopw [5] (fun iv wr=>∃ k:Nat,k≤gg.length∧iv=.int .i64 k∧Hid (∀ j,j<k→SpanAt kk gg j)∧Below w.heap.size w wr) (fun iv _=>gg.length - (intOf iv).toNat)
 case atStart=>exact ⟨0,by omega,rfl,hid (fun j h=>absurd h (by omega)),hb⟩
 clear hb;obtain ⟨k,hk,rfl,HI,hb⟩:=hrel;by_cases hlt:k<gg.length;rotate_left
 ·have d1:decide ((k:Int)<(gg.length:Int))=false:=dF;have HE:Hid (tv (GoneM kk gg)=true):=hid (tv_true fun j hj=>HI.out j (by omega));clear HI;go_wp2;go_ret;exact ⟨by rw[HE.out];rfl,hb⟩
 obtain ⟨b,off,rfl,hcell⟩:=(HG.out.below hb).2 (by omega);have d1:=dT (p:=(k:Int)<(gg.length:Int));have j1:(0:Int)≤(k:Int):=by omega
 have j2:(k:Int)<(gg.length:Int):=by omega
 obtain ⟨c1,c2⟩:=cl2 (off+k*2) (hcell k hlt);obtain ⟨f,hf⟩:=nm ((gg[k]).f);obtain ⟨t,ht⟩:=nm ((gg[k]).t);have mo:=HM.out _ (List.getElem_mem hlt);have mf:=mo.f;have mt:=mo.t;have hk0:=HK.out;rw[← hf] at c1 mf;rw[← ht] at c2 mt;have w2:IntKind.i64.wrap (kk+1)=kk+1:=by rw[IntKind.wrap_i64];omega
 have HS:Hid (∀ (A:Prop),(SpanAt kk gg k→A)→(1≤f∧f<t∧t≤kk+1∧(0<k→∀ h':k - 1<gg.length,(gg[k - 1]).t<f)→A)):=hid (fun A h1 h2=>h1 (fun h=>by rw[← hf,← ht];exact h2));have HS2:Hid (SpanAt kk gg k→1≤f∧f<t∧t≤kk+1∧(0<k→∀ h':k - 1<gg.length,(gg[k - 1]).t<f)):=hid (fun h=>by rw[hf,ht];exact h hlt);clear hf ht mo;by_cases h4:0<k
 ·
  obtain ⟨k1,hk1⟩:∃ k1,k=k1+1:=⟨k - 1,by omega⟩
  have w1:IntKind.i64.wrap ((k:Int) - 1)=(k1:Int):=by rw[IntKind.wrap_i64];have:=HN.out;omega
  have i1:(0:Int)≤(k1:Int):=by omega
  have i2:(k1:Int)<(gg.length:Int):=by omega
  obtain ⟨-,c3⟩:=cl2 (off+k1*2) (hcell k1 (by omega));obtain ⟨u,hu⟩:=nm ((gg[k1]).t);rw[← hu] at c3;have HU:Hid (∀ h':k - 1<gg.length,(gg[k - 1]).t=u):=hid (fun h'=>by rw[hu];congr 2;omega);have HK1:=hid hk1;clear hu hk1;have HLT:=hid hlt;clear hcell hlt hk;go_wp2_with fail
  have d5:=dT (p:=0<(k:Int));have d5g:decide ((k:Int) > 0)=true:=d5;by_cases h1:1≤f;rotate_left
  ·
   have d2:=dT (p:=f<1);have d2g:=dT (p:=1 > f);have HE:Hid (tv (GoneM kk gg)=false):=hid (tv_false fun F0=>have f0:=F0 k HLT.out;h1 (HS2.out f0).1);clear HI HS HS2;refine rh (aj4 hb c1 c2 c3) fun wd gH=>?_;refine tk (.range 47) ?_;refine tD ?_;clear hb c1 c2 c3;obtain ⟨hb,c1,c2,c3⟩:=gH;go_wp2;go_ret;exact ⟨by rw[HE.out];rfl,hb⟩
  have d2:=dF (p:=f<1);have d2g:=dF (p:=1 > f);by_cases h2:f<t;rotate_left
  ·
   have d3:=dT (p:=t≤f);have d3g:=dT (p:=f≥t);have HE:Hid (tv (GoneM kk gg)=false):=hid (tv_false fun F0=>have f0:=F0 k HLT.out;h2 (HS2.out f0).2.1);clear HI HS HS2;refine rh (aj4 hb c1 c2 c3) fun wd gH=>?_;refine tk (.range 47) ?_;refine tD ?_;clear hb c1 c2 c3;obtain ⟨hb,c1,c2,c3⟩:=gH;go_wp2;go_ret;exact ⟨by rw[HE.out];rfl,hb⟩
  have d3:=dF (p:=t≤f);have d3g:=dF (p:=f≥t);by_cases h3:t≤kk+1;rotate_left
  ·
   have d4:=dT (p:=kk+1<t);have d4g:=dT (p:=t > kk+1);have HE:Hid (tv (GoneM kk gg)=false):=hid (tv_false fun F0=>have f0:=F0 k HLT.out;h3 (HS2.out f0).2.2.1);clear HI HS HS2;refine rh (aj4 hb c1 c2 c3) fun wd gH=>?_;refine tk (.range 47) ?_;refine tD ?_;clear hb c1 c2 c3;obtain ⟨hb,c1,c2,c3⟩:=gH;go_wp2;go_ret;exact ⟨by rw[HE.out];rfl,hb⟩
  have d4:=dF (p:=kk+1<t);have d4g:=dF (p:=t > kk+1);by_cases h5:u<f;rotate_left
  ·
   have d6:=dT (p:=f≤u);have d6g:=dT (p:=u≥f);have HE:Hid (tv (GoneM kk gg)=false):=hid (tv_false fun F0=>have f0:=F0 k HLT.out;h5 (by have:=HLT.out;have q:=(HS2.out f0).2.2.2 h4 (by omega);rwa [HU.out] at q));clear HI HS HS2;refine rh (aj4 hb c1 c2 c3) fun wd gH=>?_;refine tk (.range 47) ?_;refine tD ?_;clear hb c1 c2 c3;obtain ⟨hb,c1,c2,c3⟩:=gH;go_wp2;go_ret;exact ⟨by rw[HE.out];rfl,hb⟩
  have d6:=dF (p:=f≤u);have d6g:=dF (p:=u≥f);have HI2:Hid (∀ j,j<k+1→SpanAt kk gg j):=hid (fun j hj=>by
   rcases Nat.lt_or_ge j k with h | h
   · exact HI.out j h
   obtain rfl:j=k:=by omega
   exact HS.out _ id ⟨h1,h2,h3,fun h h'=>by rw[HU.out];exact h5⟩)
  clear HI HS HS2;refine rh (aj4 hb c1 c2 c3) fun wd gH=>?_;refine tk (.range 47) ?_;refine tD ?_;clear hb c1 c2 c3;obtain ⟨hb,c1,c2,c3⟩:=gH;have hB1:=HN.out;have hB2:=HLT.out;go_wp2;go_roundw
  ·exact ⟨k+1,by have:=HLT.out;omega,by go_num,HI2,hb⟩
  have:=HLT.out;simp[intOf];omega
 have HLT:=hid hlt;clear hcell hlt hk;go_wp2_with fail
 have d5:=dF (p:=0<(k:Int));have d5g:decide ((k:Int) > 0)=false:=d5;by_cases h1:1≤f;rotate_left
 ·
  have d2:=dT (p:=f<1);have d2g:=dT (p:=1 > f);have HE:Hid (tv (GoneM kk gg)=false):=hid (tv_false fun F0=>have f0:=F0 k HLT.out;h1 (HS2.out f0).1);clear HI HS HS2;refine rh (aj3 hb c1 c2) fun wd gH=>?_;refine tk (.range 47) ?_;refine tD ?_;clear hb c1 c2;obtain ⟨hb,c1,c2⟩:=gH;go_wp2;go_ret;exact ⟨by rw[HE.out];rfl,hb⟩
 have d2:=dF (p:=f<1);have d2g:=dF (p:=1 > f);by_cases h2:f<t;rotate_left
 ·
  have d3:=dT (p:=t≤f);have d3g:=dT (p:=f≥t);have HE:Hid (tv (GoneM kk gg)=false):=hid (tv_false fun F0=>have f0:=F0 k HLT.out;h2 (HS2.out f0).2.1);clear HI HS HS2;refine rh (aj3 hb c1 c2) fun wd gH=>?_;refine tk (.range 47) ?_;refine tD ?_;clear hb c1 c2;obtain ⟨hb,c1,c2⟩:=gH;go_wp2;go_ret;exact ⟨by rw[HE.out];rfl,hb⟩
 have d3:=dF (p:=t≤f);have d3g:=dF (p:=f≥t);by_cases h3:t≤kk+1;rotate_left
 ·
  have d4:=dT (p:=kk+1<t);have d4g:=dT (p:=t > kk+1);have HE:Hid (tv (GoneM kk gg)=false):=hid (tv_false fun F0=>have f0:=F0 k HLT.out;h3 (HS2.out f0).2.2.1);clear HI HS HS2;refine rh (aj3 hb c1 c2) fun wd gH=>?_;refine tk (.range 47) ?_;refine tD ?_;clear hb c1 c2;obtain ⟨hb,c1,c2⟩:=gH;go_wp2;go_ret;exact ⟨by rw[HE.out];rfl,hb⟩
 have d4:=dF (p:=kk+1<t);have d4g:=dF (p:=t > kk+1);have HI2:Hid (∀ j,j<k+1→SpanAt kk gg j):=hid (fun j hj=>by
  rcases Nat.lt_or_ge j k with h | h
  · exact HI.out j h
  obtain rfl:j=k:=by omega
  exact HS.out _ id ⟨h1,h2,h3,fun h h'=>absurd h h4⟩)
 clear HI HS HS2;refine rh (aj3 hb c1 c2) fun wd gH=>?_;refine tk (.range 47) ?_;refine tD ?_;clear hb c1 c2;obtain ⟨hb,c1,c2⟩:=gH;have hB1:=HN.out;have hB2:=HLT.out;go_wp2;go_roundw
 ·exact ⟨k+1,by have:=HLT.out;omega,by go_num,HI2,hb⟩
 have:=HLT.out;simp[intOf];omega
end Mem
namespace Coder
open RowKit YtnpjkmomllkhpaaGreatDoor.Mark Num Wire Mem
structure WrM (x:RM):Prop where
 ok:x.Ok
 k:0≤x.k
 c:0≤x.c
 g:∀ s ∈ x.g,0≤s.f∧s.f≤9223372036854775807∧0≤s.t∧s.t≤9223372036854775807
def fM (x:RM):List UInt8:=mbb x.m
end Coder
end Go.Proofs.YtnpjkmomllkhpaaGreatDoor
