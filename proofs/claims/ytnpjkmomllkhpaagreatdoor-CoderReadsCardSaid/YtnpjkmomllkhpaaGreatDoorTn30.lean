/- PathWrite, PathOrd, RefPathNum, RefPathPlain. -/
import Derived.Test.YtnpjkmomllkhpaaGreatDoorTn29
import Derived.Lib.ItoaNum
set_option linter.unusedVariables false
set_option linter.unusedSimpArgs false
set_option maxRecDepth 100000
set_option maxHeartbeats 1000000
namespace Go.Proofs.YtnpjkmomllkhpaaGreatDoor
namespace Path
theorem dec_snoc:∀ (l:List UInt8) (c:UInt8) (n:Nat),dec (l++[c]) n=match dec l n with
  | none=>none
  | some m=>if c.toNat<48∨57<c.toNat then none else some (10*m+(c.toNat - 48))
 | [],c,n=>by
  rw[List.nil_append,dec_cons];rfl
 | x::l,c,n=>by
  rw[List.cons_append,dec_cons,dec_cons];split
  · rfl
  exact dec_snoc l c _
theorem dig_toNat (d:Nat) (h:d<10):(UInt8.ofNat (48+d)).toNat=48+d:=by simp;omega
theorem dec_digits (u:Nat):dec (Lib.decDigits u) 0=some u:=by
 induction u using Nat.strongRecOn with
 | _ u ih =>
  rw[Lib.decDigits];split
  ·rename_i h
   rw[dec_cons,dig_toNat u h,if_neg (by omega)];simp[dec]
  rename_i h
  rw[dec_snoc,ih (u / 10) (by omega)];simp only;rw[dig_toNat (u % 10) (by omega),if_neg (by omega)];congr 1;omega
theorem digits_ne (u:Nat):Lib.decDigits u≠[]:=by
 rw[Lib.decDigits];split <;> simp
theorem digits_head (u:Nat) (h:1≤u):(Lib.decDigits u).head?≠some 48:=by
 induction u using Nat.strongRecOn with
 | _ u ih =>
  rw[Lib.decDigits];split
  ·rename_i h9
   rw[List.head?_cons];intro e;have:=congrArg UInt8.toNat (Option.some.inj e);rw[dig_toNat u h9] at this;have h48:(48:UInt8).toNat=48:=rfl;omega
  rename_i h9
  have:=ih (u / 10) (by omega) (by omega);cases hd:Lib.decDigits (u / 10) with
  | nil=>exact absurd hd (digits_ne _)
  | cons c r=>rw[hd] at this;simpa using this
theorem digits_len:∀ (k u:Nat),1≤k→u<10 ^ k→(Lib.decDigits u).length≤k
 | 0,_,h,_=>absurd h (by omega)
 | k+1,u,_,h=>by
  rw[Lib.decDigits];split
  · simp
  rename_i h9
  rw[List.length_append,List.length_singleton];have:1≤k:=by
   rcases Nat.eq_zero_or_pos k with rfl | h0
   · simp at h;omega
   exact h0
  have:=digits_len k (u / 10) this (by rw[Nat.pow_succ] at h;omega);omega
theorem digits_of:∀ (n:Nat) (f:List UInt8) (x:Nat),f.length≤n→f≠[]→f.head?≠some 48→dec f 0=some x→f=Lib.decDigits x∧1≤x
 | 0,f,x,h,h0,_,_=>absurd (List.length_eq_zero_iff.1 (by omega)) h0
 | n+1,f,x,hl,h0,hh,hd=>by
  have hs:=List.dropLast_concat_getLast h0;obtain ⟨g,hg⟩:=nm f.dropLast;obtain ⟨c,hc⟩:=nm (f.getLast h0);rw[← hg,← hc] at hs;have hgl:g.length+1=f.length:=by rw[← hs];simp
  rw[← hs,dec_snoc] at hd;cases hm:dec g 0 with
  | none=>rw[hm] at hd;cases hd
  | some m =>
   rw[hm] at hd;simp only at hd;split at hd
   · cases hd
   rename_i hcd
   have hx:=Option.some.inj hd;by_cases hgn:g=[]
   ·subst hgn;simp only[dec,Option.some.injEq] at hm;have h48:c≠48:=by
     rw[← hs,List.nil_append,List.head?_cons] at hh;intro e;exact hh (by rw[e])
    have h48':c.toNat≠48:=fun e=>h48 (UInt8.toNat_inj.1 e);refine ⟨?_,by omega⟩;rw[← hs,List.nil_append,Lib.decDigits,dif_pos (by omega)];congr 1
    apply UInt8.toNat_inj.1;rw[dig_toNat x (by omega)];omega
   have hgh:g.head?≠some 48:=by
    cases g with
    | nil=>exact absurd rfl hgn
    | cons y r=>rw[← hs] at hh;simpa using hh
   obtain ⟨e1,e2⟩:=digits_of n g m (by omega) hgn hgh hm;refine ⟨?_,by omega⟩;rw[← hs,Lib.decDigits,dif_neg (by omega),show x / 10=m by omega,← e1];congr 2
   apply UInt8.toNat_inj.1;rw[dig_toNat (x % 10) (by omega)];omega
theorem dec_all:∀ (l:List UInt8) (n x:Nat),dec l n=some x→∀ c ∈ l,48≤c.toNat∧c.toNat≤57
 | [],_,_,_,c,h=>by cases h
 | y::l,n,x,hd,c,h=>by
  rw[dec_cons] at hd;split at hd
  · cases hd
  rename_i hb
  rcases List.mem_cons.1 h with rfl | h
  · omega
  exact dec_all l _ x hd c h
theorem num1_digits (x:Nat) (h1:1≤x) (h2:x≤1073741824):num1 (Lib.decDigits x)=x:=by
 have hl:=digits_len 10 x (by decide) (by omega);rw[num1,if_neg,dec_digits]
 · simp only;rw[if_neg (by omega)]
 rintro (h | h | h)
 · exact digits_ne x h
 · omega
 exact digits_head x h1 h
theorem digits_num1 (f:List UInt8) (h:num1 f≠0):f=Lib.decDigits (num1 f):=by
 unfold num1 at h ⊢;split at h
 · exact absurd rfl h
 rename_i h1
 rw[if_neg h1];split at h
 · exact absurd rfl h
 rename_i x hx
 split at h
 · exact absurd rfl h
 rename_i h2
 rw[if_neg h2];exact (digits_of f.length f x (Nat.le_refl _) (fun e=>h1 (.inl e)) (fun e=>h1 (.inr (.inr e))) hx).1
theorem digits_dot (x:Nat):∀ c ∈ Lib.decDigits x,c≠46:=by
 intro c hc e;have:=dec_all _ 0 x (dec_digits x) c hc;rw[e] at this;exact absurd this.1 (by decide)
def write:List Nat→List UInt8
 | []=>[]
 | [x]=>Lib.decDigits x
 | x::y::r=>Lib.decDigits x++46::write (y::r)
def unfigs:List (List UInt8)→List UInt8
 | []=>[]
 | [f]=>f
 | f::g::r=>f++46::unfigs (g::r)
theorem write_unfigs:∀ l,write l=unfigs (l.map Lib.decDigits)
 | []=>rfl
 | [x]=>rfl
 | x::y::r=>by
  have h:=write_unfigs (y::r);rw[write,h];rfl
theorem figs_ne (l:List UInt8):figs l≠[]:=by rw[figs_cut];simp
theorem unfigs_cons (f:List UInt8) (L:List (List UInt8)) (h:L≠[]):unfigs (f::L)=f++46::unfigs L:=by
 cases L with
 | nil=>exact absurd rfl h
 | cons g r=>rfl
theorem unfigs_figs:∀ l:List UInt8,unfigs (figs l)=l
 | []=>rfl
 | c::r=>by
  have ih:=unfigs_figs r;rw[figs_cons];by_cases h:c=46
  · rw[if_pos h,unfigs_cons _ _ (figs_ne r),ih,h];rfl
  rw[if_neg h];cases hf:figs r with
  | nil=>exact absurd hf (figs_ne r)
  | cons f fs =>
   rw[hf] at ih;simp only;cases fs with
   | nil=>rw[unfigs] at ih ⊢;rw[ih]
   | cons g gs=>rw[unfigs_cons _ _ (by simp)] at ih ⊢;rw[List.cons_append,ih]
theorem figs_one:∀ f:List UInt8,(∀ c ∈ f,c≠46)→figs f=[f]
 | [],_=>rfl
 | c::r,h=>by
  rw[figs_cons,if_neg (h c (List.mem_cons_self ..)),figs_one r (fun x hx=>h x (List.mem_cons_of_mem _ hx))]
theorem figs_more:∀ (f r:List UInt8),(∀ c ∈ f,c≠46)→figs (f++46::r)=f::figs r
 | [],r,_=>by rw[List.nil_append,figs_cons,if_pos rfl]
 | c::f,r,h=>by
  rw[List.cons_append,figs_cons,if_neg (h c (List.mem_cons_self ..)),figs_more f r (fun x hx=>h x (List.mem_cons_of_mem _ hx))]
theorem figs_write:∀ l:List Nat,l≠[]→figs (write l)=l.map Lib.decDigits
 | [],h=>absurd rfl h
 | [x],_=>figs_one _ (digits_dot x)
 | x::y::r,_=>by
  rw[write,figs_more _ _ (digits_dot x),figs_write (y::r) (by simp)];rfl
theorem ys_map:∀ L:List (List UInt8),(∀ x ∈ ys L,x≠0)→ys L=L.map num1
 | [],_=>rfl
 | f::r,h=>by
  have h0:num1 f≠0:=h _ (by rw[ys];exact List.mem_cons_self ..);have hy:ys (f::r)=num1 f::ys r:=by rw[ys,if_neg h0]
  rw[hy,List.map_cons,ys_map r (fun x hx=>h x (by rw[hy];exact List.mem_cons_of_mem _ hx))]
theorem ys_all:∀ L:List (List UInt8),(∀ f ∈ L,num1 f≠0)→ys L=L.map num1
 | [],_=>rfl
 | f::r,h=>by
  rw[ys,if_neg (h f (List.mem_cons_self ..)),ys_all r (fun g hg=>h g (List.mem_cons_of_mem _ hg))];rfl
def Valid (l:List Nat):Prop:=l.getD 0 0=1∧l.length≤8∧∀ x ∈ l,1≤x∧x≤1073741824
theorem Valid.ne {l:List Nat} (h:Valid l):l≠[]:=by rintro rfl;exact absurd h.1 (by decide)
theorem parse_write (l:List Nat) (h:Valid l):parse (write l)=l:=by
 have hn:=h.ne;have hy:ys (figs (write l))=l:=by
  rw[figs_write l hn,ys_all,List.map_map]
  ·conv=>rhs;rw[← List.map_id l]
   exact List.map_congr_left fun x hx=>num1_digits x (h.2.2 x hx).1 (h.2.2 x hx).2
  intro f hf;obtain ⟨x,hx,rfl⟩:=List.mem_map.1 hf;rw[num1_digits x (h.2.2 x hx).1 (h.2.2 x hx).2];have:=(h.2.2 x hx).1;omega
 rw[parse,hy,if_pos ⟨fun x hx=>by have:=(h.2.2 x hx).1;omega,h.2.1,h.1⟩]
theorem parse_valid (p:List UInt8) (h:parse p≠[]):Valid (parse p):=by
 refine ⟨?_,parse_length p,parse_mem p⟩;unfold parse at h ⊢;split
 · rename_i e;exact e.2.2
 rename_i e;rw[if_neg e] at h;exact absurd rfl h
theorem write_parse (p:List UInt8) (h:parse p≠[]):write (parse p)=p:=by
 have hy:parse p=ys (figs p)∧(∀ x ∈ ys (figs p),x≠0):=by
  unfold parse at h ⊢;split
  · rename_i e;exact ⟨rfl,e.1⟩
  rename_i e;rw[if_neg e] at h;exact absurd rfl h
 have hm:=ys_map _ hy.2;have hf:(figs p).map (fun f=>Lib.decDigits (num1 f))=figs p:=by
  conv=>rhs;rw[← List.map_id (figs p)]
  refine List.map_congr_left fun f hf=>?_;have h0:num1 f≠0:=hy.2 _ (by rw[hm];exact List.mem_map.2 ⟨f,hf,rfl⟩);exact (digits_num1 f h0).symm
 rw[write_unfigs,hy.1,hm,List.map_map];exact (congrArg unfigs hf).trans (unfigs_figs p)
theorem parse_inj {p q:List UInt8} (h:parse p≠[]) (e:parse p=parse q):p=q:=by
 rw[← write_parse p h,← write_parse q (by rw[← e];exact h),e]
end Path
namespace Path
open RowKit
def parentL (p:List UInt8):List UInt8:=if (parse p).length<2 then [] else write (parse p).dropLast
theorem write_snoc:∀ (l:List Nat) (x:Nat),l≠[]→write (l++[x])=write l++46::Lib.decDigits x
 | [],_,h=>absurd rfl h
 | [y],x,_=>rfl
 | y::z::r,x,_=>by
  have h:=write_snoc (z::r) x (by simp);rw[List.cons_append,List.cons_append,write,← List.cons_append,h,write,List.append_assoc];rfl
theorem last_point (p:List UInt8) (h:2≤(parse p).length):Lib.lastIndexByte ({ data:=p.toArray }:ByteArray) 46=(((write (parse p).dropLast).length:Nat):Int)∧p.take (write (parse p).dropLast).length=write (parse p).dropLast∧(write (parse p).dropLast).length<p.length:=by
 have hne:parse p≠[]:=by intro e;rw[e] at h;simp at h
 have hp:=write_parse p hne;obtain ⟨l,hl⟩:=nm (parse p);rw[← hl] at h hne hp ⊢;have hs:=List.dropLast_concat_getLast hne;have hdn:l.dropLast≠[]:=by intro e;have:=congrArg List.length e;simp at this;omega
 have hw:p=write l.dropLast++46::Lib.decDigits (l.getLast hne):=by
  rw[← write_snoc _ _ hdn,hs,hp]
 obtain ⟨a,ha⟩:=nm (write l.dropLast);obtain ⟨d,hd⟩:=nm (Lib.decDigits (l.getLast hne));have hdot:=digits_dot (l.getLast hne);rw[← hd] at hw hdot;rw[← ha] at hw ⊢;refine ⟨?_,by rw[hw,List.take_left],by rw[hw];simp⟩;have hsz:=Str.size_mk p;rcases Lib.lastIndexByte_spec ({ data:=p.toArray }:ByteArray) 46 with ⟨_,h2⟩ | ⟨i,h1,h2,h3,h4⟩
 ·exfalso;have:=h2 a.length (by rw[hsz,hw];simp);rw[hw] at this;simp at this
 rw[h2];rw[hsz] at h1 h4;congr 1
 rcases Nat.lt_trichotomy i a.length with hlt | heq | hgt
 ·exfalso;have:=h4 a.length hlt (by rw[hw];simp);rw[hw] at this;simp at this
 · exact heq
 exfalso;have hi:p[i]?=d[i - a.length - 1]?:=by
  rw[hw,List.getElem?_append_right (by omega)];obtain ⟨k,hk⟩:∃ k,i - a.length=k+1:=⟨i - a.length - 1,by omega⟩
  rw[hk];simp
 rw[List.getElem?_eq_getElem (by omega)] at hi;have hm:=List.mem_of_getElem? hi.symm;refine hdot _ hm ?_;apply UInt8.toNat_inj.1;have:((p.toArray[i]!).toNat:Int)=46:=h3;rw[getElem!_pos _ _ (by simpa using h1)] at this;have h46:(46:UInt8).toNat=46:=rfl;simp at this;omega
theorem parent_any (p:List UInt8) (w:World) (hp:p.length≤1099511627776) :
  CB 121 #[p] w (parentL p):=by
 have C:=hid (fun w=>deep_any p w hp);have hsz:=Str.size_mk p;by_cases h2:(parse p).length<2
 ·have hv:=hid (show parentL p=[] by rw[parentL,if_pos h2]);obtain ⟨n,hn⟩:=nm ((parse p).length);rw[← hn] at C h2;clear hn;have hd:=dT (p:=(n:Int)<2);go_enter Tryz.func121,Tryz.ntmps121;go_wp2_with fail
  refine cr (C.out _) fun w1 hb=>?_;go_wp2;go_ret;exact ⟨by rw[hv.out];rfl,hb⟩
 obtain ⟨e1,e2,e3⟩:=last_point p (by omega);have hv:=hid (show parentL p=p.take (write (parse p).dropLast).length by rw[parentL,if_neg h2,e2]);obtain ⟨n,hn⟩:=nm ((parse p).length);rw[← hn] at C h2;obtain ⟨k,hk⟩:=nm ((write (parse p).dropLast).length);rw[← hk] at e1 e3 hv;have L:=hid (fun w=>Tryz.strings_LastIndexByte ⟨p.toArray⟩ 46 (by rw[hsz];omega) w);rw[e1] at L;clear hn hk e1 e2;have hd:=dF (p:=(n:Int)<2);have hk0:(0:Int)≤(k:Int):=by omega
 have hk1:(k:Int)≤(p.length:Int):=by omega
 have hex:=slice_upto p k;go_enter Tryz.func121,Tryz.ntmps121;go_wp2_with fail
 refine cr (C.out _) fun w1 hb=>?_;go_wp2_with fail
 refine cq (L.out _) ?_;go_wp2;go_ret;exact ⟨by rw[hv.out];rfl,hb⟩
end Path
namespace RefPath
open RowKit Path
theorem digits_step {m:Nat} (h:9<m):Lib.decDigits m=Lib.decDigits (m / 10)++[UInt8.ofNat (48+m % 10)]:=by
 conv=>lhs;rw[Lib.decDigits,dif_neg (by omega)]
theorem digits_last {m:Nat} (h:m≤9):Lib.decDigits m=[UInt8.ofNat (48+m)]:=by
 rw[Lib.decDigits,dif_pos (by omega)]
theorem num_any (n:Nat) (w:World) (hn:n≤1099511627776) :
  CB 249 #[.int .i64 n] w (Lib.decDigits n):=by
 go_enter Tryz.func249,Tryz.ntmps249;go_wp2_with fail
 go_loopw [0,3] (fun nv sv wr=>∃ (m:Nat) (t:List UInt8),m≤n∧nv=.int .i64 m∧sv=.string ⟨t.toArray⟩∧Hid (Lib.decDigits n=Lib.decDigits m++t)∧Below w.heap.size w wr) (fun nv _ _=>(intOf nv).toNat)
 case atStart=>exact ⟨n,[],Nat.le_refl _,rfl,rfl,hid (by simp),Below.refl _ _⟩
 obtain ⟨m,t,hm,rfl,rfl,HI,hb⟩:=hrel;have htl:t.length≤13:=by
  have h1:=congrArg List.length HI.out;have h2:=digits_len 13 n (by decide) (by omega);rw[List.length_append] at h1;omega
 have hst:=Str.size_mk t;by_cases hlt:9<m
 ·have hd:decide ((9:Int)<(m:Int))=true:=dT;have hu:IntKind.u8.wrap (48+(m:Int) % 10)=48+(m:Int) % 10:=by rw[IntKind.wrap_u8'];omega
  have hst1:=digits_step hlt;obtain ⟨z,hz⟩:=nm (UInt8.ofNat (48+m % 10));have hcv:=fun w=>Conv.conv1 (48+(m:Int) % 10) z (by rw[hz];simp;omega) w w.heap.size rfl;rw[← hz] at hst1;have HS:=hid hst1;clear hz hst1;have hdiv:(m:Int) / 10=((m / 10:Nat):Int):=by omega
  have HD:=hid hdiv;clear hdiv;go_wp2;go_roundw
  ·exact ⟨m / 10,z::t,by omega,by rw[HD.out],congrArg Value.string (Str.mk_append_mk [z] t),hid (by rw[HI.out,HS.out,List.append_assoc];rfl),balloc hb _⟩
  simp[intOf];omega
 have hd:=dF (p:=(9:Int)<(m:Int));have hu:IntKind.u8.wrap (48+(m:Int))=48+(m:Int):=by rw[IntKind.wrap_u8'];omega
 have hst1:=digits_last (m:=m) (by omega);obtain ⟨z,hz⟩:=nm (UInt8.ofNat (48+m));have hcv:=fun w=>Conv.conv1 (48+(m:Int)) z (by rw[hz];simp;omega) w w.heap.size rfl;rw[← hz] at hst1;have HS:=hid hst1;clear hz hst1;go_wp2;go_ret;exact ⟨by rw[HI.out,HS.out,← Str.mk_append_mk];rfl,balloc hb _⟩
def seg:List UInt8→Nat→Option Nat
 | [],n=>some n
 | c::r,n=>if c.toNat<48∨57<c.toNat∨1073741824<n then none else seg r (10*n+(c.toNat - 48))
theorem seg_cons (c:UInt8) (r:List UInt8) (n:Nat):seg (c::r) n=if c.toNat<48∨57<c.toNat∨1073741824<n then none else seg r (10*n+(c.toNat - 48)):=rfl
theorem dec_le:∀ (r:List UInt8) (n x:Nat),dec r n=some x→n≤x
 | [],n,x,h=>by rw[dec] at h;have:=Option.some.inj h;omega
 | c::r,n,x,h=>by
  rw[dec_cons] at h;split at h
  · cases h
  have:=dec_le r _ x h;omega
theorem seg_dec:∀ (r:List UInt8) (n x:Nat),dec r n=some x→x≤1073741824→seg r n=some x
 | [],n,x,h,_=>h
 | c::r,n,x,h,hx=>by
  have hn:=dec_le _ _ _ h;rw[dec_cons] at h;split at h
  · cases h
  rename_i hc
  rw[seg_cons,if_neg (by omega)];exact seg_dec r _ x h hx
theorem num1_none {f:List UInt8} (h:∀ x,seg f 0=some x→1≤x→x≤1073741824→Lib.decDigits x≠f):num1 f=0:=by
 rcases Nat.eq_zero_or_pos (num1 f) with h0 | h0
 · exact h0
 exfalso;have hf:=digits_num1 f (by omega);have hle:=num1_le f;have hd:=dec_digits (num1 f);rw[← hf] at hd;exact h (num1 f) (seg_dec f 0 _ hd hle) (by omega) hle hf.symm
theorem cutD_split:∀ l:List UInt8,(∀ c ∈ (cutD l).1,c≠46)∧(((cutD l).2.2=true∧l=(cutD l).1++46::(cutD l).2.1)∨((cutD l).2.2=false∧l=(cutD l).1))
 | []=>⟨fun c h=>(by cases h),.inr ⟨rfl,rfl⟩⟩
 | c::r=>by
  rw[cutD_cons];by_cases h:c=46
  · rw[if_pos h];exact ⟨fun c h=>(by cases h),.inl ⟨rfl,by rw[h];rfl⟩⟩
  rw[if_neg h];obtain ⟨h1,h2⟩:=cutD_split r;refine ⟨fun x hx=>?_,?_⟩
  ·rcases List.mem_cons.1 hx with rfl | hx
   · exact h
   exact h1 x hx
  rcases h2 with ⟨e1,e2⟩ | ⟨e1,e2⟩
  · exact .inl ⟨e1,congrArg (c :: ·) e2⟩
  exact .inr ⟨e1,congrArg (c :: ·) e2⟩
def Mid (p:List UInt8) (dn:List Nat) (F:List (List UInt8)):Prop:=figs p=dn.map Lib.decDigits++F∧∀ x ∈ dn,1≤x∧x≤1073741824
theorem Mid.next {p:List UInt8} {dn:List Nat} {f:List UInt8} {F:List (List UInt8)} {x:Nat} (h:Mid p dn (f::F)) (h1:1≤x) (h2:x≤1073741824) (h3:Lib.decDigits x=f):Mid p (dn++[x]) F:=by
 refine ⟨by rw[h.1,List.map_append,List.append_assoc,← h3];rfl,fun y hy=>?_⟩;rcases List.mem_append.1 hy with hy | hy
 · exact h.2 y hy
 simp at hy;omega
theorem ys_dn (dn:List Nat) (F:List (List UInt8)) (h:∀ x ∈ dn,1≤x∧x≤1073741824):ys (dn.map Lib.decDigits++F)=dn++ys F:=by
 induction dn with
 | nil=>rfl
 | cons x r ih =>
  have hx:=h x (List.mem_cons_self ..);rw[List.map_cons,List.cons_append,ys,num1_digits x hx.1 hx.2,if_neg (by omega),ih (fun y hy=>h y (List.mem_cons_of_mem _ hy))];rfl
theorem Mid.bad {p:List UInt8} {dn:List Nat} {f:List UInt8} {F:List (List UInt8)} (h:Mid p dn (f::F)) (h0:num1 f=0):parse p=[]:=by
 rw[parse,if_neg];rintro ⟨h1,_⟩;refine h1 0 ?_ rfl;rw[h.1,ys_dn dn _ h.2,ys,h0];simp
theorem Mid.all {p:List UInt8} {dn:List Nat} (h:Mid p dn []):parse p=if dn.length≤8∧dn.getD 0 0=1 then dn else []:=by
 have hy:ys (figs p)=dn:=by rw[h.1,ys_dn dn _ h.2,ys,List.append_nil]
 rw[parse,hy];by_cases hc:dn.length≤8∧dn.getD 0 0=1
 · rw[if_pos hc,if_pos ⟨fun x hx=>by have:=h.2 x hx;omega,hc⟩]
 rw[if_neg hc,if_neg (fun e=>hc e.2)]
theorem Mid.ne {p:List UInt8} {dn:List Nat} (h:Mid p dn []):dn≠[]:=by
 intro e;have:=h.1;rw[e] at this;exact figs_ne p this
def Ints (W:World) (g:Nat) (l:List Nat):Prop:=∀ j,j<l.length→W.cell? ⟨g,j,none⟩=some (.int .i64 ((l.getD j 0:Nat):Int))
theorem Ints.below {W W':World} {g:Nat} {l:List Nat} (h:Ints W g l) (k:Below W.heap.size W W'):Ints W' g l:=fun j hj =>
 (k.cell (p:=⟨g,j,none⟩) (World.block_lt_of_cell? _ _ (h j hj))).trans (h j hj)
def ints (l:List Nat):List Value:=l.map fun x=>.int .i64 ((x:Nat):Int)
theorem ints_snoc (l:List Nat) (x:Nat):ints l++[.int .i64 ((x:Nat):Int)]=ints (l++[x]):=by simp[ints]
theorem ints_of_own {W:World} {B:Nat} {t:TypeId} {v:Value} {l:List Nat} (h:W.ownsRow B t 1 v l.length (ints l)) (hl:l≠[]):∃ g c,v=.slice (some ⟨g,0,none⟩) l.length c∧l.length≤c∧Ints W g l:=by
 rcases h.2 with ⟨rfl,hc⟩ | ⟨g,cap,cur,rfl,_,_,hle,_⟩
 · exact absurd (List.length_eq_zero_iff.1 hc) hl
 refine ⟨g,cap,rfl,hle,fun j hj=>?_⟩;have:=h.cells (g:=g) rfl j (.int .i64 ((l.getD j 0:Nat):Int)) (by simp[ints,hj]);cases j with
 | zero=>simpa [Addr.add] using this
 | succ j=>simpa [Addr.add] using this
def ReadPost (p:List UInt8) (w:World) (e:Ending) (w':World):Prop :=
 ∃ (a:Option Addr) (n c:Nat) (b:Bool),e=.returned (.tuple #[.slice a n c,b])∧b=decide (parse p≠[])∧(parse p≠[]→n=(parse p).length∧n≤c∧∃ g,a=some ⟨g,0,none⟩∧Ints w' g (parse p))∧Below w.heap.size w w'
theorem read_bad {p:List UInt8} {w w':World} (h:parse p=[]) (hb:Below w.heap.size w w'):ReadPost p w (.returned (.tuple #[.slice none 0 0,.bool false])) w' :=
 ⟨none,0,0,false,rfl,by rw[h];rfl,fun e=>absurd h e,hb⟩
theorem read_all {p:List UInt8} {w w':World} {dn:List Nat} {g c:Nat} (h:Mid p dn []) (r:Ints w' g dn) (hle:dn.length≤c) (hb:Below w.heap.size w w') (b:Bool) (hbv:b=decide (dn.length≤8∧dn.getD 0 0=1)) :
  ReadPost p w (.returned (.tuple #[.slice (some ⟨g,0,none⟩) dn.length c,b])) w':=by
 have ha:=h.all;refine ⟨_,_,c,b,rfl,?_,fun e=>?_,hb⟩
 ·rw[hbv];by_cases hc:dn.length≤8∧dn.getD 0 0=1
  ·rw[if_pos hc] at ha;rw[ha,decide_eq_true hc,decide_eq_true h.ne]
  rw[if_neg hc] at ha;rw[ha,decide_eq_false hc];rfl
 by_cases hc:dn.length≤8∧dn.getD 0 0=1
 ·rw[if_pos hc] at ha;rw[ha];exact ⟨rfl,hle,g,rfl,r⟩
 rw[if_neg hc] at ha;exact absurd ha e
end RefPath
end Go.Proofs.YtnpjkmomllkhpaaGreatDoor
