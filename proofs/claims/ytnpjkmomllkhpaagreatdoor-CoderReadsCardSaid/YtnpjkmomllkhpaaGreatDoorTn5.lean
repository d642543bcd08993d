/- TextDecode, Order, Shelf, TextRefPlain. -/
import Derived.Test.YtnpjkmomllkhpaaGreatDoorTn0
import Derived.Shelf.Strings.Prefix
import Derived.Lib.Bytealg
import Derived.Shelf.SlSortCmp.WholeK
import Derived.Shelf.SlSortCmp.Xorshift
import Derived.Ground.SlsfProg
import Derived.Shelf.Strings.Builder1
import Derived.Shelf.Small.Bits
import Derived.Shelf.Small.Strs
import Derived.Shelf.Strings.BuilderF
import Derived.Shelf.Strings.BuilderK
import Derived.Shelf.Strconv.Itoa0
import Derived.Shelf.Strings.Search1
import Derived.Shelf.Strings.Search2
import Derived.Shelf.Strings.Search3
import Derived.Shelf.Strings.Cut
import Derived.Shelf.Strings.Count
import Derived.Shelf.LaysM
import Derived.Shelf.Strings.Shaped
import Derived.Shelf.Strings.LastIndex
import Derived.Shelf.Unicode.DecodeSlow
import Derived.Shelf.Unicode.DecodeAny
import Derived.Shelf.Slices.Equal
import Derived.Ground.Names2Prog
import Derived.Shelf.Slices.SearchI
import Derived.Shelf.Slices.Empties2
set_option linter.unusedVariables false
set_option linter.unusedSimpArgs false
namespace Go.Proofs.YtnpjkmomllkhpaaGreatDoor
namespace Text
theorem get_some {s:ByteArray} {i k:Nat} {c:UInt8} (h:(s.data.toList.drop i)[k]?=some c):i+k<s.size∧s.get! (i+k)=c:=by
 rw[List.getElem?_drop] at h;obtain ⟨h1,h2⟩:=List.getElem?_eq_some_iff.1 h;have h3:i+k<s.size:=by simpa using h1
 refine ⟨h3,?_⟩;rw[← h2];show s.data[i+k]! = _
 rw[getElem!_pos s.data (i+k) h3];simp
theorem get_none {s:ByteArray} {i k:Nat} (h:(s.data.toList.drop i)[k]?=none):¬ i+k<s.size:=by
 rw[List.getElem?_drop,List.getElem?_eq_none_iff] at h;simpa using h
theorem cont_div (c:UInt8):(c.toNat / 64 == 2)=decide (Cont c):=by
 have:=c.toNat_lt;by_cases h:Cont c
 · rw[decide_eq_true h,beq_iff_eq];unfold Cont at h;omega
 rw[decide_eq_false h,beq_eq_false_iff_ne];unfold Cont at h;omega
theorem valid_scalar (x:Nat):Utf8.valid (x:Int)=decide (Scalar x):=by
 by_cases h:Scalar x
 · rw[decide_eq_true h];unfold Scalar at h;simp[Utf8.valid];omega
 rw[decide_eq_false h];unfold Scalar at h;simp[Utf8.valid];omega
theorem decode_rune (s:ByteArray) (i:Nat) (h:i<s.size):Utf8.decode s i=(rune (s.data.toList.drop i)).getD (65533,1):=by
 have hd:=Str.drop_at s i h;obtain ⟨c,hc⟩:∃ c,s[i]=c:=⟨_,rfl⟩
 obtain ⟨r,hr⟩:∃ r,s.data.toList.drop (i+1)=r:=⟨_,rfl⟩
 rw[hc,hr] at hd;have g0:=get_some (s:=s) (i:=i) (k:=0) (c:=c) (by rw[hd];rfl);have hlt:=c.toNat_lt;rw[hd];unfold Utf8.decode;simp only[g0.2];by_cases a0:c.toNat<128
 · simp[rune,a0]
 rw[if_neg a0];simp only[rune];rw[if_neg a0];by_cases a1:192≤c.toNat∧c.toNat<224
 ·rw[if_pos a1];have b1:(c.toNat / 32 == 6)=true:=by rw[beq_iff_eq];omega
  have b2:(c.toNat / 16 == 14)=false:=by rw[beq_eq_false_iff_ne];omega
  have b3:(c.toNat / 8 == 30)=false:=by rw[beq_eq_false_iff_ne];omega
  rw[b1,b2,b3];match r with
  | [] =>
   have n1:=get_none (s:=s) (i:=i) (k:=1) (by rw[hd];rfl);simp[n1,Utf8.runeError]
  | c1::t =>
   obtain ⟨p1,q1⟩:=get_some (s:=s) (i:=i) (k:=1) (c:=c1) (by rw[hd];rfl);simp only[p1,q1,decide_true,Bool.true_and,Bool.false_and,cont_div];by_cases k1:Cont c1
   ·have e:c.toNat % 32*64+c1.toNat % 64=64*(c.toNat - 192)+(c1.toNat - 128):=by unfold Cont at k1;omega
    simp only[k1,decide_true,if_true,true_and,e];by_cases k2:128≤64*(c.toNat - 192)+(c1.toNat - 128)
    · rw[if_pos k2,if_pos k2];rfl
    rw[if_neg k2,if_neg k2];rfl
   simp[k1,Utf8.runeError]
 rw[if_neg a1];have b1:(c.toNat / 32 == 6)=false:=by rw[beq_eq_false_iff_ne];omega
 rw[b1];by_cases a2:224≤c.toNat∧c.toNat<240
 ·rw[if_pos a2];have b2:(c.toNat / 16 == 14)=true:=by rw[beq_iff_eq];omega
  have b3:(c.toNat / 8 == 30)=false:=by rw[beq_eq_false_iff_ne];omega
  rw[b2,b3];match r with
  | [] =>
   have n1:=get_none (s:=s) (i:=i) (k:=1) (by rw[hd];rfl);simp[n1,Utf8.runeError]
  | [c1] =>
   have n1:=get_none (s:=s) (i:=i) (k:=2) (by rw[hd];rfl);simp[n1,Utf8.runeError]
  | c1::c2::t =>
   obtain ⟨p1,q1⟩:=get_some (s:=s) (i:=i) (k:=1) (c:=c1) (by rw[hd];rfl);obtain ⟨p2,q2⟩:=get_some (s:=s) (i:=i) (k:=2) (c:=c2) (by rw[hd];rfl);simp only[p1,q1,p2,q2,decide_true,Bool.true_and,Bool.false_and,cont_div,Bool.false_eq_true,if_false];by_cases k1:Cont c1
   ·by_cases k2:Cont c2
    ·have e:c.toNat % 16*4096+c1.toNat % 64*64+c2.toNat % 64=64*(64*(c.toNat - 224)+(c1.toNat - 128))+(c2.toNat - 128):=by unfold Cont at k1 k2;omega
     simp only[k1,k2,decide_true,Bool.true_and,if_true,true_and,e,valid_scalar];generalize 64*(64*(c.toNat - 224)+(c1.toNat - 128))+(c2.toNat - 128)=x;by_cases k3:2048≤x∧Scalar x
     · rw[if_pos k3,if_pos (by simpa using k3)];rfl
     rw[if_neg k3,if_neg (by simpa using k3)];rfl
    simp[k1,k2,Utf8.runeError]
   simp[k1,Utf8.runeError]
 rw[if_neg a2];have b2:(c.toNat / 16 == 14)=false:=by rw[beq_eq_false_iff_ne];omega
 rw[b2];by_cases a3:240≤c.toNat∧c.toNat<248
 ·rw[if_pos a3];have b3:(c.toNat / 8 == 30)=true:=by rw[beq_iff_eq];omega
  rw[b3];match r with
  | [] =>
   have n1:=get_none (s:=s) (i:=i) (k:=1) (by rw[hd];rfl);simp[n1,Utf8.runeError]
  | [c1] =>
   have n1:=get_none (s:=s) (i:=i) (k:=2) (by rw[hd];rfl);simp[n1,Utf8.runeError]
  | [c1,c2] =>
   have n1:=get_none (s:=s) (i:=i) (k:=3) (by rw[hd];rfl);simp[n1,Utf8.runeError]
  | c1::c2::c3::t =>
   obtain ⟨p1,q1⟩:=get_some (s:=s) (i:=i) (k:=1) (c:=c1) (by rw[hd];rfl);obtain ⟨p2,q2⟩:=get_some (s:=s) (i:=i) (k:=2) (c:=c2) (by rw[hd];rfl);obtain ⟨p3,q3⟩:=get_some (s:=s) (i:=i) (k:=3) (c:=c3) (by rw[hd];rfl);simp only[p1,q1,p2,q2,p3,q3,decide_true,Bool.true_and,Bool.false_and,cont_div,Bool.false_eq_true,if_false];by_cases k1:Cont c1
   ·by_cases k2:Cont c2
    ·by_cases k4:Cont c3
     ·have e:c.toNat % 8*262144+c1.toNat % 64*4096+c2.toNat % 64*64+c3.toNat % 64=64*(64*(64*(c.toNat - 240)+(c1.toNat - 128))+(c2.toNat - 128))+(c3.toNat - 128):=by unfold Cont at k1 k2 k4;omega
      simp only[k1,k2,k4,decide_true,Bool.true_and,if_true,true_and,e,valid_scalar];generalize 64*(64*(64*(c.toNat - 240)+(c1.toNat - 128))+(c2.toNat - 128))+(c3.toNat - 128)=x;by_cases k3:65536≤x∧Scalar x
      · rw[if_pos k3,if_pos (by simpa using k3)];rfl
      rw[if_neg k3,if_neg (by simpa using k3)];rfl
     simp[k1,k2,k4,Utf8.runeError]
    simp[k1,k2,Utf8.runeError]
   simp[k1,Utf8.runeError]
 rw[if_neg a3];have b3:(c.toNat / 8 == 30)=false:=by rw[beq_eq_false_iff_ne];omega
 rw[b3];simp[Utf8.runeError]
def At (s:ByteArray) (xs:List Nat) (pos:Nat):Prop:=(∀ x ∈ xs,Scalar x)∧pos=(cat xs).length∧∃ t,s.data.toList=cat xs++t
theorem At.zero (s:ByteArray):At s [] 0:=⟨(fun x hx=>by cases hx),rfl,_,rfl⟩
theorem cat_len:∀ xs:List Nat,xs.length≤(cat xs).length
 | []=>by simp
 | x::xs=>by have:=cat_len xs;have:=enc_length x;rw[cat_cons,List.length_append,List.length_cons];omega
theorem At.le {s:ByteArray} {xs:List Nat} {pos:Nat} (h:At s xs pos):xs.length≤pos∧pos≤s.size:=by
 obtain ⟨_,h2,t,h3⟩:=h;have:=cat_len xs;have h4:=congrArg List.length h3;rw[List.length_append,← Str.size_eq] at h4;omega
theorem At.drop {s:ByteArray} {xs:List Nat} {pos:Nat} (h:At s xs pos):s.data.toList=cat xs++s.data.toList.drop pos:=by
 obtain ⟨_,h2,t,h3⟩:=h;rw[h2,h3,List.drop_left]
theorem At.next {s:ByteArray} {xs:List Nat} {pos:Nat} (h:At s xs pos) (hp:pos<s.size) :
  (∃ x k,Utf8.decode s pos=(x,k)∧rune (s.data.toList.drop pos)=some (x,k)∧At s (xs++[x]) (pos+k)∧1≤k∧x≤1114111) ∨
  (Utf8.decode s pos=(65533,1)∧rune (s.data.toList.drop pos)=none∧runes s.data.toList=none):=by
 have hd:=decode_rune s pos hp;have hdr:=h.drop;cases hr:rune (s.data.toList.drop pos) with
 | none =>
  right
  rw[hr] at hd;refine ⟨hd,rfl,?_⟩;rw[hdr,runes_behind xs _ h.1,rune_none hr (by intro e;have:=congrArg List.length e;simp at this;omega)];rfl
 | some y =>
  obtain ⟨x,k⟩:=y;left
  rw[hr] at hd;obtain ⟨g1,g2,t,g3⟩:=rune_some hr;have ge:=enc_length x;refine ⟨x,k,hd,rfl,⟨?_,?_,t,?_⟩,by omega,by unfold Scalar at g1;omega⟩
  ·intro y hy;rcases List.mem_append.1 hy with hy | hy
   · exact h.1 y hy
   rw[List.mem_singleton.1 hy];exact g1
  · rw[cat_append,List.length_append,← h.2.1,g2];simp[cat]
  rw[hdr,g3,cat_append,List.append_assoc];simp[cat]
theorem At.last {s:ByteArray} {xs:List Nat} {pos:Nat} (h:At s xs pos) (hp:¬ pos<s.size):runes s.data.toList=some xs:=by
 have hdr:=h.drop;rw[List.drop_eq_nil_of_le (by rw[← Str.size_eq];omega),List.append_nil] at hdr;rw[hdr];exact runes_cat xs h.1
theorem At.pre {s:ByteArray} {xs ys:List Nat} {pos:Nat} (h:At s xs pos) (hy:runes s.data.toList=some ys):xs=ys.take xs.length∧xs.length≤ys.length:=by
 have hdr:=h.drop;rw[hdr,runes_behind xs _ h.1] at hy;obtain ⟨zs,_,rfl⟩:=Option.map_eq_some_iff.1 hy;simp
def count (o:Option (List Nat)):Int:=match o with | none => -1 | some xs=>xs.length
theorem prefix_iff (l:List UInt8):Lib.hasPrefix l [239,191,189]=true↔∃ t,l=enc 65533++t:=by
 have e:enc 65533=[239,191,189]:=by decide
 rw[e,Lib.hasPrefix,List.isPrefixOf_iff_prefix];exact ⟨fun ⟨t,h⟩=>⟨t,h.symm⟩,fun ⟨t,h⟩=>⟨t,h.symm⟩⟩
def ctrl (x:Nat):Bool:=decide (x<32) || (decide (127≤x) && decide (x≤159))
def sgn (x:Nat):Nat:=if x=35 then 1 else if x=64 then 2 else if x=61 then 3 else 0
def hd:List Nat→Nat
 | []=>0
 | x::_=>sgn x
def kind:Option (List Nat)→Nat
 | none=>0
 | some xs=>if xs.length≤64∧∀ x ∈ xs,ctrl x=false then hd xs else 0
def Good (xs:List Nat):Prop:=xs.length≤64∧(∀ x ∈ xs,ctrl x=false)∧(xs=[]∨hd xs≠0)
theorem Good.nil:Good []:=⟨by simp,(fun x hx=>by cases hx),.inl rfl⟩
theorem hd_append {xs:List Nat} (h:xs≠[]) (ys:List Nat):hd (xs++ys)=hd xs:=by cases xs with | nil=>exact absurd rfl h | cons x xs=>rfl
theorem sgn_le (x:Nat):sgn x≤3:=by unfold sgn;split;omega;split;omega;split <;> omega
theorem hd_le (xs:List Nat):hd xs≤3:=by cases xs with | nil=>simp[hd] | cons x xs=>exact sgn_le x
theorem Good.kind {xs:List Nat} (h:Good xs):kind (some xs)=hd xs:=by show (if _ then _ else _)=_;rw[if_pos ⟨h.1,h.2.1⟩]
theorem Good.snoc {xs:List Nat} {x:Nat} (h:Good xs) (h1:hd (xs++[x])≠0) (h2:xs.length≠64) (h3:ctrl x=false):Good (xs++[x]):=by
 refine ⟨?_,?_,.inr h1⟩
 · have:=h.1;rw[List.length_append,List.length_singleton];omega
 intro y hy;rcases List.mem_append.1 hy with hy | hy
 · exact h.2.1 y hy
 rw[List.mem_singleton.1 hy];exact h3
theorem kind_bad {s:ByteArray} {xs:List Nat} {x pos:Nat} (h:At s (xs++[x]) pos) (hb:hd (xs++[x])=0∨xs.length=64∨ctrl x=true):kind (runes s.data.toList)=0:=by
 cases hr:runes s.data.toList with
 | none=>rfl
 | some ys =>
  obtain ⟨h1,h2⟩:=h.pre hr;have h3:=List.take_append_drop (xs++[x]).length ys;rw[← h1] at h3;show (if _ then _ else _)=_
  split
  ·rename_i hg
   rcases hb with hb | hb | hb
   · rw[← h3,hd_append (by simp),hb]
   · rw[List.length_append,List.length_singleton] at h2;omega
   have:=hg.2 x (by rw[← h3];simp);rw[hb] at this;cases this
  rfl
end Text
namespace Order
theorem cmp_self:∀ l:List UInt8,Lib.compareBytes l l=0
 | []=>rfl
 | a::l=>by rw[Lib.compareBytes,if_neg (UInt8.lt_irrefl a),if_neg (UInt8.lt_irrefl a)];exact cmp_self l
theorem cmp_zero:∀ (a b:List UInt8),Lib.compareBytes a b=0→a=b
 | [],[],_=>rfl
 | [],_::_,h=>by simp[Lib.compareBytes] at h
 | _::_,[],h=>by simp[Lib.compareBytes] at h
 | a::az,b::bs,h=>by
  rw[Lib.compareBytes] at h;split at h
  · cases h
  split at h
  · cases h
  rename_i h1 h2
  rw[UInt8.lt_iff_toNat_lt] at h1 h2;rw[UInt8.toNat_inj.1 (show a.toNat=b.toNat by omega),cmp_zero az bs h]
theorem cmp_less:∀ (a b:List UInt8),Op.bytesLess a b=true→Lib.compareBytes a b = -1
 | [],[],h=>by simp[Op.bytesLess] at h
 | [],_::_,_=>rfl
 | _::_,[],h=>by simp[Op.bytesLess] at h
 | a::az,b::bs,h=>by
  rw[Op.bytesLess,Bool.or_eq_true,decide_eq_true_eq,Bool.and_eq_true,beq_iff_eq] at h;rw[Lib.compareBytes];rcases h with h | ⟨rfl,h⟩
  · rw[if_pos h]
  rw[if_neg (UInt8.lt_irrefl a),if_neg (UInt8.lt_irrefl a)];exact cmp_less az bs h
theorem cmp_more:∀ (a b:List UInt8),a≠b→Op.bytesLess a b=false→Lib.compareBytes a b=1
 | [],[],h,_=>absurd rfl h
 | [],_::_,_,h=>by simp[Op.bytesLess] at h
 | _::_,[],_,_=>rfl
 | a::az,b::bs,hn,h=>by
  rw[Op.bytesLess,Bool.or_eq_false_iff,decide_eq_false_iff_not] at h;obtain ⟨h1,h2⟩:=h;rw[Lib.compareBytes,if_neg h1];split
  · rfl
  rename_i h3
  rw[UInt8.lt_iff_toNat_lt] at h1 h3;obtain rfl:a=b:=UInt8.toNat_inj.1 (by omega);rw[beq_self_eq_true,Bool.true_and] at h2;exact cmp_more az bs (fun e=>hn (by rw[e])) h2
theorem cons_law (a b:UInt8) (az bs:List UInt8):Lib.compareBytes (a::az) (b::bs)=if a.toNat<b.toNat then -1 else if b.toNat<a.toNat then 1 else Lib.compareBytes az bs:=by
 simp only[Lib.compareBytes,UInt8.lt_iff_toNat_lt]
theorem cmp_flip:∀ (a b:List UInt8),Lib.compareBytes a b = -Lib.compareBytes b a
 | [],[]=>rfl
 | [],_::_=>rfl
 | _::_,[]=>rfl
 | a::az,b::bs=>by
  rw[cons_law,cons_law,cmp_flip az bs];split
  · rw[if_neg (by omega)]
  split <;> rfl
theorem cmp_trans:∀ (a b c:List UInt8),Lib.compareBytes a b≤0→Lib.compareBytes b c≤0→Lib.compareBytes a c≤0
 | [],_,[],_,_=>by decide
 | [],_,_::_,_,_=>by simp[Lib.compareBytes]
 | _::_,[],_,h,_=>by simp[Lib.compareBytes] at h
 | _::_,_::_,[],_,h=>by simp[Lib.compareBytes] at h
 | a::az,b::bs,c::cs,h1,h2=>by
  have ih:=cmp_trans az bs cs;rw[cons_law] at h1 h2 ⊢;split at h1
  ·split at h2
   · rw[if_pos (by omega)];decide
   split at h2
   · omega
   rw[if_pos (by omega)];decide
  split at h1
  · omega
  split at h2
  · rw[if_pos (by omega)];decide
  split at h2
  · omega
  rw[if_neg (by omega),if_neg (by omega)];exact ih h1 h2
theorem cmp_ways (a b:List UInt8):Lib.compareBytes a b = -1∨Lib.compareBytes a b=0∨Lib.compareBytes a b=1:=by
 by_cases h:a=b
 · exact .inr (.inl (by rw[h];exact cmp_self b))
 cases h1:Op.bytesLess a b with
 | true=>exact .inl (cmp_less a b h1)
 | false=>exact .inr (.inr (cmp_more a b h h1))
end Order
end Go.Proofs.YtnpjkmomllkhpaaGreatDoor
namespace Go.Proofs
open Go.Shelf
def Tryz.lays169_ren:Go.Shelf.Ren:=⟨fun | 169=>131 | n=>n,fun | 70=>180 | 9=>9 | 0=>0 | 72=>183 | 37=>181 | 127=>255 | 3=>3 | 5=>5 | n=>n,fun | n=>n⟩
theorem Tryz.lays169:Go.Proofs.Lays.n169 Tryz.prog Tryz.lays169_ren:={
 mixed:=by kernel_rfl
 f169:=Tryz.func131.trans (congrArg some (by kernel_rfl))
 t0:=Tryz.underlying0
 a0:=Tryz.isAgg0
 z0:=Tryz.sizeOf0
 v0:=Tryz.zeroValue0
 t3:=Tryz.underlying3
 a3:=Tryz.isAgg3
 z3:=Tryz.sizeOf3
 v3:=Tryz.zeroValue3
 t9:=Tryz.underlying9
 a9:=Tryz.isAgg9
 z9:=Tryz.sizeOf9
 v9:=Tryz.zeroValue9
 t37:=Tryz.underlying181
 a37:=Tryz.isAgg181
 z37:=Tryz.sizeOf181
 v37:=Tryz.zeroValue181
 t70:=Tryz.underlying180
 a70:=Tryz.isAgg180
 z70:=Tryz.sizeOf180
 v70:=Tryz.zeroValue180
 t72:=Tryz.underlying183
 a72:=Tryz.isAgg183
 z72:=Tryz.sizeOf183
 v72:=Tryz.zeroValue183
 t127:=Tryz.underlying255
 a127:=Tryz.isAgg255
 z127:=Tryz.sizeOf255
 v127:=Tryz.zeroValue255 }
theorem Tryz.Builder_Extra_169:Builder.Extra Tryz.prog Tryz.lays169_ren:={
 sizeBuilder:=by kernel_rfl
 liesBuilder:=by kernel_rfl
 t5:=Tryz.underlying5
 a5:=Tryz.isAgg5
 z5:=Tryz.sizeOf5
 v5:=Tryz.zeroValue5
 infoByte:=by kernel_rfl
 cellsByte:=by kernel_rfl
 sizeByte:=by kernel_rfl
 neB5:=by decide }
open Go.RowKit in
open Go.RowKit in
open Go.RowKit in
def Tryz.lays213_ren:Go.Shelf.Ren:=⟨fun | 213=>236 | 265=>264 | n=>n,fun | 9=>9 | 3=>3 | n=>n,fun | n=>n⟩
open Go.RowKit in
def Tryz.lays106_ren:Go.Shelf.Ren:=⟨fun | 106=>183 | 213=>236 | 265=>264 | n=>n,fun | 9=>9 | 3=>3 | n=>n,fun | n=>n⟩
theorem Tryz.lays106:Go.Proofs.Lays.n106 Tryz.prog Tryz.lays106_ren:={
 mixed:=by kernel_rfl
 f106:=Tryz.func183.trans (congrArg some (by kernel_rfl))
 f213:=Tryz.func236.trans (congrArg some (by kernel_rfl))
 f265:=Tryz.func264.trans (congrArg some (by kernel_rfl))
 t3:=Tryz.underlying3
 a3:=Tryz.isAgg3
 z3:=Tryz.sizeOf3
 v3:=Tryz.zeroValue3
 t9:=Tryz.underlying9
 a9:=Tryz.isAgg9
 z9:=Tryz.sizeOf9
 v9:=Tryz.zeroValue9 }
open Go.RowKit in
theorem Tryz.strings_Compare (a b:ByteArray) (w:World) :
  Calls Tryz.prog 183 #[.string a,.string b] w fun e w'=>e=.returned (.int .i64 (Lib.compareBytes a.data.toList b.data.toList))∧w'=w:=Any.strings_Compare Tryz.lays106 a b w
open Go.RowKit in
open Go.RowKit in
open Go.RowKit in
open Go.RowKit in
open Go.RowKit in
open Go.RowKit in
theorem Tryz.Builder_String_any_k (B b:Nat) (l:List UInt8) (w:World) (h:Lib.IsBuilderF 183 5 B b (Lib.byteCells l) w) (hBw:B≤w.heap.size) :
  Calls Tryz.prog 131 #[.pointer (some ⟨b,0,none⟩)] w fun e w'=>e=.returned (.string ⟨l.toArray⟩)∧(Lib.IsBuilderF 183 5 B b (Lib.byteCells l) w'∧Below B w w'∧Lib.OthersKept 5 (some b) w w'):=Any.Builder_String_any_k Tryz.lays169 Tryz.Builder_Extra_169 B b l w h hBw
open Go.RowKit Go.Lib in
open Go.RowKit Go.Lib in
open Go.RowKit Go.Lib in
open Go.RowKit Go.Lib in
def Tryz.lays219_ren:Go.Shelf.Ren:=⟨fun | 219=>283 | 217=>290 | 225=>291 | 224=>292 | 267=>293 | 266=>296 | 314=>297 | n=>n,fun | 9=>9 | 3=>3 | 4=>4 | 5=>5 | 46=>262 | 146=>330 | 51=>318 | n=>n,fun | 1=>0 | n=>n⟩
theorem Tryz.lays219:Go.Proofs.Lays.n219 Tryz.prog Tryz.lays219_ren:={
 mixed:=by kernel_rfl
 f217:=Tryz.func290.trans (congrArg some (by kernel_rfl))
 f219:=Tryz.func283.trans (congrArg some (by kernel_rfl))
 f224:=Tryz.func292.trans (congrArg some (by kernel_rfl))
 f225:=Tryz.func291.trans (congrArg some (by kernel_rfl))
 f266:=Tryz.func296.trans (congrArg some (by kernel_rfl))
 f267:=Tryz.func293.trans (congrArg some (by kernel_rfl))
 f314:=Tryz.func297.trans (congrArg some (by kernel_rfl))
 t3:=Tryz.underlying3
 a3:=Tryz.isAgg3
 z3:=Tryz.sizeOf3
 v3:=Tryz.zeroValue3
 t4:=Tryz.underlying4
 a4:=Tryz.isAgg4
 z4:=Tryz.sizeOf4
 v4:=Tryz.zeroValue4
 t5:=Tryz.underlying5
 a5:=Tryz.isAgg5
 z5:=Tryz.sizeOf5
 v5:=Tryz.zeroValue5
 t9:=Tryz.underlying9
 a9:=Tryz.isAgg9
 z9:=Tryz.sizeOf9
 v9:=Tryz.zeroValue9
 t46:=Tryz.underlying262
 a46:=Tryz.isAgg262
 z46:=Tryz.sizeOf262
 v46:=Tryz.zeroValue262
 t51:=Tryz.underlying318
 a51:=Tryz.isAgg318
 z51:=Tryz.sizeOf318
 v51:=Tryz.zeroValue318
 t146:=Tryz.underlying330
 a146:=Tryz.isAgg330
 z146:=Tryz.sizeOf330
 v146:=Tryz.zeroValue330
 g1:=by kernel_rfl }
open Go.RowKit Go.Lib in
theorem Tryz.stringslite_Index_one (s:ByteArray) (c:UInt8) (w:World) :
  Calls Tryz.prog 283 #[.string s,.string ⟨#[c]⟩] w fun e w'=>e=.returned (.int .i64 (Lib.indexByte s.data.toList c))∧w'=w:=Any.stringslite_Index_one Tryz.lays219 s c w
open Go.RowKit Go.Lib in
open Go.RowKit Go.Lib in
open Go.RowKit Go.Lib in
open Go.RowKit Go.Lib in
open Go.RowKit Go.Lib in
def Tryz.lays138_ren:Go.Shelf.Ren:=⟨fun | 138=>242 | 195=>267 | 218=>268 | 143=>269 | 219=>283 | 217=>290 | 225=>291 | 224=>292 | 267=>293 | 266=>296 | 314=>297 | n=>n,fun | 9=>9 | 3=>3 | 4=>4 | 5=>5 | 0=>0 | 46=>262 | 146=>330 | 51=>318 | n=>n,fun | 1=>0 | n=>n⟩
theorem Tryz.lays138:Go.Proofs.Lays.n138 Tryz.prog Tryz.lays138_ren:={
 mixed:=by kernel_rfl
 f138:=Tryz.func242.trans (congrArg some (by kernel_rfl))
 f143:=Tryz.func269.trans (congrArg some (by kernel_rfl))
 f195:=Tryz.func267.trans (congrArg some (by kernel_rfl))
 f217:=Tryz.func290.trans (congrArg some (by kernel_rfl))
 f218:=Tryz.func268.trans (congrArg some (by kernel_rfl))
 f219:=Tryz.func283.trans (congrArg some (by kernel_rfl))
 f224:=Tryz.func292.trans (congrArg some (by kernel_rfl))
 f225:=Tryz.func291.trans (congrArg some (by kernel_rfl))
 f266:=Tryz.func296.trans (congrArg some (by kernel_rfl))
 f267:=Tryz.func293.trans (congrArg some (by kernel_rfl))
 f314:=Tryz.func297.trans (congrArg some (by kernel_rfl))
 t0:=Tryz.underlying0
 a0:=Tryz.isAgg0
 z0:=Tryz.sizeOf0
 v0:=Tryz.zeroValue0
 t3:=Tryz.underlying3
 a3:=Tryz.isAgg3
 z3:=Tryz.sizeOf3
 v3:=Tryz.zeroValue3
 t4:=Tryz.underlying4
 a4:=Tryz.isAgg4
 z4:=Tryz.sizeOf4
 v4:=Tryz.zeroValue4
 t5:=Tryz.underlying5
 a5:=Tryz.isAgg5
 z5:=Tryz.sizeOf5
 v5:=Tryz.zeroValue5
 t9:=Tryz.underlying9
 a9:=Tryz.isAgg9
 z9:=Tryz.sizeOf9
 v9:=Tryz.zeroValue9
 t46:=Tryz.underlying262
 a46:=Tryz.isAgg262
 z46:=Tryz.sizeOf262
 v46:=Tryz.zeroValue262
 t51:=Tryz.underlying318
 a51:=Tryz.isAgg318
 z51:=Tryz.sizeOf318
 v51:=Tryz.zeroValue318
 t146:=Tryz.underlying330
 a146:=Tryz.isAgg330
 z146:=Tryz.sizeOf330
 v146:=Tryz.zeroValue330
 g1:=by kernel_rfl }
open Go.RowKit Go.Lib in
theorem Tryz.strings_Count_one (s:ByteArray) (c:UInt8) (w:World) :
  Calls Tryz.prog 242 #[.string s,.string ⟨#[c]⟩] w fun e w'=>e=.returned (.int .i64 (Lib.countByte s.data.toList c))∧w'=w:=Any.strings_Count_one Tryz.lays138 s c w
open Go.RowKit Go.Lib in
open Go.RowKit Go.Lib in
open Go.RowKit Go.Lib in
open Go.RowKit Go.Lib in
open Go.RowKit Go.Lib in
open Go.RowKit Go.Lib in
def Tryz.lays222_ren:Go.Shelf.Ren:=⟨fun | 222=>238 | n=>n,fun | 9=>9 | 5=>5 | 3=>3 | 4=>4 | n=>n,fun | n=>n⟩
open Go.RowKit Go.Lib in
def Tryz.lays149_ren:Go.Shelf.Ren:=⟨fun | 149=>185 | 222=>238 | n=>n,fun | 9=>9 | 5=>5 | 3=>3 | 4=>4 | n=>n,fun | n=>n⟩
theorem Tryz.lays149:Go.Proofs.Lays.n149 Tryz.prog Tryz.lays149_ren:={
 mixed:=by kernel_rfl
 f149:=Tryz.func185.trans (congrArg some (by kernel_rfl))
 f222:=Tryz.func238.trans (congrArg some (by kernel_rfl))
 t3:=Tryz.underlying3
 a3:=Tryz.isAgg3
 z3:=Tryz.sizeOf3
 v3:=Tryz.zeroValue3
 t4:=Tryz.underlying4
 a4:=Tryz.isAgg4
 z4:=Tryz.sizeOf4
 v4:=Tryz.zeroValue4
 t5:=Tryz.underlying5
 a5:=Tryz.isAgg5
 z5:=Tryz.sizeOf5
 v5:=Tryz.zeroValue5
 t9:=Tryz.underlying9
 a9:=Tryz.isAgg9
 z9:=Tryz.sizeOf9
 v9:=Tryz.zeroValue9 }
open Go.RowKit Go.Lib in
theorem Tryz.strings_LastIndexByte (s:ByteArray) (c:Int) (hs:s.size<4611686018427387904) (w:World) :
  Calls Tryz.prog 185 #[.string s,.int .u8 c] w fun e w'=>e=.returned (.int .i64 (Lib.lastIndexByte s c))∧w'=w:=Any.strings_LastIndexByte Tryz.lays149 s c hs w
def Tryz.lays206_ren:Go.Shelf.Ren:=⟨fun | 206=>257 | n=>n,fun | 9=>9 | 4=>4 | 3=>3 | n=>n,fun | n=>n⟩
open Go.RowKit Go.Lib in
def Tryz.lays99_ren:Go.Shelf.Ren:=⟨fun | 99=>225 | 206=>257 | n=>n,fun | 9=>9 | 4=>4 | 3=>3 | n=>n,fun | n=>n⟩
theorem Tryz.lays99:Go.Proofs.Lays.n99 Tryz.prog Tryz.lays99_ren:={
 mixed:=by kernel_rfl
 f99:=Tryz.func225.trans (congrArg some (by kernel_rfl))
 f206:=Tryz.func257.trans (congrArg some (by kernel_rfl))
 t3:=Tryz.underlying3
 a3:=Tryz.isAgg3
 z3:=Tryz.sizeOf3
 v3:=Tryz.zeroValue3
 t4:=Tryz.underlying4
 a4:=Tryz.isAgg4
 z4:=Tryz.sizeOf4
 v4:=Tryz.zeroValue4
 t9:=Tryz.underlying9
 a9:=Tryz.isAgg9
 z9:=Tryz.sizeOf9
 v9:=Tryz.zeroValue9 }
open Go.RowKit Go.Lib in
theorem Tryz.strings_HasPrefix (s p:ByteArray) (w:World) :
  Calls Tryz.prog 225 #[.string s,.string p] w fun e w'=>e=.returned (.bool (Lib.hasPrefix s.data.toList p.data.toList))∧w'=w:=Any.strings_HasPrefix Tryz.lays99 s p w
open Go.RowKit Go.Lib in
open Go.RowKit Go.Lib in
def Tryz.lays111_ren:Go.Shelf.Ren:=⟨fun | 111=>241 | n=>n,fun | 28=>197 | 3=>3 | 4=>4 | 0=>0 | n=>n,fun | n=>n⟩
theorem Tryz.lays111:Go.Proofs.Lays.n111 Tryz.prog Tryz.lays111_ren:={
 mixed:=by kernel_rfl
 f111:=Tryz.func241.trans (congrArg some (by kernel_rfl))
 t0:=Tryz.underlying0
 a0:=Tryz.isAgg0
 z0:=Tryz.sizeOf0
 v0:=Tryz.zeroValue0
 t3:=Tryz.underlying3
 a3:=Tryz.isAgg3
 z3:=Tryz.sizeOf3
 v3:=Tryz.zeroValue3
 t4:=Tryz.underlying4
 a4:=Tryz.isAgg4
 z4:=Tryz.sizeOf4
 v4:=Tryz.zeroValue4
 t28:=Tryz.underlying197
 a28:=Tryz.isAgg197
 z28:=Tryz.sizeOf197
 v28:=Tryz.zeroValue197 }
open Go.RowKit Go.Lib in
theorem Tryz.slices_Equal_int (b1 o1 n c b2 o2 m d:Nat) (xs ys:List Int) (w:World) (hx:n≤xs.length) (hy:m≤ys.length) (hbig:n≤9223372036854775807) (hbig2:m≤9223372036854775807) (hc1:∀ j,j<xs.length→w.cell? ⟨b1,o1+j,none⟩=some (.int .i64 (xs.getD j 0))) (hc2:∀ j,j<ys.length→w.cell? ⟨b2,o2+j,none⟩=some (.int .i64 (ys.getD j 0))) :
  Calls Tryz.prog 241 #[.slice (some ⟨b1,o1,none⟩) n c,.slice (some ⟨b2,o2,none⟩) m d] w fun e w'=>e=.returned (.bool (xs.take n == ys.take m))∧∃ q,w'=w.drewN q:=Any.slices_Equal_int Tryz.lays111 b1 o1 n c b2 o2 m d xs ys w hx hy hbig hbig2 hc1 hc2
open Go.RowKit Go.Lib in
open Go.RowKit Go.Lib in
open Go.RowKit Go.Lib in
def Tryz.sortMark_ren:Go.Shelf.Ren:=⟨fun | 6=>230 | 15=>260 | 14=>259 | 28=>280 | 29=>281 | 20=>272 | 21=>273 | 22=>274 | 23=>275 | 24=>276 | 25=>277 | 26=>278 | 27=>279 | 46=>285 | 47=>286 | 48=>287 | 49=>288 | 50=>289 | 57=>295 | n=>n,fun | 22=>22 | 24=>96 | 25=>285 | 3=>3 | 39=>262 | 0=>0 | 53=>318 | 55=>25 | 4=>4 | 46=>312 | 45=>311 | 50=>175 | 5=>5 | 9=>9 | 66=>321 | 70=>324 | 76=>328 | 77=>263 | n=>n,fun | n=>n⟩
theorem Tryz.sortMark:Go.Proofs.SlLaysF0.n6 Tryz.prog Tryz.sortMark_ren:={
 mixed:=by kernel_rfl
 f6:=⟨Tryz.f230.name,by decide,Tryz.func230.trans (congrArg some (by kernel_rfl))⟩
 f14:=⟨Tryz.f259.name,by decide,Tryz.func259.trans (congrArg some (by kernel_rfl))⟩
 f15:=Tryz.func260.trans (congrArg some (by kernel_rfl))
 f20:=⟨Tryz.f272.name,by decide,Tryz.func272.trans (congrArg some (by kernel_rfl))⟩
 f21:=⟨Tryz.f273.name,by decide,Tryz.func273.trans (congrArg some (by kernel_rfl))⟩
 f22:=⟨Tryz.f274.name,by decide,Tryz.func274.trans (congrArg some (by kernel_rfl))⟩
 f23:=⟨Tryz.f275.name,by decide,Tryz.func275.trans (congrArg some (by kernel_rfl))⟩
 f24:=⟨Tryz.f276.name,by decide,Tryz.func276.trans (congrArg some (by kernel_rfl))⟩
 f25:=⟨Tryz.f277.name,by decide,Tryz.func277.trans (congrArg some (by kernel_rfl))⟩
 f26:=⟨Tryz.f278.name,by decide,Tryz.func278.trans (congrArg some (by kernel_rfl))⟩
 f27:=⟨Tryz.f279.name,by decide,Tryz.func279.trans (congrArg some (by kernel_rfl))⟩
 f28:=Tryz.func280.trans (congrArg some (by kernel_rfl))
 f29:=Tryz.func281.trans (congrArg some (by kernel_rfl))
 f46:=⟨Tryz.f285.name,by decide,Tryz.func285.trans (congrArg some (by kernel_rfl))⟩
 f47:=Tryz.func286.trans (congrArg some (by kernel_rfl))
 f48:=Tryz.func287.trans (congrArg some (by kernel_rfl))
 f49:=⟨Tryz.f288.name,by decide,Tryz.func288.trans (congrArg some (by kernel_rfl))⟩
 f50:=⟨Tryz.f289.name,by decide,Tryz.func289.trans (congrArg some (by kernel_rfl))⟩
 f57:=⟨Tryz.f295.name,by decide,Tryz.func295.trans (congrArg some (by kernel_rfl))⟩
 t0:=Tryz.underlying0
 a0:=Tryz.isAgg0
 z0:=Tryz.sizeOf0
 v0:=Tryz.zeroValue0
 t3:=Tryz.underlying3
 a3:=Tryz.isAgg3
 z3:=Tryz.sizeOf3
 v3:=Tryz.zeroValue3
 t4:=Tryz.underlying4
 a4:=Tryz.isAgg4
 z4:=Tryz.sizeOf4
 v4:=Tryz.zeroValue4
 t5:=Tryz.underlying5
 a5:=Tryz.isAgg5
 z5:=Tryz.sizeOf5
 v5:=Tryz.zeroValue5
 t9:=Tryz.underlying9
 a9:=Tryz.isAgg9
 z9:=Tryz.sizeOf9
 v9:=Tryz.zeroValue9
 t22:=Tryz.underlying22
 a22:=Tryz.isAgg22
 z22:=Tryz.sizeOf22
 v22:=Tryz.zeroValue22
 t25:=Tryz.underlying285
 a25:=Tryz.isAgg285
 z25:=Tryz.sizeOf285
 v25:=Tryz.zeroValue285
 t39:=Tryz.underlying262
 a39:=Tryz.isAgg262
 z39:=Tryz.sizeOf262
 v39:=Tryz.zeroValue262
 t45:=Tryz.underlying311
 a45:=Tryz.isAgg311
 z45:=Tryz.sizeOf311
 v45:=Tryz.zeroValue311
 t46:=Tryz.underlying312
 a46:=Tryz.isAgg312
 z46:=Tryz.sizeOf312
 v46:=Tryz.zeroValue312
 t50:=Tryz.underlying175
 a50:=Tryz.isAgg175
 z50:=Tryz.sizeOf175
 v50:=Tryz.zeroValue175
 t53:=Tryz.underlying318
 a53:=Tryz.isAgg318
 z53:=Tryz.sizeOf318
 v53:=Tryz.zeroValue318
 t55:=Tryz.underlying25
 a55:=Tryz.isAgg25
 z55:=Tryz.sizeOf25
 v55:=Tryz.zeroValue25
 t66:=Tryz.underlying321
 a66:=Tryz.isAgg321
 z66:=Tryz.sizeOf321
 v66:=Tryz.zeroValue321
 t70:=Tryz.underlying324
 a70:=Tryz.isAgg324
 z70:=Tryz.sizeOf324
 v70:=Tryz.zeroValue324
 t76:=Tryz.underlying328
 a76:=Tryz.isAgg328
 z76:=Tryz.sizeOf328
 v76:=Tryz.zeroValue328
 t77:=Tryz.underlying263
 a77:=Tryz.isAgg263
 z77:=Tryz.sizeOf263
 v77:=Tryz.zeroValue263 }
end Go.Proofs
namespace Go.Proofs.YtnpjkmomllkhpaaGreatDoor
namespace Text
def acc (x:Nat) (l:List UInt8):Nat:=l.foldl (fun x c=>64*x+(c.toNat - 128)) x
theorem acc_snoc (x:Nat) (l:List UInt8) (c:UInt8):acc x (l++[c])=64*acc x l+(c.toNat - 128):=by simp[acc]
def runeC (n x0 least:Nat) (r:List UInt8):Option (Nat × Nat) :=
 if r.length<n - 1 then none
 else if ∀ c ∈ r.take (n - 1),Cont c then
  if least≤acc x0 (r.take (n - 1))∧Scalar (acc x0 (r.take (n - 1))) then some (acc x0 (r.take (n - 1)),n) else none
 else none
theorem rune_two (c:UInt8) (r:List UInt8) (h:192≤c.toNat∧c.toNat<224):rune (c::r)=runeC 2 (c.toNat - 192) 128 r:=by
 simp only[rune];rw[if_neg (by omega),if_pos h];match r with
 | []=>simp[runeC]
 | c1::t =>
  by_cases k:Cont c1
  ·have hs:Scalar (64*(c.toNat - 192)+(c1.toNat - 128)):=by unfold Cont at k;unfold Scalar;omega
   have e:acc (c.toNat - 192) ((c1::t).take (2 - 1))=64*(c.toNat - 192)+(c1.toNat - 128):=rfl;unfold runeC;rw[if_neg (by simp),if_pos (by intro d hd;rw[List.mem_singleton.1 hd];exact k),e];dsimp only;generalize 64*(c.toNat - 192)+(c1.toNat - 128)=x at *;by_cases hx:128≤x
   · rw[if_pos ⟨k,hx⟩,if_pos ⟨hx,hs⟩]
   rw[if_neg (fun h=>hx h.2),if_neg (fun h=>hx h.1)]
  simp[runeC,k]
theorem rune_three (c:UInt8) (r:List UInt8) (h:224≤c.toNat∧c.toNat<240):rune (c::r)=runeC 3 (c.toNat - 224) 2048 r:=by
 simp only[rune];rw[if_neg (by omega),if_neg (by omega),if_pos h];match r with
 | []=>simp[runeC]
 | [c1]=>simp[runeC]
 | c1::c2::t =>
  by_cases k:Cont c1
  ·by_cases k2:Cont c2
   ·have e:acc (c.toNat - 224) ((c1::c2::t).take (3 - 1))=64*(64*(c.toNat - 224)+(c1.toNat - 128))+(c2.toNat - 128):=rfl;unfold runeC;rw[if_neg (by simp),if_pos (by intro d hd;rcases List.mem_cons.1 hd with rfl | hd;exact k;rw[List.mem_singleton.1 hd];exact k2),e];dsimp only;generalize 64*(64*(c.toNat - 224)+(c1.toNat - 128))+(c2.toNat - 128)=x at *;by_cases hx:2048≤x∧Scalar x
    · rw[if_pos ⟨k,k2,hx⟩,if_pos hx]
    rw[if_neg (fun h=>hx h.2.2),if_neg hx]
   simp[runeC,k,k2]
  simp[runeC,k]
theorem rune_four (c:UInt8) (r:List UInt8) (h:240≤c.toNat∧c.toNat<248):rune (c::r)=runeC 4 (c.toNat - 240) 65536 r:=by
 simp only[rune];rw[if_neg (by omega),if_neg (by omega),if_neg (by omega),if_pos h];match r with
 | []=>simp[runeC]
 | [c1]=>simp[runeC]
 | [c1,c2]=>simp[runeC]
 | c1::c2::c3::t =>
  by_cases k:Cont c1
  ·by_cases k2:Cont c2
   ·by_cases k3:Cont c3
    ·have e:acc (c.toNat - 240) ((c1::c2::c3::t).take (4 - 1))=64*(64*(64*(c.toNat - 240)+(c1.toNat - 128))+(c2.toNat - 128))+(c3.toNat - 128):=rfl;unfold runeC;rw[if_neg (by simp),if_pos (by intro d hd;rcases List.mem_cons.1 hd with rfl | hd;exact k;rcases List.mem_cons.1 hd with rfl | hd;exact k2;rw[List.mem_singleton.1 hd];exact k3),e];dsimp only;generalize 64*(64*(64*(c.toNat - 240)+(c1.toNat - 128))+(c2.toNat - 128))+(c3.toNat - 128)=x at *;by_cases hx:65536≤x∧Scalar x
     · rw[if_pos ⟨k,k2,k3,hx⟩,if_pos hx]
     rw[if_neg (fun h=>hx h.2.2.2),if_neg hx]
    simp[runeC,k,k2,k3]
   simp[runeC,k,k2]
  simp[runeC,k]
theorem rune_low (c:UInt8) (r:List UInt8) (h:c.toNat<128):rune (c::r)=some (c.toNat,1):=by simp[rune,h]
theorem rune_bad (c:UInt8) (r:List UInt8) (h:128≤c.toNat) (h':c.toNat<192∨248≤c.toNat):rune (c::r)=none:=by
 simp only[rune];rw[if_neg (by omega),if_neg (by omega),if_neg (by omega),if_neg (by omega)]
def got (o:Option (Nat × Nat)):Nat × Nat:=o.getD (0,0)
theorem acc_le:∀ (l:List UInt8) (x b:Nat),x<b→(∀ c ∈ l,Cont c)→acc x l<b*64 ^ l.length
 | [],x,b,h,_=>by simpa [acc] using h
 | c::l,x,b,h,hc=>by
  have k:=hc c List.mem_cons_self;have:=acc_le l (64*x+(c.toNat - 128)) (64*b) (by unfold Cont at k;omega) (fun d hd=>hc d (List.mem_cons_of_mem _ hd));have e:b*64 ^ (c::l).length=64*b*64 ^ l.length:=by
   rw[List.length_cons,Nat.pow_succ,Nat.mul_comm (64 ^ l.length) 64,← Nat.mul_assoc,Nat.mul_comm b 64]
  have e2:acc x (c::l)=acc (64*x+(c.toNat - 128)) l:=by simp only[acc,List.foldl_cons]
  rw[e,e2];exact this
def Step (r:List UInt8) (x0 k x:Nat):Prop:=(∀ c ∈ r.take (k - 1),Cont c)∧x=acc x0 (r.take (k - 1))
theorem Step.one (r:List UInt8) (x0:Nat):Step r x0 1 x0:=⟨by simp,rfl⟩
theorem Step.next {r:List UInt8} {x0 k x:Nat} (h:Step r x0 k x) (hk:1≤k) (hl:k - 1<r.length) (hc:Cont r[k - 1]):Step r x0 (k+1) (64*x+(r[k - 1].toNat - 128)):=by
 have e:r.take (k+1 - 1)=r.take (k - 1)++[r[k - 1]]:=by
  rw[show k+1 - 1=(k - 1)+1 by omega,List.take_succ_eq_append_getElem hl]
 refine ⟨?_,by rw[e,acc_snoc,h.2]⟩;rw[e];intro c hm;rcases List.mem_append.1 hm with hm | hm
 · exact h.1 c hm
 rw[List.mem_singleton.1 hm];exact hc
theorem Step.bad {r:List UInt8} {x0 k x n least:Nat} (_h:Step r x0 k x) (hk:1≤k) (hn:k<n) (hl:k - 1<r.length) (hc:¬ Cont r[k - 1]):runeC n x0 least r=none:=by
 unfold runeC;split
 · rfl
 rw[if_neg];intro hh;exact hc (hh _ (by rw[List.mem_take_iff_getElem];exact ⟨k - 1,by omega,rfl⟩))
theorem Step.le {r:List UInt8} {x0 k x:Nat} (h:Step r x0 k x) (h0:x0<32) (hk:k≤4):x<8388608:=by
 have h1:=acc_le _ x0 32 h0 h.1;rw[← h.2] at h1;have h2:(r.take (k - 1)).length≤3:=by rw[List.length_take];omega
 have h3:(64:Nat) ^ (r.take (k - 1)).length≤64 ^ 3:=Nat.pow_le_pow_right (by decide) h2;omega
theorem Step.last {r:List UInt8} {x0 x n least:Nat} (h:Step r x0 n x) (hl:n - 1≤r.length):runeC n x0 least r=if least≤x∧Scalar x then some (x,n) else none:=by
 unfold runeC;rw[if_neg (by omega),if_pos h.1,← h.2]
theorem runeC_short {r:List UInt8} {x0 n least:Nat} (hl:r.length<n - 1):runeC n x0 least r=none:=by
 unfold runeC;rw[if_pos hl]
theorem kind_all:∀ (xs:List Nat) (h1:0<xs.length),xs.length≤64→(∀ x ∈ xs.take xs.length,ctrl x=false)→kind (some xs)=sgn xs[0]
 | [],h1,_,_=>absurd h1 (by simp)
 | x::xs,_,h2,h3=>by
  rw[List.take_length] at h3;show (if _ then _ else _)=_
  rw[if_pos ⟨h2,h3⟩];rfl
end Text
end Go.Proofs.YtnpjkmomllkhpaaGreatDoor
