/- WireList, Cell, CellMore, WireRef. -/
import Derived.Test.YtnpjkmomllkhpaaGreatDoorTn11
import Derived.Test.YtnpjkmomllkhpaaGreatDoorTn4
set_option linter.unusedVariables false
set_option linter.unusedSimpArgs false
set_option maxRecDepth 100000
set_option maxHeartbeats 2000000
namespace Go.Proofs.YtnpjkmomllkhpaaGreatDoor
section
open RowKit
def Txts (w:World) (a:Option Addr) (len:Nat) (l:List ByteArray):Prop :=
 l.length=len∧(∀ t ∈ l,t.size≤maxLen)∧(0<len→∃ b off,a=some ⟨b,off,none⟩∧b<w.heap.size∧∀ j (h:j<l.length),w.cell? ⟨b,off+j,none⟩=some (.string l[j]))
theorem Txts.below {w w':World} {a:Option Addr} {len:Nat} {l:List ByteArray} (h:Txts w a len l) {B:Nat} (hB:B=w.heap.size) (hb:Below B w w'):Txts w' a len l:=by
 refine ⟨h.1,h.2.1,fun hl=>?_⟩;obtain ⟨b,off,e,hlt,hc⟩:=h.2.2 hl;subst hB;exact ⟨b,off,e,Nat.lt_of_lt_of_le hlt hb.size,fun j hj=>by rw[hb.cell (p:=⟨b,off+j,none⟩) hlt];exact hc j hj⟩
namespace Wire
open Num
def one (t:ByteArray):List UInt8:=upL t.size++t.data.toList
def tcat (l:List ByteArray):List UInt8:=l.flatMap one
theorem one_length (t:ByteArray):t.size+1≤(one t).length∧(one t).length≤t.size+10:=by
 have:=upL_length t.size;rw[one,List.length_append,← Str.size_eq];omega
theorem tcat_append (l m:List ByteArray):tcat (l++m)=tcat l++tcat m:=by simp[tcat]
theorem tcat_take (l:List ByteArray) (k:Nat) (h:k<l.length):tcat (l.take (k+1))=tcat (l.take k)++one l[k]:=by
 rw[List.take_succ_eq_append_getElem h,tcat_append];simp[tcat]
theorem tcat_le (l:List ByteArray) (k:Nat):(tcat (l.take k)).length≤(tcat l).length:=by
 conv=>rhs;rw[← List.take_append_drop k l,tcat_append]
 rw[List.length_append];omega
theorem isB_below {T e:TypeId} {B b:Nat} {bs:List Value} {W W':World} (h:Lib.IsBuilderF T e B b bs W) (hb:Below W.heap.size W W'):Lib.IsBuilderF T e B b bs W':=by
 have go:∀ p,Lib.BuilderAtF T e B b p bs W→Lib.BuilderAtF T e B b p bs W':=fun p h=>by
  have hlt:=h.lt;obtain ⟨hB,v,hv,hown,hne⟩:=h;exact ⟨hB,v,(hb.block b hlt).trans hv,hown.kept (row:=none) ⟨hb.os,hb.tape,hb.output,hb.size,fun k hk _=>hb.block k hk⟩ (Classical.em _),hne⟩
 exact h.elim (fun x=>.inl (go _ x)) (fun x=>.inr (go _ x))
theorem strCells_mk (l:List UInt8):Lib.strCells ({ data:=l.toArray }:ByteArray)=Lib.byteCells l:=by simp[Lib.strCells,Lib.byteCells]
theorem strCells_of (s:ByteArray):Lib.strCells s=Lib.byteCells s.data.toList:=by simp[Lib.strCells,Lib.byteCells]
theorem nums_any (a:Option Addr) (len cap:Nat) (l:List Nat) (w:World) (h:Nats w a len l) (hl:len≤1048576) :
  CB 130 #[.slice a len cap] w (cat l):=by
 have HN:=hid h;have hlen:=h.1;clear h;go_enter Tryz.func130,Tryz.ntmps130;go_wp2_with fail
 go_loopw [8] (fun i wr=>∃ k:Nat,k≤len∧i=.int .i64 k∧Lib.IsBuilderF 183 5 w.heap.size w.heap.size (Lib.byteCells (cat (l.take k))) wr∧Below w.heap.size w wr) (fun i _=>len - (intOf i).toNat)
 case atStart=>exact ⟨0,by omega,rfl,by rw[List.take_zero];exact Lib.IsBuilderF.of (Lib.fresh_isBuilder _ _ w),balloc (Below.refl _ _) _⟩
 obtain ⟨k,hk,rfl,hI,hb⟩:=hrel;obtain ⟨_,hmem,hcell⟩:=HN.out.below rfl hb;by_cases hlt:k<len
 ·obtain ⟨b,off,rfl,hblt,hc⟩:=hcell (by omega);have hck:=hc k (by omega);have hle:l[k]≤18446744073709551615:=hmem _ (List.getElem_mem _);have Hct:=hid (cat_take l k (by omega));have hcl:=cat_length (l.take k);rw[List.length_take] at hcl;obtain ⟨n,hn⟩:=nm l[k];rw[← hn] at hck hle Hct;have hul:=(upL_length n).2;have hsz:=hb.size;clear hn hc hcell hmem;go_wp2_with fail
  refine cr (up_any n _ hle) fun w1 b1=>?_;have hI1:Lib.IsBuilderF 183 5 w.heap.size w.heap.size (Lib.byteCells (cat (l.take k))) w1:=isB_below hI b1;go_wp2_with fail
  refine (Build.writeString_any w.heap.size w.heap.size _ _ _ hI1 (by rw[Lib.byteCells_length,Str.size_mk];omega) (Nat.le_trans hsz b1.size)).mono ?_;rintro e w2 ⟨rfl,hI2,b2,_⟩;rw[strCells_mk,← Lib.byteCells_append,← Hct.out] at hI2;go_wp2;go_roundw
  ·exact ⟨k+1,by omega,by go_num,hI2,(bstep hb b1).trans b2⟩
  simp[intOf];omega
 obtain rfl:k=len:=by omega
 rw[List.take_of_length_le (by omega)] at hI;have hsz:=hb.size;go_wp2_with fail
 refine (Tryz.Builder_String_any_k w.heap.size w.heap.size (cat l) _ hI hsz).mono ?_;rintro e w1 ⟨rfl,_,b1,_⟩;go_wp2;go_ret;exact ⟨rfl,hb.trans b1⟩
theorem texts_any (a:Option Addr) (len cap:Nat) (l:List ByteArray) (w:World) (h:Txts w a len l) (hl:(tcat l).length≤1099511627776) (hlen0:len≤1099511627776) :
  CB 98 #[.slice a len cap] w (tcat l):=by
 have HN:=hid h;have hlen:=h.1;clear h;go_enter Tryz.func98,Tryz.ntmps98;go_wp2_with fail
 go_loopw [8] (fun i wr=>∃ k:Nat,k≤len∧i=.int .i64 k∧Lib.IsBuilderF 183 5 w.heap.size w.heap.size (Lib.byteCells (tcat (l.take k))) wr∧Below w.heap.size w wr) (fun i _=>len - (intOf i).toNat)
 case atStart=>exact ⟨0,by omega,rfl,by rw[List.take_zero];exact Lib.IsBuilderF.of (Lib.fresh_isBuilder _ _ w),balloc (Below.refl _ _) _⟩
 obtain ⟨k,hk,rfl,hI,hb⟩:=hrel;obtain ⟨_,hmem,hcell⟩:=HN.out.below rfl hb;by_cases hlt:k<len
 ·obtain ⟨b,off,rfl,hblt,hc⟩:=hcell (by omega);have hck:=hc k (by omega);have hct:=tcat_take l k (by omega);have hcl:=tcat_le l (k+1);have hone:=one_length l[k];rw[hct,List.length_append] at hcl;have Hct:=hid hct;obtain ⟨t,hn⟩:=nm l[k];rw[← hn] at hck Hct hone hcl;have hw:IntKind.u64.wrap (t.size:Int)=(t.size:Int):=by rw[IntKind.wrap_u64];omega
  have hul:=upL_length t.size;have hsz:=hb.size;obtain ⟨ks,hks⟩:=nm (tcat (l.take k));rw[← hks] at hI Hct hcl;clear hn hc hcell hmem hct;go_wp2_with fail
  refine cr (up_any t.size _ (by omega)) fun w1 b1=>?_;have hI1:=isB_below hI b1;have hs1:=Nat.le_trans hsz b1.size;go_wp2_with fail
  refine (Build.writeString_any w.heap.size w.heap.size _ _ _ hI1 (by rw[Lib.byteCells_length,Str.size_mk];omega) hs1).mono ?_;rintro e w2 ⟨rfl,hI2,b2,_⟩;rw[strCells_mk,← Lib.byteCells_append] at hI2;go_wp2_with fail
  refine (Build.writeString_any w.heap.size w.heap.size _ _ _ hI2 (by rw[Lib.byteCells_length,List.length_append];omega) (Nat.le_trans hs1 b2.size)).mono ?_;rintro e w3 ⟨rfl,hI3,b3,_⟩;rw[strCells_of,← Lib.byteCells_append,List.append_assoc] at hI3;have hI4:Lib.IsBuilderF 183 5 w.heap.size w.heap.size (Lib.byteCells (tcat (l.take (k+1)))) w3:=by rw[Hct.out,one];exact hI3
  clear hI3;go_wp2;go_roundw
  ·exact ⟨k+1,by omega,by go_num,hI4,((bstep hb b1).trans b2).trans b3⟩
  simp[intOf];omega
 obtain rfl:k=len:=by omega
 rw[List.take_of_length_le (by omega)] at hI;have hsz:=hb.size;go_wp2_with fail
 refine (Tryz.Builder_String_any_k w.heap.size w.heap.size (tcat l) _ hI hsz).mono ?_;rintro e w1 ⟨rfl,_,b1,_⟩;go_wp2;go_ret;exact ⟨rfl,hb.trans b1⟩
def tr (b:Bool):UInt8:=if b then 1 else 0
theorem bool_w (b:Bool) (w:World) :
  CP 173 #[b] w (.string ⟨#[tr b]⟩):=by
 cases b
 ·go_enter Tryz.func173,Tryz.ntmps173;go_wp2;go_ret;exact ⟨rfl,rfl⟩
 go_enter Tryz.func173,Tryz.ntmps173;go_wp2;go_ret;exact ⟨rfl,rfl⟩
end Wire
end
namespace Cell
open RowKit
def ord (a b:Int):Int:=if a<b then -1 else if b<a then 1 else 0
def th (g:Bool):Int:=if g then 0 else 1
def cmp (s:Int) (t:ByteArray) (g:Bool) (s':Int) (t':ByteArray) (g':Bool):Int :=
 if ord s s'=0 then if Lib.compareInt (th g) (th g')=0 then Lib.compareBytes t.data.toList t'.data.toList else Lib.compareInt (th g) (th g') else ord s s'
def may (s:Int) (t:ByteArray) (g:Bool):Bool:=if s=0 then !g && t.toList.isEmpty else decide (s≤281474976710656) && decide ((t.size:Int)≤4096) && !(g && !t.toList.isEmpty)
theorem may_any (s:Int) (t:ByteArray) (g:Bool) (w:World) :
  CB 96 #[.agg #[.int .u64 s,.string t,g]] w (may s t g):=by
 go_enter Tryz.func96,Tryz.ntmps96;go_wp2;all_goals
  go_ret;refine ⟨?_,balloc (Below.refl _ _) _⟩;first
  | (simp_all [may];done)
  | (simp_all [may];omega)
theorem refmay_any (s:Int) (t:ByteArray) (g:Bool) (w:World) (hs:0≤s) :
  CB 108 #[.agg #[.int .u64 s,.string t,g]] w (may s t g):=by
 rcases (show s=0∨0<s by omega) with rfl | h
 ·have hz:t.toList=[]→(t.size:Int)≤4096:=fun e=>by rw[Lib.toList_data] at e;rw[Str.size_eq,e];decide
  clear hs;go_enter Tryz.func108,Tryz.ntmps108;go_wp2;all_goals
   go_ret;refine ⟨?_,balloc (Below.refl _ _) _⟩;first
   | (simp_all [may];done)
   | (simp_all [may];omega)
   | (simp_all [may];intro _ e;have h2:=hz e;omega)
 have h0:s≠0:=by omega
 go_enter Tryz.func108,Tryz.ntmps108;go_wp2;all_goals
  go_ret;refine ⟨?_,balloc (Below.refl _ _) _⟩;first
  | (simp_all [may];done)
  | (simp_all [may];omega)
  | (rcases ‹(_∨_)∨_› with (h | h) | h <;> first | omega | simp_all [may])
def wrote (s:Int) (tx:ByteArray) (gone:Bool):(Int × ByteArray × Bool) × Int :=
 if 4096<(tx.size:Int) then ((0,⟨#[]⟩,false),4) else if 281474976710656≤s then ((0,⟨#[]⟩,false),9) else ((s+1,(if gone then ⟨#[]⟩ else tx),gone),0)
def later (s:Int) (t:ByteArray) (g:Bool) (s':Int) (t':ByteArray) (g':Bool):Int × ByteArray × Bool:=if cmp s t g s' t' g'<0 then (s',t',g') else (s,t,g)
end Cell
section
open RowKit
namespace Wire
open Num
theorem refnums_any (a:Option Addr) (len cap:Nat) (l:List Nat) (w:World) (h:Nats w a len l) (hl:len≤1048576) :
  CB 142 #[.slice a len cap] w (cat l):=by
 have HN:=hid h;have hlen:=hid h.1;clear h;go_enter Tryz.func142,Tryz.ntmps142;go_wp2_with fail
 go_loopw [3,4] (fun s i wr=>∃ k:Nat,k≤len∧i=.int .i64 k∧s=.string ⟨(cat (l.take k)).toArray⟩∧Below w.heap.size w wr) (fun _ i _=>len - (intOf i).toNat)
 case atStart=>exact ⟨0,by omega,rfl,rfl,Below.refl _ _⟩
 obtain ⟨k,hk,rfl,rfl,hb⟩:=hrel;have hll:=hlen.out;by_cases hlt:k<len
 ·obtain ⟨_,hmem,hcell⟩:=HN.out.below rfl hb;obtain ⟨b,off,rfl,hblt,hc⟩:=hcell (by omega);have hck:=hc k (by omega);have hle:l[k]≤18446744073709551615:=hmem _ (List.getElem_mem _);have Hct:=hid (cat_take l k (by omega));have hcl:=cat_length (l.take k);rw[List.length_take] at hcl;obtain ⟨n,hn⟩:=nm l[k];rw[← hn] at hck hle Hct;have hul:=(upL_length n).2;obtain ⟨sk,hsk⟩:=nm (cat (l.take k));rw[← hsk] at Hct hcl ⊢;have hb1:sk.length≤10485760:=by omega
  clear hn hc hcell hmem hsk hcl hll;go_wp2_with fail
  refine cr (refup_any n _ hle) fun w1 b1=>?_;go_wp2;go_roundw
  ·exact ⟨k+1,by omega,by go_num,by rw[Str.mk_append_mk,Hct.out],bstep hb b1⟩
  simp[intOf];omega
 obtain rfl:k=len:=by omega
 rw[List.take_of_length_le (by omega)];clear hll;go_wp2;go_ret;exact ⟨rfl,hb⟩
theorem keep1 {w w':World} {b o:Nat} {v:Value} (h:w.cell? ⟨b,o,none⟩=some v) (k:Below w.heap.size w w'):w'.cell? ⟨b,o,none⟩=some v :=
 (k.cell (p:=⟨b,o,none⟩) (World.block_lt_of_cell? _ _ h)).trans h
theorem reftexts_any (a:Option Addr) (len cap:Nat) (l:List ByteArray) (w:World) (h:Txts w a len l) (hl:(tcat l).length≤1099511627776) (hlen0:len≤1099511627776) :
  CB 143 #[.slice a len cap] w (tcat l):=by
 have HN:=hid h;have hlen:=hid h.1;clear h;go_enter Tryz.func143,Tryz.ntmps143;go_wp2_with fail
 go_loopw [3,4] (fun s i wr=>∃ k:Nat,k≤len∧i=.int .i64 k∧s=.string ⟨(tcat (l.take k)).toArray⟩∧Below w.heap.size w wr) (fun _ i _=>len - (intOf i).toNat)
 case atStart=>exact ⟨0,by omega,rfl,rfl,Below.refl _ _⟩
 obtain ⟨k,hk,rfl,rfl,hb⟩:=hrel;have hll:=hlen.out;by_cases hlt:k<len
 ·obtain ⟨_,hmem,hcell⟩:=HN.out.below rfl hb;obtain ⟨b,off,rfl,hblt,hc⟩:=hcell (by omega);have hck:=hc k (by omega);have hct:=tcat_take l k (by omega);have hcl:=tcat_le l (k+1);have hone:=one_length l[k];rw[hct,List.length_append] at hcl;have Hct:=hid hct;obtain ⟨t,hn⟩:=nm l[k];rw[← hn] at hck Hct hone hcl;have hw:IntKind.u64.wrap (t.size:Int)=(t.size:Int):=by rw[IntKind.wrap_u64];omega
  have hul:=upL_length t.size;obtain ⟨sk,hsk⟩:=nm (tcat (l.take k));rw[← hsk] at Hct hcl ⊢;have hb1:sk.length≤1099511627776:=by omega
  have hb2:t.size≤1099511627776:=by omega
  have hb3:(upL t.size).length≤10:=hul.2;have hle:t.size≤18446744073709551615:=by omega
  have hs1:¬ (9223372036854775807<sk.length+(upL t.size).length):=by omega
  have hs2:¬ (9223372036854775807<sk.length+(upL t.size).length+t.size):=by omega
  clear hn hc hcell hmem hsk hcl hll hct hone hul;go_wp2_with fail
  go_region_held3 (fun w'=>w'.cell? ⟨b,off+k,none⟩=some (.string t))
   (first | go_keep | exact keep1 (by assumption) k7)
   ((go_at_call 207;with_reducible refine (refup_any t.size _ hle).mono ?_;rintro e v1 ⟨rfl,k7⟩;go_wp2_with fail))
  go_wp2;go_roundw
  ·exact ⟨k+1,by omega,by go_num,by rw[Str.mk_append_mk,Str.append_mk,Hct.out,one,List.append_assoc],bstep (Below.drew hb) k7⟩
  simp[intOf];omega
 obtain rfl:k=len:=by omega
 rw[List.take_of_length_le (by omega)];clear hll;go_wp2;go_ret;exact ⟨rfl,hb⟩
theorem refbool_w (b:Bool) (w:World) :
  CP 111 #[b] w (.string ⟨#[tr b]⟩):=by
 cases b
 ·go_enter Tryz.func111,Tryz.ntmps111;go_wp2;go_ret;exact ⟨rfl,rfl⟩
 go_enter Tryz.func111,Tryz.ntmps111;go_wp2;go_ret;exact ⟨rfl,rfl⟩
end Wire
end
end Go.Proofs.YtnpjkmomllkhpaaGreatDoor
