/- PathCut. -/
import Derived.Test.YtnpjkmomllkhpaaGreatDoorTn5
import Derived.Test.YtnpjkmomllkhpaaGreatDoorTn27
set_option linter.unusedVariables false
set_option linter.unusedSimpArgs false
set_option maxRecDepth 100000
set_option maxHeartbeats 2000000
namespace Go.Proofs.YtnpjkmomllkhpaaGreatDoor
namespace Path
open RowKit
def figs:List UInt8→List (List UInt8)
 | []=>[[]]
 | c::r=>if c=46 then []::figs r else match figs r with
  | []=>[[c]]
  | f::fs=>(c::f)::fs
def cutD:List UInt8→List UInt8 × List UInt8 × Bool
 | []=>([],[],false)
 | c::r=>if c=46 then ([],r,true) else (c::(cutD r).1,(cutD r).2.1,(cutD r).2.2)
theorem figs_cons (c:UInt8) (r:List UInt8):figs (c::r)=if c=46 then []::figs r else match figs r with
  | []=>[[c]]
  | f::fs=>(c::f)::fs:=rfl
theorem cutD_cons (c:UInt8) (r:List UInt8):cutD (c::r)=if c=46 then ([],r,true) else (c::(cutD r).1,(cutD r).2.1,(cutD r).2.2):=rfl
theorem figs_cut:∀ l:List UInt8,figs l=(cutD l).1::(if (cutD l).2.2 then figs (cutD l).2.1 else [])
 | []=>rfl
 | c::r=>by
  rw[figs_cons,cutD_cons];by_cases h:c=46
  · rw[if_pos h,if_pos h];rfl
  rw[if_neg h,if_neg h,figs_cut r]
theorem figs_length:∀ l:List UInt8,(figs l).length≤l.length+1
 | []=>by simp[figs]
 | c::r=>by
  have h:=figs_length r;unfold figs;split
  · simp;exact h
  split
  · simp
  rename_i heq
  rw[heq] at h;simp only[List.length_cons] at h ⊢;omega
theorem cutD_length:∀ l:List UInt8,(cutD l).1.length≤l.length∧(cutD l).2.1.length≤l.length∧((cutD l).2.2=true→(cutD l).2.1.length<l.length)
 | []=>by simp[cutD]
 | c::r=>by
  have h:=cutD_length r;unfold cutD;split
  · simp
  simp only[List.length_cons];exact ⟨by omega,by omega,fun e=>by have:=h.2.2 e;omega⟩
theorem cutD_index:∀ l:List UInt8,(Lib.indexByte l 46<0∧cutD l=(l,[],false))∨(∃ i:Nat,Lib.indexByte l 46=(i:Int)∧i<l.length∧cutD l=(l.take i,l.drop (i+1),true))
 | []=>.inl ⟨by simp[Lib.indexByte],rfl⟩
 | c::r=>by
  unfold cutD Lib.indexByte;by_cases h:c=46
  · exact .inr ⟨0,by simp[h],by simp,by simp[h]⟩
  rcases cutD_index r with ⟨h1,h2⟩ | ⟨i,h1,h2,h3⟩
  ·refine .inl ⟨?_,?_⟩
   · simp[h];omega
   simp[h,h2]
  refine .inr ⟨i+1,?_,by simp;omega,?_⟩
  · simp[h];omega
  simp[h,h3]
theorem slice_from (l:List UInt8) (i:Nat):({ data:=l.toArray }:ByteArray).extract i l.length={ data:=(l.drop i).toArray }:=Str.ext (by
 rw[Str.extract_toList,List.toList_toArray,List.toList_toArray,List.take_of_length_le (Nat.le_refl _)])
theorem slice_upto (l:List UInt8) (i:Nat):({ data:=l.toArray }:ByteArray).extract 0 i={ data:=(l.take i).toArray }:=Str.ext (by
 rw[Str.extract_toList,List.toList_toArray,List.toList_toArray,List.drop_zero])
theorem lite_any (l:List UInt8) (w:World) (hl:l.length≤1099511627776) :
  CB 282 #[l,.string ⟨#[46]⟩] w (.tuple #[.string ⟨(cutD l).1.toArray⟩,.string ⟨(cutD l).2.1.toArray⟩,.bool (cutD l).2.2]):=by
 have hsz:=Str.size_mk l;have C:=hid (fun w=>Tryz.stringslite_Index_one ⟨l.toArray⟩ 46 w);rcases cutD_index l with ⟨h1,h2⟩ | ⟨i,h1,h2,h3⟩
 ·rw[h2];simp only at C;generalize Lib.indexByte l 46=n at C h1;have hd:=dF (p:=n≥0);have hd':=dF (p:=0≤n);clear h2;go_enter Tryz.func282,Tryz.ntmps282;go_wp2_with fail
  refine cq (C.out _) ?_;go_wp2;go_ret3;exact ⟨rfl,Below.refl _ _⟩
 rw[h3];simp only at C;rw[h1] at C;have hd:=dT (p:=(i:Int)≥0);have hs1:=slice_upto l i;have hs2:=slice_from l (i+1);have hw:IntKind.i64.wrap ((i:Int)+1)=(i:Int)+1:=by rw[IntKind.wrap_i64];omega
 have hi0:(0:Int)≤(i:Int):=by omega
 have hi1:(i:Int)≤(l.length:Int):=by omega
 have hi2:(i:Int)+1≤(l.length:Int):=by omega
 have hi3:(0:Int)≤(i:Int)+1:=by omega
 clear h1 h3;go_enter Tryz.func282,Tryz.ntmps282;go_wp2_with fail
 refine cq (C.out _) ?_;go_wp2_with fail
 go_region
 go_wp2;go_ret3;exact ⟨rfl,Below.drew (Below.refl _ _)⟩
theorem cut_any (l:List UInt8) (w:World) (hl:l.length≤1099511627776) :
  CB 262 #[l,.string ⟨#[46]⟩] w (.tuple #[.string ⟨(cutD l).1.toArray⟩,.string ⟨(cutD l).2.1.toArray⟩,.bool (cutD l).2.2]):=by
 have C:=hid (fun w=>lite_any l w hl);go_enter Tryz.func262,Tryz.ntmps262;go_wp2_with fail
 refine cr (C.out _) fun w' hb=>?_;go_wp2;go_ret3;exact ⟨rfl,hb⟩
end Path
end Go.Proofs.YtnpjkmomllkhpaaGreatDoor
