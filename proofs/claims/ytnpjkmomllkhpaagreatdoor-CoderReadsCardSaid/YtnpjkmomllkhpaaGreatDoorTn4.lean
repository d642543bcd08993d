/- Wire, WireTake, WireDo, NumRef. -/
import Derived.Test.YtnpjkmomllkhpaaGreatDoorTn2
import Derived.Test.YtnpjkmomllkhpaaGreatDoorTn3
import Derived.Laws.AppendOwn
import Derived.Laws.OwnMore
import Derived.Laws.IdiomStrings
import Derived.Lib.Builder
set_option linter.unusedVariables false
set_option linter.unusedSimpArgs false
set_option maxRecDepth 100000
set_option maxHeartbeats 2000000
namespace Go.Proofs.YtnpjkmomllkhpaaGreatDoor
section
open RowKit
namespace Wire
open Num
def Rd (w:World) (b:Nat) (l:List UInt8) (E:Int):Prop :=
 w.cell? ⟨b,0,none⟩=some (.bool true)∧w.cell? ⟨b,1,none⟩=some ↑l∧w.cell? ⟨b,2,none⟩=some (.int .i64 E)∧w.frozen? ⟨b,1,none⟩=false∧w.frozen? ⟨b,2,none⟩=false∧l.length≤maxLen
theorem Rd.lt {w:World} {b:Nat} {l:List UInt8} {E:Int} (h:Rd w b l E):b<w.heap.size:=World.block_lt_of_cell? w ⟨b,0,none⟩ h.1
theorem Rd.below {w w':World} {b:Nat} {l:List UInt8} {E:Int} (h:Rd w b l E) {B:Nat} (k:Below B w w') (hb:b<B):Rd w' b l E:=by
 obtain ⟨h1,h2,h3,h4,h5,h6⟩:=h;exact ⟨(k.cell (p:=⟨b,0,none⟩) hb).trans h1,(k.cell (p:=⟨b,1,none⟩) hb).trans h2,(k.cell (p:=⟨b,2,none⟩) hb).trans h3,(k.frozen (p:=⟨b,1,none⟩) hb).trans h4,(k.frozen (p:=⟨b,2,none⟩) hb).trans h5,h6⟩
theorem Rd.but {w w':World} {b c:Nat} {l:List UInt8} {E:Int} (h:Rd w b l E) (k:But c w w') (hb:b≠c):Rd w' b l E:=by
 have q:=h.lt;obtain ⟨h1,h2,h3,h4,h5,h6⟩:=h;exact ⟨(k.cell (p:=⟨b,0,none⟩) q hb).trans h1,(k.cell (p:=⟨b,1,none⟩) q hb).trans h2,(k.cell (p:=⟨b,2,none⟩) q hb).trans h3,(k.frozen (p:=⟨b,1,none⟩) q hb).trans h4,(k.frozen (p:=⟨b,2,none⟩) q hb).trans h5,h6⟩
theorem Rd.alloc {w:World} {b:Nat} {l:List UInt8} {E:Int} (h:Rd w b l E) (o:Obj):Rd (w.alloc o) b l E:=h.below (balloc (Below.refl _ _) o) h.lt
def numT (l:List UInt8) (most:Int):Int × Nat × Int :=
 if (rdL l).2.2≠0 then (0,0,(rdL l).2.2) else if most<(rdL l).1 then (0,0,9) else (((rdL l).1:Nat),(rdL l).2.1,0)
theorem read_l (l:List UInt8) (w:World) (hs:l.length≤maxLen) :
  CP 251 #[l] w (.tuple #[.int .u64 ((rdL l).1:Int),.int .i64 ((rdL l).2.1:Int),.int .i64 (rdL l).2.2]) :=
 read_any ⟨l.toArray⟩ w (by rw[Str.size_mk];exact hs)
theorem num_brick (l:List UInt8) (most:Int) (p q:Nat) (w:World) (hs:l.length≤maxLen) (hp:w.cell? ⟨p,0,none⟩=some (.int .u64 most)) (hq:w.cell? ⟨q,0,none⟩=some (.int .u64 0)) (hf:w.frozen? ⟨q,0,none⟩=false)
  (n:Int) (k:Nat) (E:Int) (hn:numT l most=(n,k,E)) :
  Calls Tryz.prog 252 #[l,.pointer (some ⟨p,0,none⟩),.pointer (some ⟨q,0,none⟩)] w fun e w'=>e=.returned (.tuple #[.int .i64 (k:Int),.int .i64 E])∧w'=(if E=0 then w.setCell ⟨q,0,none⟩ (.int .u64 n) else w):=by
 have R:=hid (fun w=>read_l l w hs);unfold numT at hn;generalize rdL l=r at R hn;obtain ⟨rn,rk,re⟩:=r;simp only at hn;have qp:=World.block_lt_of_cell? w ⟨p,0,none⟩ hp;have qq:=World.block_lt_of_cell? w ⟨q,0,none⟩ hq;by_cases h1:re=0
 ·subst h1;rw[if_neg (by simp)] at hn;by_cases h2:most<(rn:Int)
  ·rw[if_pos h2] at hn;simp only[Prod.mk.injEq] at hn;obtain ⟨rfl,rfl,rfl⟩:=hn;have hd1:decide (most<(rn:Int))=true:=decide_eq_true h2;go_enter Tryz.func252,Tryz.ntmps252;go_wp2_with fail
   refine cp (R.out _) ?_;go_wp2;go_ret2;exact ⟨rfl,by simp⟩
  rw[if_neg h2] at hn;simp only[Prod.mk.injEq] at hn;obtain ⟨rfl,rfl,rfl⟩:=hn;have hd1:decide (most<(rn:Int))=false:=decide_eq_false h2;go_enter Tryz.func252,Tryz.ntmps252;go_wp2_with fail
  refine cp (R.out _) ?_;go_wp2;go_ret2;exact ⟨rfl,by simp⟩
 rw[if_pos h1] at hn;simp only[Prod.mk.injEq] at hn;obtain ⟨rfl,rfl,rfl⟩:=hn;have hb1:(re == 0)=false:=by rw[beq_eq_false_iff_ne];exact h1
 go_enter Tryz.func252,Tryz.ntmps252;go_wp2_with fail
 refine cp (R.out _) ?_;go_wp2;go_ret2;exact ⟨rfl,by simp⟩
theorem err_any (b:Nat) (l:List UInt8) (E:Int) (w:World) (h:Rd w b l E) :
  CP 210 #[.pointer (some ⟨b,0,none⟩)] w (.int .i64 E):=by
 obtain ⟨h1,h2,h3,h4,h5,h6⟩:=h;go_enter Tryz.func210,Tryz.ntmps210;go_wp2;go_ret;exact ⟨rfl,rfl⟩
end Wire
end
section
open RowKit
namespace Wire
open Num
theorem rd_size:∀ (l:List UInt8) (i s:Nat),(rd l i s).2.2=0→(rd l i s).2.1≤i+l.length∧i<(rd l i s).2.1
 | [],i,s,h=>by
  unfold rd at h;split at h <;> simp at h
 | c::r,i,s,h=>by
  unfold rd at h ⊢;split at h
  · simp at h
  rename_i h0
  rw[if_neg h0];split at h
  ·rename_i h1
   rw[if_pos h1];have:=rd_size r _ _ h;simp only[List.length_cons];omega
  rename_i h1
  rw[if_neg h1];split at h
  · simp at h
  rename_i h2
  rw[if_neg h2];split at h
  · simp at h
  rename_i h3
  rw[if_neg h3];simp only[List.length_cons];omega
theorem rdL_size (l:List UInt8) (h:(rdL l).2.2=0):(rdL l).2.1≤l.length∧0<(rdL l).2.1:=by have:=rd_size l 0 0 h;rw[Nat.zero_add] at this;exact this
theorem numT_size {l:List UInt8} {most n:Int} {k:Nat} (h:numT l most=(n,k,0)):k≤l.length:=by
 unfold numT at h;split at h
 · simp only[Prod.mk.injEq] at h;omega
 rename_i h1
 have:=rdL_size l (by simpa using h1);split at h
 · simp at h
 simp only[Prod.mk.injEq] at h;omega
def textT (l:List UInt8) (most:Int):List UInt8 × Nat × Int :=
 if (rdL l).2.2≠0 then ([],0,(rdL l).2.2) else if most<0∨most<(rdL l).1 then ([],0,4) else if l.length - (rdL l).2.1<(rdL l).1 then ([],0,20)
 else ((l.drop (rdL l).2.1).take (rdL l).1,(rdL l).2.1+(rdL l).1,0)
theorem textT_size {l:List UInt8} {most:Int} {x:List UInt8} {k:Nat} (h:textT l most=(x,k,0)):k≤l.length:=by
 unfold textT at h;split at h
 · simp only[Prod.mk.injEq] at h;omega
 rename_i h1
 have:=rdL_size l (by simpa using h1);split at h
 · simp at h
 split at h
 · simp at h
 simp only[Prod.mk.injEq] at h;omega
def boolT:List UInt8→Bool × Nat × Int
 | []=>(false,0,20)
 | c::_=>if 1<c.toNat then (false,0,8) else (c.toNat == 1,1,0)
theorem boolT_size {l:List UInt8} {x:Bool} {k:Nat} (h:boolT l=(x,k,0)):k≤l.length:=by
 cases l with
 | nil=>simp[boolT] at h
 | cons c r =>
  simp only[boolT] at h;split at h
  · simp at h
  simp only[Prod.mk.injEq] at h;simp only[List.length_cons];omega
theorem slice_to (l:List UInt8) (i j:Nat):({ data:=l.toArray }:ByteArray).extract i j={ data:=((l.drop i).take (j - i)).toArray }:=Str.ext (by
 rw[Str.extract_toList,List.toList_toArray,List.toList_toArray,List.drop_take])
theorem slice_from (l:List UInt8) (i:Nat):({ data:=l.toArray }:ByteArray).extract i l.length={ data:=(l.drop i).toArray }:=Str.ext (by
 rw[Str.extract_toList,List.toList_toArray,List.toList_toArray,List.take_of_length_le (Nat.le_refl _)])
theorem text_brick (l:List UInt8) (most:Int) (p q:Nat) (w:World) (hs:l.length≤maxLen) (m0 : -9223372036854775808≤most) (m1:most≤9223372036854775807) (hp:w.cell? ⟨p,0,none⟩=some (.int .i64 most)) (hq:w.cell? ⟨q,0,none⟩=some (.string ⟨#[]⟩)) (hf:w.frozen? ⟨q,0,none⟩=false)
  (x:List UInt8) (k:Nat) (E:Int) (hn:textT l most=(x,k,E)) :
  Calls Tryz.prog 250 #[l,.pointer (some ⟨p,0,none⟩),.pointer (some ⟨q,0,none⟩)] w fun e w'=>e=.returned (.tuple #[.int .i64 (k:Int),.int .i64 E])∧w'=(if E=0 then w.setCell ⟨q,0,none⟩ (.string ⟨x.toArray⟩) else w):=by
 have R:=hid (fun w=>read_l l w hs);have hz:=rdL_size l;unfold textT at hn;generalize rdL l=r at R hn hz;obtain ⟨rn,rk,re⟩:=r;simp only at hn hz;have hsz:=Str.size_mk l;have qp:=World.block_lt_of_cell? w ⟨p,0,none⟩ hp;have qq:=World.block_lt_of_cell? w ⟨q,0,none⟩ hq;unfold maxLen at hs;by_cases h1:re=0
 ·subst h1;obtain ⟨hz1,hz2⟩:=hz rfl;rw[if_neg (by simp)] at hn;by_cases h2:most<0∨most<(rn:Int)
  ·rw[if_pos h2] at hn;simp only[Prod.mk.injEq] at hn;obtain ⟨rfl,rfl,rfl⟩:=hn;by_cases h3:most<0
   ·have hd1:decide (most<0)=true:=decide_eq_true h3;go_enter Tryz.func250,Tryz.ntmps250;go_wp2_with fail
    refine cp (R.out _) ?_;go_wp2;go_ret2;exact ⟨rfl,by simp⟩
   have hd1:decide (most<0)=false:=decide_eq_false h3;have hw:IntKind.u64.wrap most=most:=by rw[IntKind.wrap_u64];omega
   have hd2:=dT (p:=most<(rn:Int));go_enter Tryz.func250,Tryz.ntmps250;go_wp2_with fail
   refine cp (R.out _) ?_;go_wp2;go_ret2;exact ⟨rfl,by simp⟩
  rw[if_neg h2] at hn;have hd1:=dF (p:=most<0);have hw:IntKind.u64.wrap most=most:=by rw[IntKind.wrap_u64];omega
  have hd2:=dF (p:=most<(rn:Int));have hw1:IntKind.i64.wrap ((l.length:Int) - (rk:Int))=((l.length - rk:Nat):Int):=by rw[IntKind.wrap_i64];omega
  have hw2:IntKind.u64.wrap ((l.length - rk:Nat):Int)=((l.length - rk:Nat):Int):=by rw[IntKind.wrap_u64];omega
  by_cases h3:l.length - rk<rn
  ·rw[if_pos h3] at hn;simp only[Prod.mk.injEq] at hn;obtain ⟨rfl,rfl,rfl⟩:=hn;have hd3:decide (((l.length - rk:Nat):Int)<(rn:Int))=true:=dT;go_enter Tryz.func250,Tryz.ntmps250;go_wp2_with fail
   refine cp (R.out _) ?_;go_wp2;go_ret2;exact ⟨rfl,by simp⟩
  rw[if_neg h3] at hn;simp only[Prod.mk.injEq] at hn;obtain ⟨rfl,rfl,rfl⟩:=hn;have hd3:decide (((l.length - rk:Nat):Int)<(rn:Int))=false:=dF;have hw3:IntKind.i64.wrap (rn:Int)=(rn:Int):=by rw[IntKind.wrap_i64];omega
  have hw4:IntKind.i64.wrap ((rk:Int)+(rn:Int))=((rk+rn:Nat):Int):=by rw[IntKind.wrap_i64];omega
  have hsl:({ data:=l.toArray }:ByteArray).extract rk (rk+rn)={ data:=((l.drop rk).take rn).toArray }:=by
   have:=slice_to l rk (rk+rn);rwa [Nat.add_sub_cancel_left] at this
  have hle:rk+rn≤l.length:=by omega
  go_enter Tryz.func250,Tryz.ntmps250;go_wp2_with fail
  refine cp (R.out _) ?_;go_wp2;go_ret2;exact ⟨rfl,by simp⟩
 rw[if_pos h1] at hn;simp only[Prod.mk.injEq] at hn;obtain ⟨rfl,rfl,rfl⟩:=hn;have hb1:(re == 0)=false:=by rw[beq_eq_false_iff_ne];exact h1
 go_enter Tryz.func250,Tryz.ntmps250;go_wp2_with fail
 refine cp (R.out _) ?_;go_wp2;go_ret2;exact ⟨rfl,by simp⟩
theorem bool_brick (l:List UInt8) (q:Nat) (w:World) (hq:w.cell? ⟨q,0,none⟩=some (.bool false)) (hf:w.frozen? ⟨q,0,none⟩=false)
  (x:Bool) (k:Nat) (E:Int) (hn:boolT l=(x,k,E)) :
  Calls Tryz.prog 253 #[l,.pointer (some ⟨q,0,none⟩)] w fun e w'=>e=.returned (.tuple #[.int .i64 (k:Int),.int .i64 E])∧w'=(if E=0 then w.setCell ⟨q,0,none⟩ (.bool x) else w):=by
 have hsz:=Str.size_mk l;have qq:=World.block_lt_of_cell? w ⟨q,0,none⟩ hq;cases l with
 | nil =>
  obtain ⟨rfl,rfl,rfl⟩:false=x∧0=k∧20=E:=by simpa [boolT] using hn
  go_enter Tryz.func253,Tryz.ntmps253;go_wp2;go_ret2;exact ⟨rfl,by simp⟩
 | cons c r =>
  rw[List.length_cons] at hsz;simp only[boolT] at hn;have hget:∀ h:0<({ data:=(c::r).toArray }:ByteArray).size,({ data:=(c::r).toArray }:ByteArray)[0]'h=c:=fun _=>rfl;by_cases h1:1<c.toNat
  ·rw[if_pos h1] at hn;simp only[Prod.mk.injEq] at hn;obtain ⟨rfl,rfl,rfl⟩:=hn;have hd:=dT (p:=(1:Int)<(c.toNat:Int));go_enter Tryz.func253,Tryz.ntmps253;go_wp2;go_ret2;exact ⟨rfl,by simp⟩
  rw[if_neg h1] at hn;simp only[Prod.mk.injEq] at hn;obtain ⟨rfl,rfl,rfl⟩:=hn;have hd:=dF (p:=(1:Int)<(c.toNat:Int));go_enter Tryz.func253,Tryz.ntmps253;go_wp2;go_ret2;exact ⟨rfl,by rw[show (((c.toNat:Nat):Int) == 1)=(c.toNat == 1) by rw[Bool.eq_iff_iff];simp;omega]⟩
theorem fail_brick (l:List UInt8) (E:Int) (p:Nat) (w:World) (hp:w.cell? ⟨p,0,none⟩=some (.int .i64 E)) :
  CB 216 #[l,.pointer (some ⟨p,0,none⟩)] w (.tuple #[.int .i64 0,.int .i64 E]):=by
 have qp:=World.block_lt_of_cell? w ⟨p,0,none⟩ hp;go_enter Tryz.func216,Tryz.ntmps216;go_wp2;go_region
 go_wp2;go_ret2;exact ⟨rfl,Below.drew (Below.refl _ _)⟩
theorem end_brick (l:List UInt8) (w:World) (E:Int) (hE:E=if l.isEmpty then 0 else 8) :
  CP 209 #[l] w (.tuple #[.int .i64 0,.int .i64 E]):=by
 cases h:l.isEmpty with
 | true =>
  rw[h] at hE;simp only[if_true] at hE;subst hE;go_enter Tryz.func209,Tryz.ntmps209;go_wp2;go_ret2;exact ⟨rfl,rfl⟩
 | false =>
  rw[h] at hE;rw[if_neg (by decide)] at hE;subst hE;go_enter Tryz.func209,Tryz.ntmps209;go_wp2;go_ret2;exact ⟨rfl,rfl⟩
def Took (w w':World) (b:Nat) (l:List UInt8) (k:Nat) (E:Int):Prop :=
 w'=if E=0 then (w.setCell ⟨b,2,none⟩ (.int .i64 0)).setCell ⟨b,1,none⟩ (.string ⟨(l.drop k).toArray⟩) else w.setCell ⟨b,2,none⟩ (.int .i64 E)
theorem Took.but {w w':World} {b:Nat} {l:List UInt8} {k:Nat} {E:Int} (h:Took w w' b l k E):But b w w':=by
 unfold Took at h;split at h
 · rw[h];exact ((But.refl b w).set _ rfl _).set _ rfl _
 rw[h];exact (But.refl b w).set _ rfl _
theorem Rd.err {w:World} {b:Nat} {l:List UInt8} {E:Int} (h:Rd w b l E) (E':Int):Rd (w.setCell ⟨b,2,none⟩ (.int .i64 E')) b l E':=by
 obtain ⟨h1,h2,h3,h4,h5,h6⟩:=h;exact ⟨by rw[World.cell?_setCell_other _ _ _ _ (by simp)];exact h1,by rw[World.cell?_setCell_other _ _ _ _ (by simp)];exact h2,World.cell?_setCell_same _ _ _ h3,by rw[World.frozen?_setCell];exact h4,by rw[World.frozen?_setCell];exact h5,h6⟩
theorem Rd.left {w:World} {b:Nat} {l m:List UInt8} {E:Int} (h:Rd w b l E) (hm:m.length≤maxLen):Rd (w.setCell ⟨b,1,none⟩ (.string ⟨m.toArray⟩)) b m E:=by
 obtain ⟨h1,h2,h3,h4,h5,h6⟩:=h;exact ⟨by rw[World.cell?_setCell_other _ _ _ _ (by simp)];exact h1,World.cell?_setCell_same _ _ _ h2,by rw[World.cell?_setCell_other _ _ _ _ (by simp)];exact h3,by rw[World.frozen?_setCell];exact h4,by rw[World.frozen?_setCell];exact h5,hm⟩
theorem Rd.set {w:World} {b q:Nat} {l:List UInt8} {E:Int} (h:Rd w b l E) (hq:q≠b) (v:Value):Rd (w.setCell ⟨q,0,none⟩ v) b l E :=
 h.but ((But.refl q w).set ⟨q,0,none⟩ rfl v) (fun e=>hq e.symm)
theorem Took.rd {w w':World} {b:Nat} {l:List UInt8} {k:Nat} {E:Int} (h:Took w w' b l k E) (r:Rd w b l 0):Rd w' b (if E=0 then l.drop k else l) E:=by
 unfold Took at h;split at h
 ·rename_i hE
  subst hE;rw[h,if_pos rfl];exact (r.err 0).left (by rw[List.length_drop];have:=r.2.2.2.2.2;omega)
 rename_i hE
 rw[h,if_neg hE];exact r.err E
theorem take_err (b:Nat) (l:List UInt8) (E:Int) (f:Value) (w:World) (h:Rd w b l E) (hE:E≠0) :
  CP 208 #[.pointer (some ⟨b,0,none⟩),f] w (.tuple #[]):=by
 have hb:(E == 0)=false:=by rw[beq_eq_false_iff_ne];exact hE
 have X:=hid (err_any b l E w h);go_enter Tryz.func208,Tryz.ntmps208;go_wp2_with fail
 refine cp X.out ?_;go_wp2;refine bodyPost_ret (results_none rfl _ _ _) rfl ?_;exact ⟨rfl,rfl⟩
theorem take_Num (b:Nat) (l:List UInt8) (p q:Nat) (k:Nat) (E:Int) (R:World→Prop) (w:World) (h:Rd w b l 0)
  (hC:Calls Tryz.prog 252 #[l,.pointer (some ⟨p,0,none⟩),.pointer (some ⟨q,0,none⟩)] w fun e w'=>e=.returned (.tuple #[.int .i64 (k:Int),.int .i64 E])∧R w') (hR:∀ w',R w'→Rd w' b l 0) (hk:E=0→k≤l.length) :
  Calls Tryz.prog 208 #[.pointer (some ⟨b,0,none⟩),.func (.func 252) #[] #[.pointer (some ⟨p,0,none⟩),.pointer (some ⟨q,0,none⟩)]] w fun e w'=>e=.returned (.tuple #[])∧∃ w1,R w1∧Took w1 w' b l k E:=by
 have X:=hid (err_any b l 0 w h);have Y:=hid hC;have hsz:=Str.size_mk l;obtain ⟨h1,h2,h3,h4,h5,h6⟩:=h;have q0:=World.block_lt_of_cell? w ⟨b,0,none⟩ h1;clear hC;unfold maxLen at h6;go_enter Tryz.func208,Tryz.ntmps208;go_wp2_with fail
 refine cp X.out ?_;clear X;go_wp2_with fail
 refine cr Y.out fun w1 r1=>?_;clear Y;have r2:=hR w1 r1;obtain ⟨g1,g2,g3,g4,g5,_⟩:=id r2;have q1:=r2.lt;by_cases hE:E=0
 ·subst hE;have hk:=hk rfl;have hex:=slice_from l k;go_wp2;go_end0
  exact ⟨rfl,w1,r1,by rw[Took,if_pos rfl]⟩
 have hb:(E == 0)=false:=by rw[beq_eq_false_iff_ne];exact hE
 go_wp2;go_end0
 exact ⟨rfl,w1,r1,by rw[Took,if_neg hE]⟩
theorem take_Text (b:Nat) (l:List UInt8) (p q:Nat) (k:Nat) (E:Int) (R:World→Prop) (w:World) (h:Rd w b l 0)
  (hC:Calls Tryz.prog 250 #[l,.pointer (some ⟨p,0,none⟩),.pointer (some ⟨q,0,none⟩)] w fun e w'=>e=.returned (.tuple #[.int .i64 (k:Int),.int .i64 E])∧R w') (hR:∀ w',R w'→Rd w' b l 0) (hk:E=0→k≤l.length) :
  Calls Tryz.prog 208 #[.pointer (some ⟨b,0,none⟩),.func (.func 250) #[] #[.pointer (some ⟨p,0,none⟩),.pointer (some ⟨q,0,none⟩)]] w fun e w'=>e=.returned (.tuple #[])∧∃ w1,R w1∧Took w1 w' b l k E:=by
 have X:=hid (err_any b l 0 w h);have Y:=hid hC;have hsz:=Str.size_mk l;obtain ⟨h1,h2,h3,h4,h5,h6⟩:=h;have q0:=World.block_lt_of_cell? w ⟨b,0,none⟩ h1;clear hC;unfold maxLen at h6;go_enter Tryz.func208,Tryz.ntmps208;go_wp2_with fail
 refine cp X.out ?_;clear X;go_wp2_with fail
 refine cr Y.out fun w1 r1=>?_;clear Y;have r2:=hR w1 r1;obtain ⟨g1,g2,g3,g4,g5,_⟩:=id r2;have q1:=r2.lt;by_cases hE:E=0
 ·subst hE;have hk:=hk rfl;have hex:=slice_from l k;go_wp2;go_end0
  exact ⟨rfl,w1,r1,by rw[Took,if_pos rfl]⟩
 have hb:(E == 0)=false:=by rw[beq_eq_false_iff_ne];exact hE
 go_wp2;go_end0
 exact ⟨rfl,w1,r1,by rw[Took,if_neg hE]⟩
theorem take_Bool (b:Nat) (l:List UInt8) (p:Nat) (k:Nat) (E:Int) (R:World→Prop) (w:World) (h:Rd w b l 0)
  (hC:Calls Tryz.prog 253 #[l,.pointer (some ⟨p,0,none⟩)] w fun e w'=>e=.returned (.tuple #[.int .i64 (k:Int),.int .i64 E])∧R w') (hR:∀ w',R w'→Rd w' b l 0) (hk:E=0→k≤l.length) :
  Calls Tryz.prog 208 #[.pointer (some ⟨b,0,none⟩),.func (.func 253) #[] #[.pointer (some ⟨p,0,none⟩)]] w fun e w'=>e=.returned (.tuple #[])∧∃ w1,R w1∧Took w1 w' b l k E:=by
 have X:=hid (err_any b l 0 w h);have Y:=hid hC;have hsz:=Str.size_mk l;obtain ⟨h1,h2,h3,h4,h5,h6⟩:=h;have q0:=World.block_lt_of_cell? w ⟨b,0,none⟩ h1;clear hC;unfold maxLen at h6;go_enter Tryz.func208,Tryz.ntmps208;go_wp2_with fail
 refine cp X.out ?_;clear X;go_wp2_with fail
 refine cr Y.out fun w1 r1=>?_;clear Y;have r2:=hR w1 r1;obtain ⟨g1,g2,g3,g4,g5,_⟩:=id r2;have q1:=r2.lt;by_cases hE:E=0
 ·subst hE;have hk:=hk rfl;have hex:=slice_from l k;go_wp2;go_end0
  exact ⟨rfl,w1,r1,by rw[Took,if_pos rfl]⟩
 have hb:(E == 0)=false:=by rw[beq_eq_false_iff_ne];exact hE
 go_wp2;go_end0
 exact ⟨rfl,w1,r1,by rw[Took,if_neg hE]⟩
theorem take_Fail (b:Nat) (l:List UInt8) (p:Nat) (k:Nat) (E:Int) (R:World→Prop) (w:World) (h:Rd w b l 0)
  (hC:Calls Tryz.prog 216 #[l,.pointer (some ⟨p,0,none⟩)] w fun e w'=>e=.returned (.tuple #[.int .i64 (k:Int),.int .i64 E])∧R w') (hR:∀ w',R w'→Rd w' b l 0) (hk:E=0→k≤l.length) :
  Calls Tryz.prog 208 #[.pointer (some ⟨b,0,none⟩),.func (.func 216) #[] #[.pointer (some ⟨p,0,none⟩)]] w fun e w'=>e=.returned (.tuple #[])∧∃ w1,R w1∧Took w1 w' b l k E:=by
 have X:=hid (err_any b l 0 w h);have Y:=hid hC;have hsz:=Str.size_mk l;obtain ⟨h1,h2,h3,h4,h5,h6⟩:=h;have q0:=World.block_lt_of_cell? w ⟨b,0,none⟩ h1;clear hC;unfold maxLen at h6;go_enter Tryz.func208,Tryz.ntmps208;go_wp2_with fail
 refine cp X.out ?_;clear X;go_wp2_with fail
 refine cr Y.out fun w1 r1=>?_;clear Y;have r2:=hR w1 r1;obtain ⟨g1,g2,g3,g4,g5,_⟩:=id r2;have q1:=r2.lt;by_cases hE:E=0
 ·subst hE;have hk:=hk rfl;have hex:=slice_from l k;go_wp2;go_end0
  exact ⟨rfl,w1,r1,by rw[Took,if_pos rfl]⟩
 have hb:(E == 0)=false:=by rw[beq_eq_false_iff_ne];exact hE
 go_wp2;go_end0
 exact ⟨rfl,w1,r1,by rw[Took,if_neg hE]⟩
theorem take_End (b:Nat) (l:List UInt8) (k:Nat) (E:Int) (R:World→Prop) (w:World) (h:Rd w b l 0)
  (hC:Calls Tryz.prog 209 #[l] w fun e w'=>e=.returned (.tuple #[.int .i64 (k:Int),.int .i64 E])∧R w') (hR:∀ w',R w'→Rd w' b l 0) (hk:E=0→k≤l.length) :
  Calls Tryz.prog 208 #[.pointer (some ⟨b,0,none⟩),.func (.func 209) #[] #[]] w fun e w'=>e=.returned (.tuple #[])∧∃ w1,R w1∧Took w1 w' b l k E:=by
 have X:=hid (err_any b l 0 w h);have Y:=hid hC;have hsz:=Str.size_mk l;obtain ⟨h1,h2,h3,h4,h5,h6⟩:=h;have q0:=World.block_lt_of_cell? w ⟨b,0,none⟩ h1;clear hC;unfold maxLen at h6;go_enter Tryz.func208,Tryz.ntmps208;go_wp2_with fail
 refine cp X.out ?_;clear X;go_wp2_with fail
 refine cr Y.out fun w1 r1=>?_;clear Y;have r2:=hR w1 r1;obtain ⟨g1,g2,g3,g4,g5,_⟩:=id r2;have q1:=r2.lt;by_cases hE:E=0
 ·subst hE;have hk:=hk rfl;have hex:=slice_from l k;go_wp2;go_end0
  exact ⟨rfl,w1,r1,by rw[Took,if_pos rfl]⟩
 have hb:(E == 0)=false:=by rw[beq_eq_false_iff_ne];exact hE
 go_wp2;go_end0
 exact ⟨rfl,w1,r1,by rw[Took,if_neg hE]⟩
end Wire
end
section
open RowKit
namespace Wire
open Num
theorem after {w wa w1 w':World} {b q:Nat} {l:List UInt8} {k:Nat} {E:Int} {v0 v:Value} (hwa:But b w wa) (hq:w.heap.size≤q) (hqb:q≠b) (hc:wa.cell? ⟨q,0,none⟩=some v0)
  (h1:w1=if E=0 then wa.setCell ⟨q,0,none⟩ v else wa) (hv:E≠0→v=v0) (ht:Took w1 w' b l k E):w'.cell? ⟨q,0,none⟩=some v∧But b w w':=by
 have hb:=ht.but;have ql:=World.block_lt_of_cell? wa ⟨q,0,none⟩ hc;by_cases hE:E=0
 ·rw[if_pos hE] at h1;subst h1;refine ⟨?_,(hwa.put ⟨q,0,none⟩ hq v).trans hb⟩;rw[hb.cell (by simpa [World.setCell] using ql) hqb];exact World.cell?_setCell_same _ _ _ hc
 rw[if_neg hE] at h1;subst h1;refine ⟨?_,hwa.trans hb⟩;rw[hb.cell ql hqb,hc,hv hE]
theorem kept {wa:World} {b q:Nat} {l:List UInt8} {E:Int} {v:Value} (hr:Rd wa b l 0) (hqb:q≠b):∀ w1,w1=(if E=0 then wa.setCell ⟨q,0,none⟩ v else wa)→Rd w1 b l 0:=by
 intro w1 h1;split at h1
 · rw[h1];exact hr.set hqb v
 rw[h1];exact hr
theorem numT_err {l:List UInt8} {most n:Int} {k:Nat} {E:Int} (h:numT l most=(n,k,E)) (hE:E≠0):n=0:=by
 unfold numT at h;split at h
 · simp only[Prod.mk.injEq] at h;exact h.1.symm
 split at h
 · simp only[Prod.mk.injEq] at h;exact h.1.symm
 simp only[Prod.mk.injEq] at h;exact absurd h.2.2.symm hE
theorem textT_err {l:List UInt8} {most:Int} {x:List UInt8} {k:Nat} {E:Int} (h:textT l most=(x,k,E)) (hE:E≠0):x=[]:=by
 unfold textT at h;split at h
 · simp only[Prod.mk.injEq] at h;exact h.1.symm
 split at h
 · simp only[Prod.mk.injEq] at h;exact h.1.symm
 split at h
 · simp only[Prod.mk.injEq] at h;exact h.1.symm
 simp only[Prod.mk.injEq] at h;exact absurd h.2.2.symm hE
theorem boolT_err {l:List UInt8} {x:Bool} {k:Nat} {E:Int} (h:boolT l=(x,k,E)) (hE:E≠0):x=false:=by
 cases l with
 | nil=>simp[boolT] at h;exact h.1
 | cons c r =>
  simp only[boolT] at h;split at h
  · simp only[Prod.mk.injEq] at h;exact h.1.symm
  simp only[Prod.mk.injEq] at h;exact absurd h.2.2.symm hE
def numS (most:Int) (l:List UInt8) (E:Int):Int × List UInt8 × Int :=
 if E≠0 then (0,l,E) else ((numT l most).1,(if (numT l most).2.2=0 then l.drop (numT l most).2.1 else l),(numT l most).2.2)
def textS (most:Int) (l:List UInt8) (E:Int):List UInt8 × List UInt8 × Int :=
 if E≠0 then ([],l,E) else ((textT l most).1,(if (textT l most).2.2=0 then l.drop (textT l most).2.1 else l),(textT l most).2.2)
def boolS (l:List UInt8) (E:Int):Bool × List UInt8 × Int :=
 if E≠0 then (false,l,E) else ((boolT l).1,(if (boolT l).2.2=0 then l.drop (boolT l).2.1 else l),(boolT l).2.2)
def endS (l:List UInt8) (E:Int):Int:=if E≠0 then E else if l.isEmpty then 0 else 8
theorem numS_le {most:Int} {l:List UInt8} {E n:Int} {l':List UInt8} {E':Int} (h:numS most l E=(n,l',E')) (h0:0≤most):0≤n∧n≤most:=by
 unfold numS at h;split at h
 · simp only[Prod.mk.injEq] at h;omega
 simp only[Prod.mk.injEq] at h;obtain ⟨h,_⟩:=h;unfold numT at h;split at h
 · simp only at h;omega
 split at h
 · simp only at h;omega
 simp only at h;omega
def intS (most:Int) (l:List UInt8) (E:Int):Int × List UInt8 × Int :=
 if most<0 then (0,l,if E≠0 then E else 9) else numS most l E
theorem num_any (b:Nat) (l:List UInt8) (E:Int) (most:Int) (w:World) (h:Rd w b l E) (n:Int) (l':List UInt8) (E':Int) (hn:numS most l E=(n,l',E')) :
  Calls Tryz.prog 212 #[.pointer (some ⟨b,0,none⟩),.int .u64 most] w fun e w'=>e=.returned (.int .u64 n)∧Rd w' b l' E'∧But b w w':=by
 have hmf:∀ (fn:Fn) (first cap:Array Value) (w:World),(Instr.makeFunc fn first cap).run Tryz.prog w=.ok (.func fn first cap) w:=fun _ _ _ _=>rfl;have q0:=h.lt;have hl:=h.2.2.2.2.2;obtain ⟨wa,hwa⟩:=nm ((w.alloc (.cells #[.int .u64 most] 25)).alloc (.cells #[.int .u64 0] 25));have hr:Rd wa b l E:=by rw[hwa];exact (h.alloc _).alloc _
 have hbw:But b w wa:=by rw[hwa];exact ((But.refl b w).alloc _).alloc _
 have hc:wa.cell? ⟨w.heap.size+1,0,none⟩=some (.int .u64 0):=by rw[hwa];simp
 have hf:wa.frozen? ⟨w.heap.size+1,0,none⟩=false:=by rw[hwa];exact World.frozen?_alloc_at _ _ _ _ (by simp)
 have hp:wa.cell? ⟨w.heap.size,0,none⟩=some (.int .u64 most):=by rw[hwa];simp
 unfold numS at hn;by_cases hE:E=0
 ·subst hE;rw[if_neg (by simp)] at hn;obtain ⟨⟨t1,t2,t3⟩,ht⟩:∃ t,numT l most=t:=⟨_,rfl⟩
  rw[ht] at hn;simp only[Prod.mk.injEq] at hn;obtain ⟨rfl,hl',rfl⟩:=hn;have HL:=hid hl';clear hl';have C:=hid (take_Num b l w.heap.size (w.heap.size+1) t2 t3 (fun w1=>w1=if t3=0 then wa.setCell ⟨w.heap.size+1,0,none⟩ (.int .u64 t1) else wa) wa hr (num_brick l most w.heap.size (w.heap.size+1) wa hl hp hc hf t1 t2 t3 ht) (kept hr (by omega)) (fun e=>numT_size (ht.trans (by rw[e]))));go_enter Tryz.func212,Tryz.ntmps212;go_wp2_with fail
  rw[← hwa];clear hwa;refine C.out.mono ?_;rintro e w2 ⟨rfl,w1,h1,tk⟩;obtain ⟨c2,b2⟩:=after hbw (Nat.le_succ _) (by omega) hc h1 (fun e=>by rw[numT_err ht e]) tk;have q2:=World.block_lt_of_cell? w2 ⟨w.heap.size+1,0,none⟩ c2;have r2:=tk.rd (kept hr (by omega) w1 h1);rw[HL.out] at r2;clear h1 tk;go_wp2;go_ret;exact ⟨rfl,r2,b2⟩
 rw[if_pos hE] at hn;simp only[Prod.mk.injEq] at hn;obtain ⟨rfl,rfl,rfl⟩:=hn;have C:=hid (fun f=>take_err b l E f wa hr hE);have q2:=World.block_lt_of_cell? wa ⟨w.heap.size+1,0,none⟩ hc;go_enter Tryz.func212,Tryz.ntmps212;go_wp2_with fail
 rw[← hwa];clear hwa;refine cp (C.out _) ?_;go_wp2;go_ret;exact ⟨rfl,hr,hbw⟩
theorem text_any (b:Nat) (l:List UInt8) (E:Int) (most:Int) (m0 : -9223372036854775808≤most) (m1:most≤9223372036854775807) (w:World) (h:Rd w b l E) (n:List UInt8) (l':List UInt8) (E':Int) (hn:textS most l E=(n,l',E')) :
  Calls Tryz.prog 211 #[.pointer (some ⟨b,0,none⟩),.int .i64 most] w fun e w'=>e=.returned (.string ⟨n.toArray⟩)∧Rd w' b l' E'∧But b w w':=by
 have hmf:∀ (fn:Fn) (first cap:Array Value) (w:World),(Instr.makeFunc fn first cap).run Tryz.prog w=.ok (.func fn first cap) w:=fun _ _ _ _=>rfl;have q0:=h.lt;have hl:=h.2.2.2.2.2;obtain ⟨wa,hwa⟩:=nm ((w.alloc (.cells #[.int .i64 most] 3)).alloc (.cells #[.string ⟨#[]⟩] 9));have hr:Rd wa b l E:=by rw[hwa];exact (h.alloc _).alloc _
 have hbw:But b w wa:=by rw[hwa];exact ((But.refl b w).alloc _).alloc _
 have hc:wa.cell? ⟨w.heap.size+1,0,none⟩=some (.string ⟨#[]⟩):=by rw[hwa];simp
 have hf:wa.frozen? ⟨w.heap.size+1,0,none⟩=false:=by rw[hwa];exact World.frozen?_alloc_at _ _ _ _ (by simp)
 have hp:wa.cell? ⟨w.heap.size,0,none⟩=some (.int .i64 most):=by rw[hwa];simp
 unfold textS at hn;by_cases hE:E=0
 ·subst hE;rw[if_neg (by simp)] at hn;obtain ⟨⟨t1,t2,t3⟩,ht⟩:∃ t,textT l most=t:=⟨_,rfl⟩
  rw[ht] at hn;simp only[Prod.mk.injEq] at hn;obtain ⟨rfl,hl',rfl⟩:=hn;have HL:=hid hl';clear hl';have C:=hid (take_Text b l w.heap.size (w.heap.size+1) t2 t3 (fun w1=>w1=if t3=0 then wa.setCell ⟨w.heap.size+1,0,none⟩ (.string ⟨t1.toArray⟩) else wa) wa hr (text_brick l most w.heap.size (w.heap.size+1) wa hl m0 m1 hp hc hf t1 t2 t3 ht) (kept hr (by omega)) (fun e=>textT_size (ht.trans (by rw[e]))));go_enter Tryz.func211,Tryz.ntmps211;go_wp2_with fail
  rw[← hwa];clear hwa;refine C.out.mono ?_;rintro e w2 ⟨rfl,w1,h1,tk⟩;obtain ⟨c2,b2⟩:=after hbw (Nat.le_succ _) (by omega) hc h1 (fun e=>by rw[textT_err ht e]) tk;have q2:=World.block_lt_of_cell? w2 ⟨w.heap.size+1,0,none⟩ c2;have r2:=tk.rd (kept hr (by omega) w1 h1);rw[HL.out] at r2;clear h1 tk;go_wp2;go_ret;exact ⟨rfl,r2,b2⟩
 rw[if_pos hE] at hn;simp only[Prod.mk.injEq] at hn;obtain ⟨rfl,rfl,rfl⟩:=hn;have C:=hid (fun f=>take_err b l E f wa hr hE);have q2:=World.block_lt_of_cell? wa ⟨w.heap.size+1,0,none⟩ hc;go_enter Tryz.func211,Tryz.ntmps211;go_wp2_with fail
 rw[← hwa];clear hwa;refine cp (C.out _) ?_;go_wp2;go_ret;exact ⟨rfl,hr,hbw⟩
theorem bool_any (b:Nat) (l:List UInt8) (E:Int) (w:World) (h:Rd w b l E) (n:Bool) (l':List UInt8) (E':Int) (hn:boolS l E=(n,l',E')) :
  Calls Tryz.prog 215 #[.pointer (some ⟨b,0,none⟩)] w fun e w'=>e=.returned (.bool n)∧Rd w' b l' E'∧But b w w':=by
 have hmf:∀ (fn:Fn) (first cap:Array Value) (w:World),(Instr.makeFunc fn first cap).run Tryz.prog w=.ok (.func fn first cap) w:=fun _ _ _ _=>rfl;have q0:=h.lt;have hl:=h.2.2.2.2.2;obtain ⟨wa,hwa⟩:=nm (w.alloc (.cells #[.bool false] 4));have hr:Rd wa b l E:=by rw[hwa];exact h.alloc _
 have hbw:But b w wa:=by rw[hwa];exact (But.refl b w).alloc _
 have hc:wa.cell? ⟨w.heap.size,0,none⟩=some (.bool false):=by rw[hwa];simp
 have hf:wa.frozen? ⟨w.heap.size,0,none⟩=false:=by rw[hwa];exact World.frozen?_alloc_at _ _ _ _ (by simp)
 unfold boolS at hn;by_cases hE:E=0
 ·subst hE;rw[if_neg (by simp)] at hn;obtain ⟨⟨t1,t2,t3⟩,ht⟩:∃ t,boolT l=t:=⟨_,rfl⟩
  rw[ht] at hn;simp only[Prod.mk.injEq] at hn;obtain ⟨rfl,hl',rfl⟩:=hn;have HL:=hid hl';clear hl';have C:=hid (take_Bool b l w.heap.size t2 t3 (fun w1=>w1=if t3=0 then wa.setCell ⟨w.heap.size,0,none⟩ (.bool t1) else wa) wa hr (bool_brick l w.heap.size wa hc hf t1 t2 t3 ht) (kept hr (by omega)) (fun e=>boolT_size (ht.trans (by rw[e]))));go_enter Tryz.func215,Tryz.ntmps215;go_wp2_with fail
  rw[← hwa];clear hwa;refine C.out.mono ?_;rintro e w2 ⟨rfl,w1,h1,tk⟩;obtain ⟨c2,b2⟩:=after hbw (Nat.le_refl _) (by omega) hc h1 (fun e=>by rw[boolT_err ht e]) tk;have q2:=World.block_lt_of_cell? w2 ⟨w.heap.size,0,none⟩ c2;have r2:=tk.rd (kept hr (by omega) w1 h1);rw[HL.out] at r2;clear h1 tk;go_wp2;go_ret;exact ⟨rfl,r2,b2⟩
 rw[if_pos hE] at hn;simp only[Prod.mk.injEq] at hn;obtain ⟨rfl,rfl,rfl⟩:=hn;have C:=hid (fun f=>take_err b l E f wa hr hE);have q2:=World.block_lt_of_cell? wa ⟨w.heap.size,0,none⟩ hc;go_enter Tryz.func215,Tryz.ntmps215;go_wp2_with fail
 rw[← hwa];clear hwa;refine cp (C.out _) ?_;go_wp2;go_ret;exact ⟨rfl,hr,hbw⟩
theorem fail_any (b:Nat) (l:List UInt8) (E E2:Int) (w:World) (h:Rd w b l E) (E':Int) (hE':E'=if E≠0 then E else E2) :
  Calls Tryz.prog 154 #[.pointer (some ⟨b,0,none⟩),.int .i64 E2] w fun e w'=>e=.returned (.tuple #[])∧Rd w' b l E'∧But b w w':=by
 have hmf:∀ (fn:Fn) (first cap:Array Value) (w:World),(Instr.makeFunc fn first cap).run Tryz.prog w=.ok (.func fn first cap) w:=fun _ _ _ _=>rfl;have q0:=h.lt;obtain ⟨wa,hwa⟩:=nm (w.alloc (.cells #[.int .i64 E2] 43));have hr:Rd wa b l E:=by rw[hwa];exact h.alloc _
 have hbw:But b w wa:=by rw[hwa];exact (But.refl b w).alloc _
 have hp:wa.cell? ⟨w.heap.size,0,none⟩=some (.int .i64 E2):=by rw[hwa];simp
 by_cases hE:E=0
 ·subst hE;rw[if_neg (by simp)] at hE';subst hE';have C:=hid (take_Fail b l w.heap.size 0 E' (fun w1=>Below wa.heap.size wa w1) wa hr (fail_brick l E' w.heap.size wa hp) (fun w1 k=>hr.below k hr.lt) (fun _=>Nat.zero_le _));go_enter Tryz.func154,Tryz.ntmps154;go_wp2_with fail
  rw[← hwa];clear hwa;refine C.out.mono ?_;rintro e w2 ⟨rfl,w1,h1,tk⟩;go_wp2;go_end0
  have r2:=tk.rd (hr.below h1 hr.lt);rw[List.drop_zero,ite_self] at r2;exact ⟨rfl,r2,(hbw.trans (But.of h1)).trans tk.but⟩
 rw[if_pos hE] at hE';subst hE';have C:=hid (fun f=>take_err b l E' f wa hr hE);go_enter Tryz.func154,Tryz.ntmps154;go_wp2_with fail
 rw[← hwa];clear hwa;refine cp (C.out _) ?_;go_wp2;go_end0
 exact ⟨rfl,hr,hbw⟩
theorem end_any (b:Nat) (l:List UInt8) (E:Int) (w:World) (h:Rd w b l E) (E':Int) (hE':endS l E=E') :
  Calls Tryz.prog 145 #[.pointer (some ⟨b,0,none⟩)] w fun e w'=>e=.returned (.int .i64 E')∧Rd w' b l E'∧But b w w':=by
 unfold endS at hE';by_cases hE:E=0
 ·subst hE;rw[if_neg (by simp)] at hE';have C:=hid (take_End b l 0 E' (fun w1=>w=w1) w h (end_brick l w E' hE'.symm) (fun w1 k=>k ▸ h) (fun _=>Nat.zero_le _));go_enter Tryz.func145,Tryz.ntmps145;go_wp2_with fail
  refine C.out.mono ?_;rintro e w2 ⟨rfl,w1,rfl,tk⟩;have r2:=tk.rd h;rw[List.drop_zero,ite_self] at r2;have X:=hid (err_any b l E' w2 r2);go_wp2_with fail
  refine cp X.out ?_;go_wp2;go_ret;exact ⟨rfl,r2,tk.but⟩
 rw[if_pos hE] at hE';subst hE';have C:=hid (fun f=>take_err b l E f w h hE);have X:=hid (err_any b l E w h);go_enter Tryz.func145,Tryz.ntmps145;go_wp2_with fail
 refine cp (C.out _) ?_;go_wp2_with fail
 refine cp X.out ?_;go_wp2;go_ret;exact ⟨rfl,h,But.refl _ _⟩
theorem int_any (b:Nat) (l:List UInt8) (E:Int) (most:Int) (m0 : -9223372036854775808≤most) (m1:most≤9223372036854775807) (w:World) (h:Rd w b l E) (n:Int) (l':List UInt8) (E':Int) (hn:intS most l E=(n,l',E')) :
  Calls Tryz.prog 254 #[.pointer (some ⟨b,0,none⟩),.int .i64 most] w fun e w'=>e=.returned (.int .i64 n)∧Rd w' b l' E'∧But b w w':=by
 unfold intS at hn;by_cases hm:most<0
 ·rw[if_pos hm] at hn;simp only[Prod.mk.injEq] at hn;obtain ⟨rfl,rfl,hE⟩:=hn;have hd:decide (most<0)=true:=decide_eq_true hm;have C:=hid (fail_any b l E 9 w h E' hE.symm);go_enter Tryz.func254,Tryz.ntmps254;go_wp2_with fail
  refine C.out.mono ?_;rintro e w2 ⟨rfl,r2,b2⟩;go_wp2;go_ret;exact ⟨rfl,r2,b2⟩
 rw[if_neg hm] at hn;have hd:decide (most<0)=false:=decide_eq_false hm;have hw:IntKind.u64.wrap most=most:=by rw[IntKind.wrap_u64];omega
 have hwn:IntKind.i64.wrap n=n:=by have:=numS_le hn (by omega);rw[IntKind.wrap_i64];omega
 have C:=hid (num_any b l E most w h n l' E' hn);go_enter Tryz.func254,Tryz.ntmps254;go_wp2_with fail
 refine C.out.mono ?_;rintro e w2 ⟨rfl,r2,b2⟩;go_wp2;go_ret;exact ⟨rfl,r2,b2⟩
theorem new_any (l:List UInt8) (w:World) (hl:l.length≤maxLen) :
  Calls Tryz.prog 144 #[l] w fun e w'=>e=.returned (.pointer (some ⟨w.heap.size,0,none⟩))∧Rd w' w.heap.size l 0∧Below w.heap.size w w':=by
 go_enter Tryz.func144,Tryz.ntmps144;go_wp2;go_ret;refine ⟨rfl,⟨by simp,by simp,by simp,World.frozen?_alloc_at _ _ _ _ (by simp),World.frozen?_alloc_at _ _ _ _ (by simp),hl⟩,balloc (Below.refl _ _) _⟩
end Wire
end
namespace Num
open RowKit
theorem info_byte:(Tryz.prog.info? 5).map (fun i=>(i.zero,i.size,i.bytes))=some (some (.int .u8 0),1,1):=by kernel_rfl
theorem byteCells_snoc (l:List UInt8) (m:Nat) (h:m<256):Lib.byteCells l++[.int .u8 (m:Int)]=Lib.byteCells (l++[UInt8.ofNat m]):=by
 rw[Lib.byteCells_append];simp[Lib.byteCells,Nat.mod_eq_of_lt h]
theorem refup_any (n:Nat) (w:World) (hn:n≤18446744073709551615) :
  CB 207 #[.int .u64 n] w (upL n):=by
 obtain ⟨i0,hi,hz0,hz1,hz2⟩:=info_parts info_byte;go_enter Tryz.func207,Tryz.ntmps207;go_wp2_with fail
 go_loopw [0,3] (fun nv v wr=>∃ k m:Nat,k≤9∧m=n / 128 ^ k∧nv=.int .u64 m∧(k=0∨m≠0)∧wr.ownsRow w.heap.size 5 1 v k (Lib.byteCells (pre n k))∧Below w.heap.size w wr) (fun nv _ _=>(intOf nv).toNat)
 case atStart=>exact ⟨0,n,by omega,by simp,rfl,.inl rfl,World.ownsRow_nil _ _ _ _,Below.refl _ _⟩
 obtain ⟨k,m,hk,hm,rfl,h0,hown,hb⟩:=hrel;have hbs:=hb.size;have hmle:m≤n:=by rw[hm];exact Nat.div_le_self _ _
 by_cases hlt:m<128
 ·have hd:decide ((m:Int)≥128)=false:=dF;have hd':=dF (p:=(128:Int)≤m);have hw:IntKind.u8.wrap (m:Int)=(m:Int):=by rw[IntKind.wrap_u8'];omega
  have hup:upL n=pre n k++[UInt8.ofNat m]:=by rw[hm];exact up_pre 9 k n hk (by rw[← hm];exact hlt) (by rw[← hm];exact h0)
  have HU:=hid hup;clear hup hm h0;go_wp2_with (at_builtin;refine wpList_append_own _ rfl _ _ 181 rfl w.heap.size 5 i0 (.int .u8 0) 1 1 Tryz.underlying181 hi hz0 hz1 hz2 rfl (by decide) _ _ _ rfl (hown.alloc _) ⟨wr.heap.size,0,none⟩ 1 1 [.int .u8 (m:Int)] rfl rfl (cell_one_new _ _ _) (by simp[Value.oneCell']) (by unfold maxLen;omega) (by omega) (by simp;omega) ?_;intro v' w1 hown' hgrow _)
  rw[byteCells_snoc _ _ (by omega),← HU.out] at hown';have hb1:=Below.grown (hb.alloc hbs _) hgrow (by simp;omega) (fun j hj=>(hown.lt _ hj).1);have hlen:k+1=(upL n).length:=by rw[HU.out,List.length_append,pre_length];rfl
  rcases hown'.2 with ⟨rfl,hc⟩ | ⟨g,cap,cur,hv,_⟩
  · omega
  subst hv;have hcv:=run_convert_bytes_back (P:=Tryz.prog) w1 181 9 5 ⟨g,0,none⟩ cap (upL n) Tryz.underlying181 Tryz.underlying5 Tryz.underlying9 (fun j hj=>by
   refine hown'.cells (g:=g) rfl j _ ?_;rw[Lib.byteCells,List.getElem?_map,List.getElem?_eq_getElem hj];rfl)
  rw[← hlen] at hcv;clear hown hown' hlen;go_wp2;rw[hcv];simp only[Result.andThen];rw[Oper.upon_value];go_wp2;go_ret;exact ⟨rfl,hb1⟩
 have hd:=dT (p:=(m:Int)≥128);have hd':=dT (p:=(128:Int)≤m);have hk8:k≤8:=by
  rcases Nat.lt_or_ge k 9 with h | h
  · omega
  obtain rfl:k=9:=by omega
  have:n / 128 ^ 9≤18446744073709551615 / 128 ^ 9:=Nat.div_le_div_right hn;have h2:18446744073709551615 / 128 ^ 9=1:=by decide
  omega
 have hw0:Int.tmod (m:Int) 128=((m % 128:Nat):Int):=by rw[Int.tmod_eq_emod_of_nonneg (by omega)];omega
 have hw1:IntKind.u8.wrap ((m % 128:Nat):Int)=((m % 128:Nat):Int):=by rw[IntKind.wrap_u8'];omega
 have hw2:IntKind.u8.wrap (((m % 128:Nat):Int)+128)=((m % 128+128:Nat):Int):=by rw[IntKind.wrap_u8'];omega
 have hw3:Int.tdiv (m:Int) 128=((m / 128:Nat):Int):=by rw[Int.tdiv_eq_ediv_of_nonneg (by omega)];omega
 have hps:pre n (k+1)=pre n k++[UInt8.ofNat (m % 128+128)]:=by rw[pre_succ,← hm]
 have hmd:m / 128=n / 128 ^ (k+1):=by rw[hm,Nat.div_div_eq_div_mul,Nat.pow_succ]
 have HP:=hid hps;have HM:=hid hmd;clear hps hmd hm h0;go_wp2_with (at_builtin;refine wpList_append_own _ rfl _ _ 181 rfl w.heap.size 5 i0 (.int .u8 0) 1 1 Tryz.underlying181 hi hz0 hz1 hz2 rfl (by decide) _ _ _ rfl (hown.alloc _) ⟨wr.heap.size,0,none⟩ 1 1 [.int .u8 ((m % 128+128:Nat):Int)] rfl rfl (cell_one_new _ _ _) (by simp[Value.oneCell']) (by unfold maxLen;omega) (by omega) (by simp;omega) ?_;intro v' w1 hown' hgrow _)
 rw[byteCells_snoc _ _ (by omega),← HP.out] at hown';have hb1:=Below.grown (hb.alloc hbs _) hgrow (by simp;omega) (fun j hj=>(hown.lt _ hj).1);exact ⟨⟨k+1,m / 128,by omega,HM.out,by rw[Int.natCast_ediv];rfl,.inr (by omega),hown',hb1⟩,by simp[intOf];omega⟩
end Num
end Go.Proofs.YtnpjkmomllkhpaaGreatDoor
