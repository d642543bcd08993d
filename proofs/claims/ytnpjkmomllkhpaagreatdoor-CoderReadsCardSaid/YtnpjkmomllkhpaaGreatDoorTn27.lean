/- PathNum. -/
import Derived.Test.YtnpjkmomllkhpaaGreatDoorTn3
import Derived.WalkSpells
import Derived.WalkLawsBesides
import Derived.Lib.Hide
set_option linter.unusedVariables false
set_option linter.unusedSimpArgs false
set_option maxRecDepth 100000
set_option maxHeartbeats 2000000
namespace Go.Proofs.YtnpjkmomllkhpaaGreatDoor
namespace Path
open RowKit
def dec:List UInt8→Nat→Option Nat
 | [],n=>some n
 | c::r,n=>if c.toNat<48∨57<c.toNat then none else dec r (10*n+(c.toNat - 48))
theorem dec_cons (c:UInt8) (r:List UInt8) (n:Nat):dec (c::r) n=if c.toNat<48∨57<c.toNat then none else dec r (10*n+(c.toNat - 48)):=rfl
def num1 (l:List UInt8):Nat :=
 if l=[]∨10<l.length∨l.head?=some 48 then 0 else match dec l 0 with
  | none=>0
  | some n=>if 1073741824<n then 0 else n
theorem num1_le (l:List UInt8):num1 l≤1073741824:=by
 unfold num1;split
 · omega
 split
 · omega
 split
 · omega
 omega
theorem number_any (l:List UInt8) (w:World) (hl:l.length≤1099511627776) :
  CP 263 #[l] w (.int .i64 (num1 l:Int)):=by
 have hsz:=Str.size_mk l;cases l with
 | nil =>
  go_enter Tryz.func263,Tryz.ntmps263;go_wp2;go_ret;exact ⟨rfl,rfl⟩
 | cons c r =>
  have hget:∀ (k:Nat) (h:k<({ data:=(c::r).toArray }:ByteArray).size),({ data:=(c::r).toArray }:ByteArray)[k]'h=(c::r)[k]'(by rw[Str.size_mk] at h;exact h):=fun _ _=>rfl;have h0:=hget 0;rw[List.length_cons] at hsz hl;by_cases h1:10<r.length+1
  ·have hv:num1 (c::r)=0:=by rw[num1,if_pos (.inr (.inl (by rw[List.length_cons];exact h1)))]
   have HV:=hid hv;have hd:decide ((10:Int)<((r.length+1:Nat):Int))=true:=dT;clear hv hget h0;go_enter Tryz.func263,Tryz.ntmps263;go_wp2;go_ret;exact ⟨by rw[HV.out];rfl,rfl⟩
  have hd:decide ((10:Int)<((r.length+1:Nat):Int))=false:=dF;by_cases h2:c=48
  ·subst h2;have hv:num1 (48::r)=0:=by rw[num1,if_pos (.inr (.inr rfl))]
   have HV:=hid hv;clear hv hget;go_enter Tryz.func263,Tryz.ntmps263;go_wp2;go_ret;exact ⟨by rw[HV.out];rfl,rfl⟩
  have hv:num1 (c::r)=match dec (c::r) 0 with | none=>0 | some n=>if 1073741824<n then 0 else n:=by
   rw[num1,if_neg (by rw[List.length_cons,List.head?_cons];simp[h2];omega)]
  have hc48:((c.toNat:Int) == 48)=false:=by
   rw[beq_eq_false_iff_ne];intro h;have:(48:UInt8).toNat=48:=rfl;exact h2 (UInt8.toNat_inj.1 (by omega))
  have HV:=hid hv;have HG:=hid hget;obtain ⟨m,hm⟩:=nm (r.length+1);rw[← hm] at hsz hd h1;have HM:=hid hm;have hm0:0<m:=by omega
  clear hv hget hm;go_enter Tryz.func263,Tryz.ntmps263;go_wp2_with fail
  go_loop [3,4,19] (fun n _ i=>∃ k v:Nat,k≤m∧i=.int .i64 k∧n=.int .i64 v∧Hid (dec (c::r) 0=dec ((c::r).drop k) v)∧v<10 ^ k) (fun _ _ i=>m - (intOf i).toNat)
  case atStart=>exact ⟨0,0,by omega,rfl,rfl,hid rfl,by decide⟩
  obtain ⟨k,v,hk,rfl,rfl,HD,hv10⟩:=hrel;have hlen:=HM.out;have hv11:v<10000000000:=by have:(10:Nat) ^ k≤10 ^ 10:=Nat.pow_le_pow_right (by omega) (by omega);omega
  by_cases hlt:k<m
  ·have hd1:decide ((k:Int)<(m:Int))=true:=dT;have hkl:k<(c::r).length:=by rw[List.length_cons];omega
   obtain ⟨x,hx⟩:=nm ((c::r)[k]'hkl);have hgk:∀ h:k<({ data:=(c::r).toArray }:ByteArray).size,({ data:=(c::r).toArray }:ByteArray)[k]'h=x:=fun h=>(HG.out k h).trans hx.symm;have hdr:(c::r).drop k=x::(c::r).drop (k+1):=by rw[List.drop_eq_getElem_cons hkl,← hx]
   have hde:=HD.out.trans ((congrArg (fun z=>dec z v) hdr).trans (dec_cons x _ v));have HDE:=hid hde;have hx256:=x.toNat_lt;have h0k:(0:Int)≤(k:Int):=by omega
   clear hx hdr hde hlen h0;by_cases hb1:x.toNat<48
   ·have hd2:decide ((x.toNat:Int)<48)=true:=dT;go_wp2;go_ret;exact ⟨by rw[HV.out,HDE.out,if_pos (.inl hb1)];rfl,rfl⟩
   have hd2:=dF (p:=(x.toNat:Int)<48);by_cases hb2:57<x.toNat
   ·have hd3:decide ((57:Int)<(x.toNat:Int))=true:=dT;have hd3':=dT (p:=(x.toNat:Int) > 57);go_wp2;go_ret;exact ⟨by rw[HV.out,HDE.out,if_pos (.inr hb2)];rfl,rfl⟩
   have hd3:=dF (p:=(57:Int)<(x.toNat:Int));have hd3':=dF (p:=(x.toNat:Int) > 57);have hw1:IntKind.u8.wrap ((x.toNat:Int) - 48)=((x.toNat - 48:Nat):Int):=by rw[IntKind.wrap_u8'];omega
   have hw2:IntKind.i64.wrap (10*(v:Int))=10*(v:Int):=by rw[IntKind.wrap_i64];omega
   have hw3:IntKind.i64.wrap (10*(v:Int)+((x.toNat - 48:Nat):Int))=((10*v+(x.toNat - 48):Nat):Int):=by rw[IntKind.wrap_i64];omega
   go_wp2;go_round
   ·exact ⟨k+1,10*v+(x.toNat - 48),by omega,by go_num,rfl,hid (by rw[HDE.out,if_neg (by omega)]),by rw[Nat.pow_succ];omega⟩
   simp[intOf];omega
  obtain rfl:k=m:=by omega
  have hde:dec (c::r) 0=some v:=HD.out.trans (by rw[List.drop_of_length_le (by rw[List.length_cons];omega)];rfl);have HDE:=hid hde;clear hde hlen h0;have hd1:=dF (p:=(k:Int)<(k:Int));by_cases hb:1073741824<v
  ·have hd2:decide ((1073741824:Int)<(v:Int))=true:=dT;have hd2':=dT (p:=(v:Int) > 1073741824);go_wp2;go_ret;exact ⟨by rw[HV.out,HDE.out];simp only;rw[if_pos hb];rfl,rfl⟩
  have hd2:=dF (p:=(1073741824:Int)<(v:Int));have hd2':=dF (p:=(v:Int) > 1073741824);go_wp2;go_ret;exact ⟨by rw[HV.out,HDE.out];simp only;rw[if_neg hb];rfl,rfl⟩
end Path
end Go.Proofs.YtnpjkmomllkhpaaGreatDoor
