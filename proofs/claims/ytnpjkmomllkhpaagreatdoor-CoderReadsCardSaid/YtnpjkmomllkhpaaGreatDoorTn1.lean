/- NumPlain, TextSet, ByteMap, RefRdPlain. -/
import Derived.Test.YtnpjkmomllkhpaaGreatDoorTn0
import Derived.Lib.BitFns
import Derived.Maps.OwnSet
import Derived.Maps.OwnOps
import Derived.StringKeys
import Derived.Maps.Keyed
set_option linter.unusedVariables false
set_option linter.unusedSimpArgs false
set_option maxRecDepth 100000
namespace Go.Proofs.YtnpjkmomllkhpaaGreatDoor
namespace Num
def bv (b:UInt8):Value:=.int .u8 (b.toNat:Int)
def up:Nat→Nat→List UInt8
 | 0,n=>[UInt8.ofNat n]
 | f+1,n=>if n<128 then [UInt8.ofNat n] else UInt8.ofNat (n % 128+128)::up f (n / 128)
def upL (n:Nat):List UInt8:=up 9 n
def pre (n k:Nat):List UInt8:=(List.range k).map fun j=>UInt8.ofNat (n / 128 ^ j % 128+128)
theorem pre_length (n k:Nat):(pre n k).length=k:=by simp[pre]
theorem pre_succ (n k:Nat):pre n (k+1)=pre n k++[UInt8.ofNat (n / 128 ^ k % 128+128)]:=by
 simp[pre,List.range_succ]
theorem pre_shift (n k:Nat):pre n (k+1)=UInt8.ofNat (n % 128+128)::pre (n / 128) k:=by
 simp only[pre,List.range_succ_eq_map,List.map_cons,List.map_map,Nat.pow_zero,Nat.div_one];congr 1
 refine List.map_congr_left fun j _=>?_;simp only[Function.comp,Nat.succ_eq_add_one];rw[Nat.pow_succ,Nat.mul_comm,Nat.div_div_eq_div_mul]
theorem up_pre:∀ (f k n:Nat),k≤f→n / 128 ^ k<128→(k=0∨n / 128 ^ k≠0)→up f n=pre n k++[UInt8.ofNat (n / 128 ^ k)]:=by
 intro f;induction f with
 | zero =>
  intro k n hk h _;obtain rfl:k=0:=by omega
  simp[up,pre]
 | succ f ih =>
  intro k n hk h h0;cases k with
  | zero=>simp at h;simp[up,pre,h]
  | succ k =>
   have hn:¬ n<128:=by
    intro hlt;have e:n / 128 ^ (k+1)=n / 128 / 128 ^ k:=by rw[Nat.pow_succ,Nat.mul_comm,Nat.div_div_eq_div_mul]
    rw[e,Nat.div_eq_of_lt hlt] at h0;simp at h0
   have e:n / 128 ^ (k+1)=n / 128 / 128 ^ k:=by rw[Nat.pow_succ,Nat.mul_comm,Nat.div_div_eq_div_mul]
   rw[e] at h h0 ⊢;rw[pre_shift,up,if_neg hn,ih k (n / 128) (by omega) h (by right;rcases h0 with h0 | h0;omega;exact h0)];rfl
def rd:List UInt8→Nat→Nat→Nat × Nat × Int
 | [],i,_=>if i=10 then (0,0,9) else (0,0,20)
 | c::r,i,s =>
  if i=10 then (0,0,9)
  else if 128≤c.toNat then rd r (i+1) (s+(c.toNat - 128)*128 ^ i)
  else if i=9∧1<c.toNat then (0,0,9)
  else if 0<i∧c.toNat=0 then (0,0,8)
  else (s+c.toNat*128 ^ i,i+1,0)
def rdL (l:List UInt8):Nat × Nat × Int:=rd l 0 0
theorem up_length:∀ (f n:Nat),1≤(up f n).length∧(up f n).length≤f+1:=by
 intro f;induction f with
 | zero=>intro n;simp[up]
 | succ f ih =>
  intro n;by_cases hlt:n<128
  · simp[up,hlt]
  have:=ih (n / 128);simp[up,hlt];omega
theorem upL_length (n:Nat):1≤(upL n).length∧(upL n).length≤10:=up_length 9 n
def turn (i:Int):Int:=if 0≤i then 2*i else -2*i - 1
def back (n:Int):Int:=if n % 2=0 then n / 2 else -(n / 2) - 1
theorem turn_bound (i:Int) (h1 : -9223372036854775808≤i) (h2:i≤9223372036854775807):0≤turn i∧turn i≤18446744073709551615:=by unfold turn;split <;> omega
theorem back_bound (n:Int) (h1:0≤n) (h2:n≤18446744073709551615) : -9223372036854775808≤back n∧back n≤9223372036854775807:=by unfold back;split <;> omega
theorem rd_step (c:UInt8) (r:List UInt8) (i s:Nat) (hi:i<10):rd (c::r) i s =
  if 128≤c.toNat then rd r (i+1) (s+(c.toNat - 128)*128 ^ i) else if i=9∧1<c.toNat then (0,0,9) else if 0<i∧c.toNat=0 then (0,0,8) else (s+c.toNat*128 ^ i,i+1,0):=by
 simp only[rd];rw[if_neg (by omega)]
theorem or_shift (sm k g:Nat) (hlt:sm<128 ^ k) (hk:k<10) (hg:g<128) (h9:k=9→g≤1) :
  bits BinOp.or IntKind.u64 (sm:Int) (IntKind.u64.wrap ((g:Int)*2 ^ (7*k)))=((sm+g*128 ^ k:Nat):Int):=by
 have e2:(128:Nat) ^ k=2 ^ (7*k):=by rw[Nat.pow_mul]
 have hb:g*128 ^ k<18446744073709551616:=by
  by_cases h:k=9
  · have:=h9 h;subst h;omega
  have h1:(128:Nat) ^ k≤128 ^ 8:=Nat.pow_le_pow_right (by decide) (by omega);have h2:g*128 ^ k≤127*128 ^ 8:=Nat.mul_le_mul (by omega) h1;omega
 have hs:sm<18446744073709551616:=by
  have h1:(128:Nat) ^ k≤128 ^ 9:=Nat.pow_le_pow_right (by decide) (by omega);omega
 have e3:(g:Int)*2 ^ (7*k)=((g*128 ^ k:Nat):Int):=by rw[e2];push_cast;rfl
 rw[e3,IntKind.wrap_u64,Int.emod_eq_of_lt (by omega) (by omega),u64_or_nat sm (g*128 ^ k) hs hb];congr 1
 rw[Nat.or_comm,e2,nat_join (7*k) (g*2 ^ (7*k)) sm (by simp) (by rw[← e2];exact hlt),Nat.add_comm]
theorem ret3 {a a' b b' c c':Int} (h1:a=a') (h2:b=b') (h3:c=c'):Ending.returned (.tuple #[.int .u64 a,.int .i64 b,.int .i64 c])=Ending.returned (.tuple #[.int .u64 a',.int .i64 b',.int .i64 c']):=by rw[h1,h2,h3]
theorem read_go (s:ByteArray) (k sm g:Nat) (hsz:k<s.size) (h10:k<10) (hg:g=s[k].toNat % 128) (hrd:rdL s.data.toList=rd (s.data.toList.drop k) k sm) (hlt:sm<128 ^ k)
  (hc:(128:Int)≤(s[k].toNat:Int)):∃ (k1 sm1:Nat) (x:Int),k1≤10∧k1≤s.size∧Value.int .i64 ((k:Int)+1)=.int .i64 k1 ∧
   Value.int .u64 (bits BinOp.or IntKind.u64 (sm:Int) (IntKind.u64.wrap ((g:Int)*2 ^ (7*k))))=.int .u64 x∧(k1<10→x=sm1∧sm1<128 ^ k1)∧rdL s.data.toList=rd (s.data.toList.drop k1) k1 sm1:=by
 have:=s[k].toNat_lt;refine ⟨k+1,sm+g*128 ^ k,_,by omega,by omega,rfl,rfl,fun h=>⟨or_shift sm k g hlt h10 (by omega) (by omega),?_⟩,?_⟩
 ·rw[Nat.pow_succ];have:g*128 ^ k≤127*128 ^ k:=Nat.mul_le_mul_right _ (by omega);omega
 rw[hrd,Str.drop_at s k hsz,rd_step _ _ _ _ h10,if_pos (by omega),show s[k].toNat - 128=g by omega]
theorem read_over (s:ByteArray) (k sm g:Nat) (hsz:k<s.size) (h10:k<10) (hg:g=s[k].toNat % 128) (hrd:rdL s.data.toList=rd (s.data.toList.drop k) k sm)
  (hc:(s[k].toNat:Int)<128) (h9:(k:Int)=9) (h1:(1:Int)<g):rdL s.data.toList=(0,0,9):=by
 rw[hrd,Str.drop_at s k hsz,rd_step _ _ _ _ h10,if_neg (by omega),if_pos (by omega)]
theorem read_form (s:ByteArray) (k sm g:Nat) (hsz:k<s.size) (h10:k<10) (hg:g=s[k].toNat % 128) (hrd:rdL s.data.toList=rd (s.data.toList.drop k) k sm)
  (hc:(s[k].toNat:Int)<128) (h0:0<k) (h1:((g:Int) == 0)=true):rdL s.data.toList=(0,0,8):=by
 have:g=0:=by simpa using h1
 rw[hrd,Str.drop_at s k hsz,rd_step _ _ _ _ h10,if_neg (by omega),if_neg (by omega),if_pos (by omega)]
theorem read_val (s:ByteArray) (k sm g:Nat) (hsz:k<s.size) (h10:k<10) (hg:g=s[k].toNat % 128) (hrd:rdL s.data.toList=rd (s.data.toList.drop k) k sm) (hlt:sm<128 ^ k)
  (hc:(s[k].toNat:Int)<128) (h9:k=9→(g:Int)≤1) (h0:0<k→((g:Int) == 0)=false) :
  bits BinOp.or IntKind.u64 (sm:Int) (IntKind.u64.wrap ((g:Int)*2 ^ (7*k)))=((rdL s.data.toList).1:Int)∧(k:Int)+1=((rdL s.data.toList).2.1:Int)∧(0:Int)=(rdL s.data.toList).2.2:=by
 have h0':0<k→g≠0:=fun h=>by simpa using h0 h
 rw[hrd,Str.drop_at s k hsz,rd_step _ _ _ _ h10,if_neg (by omega),if_neg (by omega),if_neg (by intro h;have:=h0' h.1;omega)];rw[or_shift sm k g hlt h10 (by omega) (by omega),show s[k].toNat=g by omega];simp
theorem wrap9 (g:Nat) (h:(g:Int)≤1):IntKind.u64.wrap ((g:Int)*2 ^ (7*9))=(g:Int)*9223372036854775808:=by
 rw[IntKind.wrap_u64,show (2:Int) ^ (7*9)=9223372036854775808 by decide];omega
theorem bits_xor_top (a:Int) (h1:0≤a) (h2:a<18446744073709551616):bits BinOp.xor IntKind.u64 a 18446744073709551615=18446744073709551615 - a:=by
 obtain ⟨n,rfl⟩:=Int.eq_ofNat_of_zero_le h1;have hx:n ^^^ 18446744073709551615=18446744073709551615 - n:=by
  have:(BitVec.ofNat 64 n ^^^ BitVec.allOnes 64).toNat=(~~~ BitVec.ofNat 64 n).toNat:=by rw[BitVec.xor_allOnes]
  rw[BitVec.toNat_xor,BitVec.toNat_not] at this;simpa [Nat.mod_eq_of_lt (show n<2 ^ 64 by omega)] using this
 have:=u64_xor_nat n 18446744073709551615 (by omega) (by decide);rw[hx] at this;refine this.trans ?_;omega
theorem turn_bits (a:Int) (h1 : -9223372036854775808≤a) (h2:a≤9223372036854775807) :
  bits BinOp.xor IntKind.u64 (IntKind.u64.wrap (IntKind.u64.wrap a*2)) (IntKind.u64.wrap (a / 9223372036854775808))=turn a:=by
 simp only[IntKind.wrap_u64];unfold turn;split
 ·rw[show a / 9223372036854775808=0 by omega];obtain ⟨n,hn⟩:=Int.eq_ofNat_of_zero_le (show 0≤a % 18446744073709551616*2 % 18446744073709551616 by omega);have:=u64_xor_nat n 0 (by omega) (by decide);rw[hn];refine this.trans ?_;rw[Nat.xor_zero];omega
 rw[show a / 9223372036854775808 % 18446744073709551616=18446744073709551615 by omega,bits_xor_top _ (by omega) (by omega)];omega
theorem and1 (n:Int) (h1:0≤n) (h2:n≤18446744073709551615):bits BinOp.and IntKind.u64 n 1=n % 2:=by
 obtain ⟨m,rfl⟩:=Int.eq_ofNat_of_zero_le h1;refine (u64_and_nat m 1 (by omega) (by decide)).trans ?_;rw[nat_mask1];omega
theorem toNat_ofInt64 (a:Int):((BitVec.ofInt 64 a).toNat:Int)=a % 18446744073709551616:=by
 rw[BitVec.toNat_ofInt];simp only[Nat.reducePow];omega
theorem wrap_i64 (m:Int):IntKind.i64.wrap m=if 9223372036854775808≤m % 18446744073709551616 then m % 18446744073709551616 - 18446744073709551616 else m % 18446744073709551616:=by
 simp[IntKind.wrap,IntKind.bits,IntKind.signed]
theorem xor_i64_zero (a:Int) (h1 : -9223372036854775808≤a) (h2:a≤9223372036854775807):bits BinOp.xor IntKind.i64 a 0=a:=by
 have e:bits BinOp.xor IntKind.i64 a 0=IntKind.i64.wrap ((BitVec.ofInt 64 a ^^^ BitVec.ofInt 64 0).toNat:Int):=rfl;have e0:BitVec.ofInt 64 0=0#64:=by decide
 rw[e,e0,BitVec.xor_zero,toNat_ofInt64,wrap_i64];split <;> omega
theorem xor_i64_neg1 (a:Int) (h1 : -9223372036854775808≤a) (h2:a≤9223372036854775807):bits BinOp.xor IntKind.i64 a (-1) = -1 - a:=by
 have e:bits BinOp.xor IntKind.i64 a (-1)=IntKind.i64.wrap ((BitVec.ofInt 64 a ^^^ BitVec.ofInt 64 (-1)).toNat:Int):=rfl;have e0:BitVec.ofInt 64 (-1)=BitVec.allOnes 64:=by decide
 have h3:=toNat_ofInt64 a;have h4:=(BitVec.ofInt 64 a).isLt;rw[e,e0,BitVec.xor_allOnes,BitVec.toNat_not,wrap_i64];split <;> omega
theorem back_bits (n:Int) (h1:0≤n) (h2:n≤18446744073709551615) :
  bits BinOp.xor IntKind.i64 (n / 2) (-(n % 2))=back n:=by
 unfold back;rcases Int.emod_two_eq n with h | h
 · rw[if_pos h,h];exact xor_i64_zero _ (by omega) (by omega)
 rw[if_neg (by omega),h,xor_i64_neg1 _ (by omega) (by omega)];omega
theorem up_round (n k m:Nat) (cs:List Value) (v:Value) (hm:m=n / 128 ^ k) (h2:n≤18446744073709551615) (hz:¬ m<128) (hl:cs.length=10) (hpre:cs.take k=(pre n k).map bv)
  (hv:v=.int .u8 ((m:Int) % 128+128)) (w:World) (T:TypeId):∃ k1:Nat,k1≤9∧Value.int .i64 ((k:Int)+1)=.int .i64 k1∧Value.int .u64 ((m:Int) / 128)=.int .u64 ((n / 128 ^ k1:Nat):Int) ∧
   (k1=0∨n / 128 ^ k1≠0)∧∃ cs1:List Value,cs1.length=10∧cs1.take k1=(pre n k1).map bv∧w.alloc (.cells (cs.set k v).toArray T)=w.alloc (.cells cs1.toArray T):=by
 have e:n / 128 ^ (k+1)=m / 128:=by rw[Nat.pow_succ,← Nat.div_div_eq_div_mul,← hm]
 have hk9:k+1≤9:=by
  rcases Nat.lt_or_ge k 9 with h | h
  · exact h
  exfalso;have h1:(128:Nat) ^ 9≤128 ^ k:=Nat.pow_le_pow_right (by decide) h;have h3:n / 128 ^ k≤n / 128 ^ 9:=Nat.div_le_div_left h1 (by decide);omega
 refine ⟨k+1,hk9,rfl,?_,?_,cs.set k v,by simpa using hl,?_,rfl⟩
 · rw[e];rfl
 · right;rw[e];omega
 rw[pre_succ,List.map_append,← hpre,List.take_succ_eq_append_getElem (by simp;omega),List.getElem_set_self,← hm,hv];rw[List.take_set_of_le (Nat.le_refl k)];congr 1
 simp[bv];omega
theorem up_last (n k m:Nat) (cs:List Value) (hk:k≤9) (hm:m=n / 128 ^ k) (h0:k=0∨n / 128 ^ k≠0) (hz:m<128) (hl:cs.length=10) (hpre:cs.take k=(pre n k).map bv) :
  (upL n).length=k+1∧∀ j (_:j<(upL n).length),(cs.set k (.int .u8 ((m:Int) % 128)))[j]?=some (.int .u8 ((upL n)[j].toNat:Int)):=by
 have e:upL n=pre n k++[UInt8.ofNat m]:=by rw[hm];exact up_pre 9 k n hk (by omega) h0
 have el:(upL n).length=k+1:=by rw[e,List.length_append,pre_length];rfl
 refine ⟨el,fun j hj=>?_⟩;have ht:(cs.set k (Value.int .u8 ((m:Int) % 128))).take (k+1)=(upL n).map bv:=by
  rw[e,List.map_append,← hpre,List.take_succ_eq_append_getElem (by simp;omega),List.getElem_set_self,List.take_set_of_le (Nat.le_refl k)];congr 1
  simp[bv];omega
 have:=congrArg (fun l=>l[j]?) ht;simp only[List.getElem?_take_of_lt (show j<k+1 by omega),List.getElem?_map,List.getElem?_eq_getElem hj] at this;exact this
def cat (l:List Nat):List UInt8:=l.flatMap upL
theorem cat_cons (n:Nat) (l:List Nat):cat (n::l)=upL n++cat l:=by simp[cat]
theorem cat_append (l m:List Nat):cat (l++m)=cat l++cat m:=by simp[cat]
theorem cat_length:∀ l:List Nat,(cat l).length≤10*l.length
 | []=>by simp[cat]
 | n::l=>by have:=cat_length l;have:=upL_length n;rw[cat_cons,List.length_append,List.length_cons];omega
theorem cat_take (l:List Nat) (k:Nat) (h:k<l.length):cat (l.take (k+1))=cat (l.take k)++upL l[k]:=by
 rw[List.take_succ_eq_append_getElem h,cat_append];simp[cat]
end Num
namespace TextSet
open RowKit Go.Maps
section
variable {P:Program} {ts ks es:TypeId}
theorem run_make (ht:P.underlying ts=some (.map ks es)) (k:IntKind) (n:Int) (w:World):(Instr.makeMap ts (some (.int k n))).run P w=.ok (.map (some w.heap.size)) (w.alloc (.map #[] 0)):=by
 simp[Instr.makeMap,run_underlying ht,asInt,asIntOf,Result.andThen]
end
end TextSet
namespace ByteMap
open RowKit Go.Maps
variable {P:Program} {ts ks es:TypeId}
def RV:Value→Option (DataW Value × List MemPlace):=fun v=>some (.held v,[])
def Is (P:Program) (ks:TypeId) (w:World) (b n:Nat) (f:Nat→Option Value):Prop :=
 ∃ D,w.ownsMap P ks RV b n D∧∀ q:Nat,q<256→Maps.has D (.int .u8 (q:Int))=(f q).isSome∧∀ v,f q=some v→∀ z,D.atKey (.int .u8 (q:Int)) z=.held v
variable {w w':World} {b n:Nat} {f:Nat→Option Value}
theorem Is.made (w:World):Is P ks (w.alloc (.map #[] 0)) w.heap.size 0 (fun _=>none):=⟨_,World.ownsMap_made _ _ _ _,fun _ _=>⟨rfl,fun _ h=>by cases h⟩⟩
theorem Is.lt (h:Is P ks w b n f):b<w.heap.size:=by
 obtain ⟨D,h1,_⟩:=h;exact World.ownsMap.lt h1
theorem Is.moved (h:Is P ks w b n f) (k:w'.heap[b]?=w.heap[b]?):Is P ks w' b n f:=by
 obtain ⟨D,⟨es,clock,hb,r⟩,h2⟩:=h;exact ⟨D,⟨es,clock,k.trans hb,r⟩,h2⟩
theorem Is.below (h:Is P ks w b n f) (k:Below w.heap.size w w'):Is P ks w' b n f:=h.moved (k.block _ h.lt)
def put (f:Nat→Option Value) (q:Nat) (v:Value):Nat→Option Value:=fun x=>if x=q then some v else f x
theorem wf8 {q:Nat} (hq:q<256):(Lit.int .u8 (q:Int)).wf=true:=by
 simp only[Lit.wf,Bool.and_eq_true,decide_eq_true_eq];exact ⟨by show (0:Int)≤_;omega,by show _≤(255:Int);omega⟩
theorem run_put (ht:P.underlying ts=some (.map ks es)) (hks:P.underlying ks=some (.int .u8)) (h:Is P ks w b n f) (hn:n<maxLen) {q:Nat} (hq:q<256) (v:Value) :
  ∃ w',(Instr.mapUpdate ts (.map (some b)) (.int .u8 (q:Int)) v).run P w=.ok () w'∧Is P ks w' b (n+1) (put f q v)∧w.grownBy w' (some b):=by
 obtain ⟨D,h1,h2⟩:=h;obtain ⟨w',hr,ho,hg⟩:=World.ownsMap.update h1 (int_keyed hks) ht hn (keyOf_int_mk hks (wf8 hq)) (val:=v) (d:=.held v) (ps:=[]) rfl;refine ⟨w',hr,⟨_,ho,fun x hx=>?_⟩,hg⟩;have hm:=World.ownsMap.isMap h1;unfold put;by_cases e:x=q
 ·subst e;rw[if_pos rfl];refine ⟨has_put_same hm (by trivial) _,fun y hy z=>?_⟩;cases hy
  exact atKey_put_same hm (by trivial) _ _
 rw[if_neg e];have hne:Lit.int .u8 (x:Int)≠Lit.int .u8 (q:Int):=fun h=>e (by simp at h;omega);refine ⟨(has_put_other hne _).trans (h2 x hx).1,fun y hy z=>?_⟩;rw[atKey_put_other hne];exact (h2 x hx).2 y hy z
theorem run_look_ok (ht:P.underlying ts=some (.map ks es)) (hks:P.underlying ks=some (.int .u8)) {z:Value} (hz:(zeroValue es).run P w=.ok z w) (h:Is P ks w b n f) {q:Nat} (hq:q<256) :
  (Instr.lookup ts (.map (some b)) (.int .u8 (q:Int)) true).run P w=.ok (.tuple #[(f q).getD z,.bool (f q).isSome]) w:=by
 obtain ⟨D,h1,h2⟩:=h;obtain ⟨v,ps,hr,hv⟩:=World.ownsMap.look_ok h1 (int_keyed hks) ht hz (zd:=.held z) (zp:=[]) rfl (keyOf_int_mk hks (wf8 hq));rw[hr,(h2 q hq).1];simp only[RV,Option.some.injEq,Prod.mk.injEq] at hv;cases hf:f q with
 | none =>
  have:=(h2 q hq).1;rw[hf] at this;rw[atKey_of_not_has this] at hv;cases hv.1;rfl
 | some y =>
  rw[(h2 q hq).2 y hf] at hv;cases hv.1;rfl
variable {ops:Array Oper} {rest:List Oper} {o:Oper} {a:Act} {Q:Exit→Act→World→Prop}
end ByteMap
namespace RefRd
open Num
def hiN:List UInt8→Nat→Nat
 | [],_=>0
 | _::_,0=>0
 | c::r,f+1=>if 128≤c.toNat then hiN r f+1 else 0
def vl (l:List UInt8):Nat→Nat→Option Nat
 | 0,n=>some n
 | i+1,n=>if (18446744073709551615 - (l.getD i 0).toNat % 128) / 128<n then none else vl l i (n*128+(l.getD i 0).toNat % 128)
def rdR (l:List UInt8):Nat × Nat × Int :=
 if hiN l 10=10 then (0,0,9) else if hiN l 10=l.length then (0,0,20) else
 match vl l (hiN l 10+1) 0 with
 | none=>(0,0,9)
 | some n=>if 0<hiN l 10∧(l.getD (hiN l 10) 0).toNat=0 then (0,0,8) else (n,hiN l 10+1,0)
def vs (l:List UInt8):Nat→Nat
 | 0=>0
 | i+1=>vs l i+(l.getD i 0).toNat % 128*128 ^ i
theorem vs_lt (l:List UInt8):∀ i,vs l i<128 ^ i
 | 0=>by simp[vs]
 | i+1=>by
  have:=vs_lt l i;have h:(l.getD i 0).toNat % 128*128 ^ i≤127*128 ^ i:=Nat.mul_le_mul_right _ (by omega);rw[vs,Nat.pow_succ];omega
theorem vl_is (l:List UInt8):∀ i n,vl l i n=if n*128 ^ i+vs l i<18446744073709551616 then some (n*128 ^ i+vs l i) else if i=0 then some n else none
 | 0,n=>by simp[vl,vs]
 | i+1,n=>by
  have e:n*128 ^ (i+1)+vs l (i+1)=(n*128+(l.getD i 0).toNat % 128)*128 ^ i+vs l i:=by
   rw[vs,Nat.pow_succ,Nat.add_mul,Nat.mul_assoc,Nat.mul_comm 128];omega
  have hp:1≤128 ^ i:=Nat.one_le_pow _ _ (by omega);have hd:(l.getD i 0).toNat % 128<128:=Nat.mod_lt _ (by omega);rw[vl,e,vl_is l i];generalize (l.getD i 0).toNat % 128=d at *;by_cases h:(18446744073709551615 - d) / 128<n
  ·have h1:18446744073709551616≤(n*128+d)*1:=by omega
   have:=Nat.le_trans h1 (Nat.mul_le_mul_left _ hp);rw[if_pos h,if_neg (by omega),if_neg (by omega)]
  rw[if_neg h];by_cases h2:(n*128+d)*128 ^ i+vs l i<18446744073709551616
  · rw[if_pos h2,if_pos h2]
  cases i with
  | zero=>simp[vs] at h2;omega
  | succ i=>rw[if_neg h2,if_neg h2,if_neg (show ¬ i+1=0 by omega),if_neg (show ¬ i+1+1=0 by omega)]
theorem hi_at:∀ (l:List UInt8) (f i:Nat),i<hiN l f→128≤(l.getD i 0).toNat
 | [],_,i,h=>by simp[hiN] at h
 | _::_,0,i,h=>by simp[hiN] at h
 | c::r,f+1,i,h=>by
  rw[hiN] at h;split at h
  ·cases i with
   | zero=>assumption
   | succ i=>exact hi_at r f i (by omega)
  omega
theorem hi_le:∀ (l:List UInt8) (f:Nat),hiN l f≤l.length∧hiN l f≤f
 | [],_=>by simp[hiN]
 | _::_,0=>by simp[hiN]
 | c::r,f+1=>by
  have:=hi_le r f;rw[hiN,List.length_cons];split <;> omega
theorem hi_end:∀ (l:List UInt8) (f:Nat),hiN l f<l.length→hiN l f<f→(l.getD (hiN l f) 0).toNat<128
 | [],_,h,_=>by simp[hiN] at h
 | _::_,0,_,h=>by simp[hiN] at h
 | c::r,f+1,h1,h2=>by
  rw[hiN] at h1 h2 ⊢;split
  ·rename_i q
   rw[if_pos q] at h1 h2;rw[List.length_cons] at h1;exact hi_end r f (by omega) (by omega)
  show c.toNat<128;omega
theorem rd_hi (l:List UInt8):∀ j,j≤hiN l 10→rdL l=rd (l.drop j) j (vs l j)
 | 0,_=>rfl
 | j+1,h=>by
  have h1:=hi_le l 10;have h2:=hi_at l 10 j (by omega);rw[rd_hi l j (by omega),List.drop_eq_getElem_cons (show j<l.length by omega),rd,if_neg (by omega)];have e:l.getD j 0=l[j]'(by omega):=by rw[List.getD_eq_getElem?_getD,List.getElem?_eq_getElem (by omega)];rfl
  have hc:=(l.getD j 0).toNat_lt;rw[e] at h2 hc;rw[if_pos h2,vs,e,show l[j].toNat % 128=l[j].toNat - 128 by omega]
theorem rdR_eq (l:List UInt8):rdR l=rdL l:=by
 have h1:=hi_le l 10;have h2:=hi_end l 10;have h3:=rd_hi l (hiN l 10) (Nat.le_refl _);unfold rdR;generalize hiN l 10=k at *;rw[h3];have h4:=vs_lt l k;by_cases k10:k=10
 ·rw[if_pos k10,k10];cases l.drop 10 <;> simp[rd]
 rw[if_neg k10];by_cases kl:k=l.length
 · rw[if_pos kl,List.drop_eq_nil_of_le (by omega),rd,if_neg k10]
 have hc:=h2 (by omega) (by omega);have e:l.getD k 0=l[k]'(by omega):=by rw[List.getD_eq_getElem?_getD,List.getElem?_eq_getElem (by omega)];rfl
 rw[if_neg kl,vl_is,Nat.zero_mul,Nat.zero_add,List.drop_eq_getElem_cons (show k<l.length by omega),rd,if_neg k10,← e,if_neg (show ¬ 128≤(l.getD k 0).toNat by omega),vs,Nat.mod_eq_of_lt hc,if_neg (show ¬ k+1=0 by omega)];generalize (l.getD k 0).toNat=c at *;by_cases h9:k=9∧1<c
 ·rw[if_neg,if_pos h9];obtain ⟨rfl,h9⟩:=h9;omega
 rw[if_neg h9,if_pos];by_cases k9:k=9
 · subst k9;omega
 have:c*128 ^ k≤127*128 ^ k:=Nat.mul_le_mul_right _ (by omega);have:128 ^ k≤128 ^ 8:=Nat.pow_le_pow_right (by omega) (by omega);omega
theorem rdL_lt (l:List UInt8):(rdL l).1≤18446744073709551615:=by
 rw[← rdR_eq];unfold rdR;rw[vl_is,Nat.zero_mul,Nat.zero_add,if_neg (show ¬ hiN l 10+1=0 by omega)];by_cases h:vs l (hiN l 10+1)<18446744073709551616
 ·rw[if_pos h];dsimp only;repeat' split
  all_goals (simp only;omega)
 rw[if_neg h];dsimp only;repeat' split
 all_goals (simp only;omega)
end RefRd
end Go.Proofs.YtnpjkmomllkhpaaGreatDoor
