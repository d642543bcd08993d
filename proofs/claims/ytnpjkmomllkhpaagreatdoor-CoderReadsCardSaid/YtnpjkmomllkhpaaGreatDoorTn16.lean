/- Text, TextRef, TextRef2, TextRef3. -/
import Derived.Test.YtnpjkmomllkhpaaGreatDoorTn5
import Derived.WalkSpells
import Derived.WalkLawsBesides
import Derived.Lib.Hide
import Derived.Lib.OthersKept
import Derived.Deep.LoopGhost
import Derived.BigQuiet
import Derived.Deep.QuietTactic
set_option linter.unusedVariables false
set_option linter.unusedSimpArgs false
set_option maxRecDepth 100000
set_option maxHeartbeats 2000000
namespace Go.Proofs.YtnpjkmomllkhpaaGreatDoor
namespace Text
open RowKit
theorem broken_no (s:ByteArray) (i x k:Nat) (w:World) (hi:i≤s.size) (hr:rune (s.data.toList.drop i)=some (x,k)) :
  CP 169 #[.string s,.int .i64 i,.int .i32 x] w (.bool false):=by
 have Hr:=hid hr;clear hr;by_cases hx:x=65533
 ·subst hx;have hp:Lib.hasPrefix (s.extract i s.size).data.toList [239,191,189]=true:=by
   obtain ⟨_,_,t,h⟩:=rune_some Hr.out;rw[prefix_iff,Str.extract_toList,List.take_of_length_le (by simp)];exact ⟨t,h⟩
  have Hp:=hid hp;clear hp;go_enter Tryz.func169,Tryz.ntmps169;go_wp2_with fail
  refine cr (Tryz.strings_HasPrefix _ _ _) fun w' hw=>?_;subst hw;rw[Hp.out];go_wp2;go_ret;exact ⟨rfl,rfl⟩
 have hx':=bF (a:=x) (b:=65533);go_enter Tryz.func169,Tryz.ntmps169;go_wp2;go_ret;exact ⟨rfl,rfl⟩
theorem broken_yes (s:ByteArray) (i:Nat) (w:World) (hi:i≤s.size) (hr:rune (s.data.toList.drop i)=none) :
  CP 169 #[.string s,.int .i64 i,.int .i32 65533] w (.bool true):=by
 have hp:Lib.hasPrefix (s.extract i s.size).data.toList [239,191,189]=false:=by
  cases h:Lib.hasPrefix (s.extract i s.size).data.toList [239,191,189] with
  | false=>rfl
  | true =>
   rw[prefix_iff,Str.extract_toList,List.take_of_length_le (by simp)] at h;obtain ⟨t,h⟩:=h;rw[h,rune_enc 65533 t (by decide)] at hr;cases hr
 have Hp:=hid hp;clear hp hr;go_enter Tryz.func169,Tryz.ntmps169;go_wp2_with fail
 refine cr (Tryz.strings_HasPrefix _ _ _) fun w' hw=>?_;subst hw;rw[Hp.out];go_wp2;go_ret;exact ⟨rfl,rfl⟩
theorem sign_any (x:Nat) (w:World) :
  CP 167 #[.int .i32 x] w (.int .u8 (sgn x)):=by
 by_cases h1:x=35
 ·subst h1;go_enter Tryz.func167,Tryz.ntmps167;go_wp2;go_ret;exact ⟨rfl,rfl⟩
 by_cases h2:x=64
 ·subst h2;go_enter Tryz.func167,Tryz.ntmps167;go_wp2;go_ret;exact ⟨rfl,rfl⟩
 by_cases h3:x=61
 ·subst h3;go_enter Tryz.func167,Tryz.ntmps167;go_wp2;go_ret;exact ⟨rfl,rfl⟩
 have e:sgn x=0:=by simp[sgn,h1,h2,h3]
 have e1:=bF (a:=x) (b:=35);have e2:=bF (a:=x) (b:=64);have e3:=bF (a:=x) (b:=61);rw[e];clear e;go_enter Tryz.func167,Tryz.ntmps167;go_wp2;go_ret;exact ⟨rfl,rfl⟩
theorem control_any (x:Nat) (w:World) :
  CP 168 #[.int .i32 x] w (ctrl x):=by
 by_cases h1:x<32
 ·have b1:decide ((x:Int)<32)=true:=by simp;omega
  rw[show ctrl x=true by simp[ctrl,h1]];go_enter Tryz.func168,Tryz.ntmps168;go_wp2;go_ret;exact ⟨rfl,rfl⟩
 have b1:decide ((x:Int)<32)=false:=by simp;omega
 by_cases h2:127≤x
 ·have b2:decide ((127:Int)≤(x:Int))=true:=by simp;omega
  by_cases h3:x≤159
  ·have b3:decide ((x:Int)≤159)=true:=by simp;omega
   rw[show ctrl x=true by simp[ctrl,h2,h3]];go_enter Tryz.func168,Tryz.ntmps168;go_wp2;go_ret;exact ⟨rfl,rfl⟩
  have b3:decide ((x:Int)≤159)=false:=by simp;omega
  rw[show ctrl x=false by simp[ctrl,h1,h3]];go_enter Tryz.func168,Tryz.ntmps168;go_wp2;go_ret;exact ⟨rfl,rfl⟩
 have b2:decide ((127:Int)≤(x:Int))=false:=by simp;omega
 rw[show ctrl x=false by simp[ctrl,h1,h2]];go_enter Tryz.func168,Tryz.ntmps168;go_wp2;go_ret;exact ⟨rfl,rfl⟩
theorem kind_any (s:ByteArray) (w:World) (_hs:s.size≤maxLen) :
  CB 97 #[.string s] w (.int .u8 (kind (runes s.data.toList))):=by
 go_enter Tryz.func97,Tryz.ntmps97;go_wp2;go_loopw [3,4] (fun kd n wr=>∃ (xs:List Nat) (pos:Nat),At s xs pos∧Good xs∧kd=.int .u8 (hd xs)∧n=.int .i64 xs.length∧wr=w.iter s pos) (fun _ _ wr=>s.size - wr.iterPos w.heap.size)
 case atStart=>exact ⟨[],0,At.zero s,Good.nil,rfl,rfl,rfl⟩
 obtain ⟨xs,pos,hat,hgood,rfl,rfl,rfl⟩:=hrel;obtain ⟨hle1,hle2⟩:=hat.le;by_cases hp:pos<s.size
 ·rcases hat.next hp with ⟨x,k,hd',hr,hat',hk,hx⟩ | ⟨hd',hr,hn⟩
  ·have hnx:∀ ty,(Instr.next (.pointer (some ⟨w.heap.size,0,none⟩)) true ty).run Tryz.prog (w.iter s pos)=_:=fun ty=>run_next_any w s pos ty hp;rw[hd'] at hnx;simp only at hnx;have Hr:=hid hr;clear hr hd'
   obtain ⟨kd,hkd⟩:=nm (hd (xs++[x]));have hkle:=hd_le (xs++[x]);rw[← hkd] at hkle;have Hk:=hid hkd;have hb:=fun h=>kind_bad hat' h;have hgs:=fun h1 h2 h3=>Good.snoc hgood h1 h2 h3 (x:=x);have Hb:=hid hb;have Hg:=hid hgs;clear hb hgs;by_cases h0:xs=[]
   ·subst h0;have Hs:=hid (show kd=sgn x from Hk.out);clear hkd;by_cases hk0:kd=0
    ·subst hk0;go_wp2_with fail
     refine cp (sign_any x _) ?_;rw[← Hs.out];go_wp2_with fail
     go_ret;rw[Hb.out (.inl Hk.out.symm)];exact ⟨rfl,(Below.refl _ _).alloc (Nat.le_refl _) _⟩
    have hk1:=bF (a:=kd) (b:=0);cases hc:ctrl x with
    | true =>
     have Hc:=hid hc;clear hc;go_wp2_with fail
     refine cp (sign_any x _) ?_;rw[← Hs.out];go_wp2_with fail
     refine cp (control_any x _) ?_;rw[Hc.out];go_wp2_with fail
     go_ret;rw[Hb.out (.inr (.inr Hc.out))];exact ⟨rfl,(Below.refl _ _).alloc (Nat.le_refl _) _⟩
    | false =>
     have Hc:=hid hc;clear hc;go_wp2_with fail
     refine cp (sign_any x _) ?_;rw[← Hs.out];go_wp2_with fail
     refine cp (control_any x _) ?_;rw[Hc.out];go_wp2_with fail
     refine cp (broken_no s pos x k _ hle2 Hr.out) ?_;go_wp2;exact ⟨⟨[]++[x],pos+k,hat',Hg.out (by rw[← Hk.out];exact hk0) (by simp) Hc.out,by rw[← Hk.out],rfl,rfl⟩,by simp;omega⟩
   have hl0:((xs.length:Int) == 0)=false:=by rw[beq_eq_false_iff_ne];have:=List.length_pos_iff.2 h0;omega
   have hk0:kd≠0:=by rw[hkd,hd_append h0];rcases hgood.2.2 with h | h;exact absurd h h0;exact h
   have hk1:=bF (a:=kd) (b:=0);rw[show hd xs=kd by rw[hkd,hd_append h0]];have hl64:=hgood.1;clear hkd hgood;by_cases h64:xs.length=64
   ·have h64':((xs.length:Int) == 64)=true:=bT;have H64:=hid h64;clear h64;go_wp2;go_ret;rw[Hb.out (.inr (.inl H64.out))];exact ⟨rfl,(Below.refl _ _).alloc (Nat.le_refl _) _⟩
   have h64':((xs.length:Int) == 64)=false:=bF;cases hc:ctrl x with
   | true =>
    have Hc:=hid hc;clear hc;go_wp2_with fail
    refine cp (control_any x _) ?_;rw[Hc.out];go_wp2_with fail
    go_ret;rw[Hb.out (.inr (.inr Hc.out))];exact ⟨rfl,(Below.refl _ _).alloc (Nat.le_refl _) _⟩
   | false =>
    have Hc:=hid hc;clear hc;go_wp2_with fail
    refine cp (control_any x _) ?_;rw[Hc.out];go_wp2_with fail
    refine cp (broken_no s pos x k _ hle2 Hr.out) ?_;go_wp2;exact ⟨⟨xs++[x],pos+k,hat',Hg.out (by rw[← Hk.out];exact hk0) h64 Hc.out,by rw[← Hk.out],by rw[List.length_append,List.length_singleton];go_num,rfl⟩,by simp;omega⟩
  have hnx:∀ ty,(Instr.next (.pointer (some ⟨w.heap.size,0,none⟩)) true ty).run Tryz.prog (w.iter s pos)=_:=fun ty=>run_next_any w s pos ty hp;rw[hd'] at hnx;simp only at hnx;have Hr:=hid hr;have Hn:=hid hn;clear hr hn hd';have c1:sgn 65533=0:=by decide
  have c2:ctrl 65533=false:=by decide
  have C1:=hid c1;have C2:=hid c2;clear c1 c2;by_cases h0:xs=[]
  ·subst h0;go_wp2_with fail
   refine cp (sign_any 65533 _) ?_;rw[C1.out];go_wp2;go_ret;rw[Hn.out];exact ⟨rfl,(Below.refl _ _).alloc (Nat.le_refl _) _⟩
  have hl0:((xs.length:Int) == 0)=false:=by rw[beq_eq_false_iff_ne];have:=List.length_pos_iff.2 h0;omega
  have hle3:=hd_le xs;have hk1:((hd xs:Int) == 0)=false:=by rw[beq_eq_false_iff_ne];rcases hgood.2.2 with h | h;exact absurd h h0;omega
  by_cases h64:xs.length=64
  ·have h64':((xs.length:Int) == 64)=true:=bT;have H64:=hid h64;clear h64;go_wp2;go_ret;rw[Hn.out];exact ⟨rfl,(Below.refl _ _).alloc (Nat.le_refl _) _⟩
  have h64':((xs.length:Int) == 64)=false:=bF;go_wp2_with fail
  refine cp (control_any 65533 _) ?_;rw[C2.out];go_wp2_with fail
  refine cp (broken_yes s pos _ hle2 Hr.out) ?_;go_wp2;go_ret;rw[Hn.out];exact ⟨rfl,(Below.refl _ _).alloc (Nat.le_refl _) _⟩
 have hnx:∀ ty,(Instr.next (.pointer (some ⟨w.heap.size,0,none⟩)) true ty).run Tryz.prog (w.iter s pos)=_:=fun ty=>run_next_end w s pos ty hp;have Hl:=hid (hat.last hp);have Hg:=hid hgood;clear hgood;go_wp2;go_ret;rw[Hl.out,Hg.out.kind];exact ⟨rfl,(Below.refl _ _).alloc (Nat.le_refl _) _⟩
theorem key_any (s:ByteArray) (w:World) (hs:s.size≤maxLen) :
  CB 139 #[.string s] w (!(kind (runes s.data.toList) == 0)):=by
 have h:=kind_any s w hs;obtain ⟨k,hk⟩:=nm (kind (runes s.data.toList));rw[← hk] at h ⊢;have H:=hid h;clear h hk;by_cases h0:k=0
 ·subst h0;go_enter Tryz.func139,Tryz.ntmps139;go_wp2_with fail
  refine cr H.out fun w' hb=>?_;go_wp2;go_ret;exact ⟨rfl,hb⟩
 have h1:(k == 0)=false:=by rw[beq_eq_false_iff_ne];omega
 have h2:((k:Int) != 0)=true:=by rw[bne_iff_ne];omega
 rw[h1];go_enter Tryz.func139,Tryz.ntmps139;go_wp2_with fail
 refine cr H.out fun w' hb=>?_;go_wp2;go_ret;exact ⟨rfl,hb⟩
theorem byte_at {s:ByteArray} {c:UInt8} {r:List UInt8} (h:s.data.toList=c::r) {k:Nat} (hk:k<s.size) (h1:1≤k) (h2:k - 1<r.length):s[k]=r[k - 1]:=by
 have e:s[k]=s.data.toList[k]'(by rw[← Str.size_eq];exact hk):=by simp;rfl
 rw[e];have:∀ (l:List UInt8) (hl:l=c::r) (hk:k<l.length),l[k]=r[k - 1]:=by
  rintro l rfl hk;obtain ⟨j,rfl⟩:∃ j,k=j+1:=⟨k - 1,by omega⟩
  rfl
 exact this _ h _
theorem read_two (s:ByteArray) (w:World) (hs:s.size≤2 ^ 63 - 1) (hsz:0<s.size) (hne:s.toList.isEmpty=false) (r:List UInt8) (hrl:r.length+1=s.size) (Hd:Hid (s.data.toList=s[0]::r)) (k1:192≤s[0].toNat) (k2:s[0].toNat<224) :
  CP 206 #[.string s] w (.tuple #[.int .i64 ((got (rune (s[0]::r))).1:Int),.int .i64 ((got (rune (s[0]::r))).2:Int)]):=by
 have hlt:=s[0].toNat_lt;rw[rune_two s[0] r ⟨by omega,by omega⟩];obtain ⟨x0,hx0⟩:=nm (s[0].toNat - 192);have hx1:x0<32:=by omega
 have hx2:(s[0].toNat:Int) - 192=(x0:Int):=by omega
 rw[← hx0];have Hx0:=hid hx0;clear hx0;have b0:decide ((s[0].toNat:Int)<128)=false:=by simp;omega
 have b1:decide ((192:Int)≤(s[0].toNat:Int))=true:=by simp;omega
 have b2:decide ((s[0].toNat:Int)<224)=true:=by simp;omega
 by_cases hlen:r.length<2 - 1
 ·rw[runeC_short hlen];go_enter Tryz.func206,Tryz.ntmps206;go_wp2;go_ret2;exact ⟨rfl,rfl⟩
 have bl:decide ((s.size:Int)<2)=false:=by simp;omega
 go_enter Tryz.func206,Tryz.ntmps206;go_wp2;go_loop [6,8] (fun x i=>∃ (k y:Nat),1≤k∧k≤2∧i=.int .i64 k∧x=.int .i64 y∧Step r x0 k y) (fun _ i=>2 - (intOf i).toNat)
 case atStart=>exact ⟨1,x0,by omega,by omega,rfl,rfl,Step.one r x0⟩
 obtain ⟨k,y,hk1,hk2,rfl,rfl,hst⟩:=hrel;have hyl:=hst.le hx1 (by omega);by_cases hk:k<2
 ·have hget:s[k]'(by omega)=r[k - 1]'(by omega):=byte_at Hd.out (by omega) hk1 (by omega);have hclt:=(s[k]'(by omega)).toNat_lt;by_cases hc:Cont (s[k]'(by omega))
  ·have hnext:=hst.next hk1 (by omega) (by rw[← hget];exact hc);rw[← hget] at hnext;have Hnext:=hid hnext;unfold Cont at hc;obtain ⟨hc1,hc2⟩:=hc;clear hget hst hnext;go_wp2;exact ⟨⟨k+1,_,by omega,by omega,by go_num,congrArg (Value.int .i64) (by omega),Hnext.out⟩,by simp[intOf];omega⟩
  have hbad:=hst.bad (n:=2) (least:=128) hk1 (by omega) (by omega) (by rw[← hget];exact hc);have Hbad:=hid hbad;clear hget hst hbad;by_cases hc1:(s[k]'(by omega)).toNat<128
  ·go_wp2;go_ret2;rw[Hbad.out];exact ⟨rfl,rfl⟩
  have hc2:192≤(s[k]'(by omega)).toNat:=by unfold Cont at hc;omega
  go_wp2;go_ret2;rw[Hbad.out];exact ⟨rfl,rfl⟩
 obtain rfl:k=2:=by omega
 have hlast:=hst.last (least:=128) (by omega);have Hlast:=hid hlast;clear hst hlast;by_cases hy:128≤y∧Scalar y
 ·have hy2:=hy.2;obtain ⟨hy1,_⟩:=hy;unfold Scalar at hy2;have hv:(if 128≤y∧Scalar y then some (y,2) else none)=some (y,2):=if_pos ⟨hy1,hy2⟩;have Hv:=hid hv;clear hv;rcases hy2 with hy2 | ⟨hy2,hy3⟩
  ·go_wp2;go_ret2;rw[Hlast.out,Hv.out];exact ⟨rfl,rfl⟩
  go_wp2;go_ret2;rw[Hlast.out,Hv.out];exact ⟨rfl,rfl⟩
 have hv:(if 128≤y∧Scalar y then some (y,2) else none)=none:=if_neg hy;have Hv:=hid hv;clear hv;unfold Scalar at hy;by_cases hy1:y<128
 ·go_wp2;go_ret2;rw[Hlast.out,Hv.out];exact ⟨rfl,rfl⟩
 by_cases hy2:1114111<y
 ·go_wp2;go_ret2;rw[Hlast.out,Hv.out];exact ⟨rfl,rfl⟩
 have hy3:55296≤y:=by omega
 have hy4:y≤57343:=by omega
 go_wp2;go_ret2;rw[Hlast.out,Hv.out];exact ⟨rfl,rfl⟩
theorem read_three (s:ByteArray) (w:World) (hs:s.size≤2 ^ 63 - 1) (hsz:0<s.size) (hne:s.toList.isEmpty=false) (r:List UInt8) (hrl:r.length+1=s.size) (Hd:Hid (s.data.toList=s[0]::r)) (k1:224≤s[0].toNat) (k2:s[0].toNat<240) :
  CP 206 #[.string s] w (.tuple #[.int .i64 ((got (rune (s[0]::r))).1:Int),.int .i64 ((got (rune (s[0]::r))).2:Int)]):=by
 have hlt:=s[0].toNat_lt;rw[rune_three s[0] r ⟨by omega,by omega⟩];obtain ⟨x0,hx0⟩:=nm (s[0].toNat - 224);have hx1:x0<32:=by omega
 have hx2:(s[0].toNat:Int) - 224=(x0:Int):=by omega
 rw[← hx0];have Hx0:=hid hx0;clear hx0;have b0:decide ((s[0].toNat:Int)<128)=false:=by simp;omega
 have b1:decide ((192:Int)≤(s[0].toNat:Int))=true:=by simp;omega
 have b2:decide ((s[0].toNat:Int)<224)=false:=by simp;omega
 have b3:decide ((224:Int)≤(s[0].toNat:Int))=true:=by simp;omega
 have b4:decide ((s[0].toNat:Int)<240)=true:=by simp;omega
 by_cases hlen:r.length<3 - 1
 ·rw[runeC_short hlen];go_enter Tryz.func206,Tryz.ntmps206;go_wp2;go_ret2;exact ⟨rfl,rfl⟩
 have bl:decide ((s.size:Int)<3)=false:=by simp;omega
 go_enter Tryz.func206,Tryz.ntmps206;go_wp2;go_loop [6,8] (fun x i=>∃ (k y:Nat),1≤k∧k≤3∧i=.int .i64 k∧x=.int .i64 y∧Step r x0 k y) (fun _ i=>3 - (intOf i).toNat)
 case atStart=>exact ⟨1,x0,by omega,by omega,rfl,rfl,Step.one r x0⟩
 obtain ⟨k,y,hk1,hk2,rfl,rfl,hst⟩:=hrel;have hyl:=hst.le hx1 (by omega);by_cases hk:k<3
 ·have hget:s[k]'(by omega)=r[k - 1]'(by omega):=byte_at Hd.out (by omega) hk1 (by omega);have hclt:=(s[k]'(by omega)).toNat_lt;by_cases hc:Cont (s[k]'(by omega))
  ·have hnext:=hst.next hk1 (by omega) (by rw[← hget];exact hc);rw[← hget] at hnext;have Hnext:=hid hnext;unfold Cont at hc;obtain ⟨hc1,hc2⟩:=hc;clear hget hst hnext;go_wp2;exact ⟨⟨k+1,_,by omega,by omega,by go_num,congrArg (Value.int .i64) (by omega),Hnext.out⟩,by simp[intOf];omega⟩
  have hbad:=hst.bad (n:=3) (least:=2048) hk1 (by omega) (by omega) (by rw[← hget];exact hc);have Hbad:=hid hbad;clear hget hst hbad;by_cases hc1:(s[k]'(by omega)).toNat<128
  ·go_wp2;go_ret2;rw[Hbad.out];exact ⟨rfl,rfl⟩
  have hc2:192≤(s[k]'(by omega)).toNat:=by unfold Cont at hc;omega
  go_wp2;go_ret2;rw[Hbad.out];exact ⟨rfl,rfl⟩
 obtain rfl:k=3:=by omega
 have hlast:=hst.last (least:=2048) (by omega);have Hlast:=hid hlast;clear hst hlast;by_cases hy:2048≤y∧Scalar y
 ·have hy2:=hy.2;obtain ⟨hy1,_⟩:=hy;unfold Scalar at hy2;have hv:(if 2048≤y∧Scalar y then some (y,3) else none)=some (y,3):=if_pos ⟨hy1,hy2⟩;have Hv:=hid hv;clear hv;rcases hy2 with hy2 | ⟨hy2,hy3⟩
  ·go_wp2;go_ret2;rw[Hlast.out,Hv.out];exact ⟨rfl,rfl⟩
  go_wp2;go_ret2;rw[Hlast.out,Hv.out];exact ⟨rfl,rfl⟩
 have hv:(if 2048≤y∧Scalar y then some (y,3) else none)=none:=if_neg hy;have Hv:=hid hv;clear hv;unfold Scalar at hy;by_cases hy1:y<2048
 ·go_wp2;go_ret2;rw[Hlast.out,Hv.out];exact ⟨rfl,rfl⟩
 by_cases hy2:1114111<y
 ·go_wp2;go_ret2;rw[Hlast.out,Hv.out];exact ⟨rfl,rfl⟩
 have hy3:55296≤y:=by omega
 have hy4:y≤57343:=by omega
 go_wp2;go_ret2;rw[Hlast.out,Hv.out];exact ⟨rfl,rfl⟩
theorem read_four (s:ByteArray) (w:World) (hs:s.size≤2 ^ 63 - 1) (hsz:0<s.size) (hne:s.toList.isEmpty=false) (r:List UInt8) (hrl:r.length+1=s.size) (Hd:Hid (s.data.toList=s[0]::r)) (k1:240≤s[0].toNat) (k2:s[0].toNat<248) :
  CP 206 #[.string s] w (.tuple #[.int .i64 ((got (rune (s[0]::r))).1:Int),.int .i64 ((got (rune (s[0]::r))).2:Int)]):=by
 have hlt:=s[0].toNat_lt;rw[rune_four s[0] r ⟨by omega,by omega⟩];obtain ⟨x0,hx0⟩:=nm (s[0].toNat - 240);have hx1:x0<32:=by omega
 have hx2:(s[0].toNat:Int) - 240=(x0:Int):=by omega
 rw[← hx0];have Hx0:=hid hx0;clear hx0;have b0:decide ((s[0].toNat:Int)<128)=false:=by simp;omega
 have b1:decide ((192:Int)≤(s[0].toNat:Int))=true:=by simp;omega
 have b2:decide ((s[0].toNat:Int)<224)=false:=by simp;omega
 have b3:decide ((224:Int)≤(s[0].toNat:Int))=true:=by simp;omega
 have b4:decide ((s[0].toNat:Int)<240)=false:=by simp;omega
 have b5:decide ((240:Int)≤(s[0].toNat:Int))=true:=by simp;omega
 have b6:decide ((s[0].toNat:Int)<248)=true:=by simp;omega
 by_cases hlen:r.length<4 - 1
 ·rw[runeC_short hlen];go_enter Tryz.func206,Tryz.ntmps206;go_wp2;go_ret2;exact ⟨rfl,rfl⟩
 have bl:decide ((s.size:Int)<4)=false:=by simp;omega
 go_enter Tryz.func206,Tryz.ntmps206;go_wp2;go_loop [6,8] (fun x i=>∃ (k y:Nat),1≤k∧k≤4∧i=.int .i64 k∧x=.int .i64 y∧Step r x0 k y) (fun _ i=>4 - (intOf i).toNat)
 case atStart=>exact ⟨1,x0,by omega,by omega,rfl,rfl,Step.one r x0⟩
 obtain ⟨k,y,hk1,hk2,rfl,rfl,hst⟩:=hrel;have hyl:=hst.le hx1 (by omega);by_cases hk:k<4
 ·have hget:s[k]'(by omega)=r[k - 1]'(by omega):=byte_at Hd.out (by omega) hk1 (by omega);have hclt:=(s[k]'(by omega)).toNat_lt;by_cases hc:Cont (s[k]'(by omega))
  ·have hnext:=hst.next hk1 (by omega) (by rw[← hget];exact hc);rw[← hget] at hnext;have Hnext:=hid hnext;unfold Cont at hc;obtain ⟨hc1,hc2⟩:=hc;clear hget hst hnext;go_wp2;exact ⟨⟨k+1,_,by omega,by omega,by go_num,congrArg (Value.int .i64) (by omega),Hnext.out⟩,by simp[intOf];omega⟩
  have hbad:=hst.bad (n:=4) (least:=65536) hk1 (by omega) (by omega) (by rw[← hget];exact hc);have Hbad:=hid hbad;clear hget hst hbad;by_cases hc1:(s[k]'(by omega)).toNat<128
  ·go_wp2;go_ret2;rw[Hbad.out];exact ⟨rfl,rfl⟩
  have hc2:192≤(s[k]'(by omega)).toNat:=by unfold Cont at hc;omega
  go_wp2;go_ret2;rw[Hbad.out];exact ⟨rfl,rfl⟩
 obtain rfl:k=4:=by omega
 have hlast:=hst.last (least:=65536) (by omega);have Hlast:=hid hlast;clear hst hlast;by_cases hy:65536≤y∧Scalar y
 ·have hy2:=hy.2;obtain ⟨hy1,_⟩:=hy;unfold Scalar at hy2;have hv:(if 65536≤y∧Scalar y then some (y,4) else none)=some (y,4):=if_pos ⟨hy1,hy2⟩;have Hv:=hid hv;clear hv;rcases hy2 with hy2 | ⟨hy2,hy3⟩
  · exfalso;omega
  go_wp2;go_ret2;rw[Hlast.out,Hv.out];exact ⟨rfl,rfl⟩
 have hv:(if 65536≤y∧Scalar y then some (y,4) else none)=none:=if_neg hy;have Hv:=hid hv;clear hv;unfold Scalar at hy;by_cases hy1:y<65536
 ·go_wp2;go_ret2;rw[Hlast.out,Hv.out];exact ⟨rfl,rfl⟩
 by_cases hy2:1114111<y
 ·go_wp2;go_ret2;rw[Hlast.out,Hv.out];exact ⟨rfl,rfl⟩
 exfalso;omega
theorem read_any (s:ByteArray) (w:World) (hs:s.size≤maxLen) :
  CP 206 #[.string s] w (.tuple #[.int .i64 ((got (rune s.data.toList)).1:Int),.int .i64 ((got (rune s.data.toList)).2:Int)]):=by
 unfold maxLen at hs;by_cases h0:s.size=0
 ·obtain rfl:s=⟨#[]⟩:=Str.ext (List.length_eq_zero_iff.1 (by rw[← Str.size_eq];exact h0));go_enter Tryz.func206,Tryz.ntmps206;go_wp2;go_ret2;exact ⟨rfl,rfl⟩
 have hsz:0<s.size:=by omega
 have hd:=Str.drop_at s 0 hsz;rw[List.drop_zero] at hd;have hne:s.toList.isEmpty=false:=by rw[Lib.toList_data,List.isEmpty_eq_false_iff,ne_eq,← List.length_eq_zero_iff,← Str.size_eq];exact h0
 have hlt:=s[0].toNat_lt;obtain ⟨r,hr⟩:=nm (s.data.toList.drop (0+1));rw[← hr] at hd;have hrl:r.length+1=s.size:=by rw[Str.size_eq,hd];simp
 have Hd:=hid hd;rw[hd];clear hd h0 hr;by_cases k0:s[0].toNat<128
 ·have e:=rune_low s[0] r k0;rw[e];clear e;go_enter Tryz.func206,Tryz.ntmps206;go_wp2;go_ret2;exact ⟨rfl,rfl⟩
 by_cases k1:s[0].toNat<192
 ·rw[rune_bad s[0] r (by omega) (.inl k1)];go_enter Tryz.func206,Tryz.ntmps206;go_wp2;go_ret2;exact ⟨rfl,rfl⟩
 by_cases k2:s[0].toNat<224
 · exact read_two s w hs hsz hne r hrl Hd (by omega) k2
 by_cases k3:s[0].toNat<240
 · exact read_three s w hs hsz hne r hrl Hd (by omega) k3
 by_cases k4:s[0].toNat<248
 · exact read_four s w hs hsz hne r hrl Hd (by omega) k4
 rw[rune_bad s[0] r (by omega) (.inr (by omega))];go_enter Tryz.func206,Tryz.ntmps206;go_wp2;go_ret2;exact ⟨rfl,rfl⟩
theorem info_int:(Tryz.prog.info? 3).map (fun i=>(i.zero,i.size,i.bytes))=some (some (.int .i64 0),1,8):=by kernel_rfl
def ints (xs:List Nat):List Value:=xs.map fun (x:Nat)=>Value.int .i64 (x:Int)
theorem ints_snoc (xs:List Nat) (x:Nat):ints xs++[Value.int .i64 (x:Int)]=ints (xs++[x]):=by simp[ints]
theorem ints_at (xs:List Nat) (j:Nat) (h:j<xs.length):(ints xs)[j]?=some (Value.int .i64 (xs[j]:Int)):=by simp[ints,h]
def RunesPost (xs:List Nat) (w:World) (e:Ending) (w':World):Prop :=
 ∃ v,e=.returned (.tuple #[v,.bool true])∧w'.ownsRow w.heap.size 3 1 v xs.length (ints xs)∧Below w.heap.size w w'
def Rest (s:ByteArray) (xs:List Nat) (t:ByteArray):Prop:=(∀ x ∈ xs,Scalar x)∧s.data.toList=cat xs++t.data.toList
theorem Rest.zero (s:ByteArray):Rest s [] s:=⟨(fun x hx=>by cases hx),rfl⟩
theorem Rest.le {s t:ByteArray} {xs:List Nat} (h:Rest s xs t):xs.length+t.size≤s.size:=by
 have h1:=cat_len xs;have h2:=congrArg List.length h.2;rw[List.length_append,← Str.size_eq,← Str.size_eq] at h2;omega
theorem Rest.next {s t:ByteArray} {xs:List Nat} (h:Rest s xs t) {x k:Nat} (hr:rune t.data.toList=some (x,k)):Rest s (xs++[x]) (t.extract k t.size)∧1≤k∧k≤t.size∧x≤1114111:=by
 obtain ⟨g1,g2,u,g3⟩:=rune_some hr;have ge:=enc_length x;have hl:=congrArg List.length g3;rw[List.length_append,← Str.size_eq] at hl;refine ⟨⟨?_,?_⟩,by omega,by omega,by unfold Scalar at g1;omega⟩
 ·intro y hy;rcases List.mem_append.1 hy with hy | hy
  · exact h.1 y hy
  rw[List.mem_singleton.1 hy];exact g1
 rw[Str.extract_toList,List.take_of_length_le (by simp),cat_append,List.append_assoc,h.2];congr 1
 rw[show cat [x]=enc x by simp[cat],g2];conv=>lhs;rw[g3]
 rw[g3,List.drop_left]
theorem Rest.stop {s t:ByteArray} {xs:List Nat} (h:Rest s xs t) (hr:rune t.data.toList=none) (ht:t.size≠0):runes s.data.toList=none:=by
 rw[h.2,runes_behind xs _ h.1,rune_none hr (by intro e;rw[Str.size_eq,e] at ht;exact ht rfl)];rfl
theorem Rest.last {s t:ByteArray} {xs:List Nat} (h:Rest s xs t) (ht:t.size=0):runes s.data.toList=some xs:=by
 have e:t.data.toList=[]:=List.length_eq_zero_iff.1 (by rw[← Str.size_eq];exact ht);rw[h.2,e,List.append_nil];exact runes_cat xs h.1
def Runes2 (s:ByteArray) (w:World) (e:Ending) (w':World):Prop :=
 match runes s.data.toList with
 | none=>e=.returned (.tuple #[.slice none 0 0,.bool false])∧Below w.heap.size w w'
 | some xs=>RunesPost xs w e w'
theorem runes2_any (s:ByteArray) (w:World) (hs:s.size≤65536) :
  Calls Tryz.prog 141 #[.string s] w (Runes2 s w):=by
 obtain ⟨i0,hi,hz0,hz1,hz2⟩:=info_parts info_int;go_enter Tryz.func141,Tryz.ntmps141;go_wp2;go_loopw [0,4] (fun sv v wr=>∃ (xs:List Nat) (t:ByteArray),Rest s xs t∧sv=.string t∧wr.ownsRow w.heap.size 3 1 v xs.length (ints xs)∧Below w.heap.size w wr) (fun sv _ _=>match sv with | .string t=>t.size | _=>0)
 case atStart=>exact ⟨[],s,Rest.zero s,rfl,World.ownsRow_nil _ _ _ _,Below.refl _ _⟩
 obtain ⟨xs,t,hrest,rfl,hown,hb⟩:=hrel;have hle:=hrest.le;by_cases h0:t.size=0
 ·have he:(!t.toList.isEmpty)=false:=by
   have e:t.data.toList=[]:=List.length_eq_zero_iff.1 (by rw[← Str.size_eq];exact h0);rw[Lib.toList_data,e];rfl
  have Hl:=hid (hrest.last h0);clear h0;go_wp2;go_ret2;unfold Runes2;rw[Hl.out];exact ⟨_,rfl,hown,hb⟩
 have he:(!t.toList.isEmpty)=true:=by
  rw[Lib.toList_data];cases h:t.data.toList with
  | nil=>rw[Str.size_eq,h] at h0;exact absurd rfl h0
  | cons _ _=>rfl
 cases hr:rune t.data.toList with
 | none =>
  have hn:=hrest.stop hr h0;have hrd:=read_any t wr (by unfold maxLen;omega);rw[hr] at hrd;have Hrd:=hid hrd;have Hn:=hid hn;clear hrd hn hr;go_wp2_with fail
  refine cp Hrd.out ?_;dsimp only[got,Option.getD];go_wp2;go_ret2;unfold Runes2;rw[Hn.out];exact ⟨rfl,hb⟩
 | some y =>
  obtain ⟨x,k⟩:=y;obtain ⟨hrest',hk1,hk2,hx⟩:=hrest.next hr;have hrd:=read_any t wr (by unfold maxLen;omega);rw[hr] at hrd;have Hrd:=hid hrd;have hk0:=bF (a:=k) (b:=0);clear hrd hr;go_wp2_with fail
  refine cp Hrd.out ?_;dsimp only[got,Option.getD];have hbs:=hb.size;go_wp2_with (at_builtin;refine wpList_append_own _ rfl _ _ 197 rfl w.heap.size 3 i0 (.int .i64 0) 1 8 Tryz.underlying197 hi hz0 hz1 hz2 rfl (by decide) _ _ _ rfl (hown.alloc _) ⟨wr.heap.size,0,none⟩ 1 1 [.int .i64 (x:Int)] rfl rfl (cell_one_new _ _ _) (by simp[Value.oneCell']) (by unfold maxLen;omega) (by omega) (by simp;omega) ?_;intro v' w1 hown' hgrow _)
  rw[ints_snoc] at hown';refine ⟨⟨xs++[x],_,hrest',rfl,by rw[List.length_append,List.length_singleton];exact hown',Below.grown (hb.alloc hbs _) hgrow (by simp;omega) (fun j hj=>(hown.lt _ hj).1)⟩,?_⟩;show (t.extract k t.size).size<t.size
  rw[ByteArray.size_extract];omega
theorem ownsRow_at {w:World} {B:Nat} {e:TypeId} {g cap n:Nat} {xs:List Value} (h:w.ownsRow B e 1 (.slice (some ⟨g,0,none⟩) n cap) n xs) (j:Nat) (u:Value) (hj:xs[j]?=some u):w.cell? ⟨g,j,none⟩=some u:=by
 have:=h.cells (g:=g) rfl j u hj;rw[Go.WideShapes.add_plain,Nat.zero_add] at this;exact this
theorem refkind_any (s:ByteArray) (w:World) (hs:s.size≤65536) :
  CB 61 #[.string s] w (.int .u8 (kind (runes s.data.toList))):=by
 have h:=runes2_any s w hs;unfold Runes2 at h;cases hr:runes s.data.toList with
 | none =>
  rw[hr] at h;have H:=hid h;clear h hr;go_enter Tryz.func61,Tryz.ntmps61;go_wp2_with fail
  refine cr H.out fun w' hb=>?_;go_wp2;go_ret;exact ⟨rfl,hb⟩
 | some xs =>
  rw[hr] at h;have hl:=(runes_some hr).1;have hc:=cat_len xs;have hsz:xs.length≤65536:=by rw[← hl,← Str.size_eq] at hc;omega
  have hsc:∀ x ∈ xs,x≤1114111:=fun x hx=>by have:=(runes_some hr).2 x hx;unfold Scalar at this;omega
  have H:=hid h;clear h hr hl hc;go_enter Tryz.func61,Tryz.ntmps61;go_wp2_with fail
  refine H.out.mono ?_;rintro e w' ⟨v,rfl,hown,hb⟩;rcases hown.2 with ⟨rfl,hn⟩ | ⟨g,cap,cur,rfl,_,_,hncap,hcapm,_⟩
  ·obtain rfl:xs=[]:=List.length_eq_zero_iff.1 hn;clear hown;go_wp2;go_ret;exact ⟨rfl,hb⟩
  by_cases h1:xs.length<1
  ·obtain rfl:xs=[]:=List.length_eq_zero_iff.1 (by omega);clear hown;go_wp2;go_ret;exact ⟨rfl,hb⟩
  by_cases h2:64<xs.length
  ·have hk:kind (some xs)=0:=by show (if _ then _ else _)=_;rw[if_neg (by intro h;omega)]
   have Hk:=hid hk;clear hown hk;go_wp2;go_ret;rw[Hk.out];exact ⟨rfl,hb⟩
  have Hown:=hid hown;unfold maxLen at hcapm;clear hown;go_wp2;go_loop [5] (fun i=>∃ k:Nat,k≤xs.length∧i=.int .i64 k∧∀ x ∈ xs.take k,ctrl x=false) (fun i=>xs.length - (intOf i).toNat)
  case atStart=>exact ⟨0,by omega,rfl,by simp⟩
  obtain ⟨k,hk,rfl,hall⟩:=hrel;have Hall:=hid hall;clear hall;by_cases hlt:k<xs.length
  ·have hcell:=ownsRow_at Hown.out k _ (ints_at xs k hlt);have hxle:=hsc xs[k] (List.getElem_mem _);obtain ⟨x,hx⟩:∃ x,xs[k]=x:=⟨_,rfl⟩
   rw[hx] at hcell hxle;have Hx:=hid hx;clear hx hsc;cases hc:ctrl x with
   | true =>
    have hbad:kind (some xs)=0:=by
     show (if _ then _ else _)=_
     rw[if_neg];intro h;have:=h.2 xs[k] (List.getElem_mem _);rw[Hx.out,hc] at this;cases this
    have Hbad:=hid hbad;clear hbad;have hc':x<32∨(127≤x∧x≤159):=by simpa [ctrl] using hc
    clear hc;rcases hc' with hc | ⟨hc,hc'⟩
    ·go_wp2;go_ret;rw[Hbad.out];exact ⟨rfl,hb⟩
    have hc0:¬ x<32:=by omega
    go_wp2;go_ret;rw[Hbad.out];exact ⟨rfl,hb⟩
   | false =>
    have hnext:∀ y ∈ xs.take (k+1),ctrl y=false:=by
     rw[List.take_succ_eq_append_getElem hlt];intro y hy;rcases List.mem_append.1 hy with hy | hy
     · exact Hall.out y hy
     rw[List.mem_singleton.1 hy,Hx.out];exact hc
    have Hnext:=hid hnext;have hc':¬ x<32∧(127≤x→159<x):=by simpa [ctrl] using hc
    obtain ⟨hc0,hc1⟩:=hc';clear hc hnext;by_cases h127:127≤x
    ·have hc2:=hc1 h127;clear hc1;go_wp2;exact ⟨⟨k+1,by omega,by go_num,Hnext.out⟩,by simp[intOf];omega⟩
    clear hc1;go_wp2;exact ⟨⟨k+1,by omega,by go_num,Hnext.out⟩,by simp[intOf];omega⟩
  obtain rfl:k=xs.length:=by omega
  have hcell:=ownsRow_at Hown.out 0 _ (ints_at xs 0 (by omega));have hxle:=hsc xs[0] (List.getElem_mem _);have hkd:=kind_all xs (by omega) (by omega) Hall.out;obtain ⟨x,hx⟩:∃ x,xs[0]=x:=⟨_,rfl⟩
  rw[hx] at hcell hxle hkd;have Hkd:=hid hkd;clear hx hsc hkd;by_cases k1:x=35
  ·subst k1;go_wp2;go_ret;rw[Hkd.out];exact ⟨rfl,hb⟩
  by_cases k2:x=64
  ·subst k2;go_wp2;go_ret;rw[Hkd.out];exact ⟨rfl,hb⟩
  by_cases k3:x=61
  ·subst k3;go_wp2;go_ret;rw[Hkd.out];exact ⟨rfl,hb⟩
  have e:sgn x=0:=by simp[sgn,k1,k2,k3]
  have e1:=bF (a:=x) (b:=35);have e2:=bF (a:=x) (b:=64);have e3:=bF (a:=x) (b:=61);have E:=hid e;clear e;go_wp2;go_ret;rw[Hkd.out,E.out];exact ⟨rfl,hb⟩
end Text
end Go.Proofs.YtnpjkmomllkhpaaGreatDoor
