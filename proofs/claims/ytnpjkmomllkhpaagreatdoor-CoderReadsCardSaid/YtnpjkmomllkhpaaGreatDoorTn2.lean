/- Num, NumTurn. -/
import Derived.Test.YtnpjkmomllkhpaaGreatDoorTn1
import Derived.WalkSpells
import Derived.WalkLawsBesides
import Derived.Deep.LoopGhost
import Derived.Lib.Hide
import Derived.Laws.Externs
set_option linter.unusedVariables false
set_option linter.unusedSimpArgs false
set_option maxRecDepth 100000
set_option maxHeartbeats 400000
namespace Go.Proofs.YtnpjkmomllkhpaaGreatDoor
namespace Num
open RowKit
theorem read_any (s:ByteArray) (w:World) (hs:s.size≤maxLen) :
  CP 251 #[.string s] w (.tuple #[.int .u64 ((rdL s.data.toList).1:Int),.int .i64 ((rdL s.data.toList).2.1:Int),.int .i64 (rdL s.data.toList).2.2]):=by
 unfold maxLen at hs;go_enter Tryz.func251,Tryz.ntmps251;go_wp2;go_step3
 go_wp2;go_step3
 go_wp2;go_loop [5,8] (fun sum c=>∃ (k sm:Nat) (x:Int),k≤10∧k≤s.size∧c=.int .i64 k∧sum=.int .u64 x∧(k<10→x=sm∧sm<128 ^ k)∧rdL s.data.toList=rd (s.data.toList.drop k) k sm) (fun _ c=>10 - (intOf c).toNat)
 case atStart=>exact ⟨0,0,0,by omega,by omega,rfl,rfl,fun _=>⟨rfl,by decide⟩,rfl⟩
 obtain ⟨k,sm,x,hk,hks,rfl,rfl,hsm,hrd⟩:=hrel;have Hrd:=hid hrd;have Hsm:=hid hsm;clear hrd hsm;by_cases h10:k<10
 ·obtain ⟨hx,hlt⟩:=Hsm.out h10;subst hx;clear Hsm;by_cases hsz:k<s.size
  ·have hne:((k:Int) == (s.size:Int))=false:=bF;obtain ⟨g,hg⟩:=nm (s[k].toNat % 128:Nat);have e1:IntKind.u64.wrap (bits BinOp.and IntKind.u8 (↑s[k].toNat) 127)=(g:Int):=by
    have:=s[k].toNat_lt;rw[u8_and _ _ (by omega) (by omega) (by omega) (by omega),IntKind.wrap_u64,hg];simp only[Int.toNat_natCast,Int.reduceToNat,nat_mask7];omega
   have Hg:=hid hg;clear hg;go_wp2
   · exact ⟨read_go s k sm g hsz h10 Hg.out Hrd.out hlt (by assumption),by simp[intOf];omega⟩
   all_goals go_ret3
   ·rw[read_over s k sm g hsz h10 Hg.out Hrd.out (by assumption) (by assumption) (by assumption)];exact ⟨rfl,rfl⟩
   ·rw[read_form s k sm g hsz h10 Hg.out Hrd.out (by assumption) (by omega) (by assumption)];exact ⟨rfl,rfl⟩
   ·have hv:=read_val s k sm g hsz h10 Hg.out Hrd.out hlt (by assumption) (fun _=>by assumption) (fun _=>by assumption);obtain rfl:k=9:=by omega
    exact ⟨ret3 (by rw[← wrap9 g (by assumption)];exact hv.1) hv.2.1 hv.2.2,rfl⟩
   ·rw[read_form s k sm g hsz h10 Hg.out Hrd.out (by assumption) (by assumption) (by assumption)];exact ⟨rfl,rfl⟩
   ·have hv:=read_val s k sm g hsz h10 Hg.out Hrd.out hlt (by assumption) (fun _=>by omega) (fun _=>by assumption);exact ⟨ret3 hv.1 hv.2.1 hv.2.2,rfl⟩
   have hv:=read_val s k sm g hsz h10 Hg.out Hrd.out hlt (by assumption) (fun _=>by omega) (fun h=>absurd h (by assumption));exact ⟨ret3 hv.1 hv.2.1 hv.2.2,rfl⟩
  obtain rfl:k=s.size:=by omega
  go_wp2;go_ret3;refine ⟨?_,rfl⟩;rw[Hrd.out,List.drop_eq_nil_of_le (by simp),rd,if_neg (by omega)];rfl
 obtain rfl:k=10:=by omega
 go_wp2;go_ret3;refine ⟨?_,rfl⟩;have e:rd (List.drop 10 s.data.toList) 10 sm=(0,0,9):=by cases List.drop 10 s.data.toList <;> simp[rd]
 rw[Hrd.out,e];rfl
theorem up_any (n:Nat) (w:World) (h2:n≤18446744073709551615) :
  CB 170 #[.int .u64 n] w (upL n):=by
 go_enter Tryz.func170,Tryz.ntmps170;go_wp2;go_step3
 go_wp2;go_step3
 go_wp2;go_loopw [0,4] (fun m sz wr=>∃ k:Nat,k≤9∧sz=.int .i64 k∧m=.int .u64 ((n / 128 ^ k:Nat):Int)∧((k=0∨n / 128 ^ k≠0))∧∃ cs:List Value,cs.length=10∧cs.take k=(pre n k).map bv∧wr=w.alloc (.cells cs.toArray 281)) (fun _ sz _=>10 - (intOf sz).toNat)
 case atStart=>exact ⟨0,by omega,rfl,by simp,.inl rfl,List.replicate 10 (.int .u8 0),rfl,rfl,rfl⟩
 obtain ⟨k,hk,rfl,rfl,h0,cs,hl,hpre,rfl⟩:=hrel;have Hpre:=hid hpre;have H0:=hid h0;clear hpre h0;obtain ⟨m,hm⟩:=nm (n / 128 ^ k:Nat);rw[← hm];have Hm:=hid hm;have hmb:m≤18446744073709551615:=by rw[hm];exact Nat.le_trans (Nat.div_le_self _ _) h2
 clear hm;obtain ⟨c0,g1⟩:∃ c0,cs[k]?=some c0:=⟨_,List.getElem?_eq_getElem (by omega)⟩
 have g2:(cs.set k (Value.int .u8 ((m:Int) % 128)))[k]?=some (Value.int .u8 ((m:Int) % 128)):=List.getElem?_set_self (by omega);have Hl:=hid hl;clear hl;have e1:bits BinOp.and IntKind.u64 (m:Int) 127 % 256=((m % 128:Nat):Int):=by
  rw[show (127:Int)=((127:Nat):Int) from rfl,u64_and_nat m 127 (by omega) (by decide),nat_mask7];omega
 have e2:bits BinOp.or IntKind.u8 ((m:Int) % 128) 128=((m % 128+128:Nat):Int):=by
  rw[show (128:Int)=((128:Nat):Int) from rfl,show ((m:Int) % (128:Nat))=((m % 128:Nat):Int) by omega,u8_or_nat (m % 128) 128 (by omega) (by decide)];congr 1
  rw[Nat.or_comm,nat_join 7 128 (m % 128) (by decide) (by omega),Nat.add_comm]
 by_cases hz:m<128
 ·have hz':((m:Int) / 128 == 0)=true:=by rw[beq_iff_eq];omega
  have hsl:∀ W,(Instr.sliceAt 281 (.pointer (some ⟨w.heap.size,0,none⟩)) none (some (.int .i64 ((k:Int)+1))) none).run Tryz.prog W=.ok (.slice (some ⟨w.heap.size,0,none⟩) (k+1) 10) W:=fun W=>by
   rw[run_sliceAt_array_h W 281 ⟨w.heap.size,0,none⟩ (by simp[Program.arrayLen,Program.elem,Tryz.underlying281]) .i64 ((k:Int)+1) (by omega) (by simp[Program.arrayLen,Tryz.underlying281];omega)];go_simp
  obtain ⟨el,ec⟩:=up_last n k m cs hk Hm.out H0.out hz Hl.out Hpre.out;have hcv:(convert 181 9 (.slice (some ⟨w.heap.size,0,none⟩) (k+1) 10)).run Tryz.prog (w.alloc (.cells (cs.set k (.int .u8 ((m:Int) % 128))).toArray 281))=.ok (.string ⟨(upL n).toArray⟩) (w.alloc (.cells (cs.set k (.int .u8 ((m:Int) % 128))).toArray 281)):=by
   have h:=run_convert_bytes_back (P:=Tryz.prog) (w.alloc (.cells (cs.set k (.int .u8 ((m:Int) % 128))).toArray 281)) 181 9 5 ⟨w.heap.size,0,none⟩ 10 (upL n) Tryz.underlying181 Tryz.underlying5 Tryz.underlying9 (fun j hj=>by
    rw[show ({ block:=w.heap.size,off:=0 }:Addr).add j=⟨w.heap.size,0+j,none⟩ from by simp[Addr.add];intro h;exact h.symm];rw[World.cell?_alloc_new,Nat.zero_add,List.getElem?_toArray];exact ec j hj)
   rw[el] at h;exact h
  clear el ec;go_wp2;rw[Exit.noGoto_ret];go_ret;exact ⟨rfl,(Below.refl _ _).alloc (Nat.le_refl _) _⟩
 have hz':((m:Int) / 128 == 0)=false:=by rw[beq_eq_false_iff_ne];omega
 go_wp2;exact ⟨up_round n k m cs _ Hm.out h2 hz Hl.out Hpre.out rfl w _,by simp[intOf];omega⟩
theorem turn_any (a:Int) (w:World) (h1 : -9223372036854775808≤a) (h2:a≤9223372036854775807) :
  CP 140 #[.int .i64 a] w (.int .u64 (turn a)):=by
 have e:bits BinOp.xor IntKind.u64 (IntKind.u64.wrap (IntKind.u64.wrap a*2)) (IntKind.u64.wrap (a / 9223372036854775808))=turn a:=turn_bits a h1 h2;go_enter Tryz.func140,Tryz.ntmps140;go_wp2;go_ret;exact ⟨rfl,rfl⟩
theorem back_any (n:Int) (w:World) (h1:0≤n) (h2:n≤18446744073709551615) :
  CP 162 #[.int .u64 n] w (.int .i64 (back n)):=by
 have e:=back_bits n h1 h2;have e1:=and1 n h1 h2;have e2:IntKind.i64.wrap (n / 2)=n / 2:=by rw[wrap_i64];split <;> omega
 go_enter Tryz.func162,Tryz.ntmps162;go_wp2;go_ret;exact ⟨rfl,rfl⟩
end Num
end Go.Proofs.YtnpjkmomllkhpaaGreatDoor
