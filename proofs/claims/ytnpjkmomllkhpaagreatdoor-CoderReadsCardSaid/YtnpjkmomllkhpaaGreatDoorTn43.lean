/- RefReads, RefReadMs, ReadLaw, CoderReadsWalk. -/
import Derived.Test.YtnpjkmomllkhpaaGreatDoorTn39
import Derived.Test.YtnpjkmomllkhpaaGreatDoorTn41
import Derived.Test.YtnpjkmomllkhpaaGreatDoorTn42
set_option linter.unusedVariables false
set_option linter.unusedSimpArgs false
set_option maxRecDepth 100000
set_option maxHeartbeats 40000000
namespace Go.Proofs.YtnpjkmomllkhpaaGreatDoor
namespace RTake
open RowKit YtnpjkmomllkhpaaGreatDoor.Mark Num Wire Bag Coder Taker Mem RefWrite
theorem RB.new (w:World) (s:List UInt8) (hs:s.length≤65536):∃ b W,b=w.heap.size∧W=w.alloc (.cells #[s,.int .i64 0] 127)∧Hid (RB W b s 0) :=
 ⟨_,_,rfl,rfl,⟨s,Box.new w [s,.int .i64 0] _ (by simp),hs,fun _=>rfl⟩⟩
theorem Box.mk (w:World) (vs:List Value) (T:TypeId) (hv:vs≠[]:=by simp):∃ b W,b=w.heap.size∧W=w.alloc (.cells vs.toArray T)∧Hid (Box W b vs):=⟨_,_,rfl,rfl,Box.new w vs T hv⟩
theorem back_any (n:Nat) (w:World) (hn:n≤18446744073709551615):CP 87 #[n] w (.int .i64 (back (n:Nat))):=by
 by_cases h:n % 2=0
 ·have e1:((n:Int) % 2 == 0)=true:=bT;have e2:IntKind.i64.wrap ((n:Int) / 2)=back (n:Nat):=by rw[show back (n:Nat)=(n:Int) / 2 by unfold back;rw[if_pos (by omega)],Str.wrap_i64];omega
  clear h;go_enter Tryz.func87,Tryz.ntmps87;go_wp2;go_ret;exact ⟨rfl,rfl⟩
 have e1:((n:Int) % 2 == 0)=false:=bF;have e2:IntKind.i64.wrap ((n:Int) / 2)=(n:Int) / 2:=by rw[Str.wrap_i64];omega
 have e3:IntKind.i64.wrap (-((n:Int) / 2)) = -((n:Int) / 2):=by rw[Str.wrap_i64];omega
 have e4:IntKind.i64.wrap (-((n:Int) / 2) - 1)=back (n:Nat):=by rw[show back (n:Nat) = -((n:Int) / 2) - 1 by unfold back;rw[if_neg (by omega)],Str.wrap_i64];omega
 clear h;go_enter Tryz.func87,Tryz.ntmps87;go_wp2;go_ret;exact ⟨rfl,rfl⟩
def okR (l':List UInt8) (E':Int) (m:Bool) (t s:List UInt8):Bool:=okS l' E' m && decide (t=s)
theorem okR_is (l':List UInt8) (E':Int) (m:Bool) (t s:List UInt8):okR l' E' m t s=decide (endS l' E'=0∧outE m=0∧outS m t=s):=by
 unfold okR okS;cases m
 ·rw[Bool.and_false,Bool.false_and];exact (decide_eq_false fun h=>absurd h.2.1 (by decide)).symm
 rw[Bool.and_true,← Bool.decide_and];exact decide_eq_decide.2 ⟨fun h=>⟨h.1,rfl,h.2⟩,fun h=>⟨h.1,h.2.2⟩⟩
theorem three {e f:Int} {t s:List UInt8} (h:¬ (e=0∧f=0∧t=s)):(e != 0)=true∨((e != 0)=false∧(f != 0)=true)∨((e != 0)=false∧(f != 0)=false∧(t != s)=true∧(t == s)=false):=by
 by_cases h1:e=0
 ·have q1:(e != 0)=false:=by rw[h1];rfl
  by_cases h2:f=0
  ·have h3:t≠s:=fun h3=>h ⟨h1,h2,h3⟩;exact .inr (.inr ⟨q1,by rw[h2];rfl,by rw[bne_iff_ne];exact h3,by rw[beq_eq_false_iff_ne];exact h3⟩)
  exact .inr (.inl ⟨q1,by rw[bne_iff_ne];exact h2⟩)
 exact .inl (by rw[bne_iff_ne];exact h1)
theorem flat2_len {α β:Type} {f:α→List β} (N:Nat):∀ (L:List α),(∀ x ∈ L,(f x).length≤N)→(L.flatMap f).length≤L.length*N
 | [],_=>by simp
 | x::L,h=>by
  rw[List.flatMap_cons,List.length_append,List.length_cons,Nat.add_mul];have h1:=h x (List.mem_cons_self ..);have h2:=flat2_len N L fun y hy=>h y (List.mem_cons_of_mem _ hy);omega
theorem dots_fit {x:RE} (h:FitE x.e):(x.j.flatMap RI.d).length≤549755813888:=by
 have:=flat2_len (f:=RI.d) 65537 x.j (fun y hy=>(h.i.2 y.it (List.mem_map.2 ⟨y,hy,rfl⟩)).2.1);have e:x.e.i.length=x.j.length:=List.length_map ..;have h1:=h.i.1;have h2:x.j.length*65537≤65537*65537:=Nat.mul_le_mul_right _ (by omega);omega
theorem sfit {x:RS} (h:FitS x.s):RefMay.SFit x:=⟨h.fine,fun y hy=>(h.e.2 y.e (List.mem_map.2 ⟨y,hy,rfl⟩)).k,fun y hy=>dots_fit (h.e.2 y.e (List.mem_map.2 ⟨y,hy,rfl⟩))⟩
theorem pruned_fit {x:RS} (h:FitS x.s):(x.p.flatMap tx).length≤1099511627776:=by
 have h1:=flat_len tx 65546 x.p (fun m hm=>by have:=h.p.2 m hm;have:=tx_len m;omega);have h2:x.p.length≤65537:=h.p.1;have h3:x.p.length*65546≤65537*65546:=Nat.mul_le_mul_right _ h2;omega
theorem readEntry_any (s:List UInt8) (w:World) (hs:s.length≤4096) (y:Coder.E) (l':List UInt8) (E':Int) (hn:entryG cntS zR s 0=(y,l',E')) :
  Calls Tryz.prog 20 #[s] w fun e w'=>∃ x:RE,e=.returned (.tuple #[.agg x,.int .i64 (errS (okR l' E' (mayE y) (en y) s))])∧x.e=pickS (okR l' E' (mayE y) (en y) s) y RE.zero.e∧OwnE w' w.heap.size x∧Below w.heap.size w w':=by
 have HF:=entryR_fit cnt_eats (by omega) hn;have hsl:=entryR_slim cnt_eats cnt_slim _ _ _ _ _ hn;have HSL:Hid ((en y).length≤65536):=hid (by dsimp only at hsl;split at hsl <;> omega);obtain ⟨q,hq⟩:=nm (okR l' E' (mayE y) (en y) s);rw[← hq];have HQ:=hid hq;clear hq hsl;go_enter Tryz.func20,Tryz.ntmps20;go_upto_region 1 with (fail)
 obtain ⟨bz,W,hbz,hW,Z⟩:=Box.mk w [.string ⟨#[]⟩,.slice none 0 0,.slice none 0 0,.slice none 0 0,.int .u64 0,.string ⟨#[]⟩,.bool false] 29;rw[← hW,← hbz];have hb:Below w.heap.size w W:=by rw[hW];exact balloc (Below.refl _ _) _
 have NZ:Hid (bz<W.heap.size∧w.heap.size≤bz):=hid (by rw[hW,World.size_alloc];omega);clear hW hbz;go_upto_region 2 with (fail)
 obtain ⟨b,W1,hbb,hW1,R⟩:=RB.new W s (by omega);rw[← hW1,← hbb];replace Z:=hid (show Box W1 bz _ by rw[hW1];exact Z.out.alloc _);replace hb:Below w.heap.size w W1:=by rw[hW1];exact balloc hb _
 have N1:Hid (bz≠b∧w.heap.size≤b∧b<W1.heap.size∧bz<W1.heap.size∧w.heap.size≤W1.heap.size∧w.heap.size≤bz):=hid (by have:=NZ.out;rw[hW1,World.size_alloc];omega);clear hW1 hbb NZ;go_wp2_with fail
 refine (entry_any b _ _ _ R.out (by omega) _ _ _ hn).mono ?_;rintro e w2 ⟨x,rfl,hx,ox,r,k⟩;replace Z:=hid (Z.out.but k N1.out.1);replace hb:=But.below hb k N1.out.2.1 hb.size;have R:=hid r;have OX:=hid ox;have N2:Hid (W1.heap.size≤w2.heap.size):=hid k.size;subst hx;clear r k ox hn;go_upto_region 3 with (fail)
 obtain ⟨be,w3,hbe,hw3,BE⟩:=Box.mk w2 x 29;rw[← hw3,← hbe];have k:Below w2.heap.size w2 w3:=by rw[hw3];exact balloc (Below.refl _ _) _
 have NN:Hid (bz≠b∧be≠b∧w.heap.size≤b∧b<W1.heap.size∧bz<W1.heap.size∧w.heap.size≤W1.heap.size∧w.heap.size≤bz):=hid (by have:=N1.out;have:=N2.out;omega);replace Z:=hid (Z.out.below k);replace R:=hid (R.out.below k);replace hb:=bstep hb k;replace OX:=hid (OwnE.but OX.out (But.of k) NN.out.2.2.2.1);clear k hw3 hbe N1 N2;obtain ⟨c0,c1,c2,c3,c4,c5,c6⟩:=al7 BE.out.at;have C:=hid (fun W (o:OwnE W W1.heap.size x)=>refEntry x W o.inner (FitE.ok HF) HF.k (dots_fit HF) (Nat.le_trans HSL.out (by decide)));obtain ⟨f,hf⟩:=nm (outE (mayE x.e));obtain ⟨t,ht⟩:=nm (outS (mayE x.e) (en x.e));have C:Hid (∀ W,OwnE W W1.heap.size x→CB 10 #[.agg x] W (.tuple #[t,.int .i64 f])):=hid (fun W o=>by rw[hf,ht];exact C.out W o);have HQ:q=decide (endS l' E'=0∧f=0∧t=s):=by rw[HQ.out,okR_is,hf,ht]
 clear hf ht HF HSL;go_wp2_with fail
 refine cr (C.out _ OX.out) fun w4 k=>?_;replace Z:=hid (Z.out.below k);replace R:=hid (R.out.below k);replace BE:=hid (BE.out.below k);replace hb:=bstep hb k;replace OX:=hid (OwnE.but OX.out (But.of k) NN.out.2.2.2.1);clear k C c0 c1 c2 c3 c4 c5 c6;go_wp2_with fail
 obtain ⟨e0,he0⟩:=nm (endS l' E');refine (end_any b _ _ _ R.out _ he0.symm).mono ?_;rintro e w5 ⟨rfl,k⟩;replace Z:=hid (Z.out.but k NN.out.1);replace BE:=hid (BE.out.but k NN.out.2.1);replace hb:=But.below hb k NN.out.2.2.1 hb.size;replace OX:=hid (OwnE.but OX.out k NN.out.2.2.2.1);rw[← he0] at HQ;replace HQ:=hid HQ;clear k R he0;obtain ⟨c0,c1,c2,c3,c4,c5,c6⟩:=al7 BE.out.at;obtain ⟨v0,v1,v2,v3,v4,v5,v6⟩:=al7 Z.out.at;have z:=Z.out.2.2;by_cases hg:e0=0∧f=0∧t=s
 ·have HG:Hid (q=true):=hid (by rw[HQ.out,decide_eq_true hg]);obtain ⟨rfl,rfl,rfl⟩:=hg;clear HQ;go_wp2;refine bodyPost_ret (v:=.tuple #[.agg #[x.k,.slice x.sa x.s.length x.sc,.slice x.ca x.c.length x.cc,.slice x.ia x.j.length x.ic,x.l.s,x.l.t,x.l.g],.int .i64 0]) (by simp[results,Tryz.results20,go_sem,v0,v1,v2,v3,v4,v5,v6]) rfl ?_;rw[HG.out];exact ⟨x,rfl,rfl,OwnE.base (OwnE.but OX.out (b:=bz) (by repeat (first | refine But.set ?_ _ (by rfl) _ | exact But.refl bz w5)) NN.out.2.2.2.2.1) NN.out.2.2.2.2.2.1,(by repeat (first | refine bset ?_ NN.out.2.2.2.2.2.2 _ | exact hb))⟩
 have HG:Hid (q=false):=hid (by rw[HQ.out,decide_eq_false hg]);have h3:=three hg;clear hg HQ;rcases h3 with d1 | ⟨d1,d2⟩ | ⟨d1,d2,d3,d4⟩
 all_goals
  go_wp2;refine bodyPost_ret (v:=.tuple #[.agg #[.string ⟨#[]⟩,.slice none 0 0,.slice none 0 0,.slice none 0 0,.int .u64 0,.string ⟨#[]⟩,.bool false],.int .i64 8]) (by simp[results,Tryz.results20,go_sem,v0,v1,v2,v3,v4,v5,v6]) rfl ?_;rw[HG.out];exact ⟨RE.zero,rfl,rfl,own_zero _ _,(by repeat (first | refine bset ?_ NN.out.2.2.2.2.2.2 _ | exact hb))⟩
theorem readState_any (s:List UInt8) (w:World) (hs:s.length≤4096) (y:S) (l':List UInt8) (E':Int) (hn:stateG cntS zR s 0=(y,l',E')) :
  Calls Tryz.prog 22 #[s] w fun e w'=>∃ x:RS,e=.returned (.tuple #[.agg x,.int .i64 (errS (okR l' E' (mayS y) (stb y) s))])∧x.s=pickS (okR l' E' (mayS y) (stb y) s) y RS.zero.s∧OwnS w' w.heap.size x∧Below w.heap.size w w':=by
 have HF:=stateR_fit cnt_eats (by omega) hn;have hsl:=stateR_slim cnt_eats cnt_slim _ _ _ _ _ hn;have HSL:Hid ((stb y).length≤65536):=hid (by dsimp only at hsl;split at hsl <;> omega);obtain ⟨q,hq⟩:=nm (okR l' E' (mayS y) (stb y) s);rw[← hq];have HQ:=hid hq;clear hq hsl;go_enter Tryz.func22,Tryz.ntmps22;go_upto_region 1 with (fail)
 obtain ⟨bz,W,hbz,hW,Z⟩:=Box.mk w [.slice none 0 0,.slice none 0 0,.slice none 0 0] 33;rw[← hW,← hbz];have hb:Below w.heap.size w W:=by rw[hW];exact balloc (Below.refl _ _) _
 have NZ:Hid (bz<W.heap.size∧w.heap.size≤bz):=hid (by rw[hW,World.size_alloc];omega);clear hW hbz;go_upto_region 2 with (fail)
 obtain ⟨b,W1,hbb,hW1,R⟩:=RB.new W s (by omega);rw[← hW1,← hbb];replace Z:=hid (show Box W1 bz _ by rw[hW1];exact Z.out.alloc _);replace hb:Below w.heap.size w W1:=by rw[hW1];exact balloc hb _
 have N1:Hid (bz≠b∧w.heap.size≤b∧b<W1.heap.size∧bz<W1.heap.size∧w.heap.size≤W1.heap.size∧w.heap.size≤bz):=hid (by have:=NZ.out;rw[hW1,World.size_alloc];omega);clear hW1 hbb NZ;go_wp2_with fail
 refine (state_any b _ _ _ R.out (by omega) _ _ _ hn).mono ?_;rintro e w2 ⟨x,rfl,hx,ox,r,k⟩;replace Z:=hid (Z.out.but k N1.out.1);replace hb:=But.below hb k N1.out.2.1 hb.size;have R:=hid r;have OX:=hid ox;have N2:Hid (W1.heap.size≤w2.heap.size):=hid k.size;subst hx;clear r k ox hn;go_upto_region 3 with (fail)
 obtain ⟨be,w3,hbe,hw3,BE⟩:=Box.mk w2 x 33;rw[← hw3,← hbe];have k:Below w2.heap.size w2 w3:=by rw[hw3];exact balloc (Below.refl _ _) _
 have NN:Hid (bz≠b∧be≠b∧w.heap.size≤b∧b<W1.heap.size∧bz<W1.heap.size∧w.heap.size≤W1.heap.size∧w.heap.size≤bz):=hid (by have:=N1.out;have:=N2.out;omega);replace Z:=hid (Z.out.below k);replace R:=hid (R.out.below k);replace hb:=bstep hb k;replace OX:=hid (OwnS.but OX.out (But.of k) NN.out.2.2.2.1);clear k hw3 hbe N1 N2;obtain ⟨c0,c1,c2⟩:=al3 BE.out.at;have C:=hid (fun W (o:OwnS W W1.heap.size x)=>refState x W o.inner (FitS.ok HF HSL.out) (sfit HF) (pruned_fit HF) (Nat.le_trans HSL.out (by decide)));obtain ⟨f,hf⟩:=nm (outE (mayS x.s));obtain ⟨t,ht⟩:=nm (outS (mayS x.s) (stb x.s));have C:Hid (∀ W,OwnS W W1.heap.size x→CB 12 #[.agg x] W (.tuple #[t,.int .i64 f])):=hid (fun W o=>by rw[hf,ht];exact C.out W o);have HQ:q=decide (endS l' E'=0∧f=0∧t=s):=by rw[HQ.out,okR_is,hf,ht]
 clear hf ht HF HSL;go_wp2_with fail
 refine cr (C.out _ OX.out) fun w4 k=>?_;replace Z:=hid (Z.out.below k);replace R:=hid (R.out.below k);replace BE:=hid (BE.out.below k);replace hb:=bstep hb k;replace OX:=hid (OwnS.but OX.out (But.of k) NN.out.2.2.2.1);clear k C c0 c1 c2;go_wp2_with fail
 obtain ⟨e0,he0⟩:=nm (endS l' E');refine (end_any b _ _ _ R.out _ he0.symm).mono ?_;rintro e w5 ⟨rfl,k⟩;replace Z:=hid (Z.out.but k NN.out.1);replace BE:=hid (BE.out.but k NN.out.2.1);replace hb:=But.below hb k NN.out.2.2.1 hb.size;replace OX:=hid (OwnS.but OX.out k NN.out.2.2.2.1);rw[← he0] at HQ;replace HQ:=hid HQ;clear k R he0;obtain ⟨c0,c1,c2⟩:=al3 BE.out.at;obtain ⟨v0,v1,v2⟩:=al3 Z.out.at;have z:=Z.out.2.2;by_cases hg:e0=0∧f=0∧t=s
 ·have HG:Hid (q=true):=hid (by rw[HQ.out,decide_eq_true hg]);obtain ⟨rfl,rfl,rfl⟩:=hg;clear HQ;go_wp2;refine bodyPost_ret (v:=.tuple #[.agg #[.slice x.aa x.a.length x.ac,.slice x.ea x.e.length x.ec,.slice x.pa x.p.length x.pc],.int .i64 0]) (by simp[results,Tryz.results22,go_sem,v0,v1,v2]) rfl ?_;rw[HG.out];exact ⟨x,rfl,rfl,OwnS.base (OwnS.but OX.out (b:=bz) (by repeat (first | refine But.set ?_ _ (by rfl) _ | exact But.refl bz w5)) NN.out.2.2.2.2.1) NN.out.2.2.2.2.2.1,(by repeat (first | refine bset ?_ NN.out.2.2.2.2.2.2 _ | exact hb))⟩
 have HG:Hid (q=false):=hid (by rw[HQ.out,decide_eq_false hg]);have h3:=three hg;clear hg HQ;rcases h3 with d1 | ⟨d1,d2⟩ | ⟨d1,d2,d3,d4⟩
 all_goals
  go_wp2;refine bodyPost_ret (v:=.tuple #[.agg #[.slice none 0 0,.slice none 0 0,.slice none 0 0],.int .i64 8]) (by simp[results,Tryz.results22,go_sem,v0,v1,v2]) rfl ?_;rw[HG.out];exact ⟨RS.zero,rfl,rfl,own_zeroS _ _,(by repeat (first | refine bset ?_ NN.out.2.2.2.2.2.2 _ | exact hb))⟩
theorem readDelta_any (s:List UInt8) (w:World) (hs:s.length≤4096) (y:List M × S) (l':List UInt8) (E':Int) (hn:deltaG cntS zR s 0=(y,l',E')) :
  Calls Tryz.prog 26 #[s] w fun e w'=>∃ d:RD,e=.returned (.tuple #[.agg d,.int .i64 (errS (okR l' E' (mayD y.1 y.2) (dl y.1 y.2) s))])∧(d.b,d.x.s)=pickS (okR l' E' (mayD y.1 y.2) (dl y.1 y.2) s) y ([],RS.zero.s)∧OwnDl w' w.heap.size d∧Below w.heap.size w w':=by
 have HF:=deltaR_fit cnt_eats (by omega) hn;have hsl:=deltaR_slim cnt_eats cnt_slim _ _ _ _ _ hn;have HSL:Hid ((dl y.1 y.2).length≤65536):=hid (by dsimp only at hsl;split at hsl <;> omega);obtain ⟨q,hq⟩:=nm (okR l' E' (mayD y.1 y.2) (dl y.1 y.2) s);rw[← hq];have HQ:=hid hq;clear hq hsl;obtain ⟨x1,l1,E1,q1⟩:=tr (manyG cntS markS s 0);obtain ⟨x2,l2,E2,q2⟩:=tr (stateG cntS zR l1 E1);have hl1:=Nat.le_trans ((manyG_eats cnt_eats mark_eats).keeps.len q1) hs;simp only[deltaG,bindR,q1,q2,Prod.mk.injEq] at hn;obtain ⟨rfl,rfl,rfl⟩:=hn;dsimp only at HF HSL HQ ⊢;replace q1:=hid q1;replace q2:=hid q2;replace hl1:=hid hl1;go_enter Tryz.func26,Tryz.ntmps26;go_upto_region 1 with (fail)
 obtain ⟨bz,W,hbz,hW,Z⟩:=Box.mk w [.slice none 0 0,.slice none 0 0,.slice none 0 0,.slice none 0 0] 35;rw[← hW,← hbz];have hb:Below w.heap.size w W:=by rw[hW];exact balloc (Below.refl _ _) _
 have NZ:Hid (bz<W.heap.size∧w.heap.size≤bz):=hid (by rw[hW,World.size_alloc];omega);clear hW hbz;go_upto_region 2 with (fail)
 obtain ⟨b,W1,hbb,hW1,R⟩:=RB.new W s (by omega);rw[← hW1,← hbb];replace Z:=hid (show Box W1 bz _ by rw[hW1];exact Z.out.alloc _);replace hb:Below w.heap.size w W1:=by rw[hW1];exact balloc hb _
 have N1:Hid (bz≠b∧w.heap.size≤b∧b<W1.heap.size∧bz<W1.heap.size∧w.heap.size≤W1.heap.size∧w.heap.size≤bz):=hid (by have:=NZ.out;rw[hW1,World.size_alloc];omega);clear hW1 hbb NZ;go_wp2_with fail
 refine (marks_any b _ _ _ R.out (by omega) _ _ _ q1.out).mono ?_;rintro e w2 ⟨a1,u1,rfl,o1,r,k⟩;replace Z:=hid (Z.out.but k N1.out.1);replace hb:=But.below hb k N1.out.2.1 hb.size;replace R:=hid r;have O1:=hid o1;have N0:Hid (W1.heap.size≤w2.heap.size):=hid k.size;clear r k o1 q1;go_upto_region 3 with (fail)
 obtain ⟨be,w3,hbe,hw3,T⟩:=Tq.new R.out (But.refl b w2) [.slice a1 x1.length u1,.slice none 0 0,.slice none 0 0,.slice none 0 0] 35;rw[← hw3,← hbe];have N2:Hid (W1.heap.size≤be):=hid (by have:=N0.out;omega);clear hw3 hbe N0 R;go_wp2_with fail
 refine (state_any b _ _ _ T.out.r (Nat.le_trans hl1.out (by decide)) _ _ _ q2.out).mono ?_;rintro e w4 ⟨x,rfl,hx,ox,r,k⟩;subst hx;have OX:=hid (OwnS.base ox (Nat.succ_le_of_lt T.out.s.1));replace T:=T.out.go r k;clear r k ox q2 hl1;have z:=T.out.s.2.2;have t1:=T.out.s.at 1 _ rfl;have t2:=T.out.s.at 2 _ rfl;have t3:=T.out.s.at 3 _ rfl;go_upto_region 4 with (fail)
 obtain ⟨w11,hw11,T'⟩:=T.out.put 1 (.slice x.aa x.a.length x.ac);rw[← hw11];replace OX:=hid (OwnS.but OX.out (bsetB hw11) (Nat.lt_succ_self be));clear hw11 T;have T:=T';clear T';obtain ⟨w12,hw12,T'⟩:=T.out.put 2 (.slice x.ea x.e.length x.ec);rw[← hw12];replace OX:=hid (OwnS.but OX.out (bsetB hw12) (Nat.lt_succ_self be));clear hw12 T;have T:=T';clear T';obtain ⟨w13,hw13,T'⟩:=T.out.put 3 (.slice x.pa x.p.length x.pc);rw[← hw13];replace OX:=hid (OwnS.but OX.out (bsetB hw13) (Nat.lt_succ_self be));clear hw13 T;have T:=T';clear T';clear z t1 t2 t3;have NN:Hid (bz≠b∧be≠b∧w.heap.size≤b∧b<W1.heap.size∧bz<W1.heap.size∧w.heap.size≤W1.heap.size∧w.heap.size≤bz):=hid (by have:=N1.out;have:=N2.out;omega);have BE:=hid T.out.s;have R:=hid T.out.r;replace Z:=hid (Z.out.but T.out.k NN.out.1);replace hb:=But.below hb T.out.k NN.out.2.2.1 hb.size;replace OX:Hid (OwnDl _ W1.heap.size ⟨a1,u1,x1,x⟩):=hid ⟨OwnM.but O1.out T.out.k NN.out.2.2.2.1,OwnS.base OX.out (by have:=N2.out;omega)⟩;clear O1;clear T;obtain ⟨c0,c1,c2,c3⟩:=al4 BE.out.at;obtain ⟨f,hf⟩:=nm (outE (mayD x1 x.s));obtain ⟨t,ht⟩:=nm (outS (mayD x1 x.s) (dl x1 x.s));have C:Hid (∀ W,OwnDl W W1.heap.size ⟨a1,u1,x1,x⟩→CB 14 #[.agg #[.slice a1 x1.length u1,.slice x.aa x.a.length x.ac,.slice x.ea x.e.length x.ec,.slice x.pa x.p.length x.pc]] W (.tuple #[t,.int .i64 f])):=hid fun W o=>by
  have hd:=HSL.out;unfold dl at hd;rw[List.length_append] at hd;rw[hf,ht];exact refDelta a1 u1 x1 x W ⟨o.1.lies,o.2.inner⟩ ⟨by have:=HF.1.1;omega,fun m hm=>⟨by have:=(HF.1.2 m hm).1;omega,(HF.1.2 m hm).2⟩,FitS.ok HF.2 (by omega),FitS.fine HF.2⟩ (sfit HF.2) (pruned_fit HF.2) (Nat.le_trans HSL.out (by decide))
 have HQ:q=decide (endS l2 E2=0∧f=0∧t=s):=by rw[HQ.out,okR_is,hf,ht]
 clear hf ht HF HSL;go_wp2_with fail
 refine cr (C.out _ OX.out) fun w4 k=>?_;replace Z:=hid (Z.out.below k);replace R:=hid (R.out.below k);replace BE:=hid (BE.out.below k);replace hb:=bstep hb k;replace OX:=hid (OwnDl.but OX.out (But.of k) NN.out.2.2.2.1);clear k C c0 c1 c2 c3;go_wp2_with fail
 obtain ⟨e0,he0⟩:=nm (endS l2 E2);refine (end_any b _ _ _ R.out _ he0.symm).mono ?_;rintro e w5 ⟨rfl,k⟩;replace Z:=hid (Z.out.but k NN.out.1);replace BE:=hid (BE.out.but k NN.out.2.1);replace hb:=But.below hb k NN.out.2.2.1 hb.size;replace OX:=hid (OwnDl.but OX.out k NN.out.2.2.2.1);rw[← he0] at HQ;replace HQ:=hid HQ;clear k R he0;obtain ⟨c0,c1,c2,c3⟩:=al4 BE.out.at;obtain ⟨v0,v1,v2,v3⟩:=al4 Z.out.at;have z:=Z.out.2.2;by_cases hg:e0=0∧f=0∧t=s
 ·have HG:Hid (q=true):=hid (by rw[HQ.out,decide_eq_true hg]);obtain ⟨rfl,rfl,rfl⟩:=hg;clear HQ;go_wp2;refine bodyPost_ret (v:=.tuple #[.agg #[.slice a1 x1.length u1,.slice x.aa x.a.length x.ac,.slice x.ea x.e.length x.ec,.slice x.pa x.p.length x.pc],.int .i64 0]) (by simp[results,Tryz.results26,go_sem,v0,v1,v2,v3]) rfl ?_;rw[HG.out];exact ⟨⟨a1,u1,x1,x⟩,rfl,rfl,OwnDl.base (OwnDl.but OX.out (b:=bz) (by repeat (first | refine But.set ?_ _ (by rfl) _ | exact But.refl bz w5)) NN.out.2.2.2.2.1) NN.out.2.2.2.2.2.1,(by repeat (first | refine bset ?_ NN.out.2.2.2.2.2.2 _ | exact hb))⟩
 have HG:Hid (q=false):=hid (by rw[HQ.out,decide_eq_false hg]);have h3:=three hg;clear hg HQ;rcases h3 with d1 | ⟨d1,d2⟩ | ⟨d1,d2,d3,d4⟩
 all_goals
  go_wp2;refine bodyPost_ret (v:=.tuple #[.agg #[.slice none 0 0,.slice none 0 0,.slice none 0 0,.slice none 0 0],.int .i64 8]) (by simp[results,Tryz.results26,go_sem,v0,v1,v2,v3]) rfl ?_;rw[HG.out];exact ⟨RD.zero,rfl,rfl,⟨OwnM.nil _ _,own_zeroS _ _⟩,(by repeat (first | refine bset ?_ NN.out.2.2.2.2.2.2 _ | exact hb))⟩
theorem readOp_any (s:List UInt8) (w:World) (hs:s.length≤4096) (y:O) (l':List UInt8) (E':Int) (hn:opS s 0=(y,l',E')) :
  Calls Tryz.prog 32 #[s] w fun e w'=>∃ x:O,e=.returned (.tuple #[.agg x,.int .i64 (errS (okR l' E' (mayO y) (opb y) s))])∧x=pickS (okR l' E' (mayO y) (opb y) s) y ⟨0,[],0,[]⟩∧Below w.heap.size w w':=by
 obtain ⟨q,hq⟩:=nm (okR l' E' (mayO y) (opb y) s);rw[← hq];have HQ:=hid hq;clear hq;obtain ⟨x0,l0,E0,q0⟩:=tr (smallS s 0);obtain ⟨x1,l1,E1,q1⟩:=tr (wordS l0 E0);obtain ⟨x2,l2,E2,q2⟩:=tr (natS l1 E1);obtain ⟨x3,l3,E3,q3⟩:=tr (wordS l2 E2);have s0:=small_le q0;have s1:=word_len q1;have s2:=nat_le q2;have s3:=word_len q3;simp only[opS,bindR,q0,q1,q2,q3,Prod.mk.injEq] at hn;obtain ⟨rfl,rfl,rfl⟩:=hn;have HF:Hid ((⟨x0,x1,back (x2:Nat),x3⟩:O).Ok):=hid ⟨s0,by show x1.length≤_;omega,back_bound x2 (by omega) (by omega),by show x3.length≤_;omega⟩;have HSL:=hid s1;have w8:IntKind.u8.wrap (x0:Int)=(x0:Int):=by rw[IntKind.wrap_u8'];omega
 have HB:=hid fun W=>back_any x2 W s2;replace q0:=hid q0;replace q1:=hid q1;replace q2:=hid q2;replace q3:=hid q3;clear s0 s1 s2 s3;go_enter Tryz.func32,Tryz.ntmps32;go_upto_region 1 with (fail)
 obtain ⟨bz,W,hbz,hW,Z⟩:=Box.mk w [.int .u8 0,.string ⟨#[]⟩,.int .i64 0,.string ⟨#[]⟩] 38;rw[← hW,← hbz];have hb:Below w.heap.size w W:=by rw[hW];exact balloc (Below.refl _ _) _
 have NZ:Hid (bz<W.heap.size∧w.heap.size≤bz):=hid (by rw[hW,World.size_alloc];omega);clear hW hbz;go_upto_region 2 with (fail)
 obtain ⟨b,W1,hbb,hW1,R⟩:=RB.new W s (by omega);rw[← hW1,← hbb];replace Z:=hid (show Box W1 bz _ by rw[hW1];exact Z.out.alloc _);replace hb:Below w.heap.size w W1:=by rw[hW1];exact balloc hb _
 have N1:Hid (bz≠b∧w.heap.size≤b∧b<W1.heap.size∧bz<W1.heap.size∧w.heap.size≤W1.heap.size∧w.heap.size≤bz):=hid (by have:=NZ.out;rw[hW1,World.size_alloc];omega);clear hW1 hbb NZ;go_wp2_with fail
 refine (small_any b _ _ _ R.out _ _ _ q0.out).mono ?_;rintro e w2 ⟨rfl,r,k⟩;replace Z:=hid (Z.out.but k N1.out.1);replace hb:=But.below hb k N1.out.2.1 hb.size;replace R:=hid r;have N0:Hid (W1.heap.size≤w2.heap.size):=hid k.size;clear r k q0;go_upto_region 3 with (fail)
 obtain ⟨be,w3,hbe,hw3,T⟩:=Tq.new R.out (But.refl b w2) [.int .u8 x0,.string ⟨#[]⟩,.int .i64 0,.string ⟨#[]⟩] 38;rw[← hw3,← hbe];have N2:Hid (W1.heap.size≤be):=hid (by have:=N0.out;omega);clear hw3 hbe N0 R w8;go_wp2_with fail
 refine (text_any b _ _ _ T.out.r _ _ _ q1.out).mono ?_;rintro e w11 ⟨rfl,r,k⟩;replace T:=T.out.go r k;clear r k;have z:=T.out.s.2.2;have t1:=T.out.s.at 1 _ rfl;go_upto_region 4 with (fail)
 obtain ⟨w12,hw12,T'⟩:=T.out.put 1 x1;rw[← hw12];clear hw12 T;have T:=T';clear T';clear z t1;go_wp2_with fail
 refine (nat_any b _ _ _ T.out.r _ _ _ q2.out).mono ?_;rintro e w13 ⟨rfl,r,k⟩;replace T:=T.out.go r k;clear r k;go_wp2_with fail
 refine cp (HB.out _) ?_;have z:=T.out.s.2.2;have t2:=T.out.s.at 2 _ rfl;go_upto_region 5 with (fail)
 obtain ⟨w14,hw14,T'⟩:=T.out.put 2 (.int .i64 (back (x2:Nat)));rw[← hw14];clear hw14 T;have T:=T';clear T';clear z t2;go_wp2_with fail
 refine (text_any b _ _ _ T.out.r _ _ _ q3.out).mono ?_;rintro e w15 ⟨rfl,r,k⟩;replace T:=T.out.go r k;clear r k;have z:=T.out.s.2.2;have t3:=T.out.s.at 3 _ rfl;go_upto_region 6 with (fail)
 obtain ⟨w16,hw16,T'⟩:=T.out.put 3 x3;rw[← hw16];clear hw16 T;have T:=T';clear T';clear z t3;have NN:Hid (bz≠b∧be≠b∧w.heap.size≤b∧b<W1.heap.size∧bz<W1.heap.size∧w.heap.size≤W1.heap.size∧w.heap.size≤bz):=hid (by have:=N1.out;have:=N2.out;omega);have BE:=hid T.out.s;have R:=hid T.out.r;replace Z:=hid (Z.out.but T.out.k NN.out.1);replace hb:=But.below hb T.out.k NN.out.2.2.1 hb.size;clear T;obtain ⟨c0,c1,c2,c3⟩:=al4 BE.out.at;obtain ⟨f,hf⟩:=nm (outE (mayO ⟨x0,x1,back (x2:Nat),x3⟩));obtain ⟨t,ht⟩:=nm (outS (mayO ⟨x0,x1,back (x2:Nat),x3⟩) (opb ⟨x0,x1,back (x2:Nat),x3⟩));have C:Hid (∀ W,CB 18 #[.agg #[.int .u8 x0,x1,.int .i64 (back (x2:Nat)),x3]] W (.tuple #[t,.int .i64 f])):=hid fun W=>by
  rw[hf,ht];exact refOp ⟨x0,x1,back (x2:Nat),x3⟩ W HF.out HSL.out
 have HQ:q=decide (endS l3 E3=0∧f=0∧t=s):=by rw[HQ.out,okR_is,hf,ht]
 clear hf ht HF HSL;go_wp2_with fail
 refine cr (C.out _) fun w4 k=>?_;replace Z:=hid (Z.out.below k);replace R:=hid (R.out.below k);replace BE:=hid (BE.out.below k);replace hb:=bstep hb k;skip;clear k C c0 c1 c2 c3;go_wp2_with fail
 obtain ⟨e0,he0⟩:=nm (endS l3 E3);refine (end_any b _ _ _ R.out _ he0.symm).mono ?_;rintro e w5 ⟨rfl,k⟩;replace Z:=hid (Z.out.but k NN.out.1);replace BE:=hid (BE.out.but k NN.out.2.1);replace hb:=But.below hb k NN.out.2.2.1 hb.size;skip;rw[← he0] at HQ;replace HQ:=hid HQ;clear k R he0;obtain ⟨c0,c1,c2,c3⟩:=al4 BE.out.at;obtain ⟨v0,v1,v2,v3⟩:=al4 Z.out.at;have z:=Z.out.2.2;by_cases hg:e0=0∧f=0∧t=s
 ·have HG:Hid (q=true):=hid (by rw[HQ.out,decide_eq_true hg]);obtain ⟨rfl,rfl,rfl⟩:=hg;clear HQ;go_wp2;refine bodyPost_ret (v:=.tuple #[.agg #[.int .u8 x0,x1,.int .i64 (back (x2:Nat)),x3],.int .i64 0]) (by simp[results,Tryz.results32,go_sem,v0,v1,v2,v3]) rfl ?_;rw[HG.out];exact ⟨⟨x0,x1,back (x2:Nat),x3⟩,rfl,rfl,(by repeat (first | refine bset ?_ NN.out.2.2.2.2.2.2 _ | exact hb))⟩
 have HG:Hid (q=false):=hid (by rw[HQ.out,decide_eq_false hg]);have h3:=three hg;clear hg HQ;rcases h3 with d1 | ⟨d1,d2⟩ | ⟨d1,d2,d3,d4⟩
 all_goals
  go_wp2;refine bodyPost_ret (v:=.tuple #[.agg #[.int .u8 0,.string ⟨#[]⟩,.int .i64 0,.string ⟨#[]⟩],.int .i64 8]) (by simp[results,Tryz.results32,go_sem,v0,v1,v2,v3]) rfl ?_;rw[HG.out];exact ⟨⟨0,[],0,[]⟩,rfl,rfl,(by repeat (first | refine bset ?_ NN.out.2.2.2.2.2.2 _ | exact hb))⟩
end RTake
namespace RTake
open RowKit Num Wire Coder Taker Mem
theorem readMembers_any (s:List UInt8) (w:World) (hs:s.length≤4096) (y:List Mb) (l':List UInt8) (E':Int) (hn:manyG cntS (memberG cntS halfS) s 0=(y,l',E')) :
  Calls Tryz.prog 28 #[s] w fun e w'=>∃ (a:Option Addr) (c:Nat) (J:List RM),e=.returned (.tuple #[.slice a J.length c,.int .i64 (errS (okR l' E' (tv (MayP y)) (msb y) s))])∧J.map RM.m=pickS (okR l' E' (tv (MayP y)) (msb y) s) y []∧OwnMs w' w.heap.size a c J∧Below w.heap.size w w':=by
 have he:=memberG_eats cnt_eats half_eats;have HF:=membersG_fit cnt_eats half_eats half_szok (by omega) hn;obtain ⟨q,hq⟩:=nm (okR l' E' (tv (MayP y)) (msb y) s);rw[← hq];have HQ:=hid hq;clear hq;obtain ⟨n,l1,E1,q1⟩:=tr (cntS s 0);have hl1:=Nat.le_trans (cnt_eats.keeps.len q1) hs;have hn6:=cnt_le (Nat.le_trans hs (by decide)) q1;have P:=hid (Lp.start (loc:=RM.m) (each:=memberG cntS halfS) (n:=n) (xs:=y) (l:=l1) (E:=E1) (l':=l') (E':=E') (Nat.le_trans hl1 (by decide)) (by rw[← hn];unfold manyG;simp only[bindR,q1]));replace q1:=hid q1;replace HF:=hid HF;replace he:=hid he;clear hl1 hn;go_enter Tryz.func28,Tryz.ntmps28;go_upto_region 2 with (fail)
 obtain ⟨b,W1,hbb,hW1,R⟩:=RB.new w s (by omega);rw[← hW1,← hbb];have hb:Below w.heap.size w W1:=by rw[hW1];exact balloc (Below.refl _ _) _
 have N1:Hid (w.heap.size≤b∧b<W1.heap.size∧w.heap.size≤W1.heap.size):=hid (by rw[hW1,World.size_alloc];omega);clear hW1 hbb;have HB:=hid hb;clear hb;go_wp2_with fail
 refine (count_any b _ _ _ R.out _ _ _ q1.out).mono ?_;rintro e w2 ⟨rfl,r,k⟩;replace R:=hid r;have K:=hid k;have O:Hid (OwnMs w2 W1.heap.size none 0 []):=hid (OwnMs.nil _ _);clear r k q1;go_wp2_with fail
 go_loopw [5,7] (fun lv iv wr=>∃ (k:Nat) (ys:List RM) (l2:List UInt8) (E2:Int) (a:Option Addr) (c:Nat),lv=.slice a ys.length c∧iv=.int .i64 k∧k≤n∧Hid (Lp (memberG cntS halfS) RM.m n y l' E' k ys l2 E2)∧Hid (OwnMs wr W1.heap.size a c ys)∧Hid (RB wr b l2 E2)∧Hid (But b W1 wr)) (fun _ iv _=>n - (intOf iv).toNat)
 case atStart=>exact ⟨0,[],l1,E1,none,0,rfl,rfl,by omega,P,O,R,K⟩
 clear O R K P;obtain ⟨k,ys,l2,E2,a,c,rfl,rfl,hkn,P,O,R,K⟩:=hrel;by_cases hx:k<n∧E2=0;rotate_left
 ·have HD:=hid (P.out.done (by omega));obtain ⟨s',s0,s1,z0,hlt,-⟩:=R.out.to;rcases two hx with ⟨d1,d2,d3⟩ | ⟨d1,d2⟩
  all_goals
   clear P hx;obtain ⟨e1,rfl,rfl⟩:=HD.out;subst e1;obtain ⟨f,hf⟩:=nm (outE (tv (MayP (ys.map RM.m))));obtain ⟨t,ht⟩:=nm (outS (tv (MayP (ys.map RM.m))) (lst fM ys));have HL:msb (ys.map RM.m)=lst fM ys:=lst_map mbb RM.m ys;have C:=hid (fun W (o:OwnMs W W1.heap.size a c ys)=>(by rw[hf,ht];exact refMembers ys a c W (OwnMs.sz o HF.out) (fun h=>by rw[← HL];exact msb_len HF.out h):CB 16 #[.slice a ys.length c] W (.tuple #[t,.int .i64 f])));have HQ:q=decide (endS l2 E2=0∧f=0∧t=s):=by rw[HQ.out,okR_is,HL,hf,ht]
   replace HQ:=hid HQ;clear hf ht HL HD;go_wp2_with fail
   refine cr (C.out _ O.out) fun w4 k=>?_;replace R:=hid (R.out.below k);replace O:=hid (OwnMs.but O.out (But.of k) N1.out.2.1);have hb:=bstep (But.below HB.out K.out N1.out.1 N1.out.2.2) k;have HB2:=hid hb;clear k C hb;obtain ⟨e0,he0⟩:=nm (endS l2 E2);go_wp2_with fail
   refine (end_any b _ _ _ R.out _ he0.symm).mono ?_;rintro e w5 ⟨rfl,k⟩;replace HB2:=hid (But.below HB2.out k N1.out.1 HB2.out.size);replace O:=hid (OwnMs.but O.out k N1.out.2.1);rw[← he0] at HQ;clear k R he0 s0 s1 z0 hlt;by_cases hg:e0=0∧f=0∧t=s
   ·have HG:Hid (q=true):=hid (by rw[HQ.out,decide_eq_true hg]);obtain ⟨rfl,rfl,rfl⟩:=hg;clear HQ;go_wp2;go_ret2;rw[HG.out];exact ⟨a,c,ys,rfl,rfl,OwnMs.base O.out N1.out.2.2,HB2.out⟩
   have HG:Hid (q=false):=hid (by rw[HQ.out,decide_eq_false hg]);have h3:=three hg;clear hg HQ;rcases h3 with g1 | ⟨g1,g2⟩ | ⟨g1,g2,g3,g4⟩
   all_goals
    go_wp2;go_ret2;rw[HG.out];exact ⟨none,0,[],rfl,rfl,OwnMs.nil _ _,HB2.out⟩
 obtain ⟨hk,rfl⟩:=hx;have d1:=dT (p:=(k:Int)<(n:Int));have d2:=dT (p:=k<n);obtain ⟨y0,m0,F0,p0⟩:=tr (memberG cntS halfS l2 0);have P':=fun (x:RM) (hx:x.m=y0)=>P.out.next (x:=x) he.out hk (by rw[hx];exact p0);replace P':=hid P';have Q0:=hid p0;have HK:=hid hk;have HL:=hid P.out.sz.2.1;have HS:Hid (ys.length≤65537):=hid (by have:=P.out.sz;omega);clear p0 hk P;obtain ⟨⟨r0,r1⟩,z0,hlt,-⟩:=R.out.at;go_wp2_with fail
 refine (member_any b _ _ _ R.out HL.out _ _ _ Q0.out).mono ?_;rintro e w3 ⟨x,rfl,hx,ox,r,k⟩;replace R:=hid r;replace O:=hid (OwnMs.but O.out k N1.out.2.1);have OX:=hid (OwnB.base ox (show W1.heap.size≤_ from K.out.size));replace K:=hid (K.out.trans k);have HX:=hid hx;obtain ⟨ys',hys⟩:=nm (ys++[x]);have HY:=hid hys;have HN:Hid (W1.heap.size≤w3.heap.size):=hid K.out.size;clear r k ox hx hys r0 r1 z0 hlt;go_wp2_with (at_builtin;refine Row.wpList_app typMember rfl _ _ rfl W1.heap.size _ ys rfl (Row.Own.alloc O.out.1 _) _ 1 1 [x] rfl (Row.lies_new _ x _) (by have:=HS.out;omega) (by have:=HN.out;rw[World.size_alloc];omega) ?_ (.inr (by have:=HS.out;omega));intro v9 w9 o9 g9 k9)
 have k8:=((Below.refl W1.heap.size w3).alloc HN.out _).trans k9;replace R:=hid (R.out.low k8 N1.out.2.1);replace K:=hid (but_then K.out k8 (Nat.le_refl _));rw[← HY.out] at o9;obtain ⟨a3,u3,rfl,-⟩:=o9.lies;replace O:Hid (OwnMs w9 W1.heap.size a3 u3 ys'):=hid ⟨o9,by
  rw[HY.out];intro y hy;rcases List.mem_append.1 hy with hy | hy
  · exact OwnB.kept (OwnB.but (b:=b) (O.out.2 y hy) ((But.refl _ _).alloc _) N1.out.2.1) (Row.Own.alloc O.out.1 _) g9 (by decide) (by decide)
  rw[List.mem_singleton.1 hy];exact OwnB.kept (OwnB.but (b:=b) OX.out ((But.refl _ _).alloc _) N1.out.2.1) (Row.Own.alloc O.out.1 _) g9 (by decide) (by decide)⟩
 clear k8 k9 g9 o9 OX;go_roundw
 ·exact ⟨k+1,ys',m0,F0,a3,u3,rfl,by go_num,HK.out,(by rw[HY.out];exact P'.out x HX.out),O,R,K⟩
 simp[intOf];have:=HK.out;omega
end RTake
namespace ReadLaw
open RowKit YtnpjkmomllkhpaaGreatDoor.Mark Num Wire Coder Taker Mem RTake
theorem okS_iff {l:List UInt8} {E:Int} {m:Bool}:okS l E m=true↔E=0∧l=[]∧m=true:=by
 unfold okS;rw[Bool.and_eq_true,decide_eq_true_eq];constructor
 ·rintro ⟨h,hm⟩;obtain ⟨h1,h2⟩:=endS_zero h;exact ⟨h1,h2,hm⟩
 rintro ⟨rfl,rfl,hm⟩;exact ⟨rfl,hm⟩
theorem okR_iff {l:List UInt8} {E:Int} {m:Bool} {t s:List UInt8}:okR l E m t s=true↔(E=0∧l=[]∧m=true)∧t=s:=by
 unfold okR;rw[Bool.and_eq_true,okS_iff,decide_eq_true_eq]
theorem agree {α:Type} {f g:Rdr α} {enc:α→List UInt8} {ok:α→Prop} {may:α→Bool} (hc:Canon f enc) (h1:Sim f g ok) (h2:Sim g f ok) (hm:∀ y,may y=true→ok y) {s:List UInt8} (hs:s.length≤65536) {y y2:α} {l' l2:List UInt8} {E' E2:Int} (e1:f s 0=(y,l',E')) (e2:g s 0=(y2,l2,E2)) (z:α) :
  okS l' E' (may y)=okR l2 E2 (may y2) (enc y2) s∧pickS (okS l' E' (may y)) y z=pickS (okR l2 E2 (may y2) (enc y2) s) y2 z:=by
 by_cases h:okS l' E' (may y)=true
 ·obtain ⟨rfl,rfl,m⟩:=okS_iff.1 h;have q:=h1 _ _ _ hs (hm _ m) e1;rw[e2] at q;simp only[Prod.mk.injEq] at q;obtain ⟨rfl,rfl,rfl⟩:=q;have c:=hc _ _ _ e1;rw[List.append_nil] at c;have h':okR [] 0 (may y2) (enc y2) s=true:=okR_iff.2 ⟨⟨rfl,rfl,m⟩,c.symm⟩;rw[h,h'];exact ⟨rfl,rfl⟩
 have h':¬ okR l2 E2 (may y2) (enc y2) s=true:=fun h'=>h (by
  obtain ⟨⟨rfl,rfl,m⟩,t⟩:=okR_iff.1 h';have q:=h2 _ _ _ hs (hm _ m) e2;rw[e1] at q;simp only[Prod.mk.injEq] at q;obtain ⟨rfl,rfl,rfl⟩:=q;exact okS_iff.2 ⟨rfl,rfl,m⟩)
 rw[Bool.not_eq_true] at h h';rw[h,h'];exact ⟨rfl,rfl⟩
theorem zS_k (k:List UInt8) (s:List M) (l:List UInt8) (E:Int):(zS k s l E).1.k=k:=rfl
theorem zR_k (k:List UInt8) (s:List M) (l:List UInt8) (E:Int):(zR k s l E).1.k=k:=rfl
theorem keys_of_may {x:S} (h:mayS x=true):∀ y ∈ x.e,kd y.k≠0:=fun y hy=>by
 unfold mayS at h;simp only[Bool.and_eq_true] at h;exact RefWrite.kd_of_may (Coder.es_of_may h.2.1 y hy)
theorem keys_of_mayD {d:List M × S} (h:mayD d.1 d.2=true):∀ y ∈ d.2.e,kd y.k≠0:=by
 unfold mayD at h;simp only[Bool.and_eq_true] at h;exact keys_of_may h.2
theorem mb_of_may {L:List Mb} (h:tv (MayP L)=true):∀ x ∈ L,MbOk x:=by
 intro x hx;obtain ⟨i,hi,rfl⟩:=List.mem_iff_getElem.1 hx;have q:=(of_tv h).2.2 i hi hi;obtain ⟨_,_,_,_,_,f,g,_,_⟩:=q;obtain ⟨_,_,k0,k1,c0,c1,_⟩:=f;refine ⟨by omega,by omega,fun s hs=>?_⟩;obtain ⟨j,hj,rfl⟩:=List.mem_iff_getElem.1 hs;obtain ⟨g1,g2,g3,_⟩:=g j hj hj;exact ⟨by omega,by omega⟩
abbrev Rds {X:Type} (f:FuncId) (s:List UInt8) (w:World) (P:X→Prop) (val:X→Value) (E:Int) (O:World→Nat→X→Prop):Prop :=
 Calls Tryz.prog f #[s] w fun e w'=>∃ x:X,e=.returned (.tuple #[val x,.int .i64 E])∧P x∧O w' w.heap.size x∧Below w.heap.size w w'
theorem pairE (s:List UInt8) (hs:s.length≤4096):∃ v f,FitE v∧(∀ w,Rds 19 s w (fun x:RE=>x.e=v) (fun x=>.agg x) f OwnE)∧∀ w,Rds 20 s w (fun x:RE=>x.e=v) (fun x=>.agg x) f OwnE:=by
 obtain ⟨y,l',E',e1⟩:=tr (entryS s 0);obtain ⟨y2,l2,E2,e2⟩:=tr (entryG cntS zR s 0);obtain ⟨a1,a2⟩:=agree entry_canon (entry_sim (Z:=zS) (Z':=zR) nat_eats csim_SR zS_keeps zS_k) (entry_sim (Z:=zR) (Z':=zS) cnt_eats csim_RS zR_keeps zR_k) (fun y h=>RefWrite.kd_of_may h) (by omega) (entry_is ▸ e1) e2 RE.zero.e;refine ⟨pickS (okS l' E' (mayE y)) y RE.zero.e,errS (okS l' E' (mayE y)),?_,fun w=>(read_entry s w (by omega) y l' E' e1).mono fun e w' ⟨x,h1,h2,h3,_,h5⟩=>⟨x,h1,h2,h3,h5⟩,fun w=>(readEntry_any s w hs y2 l2 E2 e2).mono fun e w' ⟨x,h1,h2,h3,h5⟩=>⟨x,by rw[a1];exact h1,by rw[a2];exact h2,h3,h5⟩⟩;unfold pickS;split
 · exact entry_fit (by omega) e1
 exact ⟨by decide,⟨by decide,fun m hm=>by cases hm⟩,⟨by decide,fun m hm=>by cases hm⟩,⟨by decide,fun m hm=>by cases hm⟩,⟨by decide,by decide⟩⟩
theorem pairS (s:List UInt8) (hs:s.length≤4096):∃ v f,(FitS v∧(stb v).length≤65536)∧(∀ w,Rds 21 s w (fun x:RS=>x.s=v) (fun x=>.agg x) f OwnS)∧∀ w,Rds 22 s w (fun x:RS=>x.s=v) (fun x=>.agg x) f OwnS:=by
 obtain ⟨y,l',E',e1⟩:=tr (stateS s 0);obtain ⟨y2,l2,E2,e2⟩:=tr (stateG cntS zR s 0);obtain ⟨a1,a2⟩:=agree state_canon (state_sim (Z:=zS) (Z':=zR) nat_eats csim_SR zS_keeps zS_k) (state_sim (Z:=zR) (Z':=zS) cnt_eats csim_RS zR_keeps zR_k) (fun y h=>keys_of_may h) (by omega) (state_is ▸ e1) e2 RS.zero.s;refine ⟨pickS (okS l' E' (mayS y)) y RS.zero.s,errS (okS l' E' (mayS y)),?_,fun w=>(read_state s w (by omega) y l' E' e1).mono fun e w' ⟨x,h1,h2,h3,h5⟩=>⟨x,h1,h2.1,h3,h5⟩,fun w=>(readState_any s w hs y2 l2 E2 e2).mono fun e w' ⟨x,h1,h2,h3,h5⟩=>⟨x,by rw[a1];exact h1,by rw[a2];exact h2,h3,h5⟩⟩;rw[a2];have q:=stateR_slim cnt_eats cnt_slim _ _ _ _ _ e2;unfold pickS;split
 · exact ⟨stateR_fit cnt_eats (by omega) e2,by dsimp only at q;split at q <;> omega⟩
 exact ⟨fit_zeroS,by decide⟩
theorem pairD (s:List UInt8) (hs:s.length≤4096):∃ v f,(FitB v.1∧FitS v.2∧(stb v.2).length≤65536)∧(∀ w,Rds 25 s w (fun d:RD=>(d.b,d.x.s)=v) (fun x=>.agg x) f OwnDl)∧∀ w,Rds 26 s w (fun d:RD=>(d.b,d.x.s)=v) (fun x=>.agg x) f OwnDl:=by
 obtain ⟨y,l',E',e1⟩:=tr (deltaS s 0);obtain ⟨y2,l2,E2,e2⟩:=tr (deltaG cntS zR s 0);obtain ⟨a1,a2⟩:=agree (may:=fun d=>mayD d.1 d.2) delta_canon (delta_sim (Z:=zS) (Z':=zR) nat_eats csim_SR zS_keeps zS_k) (delta_sim (Z:=zR) (Z':=zS) cnt_eats csim_RS zR_keeps zR_k) (fun y h=>keys_of_mayD h) (by omega) (delta_is ▸ e1) e2 ([],RS.zero.s);refine ⟨pickS (okS l' E' (mayD y.1 y.2)) y ([],RS.zero.s),errS (okS l' E' (mayD y.1 y.2)),?_,fun w=>(read_delta s w (by omega) y l' E' e1).mono fun e w' ⟨x,h1,h2,h3,h5⟩=>⟨x,h1,h2.1,h3,h5⟩,fun w=>(readDelta_any s w hs y2 l2 E2 e2).mono fun e w' ⟨x,h1,h2,h3,h5⟩=>⟨x,by rw[a1];exact h1,by rw[a2];exact h2,h3,h5⟩⟩;rw[a2];have q:=deltaR_slim cnt_eats cnt_slim _ _ _ _ _ e2;unfold pickS;split
 ·have h:=deltaR_fit cnt_eats (by omega) e2;refine ⟨h.1,h.2,?_⟩;unfold dl at q;simp only[List.length_append] at q;split at q <;> omega
 exact ⟨⟨by decide,fun m hm=>by cases hm⟩,fit_zeroS,by decide⟩
theorem pairM (s:List UInt8) (hs:s.length≤4096):∃ v f,FitMs v∧(∀ w,Rds 27 s w (fun x:Option Addr × Nat × List RM=>x.2.2.map RM.m=v) (fun x=>.slice x.1 x.2.2.length x.2.1) f (fun w B x=>OwnMs w B x.1 x.2.1 x.2.2))∧∀ w,Rds 28 s w (fun x:Option Addr × Nat × List RM=>x.2.2.map RM.m=v) (fun x=>.slice x.1 x.2.2.length x.2.1) f (fun w B x=>OwnMs w B x.1 x.2.1 x.2.2):=by
 obtain ⟨y,l',E',e1⟩:=tr (manyS memberS s 0);obtain ⟨y2,l2,E2,e2⟩:=tr (manyG cntS (memberG cntS halfS) s 0);obtain ⟨a1,a2⟩:=agree (may:=fun L=>tv (MayP L)) members_canon (members_sim nat_eats csim_SR size_eats hsim_SR) (members_sim cnt_eats csim_RS half_eats hsim_RS) (fun y h=>mb_of_may h) (by omega) (members_is ▸ e1) e2 [];refine ⟨pickS (okS l' E' (tv (MayP y))) y [],errS (okS l' E' (tv (MayP y))),?_,fun w=>(read_members s w (by omega) y l' E' e1).mono fun e w' ⟨a,c,J,h1,h2,h3,h5⟩=>⟨(a,c,J),h1,h2,h3,h5⟩,fun w=>(readMembers_any s w hs y2 l2 E2 e2).mono fun e w' ⟨a,c,J,h1,h2,h3,h5⟩=>⟨(a,c,J),by rw[a1];exact h1,by rw[a2];exact h2,h3,h5⟩⟩;unfold pickS;split
 · exact membersG_fit nat_eats size_eats size_szok (by omega) (members_is ▸ e1)
 exact ⟨by decide,fun m hm=>by cases hm⟩
theorem pairO (s:List UInt8) (hs:s.length≤4096):∃ (v:O) (f:Int),(∀ w,CB 31 #[s] w (.tuple #[.agg v,.int .i64 f]))∧∀ w,CB 32 #[s] w (.tuple #[.agg v,.int .i64 f]):=by
 obtain ⟨y,l',E',e1⟩:=tr (opS s 0);obtain ⟨a1,a2⟩:=agree (ok:=fun _=>True) (may:=mayO) op_canon sim_refl sim_refl (fun _ _=>trivial) (by omega) e1 e1 ⟨0,[],0,[]⟩;exact ⟨pickS (okS l' E' (mayO y)) y ⟨0,[],0,[]⟩,errS (okS l' E' (mayO y)),fun w=>(read_op s w (by omega) y l' E' e1).mono fun e w' ⟨x,h1,h2,h5⟩=>⟨by rw[h1,h2],h5⟩,fun w=>(readOp_any s w hs y l' E' e1).mono fun e w' ⟨x,h1,h2,h5⟩=>⟨by rw[h1,h2,a1],h5⟩⟩
end ReadLaw
namespace CoderReads
open RowKit Num Wire Coder Taker Mem ReadLaw CoderLaw
theorem eql_op (x:O) (w:World):(binOp .eql 38 (.agg x) (.agg x)).run Tryz.prog w=.ok (.bool true) w:=by
 have hS:Tryz.prog.underlying 38=some (.struct (Tryz.prog.fieldsOf 38)):=by kernel_rfl
 rw[run_eql_struct,show (10000:Nat)=9999+1 from rfl,run_equalIn_agg w 9999 38 _ _ hS (by kernel_rfl)];simp only[Program.fieldsOf,Tryz.underlying38];have u1:=Tryz.underlying9;have u2:=Tryz.underlying5;have u3:=Tryz.underlying2;go_simp
theorem Bx.mk (w:World) (l:List Value) (T:TypeId):∃ b W,b=w.heap.size∧W=w.alloc (.cells l.toArray T)∧Hid (Bx W b l)∧Below w.heap.size w W:=⟨_,_,rfl,rfl,Bx.new w l T,balloc (Below.refl _ _) _⟩
theorem OwnDl.in {w:World} {B:Nat} {d:RD} (h:OwnDl w B d):InnerD w d.ba d.b d.x:=⟨h.1.lies,h.2.inner⟩
theorem walk (a0:ByteArray) (w:World) (w0:a0.size≤maxLen) :
  Calls Tryz.prog 4 #[.string a0] w fun e w'=>e=.returned (.bool true)∧Below w.heap.size w w':=by
 obtain ⟨s,rfl⟩:∃ s:List UInt8,a0=⟨s.toArray⟩:=⟨a0.data.toList,(Str.mk_toList a0).symm⟩
 have zs:=Str.size_mk s;clear w0;by_cases hs:s.length≤4096;rotate_left
 ·have d1:decide ((4096:Int)<(s.length:Int))=true:=dT;have d2:=dT (p:=4096<s.length);clear hs;go_enter Tryz.func4,Tryz.ntmps4;go_wp2_with fail
  refine cr (alive_any _) fun v2 k2=>?_;go_wp2;go_ret;exact ⟨rfl,k2⟩
 have d1:=dF (p:=(4096:Int)<(s.length:Int));have d2:=dF (p:=4096<s.length);obtain ⟨v1,f1,F1,A1,B1⟩:=pairE s hs;obtain ⟨v2,f2,F2,A2,B2⟩:=pairS s hs;obtain ⟨v3,f3,F3,A3,B3⟩:=pairD s hs;obtain ⟨v4,f4,F4,A4,B4⟩:=pairM s hs;obtain ⟨v5,f5,A5,B5⟩:=pairO s hs;replace F1:=hid F1;replace A1:=hid A1;replace B1:=hid B1;replace F2:=hid F2;replace A2:=hid A2;replace B2:=hid B2;replace F3:=hid F3;replace A3:=hid A3;replace B3:=hid B3;replace F4:=hid F4;replace A4:=hid A4;replace B4:=hid B4;replace A5:=hid A5;replace B5:=hid B5;have hb:=Below.refl w.heap.size w;clear hs;go_enter Tryz.func4,Tryz.ntmps4;go_wp2_with fail
 refine (A1.out _).mono ?_;rintro e w9 ⟨x1,rfl,hx,ox,k⟩;replace hb:=bstep hb k;have Ex1:=hid hx;have Ix1:=hid (ox.inner);clear k hx ox;go_upto_region 4 with (fail)
 obtain ⟨b1,w9,hb1,hw,Cx1,k⟩:=Bx.mk w9 x1 29;rw[← hw,← hb1];replace Ix1:=hid (InnerE.below Ix1.out k);replace hb:=bstep hb k;clear k hw hb1;go_wp2_with fail
 refine (B1.out _).mono ?_;rintro e w9 ⟨x2,rfl,hx,ox,k⟩;replace Ix1:=hid (InnerE.below Ix1.out k);replace Cx1:=hid (Bx.below Cx1.out k);replace hb:=bstep hb k;have Ex2:=hid hx;have Ix2:=hid (ox.inner);clear k hx ox;go_upto_region 5 with (fail)
 obtain ⟨b2,w9,hb2,hw,Cx2,k⟩:=Bx.mk w9 x2 29;rw[← hw,← hb2];replace Ix1:=hid (InnerE.below Ix1.out k);replace Cx1:=hid (Bx.below Cx1.out k);replace Ix2:=hid (InnerE.below Ix2.out k);replace hb:=bstep hb k;clear k hw hb2;go_wp2_with fail
 refine (A2.out _).mono ?_;rintro e w9 ⟨y1,rfl,hx,ox,k⟩;replace Ix1:=hid (InnerE.below Ix1.out k);replace Cx1:=hid (Bx.below Cx1.out k);replace Ix2:=hid (InnerE.below Ix2.out k);replace Cx2:=hid (Bx.below Cx2.out k);replace hb:=bstep hb k;have Ey1:=hid hx;have Iy1:=hid (ox.inner);clear k hx ox;go_upto_region 6 with (fail)
 obtain ⟨b3,w9,hb3,hw,Cy1,k⟩:=Bx.mk w9 y1 33;rw[← hw,← hb3];replace Ix1:=hid (InnerE.below Ix1.out k);replace Cx1:=hid (Bx.below Cx1.out k);replace Ix2:=hid (InnerE.below Ix2.out k);replace Cx2:=hid (Bx.below Cx2.out k);replace Iy1:=hid (InnerS.below Iy1.out k);replace hb:=bstep hb k;clear k hw hb3;go_wp2_with fail
 refine (B2.out _).mono ?_;rintro e w9 ⟨y2,rfl,hx,ox,k⟩;replace Ix1:=hid (InnerE.below Ix1.out k);replace Cx1:=hid (Bx.below Cx1.out k);replace Ix2:=hid (InnerE.below Ix2.out k);replace Cx2:=hid (Bx.below Cx2.out k);replace Iy1:=hid (InnerS.below Iy1.out k);replace Cy1:=hid (Bx.below Cy1.out k);replace hb:=bstep hb k;have Ey2:=hid hx;have Iy2:=hid (ox.inner);clear k hx ox;go_upto_region 7 with (fail)
 obtain ⟨b4,w9,hb4,hw,Cy2,k⟩:=Bx.mk w9 y2 33;rw[← hw,← hb4];replace Ix1:=hid (InnerE.below Ix1.out k);replace Cx1:=hid (Bx.below Cx1.out k);replace Ix2:=hid (InnerE.below Ix2.out k);replace Cx2:=hid (Bx.below Cx2.out k);replace Iy1:=hid (InnerS.below Iy1.out k);replace Cy1:=hid (Bx.below Cy1.out k);replace Iy2:=hid (InnerS.below Iy2.out k);replace hb:=bstep hb k;clear k hw hb4;have S1:=hid (fun W (i1:InnerE W x1) (i2:InnerE W x2)=>(by
  have h:=sameE_any x1 x2 W i1 i2 (FitE.ok (by rw[Ex1.out];exact F1.out)) (FitE.ok (by rw[Ex2.out];exact F1.out));rw[decide_eq_true (Ex1.out.trans Ex2.out.symm)] at h;exact h:CB 23 #[.agg x1,.agg x2] W (.bool true)))
 have S2:=hid (fun W (i1:InnerS W y1) (i2:InnerS W y2)=>(by
  have h:=sameS_any y1 y2 W i1 i2 (FitS.ok (by rw[Ey1.out];exact F2.out.1) (by rw[Ey1.out];exact F2.out.2)) (FitS.ok (by rw[Ey2.out];exact F2.out.1) (by rw[Ey2.out];exact F2.out.2));rw[decide_eq_true (Ey1.out.trans Ey2.out.symm)] at h;exact h:CB 24 #[.agg y1,.agg y2] W (.bool true)))
 clear A1 B1 A2 B2 F1 F2 Ex1 Ex2 Ey1 Ey2;obtain ⟨c0,c1,c2,c3,c4,c5,c6⟩:=al7 Cx1.out;obtain ⟨d0,d1,d2,d3,d4,d5,d6⟩:=al7 Cx2.out;go_wp2_with fail
 refine cr (S1.out _ Ix1.out Ix2.out) fun w9 k=>?_;clear c0 d0 c1 d1 c2 d2 c3 d3 c4 d4 c5 d5 c6 d6;replace Ix1:=hid (InnerE.below Ix1.out k);replace Cx1:=hid (Bx.below Cx1.out k);replace Ix2:=hid (InnerE.below Ix2.out k);replace Cx2:=hid (Bx.below Cx2.out k);replace Iy1:=hid (InnerS.below Iy1.out k);replace Cy1:=hid (Bx.below Cy1.out k);replace Iy2:=hid (InnerS.below Iy2.out k);replace Cy2:=hid (Bx.below Cy2.out k);replace hb:=bstep hb k;clear k S1;clear Ix1 Ix2 Cx1 Cx2;obtain ⟨c0,c1,c2⟩:=al3 Cy1.out;obtain ⟨d0,d1,d2⟩:=al3 Cy2.out;go_wp2_with fail
 refine cr (S2.out _ Iy1.out Iy2.out) fun w9 k=>?_;clear c0 d0 c1 d1 c2 d2;replace Iy1:=hid (InnerS.below Iy1.out k);replace Cy1:=hid (Bx.below Cy1.out k);replace Iy2:=hid (InnerS.below Iy2.out k);replace Cy2:=hid (Bx.below Cy2.out k);replace hb:=bstep hb k;clear k S2;clear Iy1 Iy2 Cy1 Cy2;go_wp2_with fail
 refine (A3.out _).mono ?_;rintro e w9 ⟨p1,rfl,hx,ox,k⟩;replace hb:=bstep hb k;have Ep1:=hid hx;have Ip1:=hid (OwnDl.in ox);clear k hx ox;go_upto_region 10 with (fail)
 obtain ⟨b5,w9,hb5,hw,Cp1,k⟩:=Bx.mk w9 p1 35;rw[← hw,← hb5];replace Ip1:=hid (InnerD.below Ip1.out k);replace hb:=bstep hb k;clear k hw hb5;go_wp2_with fail
 refine (B3.out _).mono ?_;rintro e w9 ⟨p2,rfl,hx,ox,k⟩;replace Ip1:=hid (InnerD.below Ip1.out k);replace Cp1:=hid (Bx.below Cp1.out k);replace hb:=bstep hb k;have Ep2:=hid hx;have Ip2:=hid (OwnDl.in ox);clear k hx ox;go_upto_region 11 with (fail)
 obtain ⟨b6,w9,hb6,hw,Cp2,k⟩:=Bx.mk w9 p2 35;rw[← hw,← hb6];replace Ip1:=hid (InnerD.below Ip1.out k);replace Cp1:=hid (Bx.below Cp1.out k);replace Ip2:=hid (InnerD.below Ip2.out k);replace hb:=bstep hb k;clear k hw hb6;go_wp2_with fail
 refine (A4.out _).mono ?_;rintro e w9 ⟨⟨a1,e1,J1⟩,rfl,hx,ox,k⟩;replace Ip1:=hid (InnerD.below Ip1.out k);replace Cp1:=hid (Bx.below Cp1.out k);replace Ip2:=hid (InnerD.below Ip2.out k);replace Cp2:=hid (Bx.below Cp2.out k);replace hb:=bstep hb k;have EJ1:Hid (J1.map RM.m=v4):=hid hx;have IJ1:Hid (MSz w9 a1 J1):=hid (OwnMs.sz ox (by show FitMs (J1.map RM.m);rw[EJ1.out];exact F4.out));clear k hx ox;go_wp2_with fail
 refine (B4.out _).mono ?_;rintro e w9 ⟨⟨a2,e2,J2⟩,rfl,hx,ox,k⟩;replace Ip1:=hid (InnerD.below Ip1.out k);replace Cp1:=hid (Bx.below Cp1.out k);replace Ip2:=hid (InnerD.below Ip2.out k);replace Cp2:=hid (Bx.below Cp2.out k);replace IJ1:=hid (MSz.below IJ1.out k);replace hb:=bstep hb k;have EJ2:Hid (J2.map RM.m=v4):=hid hx;have IJ2:Hid (MSz w9 a2 J2):=hid (OwnMs.sz ox (by show FitMs (J2.map RM.m);rw[EJ2.out];exact F4.out));clear k hx ox;have S1:=hid (fun W (i1:InnerD W p1.ba p1.b p1.x) (i2:InnerD W p2.ba p2.b p2.x)=>(by
  have e:p1.b=p2.b:=congrArg Prod.fst (Ep1.out.trans Ep2.out.symm);have l1:p1.b.length≤65537:=by have q:=F3.out.1.1;rw[← Ep1.out] at q;exact q
  have l2:p2.b.length≤65537:=by have q:=F3.out.1.1;rw[← Ep2.out] at q;exact q
  have h:=RefDots.same_any p1.b p2.b p1.ba p2.ba p1.b.length p2.b.length p1.bc p2.bc W i1.1 i2.1 (by omega) (by omega);rw[decide_eq_true e] at h;exact h:CB 29 #[.slice p1.ba p1.b.length p1.bc,.slice p2.ba p2.b.length p2.bc] W (.bool true)))
 have S2:=hid (fun W (i1:InnerD W p1.ba p1.b p1.x) (i2:InnerD W p2.ba p2.b p2.x)=>(by
  have e1:p1.x.s=v3.2:=congrArg Prod.snd Ep1.out;have e2:p2.x.s=v3.2:=congrArg Prod.snd Ep2.out;have h:=sameS_any p1.x p2.x W i1.2 i2.2 (FitS.ok (by rw[e1];exact F3.out.2.1) (by rw[e1];exact F3.out.2.2)) (FitS.ok (by rw[e2];exact F3.out.2.1) (by rw[e2];exact F3.out.2.2));rw[decide_eq_true (e1.trans e2.symm)] at h;exact h:CB 24 #[.agg p1.x,.agg p2.x] W (.bool true)))
 have S3:=hid (fun W (i1:MSz W a1 J1) (i2:MSz W a2 J2)=>sameM_any J1 J2 a1 a2 e1 e2 W i1 i2 (EJ1.out.trans EJ2.out.symm));clear A3 B3 A4 B4 F3 F4 Ep1 Ep2 EJ1 EJ2;obtain ⟨c0,c1,c2,c3⟩:=al4 Cp1.out;obtain ⟨d0,d1,d2,d3⟩:=al4 Cp2.out;go_wp2_with fail
 refine cr (S1.out _ Ip1.out Ip2.out) fun w9 k=>?_;clear c0 d0 c1 d1 c2 d2 c3 d3;replace Ip1:=hid (InnerD.below Ip1.out k);replace Cp1:=hid (Bx.below Cp1.out k);replace Ip2:=hid (InnerD.below Ip2.out k);replace Cp2:=hid (Bx.below Cp2.out k);replace IJ1:=hid (MSz.below IJ1.out k);replace IJ2:=hid (MSz.below IJ2.out k);replace hb:=bstep hb k;clear k S1;obtain ⟨c0,c1,c2,c3⟩:=al4 Cp1.out;obtain ⟨d0,d1,d2,d3⟩:=al4 Cp2.out;go_wp2_with fail
 refine cr (S2.out _ Ip1.out Ip2.out) fun w9 k=>?_;clear c0 d0 c1 d1 c2 d2 c3 d3;replace Ip1:=hid (InnerD.below Ip1.out k);replace Cp1:=hid (Bx.below Cp1.out k);replace Ip2:=hid (InnerD.below Ip2.out k);replace Cp2:=hid (Bx.below Cp2.out k);replace IJ1:=hid (MSz.below IJ1.out k);replace IJ2:=hid (MSz.below IJ2.out k);replace hb:=bstep hb k;clear k S2;clear Ip1 Ip2 Cp1 Cp2;go_wp2_with fail
 refine cr (S3.out _ IJ1.out IJ2.out) fun w9 k=>?_;replace IJ1:=hid (MSz.below IJ1.out k);replace IJ2:=hid (MSz.below IJ2.out k);replace hb:=bstep hb k;clear k S3;clear IJ1 IJ2;have EO:=fun W=>eql_op v5 W;go_wp2_with fail
 refine cr (A5.out _) fun w9 k=>?_;replace hb:=bstep hb k;clear k;go_upto_region 16 with (fail)
 obtain ⟨b7,w9,hb7,hw,Cb7,k⟩:=Bx.mk w9 v5 38;rw[← hw,← hb7];replace hb:=bstep hb k;clear k hw hb7;go_wp2_with fail
 refine cr (B5.out _) fun w9 k=>?_;replace Cb7:=hid (Bx.below Cb7.out k);replace hb:=bstep hb k;clear k;go_upto_region 17 with (fail)
 obtain ⟨b8,w9,hb8,hw,Cb8,k⟩:=Bx.mk w9 v5 38;rw[← hw,← hb8];replace Cb7:=hid (Bx.below Cb7.out k);replace hb:=bstep hb k;clear k hw hb8;obtain ⟨c0,c1,c2,c3⟩:=al4 Cb7.out;obtain ⟨d0,d1,d2,d3⟩:=al4 Cb8.out;go_wp2_with fail
 refine cr (alive_any _) fun w9 k=>?_;replace hb:=bstep hb k;go_wp2;go_ret;exact ⟨rfl,hb⟩
end CoderReads
end Go.Proofs.YtnpjkmomllkhpaaGreatDoor
