/- MemPlace, RefMem, RefMemF, MemForg. -/
import Derived.Test.YtnpjkmomllkhpaaGreatDoorTn33
import Derived.Test.YtnpjkmomllkhpaaGreatDoorTn18
set_option linter.unusedVariables false
set_option linter.unusedSimpArgs false
set_option maxRecDepth 100000
set_option maxHeartbeats 8000000
namespace Go.Proofs.YtnpjkmomllkhpaaGreatDoor
namespace Mem
open RowKit Num Path Coder
def plc (J:List RM) (p:List UInt8):Option Value:=(J.findIdx? fun m=>decide (m.p=p)).map fun (i:Nat)=>Value.int .i64 (i:Int)
theorem plc_cons (x:RM) (J:List RM) (p:List UInt8):(x::J).findIdx? (fun m=>decide (m.p=p))=if x.p=p then some 0 else (J.findIdx? fun m=>decide (m.p=p)).map (· + 1):=by
 rw[List.findIdx?_cons];by_cases h:x.p=p
 · rw[if_pos h,decide_eq_true h];rfl
 rw[if_neg h,decide_eq_false h];rfl
theorem plc_snoc (J:List RM) (x:RM) (p:List UInt8):plc (J++[x]) p=if (plc J p).isSome then plc J p else if x.p=p then some (.int .i64 (J.length:Int)) else none:=by
 unfold plc;rw[List.findIdx?_append];cases h:J.findIdx? (fun m=>decide (m.p=p)) with
 | some i=>rfl
 | none =>
  rw[plc_cons];by_cases e:x.p=p
  · rw[if_pos e,if_pos e];simp
  rw[if_neg e,if_neg e];simp
theorem plc_ways:∀ (J:List RM) (p:List UInt8),(plc J p=none∧ofM (J.map RM.m) p=none)∨∃ i,∃ h:i<J.length,plc J p=some (.int .i64 (i:Int))∧ofM (J.map RM.m) p=some (J[i]).m
 | [],p=>.inl ⟨rfl,rfl⟩
 | x::J,p=>by
  unfold plc ofM;rw[plc_cons,List.map_cons,List.find?_cons];by_cases e:x.p=p
  ·rw[if_pos e];have:decide (x.m.p=p)=true:=decide_eq_true e;rw[this];exact .inr ⟨0,by simp,rfl,rfl⟩
  rw[if_neg e];have:decide (x.m.p=p)=false:=decide_eq_false e;rw[this];rcases plc_ways J p with ⟨h1,h2⟩ | ⟨i,h,h1,h2⟩
  ·refine .inl ⟨?_,h2⟩;unfold plc at h1;rw[Option.map_eq_none_iff] at h1;rw[h1];rfl
  refine .inr ⟨i+1,by simpa using h,?_,h2⟩;unfold plc at h1;rw[Option.map_eq_some_iff] at h1;obtain ⟨k,hk,e⟩:=h1;have:k=i:=by
   have:(k:Int)=(i:Int):=by simpa using e
   omega
  subst this;rw[hk];rfl
theorem zero_int {w:World}:(zeroValue 3).run Tryz.prog w=.ok (.int .i64 0) w:=by kernel_rfl
abbrev At (w:World) (b n:Nat) (J:List RM):Prop:=TextMap.Is Tryz.prog 9 w b n (plc J)
theorem parent_len (p:List UInt8):(parentL p).length≤1099511627776:=by
 unfold parentL;split
 · simp
 rename_i h
 exact write_len _ ((parse_valid p (by intro e;rw[e] at h;simp at h)).dropLast (by omega))
theorem places_any (J:List RM) (a:Option Addr) (c:Nat) (w:World) (hJ:Row.Lies mbE w a J.length J) (hn:J.length≤1048576) (hp:∀ x ∈ J,x.p.length≤1048576) :
  Calls Tryz.prog 118 #[.slice a J.length c] w fun e w'=>∃ b,e=.returned (.map (some b))∧At w' b J.length J∧w.heap.size≤b∧Below w.heap.size w w':=by
 have hmm:=@TextSet.run_make Tryz.prog _ _ _ Tryz.underlying172;have LJ:=hid hJ;have HP:=hid hp;clear hJ hp;have M0:Hid (At (w.alloc (.map #[] 0)) w.heap.size 0 (J.take 0)):=hid (TextMap.Is.ext (TextMap.Is.made w) (fun q=>by simp[plc]));have hb:=balloc (Below.refl w.heap.size w) (.map #[] 0);go_enter Tryz.func118,Tryz.ntmps118;go_upto_region 2 with (fail)
 obtain ⟨W,hW⟩:=nm (w.alloc (.map #[] 0));rw[← hW] at M0 hb ⊢;obtain ⟨mb,hmb⟩:=nm w.heap.size;have HMB:Hid (w.heap.size≤mb):=hid (by omega);rw[← hmb] at M0 ⊢;clear hW hmb;go_wp2_with fail
 go_loopw [13] (fun iv wr=>∃ k:Nat,k≤J.length∧iv=.int .i64 k∧Hid (At wr mb k (J.take k))∧Below w.heap.size w wr) (fun iv _=>J.length - (intOf iv).toNat)
 case atStart=>exact ⟨0,by omega,rfl,M0,hb⟩
 clear hb M0;obtain ⟨k,hk,rfl,M,hb⟩:=hrel;by_cases hlt:k<J.length
 ·obtain ⟨b,off,rfl,hcell⟩:=(LJ.out.below hb).2 (by omega);have d1:=dT (p:=(k:Int)<(J.length:Int));have j1:(0:Int)≤(k:Int):=by omega
  have j2:(k:Int)<(J.length:Int):=by omega
  obtain ⟨c0,c1,c2,c3,c4,c5,c6,c7,c8,c9,c10,c11,c12,c13,c14⟩:=cl15 (off+k*15) (hcell k hlt);have HPM:=hid (HP.out _ (List.getElem_mem hlt));have HT:=hid (fun q=>by have:=plc_snoc (J.take k) J[k] q;rwa [List.take_append_getElem hlt,List.length_take,Nat.min_eq_left hk] at this:∀ q,plc (J.take (k+1)) q=if (plc (J.take k) q).isSome then plc (J.take k) q else if (J[k]).p=q then some (.int .i64 (k:Int)) else none);obtain ⟨m,hm⟩:=nm J[k];rw[← hm] at HT HPM c0 c1 c2 c3 c4 c5 c6 c7 c8 c9 c10 c11 c12 c13 c14;have HLT:=hid hlt;clear hm hcell hlt hk;go_upto_region 5 with (fail)
  have hb2:=balloc hb (.cells m 92);have M2:=hid (TextMap.Is.alloc M.out (.cells m 92));have f0:=Coder.box_cells wr m 92 0 (.string ⟨m.p.toArray⟩) rfl;obtain ⟨wd,hwd⟩:=nm (wr.alloc (.cells m 92));rw[← hwd] at hb2 M2 f0 ⊢;obtain ⟨bx,hbx⟩:=nm wr.heap.size;rw[← hbx] at f0 ⊢;clear hwd hbx hb M c0 c1 c2 c3 c4 c5 c6 c7 c8 c9 c10 c11 c12 c13 c14;cases hf:plc (J.take k) m.p with
  | none =>
   have HV:Hid ((plc (J.take k) m.p).getD (.int .i64 0)=.int .i64 0):=hid (by rw[hf];rfl);have HI:Hid ((plc (J.take k) m.p).isSome=false):=hid (by rw[hf];rfl);have HF:=hid hf;clear hf;go_wp2_with (first
    | (at_lookup;refine TextMap.wpList_look_ok Tryz.underlying172 Tryz.underlying9 zero_int rfl _ _ rfl mb k (plc (J.take k)) m.p rfl M2.out rfl (by have:=HPM.out;unfold maxLen;omega) _ HV.out false HI.out ?_)
    | (at_mapUpdate;refine TextMap.wpList_put Tryz.underlying172 Tryz.underlying9 rfl _ _ _ rfl mb k (plc (J.take k)) m.p (.int .i64 (k:Int)) rfl M2.out (by have:=HLT.out;unfold maxLen;omega) rfl (by have:=HPM.out;unfold maxLen;omega) rfl ?_;intro w9 S9 k9))
   have HE:Hid (∀ q,TextMap.put (plc (J.take k)) m.p (.int .i64 (k:Int)) q=plc (J.take (k+1)) q):=hid (fun q=>by
    rw[HT.out];unfold TextMap.put;by_cases e:q=m.p
    · subst e;rw[if_pos rfl,HF.out];simp
    rw[if_neg e];cases hq:plc (J.take k) q with
    | some u=>rfl
    | none=>rw[if_neg (by simp),if_neg (fun h=>e h.symm)])
   go_roundw
   ·exact ⟨k+1,by have:=HLT.out;omega,by go_num,hid (TextMap.Is.ext S9 HE.out),Below.grown hb2 k9 hb2.size (fun j hj=>by cases hj;exact HMB.out)⟩
   have:=HLT.out;simp[intOf];omega
  | some v =>
   have HV:Hid ((plc (J.take k) m.p).getD (.int .i64 0)=v):=hid (by rw[hf];rfl);have HI:Hid ((plc (J.take k) m.p).isSome=true):=hid (by rw[hf];rfl);have HF:=hid hf;clear hf;go_wp2_with (at_lookup;refine TextMap.wpList_look_ok Tryz.underlying172 Tryz.underlying9 zero_int rfl _ _ rfl mb k (plc (J.take k)) m.p rfl M2.out rfl (by have:=HPM.out;unfold maxLen;omega) _ HV.out true HI.out ?_)
   have HE:Hid (∀ q,plc (J.take k) q=plc (J.take (k+1)) q):=hid (fun q=>by
    rw[HT.out];cases hq:plc (J.take k) q with
    | some u=>rfl
    | none =>
     by_cases e:m.p=q
     · subst e;rw[HF.out] at hq;cases hq
     rw[if_neg e];rfl)
   go_roundw
   ·exact ⟨k+1,by have:=HLT.out;omega,by go_num,hid (TextMap.Is.ext (TextMap.Is.mono M2.out (Nat.le_succ k)) HE.out),hb2⟩
   have:=HLT.out;simp[intOf];omega
 have e:k=J.length:=by omega
 subst e;have d1:=dF (p:=(J.length:Int)<(J.length:Int));have M3:Hid (At wr mb J.length J):=hid (by have:=M.out;rwa [List.take_length] at this);clear M;go_wp2;go_ret;exact ⟨mb,rfl,M3.out,HMB.out,hb⟩
theorem void_any (J:List RM) (a:Option Addr) (c mb n:Nat) (p:List UInt8) (w:World) (hJ:Row.Lies mbE w a J.length J) (hM:At w mb n J) (hn:J.length≤1048576) (hp:p.length≤1048576) :
  CB 124 #[.slice a J.length c,.map (some mb),p] w (tv (VoidM (J.map RM.m) p)):=by
 have LJ:=hid hJ;have M:=hid hM;have C0:=hid (fun W=>parent_any p W (by omega));have HP:=hid hp;obtain ⟨q,hq⟩:=nm (parentL p);have HQL:Hid (q.length≤1099511627776):=hid (by rw[hq];exact parent_len p);have hw:=plc_ways J q;have HVM:Hid (VoidM (J.map RM.m) p↔∃ m,ofM (J.map RM.m) q=some m∧CutM m p):=hid (by rw[hq];exact Iff.rfl);rw[← hq] at C0;clear hJ hM hq hp;rcases hw with ⟨h1,h2⟩ | ⟨i,hi,h1,h2⟩
 ·have HLV:Hid ((plc J q).getD (.int .i64 0)=.int .i64 0):=hid (by rw[h1];rfl);have HLI:Hid ((plc J q).isSome=false):=hid (by rw[h1];rfl);have HV:Hid (tv (VoidM (J.map RM.m) p)=false):=hid (tv_false fun h=>by
   obtain ⟨m,e,_⟩:=HVM.out.1 h;rw[h2] at e;cases e)
  clear h1 h2;go_enter Tryz.func124,Tryz.ntmps124;go_wp2_with fail
  refine cr (C0.out _) fun w1 k1=>?_;replace M:=hid (TextMap.Is.below M.out k1);go_wp2_with (at_lookup;refine TextMap.wpList_look_ok Tryz.underlying172 Tryz.underlying9 zero_int rfl _ _ rfl mb n (plc J) q rfl M.out rfl (by have:=HQL.out;unfold maxLen;omega) _ HLV.out false HLI.out ?_)
  go_ret;exact ⟨by rw[HV.out];rfl,k1⟩
 have HLV:Hid ((plc J q).getD (.int .i64 0)=.int .i64 (i:Int)):=hid (by rw[h1];rfl);have HLI:Hid ((plc J q).isSome=true):=hid (by rw[h1];rfl);have HV:Hid (tv (VoidM (J.map RM.m) p)=tv (CutM (J[i]).m p)):=hid (tv_congr (HVM.out.trans ⟨fun ⟨m,e,h⟩=>by rw[h2] at e;cases e;exact h,fun h=>⟨_,h2,h⟩⟩));obtain ⟨b,off,rfl,hcell⟩:=LJ.out.2 (by omega);have j1:(0:Int)≤(i:Int):=by omega
 have j2:(i:Int)<(J.length:Int):=by omega
 obtain ⟨c0,c1,c2,c3,c4,c5,c6,c7,c8,c9,c10,c11,c12,c13,c14⟩:=cl15 (off+i*15) (hcell i hi);obtain ⟨m,hm⟩:=nm J[i];rw[← hm] at HV c0 c1 c2 c3 c4 c5 c6 c7 c8 c9 c10 c11 c12 c13 c14;have C1:=hid (fun W=>cuts_any m p W HP.out);obtain ⟨v,hv⟩:=nm (tv (CutM m.m p));rw[← hv] at C1 HV;clear h1 h2 hm hcell hv;go_enter Tryz.func124,Tryz.ntmps124;go_wp2_with fail
 refine cr (C0.out _) fun w1 k1=>?_;replace M:=hid (TextMap.Is.below M.out k1);have hA:=kp k1 (aj15 c0 c1 c2 c3 c4 c5 c6 c7 c8 c9 c10 c11 c12 c13 c14);clear c0 c1 c2 c3 c4 c5 c6 c7 c8 c9 c10 c11 c12 c13 c14;obtain ⟨c0,c1,c2,c3,c4,c5,c6,c7,c8,c9,c10,c11,c12,c13,c14⟩:=hA;go_wp2_with (first | (fail) | (at_lookup;refine TextMap.wpList_look_ok Tryz.underlying172 Tryz.underlying9 zero_int rfl _ _ rfl mb n (plc J) q rfl M.out rfl (by have:=HQL.out;unfold maxLen;omega) _ HLV.out true HLI.out ?_))
 refine cr (C1.out _) fun w2 k2=>?_;have hb:=bstep k1 k2;go_wp2;go_ret;exact ⟨by rw[HV.out];rfl,hb⟩
end Mem
namespace RefMem
open RowKit Num Path Coder Mem
theorem in_step {g:List Sn} {n:Int} {k:Nat} (h:k<g.length):(g.drop k).any (inB n)=(inB n g[k] || (g.drop (k+1)).any (inB n)):=by rw[List.drop_eq_getElem_cons h];rfl
def rmz:RM:=⟨[],0,0,0,0,none,0,[],.zero,none,0,[]⟩
def ofR (J:List RM) (p:List UInt8):RM:=(J.find? fun m=>decide (m.p=p)).getD rmz
def isR (J:List RM) (p:List UInt8):Bool:=(J.find? fun m=>decide (m.p=p)).isSome
theorem of_iff (J:List RM) (p:List UInt8):ofM (J.map RM.m) p=if isR J p then some (ofR J p).m else none:=by
 unfold ofM isR ofR;induction J with
 | nil=>rfl
 | cons x J ih =>
  rw[List.map_cons,List.find?_cons,List.find?_cons];by_cases e:x.p=p
  ·have h1:decide (x.m.p=p)=true:=decide_eq_true e;have h2:decide (x.p=p)=true:=decide_eq_true e;rw[h1,h2];rfl
  have h1:decide (x.m.p=p)=false:=decide_eq_false e;have h2:decide (x.p=p)=false:=decide_eq_false e;rw[h1,h2];exact ih
theorem of_mem {J:List RM} {p:List UInt8} (h:isR J p=true):ofR J p ∈ J:=by
 unfold isR at h;unfold ofR;cases e:J.find? (fun m=>decide (m.p=p)) with
 | none=>rw[e] at h;cases h
 | some x=>exact List.mem_of_find?_eq_some e
theorem of_none {J:List RM} {p:List UInt8} (h:∀ j (hj:j<J.length),(J[j]).p≠p):ofR J p=rmz∧isR J p=false:=by
 unfold ofR isR;have:J.find? (fun m=>decide (m.p=p))=none:=by
  rw[List.find?_eq_none];intro x hx;obtain ⟨j,hj,rfl⟩:=List.mem_iff_getElem.1 hx;simpa using h j hj
 rw[this];exact ⟨rfl,rfl⟩
theorem of_some {J:List RM} {p:List UInt8} {k:Nat} (hk:k<J.length) (h0:(J[k]).p=p) (h:∀ j (hj:j<J.length),j<k→(J[j]).p≠p):ofR J p=J[k]∧isR J p=true:=by
 unfold ofR isR;have:J.find? (fun m=>decide (m.p=p))=some J[k]:=by
  rw[List.find?_eq_some_iff_getElem];exact ⟨by simpa using h0,k,hk,rfl,fun j hj=>by simpa using h j (by omega) hj⟩
 rw[this];exact ⟨rfl,rfl⟩
def nx (cur:List Nat):List Nat:=if cur.length<2 then [] else cur.dropLast
theorem nx_step {cur:List Nat} {n:Nat} (hv:Valid cur) (hn:cur.length≤n+1):rest n cur=cur::rest (n - 1) (nx cur)∧(nx cur=[]∨Valid (nx cur))∧(nx cur).length≤(n - 1)+1∧(write (nx cur)).length<(write cur).length∧parentL (write cur)=write (nx cur):=by
 refine ⟨?_,?_,?_,write_lt cur hv,parent_write cur hv⟩
 ·rw[rest,if_neg hv.ne];congr 1
  unfold nx;by_cases h2:cur.length<2
  ·rw[if_pos h2,rest,if_pos rfl];cases n with
   | zero=>rfl
   | succ n=>rw[ups,if_pos h2]
  rw[if_neg h2,rest,if_neg (hv.dropLast (by omega)).ne];obtain ⟨k,rfl⟩:∃ k,n=k+1:=⟨n - 1,by omega⟩
  rw[ups_step h2];rfl
 ·unfold nx;by_cases h2:cur.length<2
  · rw[if_pos h2];exact .inl rfl
  rw[if_neg h2];exact .inr (hv.dropLast (by omega))
 unfold nx;split
 · simp
 rw[List.length_dropLast];omega
theorem in_any (n:Int) (L:List Sn) (a:Option Addr) (c:Nat) (w:World) (hL:Row.Lies snE w a L.length L) (hn:L.length≤1048576) :
  CB 247 #[.slice a L.length c,.int .i64 n] w (L.any (inB n)):=by
 have HL:=hid hL;obtain ⟨V,hV⟩:=nm (L.any (inB n));have HV0:Hid (V=(L.drop 0).any (inB n)):=hid (by rw[hV];rfl);rw[← hV];clear hL hV;go_enter Tryz.func247,Tryz.ntmps247;go_wp2_with fail
 go_loopw [5] (fun iv wr=>∃ k:Nat,k≤L.length∧iv=.int .i64 k∧Hid (V=(L.drop k).any (inB n))∧wr=w) (fun iv _=>L.length - (intOf iv).toNat)
 case atStart=>exact ⟨0,by omega,rfl,HV0,rfl⟩
 obtain ⟨k,hk,rfl,HI,rfl⟩:=hrel;by_cases hlt:k<L.length
 ·obtain ⟨b,off,rfl,hcell⟩:=HL.out.2 (by omega);have d1:=dT (p:=(k:Int)<(L.length:Int));have j1:(0:Int)≤(k:Int):=by omega
  have j2:(k:Int)<(L.length:Int):=by omega
  obtain ⟨c1,c2⟩:=cl2 (off+k*2) (hcell k hlt);have HS:=hid (in_step (n:=n) hlt);obtain ⟨m,hm⟩:=nm L[k];rw[← hm] at c1 c2 HS;have HLT:=hid hlt;clear hm hcell hlt;by_cases h1:m.f≤n
  ·have e1:decide (n≥m.f)=true:=decide_eq_true h1;have e2:decide (m.f≤n)=true:=decide_eq_true h1;by_cases h2:n<m.t
   ·have e3:decide (n<m.t)=true:=decide_eq_true h2;have HV:Hid (V=true):=hid (by rw[HI.out,HS.out];unfold inB;rw[e2,e3];rfl);go_wp2;go_ret;exact ⟨by rw[HV.out];rfl,Below.refl _ _⟩
   have e3:decide (n<m.t)=false:=decide_eq_false h2;have HV:Hid (V=(L.drop (k+1)).any (inB n)):=hid (by rw[HI.out,HS.out];unfold inB;rw[e2,e3];rfl);go_wp2;go_roundw
   ·exact ⟨k+1,by have:=HLT.out;omega,by go_num,HV,trivial⟩
   have:=HLT.out;simp[intOf];omega
  have e1:decide (n≥m.f)=false:=decide_eq_false h1;have e2:decide (m.f≤n)=false:=decide_eq_false h1;have HV:Hid (V=(L.drop (k+1)).any (inB n)):=hid (by rw[HI.out,HS.out];unfold inB;rw[e2];rfl);go_wp2;go_roundw
  ·exact ⟨k+1,by have:=HLT.out;omega,by go_num,HV,trivial⟩
  have:=HLT.out;simp[intOf];omega
 have d1:=dF (p:=(k:Int)<(L.length:Int));have e:k=L.length:=by omega
 have HV:Hid (V=false):=hid (by rw[HI.out,e,List.drop_length];rfl);go_wp2;go_ret;exact ⟨by rw[HV.out];rfl,Below.refl _ _⟩
def tupR (x:RM) (i:Bool):Value:=.tuple #[.agg x,i]
theorem of_any (J:List RM) (p:List UInt8) (a:Option Addr) (c:Nat) (w:World) (hJ:Row.Lies mbE w a J.length J) (hn:J.length≤1048576) :
  CB 201 #[.slice a J.length c,p] w (tupR (ofR J p) (isR J p)):=by
 have HL:=hid hJ;clear hJ;go_enter Tryz.func201,Tryz.ntmps201;go_wp2_with fail
 go_loopw [6] (fun iv wr=>∃ k:Nat,k≤J.length∧iv=.int .i64 k∧Hid (∀ j (hj:j<J.length),j<k→(J[j]).p≠p)∧wr=w.alloc (.cells #[.string ⟨#[]⟩,.int .u8 0,.int .i64 0,.int .i64 0,.int .u64 0,.slice none 0 0,.string ⟨#[]⟩,.int .u64 0,.string ⟨#[]⟩,.string ⟨#[]⟩,.int .u64 0,.string ⟨#[]⟩,.int .u64 0,.bool false,.slice none 0 0] 92)) (fun iv _=>J.length - (intOf iv).toNat)
 case atStart=>exact ⟨0,by omega,rfl,hid (fun j _ h=>absurd h (by omega)),rfl⟩
 obtain ⟨k,hk,rfl,HI,rfl⟩:=hrel;by_cases hlt:k<J.length
 ·obtain ⟨b,off,rfl,hcell⟩:=(HL.out.below (balloc (Below.refl _ _) (.cells #[.string ⟨#[]⟩,.int .u8 0,.int .i64 0,.int .i64 0,.int .u64 0,.slice none 0 0,.string ⟨#[]⟩,.int .u64 0,.string ⟨#[]⟩,.string ⟨#[]⟩,.int .u64 0,.string ⟨#[]⟩,.int .u64 0,.bool false,.slice none 0 0] 92))).2 (by omega);have d1:=dT (p:=(k:Int)<(J.length:Int));have j1:(0:Int)≤(k:Int):=by omega
  have j2:(k:Int)<(J.length:Int):=by omega
  obtain ⟨b',off',e',hcw⟩:=HL.out.2 (by omega);obtain ⟨rfl,rfl⟩:b=b'∧off=off':=by simpa using e'
  have bl:b<w.heap.size:=World.block_lt_of_cell? _ _ (hcw k hlt 0 _ rfl);have c0:(w.alloc (.cells #[.string ⟨#[]⟩,.int .u8 0,.int .i64 0,.int .i64 0,.int .u64 0,.slice none 0 0,.string ⟨#[]⟩,.int .u64 0,.string ⟨#[]⟩,.string ⟨#[]⟩,.int .u64 0,.string ⟨#[]⟩,.int .u64 0,.bool false,.slice none 0 0] 92)).cell? ⟨b,off+k*15,none⟩=some (.string ⟨(J[k]).p.toArray⟩):=hcell k hlt 0 _ rfl;have c1:(w.alloc (.cells #[.string ⟨#[]⟩,.int .u8 0,.int .i64 0,.int .i64 0,.int .u64 0,.slice none 0 0,.string ⟨#[]⟩,.int .u64 0,.string ⟨#[]⟩,.string ⟨#[]⟩,.int .u64 0,.string ⟨#[]⟩,.int .u64 0,.bool false,.slice none 0 0] 92)).cell? ⟨b,off+k*15+1,none⟩=some (.int .u8 ((J[k]).s:Int)):=hcell k hlt 1 _ rfl;have c2:(w.alloc (.cells #[.string ⟨#[]⟩,.int .u8 0,.int .i64 0,.int .i64 0,.int .u64 0,.slice none 0 0,.string ⟨#[]⟩,.int .u64 0,.string ⟨#[]⟩,.string ⟨#[]⟩,.int .u64 0,.string ⟨#[]⟩,.int .u64 0,.bool false,.slice none 0 0] 92)).cell? ⟨b,off+k*15+2,none⟩=some (.int .i64 (J[k]).k):=hcell k hlt 2 _ rfl;have c3:(w.alloc (.cells #[.string ⟨#[]⟩,.int .u8 0,.int .i64 0,.int .i64 0,.int .u64 0,.slice none 0 0,.string ⟨#[]⟩,.int .u64 0,.string ⟨#[]⟩,.string ⟨#[]⟩,.int .u64 0,.string ⟨#[]⟩,.int .u64 0,.bool false,.slice none 0 0] 92)).cell? ⟨b,off+k*15+3,none⟩=some (.int .i64 (J[k]).c):=hcell k hlt 3 _ rfl;have c4:(w.alloc (.cells #[.string ⟨#[]⟩,.int .u8 0,.int .i64 0,.int .i64 0,.int .u64 0,.slice none 0 0,.string ⟨#[]⟩,.int .u64 0,.string ⟨#[]⟩,.string ⟨#[]⟩,.int .u64 0,.string ⟨#[]⟩,.int .u64 0,.bool false,.slice none 0 0] 92)).cell? ⟨b,off+k*15+4,none⟩=some (.int .u64 ((J[k]).l:Int)):=hcell k hlt 4 _ rfl;have c5:(w.alloc (.cells #[.string ⟨#[]⟩,.int .u8 0,.int .i64 0,.int .i64 0,.int .u64 0,.slice none 0 0,.string ⟨#[]⟩,.int .u64 0,.string ⟨#[]⟩,.string ⟨#[]⟩,.int .u64 0,.string ⟨#[]⟩,.int .u64 0,.bool false,.slice none 0 0] 92)).cell? ⟨b,off+k*15+5,none⟩=some (.slice (J[k]).ga (J[k]).g.length (J[k]).gc):=hcell k hlt 5 _ rfl;have c6:(w.alloc (.cells #[.string ⟨#[]⟩,.int .u8 0,.int .i64 0,.int .i64 0,.int .u64 0,.slice none 0 0,.string ⟨#[]⟩,.int .u64 0,.string ⟨#[]⟩,.string ⟨#[]⟩,.int .u64 0,.string ⟨#[]⟩,.int .u64 0,.bool false,.slice none 0 0] 92)).cell? ⟨b,off+k*15+6,none⟩=some (.string ⟨(J[k]).q.k.toArray⟩):=hcell k hlt 6 _ rfl;have c7:(w.alloc (.cells #[.string ⟨#[]⟩,.int .u8 0,.int .i64 0,.int .i64 0,.int .u64 0,.slice none 0 0,.string ⟨#[]⟩,.int .u64 0,.string ⟨#[]⟩,.string ⟨#[]⟩,.int .u64 0,.string ⟨#[]⟩,.int .u64 0,.bool false,.slice none 0 0] 92)).cell? ⟨b,off+k*15+7,none⟩=some (.int .u64 ((J[k]).q.r:Int)):=hcell k hlt 7 _ rfl;have c8:(w.alloc (.cells #[.string ⟨#[]⟩,.int .u8 0,.int .i64 0,.int .i64 0,.int .u64 0,.slice none 0 0,.string ⟨#[]⟩,.int .u64 0,.string ⟨#[]⟩,.string ⟨#[]⟩,.int .u64 0,.string ⟨#[]⟩,.int .u64 0,.bool false,.slice none 0 0] 92)).cell? ⟨b,off+k*15+8,none⟩=some (.string ⟨(J[k]).q.l.toArray⟩):=hcell k hlt 8 _ rfl;have c9:(w.alloc (.cells #[.string ⟨#[]⟩,.int .u8 0,.int .i64 0,.int .i64 0,.int .u64 0,.slice none 0 0,.string ⟨#[]⟩,.int .u64 0,.string ⟨#[]⟩,.string ⟨#[]⟩,.int .u64 0,.string ⟨#[]⟩,.int .u64 0,.bool false,.slice none 0 0] 92)).cell? ⟨b,off+k*15+9,none⟩=some (.string ⟨(J[k]).q.a.b.toArray⟩):=hcell k hlt 9 _ rfl;have c10:(w.alloc (.cells #[.string ⟨#[]⟩,.int .u8 0,.int .i64 0,.int .i64 0,.int .u64 0,.slice none 0 0,.string ⟨#[]⟩,.int .u64 0,.string ⟨#[]⟩,.string ⟨#[]⟩,.int .u64 0,.string ⟨#[]⟩,.int .u64 0,.bool false,.slice none 0 0] 92)).cell? ⟨b,off+k*15+10,none⟩=some (.int .u64 ((J[k]).q.a.n:Int)):=hcell k hlt 10 _ rfl;have c11:(w.alloc (.cells #[.string ⟨#[]⟩,.int .u8 0,.int .i64 0,.int .i64 0,.int .u64 0,.slice none 0 0,.string ⟨#[]⟩,.int .u64 0,.string ⟨#[]⟩,.string ⟨#[]⟩,.int .u64 0,.string ⟨#[]⟩,.int .u64 0,.bool false,.slice none 0 0] 92)).cell? ⟨b,off+k*15+11,none⟩=some (.string ⟨(J[k]).q.a.o.toArray⟩):=hcell k hlt 11 _ rfl;have c12:(w.alloc (.cells #[.string ⟨#[]⟩,.int .u8 0,.int .i64 0,.int .i64 0,.int .u64 0,.slice none 0 0,.string ⟨#[]⟩,.int .u64 0,.string ⟨#[]⟩,.string ⟨#[]⟩,.int .u64 0,.string ⟨#[]⟩,.int .u64 0,.bool false,.slice none 0 0] 92)).cell? ⟨b,off+k*15+12,none⟩=some (.int .u64 ((J[k]).q.a.m:Int)):=hcell k hlt 12 _ rfl;have c13:(w.alloc (.cells #[.string ⟨#[]⟩,.int .u8 0,.int .i64 0,.int .i64 0,.int .u64 0,.slice none 0 0,.string ⟨#[]⟩,.int .u64 0,.string ⟨#[]⟩,.string ⟨#[]⟩,.int .u64 0,.string ⟨#[]⟩,.int .u64 0,.bool false,.slice none 0 0] 92)).cell? ⟨b,off+k*15+13,none⟩=some (.bool (J[k]).q.d):=hcell k hlt 13 _ rfl;have c14:(w.alloc (.cells #[.string ⟨#[]⟩,.int .u8 0,.int .i64 0,.int .i64 0,.int .u64 0,.slice none 0 0,.string ⟨#[]⟩,.int .u64 0,.string ⟨#[]⟩,.string ⟨#[]⟩,.int .u64 0,.string ⟨#[]⟩,.int .u64 0,.bool false,.slice none 0 0] 92)).cell? ⟨b,off+k*15+14,none⟩=some (.slice (J[k]).wa (J[k]).w.length (J[k]).wc):=hcell k hlt 14 _ rfl;by_cases hp:(J[k]).p=p
  ·have HV:=hid (of_some hlt hp HI.out);obtain ⟨m,hm⟩:=nm J[k];rw[← hm] at HV c0 c1 c2 c3 c4 c5 c6 c7 c8 c9 c10 c11 c12 c13 c14 hp;have e0:(m.p == p)=true:=by rw[beq_iff_eq];exact hp
   clear hm hcell hcw hlt hp HI;go_wp2;have hb:=balloc (Below.refl w.heap.size w) (.cells m 92);refine bodyPost_ret (v:=tupR m true) (by simp[results,Tryz.results201,go_sem,tupR]) rfl ?_;exact ⟨by rw[HV.out.1,HV.out.2],hb⟩
  have HI2:Hid (∀ j (hj:j<J.length),j<k+1→(J[j]).p≠p):=hid (fun j hj hjk=>by
   rcases Nat.lt_or_ge j k with h | h
   · exact HI.out j hj h
   obtain rfl:j=k:=by omega
   exact hp)
  obtain ⟨m,hm⟩:=nm J[k];rw[← hm] at c0 c1 c2 c3 c4 c5 c6 c7 c8 c9 c10 c11 c12 c13 c14 hp;have e0:(m.p == p)=false:=by rw[beq_eq_false_iff_ne];exact hp
  have HLT:=hid hlt;clear hm hcell hcw hlt hp HI;go_wp2;go_roundw
  ·exact ⟨k+1,by have:=HLT.out;omega,by go_num,HI2,trivial⟩
  have:=HLT.out;simp[intOf];omega
 have d1:=dF (p:=(k:Int)<(J.length:Int));have HV:=hid (of_none (p:=p) (J:=J) (fun j hj=>HI.out j hj (by omega)));clear HI;go_wp2;have hb:=balloc (Below.refl w.heap.size w) (.cells #[.string ⟨#[]⟩,.int .u8 0,.int .i64 0,.int .i64 0,.int .u64 0,.slice none 0 0,.string ⟨#[]⟩,.int .u64 0,.string ⟨#[]⟩,.string ⟨#[]⟩,.int .u64 0,.string ⟨#[]⟩,.int .u64 0,.bool false,.slice none 0 0] 92);refine bodyPost_ret (v:=tupR rmz false) (by simp[results,Tryz.results201,go_sem,tupR,rmz,Pl.zero,Pr.zero]) rfl ?_;exact ⟨by rw[HV.out.1,HV.out.2],hb⟩
theorem ups_fuel:∀ (n m:Nat) (l:List Nat),l.length≤n+1→l.length≤m+1→ups n l=ups m l
 | 0,0,l,_,_=>rfl
 | 0,m+1,l,h,_=>by rw[ups,ups,if_pos (by omega)]
 | n+1,0,l,_,h=>by rw[ups,ups,if_pos (by omega)]
 | n+1,m+1,l,h1,h2=>by
  rw[ups,ups];by_cases h:l.length<2
  · rw[if_pos h,if_pos h]
  rw[if_neg h,if_neg h,ups_fuel n m _ (by rw[List.length_dropLast];omega) (by rw[List.length_dropLast];omega)]
theorem rest_fuel {n m:Nat} {l:List Nat} (h:l.length≤n+1) (k:l.length≤m+1):rest n l=rest m l:=by unfold rest;rw[ups_fuel n m l h k]
def chainL (s:List UInt8):List (List UInt8):=(rest 8 (parse s)).map write
theorem chain_nil {s:List UInt8} (h:¬ isP s):chainL s=[]:=by
 have:parse s=[]:=by unfold isP at h;exact Classical.not_not.1 h
 unfold chainL;rw[this];rfl
theorem chain_ups {s:List UInt8} (h:isP s):chainL s=s::upsT s:=by
 unfold chainL rest upsT;rw[if_neg h,List.map_cons,write_parse s h]
theorem chain_step {s:List UInt8} (h:isP s):chainL s=s::chainL (parentL s)∧(parentL s).length<s.length:=by
 have hv:=parse_valid s h;obtain ⟨h1,h2,h3,h4,h5⟩:=nx_step (n:=8) hv (by have:=hv.2.1;omega);rw[write_parse s h] at h4 h5;have hp:parse (write (nx (parse s)))=nx (parse s):=by
  rcases h2 with e | e
  · rw[e];decide
  exact parse_write _ e
 refine ⟨?_,by rw[h5];exact h4⟩;unfold chainL;rw[h1,h5,hp,List.map_cons,write_parse s h,rest_fuel (n:=8 - 1) (m:=8) h3 (by omega)]
theorem forg_iff (L:List Mb) (p:List UInt8):ForgM L p↔∃ q ∈ chainL p,HitM L q:=by
 by_cases h:isP p
 · rw[chain_ups h];exact ⟨fun k=>k.2,fun k=>⟨h,k⟩⟩
 rw[chain_nil h];exact ⟨fun k=>absurd k.1 h,fun ⟨_,k,_⟩=>by cases k⟩
theorem void_iff (L:List Mb) (p:List UInt8):VoidR L p↔VoidU L (chainL p):=by
 by_cases h:isP p
 · rw[chain_ups h];exact ⟨fun k=>k.2,fun k=>⟨h,k⟩⟩
 rw[chain_nil h];exact ⟨fun k=>absurd k.1 h,fun k=>k.elim⟩
theorem may_val {s:List UInt8} (h:isP s):decide (parse s≠[])=true:=decide_eq_true h
theorem may_not {s:List UInt8} (h:¬ isP s):decide (parse s≠[])=false:=decide_eq_false h
theorem forg_any (J:List RM) (p:List UInt8) (a:Option Addr) (c:Nat) (w:World) (hJ:LiesM w a J) (hn:J.length≤1048576) (hg:∀ x ∈ J,x.g.length≤1048576) (hp:p.length≤1048576) :
  CB 200 #[.slice a J.length c,p] w (tv (ForgM (J.map RM.m) p)):=by
 obtain ⟨v,hv⟩:=nm (tv (ForgM (J.map RM.m) p));have HV0:Hid (v=tv (∃ y ∈ chainL p,HitM (J.map RM.m) y)):=hid (by rw[hv];exact tv_congr (forg_iff _ _));have HP0:Hid (p.length≤1099511627776):=hid (by omega);have lj:=hid hJ;have HG:=hid hg;have HN:=hid hn;rw[← hv];clear hv hJ hg hp hn;have hb:=Below.refl w.heap.size w;go_enter Tryz.func200,Tryz.ntmps200;go_wp2_with fail
 go_loopw [5] (fun sv wr=>∃ s:List UInt8,sv=.string ⟨s.toArray⟩∧Hid (s.length≤1099511627776)∧Hid (v=tv (∃ y ∈ chainL s,HitM (J.map RM.m) y))∧Below w.heap.size w wr∧Hid (LiesM wr a J)) (fun sv _=>match sv with | .string t=>t.size | _=>0)
 case atStart=>exact ⟨p,rfl,HP0,HV0,hb,lj⟩
 clear HV0 HP0 hb lj;obtain ⟨s,rfl,HS,HV,hb,lj⟩:=hrel;have hsz:=Str.size_mk s;by_cases h0:s=[]
 ·have HE:Hid (v=false):=hid (by rw[HV.out,h0];exact tv_false (by rintro ⟨_,k,_⟩;exact absurd k (by first | (rw[chain_nil (by unfold isP;decide)];simp) | simp)));have e0:(s != [])=false:=by rw[h0];rfl
  have e1:(s == [])=true:=by rw[h0];rfl
  have e2:s.isEmpty=true:=by rw[h0];rfl
  clear h0 hsz;go_wp2;go_ret;exact ⟨by rw[HE.out];rfl,hb⟩
 have e0:(s != [])=true:=by rw[bne_iff_ne];exact h0
 have e1:(s == [])=false:=by rw[beq_eq_false_iff_ne];exact h0
 have e2:s.isEmpty=false:=by rw[List.isEmpty_eq_false_iff];exact h0
 have CM:=hid (fun W=>RefPath.may_any s W HS.out);by_cases hP:isP s;rotate_left
 ·have HE:Hid (v=false):=hid (by rw[HV.out,chain_nil hP];exact tv_false (by rintro ⟨_,k,_⟩;exact absurd k (by first | (rw[chain_nil (by unfold isP;decide)];simp) | simp)));rw[may_not hP] at CM;clear h0 hP hsz;go_wp2_with fail
  refine cr (CM.out _) fun w1 k1=>?_;replace hb:=bstep hb k1;go_wp2;go_ret;exact ⟨by rw[HE.out];rfl,hb⟩
 rw[may_val hP] at CM;obtain ⟨hst,hlen⟩:=chain_step hP;have C0:=hid (fun W=>RefPath.parent_any s W HS.out);have CN:=hid (fun W=>RefPath.number_any s W HS.out);obtain ⟨q,hq⟩:=nm (parentL s);obtain ⟨n,hnn⟩:=nm (last (parse s));rw[← hq] at C0 hst hlen;rw[← hnn] at CN;have HQ:=hid hq;have HNN:=hid hnn;have HST:=hid hst;have HLEN:=hid hlen;have hof:=of_iff J q;obtain ⟨x,hx⟩:=nm (ofR J q);have CO:=hid (fun W (l:LiesM W a J)=>of_any J q a c W l.1 HN.out);have HXM:=fun (h:isR J q=true)=>of_mem h;rw[← hx] at hof CO HXM;have HXM':=hid HXM;obtain ⟨r,hr⟩:=nm (isR J q);have HXX:Hid (r=true→x ∈ J):=hid (by rw[hr];exact HXM);rw[← hr] at hof CO;have HOF:=hid hof;clear h0 hP hst hlen hq hnn hof hx hr HXM HXM' hsz;unfold tupR at CO;go_wp2_with fail
 refine cr (CM.out _) fun v1 k1=>?_;replace lj:=hid ((lj.out).below k1);replace hb:=bstep hb k1;clear k1;go_wp2_with fail
 refine cr (C0.out _) fun v2 k2=>?_;replace lj:=hid ((lj.out).below k2);replace hb:=bstep hb k2;clear k2;go_wp2_with fail
 refine cr (CO.out _ lj.out) fun v3 k3=>?_;replace lj:=hid ((lj.out).below k3);replace hb:=bstep hb k3;clear k3;go_upto_region 5 with (fail)
 obtain ⟨-,t1,-,t3,-,t5⟩:=al6 (bx (v3) x 92);replace lj:=hid ((lj.out).below (balloc (Below.refl _ _) (.cells x 92)));replace hb:=bstep hb (balloc (Below.refl _ _) (.cells x 92));obtain ⟨wd,hwd⟩:=nm ((v3).alloc (.cells x 92));rw[← hwd] at hb lj t1 t3 t5 ⊢;obtain ⟨bt,hbt⟩:=nm ((v3).heap.size);rw[← hbt] at t1 t3 t5 ⊢;clear hwd hbt;cases r
 ·
  have HE:Hid (v=tv (∃ y ∈ chainL q,HitM (J.map RM.m) y)):=hid (by
   rw[HV.out,HST.out];refine tv_congr ⟨?_,fun ⟨y,hy,h⟩=>⟨y,List.mem_cons_of_mem _ hy,h⟩⟩;rintro ⟨y,hy,h⟩;rcases List.mem_cons.1 hy with rfl | hy
   ·obtain ⟨m,e,_⟩:=h;rw[← HQ.out,HOF.out] at e;cases e
   exact ⟨y,hy,h⟩)
  clear HV;refine rh (aj5 hb lj.out t1 t3 t5) fun wd gH=>?_;refine tk (.range 8) ?_;refine tD ?_;clear hb lj t1 t3 t5;obtain ⟨hb,lj,t1,t3,t5⟩:=gH;replace lj:=hid lj;go_wp2_with fail
  refine cr (C0.out _) fun v4 k4=>?_;replace lj:=hid ((lj.out).below k4);have hA:=kp k4 (aj3 t1 t3 t5);clear t1 t3 t5;obtain ⟨t1,t3,t5⟩:=hA;replace hb:=bstep hb k4;clear k4;go_wp2;go_roundw
  ·exact ⟨q,rfl,hid (by have:=HLEN.out;have:=HS.out;omega),HE,hb,lj⟩
  have h:=HLEN.out;show (ByteArray.size _)<ByteArray.size _;rw[Str.size_mk,Str.size_mk];exact h
 have HXJ:=hid (HXX.out rfl);have ly:=hid (lj.out.2 _ HXJ.out).g;have HGL:=hid (HG.out _ HXJ.out);obtain ⟨y,hy⟩:=nm (x.g.any (inB (n:Int)));have HYE:Hid (HitM (J.map RM.m) s↔y=true):=hid (by
  rw[hy,← in_iff];unfold HitM;rw[← HQ.out,HOF.out];have e:numI s=(n:Int):=by rw[HNN.out];rfl
  rw[e];exact ⟨fun ⟨m,h1,h2⟩=>by cases h1;exact h2,fun h=>⟨_,rfl,h⟩⟩)
 have CI:=hid (fun W (l:Row.Lies snE W x.ga x.g.length x.g)=>qB hy (in_any (n:Int) x.g x.ga x.gc W l HGL.out));clear hy;cases y
 ·
  have HE:Hid (v=tv (∃ y ∈ chainL q,HitM (J.map RM.m) y)):=hid (by
   rw[HV.out,HST.out];refine tv_congr ⟨?_,fun ⟨y,hy,h⟩=>⟨y,List.mem_cons_of_mem _ hy,h⟩⟩;rintro ⟨y,hy,h⟩;rcases List.mem_cons.1 hy with rfl | hy
   · have:=HYE.out.1 h;cases this
   exact ⟨y,hy,h⟩)
  clear HV;refine rh (aj6 hb lj.out t1 t3 t5 ly.out) fun wd gH=>?_;refine tk [0,1,2,3,4] ?_;refine tR 5 fun K hK=>?_;go_simp;go_at_call 203;refine cr (CN.out _) fun v5 k5=>?_;go_wp2_with fail
  refine tH hK gH k5 fun gH=>?_;clear hK K k5;refine tR 6 fun K hK=>?_;go_simp;go_at_call 247;refine cr (CI.out _ gH.2.2.2.2.2) fun v6 k6=>?_;go_wp2_with fail
  refine tH hK gH k6 fun gH=>?_;clear hK K k6;refine tk [7] ?_;refine tD ?_;clear hb lj t1 t3 t5 ly;obtain ⟨hb,lj,t1,t3,t5,ly⟩:=gH;replace lj:=hid lj;replace ly:=hid ly;go_wp2_with fail
  refine cr (C0.out _) fun v7 k7=>?_;replace lj:=hid ((lj.out).below k7);have hA:=kp k7 (aj3 t1 t3 t5);clear t1 t3 t5;obtain ⟨t1,t3,t5⟩:=hA;replace ly:=hid ((ly.out).below k7);replace hb:=bstep hb k7;clear k7;go_wp2;go_roundw
  ·exact ⟨q,rfl,hid (by have:=HLEN.out;have:=HS.out;omega),HE,hb,lj⟩
  have h:=HLEN.out;show (ByteArray.size _)<ByteArray.size _;rw[Str.size_mk,Str.size_mk];exact h
 have HE:Hid (v=true):=hid (by
  rw[HV.out,HST.out];exact tv_true ⟨s,List.mem_cons_self ..,HYE.out.2 rfl⟩)
 clear HV;refine rh (aj6 hb lj.out t1 t3 t5 ly.out) fun wd gH=>?_;refine tk [0,1,2,3,4] ?_;refine tR 5 fun K hK=>?_;go_simp;go_at_call 203;refine cr (CN.out _) fun v8 k8=>?_;go_wp2_with fail
 refine tH hK gH k8 fun gH=>?_;clear hK K k8;refine tR 6 fun K hK=>?_;go_simp;go_at_call 247;refine cr (CI.out _ gH.2.2.2.2.2) fun v9 k9=>?_;go_wp2_with fail
 refine tH hK gH k9 fun gH=>?_;clear hK K k9;refine tk [7] ?_;refine tD ?_;clear hb lj t1 t3 t5 ly;obtain ⟨hb,lj,t1,t3,t5,ly⟩:=gH;replace lj:=hid lj;replace ly:=hid ly;go_wp2;go_ret;exact ⟨by rw[HE.out];rfl,hb⟩
theorem void_any (J:List RM) (p:List UInt8) (a:Option Addr) (c:Nat) (w:World) (hJ:LiesM w a J) (hn:J.length≤1048576) (hg:∀ x ∈ J,x.g.length≤1048576) (hp:p.length≤1048576) :
  CB 196 #[.slice a J.length c,p] w (tv (VoidR (J.map RM.m) p)):=by
 obtain ⟨v,hv⟩:=nm (tv (VoidR (J.map RM.m) p));have HV0:Hid (v=tv (VoidU (J.map RM.m) (chainL p))):=hid (by rw[hv];exact tv_congr (void_iff _ _));have HP0:Hid (p.length≤1099511627776):=hid (by omega);have lj:=hid hJ;have HG:=hid hg;have HN:=hid hn;rw[← hv];clear hv hJ hg hp hn;have hb:=Below.refl w.heap.size w;go_enter Tryz.func196,Tryz.ntmps196;go_wp2_with fail
 go_loopw [5] (fun sv wr=>∃ s:List UInt8,sv=.string ⟨s.toArray⟩∧Hid (s.length≤1099511627776)∧Hid (v=tv (VoidU (J.map RM.m) (chainL s)))∧Below w.heap.size w wr∧Hid (LiesM wr a J)) (fun sv _=>match sv with | .string t=>t.size | _=>0)
 case atStart=>exact ⟨p,rfl,HP0,HV0,hb,lj⟩
 clear HV0 HP0 hb lj;obtain ⟨s,rfl,HS,HV,hb,lj⟩:=hrel;have hsz:=Str.size_mk s;by_cases h0:s=[]
 ·have HE:Hid (v=false):=hid (by rw[HV.out,h0];exact tv_false (by first | (rw[chain_nil (by unfold isP;decide)];exact id) | exact id));have e0:(s != [])=false:=by rw[h0];rfl
  have e1:(s == [])=true:=by rw[h0];rfl
  have e2:s.isEmpty=true:=by rw[h0];rfl
  clear h0 hsz;go_wp2;go_ret;exact ⟨by rw[HE.out];rfl,hb⟩
 have e0:(s != [])=true:=by rw[bne_iff_ne];exact h0
 have e1:(s == [])=false:=by rw[beq_eq_false_iff_ne];exact h0
 have e2:s.isEmpty=false:=by rw[List.isEmpty_eq_false_iff];exact h0
 have CM:=hid (fun W=>RefPath.may_any s W HS.out);by_cases hP:isP s;rotate_left
 ·have HE:Hid (v=false):=hid (by rw[HV.out,chain_nil hP];exact tv_false (by first | (rw[chain_nil (by unfold isP;decide)];exact id) | exact id));rw[may_not hP] at CM;clear h0 hP hsz;go_wp2_with fail
  refine cr (CM.out _) fun w1 k1=>?_;replace hb:=bstep hb k1;go_wp2;go_ret;exact ⟨by rw[HE.out];rfl,hb⟩
 rw[may_val hP] at CM;obtain ⟨hst,hlen⟩:=chain_step hP;have C0:=hid (fun W=>RefPath.parent_any s W HS.out);have CN:=hid (fun W=>RefPath.number_any s W HS.out);obtain ⟨q,hq⟩:=nm (parentL s);obtain ⟨n,hnn⟩:=nm (last (parse s));rw[← hq] at C0 hst hlen;rw[← hnn] at CN;have HQ:=hid hq;have HNN:=hid hnn;have HST:=hid hst;have HLEN:=hid hlen;have hof:=of_iff J q;obtain ⟨x,hx⟩:=nm (ofR J q);have CO:=hid (fun W (l:LiesM W a J)=>of_any J q a c W l.1 HN.out);have HXM:=fun (h:isR J q=true)=>of_mem h;rw[← hx] at hof CO HXM;have HXM':=hid HXM;obtain ⟨r,hr⟩:=nm (isR J q);have HXX:Hid (r=true→x ∈ J):=hid (by rw[hr];exact HXM);rw[← hr] at hof CO;have HOF:=hid hof;clear h0 hP hst hlen hq hnn hof hx hr HXM HXM' hsz;unfold tupR at CO;go_wp2_with fail
 refine cr (CM.out _) fun v10 k10=>?_;replace lj:=hid ((lj.out).below k10);replace hb:=bstep hb k10;clear k10;go_wp2_with fail
 refine cr (C0.out _) fun v11 k11=>?_;replace lj:=hid ((lj.out).below k11);replace hb:=bstep hb k11;clear k11;go_wp2_with fail
 refine cr (CO.out _ lj.out) fun v12 k12=>?_;replace lj:=hid ((lj.out).below k12);replace hb:=bstep hb k12;clear k12;go_upto_region 5 with (fail)
 obtain ⟨-,t1,-,t3,-,t5⟩:=al6 (bx (v12) x 92);replace lj:=hid ((lj.out).below (balloc (Below.refl _ _) (.cells x 92)));replace hb:=bstep hb (balloc (Below.refl _ _) (.cells x 92));obtain ⟨wd,hwd⟩:=nm ((v12).alloc (.cells x 92));rw[← hwd] at hb lj t1 t3 t5 ⊢;obtain ⟨bt,hbt⟩:=nm ((v12).heap.size);rw[← hbt] at t1 t3 t5 ⊢;clear hwd hbt;cases r
 ·
  have HE:Hid (v=tv (VoidU (J.map RM.m) (chainL q))):=hid (by
   rw[HV.out,HST.out];refine tv_congr ⟨?_,fun h=>.inr ⟨by rw[← HQ.out,HOF.out];rfl,h⟩⟩;rintro (⟨m,e,_⟩ | ⟨_,h⟩)
   · rw[← HQ.out,HOF.out] at e;cases e
   exact h)
  clear HV;go_wp2_with fail
  refine cr (C0.out _) fun v13 k13=>?_;replace lj:=hid ((lj.out).below k13);have hA:=kp k13 (aj3 t1 t3 t5);clear t1 t3 t5;obtain ⟨t1,t3,t5⟩:=hA;replace hb:=bstep hb k13;clear k13;go_wp2;go_roundw
  ·exact ⟨q,rfl,hid (by have:=HLEN.out;have:=HS.out;omega),HE,hb,lj⟩
  have h:=HLEN.out;show (ByteArray.size _)<ByteArray.size _;rw[Str.size_mk,Str.size_mk];exact h
 have HC:Hid (v=tv (CutM x.m s)):=hid (by
  rw[HV.out,HST.out];refine tv_congr ⟨?_,fun h=>.inl ⟨x.m,by rw[← HQ.out,HOF.out];rfl,h⟩⟩;rintro (⟨m,e,h⟩ | ⟨e,_⟩)
  · rw[← HQ.out,HOF.out] at e;cases e;exact h
  rw[← HQ.out,HOF.out] at e;cases e)
 have HM:Hid (CutM x.m s↔x.s=4∧0<x.c∧x.c≤(n:Int)):=hid (by rw[HNN.out];exact Iff.rfl);clear HV;go_wp2_with fail
 by_cases h1:4≤x.s∧x.s≤4;rotate_left
 ·
  have d1:(((x.s:Int)) == 4)=false:=bF;have d1n:(((x.s:Int)) != 4)=true:=by rw[bne,d1];rfl
  have HE:Hid (v=false):=hid (by rw[HC.out];exact tv_false fun f0=>have f:=HM.out.1 f0;h1 (by have q:=f.1;omega));refine rh (aj5 hb lj.out t1 t3 t5) fun wd gH=>?_;refine tk (.range 16) ?_;refine tD ?_;clear hb lj t1 t3 t5;obtain ⟨hb,lj,t1,t3,t5⟩:=gH;replace lj:=hid lj;go_wp2;go_ret;exact ⟨by rw[HE.out];rfl,hb⟩
 have d1:(((x.s:Int)) == 4)=true:=bT;have d1n:(((x.s:Int)) != 4)=false:=by rw[bne,d1];rfl
 by_cases h2:0<x.c;rotate_left
 ·
  have d2:=dF (p:=0<x.c);have d2g:=dF (p:=x.c > 0);have HE:Hid (v=false):=hid (by rw[HC.out];exact tv_false fun f0=>have f:=HM.out.1 f0;h2 f.2.1);refine rh (aj5 hb lj.out t1 t3 t5) fun wd gH=>?_;refine tk (.range 16) ?_;refine tD ?_;clear hb lj t1 t3 t5;obtain ⟨hb,lj,t1,t3,t5⟩:=gH;replace lj:=hid lj;go_wp2;go_ret;exact ⟨by rw[HE.out];rfl,hb⟩
 have d2:=dT (p:=0<x.c);have d2g:=dT (p:=x.c > 0);by_cases h3:x.c≤(n:Int);rotate_left
 ·
  have d3:=dF (p:=x.c≤(n:Int));have d3g:=dF (p:=(n:Int)≥x.c);have HE:Hid (v=false):=hid (by rw[HC.out];exact tv_false fun f0=>have f:=HM.out.1 f0;h3 f.2.2);refine rh (aj5 hb lj.out t1 t3 t5) fun wd gH=>?_;refine tk [0,1,2,3,4,5,6,7,8,9,11,12] ?_;refine tR 10 fun K hK=>?_;go_simp;go_at_call 203;refine cr (CN.out _) fun v14 k14=>?_;go_wp2_with fail
  refine tH hK gH k14 fun gH=>?_;clear hK K k14;refine tk [13,14,15] ?_;refine tD ?_;clear hb lj t1 t3 t5;obtain ⟨hb,lj,t1,t3,t5⟩:=gH;replace lj:=hid lj;go_wp2;go_ret;exact ⟨by rw[HE.out];rfl,hb⟩
 have d3:=dT (p:=x.c≤(n:Int));have d3g:=dT (p:=(n:Int)≥x.c);have HE:Hid (v=true):=hid (by rw[HC.out];exact tv_true (HM.out.2 ⟨by omega,h2,h3⟩));refine rh (aj5 hb lj.out t1 t3 t5) fun wd gH=>?_;refine tk [0,1,2,3,4,5,6,7,8,9,11,12] ?_;refine tR 10 fun K hK=>?_;go_simp;go_at_call 203;refine cr (CN.out _) fun v15 k15=>?_;go_wp2_with fail
 refine tH hK gH k15 fun gH=>?_;clear hK K k15;refine tk [13,14,15] ?_;refine tD ?_;clear hb lj t1 t3 t5;obtain ⟨hb,lj,t1,t3,t5⟩:=gH;replace lj:=hid lj;go_wp2;go_ret;exact ⟨by rw[HE.out];rfl,hb⟩
end RefMem
namespace Mem
open RowKit Num Path Coder RefMem
theorem chain_own {w:World} {B:Nat} {v:Value} {L:List (List Nat)} (h:w.ownsRow B 9 1 v L.length (strs L)):Words.Mine w B v (L.map write):=by
 have e:∀ L:List (List Nat),Row.flat Words.enc (L.map write)=strs L:=by
  intro L;induction L with
  | nil=>rfl
  | cons x L ih=>rw[List.map_cons,Row.flat_cons,ih];rfl
 unfold Words.Mine Row.Own;rw[e,List.length_map];exact h
theorem text_own (w:World) (B:Nat) (hB:B≤w.heap.size) (p:List UInt8):Words.Mine (w.alloc (.cells #[p] 9)) B (.slice (some ⟨w.heap.size,0,none⟩) 1 1) [p] :=
 Row.own_of (E:=Words.enc) (te:=9) (cur:=#[p]) hB ((by unfold World.alloc;simp)) rfl (Nat.le_refl _) (by decide) rfl rfl
theorem forgotten_any (J:List RM) (a:Option Addr) (c mb n:Nat) (p:List UInt8) (w:World) (hJ:LiesM w a J) (hM:At w mb n J) (hn:J.length≤1048576) (hg:∀ x ∈ J,x.g.length≤1048576) (hp:p.length≤1048576) :
  CB 123 #[.slice a J.length c,.map (some mb),p] w (tv (ForgM (J.map RM.m) p)):=by
 obtain ⟨v,hv⟩:=nm (tv (ForgM (J.map RM.m) p));rw[← hv];have CM:=hid (fun W=>Path.may_any p W (by omega));have hb:=Below.refl w.heap.size w;by_cases hP:isP p;rotate_left
 ·have HE:Hid (v=false):=hid (by rw[hv];exact tv_false fun h=>hP h.1);have hl:decide (0<(parse p).length)=false:=decide_eq_false (fun h=>hP (by intro e;rw[e] at h;simp at h));rw[hl] at CM;clear hv hP hl;go_enter Tryz.func123,Tryz.ntmps123;go_wp2_with fail
  refine cr (CM.out _) fun w1 k1=>?_;replace hb:=bstep hb k1;go_wp2;go_ret;exact ⟨by rw[HE.out];rfl,hb⟩
 have hl:decide (0<(parse p).length)=true:=decide_eq_true (List.length_pos_iff.2 hP);rw[hl] at CM;have CC:=hid (fun W=>Path.chain_any p W (by omega));have hup:=ups_length 8 (parse p);have huv:∀ q ∈ upsT p,q.length≤1099511627776:=by
  intro q hq;obtain ⟨l,hl,rfl⟩:=List.mem_map.1 hq;have key:∀ n l,Valid l→∀ r ∈ ups n l,Valid r:=by
   intro n;induction n with
   | zero=>intro l _ r hr;cases hr
   | succ n ih =>
    intro l hv r hr;unfold ups at hr;split at hr
    · cases hr
    rename_i h2
    rcases List.mem_cons.1 hr with rfl | hr
    · exact hv.dropLast (by omega)
    exact ih _ (hv.dropLast (by omega)) r hr
  exact write_len _ (key 8 _ (parse_valid p hP) l hl)
 obtain ⟨T,hT⟩:=nm (p::upsT p);have HTL:Hid (T.length≤9):=hid (by rw[hT];unfold upsT;simp;exact hup);have HTV:Hid (∀ q ∈ T,q.length≤1099511627776):=hid (by rw[hT];intro q hq;cases List.mem_cons.1 hq with | inl h=>(subst h;omega) | inr h=>exact huv q h);have HTE:=hid hT;have HUP:Hid ((ups 8 (parse p)).length≤8):=hid hup;have HV0:Hid (v=tv (∃ q ∈ T.drop 0,HitM (J.map RM.m) q)):=hid (by rw[hv,hT];exact tv_congr ⟨fun h=>h.2,fun h=>⟨hP,h⟩⟩);have LJ:=hid hJ;have M0:=hid hM;have HG:=hid hg;have HN:=hid hn;clear hv hP hl hup huv hT hJ hM hg hn;go_enter Tryz.func123,Tryz.ntmps123;go_wp2_with fail
 refine cr (CM.out _) fun v1 k1=>?_;replace hb:=bstep hb k1;clear k1;go_wp2_with fail
 have o0:=hid (text_own v1 w.heap.size hb.size p);replace hb:=bstep hb (balloc (Below.refl _ _) (.cells #[p] 9));obtain ⟨W0,hW0⟩:=nm (v1.alloc (.cells #[p] 9));rw[← hW0] at hb o0 ⊢;obtain ⟨b0,hb0⟩:=nm v1.heap.size;rw[← hb0] at o0 ⊢;clear hW0 hb0;go_wp2_with fail
 refine (CC.out _).mono ?_;rintro e v2 ⟨v0,rfl,h2,k2⟩;replace o0:=hid ((o0.out).below k2);replace hb:=bstep hb k2;clear k2;have h3:=(chain_own h2).lies';obtain ⟨a3,c3,rfl,-,-,h3,-⟩:=h3;have LK:=hid h3;clear h2 h3;have HLE:Hid (((ups 8 (parse p)).map write).length≤8):=hid (by rw[List.length_map];exact HUP.out);rw[show upsT p=(ups 8 (parse p)).map write from rfl] at HTE;have HBS:=hid hb.size;obtain ⟨K,hK⟩:=nm ((ups 8 (parse p)).map write);rw[← hK] at LK HLE HTE ⊢;clear hK;go_wp2_with (at_builtin;refine Row.wpList_app Words.typ rfl _ _ rfl w.heap.size _ [p] rfl o0.out a3 _ c3 K rfl LK.out (by have:=HLE.out;simp;omega) HBS.out ?_;intro v9 w9 o9 g9 k9)
 replace hb:=Below.grown hb g9 HBS.out (fun k hk=>(o0.out.lt k hk).1);obtain ⟨a9,c9,rfl,-,-,h9,-⟩:=o9.lies';have LT:Hid (Words.Lies w9 a9 T.length T):=hid (by rw[HTE.out];exact h9);rw[show ([p]++K).length=T.length by rw[HTE.out];rfl];clear o9 g9 k9 h9 o0 LK;rw[run_len_slice w9 31 _ _ _ _ Tryz.underlying31];simp only[Result.andThen];rw[Oper.upon_value];go_wp2_with fail
 go_loopw [20] (fun iv wr=>∃ k:Nat,k≤T.length∧iv=.int .i64 k∧Hid (v=tv (∃ q ∈ T.drop k,HitM (J.map RM.m) q))∧Below w.heap.size w wr∧Hid (Words.Lies wr a9 T.length T)) (fun iv _=>T.length - (intOf iv).toNat)
 case atStart=>exact ⟨0,by omega,rfl,HV0,hb,LT⟩
 clear hb HV0 LT;obtain ⟨k,hk,rfl,HV,hb,LT⟩:=hrel;by_cases hlt:k<T.length;rotate_left
 ·have d1:decide ((k:Int)<(T.length:Int))=false:=dF;have HE:Hid (v=false):=hid (by rw[HV.out,List.drop_of_length_le (by omega)];exact tv_false (by rintro ⟨_,h,_⟩;cases h));go_wp2;go_ret;exact ⟨by rw[HE.out];rfl,hb⟩
 obtain ⟨b9,o9,rfl,hcell⟩:=Words.words_at LT.out (by omega);have d1:=dT (p:=(k:Int)<(T.length:Int));have e1:(0:Int)≤(k:Int):=by omega
 have e2:(k:Int)<(T.length:Int):=by omega
 have c1:=hcell k hlt;have hsl:=HTV.out _ (List.getElem_mem hlt);have HST:Hid (T.drop k=T[k]::T.drop (k+1)):=hid (List.drop_eq_getElem_cons hlt);obtain ⟨s,hs⟩:=nm T[k];rw[← hs] at c1 hsl HST;have C0:=hid (fun W=>parent_any s W hsl);have CN:=hid (fun W=>numberOf_any s W hsl);obtain ⟨q,hq⟩:=nm (parentL s);obtain ⟨n9,hnn⟩:=nm (last (parse s));have HQL:Hid (q.length≤1099511627776):=hid (by rw[hq];exact parent_len s);rw[← hq] at C0;rw[← hnn] at CN;have HQ:=hid hq;have HNN:=hid hnn;have HLT:=hid hlt;have hw:=plc_ways J q;clear hs hq hnn hcell hlt hsl hk;rcases hw with ⟨h1,h2⟩ | ⟨i,hi,h1,h2⟩
 ·
  have HLV:Hid ((plc J q).getD (.int .i64 0)=.int .i64 0):=hid (by rw[h1];rfl);have HLI:Hid ((plc J q).isSome=false):=hid (by rw[h1];rfl);have HE:Hid (v=tv (∃ q ∈ T.drop (k+1),HitM (J.map RM.m) q)):=hid (by
   rw[HV.out,HST.out];refine tv_congr ⟨?_,fun ⟨y,hy,h⟩=>⟨y,List.mem_cons_of_mem _ hy,h⟩⟩;rintro ⟨y,hy,h⟩;rcases List.mem_cons.1 hy with rfl | hy
   ·obtain ⟨m,e,_⟩:=h;rw[← HQ.out,h2] at e;cases e
   exact ⟨y,hy,h⟩)
  clear HV h1 h2;go_wp2_with fail
  refine cr (C0.out _) fun v3 k3=>?_;replace LT:=hid ((LT.out).below k3);replace hb:=bstep hb k3;clear k3;have M:=hid (TextMap.Is.below M0.out hb);go_upto_region 7 with (at_lookup;refine TextMap.wpList_look_ok Tryz.underlying172 Tryz.underlying9 zero_int rfl _ _ rfl mb n (plc J) q rfl M.out rfl (by have:=HQL.out;unfold maxLen;omega) _ HLV.out false HLI.out ?_)
  clear M;refine rh (aj2 hb LT.out) fun wd gH=>?_;refine tk (.range 11) ?_;refine tD ?_;clear hb LT;obtain ⟨hb,LT⟩:=gH;replace LT:=hid LT;have hB1:=HTL.out;have hB2:=HLT.out;go_wp2;go_roundw
  ·exact ⟨k+1,by have:=HLT.out;omega,by go_num,HE,hb,LT⟩
  have:=HLT.out;simp[intOf];omega
 have HLV:Hid ((plc J q).getD (.int .i64 0)=.int .i64 (i:Int)):=hid (by rw[h1];rfl);have HLI:Hid ((plc J q).isSome=true):=hid (by rw[h1];rfl);obtain ⟨b,off,rfl,hJc⟩:=(LJ.out.below hb).1.2 (by omega);have j1:(0:Int)≤(i:Int):=by omega
 have j2:(i:Int)<(J.length:Int):=by omega
 obtain ⟨-,-,-,-,-,c5⟩:=cl6 (off+i*15) (hJc i hi);have ly:=hid ((LJ.out.below hb).2 _ (List.getElem_mem hi)).g;have HGL:=hid (HG.out _ (List.getElem_mem hi));obtain ⟨x,hx⟩:=nm J[i];rw[← hx] at c5 ly HGL h2;obtain ⟨y,hy⟩:=nm (x.g.any (inB (n9:Int)));have HYE:Hid (HitM (J.map RM.m) s↔y=true):=hid (by
  rw[hy,← in_iff];unfold HitM;rw[← HQ.out,h2];have e:numI s=(n9:Int):=by rw[HNN.out];rfl
  rw[e];exact ⟨fun ⟨m,h1,h2⟩=>by cases h1;exact h2,fun h=>⟨_,rfl,h⟩⟩)
 have CI:=hid (fun W (l:Row.Lies snE W x.ga x.g.length x.g)=>qB hy (within_any (n9:Int) x.g x.ga x.gc W l HGL.out));clear h1 h2 hx hJc hy hi;go_wp2_with fail
 refine cr (C0.out _) fun v4 k4=>?_;replace LT:=hid ((LT.out).below k4);replace c5:=(Coder.keepC c5 k4)
 replace ly:=hid ((ly.out).below k4);replace hb:=bstep hb k4;clear k4;have M:=hid (TextMap.Is.below M0.out hb);go_upto_region 7 with (at_lookup;refine TextMap.wpList_look_ok Tryz.underlying172 Tryz.underlying9 zero_int rfl _ _ rfl mb n (plc J) q rfl M.out rfl (by have:=HQL.out;unfold maxLen;omega) _ HLV.out true HLI.out ?_)
 clear M;cases y
 ·
  have HE:Hid (v=tv (∃ q ∈ T.drop (k+1),HitM (J.map RM.m) q)):=hid (by
   rw[HV.out,HST.out];refine tv_congr ⟨?_,fun ⟨y,hy,h⟩=>⟨y,List.mem_cons_of_mem _ hy,h⟩⟩;rintro ⟨y,hy,h⟩;rcases List.mem_cons.1 hy with rfl | hy
   · have:=HYE.out.1 h;cases this
   exact ⟨y,hy,h⟩)
  clear HV;refine rh (aj4 hb LT.out c5 ly.out) fun wd gH=>?_;refine tk (.range 8) ?_;refine tR 8 fun K hK=>?_;go_simp;go_at_call 122;refine cr (CN.out _) fun v5 k5=>?_;go_wp2_with fail
  refine tH hK gH k5 fun gH=>?_;clear hK K k5;refine tR 9 fun K hK=>?_;go_simp;go_at_call 187;refine cr (CI.out _ gH.2.2.2) fun v6 k6=>?_;go_wp2_with fail
  refine tH hK gH k6 fun gH=>?_;clear hK K k6;refine tk [10] ?_;refine tD ?_;clear hb LT c5 ly;obtain ⟨hb,LT,c5,ly⟩:=gH;replace LT:=hid LT;replace ly:=hid ly;have hB1:=HTL.out;have hB2:=HLT.out;go_wp2;go_roundw
  ·exact ⟨k+1,by have:=HLT.out;omega,by go_num,HE,hb,LT⟩
  have:=HLT.out;simp[intOf];omega
 have HE:Hid (v=true):=hid (by
  rw[HV.out,HST.out];exact tv_true ⟨s,List.mem_cons_self ..,HYE.out.2 rfl⟩)
 clear HV;refine rh (aj4 hb LT.out c5 ly.out) fun wd gH=>?_;refine tk (.range 8) ?_;refine tR 8 fun K hK=>?_;go_simp;go_at_call 122;refine cr (CN.out _) fun v7 k7=>?_;go_wp2_with fail
 refine tH hK gH k7 fun gH=>?_;clear hK K k7;refine tR 9 fun K hK=>?_;go_simp;go_at_call 187;refine cr (CI.out _ gH.2.2.2) fun v8 k8=>?_;go_wp2_with fail
 refine tH hK gH k8 fun gH=>?_;clear hK K k8;refine tk [10] ?_;refine tD ?_;clear hb LT c5 ly;obtain ⟨hb,LT,c5,ly⟩:=gH;replace LT:=hid LT;replace ly:=hid ly;go_wp2;go_ret;exact ⟨by rw[HE.out];rfl,hb⟩
end Mem
end Go.Proofs.YtnpjkmomllkhpaaGreatDoor
