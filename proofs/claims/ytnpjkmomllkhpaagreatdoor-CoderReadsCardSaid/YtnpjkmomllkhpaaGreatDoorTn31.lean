/- PathUnder, PathCmp, PathCompare, PathChain, RefPathRead. -/
import Derived.Test.YtnpjkmomllkhpaaGreatDoorTn30
import Derived.Deep.DeepCutAuto
import Derived.Laws.AppendOwn
import Derived.Laws.OwnMore
set_option linter.unusedVariables false
set_option linter.unusedSimpArgs false
set_option maxRecDepth 100000
set_option maxHeartbeats 4000000
namespace Go.Proofs.YtnpjkmomllkhpaaGreatDoor
namespace Path
open RowKit
def arrCells (l:List Nat):Array Value:=#[.int .i64 (l.getD 0 0:Nat),.int .i64 (l.getD 1 0:Nat),.int .i64 (l.getD 2 0:Nat),.int .i64 (l.getD 3 0:Nat),.int .i64 (l.getD 4 0:Nat),.int .i64 (l.getD 5 0:Nat),.int .i64 (l.getD 6 0:Nat),.int .i64 (l.getD 7 0:Nat)]
theorem Arr.lay (W:World) (l:List Nat) (t:TypeId) (b:Nat) (hb:b=W.heap.size):Arr (W.alloc (.cells (arrCells l) t)) b l:=by
 subst hb;intro j hj;refine ⟨?_,World.frozen?_alloc_at _ _ _ _ (by simp)⟩;rw[World.cell?_alloc_new];match j,hj with
 | 0,_ | 1,_ | 2,_ | 3,_ | 4,_ | 5,_ | 6,_ | 7,_=>rfl
def eight (l:List Nat):List Int:=(List.range 8).map fun j=>((l.getD j 0:Nat):Int)
theorem eight_cells {W:World} {b:Nat} {l:List Nat} (h:Arr W b l):∀ j,j<(eight l).length→W.cell? ⟨b,0+j,none⟩=some (.int .i64 ((eight l).getD j 0)):=by
 intro j hj;have hj8:j<8:=by simpa [eight] using hj
 rw[Nat.zero_add,(h j hj8).1];simp[eight,List.getD_eq_getElem?_getD,hj8]
theorem eight_take (l:List Nat) (n:Nat) (hn:n≤l.length) (h8:l.length≤8):(eight l).take n=(l.take n).map (fun x:Nat=>((x:Nat):Int)):=by
 apply List.ext_getElem?;intro j;by_cases hj:j<n
 ·rw[List.getElem?_take,if_pos hj,List.getElem?_map,List.getElem?_take,if_pos hj,List.getElem?_eq_getElem (show j<l.length by omega)];simp[eight,List.getD_eq_getElem?_getD,show j<8 by omega,show j<l.length by omega]
 rw[List.getElem?_eq_none (by simp;omega),List.getElem?_eq_none (by simp;omega)]
def under (l m:List Nat):Bool:=decide (0<m.length) && (decide (m.length<l.length) && decide (l.take m.length=m))
theorem under_any (p a:List UInt8) (w:World) (hp:p.length≤1099511627776) (ha:a.length≤1099511627776) :
  CB 189 #[p,a] w (under (parse p) (parse a)):=by
 have C1:=hid (fun w=>split_any p w hp);have C2:=hid (fun w=>split_any a w ha);have hl8:=parse_length p;have hm8:=parse_length a;obtain ⟨l,hl⟩:=nm (parse p);obtain ⟨m,hm⟩:=nm (parse a);rw[← hl] at C1 hl8;rw[← hm] at C2 hm8;rw[← hl,← hm];clear hl hm;have h0:=Below.refl w.heap.size w;obtain ⟨n,hn⟩:=nm l.length;obtain ⟨k,hk⟩:=nm m.length;rw[← hn] at C1;rw[← hk] at C2;have HN:=hid hn;have HK:=hid hk;have h8n:n≤8:=by omega
 have h8k:k≤8:=by omega
 clear hn hk;have HU:Hid (under l m=(decide (0<k) && (decide (k<n) && decide (l.take k=m)))):=hid (by rw[under,← HN.out,← HK.out]);go_enter Tryz.func189,Tryz.ntmps189;go_wp2_with fail
 refine cr (C1.out _) fun w1 k1=>?_;have h1:=bstep h0 k1;unfold arr8;go_wp2_with fail
 obtain ⟨W1,hW1⟩:∃ W1,w1.alloc (.cells (arrCells l) 244)=W1:=⟨_,rfl⟩
 have A1:Arr W1 w1.heap.size l:=by rw[← hW1];exact Arr.lay _ _ _ _ rfl
 have hb1:Below w.heap.size w W1:=by rw[← hW1];exact balloc h1 _
 simp only[arrCells,List.getD_eq_getElem?_getD] at hW1;rw[hW1];clear hW1 k1;refine cr (C2.out _) fun w2 k2=>?_;have h2:=bstep hb1 k2;have A1:=A1.below k2;unfold arr8;go_upto_region 3 with fail
 obtain ⟨W2,hW2⟩:∃ W2,w2.alloc (.cells (arrCells m) 244)=W2:=⟨_,rfl⟩
 have A2:Arr W2 w2.heap.size m:=by rw[← hW2];exact Arr.lay _ _ _ _ rfl
 have A1:Arr W2 w1.heap.size l:=by rw[← hW2];exact A1.below (balloc (Below.refl _ _) _)
 have hb2:Below w.heap.size w W2:=by rw[← hW2];exact balloc h2 _
 simp only[arrCells,List.getD_eq_getElem?_getD] at hW2;rw[hW2];clear hW2 k2 C1 C2 h0 h1 hb1 h2;by_cases c1:0<k
 ·have d1:decide ((0:Int)<(k:Int))=true:=dT;by_cases c2:k<n
  ·have d2:decide ((k:Int)<(n:Int))=true:=dT;have hk0:(0:Int)≤(k:Int):=by omega
   have hk8:(k:Int)≤8:=by omega
   have E:=hid (fun (W:World) (a1:Arr W w1.heap.size l) (a2:Arr W w2.heap.size m)=>Tryz.slices_Equal_int w1.heap.size 0 k 8 w2.heap.size 0 k 8 (eight l) (eight m) W (by simp[eight];omega) (by simp[eight];omega) (by omega) (by omega) (eight_cells a1) (eight_cells a2));have hres:((eight l).take k == (eight m).take k)=decide (l.take k=m):=by
    rw[eight_take l k (by rw[← HN.out];omega) hl8,eight_take m k (by rw[← HK.out];omega) hm8,List.take_of_length_le (l:=m) (by rw[← HK.out];omega),Bool.eq_iff_iff,beq_iff_eq,decide_eq_true_eq];constructor
    · intro h;exact List.map_inj_right (fun x y e=>by omega) |>.1 h
    intro h;rw[h]
   rw[hres] at E;clear hres;refine wp_region_noPanic ?_;refine wp_region_held_drew (S:=(fun W=>Arr W w1.heap.size l∧Arr W w2.heap.size m)) (by kernel_rfl) (⟨A1,A2⟩) (fun gH=>?_);refine tk (.range 12) ?_;refine tR 12 fun K hK=>?_;go_simp;go_at_call 241;refine (E.out _ gH.1 gH.2).mono ?_;rintro e w9 ⟨rfl,q,rfl⟩;go_wp2_with fail
   refine hK.out _ _ (⟨A1.below (bdrewN (Below.refl _ _) _),A2.below (bdrewN (Below.refl _ _) _)⟩) (fun gH=>?_);clear hK K;try simp only[Act.put,List.setIfInBounds_toArray,List.set_cons_zero,List.set_cons_succ]
   refine tk [13,14] ?_;refine tD ?_;go_wp2;go_ret;exact ⟨by rw[HU.out,decide_eq_true c1,decide_eq_true c2];rfl,bdrewN hb2 _⟩
  have d2:=dF (p:=(k:Int)<(n:Int));refine wp_region_noPanic ?_;refine wp_region_held_drew (S:=(fun _=>True)) (by kernel_rfl) (trivial) (fun gH=>?_);refine tk (.range 15) ?_;refine tD ?_;go_wp2;go_ret;exact ⟨by rw[HU.out,decide_eq_true c1,decide_eq_false c2];rfl,Below.drew hb2⟩
 have d1:=dF (p:=(0:Int)<(k:Int));refine wp_region_noPanic ?_;refine wp_region_held_drew (S:=(fun _=>True)) (by kernel_rfl) (trivial) (fun gH=>?_);refine tk (.range 15) ?_;refine tD ?_;go_wp2;go_ret;exact ⟨by rw[HU.out,decide_eq_false c1];rfl,Below.drew hb2⟩
def cmpL:List Nat→List Nat→Int
 | [],[]=>0
 | [],_::_ => -1
 | _::_,[]=>1
 | x::l,y::r=>if x<y then -1 else if y<x then 1 else cmpL l r
theorem isNaN_int (x:Int) (w:World) :
  CP 265 #[.int .i64 x] w (.bool false):=by
 have h:(x == x)=true:=by simp
 have h2:(x != x)=false:=by simp
 go_enter Tryz.func265,Tryz.ntmps265;go_wp2;go_ret;exact ⟨rfl,rfl⟩
theorem cmp_int (x y:Int) (w:World) :
  CP 237 #[.int .i64 x,.int .i64 y] w (.int .i64 (Lib.compareInt x y)):=by
 have C:=hid (fun (x:Int) w=>isNaN_int x w);obtain ⟨z,hz⟩:=nm (Lib.compareInt x y);have HZ:Hid (z=if x<y then -1 else if y<x then 1 else 0):=hid (by rw[hz];unfold Lib.compareInt;rfl);rw[← hz];clear hz;by_cases h1:x<y
 ·have d1:decide (x<y)=true:=decide_eq_true h1;have HV:Hid (z = -1):=hid (by rw[HZ.out,if_pos h1]);clear HZ;go_enter Tryz.func237,Tryz.ntmps237;go_wp2_with fail
  refine cp (C.out _ _) ?_;go_wp2_with fail
  refine cp (C.out _ _) ?_;go_wp2;go_ret;exact ⟨by rw[HV.out];rfl,rfl⟩
 have d1:decide (x<y)=false:=decide_eq_false h1;by_cases h2:y<x
 ·have d2:decide (x > y)=true:=decide_eq_true h2;have d3:decide (y<x)=true:=decide_eq_true h2;have HV:Hid (z=1):=hid (by rw[HZ.out,if_neg h1,if_pos h2]);clear HZ;go_enter Tryz.func237,Tryz.ntmps237;go_wp2_with fail
  refine cp (C.out _ _) ?_;go_wp2_with fail
  refine cp (C.out _ _) ?_;go_wp2;go_ret;exact ⟨by rw[HV.out];rfl,rfl⟩
 have d2:decide (x > y)=false:=decide_eq_false h2;have d3:decide (y<x)=false:=decide_eq_false h2;have HV:Hid (z=0):=hid (by rw[HZ.out,if_neg h1,if_neg h2]);clear HZ;go_enter Tryz.func237,Tryz.ntmps237;go_wp2_with fail
 refine cp (C.out _ _) ?_;go_wp2_with fail
 refine cp (C.out _ _) ?_;go_wp2;go_ret;exact ⟨by rw[HV.out];rfl,rfl⟩
theorem slices_any (l r:List Nat) (b1 b2 n m:Nat) (w:World) (A1:Arr w b1 l) (A2:Arr w b2 r) (hn:n=l.length) (hm:m=r.length) (hl:l.length≤8) (hr:r.length≤8) :
  CP 184 #[.slice (some ⟨b1,0,none⟩) n 8,.slice (some ⟨b2,0,none⟩) m 8] w (.int .i64 (cmpL l r)):=by
 have C:=hid (fun (x y:Int) w=>cmp_int x y w);have HN:=hid hn;have HM:=hid hm;have q1:=A1.lt;have q2:=A2.lt;have hn8:n≤8:=by omega
 have hm8:m≤8:=by omega
 clear hn hm;go_enter Tryz.func184,Tryz.ntmps184;go_wp2_with fail
 go_loop [11] (fun i=>∃ k:Nat,k≤n∧k≤m∧i=.int .i64 k∧Hid (cmpL l r=cmpL (l.drop k) (r.drop k))) (fun i=>n - (intOf i).toNat)
 case atStart=>exact ⟨0,by omega,by omega,rfl,hid rfl⟩
 obtain ⟨k,hk,hkm,rfl,HI⟩:=hrel;have hn':=HN.out;have hm':=HM.out;by_cases hlt:k<n
 ·have hd1:decide ((k:Int)<(n:Int))=true:=dT;have hck:=(A1 k (by omega)).1;obtain ⟨x,hx⟩:=nm (l.getD k 0);rw[← hx] at hck;have hdl:l.drop k=x::l.drop (k+1):=by
   rw[List.drop_eq_getElem_cons (by omega),hx,List.getD_eq_getElem?_getD,List.getElem?_eq_getElem (by omega)];rfl
  have hk0:(0:Int)≤(k:Int):=by omega
  by_cases hmk:k<m
  ·have hd2:decide ((k:Int)≥(m:Int))=false:=dF;have hd2':=dF (p:=(m:Int)≤(k:Int));have hck2:=(A2 k (by omega)).1;obtain ⟨y,hy⟩:=nm (r.getD k 0);rw[← hy] at hck2;have hdr:r.drop k=y::r.drop (k+1):=by
    rw[List.drop_eq_getElem_cons (by omega),hy,List.getD_eq_getElem?_getD,List.getElem?_eq_getElem (by omega)];rfl
   have hi:=HI.out;rw[hdl,hdr,cmpL] at hi;have HI2:=hid hi;clear hi hdl hdr hx hy hn' hm' HI;have hci:Lib.compareInt (x:Int) (y:Int)=if x<y then -1 else if y<x then 1 else 0:=by unfold Lib.compareInt;simp
   by_cases h1:x<y
   ·rw[if_pos h1] at hci;have HC:=hid hci;clear hci;go_wp2_with fail
    refine cp (C.out _ _ _) ?_;rw[HC.out];go_wp2;go_ret;exact ⟨by rw[HI2.out,if_pos h1];rfl,rfl⟩
   by_cases h2:y<x
   ·rw[if_neg h1,if_pos h2] at hci;have HC:=hid hci;clear hci;go_wp2_with fail
    refine cp (C.out _ _ _) ?_;rw[HC.out];go_wp2;go_ret;exact ⟨by rw[HI2.out,if_neg h1,if_pos h2];rfl,rfl⟩
   rw[if_neg h1,if_neg h2] at hci;have HC:=hid hci;clear hci;go_wp2_with fail
   refine cp (C.out _ _ _) ?_;rw[HC.out];go_wp2;go_round
   ·exact ⟨k+1,by omega,by omega,by go_num,hid (by rw[HI2.out,if_neg h1,if_neg h2])⟩
   simp[intOf];omega
  have hd2:=dT (p:=(k:Int)≥(m:Int));have hd2':=dT (p:=(m:Int)≤(k:Int));have hi:=HI.out;rw[hdl,show r.drop k=[] from List.drop_of_length_le (by omega),cmpL] at hi;have HI2:=hid hi;clear hi hdl hx hn' hm' HI;go_wp2;go_ret;exact ⟨by rw[HI2.out];rfl,rfl⟩
 obtain rfl:k=n:=by omega
 have hd1:=dF (p:=(k:Int)<(k:Int));have hi:=HI.out;rw[show l.drop k=[] from List.drop_of_length_le (by omega)] at hi;by_cases hmk:k<m
 ·have hd2:decide ((k:Int)<(m:Int))=true:=dT;rw[List.drop_eq_getElem_cons (by omega),cmpL] at hi;have HI2:=hid hi;clear hi hn' hm' HI;go_wp2;go_ret;exact ⟨by rw[HI2.out];rfl,rfl⟩
 have hd2:=dF (p:=(k:Int)<(m:Int));rw[show r.drop k=[] from List.drop_of_length_le (by omega),cmpL] at hi;have HI2:=hid hi;clear hi hn' hm' HI;go_wp2;go_ret;exact ⟨by rw[HI2.out];rfl,rfl⟩
def cmpP (a b:List UInt8):Int :=
 if parse a=[] then (if parse b=[] then Lib.compareBytes a b else -1) else if parse b=[] then 1 else cmpL (parse a) (parse b)
theorem compare_any (a b:List UInt8) (w:World) (ha:a.length≤1099511627776) (hb:b.length≤1099511627776) :
  CB 120 #[a,b] w (.int .i64 (cmpP a b)):=by
 have C1:=hid (fun w=>split_any a w ha);have C2:=hid (fun w=>split_any b w hb);have S:=hid (fun w=>Tryz.strings_Compare ⟨a.toArray⟩ ⟨b.toArray⟩ w);have hl8:=parse_length a;have hm8:=parse_length b;have HU:Hid (cmpP a b=if parse a=[] then (if parse b=[] then Lib.compareBytes a b else -1) else if parse b=[] then 1 else cmpL (parse a) (parse b)):=hid rfl;obtain ⟨l,hl⟩:=nm (parse a);obtain ⟨m,hm⟩:=nm (parse b);rw[← hl] at C1 hl8 HU;rw[← hm] at C2 hm8 HU;clear hl hm;have h0:=Below.refl w.heap.size w;obtain ⟨n,hn⟩:=nm l.length;obtain ⟨k,hk⟩:=nm m.length;rw[← hn] at C1;rw[← hk] at C2;have HN:=hid hn;have HK:=hid hk;have h8n:n≤8:=by omega
 have h8k:k≤8:=by omega
 have hle:Hid (n=0↔l=[]):=hid (by rw[hn,List.length_eq_zero_iff]);have hme:Hid (k=0↔m=[]):=hid (by rw[hk,List.length_eq_zero_iff]);clear hn hk;go_enter Tryz.func120,Tryz.ntmps120;go_wp2_with fail
 refine cr (C1.out _) fun w1 k1=>?_;have h1:=bstep h0 k1;unfold arr8;go_wp2_with fail
 obtain ⟨W1,hW1⟩:∃ W1,w1.alloc (.cells (arrCells l) 244)=W1:=⟨_,rfl⟩
 have A1:Arr W1 w1.heap.size l:=by rw[← hW1];exact Arr.lay _ _ _ _ rfl
 have hb1:Below w.heap.size w W1:=by rw[← hW1];exact balloc h1 _
 simp only[arrCells,List.getD_eq_getElem?_getD] at hW1;rw[hW1];clear hW1 k1;refine cr (C2.out _) fun w2 k2=>?_;have h2:=bstep hb1 k2;have A1:=A1.below k2;unfold arr8;go_upto_region 3 with fail
 obtain ⟨W2,hW2⟩:∃ W2,w2.alloc (.cells (arrCells m) 244)=W2:=⟨_,rfl⟩
 have A2:Arr W2 w2.heap.size m:=by rw[← hW2];exact Arr.lay _ _ _ _ rfl
 have A1:Arr W2 w1.heap.size l:=by rw[← hW2];exact A1.below (balloc (Below.refl _ _) _)
 have hb2:Below w.heap.size w W2:=by rw[← hW2];exact balloc h2 _
 simp only[arrCells,List.getD_eq_getElem?_getD] at hW2;rw[hW2];clear hW2 k2 C1 C2 h0 h1 hb1 h2;by_cases c1:n=0
 ·have d1:((n:Int) == 0)=true:=bT;by_cases c2:k=0
  ·have d2:((k:Int) == 0)=true:=bT;go_wp2_with fail
   refine cq (S.out _) ?_;go_wp2;go_ret;exact ⟨by rw[HU.out,if_pos (hle.out.1 c1),if_pos (hme.out.1 c2)];rfl,hb2⟩
  have d2:=bF (a:=k) (b:=0);go_wp2;go_ret;exact ⟨by rw[HU.out,if_pos (hle.out.1 c1),if_neg (fun e=>c2 (hme.out.2 e))];rfl,hb2⟩
 have d1:=bF (a:=n) (b:=0);by_cases c2:k=0
 ·have d2:((k:Int) == 0)=true:=bT;go_wp2;go_ret;exact ⟨by rw[HU.out,if_neg (fun e=>c1 (hle.out.2 e)),if_pos (hme.out.1 c2)];rfl,hb2⟩
 have d2:=bF (a:=k) (b:=0);have hn0:(0:Int)≤(n:Int):=by omega
 have hn8:(n:Int)≤8:=by omega
 have hk0:(0:Int)≤(k:Int):=by omega
 have hk8:(k:Int)≤8:=by omega
 have E:=hid (fun (W:World) (a1:Arr W w1.heap.size l) (a2:Arr W w2.heap.size m)=>slices_any l m w1.heap.size w2.heap.size n k W a1 a2 HN.out HK.out hl8 hm8);go_wp2_with fail
 refine wp_region_noPanic ?_;refine wp_region_held_drew (S:=(fun W=>Arr W w1.heap.size l∧Arr W w2.heap.size m)) (by kernel_rfl) (⟨A1,A2⟩) (fun gH=>?_);refine tk [0,1,2,3] ?_;refine tR 4 fun K hK=>?_;go_simp;go_at_call 184;refine cp (E.out _ gH.1 gH.2) ?_;go_wp2_with fail
 refine hK.out _ _ (gH) (fun gH=>?_);clear hK K;try simp only[Act.put,List.setIfInBounds_toArray,List.set_cons_zero,List.set_cons_succ]
 refine tk [5] ?_;refine tD ?_;go_wp2;go_ret;exact ⟨by rw[HU.out,if_neg (fun e=>c1 (hle.out.2 e)),if_neg (fun e=>c2 (hme.out.2 e))];rfl,Below.drew hb2⟩
def ups:Nat→List Nat→List (List Nat)
 | 0,_=>[]
 | n+1,l=>if l.length<2 then [] else l.dropLast::ups n l.dropLast
def rest (n:Nat) (cur:List Nat):List (List Nat):=if cur=[] then [] else cur::ups n cur
def strs (L:List (List Nat)):List Value:=L.map fun l=>.string ⟨(write l).toArray⟩
theorem strs_snoc (L:List (List Nat)) (l:List Nat):strs L++[.string ⟨(write l).toArray⟩]=strs (L++[l]):=by simp[strs]
theorem ups_length:∀ n l,(ups n l).length≤n
 | 0,_=>by simp[ups]
 | n+1,l=>by
  unfold ups;split
  · simp
  have:=ups_length n l.dropLast;simp only[List.length_cons];omega
theorem ups_step {n:Nat} {l:List Nat} (h:¬ l.length<2):ups (n+1) l=l.dropLast::ups n l.dropLast:=by rw[ups,if_neg h]
theorem Valid.dropLast {l:List Nat} (h:Valid l) (h2:2≤l.length):Valid l.dropLast:=by
 obtain ⟨e1,e2,e3⟩:=h;refine ⟨?_,by rw[List.length_dropLast];omega,fun x hx=>e3 x ((List.dropLast_sublist l).subset hx)⟩;rw[List.getD_eq_getElem?_getD] at e1 ⊢;rw[List.getElem?_dropLast,if_pos (by omega)];exact e1
theorem parent_write (l:List Nat) (h:Valid l):parentL (write l)=write (if l.length<2 then [] else l.dropLast):=by
 rw[parentL,parse_write l h];split <;> rfl
theorem write_ne {l:List Nat} (h:Valid l):write l≠[]:=by
 intro e;have:=parse_write l h;rw[e] at this;have h2:parse []=[]:=by decide
 rw[h2] at this;exact h.ne this.symm
theorem info_str:(Tryz.prog.info? 9).map (fun i=>(i.zero,i.size,i.bytes))=some (some (.string ⟨#[]⟩),1,16):=by kernel_rfl
theorem write_lt (l:List Nat) (h:Valid l):(write (if l.length<2 then [] else l.dropLast)).length<(write l).length:=by
 split
 ·have:=write_ne h;show 0<(write l).length
  exact List.length_pos_iff.2 this
 rename_i h2
 have hs:=List.dropLast_concat_getLast h.ne;have hdn:l.dropLast≠[]:=by intro e;have:=congrArg List.length e;simp at this;omega
 conv=>rhs;rw[← hs,write_snoc _ _ hdn]
 simp
def ChainPost (L:List (List Nat)) (w:World) (e:Ending) (w':World):Prop :=
 ∃ v,e=.returned v∧w'.ownsRow w.heap.size 9 1 v L.length (strs L)∧Below w.heap.size w w'
theorem write_len (l:List Nat) (h:Valid l):(write l).length≤1099511627776:=by
 have key:∀ r:List Nat,(∀ x ∈ r,x≤1073741824)→(write r).length≤11*r.length:=by
  intro r;induction r with
  | nil=>intro _;simp[write]
  | cons x r ih =>
   intro hr;have hx:=digits_len 10 x (by decide) (by have:=hr x (List.mem_cons_self ..);omega);cases r with
   | nil=>rw[write];simp;omega
   | cons y s =>
    have:=ih (fun z hz=>hr z (List.mem_cons_of_mem _ hz));rw[write,List.length_append,List.length_cons];simp only[List.length_cons] at this ⊢;omega
 have:=key l (fun x hx=>(h.2.2 x hx).2);have:=h.2.1;omega
theorem chain_any (p:List UInt8) (w:World) (hp:p.length≤1099511627776) :
  Calls Tryz.prog 186 #[p] w (ChainPost (ups 8 (parse p)) w):=by
 obtain ⟨i0,hi,hz0,hz1,hz2⟩:=info_parts info_str;have C:=hid (fun w=>parent_any p w hp);have hstart:∃ cur,parentL p=write cur∧(cur=[]∨Valid cur)∧rest 7 cur=ups 8 (parse p)∧cur.length≤8:=by
  by_cases h2:(parse p).length<2
  · exact ⟨[],by rw[parentL,if_pos h2];rfl,.inl rfl,by rw[rest,if_pos rfl,ups,if_pos h2],by simp⟩
  have hv:=(parse_valid p (by intro e;rw[e] at h2;simp at h2)).dropLast (by omega);exact ⟨(parse p).dropLast,by rw[parentL,if_neg h2],.inr hv,by rw[rest,if_neg hv.ne,ups_step (n:=7) h2],hv.2.1⟩
 obtain ⟨cur0,e0,hv0,hr0,hl0⟩:=hstart;rw[e0] at C;have HR:=hid hr0;have hL8:=ups_length 8 (parse p);obtain ⟨L,hL⟩:=nm (ups 8 (parse p));rw[← hL] at HR hL8;rw[← hL];clear e0 hr0 hL;go_enter Tryz.func186,Tryz.ntmps186;go_wp2_with fail
 refine cr (C.out _) fun w1 hb1=>?_;go_wp2_with fail
 go_loopw [3,4] (fun v sv wr=>∃ (dn:List (List Nat)) (cur:List Nat) (n:Nat),sv=.string ⟨(write cur).toArray⟩∧(cur=[]∨Valid cur)∧Hid (dn++rest n cur=L)∧cur.length≤n+1∧wr.ownsRow w.heap.size 9 1 v dn.length (strs dn)∧Below w.heap.size w wr) (fun _ sv _=>match sv with | .string t=>t.size | _=>0)
 case atStart=>exact ⟨[],cur0,7,rfl,hv0,HR,by omega,World.ownsRow_nil _ _ _ _,hb1⟩
 obtain ⟨dn,cur,n,rfl,hv,HI,hcn,hown,hb⟩:=hrel;have hbs:=hb.size;rcases hv with rfl | hv
 ·have hi:=HI.out;rw[rest,if_pos rfl,List.append_nil] at hi;subst hi;clear HI;go_wp2;go_ret;exact ⟨_,rfl,hown,hb⟩
 have hw0:=write_ne hv;have hwl:=write_len cur hv;have hpw:=parent_write cur hv;have hi:=HI.out;rw[rest,if_neg hv.ne] at hi;have hdl:dn.length+1≤8:=by
  have:=congrArg List.length hi;simp only[List.length_append,List.length_cons] at this;omega
 have C2:=hid (fun w=>parent_any (write cur) w hwl);rw[hpw] at C2;have HIN:=hid hi;have hcl:=Str.size_mk (write cur);obtain ⟨ws,hws⟩:=nm (write cur);have hemp:ws≠[]:=by rw[hws];exact hw0
 rw[← hws] at C2;have hfact:(!ws.isEmpty)=true:=by cases ws with | nil=>exact absurd rfl hemp | cons _ _=>rfl
 have HWS:=hid hws;rw[← hws] at hcl;rw[← hws];clear hws hpw hi HI hw0;have hbs':=hbs;go_wp2_with (at_builtin;refine wpList_append_own _ rfl _ _ 31 rfl w.heap.size 9 i0 (.string ⟨#[]⟩) 1 16 Tryz.underlying31 hi hz0 hz1 hz2 rfl (by decide) _ _ _ rfl (hown.alloc _) ⟨wr.heap.size,0,none⟩ 1 1 [ws] rfl rfl (cell_one_new _ _ _) (by simp[Value.oneCell']) (by unfold maxLen;omega) (by omega) (by simp;omega) ?_;intro v' w1 hown' hgrow _)
 have hb1:Below w.heap.size w w1:=Below.grown (hb.alloc hbs _) hgrow (by simp;omega) (fun j hj=>(hown.lt _ hj).1);go_wp2_with fail
 refine cr (C2.out _) fun w3 b3=>?_;have hb3:=bstep hb1 b3;have hown3:=hown'.kept (row:=none) ⟨b3.os,b3.tape,b3.output,b3.size,fun k hk _=>b3.block k hk⟩ (Classical.em _);rw[HWS.out,strs_snoc] at hown3;go_wp2;go_roundw
 case rel =>
  refine ⟨dn++[cur],if cur.length<2 then [] else cur.dropLast,n - 1,rfl,?_,hid ?_,?_,by simpa using hown3,hb3⟩
  ·by_cases h2:cur.length<2
   · rw[if_pos h2];exact .inl rfl
   rw[if_neg h2];exact .inr (hv.dropLast (by omega))
  ·rw[← HIN.out,List.append_assoc];congr 1
   by_cases h2:cur.length<2
   ·rw[if_pos h2,rest,if_pos rfl];cases n with
    | zero=>rfl
    | succ n=>rw[ups,if_pos h2];rfl
   rw[if_neg h2,rest,if_neg (hv.dropLast (by omega)).ne];obtain ⟨k,rfl⟩:∃ k,n=k+1:=⟨n - 1,by omega⟩
   rw[ups_step h2];rfl
  split
  · simp
  rw[List.length_dropLast];omega
 case measure =>
  have h:=write_lt cur hv;rw[HWS.out];show (ByteArray.size _)<ByteArray.size _
  rw[Str.size_mk,Str.size_mk];exact h
end Path
namespace RefPath
open RowKit Path
theorem info_int:(Tryz.prog.info? 3).map (fun i=>(i.zero,i.size,i.bytes))=some (some (.int .i64 0),1,8):=by kernel_rfl
def In (f:List UInt8) (j x:Nat):Prop:=seg f 0=seg (f.drop j) x
theorem In.zero (f:List UInt8):In f 0 0:=rfl
theorem In.step {f:List UInt8} {j x:Nat} (h:In f j x) (hj:j<f.length) (c:UInt8) (hc:f[j]=c) (h1:¬ (c.toNat<48∨57<c.toNat∨1073741824<x)):In f (j+1) (10*x+(c.toNat - 48)):=by
 rw[In,h,List.drop_eq_getElem_cons hj,seg_cons,hc,if_neg h1]
theorem In.stop {f:List UInt8} {j x:Nat} (h:In f j x) (hj:j<f.length) (c:UInt8) (hc:f[j]=c) (h1:c.toNat<48∨57<c.toNat∨1073741824<x):num1 f=0:=by
 refine num1_none fun y hy=>?_;rw[In,List.drop_eq_getElem_cons hj,seg_cons,hc,if_pos h1] at h;rw[h] at hy;cases hy
theorem In.done {f:List UInt8} {x:Nat} (h:In f f.length x):seg f 0=some x:=by
 rw[In,List.drop_length] at h;exact h
theorem In.none {f:List UInt8} {x:Nat} (h:In f f.length x) (h1:x<1∨1073741824<x∨Lib.decDigits x≠f):num1 f=0:=by
 refine num1_none fun y hy h2 h3 h4=>?_;rw[h.done] at hy;obtain rfl:=Option.some.inj hy;rcases h1 with h1 | h1 | h1
 · omega
 · omega
 exact h1 h4
theorem ext_mid (p f:List UInt8) (k e:Nat) (h:(p.drop k).take (e - k)=f):({ data:=p.toArray }:ByteArray).extract k e={ data:=f.toArray }:=Str.ext (by
 rw[Str.extract_toList,List.drop_take];simp[h])
theorem read_any (p:List UInt8) (w:World) (hp:p.length≤1099511627776) :
  Calls Tryz.prog 204 #[p] w (ReadPost p w):=by
 obtain ⟨i0,hi,hz0,hz1,hz2⟩:=info_parts info_int;have hsz:=Str.size_mk p;have hget:∀ (k:Nat) (h:k<({ data:=p.toArray }:ByteArray).size),({ data:=p.toArray }:ByteArray)[k]'h=p[k]'(by rw[Str.size_mk] at h;exact h):=fun _ _=>rfl;have HG:=hid hget;clear hget;obtain ⟨N,hN⟩:=nm p.length;rw[← hN] at hsz hp;have HN:=hid hN;clear hN;go_enter Tryz.func204,Tryz.ntmps204;go_wp2_with fail
 go_loopw [4,5] (fun v atv wr=>∃ (dn:List Nat) (F:List (List UInt8)) (k:Nat),atv=.int .i64 k∧Hid (Mid p dn F)∧Hid ((k≤N∧F=figs (p.drop k))∨(k=N+1∧F=[]))∧k≤N+1∧dn.length≤k∧wr.ownsRow w.heap.size 3 1 v dn.length (ints dn)∧Below w.heap.size w wr) (fun _ atv _=>N+1 - (intOf atv).toNat)
 case atStart=>exact ⟨[],figs p,0,rfl,hid ⟨rfl,fun x h=>(by cases h)⟩,hid (.inl ⟨by omega,rfl⟩),by omega,by simp,World.ownsRow_nil _ _ _ _,Below.refl _ _⟩
 obtain ⟨dn,F,k,rfl,HM,HF,hkN,hdk,hown,hb⟩:=hrel;obtain ⟨wo,rfl⟩:=nm (wr:World);have hbs:=hb.size;have hn:=HN.out;by_cases hlt:k≤N
 ·have hd1:decide ((k:Int)≤(N:Int))=true:=dT;have hF:F=figs (p.drop k):=by
   rcases HF.out with ⟨_,h⟩ | ⟨h,_⟩
   · exact h
   omega
  clear HF;rw[figs_cut] at hF;obtain ⟨hdot,hsplit⟩:=cutD_split (p.drop k);obtain ⟨f,hf⟩:=nm ((cutD (p.drop k)).1);obtain ⟨more,hmore⟩:=nm ((cutD (p.drop k)).2.2);obtain ⟨tl,htl⟩:=nm ((cutD (p.drop k)).2.1);rw[← hf,← hmore,← htl] at hF hsplit;rw[← hf] at hdot;clear hf hmore htl;have hdl:(p.drop k).length=N - k:=by rw[List.length_drop,hn]
  have hfl:k+f.length≤N:=by
   rcases hsplit with ⟨_,h⟩ | ⟨_,h⟩
   · have:=congrArg List.length h;simp at this;omega
   have:=congrArg List.length h;omega
  have hfg:∀ (j:Nat) (c:UInt8),f[j]?=some c→p[k+j]?=some c:=by
   intro j c hc;have h:=(List.getElem?_eq_some_iff.1 hc).1;have h1:(p.drop k)[j]?=f[j]?:=by
    rcases hsplit with ⟨_,e⟩ | ⟨_,e⟩
    · rw[e,List.getElem?_append_left h]
    rw[e]
   rw[List.getElem?_drop] at h1;exact h1.trans hc
  have htk:(p.drop k).take f.length=f:=by
   rcases hsplit with ⟨_,e⟩ | ⟨_,e⟩
   · rw[e,List.take_left]
   rw[e,List.take_length]
  obtain ⟨M,hM⟩:=nm f.length;rw[← hM] at hfl;have hend:(more=true→k+M<N∧p[k+M]?=some 46)∧(more=false→k+M=N):=by
   rcases hsplit with ⟨e1,e⟩ | ⟨e1,e⟩
   ·refine ⟨fun _=>?_,fun h=>(by rw[h] at e1;cases e1)⟩;have h2:=congrArg List.length e;simp at h2;refine ⟨by omega,?_⟩;have h1:(p.drop k)[M]?=some 46:=by rw[e,hM,List.getElem?_append_right (Nat.le_refl _)];simp
    rw[List.getElem?_drop] at h1;exact h1
   refine ⟨fun h=>(by rw[h] at e1;cases e1),fun _=>?_⟩;have:=congrArg List.length e;omega
  have hrest:(more=true∧tl=p.drop (k+M+1))∨more=false:=by
   rcases hsplit with ⟨e1,e⟩ | ⟨e1,e⟩
   ·refine .inl ⟨e1,?_⟩;rw[show k+M+1=k+(M+1) by omega,← List.drop_drop,e,hM];rw[show f++46::tl=(f++[46])++tl by simp,show f.length+1=(f++[46]).length by simp,List.drop_left]
   exact .inr e1
  have HFL:=hid hM;have HFG:=hid hfg;have HDOT:=hid hdot;have HEND:=hid hend;have HREST:=hid hrest;have HTK:=hid htk;have HFF:=hid hF;clear hM hfg hdot hend hrest htk hF hsplit hdl hn;go_wp2_with fail
  go_loop [6,7] (fun ev nv=>∃ j x:Nat,j≤M∧ev=.int .i64 ((k+j:Nat):Int)∧nv=.int .i64 x∧Hid (In f j x)∧x≤10737418249) (fun ev _=>N - (intOf ev).toNat)
  case atStart=>exact ⟨0,0,by omega,rfl,rfl,hid (In.zero f),by omega⟩
  obtain ⟨j,x,hj,rfl,rfl,HI,hx⟩:=hrel;have hn:=HN.out;have hfl2:=HFL.out;obtain ⟨e,he⟩:=nm (k+j);rw[← he];have he0:(0:Int)≤(e:Int):=by omega
  by_cases hjm:j<M
  ·have hd2:decide ((e:Int)<(N:Int))=true:=dT;have hjf:j<f.length:=by omega
   have heN:e<N:=by omega
   obtain ⟨c,hc⟩:∃ c,f[j]'hjf=c:=⟨_,rfl⟩
   have hpe:p[e]?=some c:=by rw[he];exact HFG.out j c (List.getElem?_eq_some_iff.2 ⟨hjf,hc⟩)
   have hgk:∀ h:e<({ data:=p.toArray }:ByteArray).size,({ data:=p.toArray }:ByteArray)[e]'h=c:=fun h=>by
    rw[HG.out e h];exact (List.getElem?_eq_some_iff.1 hpe).2
   have hc46:c≠46:=HDOT.out c (by rw[← hc];exact List.getElem_mem _);have hb46:((c.toNat:Int) != 46)=true:=by
    rw[bne_iff_ne];intro h;have:(46:UInt8).toNat=46:=rfl;exact hc46 (UInt8.toNat_inj.1 (by omega))
   have hb46':((c.toNat:Int) == 46)=false:=by rw[beq_eq_false_iff_ne];exact bne_iff_ne.1 hb46
   have hc256:=c.toNat_lt;have HC:=hid hc;have HE:=hid he;clear hc hn hfl2 he hc46 hpe;by_cases b1:c.toNat<48
   ·have x1:decide ((c.toNat:Int)<48)=true:=dT;go_wp2;go_ret2;exact read_bad (Mid.bad (p:=p) (dn:=dn) (f:=f) (HFF.out ▸ HM.out) (HI.out.stop hjf _ HC.out (by omega))) hb
   have x1:=dF (p:=(c.toNat:Int)<48);by_cases b2:57<c.toNat
   ·have x2:decide ((c.toNat:Int) > 57)=true:=dT;have x2':=dT (p:=(57:Int)<(c.toNat:Int));go_wp2;go_ret2;exact read_bad (Mid.bad (p:=p) (dn:=dn) (f:=f) (HFF.out ▸ HM.out) (HI.out.stop hjf _ HC.out (by omega))) hb
   have x2:=dF (p:=(c.toNat:Int) > 57);have x2':=dF (p:=(57:Int)<(c.toNat:Int));by_cases b3:1073741824<x
   ·have x3:decide ((x:Int) > 1073741824)=true:=dT;have x3':=dT (p:=(1073741824:Int)<(x:Int));go_wp2;go_ret2;exact read_bad (Mid.bad (p:=p) (dn:=dn) (f:=f) (HFF.out ▸ HM.out) (HI.out.stop hjf _ HC.out (by omega))) hb
   have x3:=dF (p:=(x:Int) > 1073741824);have x3':=dF (p:=(1073741824:Int)<(x:Int));have hw2:IntKind.i64.wrap (10*(x:Int))=10*(x:Int):=by rw[IntKind.wrap_i64];omega
   have hw3:IntKind.i64.wrap (10*(x:Int)+(c.toNat:Int))=10*(x:Int)+(c.toNat:Int):=by rw[IntKind.wrap_i64];omega
   have hw5:IntKind.i64.wrap (c.toNat:Int)=(c.toNat:Int):=by rw[IntKind.wrap_i64];omega
   have hw4:IntKind.i64.wrap (10*(x:Int)+(c.toNat:Int) - 48)=((10*x+(c.toNat - 48):Nat):Int):=by rw[IntKind.wrap_i64];omega
   go_wp2;go_round
   ·exact ⟨j+1,10*x+(c.toNat - 48),by omega,by have:=HE.out;simp only[Value.int.injEq,true_and];omega,rfl,hid (HI.out.step hjf _ HC.out (by omega)),by omega⟩
   have:=HE.out;simp[intOf];omega
  obtain rfl:j=M:=by omega
  rw[hfl2] at HI;obtain ⟨h1,h2⟩:=HEND.out;have HI2:=hid HI.out;clear HI;have hex:=ext_mid p f k e (by rw[he,show k+j - k=j by omega,hfl2];exact HTK.out);have hke:(k:Int)≤(e:Int):=by omega
  have heN:(e:Int)≤(N:Int):=by omega
  have hk0:(0:Int)≤(k:Int):=by omega
  have HE:=hid he;have hek:k≤e∧e≤N:=by omega
  obtain ⟨hek1,hek2⟩:=hek;cases more with
  | true =>
   obtain ⟨h3,h4⟩:=h1 rfl;have heN2:e<N:=by omega
   have hrest:tl=p.drop (e+1):=by
    rcases HREST.out with ⟨_,h⟩ | h
    · rw[h,he]
    cases h
   have hd2:=dT (p:=(e:Int)<(N:Int));have hgk:∀ h:e<({ data:=p.toArray }:ByteArray).size,({ data:=p.toArray }:ByteArray)[e]'h=46:=fun h=>by
    rw[HG.out e h];rw[← he] at h4;exact (List.getElem?_eq_some_iff.1 h4).2
   have hFn:F=f::figs (p.drop (e+1)):=by rw[HFF.out,if_pos rfl,hrest]
   have hm:=HM.out;rw[hFn] at hm;have HMM:=hid hm;clear hm hFn h1 h2 he hfl2 hn h3 h4 hrest;by_cases b1:x<1
   ·have x1:decide ((x:Int)<1)=true:=dT;go_upto_region 11 with fail
    refine wp_region_noPanic ?_;refine wp_region_held_drew (S:=(fun _=>True)) (by kernel_rfl) (trivial) (fun gH=>?_);refine tk (.range 15) ?_;refine tD ?_;go_wp2;go_ret2;exact read_bad (HMM.out.bad (HI2.out.none (by omega))) (Below.drew hb)
   have x1:=dF (p:=(x:Int)<1);by_cases b2:1073741824<x
   ·have x2:decide ((x:Int) > 1073741824)=true:=dT;have x2':=dT (p:=(1073741824:Int)<(x:Int));go_upto_region 11 with fail
    refine wp_region_noPanic ?_;refine wp_region_held_drew (S:=(fun _=>True)) (by kernel_rfl) (trivial) (fun gH=>?_);refine tk (.range 15) ?_;refine tD ?_;go_wp2;go_ret2;exact read_bad (HMM.out.bad (HI2.out.none (by omega))) (Below.drew hb)
   have x2:=dF (p:=(x:Int) > 1073741824);have x2':=dF (p:=(1073741824:Int)<(x:Int));have NU:=hid (fun w=>num_any x w (by omega));have b3:1≤x:=by omega
   have b4:x≤1073741824:=by omega
   clear b1 b2;obtain ⟨t,ht⟩:=nm (Lib.decDigits x);rw[← ht] at NU;have HT:=hid ht;clear ht;by_cases b5:t=f
   ·
    subst b5;go_upto_region 11 with fail
    refine wp_region_noPanic ?_;refine wp_region_held_drew (S:=(fun _=>True)) (by kernel_rfl) (trivial) (fun gH=>?_);refine tk [0,1,2,3,4,5,6,7,9,10,11,12] ?_;refine tR 8 fun K hK=>?_;go_simp;go_at_call 249;refine cr (NU.out _) fun v1 k1=>?_;have h1:=bstep (by first | exact hb | exact Below.drew hb) k1;go_wp2_with fail
    refine hK.out _ _ (trivial) (fun gH=>?_);clear hK K;try simp only[Act.put,List.setIfInBounds_toArray,List.set_cons_zero,List.set_cons_succ]
    refine tk [13,14] ?_;refine tD ?_;have hown2:=hown.drew.kept (row:=none) (grown_of k1) (Classical.em _);clear k1 hown;have hs1:=h1.size;go_wp2_with (at_builtin;refine wpList_append_own _ rfl _ _ 197 rfl w.heap.size 3 i0 (.int .i64 0) 1 8 Tryz.underlying197 hi hz0 hz1 hz2 rfl (by decide) _ _ _ rfl (hown2.alloc _) ⟨v1.heap.size,0,none⟩ 1 1 [.int .i64 ((x:Nat):Int)] rfl rfl (cell_one_new _ _ _) (by simp[Value.oneCell']) (by unfold maxLen;omega) (by omega) (by simp;omega) ?_;intro v' w1 hown' hgrow _)
    have hb1:Below w.heap.size w w1:=Below.grown (h1.alloc hs1 _) hgrow (by simp;omega) (fun j hj=>(hown2.lt _ hj).1);rw[ints_snoc] at hown';have ho2:w1.ownsRow w.heap.size 3 1 v' (dn++[x]).length (ints (dn++[x])):=by rw[List.length_append];exact hown'
    have HO:=hid ho2;clear ho2 hown' hown2 hgrow;go_wp2;go_roundw
    ·exact ⟨dn++[x],(figs (p.drop (e+1))),e+1,by go_num,hid (HMM.out.next b3 b4 HT.out.symm),hid (.inl ⟨by omega,rfl⟩),by omega,by rw[List.length_append];simp;omega,HO.out,hb1⟩
    simp[intOf];omega
   have y5:(t != f)=true:=by rw[bne_iff_ne];exact b5
   have y5b:(t == f)=false:=by rw[beq_eq_false_iff_ne];exact b5
   go_upto_region 11 with fail
   refine wp_region_noPanic ?_;refine wp_region_held_drew (S:=(fun _=>True)) (by kernel_rfl) (trivial) (fun gH=>?_);refine tk [0,1,2,3,4,5,6,7,9,10,11,12] ?_;refine tR 8 fun K hK=>?_;go_simp;go_at_call 249;refine cr (NU.out _) fun v2 k2=>?_;have h2:=bstep (by first | exact hb | exact Below.drew hb) k2;go_wp2_with fail
   refine hK.out _ _ (trivial) (fun gH=>?_);clear hK K;try simp only[Act.put,List.setIfInBounds_toArray,List.set_cons_zero,List.set_cons_succ]
   refine tk [13,14] ?_;refine tD ?_;go_wp2;go_ret2;exact read_bad (HMM.out.bad (HI2.out.none (.inr (.inr (by rw[← HT.out];exact b5))))) h2
  | false =>
   have h3:=h2 rfl;have heN2:N≤e:=by omega
   have hd2:=dF (p:=(e:Int)<(N:Int));have hFn:F=f::[]:=by rw[HFF.out,if_neg (by decide)]
   have hm:=HM.out;rw[hFn] at hm;have HMM:=hid hm;clear hm hFn h1 h2 he hfl2 hn h3;by_cases b1:x<1
   ·have x1:decide ((x:Int)<1)=true:=dT;go_upto_region 11 with fail
    refine wp_region_noPanic ?_;refine wp_region_held_drew (S:=(fun _=>True)) (by kernel_rfl) (trivial) (fun gH=>?_);refine tk (.range 15) ?_;refine tD ?_;go_wp2;go_ret2;exact read_bad (HMM.out.bad (HI2.out.none (by omega))) (Below.drew hb)
   have x1:=dF (p:=(x:Int)<1);by_cases b2:1073741824<x
   ·have x2:decide ((x:Int) > 1073741824)=true:=dT;have x2':=dT (p:=(1073741824:Int)<(x:Int));go_upto_region 11 with fail
    refine wp_region_noPanic ?_;refine wp_region_held_drew (S:=(fun _=>True)) (by kernel_rfl) (trivial) (fun gH=>?_);refine tk (.range 15) ?_;refine tD ?_;go_wp2;go_ret2;exact read_bad (HMM.out.bad (HI2.out.none (by omega))) (Below.drew hb)
   have x2:=dF (p:=(x:Int) > 1073741824);have x2':=dF (p:=(1073741824:Int)<(x:Int));have NU:=hid (fun w=>num_any x w (by omega));have b3:1≤x:=by omega
   have b4:x≤1073741824:=by omega
   clear b1 b2;obtain ⟨t,ht⟩:=nm (Lib.decDigits x);rw[← ht] at NU;have HT:=hid ht;clear ht;by_cases b5:t=f
   ·
    subst b5;go_upto_region 11 with fail
    refine wp_region_noPanic ?_;refine wp_region_held_drew (S:=(fun _=>True)) (by kernel_rfl) (trivial) (fun gH=>?_);refine tk [0,1,2,3,4,5,6,7,9,10,11,12] ?_;refine tR 8 fun K hK=>?_;go_simp;go_at_call 249;refine cr (NU.out _) fun v3 k3=>?_;have h3:=bstep (by first | exact hb | exact Below.drew hb) k3;go_wp2_with fail
    refine hK.out _ _ (trivial) (fun gH=>?_);clear hK K;try simp only[Act.put,List.setIfInBounds_toArray,List.set_cons_zero,List.set_cons_succ]
    refine tk [13,14] ?_;refine tD ?_;have hown2:=hown.drew.kept (row:=none) (grown_of k3) (Classical.em _);clear k3 hown;have hs3:=h3.size;go_wp2_with (at_builtin;refine wpList_append_own _ rfl _ _ 197 rfl w.heap.size 3 i0 (.int .i64 0) 1 8 Tryz.underlying197 hi hz0 hz1 hz2 rfl (by decide) _ _ _ rfl (hown2.alloc _) ⟨v3.heap.size,0,none⟩ 1 1 [.int .i64 ((x:Nat):Int)] rfl rfl (cell_one_new _ _ _) (by simp[Value.oneCell']) (by unfold maxLen;omega) (by omega) (by simp;omega) ?_;intro v' w1 hown' hgrow _)
    have hb1:Below w.heap.size w w1:=Below.grown (h3.alloc hs3 _) hgrow (by simp;omega) (fun j hj=>(hown2.lt _ hj).1);rw[ints_snoc] at hown';have ho2:w1.ownsRow w.heap.size 3 1 v' (dn++[x]).length (ints (dn++[x])):=by rw[List.length_append];exact hown'
    have HO:=hid ho2;clear ho2 hown' hown2 hgrow;go_wp2;go_roundw
    ·exact ⟨dn++[x],[],e+1,by go_num,hid (HMM.out.next b3 b4 HT.out.symm),hid (.inr ⟨by omega,rfl⟩),by omega,by rw[List.length_append];simp;omega,HO.out,hb1⟩
    simp[intOf];omega
   have y5:(t != f)=true:=by rw[bne_iff_ne];exact b5
   have y5b:(t == f)=false:=by rw[beq_eq_false_iff_ne];exact b5
   go_upto_region 11 with fail
   refine wp_region_noPanic ?_;refine wp_region_held_drew (S:=(fun _=>True)) (by kernel_rfl) (trivial) (fun gH=>?_);refine tk [0,1,2,3,4,5,6,7,9,10,11,12] ?_;refine tR 8 fun K hK=>?_;go_simp;go_at_call 249;refine cr (NU.out _) fun v4 k4=>?_;have h4:=bstep (by first | exact hb | exact Below.drew hb) k4;go_wp2_with fail
   refine hK.out _ _ (trivial) (fun gH=>?_);clear hK K;try simp only[Act.put,List.setIfInBounds_toArray,List.set_cons_zero,List.set_cons_succ]
   refine tk [13,14] ?_;refine tD ?_;go_wp2;go_ret2;exact read_bad (HMM.out.bad (HI2.out.none (.inr (.inr (by rw[← HT.out];exact b5))))) h4
 obtain rfl:k=N+1:=by omega
 have hd1:decide (((N+1:Nat):Int)≤(N:Int))=false:=dF;have hF:F=[]:=by
  rcases HF.out with ⟨h,_⟩ | ⟨_,h⟩
  · omega
  exact h
 subst hF;obtain ⟨g,c,rfl,hle,hr⟩:=ints_of_own hown HM.out.ne;have hdn:=List.length_pos_iff.2 HM.out.ne;have hcell:=hr 0 hdn;have R:=hid hr;obtain ⟨n,hn2⟩:=nm dn.length;obtain ⟨x,hx⟩:=nm (dn.getD 0 0);rw[← hn2] at hdn hdk hle ⊢;rw[← hx] at hcell;have HNN:=hid hn2;have HXX:=hid hx;clear hn2 hx hr hown HF hn;have y1:=dT (p:=(n:Int)≥1);have y1':=dT (p:=(1:Int)≤(n:Int));by_cases y2:n≤8
 ·have y3:decide ((n:Int)≤8)=true:=dT;by_cases y4:x=1
  ·subst y4;go_wp2_with fail
   go_upto_region 15 with fail
   refine wp_region_noPanic ?_;refine wp_region_held_drew (S:=(fun w'=>w'.cell? ⟨g,0,none⟩=some (.int .i64 (1:Int)))) (by kernel_rfl) (hcell) (fun gH=>?_);refine tk (.range 17) ?_;refine tD ?_;go_wp2;go_ret2;exact HNN.out ▸ read_all HM.out (R.out.below (Below.drew (Below.refl _ _))) (by rw[← HNN.out];exact hle) (Below.drew hb) true (by rw[← HNN.out,← HXX.out];simp;omega)
  have y5:=bF (a:=x) (b:=1);go_wp2_with fail
  go_upto_region 15 with fail
  refine wp_region_noPanic ?_;refine wp_region_held_drew (S:=(fun w'=>w'.cell? ⟨g,0,none⟩=some (.int .i64 (x:Int)))) (by kernel_rfl) (hcell) (fun gH=>?_);refine tk (.range 17) ?_;refine tD ?_;go_wp2;go_ret2;exact HNN.out ▸ read_all HM.out (R.out.below (Below.drew (Below.refl _ _))) (by rw[← HNN.out];exact hle) (Below.drew hb) false (by rw[← HNN.out,← HXX.out];simp;omega)
 have y3:=dF (p:=(n:Int)≤8);go_wp2_with fail
 go_upto_region 15 with fail
 refine wp_region_noPanic ?_;refine wp_region_held_drew (S:=(fun w'=>w'.cell? ⟨g,0,none⟩=some (.int .i64 (x:Int)))) (by kernel_rfl) (hcell) (fun gH=>?_);refine tk (.range 17) ?_;refine tD ?_;go_wp2;go_ret2;exact HNN.out ▸ read_all HM.out (R.out.below (Below.drew (Below.refl _ _))) (by rw[← HNN.out];exact hle) (Below.drew hb) false (by rw[← HNN.out,← HXX.out];simp;omega)
end RefPath
end Go.Proofs.YtnpjkmomllkhpaaGreatDoor
