/- Bulk, TrodB, CoderIn. -/
import Derived.Test.YtnpjkmomllkhpaaGreatDoorRows
import Derived.Test.YtnpjkmomllkhpaaGreatDoorTm25
set_option linter.unusedVariables false
set_option linter.unusedSimpArgs false
namespace Go.Proofs.YtnpjkmomllkhpaaGreatDoor.Bulk
theorem one_le {H:Type} (d:DataW H):1≤Rows.uptoBulk d:=by
 cases d with
 | lit l=>cases l <;> simp[Rows.uptoBulk]
 | nil=>simp[Rows.uptoBulk]
 | ptr d=>simp[Rows.uptoBulk]
 | slice elems spare=>simp[Rows.uptoBulk]
 | agg parts=>simp[Rows.uptoBulk]
 | iface t d=>simp[Rows.uptoBulk]
 | map entries=>simp[Rows.uptoBulk]
 | held h=>simp[Rows.uptoBulk]
theorem part_le {H:Type} {d:DataW H} {l:List (DataW H)} (h:d ∈ l):Rows.uptoBulk d≤Rows.uptoBulkAll l:=by
 induction l with
 | nil=>cases h
 | cons x r ih =>
  simp only[Rows.uptoBulkAll]
  cases List.mem_cons.1 h with
  | inl e=>subst e;omega
  | inr e=>have:=ih e;omega
theorem length_le {H:Type} (l:List (DataW H)):l.length≤Rows.uptoBulkAll l:=by
 induction l with
 | nil=>simp[Rows.uptoBulkAll]
 | cons x r ih=>have:=one_le x;simp only[Rows.uptoBulkAll,List.length_cons];omega
theorem bound {H:Type} {l:List (DataW H)} (hk:Rows.uptoSmall H l=true):Rows.uptoBulkAll l≤1048576:=of_decide_eq_true hk
theorem at_le {H:Type} {l:List (DataW H)} (hk:Rows.uptoSmall H l=true) {j:Nat} {d:DataW H} (hd:l[j]?=some d):Rows.uptoBulk d≤1048576 :=
 Nat.le_trans (part_le (List.mem_of_getElem? hd)) (bound hk)
theorem str {H:Type} {l:List (DataW H)} (hk:Rows.uptoSmall H l=true) {j:Nat} {s:ByteArray} (hd:l[j]?=some (.lit (.string s.data.toList))):s.size≤1048576:=by
 have h:=at_le hk hd
 simp only[Rows.uptoBulk] at h
 have e:s.data.toList.length=s.size:=by rw[Array.length_toList];rfl
 omega
end Go.Proofs.YtnpjkmomllkhpaaGreatDoor.Bulk
namespace Go.Proofs.YtnpjkmomllkhpaaGreatDoor
section
open RowKit
section
variable {H:Type} {enc:TypeId × Value→H} {P:Program} {w:World} {base:Nat} {spare:Nat→Bool} {held:Bool} {t e:TypeId} {cs:List Value}
def Tb (enc:TypeId × Value→H) (P:Program) (w:World) (base:Nat) (spare:Nat→Bool) (held:Bool) (t:TypeId) (cs:List Value):Prop :=
 ∃ fuel d ps,DataW.trod enc P w base spare held fuel t cs=some (d,ps)∧Rows.uptoBulk d≤1048576
theorem Tb.of {ds:List (DataW H)} (hk:Rows.uptoSmall H ds=true) {j:Nat} {d:DataW H} {ps:List MemPlace} {v:Value} (hd:ds[j]?=some d)
  (h:DataW.Trod enc P w base spare held t v d ps):Tb enc P w base spare held t v.cells.toList:=by
 obtain ⟨fuel,hf⟩:=h
 exact ⟨fuel,d,ps,hf,Bulk.at_le hk hd⟩
theorem Tb.int {k:IntKind} (ht:P.underlying t=some (.int k)) (h:Tb enc P w base spare held t cs):∃ n,cs=[.int k n]∧(Lit.int k n).wf=true:=by
 obtain ⟨fuel,d,ps,hf,_⟩:=h
 obtain ⟨n,hn,_,hw⟩:=DataW.trod_int ht hf
 exact ⟨n,hn,hw⟩
theorem Tb.bool (ht:P.underlying t=some .bool) (h:Tb enc P w base spare held t cs):∃ b,cs=[.bool b]:=by
 obtain ⟨fuel,d,ps,hf,_⟩:=h
 obtain ⟨b,hb,_⟩:=DataW.trod_bool ht hf
 exact ⟨b,hb⟩
theorem Tb.str (ht:P.underlying t=some .string) (h:Tb enc P w base spare held t cs):∃ l:List UInt8,cs=[.string ⟨l.toArray⟩]∧l.length≤1048576:=by
 obtain ⟨fuel,d,ps,hf,hz⟩:=h
 obtain ⟨s,hs,hx,_⟩:=DataW.trod_string ht hf
 simp only[Prod.mk.injEq] at hx
 refine ⟨s.data.toList,by rw[hs],?_⟩
 rw[hx.1] at hz
 simp only[Rows.uptoBulk] at hz
 omega
theorem Tb.struct {fs:Array Field} (ht:P.underlying t=some (.struct fs)) (h:Tb enc P w base spare held t cs) :
  cs.length=P.cellsOf t∧∀ (i:Nat) (f:Field),fs[i]?=some f→Tb enc P w base spare held f.type ((cs.drop f.offset).take (P.cellsOf f.type)):=by
 obtain ⟨fuel,d,ps,hf,hz⟩:=h
 obtain ⟨xs,n,_,hx,hl,hlen,hi⟩:=DataW.trod_struct ht hf
 simp only[Prod.mk.injEq] at hx
 refine ⟨hl,fun i f hfi=>?_⟩
 have hlt:i<fs.size:=(Array.getElem?_eq_some_iff.1 hfi).1
 have h1:=hi i f hfi
 rw[List.getElem?_eq_getElem (by omega)] at h1
 refine ⟨n,xs[i].1,xs[i].2,h1,?_⟩
 rw[hx.1] at hz
 simp only[Rows.uptoBulk] at hz
 have hm:xs[i].1 ∈ xs.map Prod.fst:=List.mem_map.2 ⟨xs[i],List.getElem_mem _,rfl⟩
 exact Nat.le_trans (Bulk.part_le hm) (Nat.le_trans (Nat.le_succ _) hz)
theorem Tb.field {fs:Array Field} (ht:P.underlying t=some (.struct fs)) (h:Tb enc P w base spare held t cs) (i:Nat) (f:Field) (hf:fs[i]?=some f) {u:TypeId} {o c:Nat} (hu:f.type=u) (ho:f.offset=o) (hc:P.cellsOf u=c):Tb enc P w base spare held u ((cs.drop o).take c):=by
 subst hu;subst ho;subst hc
 exact (Tb.struct ht h).2 i f hf
theorem Tb.slice (ht:P.underlying t=some (.slice e)) (h:Tb enc P w base spare held t cs) :
  ∃ a len cap,cs=[.slice a len cap]∧len≤1048576∧(a=none→len=0∧cap=0) ∧
   ∀ y,a=some y→∀ i,i<len→∃ cs',w.cells? base (y.add (i*P.cellsOf e)) (P.cellsOf e)=some cs'∧Tb enc P w base spare held e cs':=by
 obtain ⟨fuel,d,ps,hf,hz⟩:=h
 rcases Go.Deep.open_slice ht hf with ⟨h0,_⟩ | ⟨y,len,cap,m,n,D,Pl,hcs,_,hl,hm,hmm,hx,hi⟩
 · exact ⟨none,0,0,h0,by omega,fun _=>⟨rfl,rfl⟩,fun y hy=>by cases hy⟩
 ·simp only[Prod.mk.injEq] at hx
  have hlm:len≤m:=by rw[hmm];split <;> omega
  rw[hx.1] at hz
  simp only[Rows.uptoBulk] at hz
  have h1:=Bulk.length_le ((List.range len).map D)
  rw[List.length_map,List.length_range] at h1
  refine ⟨some y,len,cap,hcs,by omega,(fun h=>(by cases h)),fun y' hy i hil=>?_⟩
  cases hy
  obtain ⟨cs',hc,hd⟩:=hi i (by omega)
  refine ⟨cs',hc,n,D i,Pl i,hd,?_⟩
  have h2:D i ∈ (List.range len).map D:=List.mem_map.2 ⟨i,List.mem_range.2 hil,rfl⟩
  have:=Bulk.part_le h2
  omega
end
namespace Row
section
variable {α:Type} {E:Enc α} {H:Type} {enc:TypeId × Value→H} {P:Program} {w:World} {base:Nat} {spare:Nat→Bool} {held:Bool} {cs:List Value}
theorem rows_tb {ts te:TypeId} {Was:α→Prop} (hs:P.underlying ts=some (.slice te)) (hC:P.cellsOf te=E.k) (hel:∀ cs,Tb enc P w base spare held te cs→∃ x,cs=E.cells x∧Was x)
  (h:Tb enc P w base spare held ts cs):∃ a c L,cs=[.slice a L.length c]∧Lies E w a L.length L∧(∀ x ∈ L,Was x)∧L.length≤1048576∧(a=none→c=0):=by
 obtain ⟨a,len,cap,rfl,hlen,hnil,hi⟩:=Tb.slice hs h
 by_cases h0:0<len
 ·cases a with
  | none=>exact absurd (hnil rfl).1 (by omega)
  | some y =>
   have hi:=hi y rfl
   obtain ⟨cs0,hc0,_⟩:=hi 0 h0
   obtain ⟨b,off,rfl,_⟩:=spot_none (by rw[hC];exact E.pos) hc0
   have key:∀ q,q≤len→∃ L:List α,L.length=q∧(∀ m ∈ L,Was m)∧∀ j (hj:j<L.length) i u,(E.cells L[j])[i]?=some u→w.cell? ⟨b,off+j*E.k+i,none⟩=some u:=by
    intro q
    induction q with
    | zero=>intro _;exact ⟨[],rfl,fun m hm=>(by cases hm),fun j hj=>absurd hj (Nat.not_lt_zero j)⟩
    | succ q ih =>
     intro hk
     obtain ⟨L,hl,hok,hL⟩:=ih (by omega)
     obtain ⟨cs',hc,ht⟩:=hi q (by omega)
     rw[hC] at hc
     obtain ⟨m,rfl,hm⟩:=hel _ ht
     obtain ⟨_,hat⟩:=cells_at hc
     refine ⟨L++[m],by simp[hl],fun x hx=>?_,fun j hj i u hu=>?_⟩
     ·rcases List.mem_append.1 hx with hx | hx
      · exact hok x hx
      · simp at hx;subst hx;exact hm
     ·by_cases hjk:j<L.length
      · rw[List.getElem_append_left hjk] at hu;exact hL j hjk i u hu
      ·have:j=q:=by simp at hj;omega
       subst this
       rw[List.getElem_append_right (by omega)] at hu
       have hz:j - L.length=0:=by omega
       simp only[hz,List.getElem_cons_zero] at hu
       have hik:i<E.k:=by rw[← E.len m];exact (List.getElem?_eq_some_iff.1 hu).1
       have e1:=hat i hik
       rw[Go.WideShapes.add_plain,Go.WideShapes.add_plain] at e1
       exact e1.trans hu
   obtain ⟨L,rfl,hok,hL⟩:=key len (Nat.le_refl _)
   exact ⟨_,cap,L,rfl,⟨rfl,fun _=>⟨b,off,rfl,hL⟩⟩,hok,hlen,fun h=>by cases h⟩
 ·obtain rfl:len=0:=by omega
  exact ⟨a,cap,[],rfl,Lies.nil _ _,fun m hm=>(by cases hm),Nat.zero_le _,fun h=>(hnil h).2⟩
end
end Row
end
set_option maxRecDepth 100000
namespace CoderLaw
open RowKit YtnpjkmomllkhpaaGreatDoor.Mark Num Bag Coder
theorem k_str:Tryz.prog.cellsOf 9=1:=by kernel_rfl
theorem k_u64:Tryz.prog.cellsOf 25=1:=by kernel_rfl
theorem k_u8:Tryz.prog.cellsOf 5=1:=by kernel_rfl
theorem k_i64:Tryz.prog.cellsOf 2=1:=by kernel_rfl
theorem k_bool:Tryz.prog.cellsOf 4=1:=by kernel_rfl
theorem k_dot:Tryz.prog.cellsOf 167=2:=by kernel_rfl
theorem k_mark:Tryz.prog.cellsOf 96=2:=by kernel_rfl
theorem k_count:Tryz.prog.cellsOf 98=3:=by kernel_rfl
theorem k_item:Tryz.prog.cellsOf 155=2:=by kernel_rfl
theorem k_cell:Tryz.prog.cellsOf 27=3:=by kernel_rfl
theorem k_entry:Tryz.prog.cellsOf 29=7:=by kernel_rfl
theorem k_state:Tryz.prog.cellsOf 33=3:=by kernel_rfl
theorem k_delta:Tryz.prog.cellsOf 35=4:=by kernel_rfl
theorem k_op:Tryz.prog.cellsOf 38=4:=by kernel_rfl
theorem k_marks:Tryz.prog.cellsOf 22=1:=by kernel_rfl
theorem k_dots:Tryz.prog.cellsOf 153=1:=by kernel_rfl
theorem k_counts:Tryz.prog.cellsOf 23=1:=by kernel_rfl
theorem k_items:Tryz.prog.cellsOf 24=1:=by kernel_rfl
theorem k_entries:Tryz.prog.cellsOf 30=1:=by kernel_rfl
theorem k_strs:Tryz.prog.cellsOf 31=1:=by kernel_rfl
def SzM (m:M):Prop:=m.p.length≤1048576∧m.n≤18446744073709551615
def SzC (c:C):Prop:=c.p.length≤1048576∧c.a≤18446744073709551615∧c.b≤18446744073709551615
structure DSz (B:List M) (x:RS):Prop where
 b:B.length≤1048576
 bm:∀ m ∈ B,m.p.length≤1048576∧m.n≤18446744073709551615
 x:x.Sz
theorem mk_len {m:M} (h:SzM m):(mk m).length≤1048596:=by
 unfold mk
 rw[List.length_append]
 have h1:=tx_len m.p
 have h2:=up_len m.n
 have h3:=h.1
 omega
theorem flat_len {α:Type} (f:α→List UInt8) (N:Nat):∀ (L:List α),(∀ x ∈ L,(f x).length≤N)→(L.flatMap f).length≤L.length*N
 | [],_=>by simp
 | x::L,h=>by
  rw[List.flatMap_cons,List.length_append,List.length_cons,Nat.add_mul]
  have h1:=h x (List.mem_cons_self ..)
  have h2:=flat_len f N L fun y hy=>h y (List.mem_cons_of_mem _ hy)
  omega
theorem lst_len {α:Type} (f:α→List UInt8) (N:Nat) (L:List α) (h:∀ x ∈ L,(f x).length≤N):(lst f L).length≤10+L.length*N:=by
 unfold lst
 rw[List.length_append]
 have h1:=up_len L.length
 have h2:=flat_len f N L h
 omega
theorem itb_len {x:It} (ht:x.t.length≤1048576) (n:Nat) (hd:x.d.length≤n) (hm:∀ m ∈ x.d,SzM m):(itb x).length≤1048606+n*1048596:=by
 unfold itb
 rw[List.length_append]
 have h1:=tx_len x.t
 have h2:=lst_len mk 1048596 x.d fun m h=>mk_len (hm m h)
 have h4:x.d.length*1048596≤n*1048596:=Nat.mul_le_mul_right _ hd
 omega
section
variable {H:Type} {enc':TypeId × Value→H} {w:World} {base:Nat} {spare:Nat→Bool} {held:Bool} {cs:List Value}
theorem nat_u64 {n:Int} (h:(Lit.int .u64 n).wf=true):∃ m:Nat,n=(m:Int)∧m≤18446744073709551615:=by
 simp only[Lit.wf,Bool.and_eq_true,decide_eq_true_eq] at h
 obtain ⟨h1,h2⟩:=h
 have h1:(0:Int)≤n:=h1
 have h2:n≤(18446744073709551615:Int):=h2
 obtain ⟨m,rfl⟩:=Int.eq_ofNat_of_zero_le h1
 exact ⟨m,rfl,by omega⟩
theorem nat_u8 {n:Int} (h:(Lit.int .u8 n).wf=true):∃ m:Nat,n=(m:Int)∧m≤255:=by
 simp only[Lit.wf,Bool.and_eq_true,decide_eq_true_eq] at h
 obtain ⟨h1,h2⟩:=h
 have h1:(0:Int)≤n:=h1
 have h2:n≤(255:Int):=h2
 obtain ⟨m,rfl⟩:=Int.eq_ofNat_of_zero_le h1
 exact ⟨m,rfl,by omega⟩
theorem mark_in (cs:List Value) (h:Tb enc' Tryz.prog w base spare held 96 cs):∃ m:M,cs=dE.cells m∧SzM m:=by
 have hl:=(Tb.struct Tryz.underlying96 h).1.trans k_mark
 have h0:=Tb.field Tryz.underlying96 h 0 _ rfl rfl rfl k_str
 have h1:=Tb.field Tryz.underlying96 h 1 _ rfl rfl rfl k_u64
 match cs,hl with
 | [x,y],_ =>
  obtain ⟨l,e0,hl⟩:=Tb.str Tryz.underlying9 h0
  obtain ⟨n,e1,hn⟩:=Tb.int Tryz.underlying25 h1
  obtain rfl:x=_:=List.head_eq_of_cons_eq e0
  obtain rfl:y=_:=List.head_eq_of_cons_eq e1
  obtain ⟨n,rfl,hn'⟩:=nat_u64 hn
  exact ⟨⟨l,n⟩,rfl,hl,hn'⟩
theorem dot_in (cs:List Value) (h:Tb enc' Tryz.prog w base spare held 167 cs):∃ m:M,cs=dE.cells m∧SzM m:=by
 have hl:=(Tb.struct Tryz.underlying167 h).1.trans k_dot
 have h0:=Tb.field Tryz.underlying167 h 0 _ rfl rfl rfl k_str
 have h1:=Tb.field Tryz.underlying167 h 1 _ rfl rfl rfl k_u64
 match cs,hl with
 | [x,y],_ =>
  obtain ⟨l,e0,hl⟩:=Tb.str Tryz.underlying9 h0
  obtain ⟨n,e1,hn⟩:=Tb.int Tryz.underlying25 h1
  obtain rfl:x=_:=List.head_eq_of_cons_eq e0
  obtain rfl:y=_:=List.head_eq_of_cons_eq e1
  obtain ⟨n,rfl,hn'⟩:=nat_u64 hn
  exact ⟨⟨l,n⟩,rfl,hl,hn'⟩
theorem count_in (cs:List Value) (h:Tb enc' Tryz.prog w base spare held 98 cs):∃ m:C,cs=cE.cells m∧SzC m:=by
 have hl:=(Tb.struct Tryz.underlying98 h).1.trans k_count
 have h0:=Tb.field Tryz.underlying98 h 0 _ rfl rfl rfl k_str
 have h1:=Tb.field Tryz.underlying98 h 1 _ rfl rfl rfl k_u64
 have h2:=Tb.field Tryz.underlying98 h 2 _ rfl rfl rfl k_u64
 match cs,hl with
 | [x,y,z],_ =>
  obtain ⟨l,e0,hl⟩:=Tb.str Tryz.underlying9 h0
  obtain ⟨n,e1,hn⟩:=Tb.int Tryz.underlying25 h1
  obtain ⟨k,e2,hk⟩:=Tb.int Tryz.underlying25 h2
  obtain rfl:x=_:=List.head_eq_of_cons_eq e0
  obtain rfl:y=_:=List.head_eq_of_cons_eq e1
  obtain rfl:z=_:=List.head_eq_of_cons_eq e2
  obtain ⟨n,rfl,hn'⟩:=nat_u64 hn
  obtain ⟨k,rfl,hk'⟩:=nat_u64 hk
  exact ⟨⟨l,n,k⟩,rfl,hl,hn',hk'⟩
theorem item_in (cs:List Value) (h:Tb enc' Tryz.prog w base spare held 155 cs):∃ x:RI,cs=iE.cells x∧(x.t.length≤1048576∧x.d.length≤1048576∧(∀ m ∈ x.d,SzM m)∧Inner w x):=by
 have hl:=(Tb.struct Tryz.underlying155 h).1.trans k_item
 have h0:=Tb.field Tryz.underlying155 h 0 _ rfl rfl rfl k_str
 have h1:=Tb.field Tryz.underlying155 h 1 _ rfl rfl rfl k_dots
 match cs,hl with
 | [x,y],_ =>
  obtain ⟨l,e0,hl⟩:=Tb.str Tryz.underlying9 h0
  obtain ⟨a,c,D,e1,g1,g2,g3,-⟩:=Row.rows_tb (E:=dE) Tryz.underlying153 k_dot dot_in h1
  obtain rfl:x=_:=List.head_eq_of_cons_eq e0
  obtain rfl:y=_:=List.head_eq_of_cons_eq e1
  exact ⟨⟨l,a,c,D⟩,rfl,hl,g3,g2,g1⟩
theorem cell_in (cs:List Value) (h:Tb enc' Tryz.prog w base spare held 27 cs):∃ m:Cl,cs=[.int .u64 (m.s:Int),.string ⟨m.t.toArray⟩,.bool m.g]∧m.t.length≤1048576∧m.s≤18446744073709551615:=by
 have hl:=(Tb.struct Tryz.underlying27 h).1.trans k_cell
 have h0:=Tb.field Tryz.underlying27 h 0 _ rfl rfl rfl k_u64
 have h1:=Tb.field Tryz.underlying27 h 1 _ rfl rfl rfl k_str
 have h2:=Tb.field Tryz.underlying27 h 2 _ rfl rfl rfl k_bool
 match cs,hl with
 | [x,y,z],_ =>
  obtain ⟨n,e0,hn⟩:=Tb.int Tryz.underlying25 h0
  obtain ⟨l,e1,hl⟩:=Tb.str Tryz.underlying9 h1
  obtain ⟨k,e2⟩:=Tb.bool Tryz.underlying4 h2
  obtain rfl:x=_:=List.head_eq_of_cons_eq e0
  obtain rfl:y=_:=List.head_eq_of_cons_eq e1
  obtain rfl:z=_:=List.head_eq_of_cons_eq e2
  obtain ⟨n,rfl,hn'⟩:=nat_u64 hn
  exact ⟨⟨n,l,k⟩,rfl,hl,hn'⟩
theorem marks_in {cs:List Value} (h:Tb enc' Tryz.prog w base spare held 22 cs):∃ a c L,cs=[.slice a L.length c]∧Mark.Lies w a L.length L∧(∀ x ∈ L,SzM x)∧L.length≤1048576:=by
 obtain ⟨a,c,L,e,h1,h2,h3,-⟩:=Row.rows_tb (E:=dE) Tryz.underlying22 k_mark mark_in h
 refine ⟨a,c,L,e,⟨h1.1,fun hn=>?_⟩,h2,h3⟩
 obtain ⟨b,o,e,hc⟩:=h1.2 hn
 exact ⟨b,o,e,fun j hj=>⟨hc j hj 0 _ rfl,hc j hj 1 _ rfl⟩⟩
theorem entry_in (cs:List Value) (h:Tb enc' Tryz.prog w base spare held 29 cs):∃ x:RE,cs=eE.cells x∧(x.Ok∧InnerE w x):=by
 have hl:=(Tb.struct Tryz.underlying29 h).1.trans k_entry
 have h0:=Tb.field Tryz.underlying29 h 0 _ rfl rfl rfl k_str
 have h1:=Tb.field Tryz.underlying29 h 1 _ rfl rfl rfl k_marks
 have h2:=Tb.field Tryz.underlying29 h 2 _ rfl rfl rfl k_counts
 have h3:=Tb.field Tryz.underlying29 h 3 _ rfl rfl rfl k_items
 have h4:=Tb.field Tryz.underlying29 h 4 _ rfl rfl rfl k_cell
 match cs,hl with
 | [v0,v1,v2,v3,v4,v5,v6],_ =>
  obtain ⟨l,e0,hl⟩:=Tb.str Tryz.underlying9 h0
  obtain ⟨sa,sc,s,e1,s1,s2,s3⟩:=marks_in h1
  obtain ⟨ca,cc,c,e2,c1,c2,c3,-⟩:=Row.rows_tb (E:=cE) Tryz.underlying23 k_count count_in h2
  obtain ⟨ia,ic,i,e3,i1,i2,i3,-⟩:=Row.rows_tb (E:=iE) Tryz.underlying24 k_item item_in h3
  obtain ⟨g,e4,g1,g2⟩:=cell_in _ h4
  obtain rfl:v0=_:=List.head_eq_of_cons_eq e0
  obtain rfl:v1=_:=List.head_eq_of_cons_eq e1
  obtain rfl:v2=_:=List.head_eq_of_cons_eq e2
  obtain rfl:v3=_:=List.head_eq_of_cons_eq e3
  have e5:[v4,v5,v6]=[.int .u64 (g.s:Int),.string ⟨g.t.toArray⟩,.bool g.g]:=e4
  simp only[List.cons.injEq,and_true] at e5
  obtain ⟨rfl,rfl,rfl⟩:=e5
  exact ⟨⟨l,sa,sc,s,ca,cc,c,ia,ic,i,g⟩,rfl,⟨hl,s3,s2,c3,c2,i3,fun y hy=>⟨(i2 y hy).1,(i2 y hy).2.1,(i2 y hy).2.2.1,Nat.le_trans (itb_len (x:=y.it) (i2 y hy).1 1048576 (i2 y hy).2.1 (i2 y hy).2.2.1) (by decide)⟩,g1,g2⟩,⟨s1,c1,i1,fun y hy=>(i2 y hy).2.2.2⟩⟩
theorem word_in (cs:List Value) (h:Tb enc' Tryz.prog w base spare held 9 cs):∃ x:List UInt8,cs=wE.cells x∧x.length≤1048576:=by
 obtain ⟨l,e0,hl⟩:=Tb.str Tryz.underlying9 h
 exact ⟨l,e0,hl⟩
theorem state_in (cs:List Value) (h:Tb enc' Tryz.prog w base spare held 33 cs):∃ x:RS,cs=x.cells∧(x.Sz∧InnerS w x):=by
 have hl:=(Tb.struct Tryz.underlying33 h).1.trans k_state
 have h0:=Tb.field Tryz.underlying33 h 0 _ rfl rfl rfl k_marks
 have h1:=Tb.field Tryz.underlying33 h 1 _ rfl rfl rfl k_entries
 have h2:=Tb.field Tryz.underlying33 h 2 _ rfl rfl rfl k_strs
 match cs,hl with
 | [v0,v1,v2],_ =>
  obtain ⟨sa,sc,s,e0,s1,s2,s3⟩:=marks_in h0
  obtain ⟨ca,cc,c,e1,c1,c2,c3,-⟩:=Row.rows_tb (E:=eE) Tryz.underlying30 k_entry entry_in h1
  obtain ⟨ia,ic,i,e2,i1,i2,i3,-⟩:=Row.rows_tb (E:=wE) Tryz.underlying31 k_str word_in h2
  obtain rfl:v0=_:=List.head_eq_of_cons_eq e0
  obtain rfl:v1=_:=List.head_eq_of_cons_eq e1
  obtain rfl:v2=_:=List.head_eq_of_cons_eq e2
  exact ⟨⟨sa,sc,s,ca,cc,c,ia,ic,i⟩,rfl,⟨s3,s2,c3,fun y hy=>(c2 y hy).1,i3,i2⟩,⟨s1,⟨c1,fun y hy=>(c2 y hy).2⟩,i1⟩⟩
theorem delta_in (cs:List Value) (h:Tb enc' Tryz.prog w base spare held 35 cs):∃ (B:List M) (a:Option Addr) (c:Nat) (x:RS),cs=.slice a B.length c::x.cells∧(DSz B x∧InnerD w a B x):=by
 have hl:=(Tb.struct Tryz.underlying35 h).1.trans k_delta
 have h0:=Tb.field Tryz.underlying35 h 0 _ rfl rfl rfl k_marks
 have h1:=Tb.field Tryz.underlying35 h 1 _ rfl rfl rfl k_state
 match cs,hl with
 | [v0,v1,v2,v3],_ =>
  obtain ⟨sa,sc,s,e0,s1,s2,s3⟩:=marks_in h0
  obtain ⟨x,e1,x1,x2⟩:=state_in _ h1
  obtain rfl:v0=_:=List.head_eq_of_cons_eq e0
  exact ⟨s,sa,sc,x,congrArg (_ :: ·) (show [v1,v2,v3]=x.cells from e1),⟨s3,s2,x1⟩,⟨s1,x2⟩⟩
theorem op_in (cs:List Value) (h:Tb enc' Tryz.prog w base spare held 38 cs):∃ x:O,cs=[.int .u8 (x.d:Int),.string ⟨x.k.toArray⟩,.int .i64 x.n,.string ⟨x.t.toArray⟩]∧x.Ok:=by
 have hl:=(Tb.struct Tryz.underlying38 h).1.trans k_op
 have h0:=Tb.field Tryz.underlying38 h 0 _ rfl rfl rfl k_u8
 have h1:=Tb.field Tryz.underlying38 h 1 _ rfl rfl rfl k_str
 have h2:=Tb.field Tryz.underlying38 h 2 _ rfl rfl rfl k_i64
 have h3:=Tb.field Tryz.underlying38 h 3 _ rfl rfl rfl k_str
 match cs,hl with
 | [v0,v1,v2,v3],_ =>
  obtain ⟨n,e0,hn⟩:=Tb.int Tryz.underlying5 h0
  obtain ⟨k,e1,hk⟩:=Tb.str Tryz.underlying9 h1
  obtain ⟨m,e2,hm⟩:=Tb.int Tryz.underlying2 h2
  obtain ⟨t,e3,ht⟩:=Tb.str Tryz.underlying9 h3
  obtain rfl:v0=_:=List.head_eq_of_cons_eq e0
  obtain rfl:v1=_:=List.head_eq_of_cons_eq e1
  obtain rfl:v2=_:=List.head_eq_of_cons_eq e2
  obtain rfl:v3=_:=List.head_eq_of_cons_eq e3
  obtain ⟨n,rfl,hn'⟩:=nat_u8 hn
  simp only[Lit.wf,Bool.and_eq_true,decide_eq_true_eq] at hm
  exact ⟨⟨n,k,m,t⟩,rfl,hn',hk,hm,ht⟩
end
section
variable {H:Type} {enc':TypeId × Value→H} {w:World} {base b0:Nat} {spare:Nat→Bool} {held:Bool} {r:Reach} {v:Value} {d:DataW H} {ps:List MemPlace} {ds:List (DataW H)} {j:Nat}
theorem agg_of {cs:Array Value} {l:List Value} (h:(Value.agg cs).cells.toList=l):Value.agg cs=.agg l.toArray:=by
 have:cs=l.toArray:=Array.ext' (by simpa [Value.cells] using h)
 rw[this]
theorem open_entry (hk:Rows.uptoSmall H ds=true) (hd:ds[j]?=some d) (hv:Value.okWide Tryz.prog w r b0 29 v) (h:DataW.Trod enc' Tryz.prog w base spare held 29 v d ps) :
  ∃ x:RE,v=.agg x∧InnerE w x∧x.Ok:=by
 obtain ⟨cs,rfl,_⟩:=Go.WideShapes.okWide_struct Tryz.underlying29 hv
 obtain ⟨x,e,h1,h2⟩:=entry_in _ (Tb.of hk hd h)
 exact ⟨x,agg_of e,h2,h1⟩
theorem open_state (hk:Rows.uptoSmall H ds=true) (hd:ds[j]?=some d) (hv:Value.okWide Tryz.prog w r b0 33 v) (h:DataW.Trod enc' Tryz.prog w base spare held 33 v d ps) :
  ∃ x:RS,v=.agg x∧InnerS w x∧x.Sz:=by
 obtain ⟨cs,rfl,_⟩:=Go.WideShapes.okWide_struct Tryz.underlying33 hv
 obtain ⟨x,e,h1,h2⟩:=state_in _ (Tb.of hk hd h)
 exact ⟨x,agg_of e,h2,h1⟩
theorem open_delta (hk:Rows.uptoSmall H ds=true) (hd:ds[j]?=some d) (hv:Value.okWide Tryz.prog w r b0 35 v) (h:DataW.Trod enc' Tryz.prog w base spare held 35 v d ps) :
  ∃ (B:List M) (a:Option Addr) (c:Nat) (x:RS),v=.agg #[.slice a B.length c,.slice x.aa x.a.length x.ac,.slice x.ea x.e.length x.ec,.slice x.pa x.p.length x.pc]∧InnerD w a B x∧DSz B x:=by
 obtain ⟨cs,rfl,_⟩:=Go.WideShapes.okWide_struct Tryz.underlying35 hv
 obtain ⟨B,a,c,x,e,h1,h2⟩:=delta_in _ (Tb.of hk hd h)
 exact ⟨B,a,c,x,agg_of e,h2,h1⟩
theorem open_op (hk:Rows.uptoSmall H ds=true) (hd:ds[j]?=some d) (hv:Value.okWide Tryz.prog w r b0 38 v) (h:DataW.Trod enc' Tryz.prog w base spare held 38 v d ps) :
  ∃ x:O,v=.agg x∧x.Ok:=by
 obtain ⟨cs,rfl,_⟩:=Go.WideShapes.okWide_struct Tryz.underlying38 hv
 obtain ⟨x,e,h1⟩:=op_in _ (Tb.of hk hd h)
 exact ⟨x,agg_of e,h1⟩
end
theorem fe_few {x:RE} (o:x.Ok) (f:x.Few):(fE x).length≤274877906944:=by
 have hm:∀ m ∈ x.s,(mk m).length≤1048596:=fun m h=>mk_len (o.sm m h)
 have h1:=tx_len x.k
 have h2:=lst_len mk 1048596 x.s hm
 have h3:x.s.length*1048596≤60*1048596:=Nat.mul_le_mul_right _ f.s
 have fk:=f.k
 have hb:(body x.e).length≤200000000000:=by
  unfold body
  split
  ·have q:=lst_len ct 1048606 x.c (fun c hc=>by
    unfold ct
    rw[List.length_append,List.length_append]
    have a1:=tx_len c.p
    have a2:=up_len c.a
    have a3:=up_len c.b
    have a4:=(o.cm c hc).1
    omega)
   have q2:x.c.length*1048606≤60*1048606:=Nat.mul_le_mul_right _ f.c
   show (lst ct x.c).length≤_
   omega
  ·split
   ·have q:=lst_len itb 420487006 (x.j.map RI.it) (fun y hy=>by
     have hw:=BagLaw.wt_text y hy
     have fi:=f.i
     obtain ⟨u,hu,rfl⟩:=List.mem_map.1 hy
     have hj:=o.jm u hu
     refine Nat.le_trans (itb_len hj.1 400 ?_ hj.2.2.1) (by decide)
     omega)
    have q1:=BagLaw.wt_len (x.j.map RI.it)
    have fi:=f.i
    have q2:(x.j.map RI.it).length*420487006≤400*420487006:=Nat.mul_le_mul_right _ (by omega)
    show (lst itb (x.j.map RI.it)).length≤_
    omega
   ·split
    ·show (cl x.l).length≤_
     unfold cl
     rw[List.length_append,List.length_append]
     have a1:=up_len x.l.s
     have a2:=tx_len x.l.t
     have a3:=f.t
     have a4:(tb x.l.g).length=1:=rfl
     omega
    · exact Nat.zero_le _
 show (en x.e).length≤_
 unfold en
 rw[List.length_append,List.length_append]
 show (tx x.k).length+(lst mk x.s).length+_≤_
 omega
theorem fine_few {x:RE} (o:x.Ok) (f:x.Few):Bag.Fine (x.j.map RI.it) where
 items:=by have:=BagLaw.wt_len (x.j.map RI.it);have:=f.i;omega
 few:=by have:=BagLaw.wt_pls (x.j.map RI.it);have:=f.i;omega
 fine p hp:=by
  obtain ⟨y,hy,e,hm⟩:=(mem_pls _ p.t p.m).1 hp
  obtain ⟨u,hu,rfl⟩:=List.mem_map.1 hy
  obtain ⟨h1,h2,h3,-⟩:=o.jm u hu
  have h4:=h3 p.m hm
  have:1048576≤maxLen:=by decide
  have e':u.t=p.t:=e
  exact ⟨by rw[← e'];omega,by have:=h4.1;omega,h4.2⟩
theorem ok_few {x:RS} (o:x.Sz) (f:x.Few):x.Ok:=⟨o.a,o.am,o.e,fun y hy=>⟨o.em y hy,Nat.le_trans (fe_few (o.em y hy) (f.em y hy)) (by decide)⟩,o.p,o.pm⟩
theorem fineS_few {x:RS} (o:x.Sz) (f:x.Few):x.Fine:=fun y hy=>fine_few (o.em y hy) (f.em y hy)
theorem fs_few {x:RS} (o:x.Sz) (f:x.Few):(fS x).length≤6000000000000:=by
 rw[fS_is,List.length_append,List.length_append]
 have h1:=lst_len mk 1048596 x.a fun m h=>mk_len (o.am m h)
 have h2:x.a.length*1048596≤60*1048596:=Nat.mul_le_mul_right _ f.a
 have h3:=lst_len fE 274877906944 x.e fun y hy=>fe_few (o.em y hy) (f.em y hy)
 have h4:x.e.length*274877906944≤20*274877906944:=Nat.mul_le_mul_right _ f.e
 have h5:=lst_len tx 266 x.p fun t ht=>by have a1:=tx_len t;have a2:=f.pm t ht;omega
 have h6:x.p.length*266≤60*266:=Nat.mul_le_mul_right _ f.p
 omega
theorem fd_few {B:List M} {x:RS} (o:DSz B x) (f:x.Few) (b:B.length≤60):(fD B x).length≤70368744177664:=by
 rw[fD_is,List.length_append]
 have h1:=lst_len mk 1048596 B fun m h=>mk_len (o.bm m h)
 have h2:B.length*1048596≤60*1048596:=Nat.mul_le_mul_right _ b
 have h3:=fs_few o.x f
 omega
end CoderLaw
end Go.Proofs.YtnpjkmomllkhpaaGreatDoor
