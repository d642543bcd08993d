/- MemGive. -/
import Derived.Test.YtnpjkmomllkhpaaGreatDoorTn40
import Derived.Test.YtnpjkmomllkhpaaGreatDoorTn25
set_option linter.unusedVariables false
set_option linter.unusedSimpArgs false
set_option maxRecDepth 100000
set_option maxHeartbeats 4000000
namespace Go.Proofs.YtnpjkmomllkhpaaGreatDoor
namespace Mem
open RowKit Num Path Coder
theorem tv_may (L:List Mb):tv (MayP L)=tv (MayR L):=tv_congr (may_iff L)
theorem wr_of {J:List RM} (h:MayP (J.map RM.m)) (ok:∀ x ∈ J,x.Ok):∀ x ∈ J,WrM x:=by
 intro x hx;obtain ⟨i,hi,rfl⟩:=List.mem_iff_getElem.1 hx;have hl:i<(J.map RM.m).length:=by rw[List.length_map];exact hi
 have q:=h.2.2 i hl hl;rw[List.getElem_map] at q;obtain ⟨_,_,_,_,_,f,g,_,_⟩:=q;refine ⟨ok _ hx,f.2.2.1,f.2.2.2.2.1,fun s hs=>?_⟩;obtain ⟨j,hj,rfl⟩:=List.mem_iff_getElem.1 hs;obtain ⟨g1,g2,g3,_⟩:=g j hj hj;have so:=(ok _ hx).gm _ hs;have s1:=so.f;have s2:=so.t;simp only[RM.m] at g1 g2;omega
theorem refMembers (J:List RM) (a:Option Addr) (c:Nat) (w:World) (hJ:MSz w a J) (hs:MayP (J.map RM.m)→(lst fM J).length≤70368744177664) :
  CB 16 #[.slice a J.length c] w (.tuple #[(outS (tv (MayP (J.map RM.m))) (lst fM J)),.int .i64 (outE (tv (MayP (J.map RM.m))))]):=by
 obtain ⟨q,hq⟩:=nm (tv (MayP (J.map RM.m)));have C0:=hid (fun W (h:MSz W a J)=>(by rw[hq,tv_may];exact RefMem.may_any J a c W h:CB 56 #[.slice a J.length c] W q));have C1:=hid (fun (e:q=true) W (h:MSz W a J)=>RefWrite.rawMembers_any J a c W h.lies h.n (wr_of (of_tv (hq.symm.trans e)) hJ.ok) (hs (of_tv (hq.symm.trans e))));obtain ⟨l,hl⟩:=nm (lst fM J);rw[← hq,← hl];rw[← hl] at C1;have LJ:=hid hJ;clear hq hl hs hJ;go_enter Tryz.func16,Tryz.ntmps16;go_wp2_with fail
 refine cr (C0.out _ LJ.out) fun w1 k1=>?_;cases q
 ·go_wp2;go_ret2;exact ⟨rfl,k1⟩
 go_wp2_with fail
 refine cr (C1.out (by simp) _ (LJ.out.below k1)) fun w2 k2=>?_;have hb:=bstep k1 k2;go_wp2;go_ret2;exact ⟨rfl,hb⟩
end Mem
end Go.Proofs.YtnpjkmomllkhpaaGreatDoor
