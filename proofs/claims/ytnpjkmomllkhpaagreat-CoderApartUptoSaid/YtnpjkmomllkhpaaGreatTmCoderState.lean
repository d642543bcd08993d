/- coder: states, deltas as bytes. -/
import Derived.Test.YtnpjkmomllkhpaaGreatTake
import Derived.Test.YtnpjkmomllkhpaaGreatTmCoderEntry
namespace Go.Proofs.YtnpjkmomllkhpaaGreat
namespace Coder
open Go.RowKit Go.Proofs.YtnpjkmomllkhpaaGreat.Mark Go.Proofs.YtnpjkmomllkhpaaGreat.Num Go.Proofs.YtnpjkmomllkhpaaGreat.Wire Go.Proofs.YtnpjkmomllkhpaaGreat.Bag
/-- A state, with what it points to. -/
structure RS where
  aa : Option Addr
  ac : Nat
  a : List M
  ea : Option Addr
  ec : Nat
  e : List RE
  pa : Option Addr
  pc : Nat
  p : List (List UInt8)
def RS.s (x : RS) : S := ⟨x.a, x.e.map RE.e, x.p⟩
def RS.cells (x : RS) : List Value := [.slice x.aa x.a.length x.ac, .slice x.ea x.e.length x.ec, .slice x.pa x.p.length x.pc]
def InnerEs (w : World) (x : RS) : Prop := Row.Lies eE w x.ea x.e.length x.e ∧ ∀ y ∈ x.e, InnerE w y
theorem InnerEs.below {w w' : World} {x : RS} (h : InnerEs w x) (k : Below w.heap.size w w') : InnerEs w' x := ⟨h.1.below k, fun y hy => (h.2 y hy).below k⟩
structure InnerS (w : World) (x : RS) : Prop where
  a : Mark.Lies w x.aa x.a.length x.a
  e : InnerEs w x
  p : Row.Lies wE w x.pa x.p.length x.p
theorem InnerS.below {w w' : World} {x : RS} (h : InnerS w x) (k : Below w.heap.size w w') : InnerS w' x := ⟨h.a.below k, h.e.below k, h.p.below k⟩
/-- A state of a size. -/
structure RS.Ok (x : RS) : Prop where
  a : x.a.length ≤ 1048576
  am : ∀ m ∈ x.a, m.p.length ≤ 1048576 ∧ m.n ≤ 18446744073709551615
  e : x.e.length ≤ 1048576
  em : ∀ y ∈ x.e, y.Ok ∧ (fE y).length ≤ 70368744177664
  p : x.p.length ≤ 1048576
  pm : ∀ m ∈ x.p, m.length ≤ 1048576
def fS (x : RS) : List UInt8 := stb x.s
def LM (a : Option Addr) (n c : Nat) : Array Value := #[.slice a n c, .func (.func 46) #[] #[]]
theorem fS_is (x : RS) : fS x = lst mk x.a ++ lst fE x.e ++ lst tx x.p := by
  unfold fS stb RS.s
  rw [show lst en (x.e.map RE.e) = lst fE x.e from lst_map en RE.e x.e]

set_option maxRecDepth 100000 in
set_option maxHeartbeats 8000000 in
theorem state_any (x : RS) (w : World) (hi : InnerS w x) (ok : x.Ok) (hs : (fS x).length ≤ 70368744177664) :
    Calls Tryz.prog 53 #[.agg #[.slice x.aa x.a.length x.ac, .slice x.ea x.e.length x.ec, .slice x.pa x.p.length x.pc]] w fun e w' => e = .returned (.string ⟨(fS x).toArray⟩) ∧ Below w.heap.size w w' := by
  have hb := Below.refl w.heap.size w
  have lA := Lib.hid hi.a
  have lE := Lib.hid hi.e
  have lP := Lib.hid hi.p
  have OK := Lib.hid ok
  clear hi ok
  obtain ⟨p0, hp0⟩ : ∃ p, p = lst mk x.a := ⟨_, rfl⟩
  have z0 := Str.size_mk p0
  obtain ⟨p1, hp1⟩ : ∃ p, p = lst fE x.e := ⟨_, rfl⟩
  have z1 := Str.size_mk p1
  obtain ⟨p2, hp2⟩ : ∃ p, p = lst tx x.p := ⟨_, rfl⟩
  have z2 := Str.size_mk p2
  obtain ⟨C1, hC1⟩ : ∃ p, p = p0 ++ p1 := ⟨_, rfl⟩
  have lC1 : C1.length = p0.length + p1.length := by rw [hC1, List.length_append]
  have aC1 : (({ data := p0.toArray } : ByteArray)) ++ { data := p1.toArray } = { data := C1.toArray } := by rw [hC1]; exact Str.mk_append_mk p0 p1
  have zC1 := Str.size_mk C1
  obtain ⟨C2, hC2⟩ : ∃ p, p = C1 ++ p2 := ⟨_, rfl⟩
  have lC2 : C2.length = C1.length + p2.length := by rw [hC2, List.length_append]
  have aC2 : (({ data := C1.toArray } : ByteArray)) ++ { data := p2.toArray } = { data := C2.toArray } := by rw [hC2]; exact Str.mk_append_mk C1 p2
  have zC2 := Str.size_mk C2
  have HV : Hid (fS x = C2) := Lib.hid (by rw [fS_is, hC2, hC1, hp0, hp1, hp2])
  rw [HV.out] at hs
  have b0 : p0.length ≤ 70368744177664 := by omega
  have b1 : p1.length ≤ 70368744177664 := by omega
  have b2 : p2.length ≤ 70368744177664 := by omega
  have nC1 : ¬ (9223372036854775807 < p0.length + p1.length) := by omega
  have mC1 : ¬ (p0.length + p1.length > 9223372036854775807) := by omega
  have nC2 : ¬ (9223372036854775807 < C1.length + p2.length) := by omega
  have mC2 : ¬ (C1.length + p2.length > 9223372036854775807) := by omega
  have D0 := Lib.hid (fun W (h : Mark.Lies W x.aa x.a.length x.a) => (by rw [hp0]; exact list_mark _ _ _ _ W h OK.out.a OK.out.am (by rw [← hp0]; exact b0) : Calls Tryz.prog 45 #[.slice x.aa x.a.length x.ac, .func (.func 46) #[] #[]] W fun e W' => e = .returned (.string ⟨p0.toArray⟩) ∧ Below W.heap.size W W'))
  have D1 := Lib.hid (fun W (h : InnerEs W x) => (by rw [hp1]; exact list_entry _ _ _ _ W h.1 OK.out.e (fun y hy => ⟨h.2 y hy, OK.out.em y hy⟩) (by rw [← hp1]; exact b1) : Calls Tryz.prog 84 #[.slice x.ea x.e.length x.ec, .func (.func 20) #[] #[]] W fun e W' => e = .returned (.string ⟨p1.toArray⟩) ∧ Below W.heap.size W W'))
  have D2 := Lib.hid (fun W (h : Row.Lies wE W x.pa x.p.length x.p) => (by rw [hp2]; exact list_word _ _ _ _ W h OK.out.p OK.out.pm (by rw [← hp2]; exact b2) : Calls Tryz.prog 85 #[.slice x.pa x.p.length x.pc, .func (.func 86) #[] #[]] W fun e W' => e = .returned (.string ⟨p2.toArray⟩) ∧ Below W.heap.size W W'))
  have X0 := Lib.hid (box_cells w #[.slice x.aa x.a.length x.ac, .slice x.ea x.e.length x.ec, .slice x.pa x.p.length x.pc] 33 0 (.slice x.aa x.a.length x.ac) rfl)
  have X1 := Lib.hid (box_cells w #[.slice x.aa x.a.length x.ac, .slice x.ea x.e.length x.ec, .slice x.pa x.p.length x.pc] 33 1 (.slice x.ea x.e.length x.ec) rfl)
  have X2 := Lib.hid (box_cells w #[.slice x.aa x.a.length x.ac, .slice x.ea x.e.length x.ec, .slice x.pa x.p.length x.pc] 33 2 (.slice x.pa x.p.length x.pc) rfl)
  replace hC1 := Lib.hid hC1
  replace lC1 := Lib.hid lC1
  replace hC2 := Lib.hid hC2
  replace lC2 := Lib.hid lC2
  clear hp0 hp1 hp2
  go_enter Tryz.func53, Tryz.ntmps53
  go_wp2_with fail
  replace lA := Lib.hid ((lA.out).below (balloc (Below.refl _ _) (.cells #[.slice x.aa x.a.length x.ac, .slice x.ea x.e.length x.ec, .slice x.pa x.p.length x.pc] 33)))
  replace lE := Lib.hid ((lE.out).below (balloc (Below.refl _ _) (.cells #[.slice x.aa x.a.length x.ac, .slice x.ea x.e.length x.ec, .slice x.pa x.p.length x.pc] 33)))
  replace lP := Lib.hid ((lP.out).below (balloc (Below.refl _ _) (.cells #[.slice x.aa x.a.length x.ac, .slice x.ea x.e.length x.ec, .slice x.pa x.p.length x.pc] 33)))
  replace hb := bstep hb (balloc (Below.refl _ _) (.cells #[.slice x.aa x.a.length x.ac, .slice x.ea x.e.length x.ec, .slice x.pa x.p.length x.pc] 33))
  have x0 := X0.out
  have x1 := X1.out
  have x2 := X2.out
  clear X0 X1 X2
  refine wp_region_noPanic ?_
  refine wp_region_held_drew (S := (fun w' => Below w.heap.size w w' ∧ Mark.Lies w' x.aa x.a.length x.a ∧ InnerEs w' x ∧ Row.Lies wE w' x.pa x.p.length x.p ∧ w'.cell? ⟨w.heap.size, 0, none⟩ = some (.slice x.aa x.a.length x.ac) ∧ w'.cell? ⟨w.heap.size, 1, none⟩ = some (.slice x.ea x.e.length x.ec) ∧ w'.cell? ⟨w.heap.size, 2, none⟩ = some (.slice x.pa x.p.length x.pc))) (by kernel_rfl) (⟨Below.drew hb, (lA.out).below (Below.drew (Below.refl _ _)), (lE.out).below (Below.drew (Below.refl _ _)), (lP.out).below (Below.drew (Below.refl _ _)), Coder.keepC x0 (Below.drew (Below.refl _ _)), Coder.keepC x1 (Below.drew (Below.refl _ _)), Coder.keepC x2 (Below.drew (Below.refl _ _))⟩) (fun hHeld => ?_)
  revert hHeld
  generalize World.drew _ = wd
  intro hHeld
  refine tk 0 ?_
  try simp only [Act.put, List.setIfInBounds_toArray, List.set_cons_zero, List.set_cons_succ]
  refine tk 1 ?_
  try simp only [Act.put, List.setIfInBounds_toArray, List.set_cons_zero, List.set_cons_succ]
  refine tk 3 ?_
  try simp only [Act.put, List.setIfInBounds_toArray, List.set_cons_zero, List.set_cons_succ]
  refine tk 4 ?_
  try simp only [Act.put, List.setIfInBounds_toArray, List.set_cons_zero, List.set_cons_succ]
  refine tk 7 ?_
  try simp only [Act.put, List.setIfInBounds_toArray, List.set_cons_zero, List.set_cons_succ]
  refine tk 8 ?_
  try simp only [Act.put, List.setIfInBounds_toArray, List.set_cons_zero, List.set_cons_succ]
  refine wpAnyH_ready (rs := [2]) (by kernel_rfl) (by simp) ?_
  refine AllReadyH.cons (by simp only [List.getElem?_toArray, List.getElem?_cons_succ, List.getElem?_cons_zero]; rfl) (fun K hK => ?_) AllReadyH.nil
  go_simp
  go_at_call 45
  refine (D0.out _ hHeld.2.1).mono ?_
  rintro e v1 ⟨rfl, k1⟩
  go_wp2_with fail
  refine hK.out _ _ (⟨bstep hHeld.1 k1, (hHeld.2.1).below k1, (hHeld.2.2.1).below k1, (hHeld.2.2.2.1).below k1, Coder.keepC hHeld.2.2.2.2.1 k1, Coder.keepC hHeld.2.2.2.2.2.1 k1, Coder.keepC hHeld.2.2.2.2.2.2 k1⟩) (fun hHeld => ?_)
  clear hK K k1
  try simp only [Act.put, List.setIfInBounds_toArray, List.set_cons_zero, List.set_cons_succ]
  refine wpAnyH_ready (rs := [5]) (by kernel_rfl) (by simp) ?_
  refine AllReadyH.cons (by simp only [List.getElem?_toArray, List.getElem?_cons_succ, List.getElem?_cons_zero]; rfl) (fun K hK => ?_) AllReadyH.nil
  go_simp
  go_at_call 84
  refine (D1.out _ hHeld.2.2.1).mono ?_
  rintro e v2 ⟨rfl, k2⟩
  go_wp2_with fail
  refine hK.out _ _ (⟨bstep hHeld.1 k2, (hHeld.2.1).below k2, (hHeld.2.2.1).below k2, (hHeld.2.2.2.1).below k2, Coder.keepC hHeld.2.2.2.2.1 k2, Coder.keepC hHeld.2.2.2.2.2.1 k2, Coder.keepC hHeld.2.2.2.2.2.2 k2⟩) (fun hHeld => ?_)
  clear hK K k2
  try simp only [Act.put, List.setIfInBounds_toArray, List.set_cons_zero, List.set_cons_succ]
  refine tk 6 ?_
  try simp only [Act.put, List.setIfInBounds_toArray, List.set_cons_zero, List.set_cons_succ]
  refine wpAnyH_ready (rs := [9]) (by kernel_rfl) (by simp) ?_
  refine AllReadyH.cons (by simp only [List.getElem?_toArray, List.getElem?_cons_succ, List.getElem?_cons_zero]; rfl) (fun K hK => ?_) AllReadyH.nil
  go_simp
  go_at_call 85
  refine (D2.out _ hHeld.2.2.2.1).mono ?_
  rintro e v3 ⟨rfl, k3⟩
  go_wp2_with fail
  refine hK.out _ _ (⟨bstep hHeld.1 k3, (hHeld.2.1).below k3, (hHeld.2.2.1).below k3, (hHeld.2.2.2.1).below k3, Coder.keepC hHeld.2.2.2.2.1 k3, Coder.keepC hHeld.2.2.2.2.2.1 k3, Coder.keepC hHeld.2.2.2.2.2.2 k3⟩) (fun hHeld => ?_)
  clear hK K k3
  try simp only [Act.put, List.setIfInBounds_toArray, List.set_cons_zero, List.set_cons_succ]
  refine tk 10 ?_
  try simp only [Act.put, List.setIfInBounds_toArray, List.set_cons_zero, List.set_cons_succ]
  refine tk 11 ?_
  try simp only [Act.put, List.setIfInBounds_toArray, List.set_cons_zero, List.set_cons_succ]
  refine wpAnyH_done (by kernel_rfl) ?_ _
  refine NoPanic.normal ?_
  clear hb lA lE lP x0 x1 x2
  obtain ⟨hb, lA, lE, lP, x0, x1, x2⟩ := hHeld
  replace lA := Lib.hid lA
  replace lE := Lib.hid lE
  replace lP := Lib.hid lP
  go_wp2
  go_ret
  exact ⟨by rw [HV.out]; rfl, hb⟩
def fD (B : List M) (x : RS) : List UInt8 := dl B x.s
theorem fD_is (B : List M) (x : RS) : fD B x = lst mk B ++ fS x := rfl
set_option maxRecDepth 100000 in
set_option maxHeartbeats 8000000 in
theorem delta_any (ba : Option Addr) (bc : Nat) (B : List M) (x : RS) (w : World) (hB : Mark.Lies w ba B.length B) (hn : B.length ≤ 1048576) (hm : ∀ m ∈ B, m.p.length ≤ 1048576 ∧ m.n ≤ 18446744073709551615) (hi : InnerS w x) (ok : x.Ok) (hs : (fD B x).length ≤ 70368744177664) :
    Calls Tryz.prog 25 #[.agg #[.slice ba B.length bc, .slice x.aa x.a.length x.ac, .slice x.ea x.e.length x.ec, .slice x.pa x.p.length x.pc]] w fun e w' => e = .returned (.string ⟨(fD B x).toArray⟩) ∧ Below w.heap.size w w' := by
  have hb := Below.refl w.heap.size w
  have lA := Lib.hid hB
  have lS := Lib.hid hi
  have OK := Lib.hid ok
  have HM := Lib.hid hm
  clear hi ok hB hm
  obtain ⟨p0, hp0⟩ : ∃ p, p = lst mk B := ⟨_, rfl⟩
  have z0 := Str.size_mk p0
  obtain ⟨p1, hp1⟩ : ∃ p, p = fS x := ⟨_, rfl⟩
  have z1 := Str.size_mk p1
  obtain ⟨C1, hC1⟩ : ∃ p, p = p0 ++ p1 := ⟨_, rfl⟩
  have lC1 : C1.length = p0.length + p1.length := by rw [hC1, List.length_append]
  have aC1 : (({ data := p0.toArray } : ByteArray)) ++ { data := p1.toArray } = { data := C1.toArray } := by rw [hC1]; exact Str.mk_append_mk p0 p1
  have zC1 := Str.size_mk C1
  have HV : Hid (fD B x = C1) := Lib.hid (by rw [fD_is, hC1, hp0, hp1])
  rw [HV.out] at hs
  have b0 : p0.length ≤ 70368744177664 := by omega
  have b1 : p1.length ≤ 70368744177664 := by omega
  have nC1 : ¬ (9223372036854775807 < p0.length + p1.length) := by omega
  have mC1 : ¬ (p0.length + p1.length > 9223372036854775807) := by omega
  have D0 := Lib.hid (fun W (h : Mark.Lies W ba B.length B) => (by rw [hp0]; exact list_mark _ _ _ _ W h hn HM.out (by rw [← hp0]; exact b0) : Calls Tryz.prog 45 #[.slice ba B.length bc, .func (.func 46) #[] #[]] W fun e W' => e = .returned (.string ⟨p0.toArray⟩) ∧ Below W.heap.size W W'))
  have D1 := Lib.hid (fun W (h : InnerS W x) => (by rw [hp1]; exact state_any x W h OK.out (by rw [← hp1]; exact b1) : Calls Tryz.prog 53 #[.agg #[.slice x.aa x.a.length x.ac, .slice x.ea x.e.length x.ec, .slice x.pa x.p.length x.pc]] W fun e W' => e = .returned (.string ⟨p1.toArray⟩) ∧ Below W.heap.size W W'))
  have X0 := Lib.hid (box_cells w #[.slice ba B.length bc, .slice x.aa x.a.length x.ac, .slice x.ea x.e.length x.ec, .slice x.pa x.p.length x.pc] 35 0 (.slice ba B.length bc) rfl)
  have X1 := Lib.hid (box_cells w #[.slice ba B.length bc, .slice x.aa x.a.length x.ac, .slice x.ea x.e.length x.ec, .slice x.pa x.p.length x.pc] 35 1 (.slice x.aa x.a.length x.ac) rfl)
  have X2 := Lib.hid (box_cells w #[.slice ba B.length bc, .slice x.aa x.a.length x.ac, .slice x.ea x.e.length x.ec, .slice x.pa x.p.length x.pc] 35 2 (.slice x.ea x.e.length x.ec) rfl)
  have X3 := Lib.hid (box_cells w #[.slice ba B.length bc, .slice x.aa x.a.length x.ac, .slice x.ea x.e.length x.ec, .slice x.pa x.p.length x.pc] 35 3 (.slice x.pa x.p.length x.pc) rfl)
  replace hC1 := Lib.hid hC1
  replace lC1 := Lib.hid lC1
  clear hp0 hp1
  go_enter Tryz.func25, Tryz.ntmps25
  go_wp2_with fail
  replace lA := Lib.hid ((lA.out).below (balloc (Below.refl _ _) (.cells #[.slice ba B.length bc, .slice x.aa x.a.length x.ac, .slice x.ea x.e.length x.ec, .slice x.pa x.p.length x.pc] 35)))
  replace lS := Lib.hid ((lS.out).below (balloc (Below.refl _ _) (.cells #[.slice ba B.length bc, .slice x.aa x.a.length x.ac, .slice x.ea x.e.length x.ec, .slice x.pa x.p.length x.pc] 35)))
  replace hb := bstep hb (balloc (Below.refl _ _) (.cells #[.slice ba B.length bc, .slice x.aa x.a.length x.ac, .slice x.ea x.e.length x.ec, .slice x.pa x.p.length x.pc] 35))
  have x0 := X0.out
  have x1 := X1.out
  have x2 := X2.out
  have x3 := X3.out
  clear X0 X1 X2 X3
  refine wp_region_noPanic ?_
  refine wp_region_held_drew (S := (fun w' => Below w.heap.size w w' ∧ Mark.Lies w' ba B.length B ∧ InnerS w' x ∧ w'.cell? ⟨w.heap.size, 0, none⟩ = some (.slice ba B.length bc) ∧ w'.cell? ⟨w.heap.size, 1, none⟩ = some (.slice x.aa x.a.length x.ac) ∧ w'.cell? ⟨w.heap.size, 2, none⟩ = some (.slice x.ea x.e.length x.ec) ∧ w'.cell? ⟨w.heap.size, 3, none⟩ = some (.slice x.pa x.p.length x.pc))) (by kernel_rfl) (⟨Below.drew hb, (lA.out).below (Below.drew (Below.refl _ _)), (lS.out).below (Below.drew (Below.refl _ _)), Coder.keepC x0 (Below.drew (Below.refl _ _)), Coder.keepC x1 (Below.drew (Below.refl _ _)), Coder.keepC x2 (Below.drew (Below.refl _ _)), Coder.keepC x3 (Below.drew (Below.refl _ _))⟩) (fun hHeld => ?_)
  revert hHeld
  generalize World.drew _ = wd
  intro hHeld
  refine tk 0 ?_
  try simp only [Act.put, List.setIfInBounds_toArray, List.set_cons_zero, List.set_cons_succ]
  refine tk 1 ?_
  try simp only [Act.put, List.setIfInBounds_toArray, List.set_cons_zero, List.set_cons_succ]
  refine tk 3 ?_
  try simp only [Act.put, List.setIfInBounds_toArray, List.set_cons_zero, List.set_cons_succ]
  refine tk 4 ?_
  try simp only [Act.put, List.setIfInBounds_toArray, List.set_cons_zero, List.set_cons_succ]
  refine wpAnyH_ready (rs := [2]) (by kernel_rfl) (by simp) ?_
  refine AllReadyH.cons (by simp only [List.getElem?_toArray, List.getElem?_cons_succ, List.getElem?_cons_zero]; rfl) (fun K hK => ?_) AllReadyH.nil
  go_simp
  go_at_call 45
  refine (D0.out _ hHeld.2.1).mono ?_
  rintro e v4 ⟨rfl, k4⟩
  go_wp2_with fail
  refine hK.out _ _ (⟨bstep hHeld.1 k4, (hHeld.2.1).below k4, (hHeld.2.2.1).below k4, Coder.keepC hHeld.2.2.2.1 k4, Coder.keepC hHeld.2.2.2.2.1 k4, Coder.keepC hHeld.2.2.2.2.2.1 k4, Coder.keepC hHeld.2.2.2.2.2.2 k4⟩) (fun hHeld => ?_)
  clear hK K k4
  try simp only [Act.put, List.setIfInBounds_toArray, List.set_cons_zero, List.set_cons_succ]
  refine wpAnyH_ready (rs := [5]) (by kernel_rfl) (by simp) ?_
  refine AllReadyH.cons (by simp only [List.getElem?_toArray, List.getElem?_cons_succ, List.getElem?_cons_zero]; rfl) (fun K hK => ?_) AllReadyH.nil
  go_simp
  go_at_call 53
  refine (D1.out _ hHeld.2.2.1).mono ?_
  rintro e v5 ⟨rfl, k5⟩
  go_wp2_with fail
  refine hK.out _ _ (⟨bstep hHeld.1 k5, (hHeld.2.1).below k5, (hHeld.2.2.1).below k5, Coder.keepC hHeld.2.2.2.1 k5, Coder.keepC hHeld.2.2.2.2.1 k5, Coder.keepC hHeld.2.2.2.2.2.1 k5, Coder.keepC hHeld.2.2.2.2.2.2 k5⟩) (fun hHeld => ?_)
  clear hK K k5
  try simp only [Act.put, List.setIfInBounds_toArray, List.set_cons_zero, List.set_cons_succ]
  refine tk 6 ?_
  try simp only [Act.put, List.setIfInBounds_toArray, List.set_cons_zero, List.set_cons_succ]
  refine tk 7 ?_
  try simp only [Act.put, List.setIfInBounds_toArray, List.set_cons_zero, List.set_cons_succ]
  refine wpAnyH_done (by kernel_rfl) ?_ _
  refine NoPanic.normal ?_
  clear hb lA lS x0 x1 x2 x3
  obtain ⟨hb, lA, lS, x0, x1, x2, x3⟩ := hHeld
  replace lA := Lib.hid lA
  replace lS := Lib.hid lS
  go_wp2
  go_ret
  exact ⟨by rw [HV.out]; rfl, hb⟩
end Coder
end Go.Proofs.YtnpjkmomllkhpaaGreat
