/- coder: entries as bytes. -/
import Derived.Test.YtnpjkmomllkhpaaGreatTake
import Derived.Test.YtnpjkmomllkhpaaGreatTmCoderItem
import Derived.Test.YtnpjkmomllkhpaaGreatTmTextA
namespace Go.Proofs.YtnpjkmomllkhpaaGreat
namespace Coder
open Go.RowKit Go.Proofs.YtnpjkmomllkhpaaGreat.Mark Go.Proofs.YtnpjkmomllkhpaaGreat.Num Go.Proofs.YtnpjkmomllkhpaaGreat.Wire Go.Proofs.YtnpjkmomllkhpaaGreat.Bag
/-- An entry, with what it points to. -/
structure RE where
  k : List UInt8
  sa : Option Addr
  sc : Nat
  s : List M
  ca : Option Addr
  cc : Nat
  c : List C
  ia : Option Addr
  ic : Nat
  j : List RI
  l : Cl
def RE.e (x : RE) : E := ⟨x.k, x.s, x.c, x.j.map RI.it, x.l⟩
def eE : Row.Enc RE := ⟨7, by decide, fun x => [.string ⟨x.k.toArray⟩, .slice x.sa x.s.length x.sc, .slice x.ca x.c.length x.cc, .slice x.ia x.j.length x.ic, .int .u64 (x.l.s : Int), .string ⟨x.l.t.toArray⟩, .bool x.l.g], fun _ => rfl, fun x v hv => by
  simp only [List.mem_cons, List.not_mem_nil, or_false] at hv
  rcases hv with rfl | rfl | rfl | rfl | rfl | rfl | rfl <;> rfl⟩
def InnerI (w : World) (x : RE) : Prop := Row.Lies iE w x.ia x.j.length x.j ∧ ∀ y ∈ x.j, Inner w y
theorem InnerI.below {w w' : World} {x : RE} (h : InnerI w x) (k : Below w.heap.size w w') : InnerI w' x := ⟨h.1.below k, fun y hy => (h.2 y hy).below k⟩
structure InnerE (w : World) (x : RE) : Prop where
  s : Mark.Lies w x.sa x.s.length x.s
  c : Row.Lies cE w x.ca x.c.length x.c
  i : InnerI w x
theorem InnerE.below {w w' : World} {x : RE} (h : InnerE w x) (k : Below w.heap.size w w') : InnerE w' x := ⟨h.s.below k, h.c.below k, h.i.below k⟩
/-- An entry of a size. -/
structure RE.Ok (x : RE) : Prop where
  k : x.k.length ≤ 1048576
  s : x.s.length ≤ 1048576
  sm : ∀ m ∈ x.s, m.p.length ≤ 1048576 ∧ m.n ≤ 18446744073709551615
  c : x.c.length ≤ 1048576
  cm : ∀ m ∈ x.c, m.p.length ≤ 1048576 ∧ m.a ≤ 18446744073709551615 ∧ m.b ≤ 18446744073709551615
  j : x.j.length ≤ 1048576
  jm : ∀ y ∈ x.j, y.t.length ≤ 1048576 ∧ y.d.length ≤ 1048576 ∧ (∀ m ∈ y.d, m.p.length ≤ 1048576 ∧ m.n ≤ 18446744073709551615) ∧ (fI y).length ≤ 70368744177664
  t : x.l.t.length ≤ 1048576
  g : x.l.s ≤ 18446744073709551615
def fE (x : RE) : List UInt8 := en x.e
theorem kind_k (k : List UInt8) (w : World) (h : k.length ≤ 1048576) : Calls Tryz.prog 43 #[.string ⟨k.toArray⟩] w fun e w' => e = .returned (.int .u8 (kd k : Nat)) ∧ Below w.heap.size w w' := by
  have q := Text.kind_any ⟨k.toArray⟩ w (by rw [Str.size_mk]; unfold maxLen; omega)
  exact q
set_option maxRecDepth 100000 in
set_option maxHeartbeats 8000000 in
theorem entry_any (x : RE) (w : World) (hi : InnerE w x) (ok : x.Ok) (hs : (fE x).length ≤ 70368744177664) :
    Calls Tryz.prog 20 #[.agg #[.string ⟨x.k.toArray⟩, .slice x.sa x.s.length x.sc, .slice x.ca x.c.length x.cc, .slice x.ia x.j.length x.ic, .int .u64 (x.l.s : Int), .string ⟨x.l.t.toArray⟩, .bool x.l.g]] w fun e w' => e = .returned (.string ⟨(fE x).toArray⟩) ∧ Below w.heap.size w w' := by
  have hb := Below.refl w.heap.size w
  have lS := Lib.hid hi.s
  have lC := Lib.hid hi.c
  have lJ := Lib.hid hi.i
  clear hi
  have ok1 := ok.k
  have ok5 := ok.t
  have ok6 := ok.g
  have OK := Lib.hid ok
  clear ok
  obtain ⟨p0, hp0⟩ : ∃ p, p = tx x.k := ⟨_, rfl⟩
  have b0 : p0.length ≤ 1048586 := by rw [hp0]; have := tx_len x.k; omega
  have R0 : Hid ([x.k].flatMap tx = p0) := Lib.hid (by rw [hp0]; simp)
  obtain ⟨p1, hp1⟩ : ∃ p, p = lst mk x.s := ⟨_, rfl⟩
  obtain ⟨H, hH⟩ : ∃ p, p = p0 ++ p1 := ⟨_, rfl⟩
  have HV0 : Hid (fE x = H ++ body x.e) := Lib.hid (by rw [hH, hp0, hp1]; rfl)
  rw [HV0.out, List.length_append] at hs
  have hl : H.length = p0.length + p1.length := by rw [hH, List.length_append]
  have aH : (({ data := p0.toArray } : ByteArray)) ++ { data := p1.toArray } = { data := H.toArray } := by rw [hH]; exact Str.mk_append_mk p0 p1
  have b1 : p1.length ≤ 70368744177664 := by omega
  have z0 := Str.size_mk p0
  have z1 := Str.size_mk p1
  have zH := Str.size_mk H
  have nH : ¬ (9223372036854775807 < p0.length + p1.length) := by omega
  have mH : ¬ (p0.length + p1.length > 9223372036854775807) := by omega
  have D6 := Lib.hid (fun W (h : Mark.Lies W x.sa x.s.length x.s) => (by rw [hp1]; exact list_mark x.sa x.s.length x.sc x.s W h OK.out.s OK.out.sm (by rw [← hp1]; exact b1) : Calls Tryz.prog 45 #[.slice x.sa x.s.length x.sc, .func (.func 46) #[] #[]] W fun e W' => e = .returned (.string ⟨p1.toArray⟩) ∧ Below W.heap.size W W'))
  obtain ⟨q, hq⟩ : ∃ q, q = kd x.k := ⟨_, rfl⟩
  have KD := Lib.hid (fun W => (by rw [hq]; exact kind_k x.k W ok1 : Calls Tryz.prog 43 #[.string ⟨x.k.toArray⟩] W fun e W' => e = .returned (.int .u8 (q : Nat)) ∧ Below W.heap.size W W'))
  have HB : Hid (body x.e = if q = 1 then lst ct x.c else if q = 2 then lst itb (x.j.map RI.it) else if q = 3 then cl x.l else []) := Lib.hid (by rw [hq]; rfl)
  replace hH := Lib.hid hH
  replace hl := Lib.hid hl
  clear hp0 hp1 hq
  have X0 := Lib.hid (box_cells w #[.string ⟨x.k.toArray⟩, .slice x.sa x.s.length x.sc, .slice x.ca x.c.length x.cc, .slice x.ia x.j.length x.ic, .int .u64 (x.l.s : Int), .string ⟨x.l.t.toArray⟩, .bool x.l.g] 29 0 (.string ⟨x.k.toArray⟩) rfl)
  have X1 := Lib.hid (box_cells w #[.string ⟨x.k.toArray⟩, .slice x.sa x.s.length x.sc, .slice x.ca x.c.length x.cc, .slice x.ia x.j.length x.ic, .int .u64 (x.l.s : Int), .string ⟨x.l.t.toArray⟩, .bool x.l.g] 29 1 (.slice x.sa x.s.length x.sc) rfl)
  have X2 := Lib.hid (box_cells w #[.string ⟨x.k.toArray⟩, .slice x.sa x.s.length x.sc, .slice x.ca x.c.length x.cc, .slice x.ia x.j.length x.ic, .int .u64 (x.l.s : Int), .string ⟨x.l.t.toArray⟩, .bool x.l.g] 29 2 (.slice x.ca x.c.length x.cc) rfl)
  have X3 := Lib.hid (box_cells w #[.string ⟨x.k.toArray⟩, .slice x.sa x.s.length x.sc, .slice x.ca x.c.length x.cc, .slice x.ia x.j.length x.ic, .int .u64 (x.l.s : Int), .string ⟨x.l.t.toArray⟩, .bool x.l.g] 29 3 (.slice x.ia x.j.length x.ic) rfl)
  have X4 := Lib.hid (box_cells w #[.string ⟨x.k.toArray⟩, .slice x.sa x.s.length x.sc, .slice x.ca x.c.length x.cc, .slice x.ia x.j.length x.ic, .int .u64 (x.l.s : Int), .string ⟨x.l.t.toArray⟩, .bool x.l.g] 29 4 (.int .u64 (x.l.s : Int)) rfl)
  have X5 := Lib.hid (box_cells w #[.string ⟨x.k.toArray⟩, .slice x.sa x.s.length x.sc, .slice x.ca x.c.length x.cc, .slice x.ia x.j.length x.ic, .int .u64 (x.l.s : Int), .string ⟨x.l.t.toArray⟩, .bool x.l.g] 29 5 (.string ⟨x.l.t.toArray⟩) rfl)
  have X6 := Lib.hid (box_cells w #[.string ⟨x.k.toArray⟩, .slice x.sa x.s.length x.sc, .slice x.ca x.c.length x.cc, .slice x.ia x.j.length x.ic, .int .u64 (x.l.s : Int), .string ⟨x.l.t.toArray⟩, .bool x.l.g] 29 6 (.bool x.l.g) rfl)
  go_enter Tryz.func20, Tryz.ntmps20
  go_wp2_with fail
  replace lS := Lib.hid ((lS.out).below (balloc (Below.refl _ _) (.cells #[.string ⟨x.k.toArray⟩, .slice x.sa x.s.length x.sc, .slice x.ca x.c.length x.cc, .slice x.ia x.j.length x.ic, .int .u64 (x.l.s : Int), .string ⟨x.l.t.toArray⟩, .bool x.l.g] 29)))
  replace lC := Lib.hid ((lC.out).below (balloc (Below.refl _ _) (.cells #[.string ⟨x.k.toArray⟩, .slice x.sa x.s.length x.sc, .slice x.ca x.c.length x.cc, .slice x.ia x.j.length x.ic, .int .u64 (x.l.s : Int), .string ⟨x.l.t.toArray⟩, .bool x.l.g] 29)))
  replace lJ := Lib.hid ((lJ.out).below (balloc (Below.refl _ _) (.cells #[.string ⟨x.k.toArray⟩, .slice x.sa x.s.length x.sc, .slice x.ca x.c.length x.cc, .slice x.ia x.j.length x.ic, .int .u64 (x.l.s : Int), .string ⟨x.l.t.toArray⟩, .bool x.l.g] 29)))
  replace hb := bstep hb (balloc (Below.refl _ _) (.cells #[.string ⟨x.k.toArray⟩, .slice x.sa x.s.length x.sc, .slice x.ca x.c.length x.cc, .slice x.ia x.j.length x.ic, .int .u64 (x.l.s : Int), .string ⟨x.l.t.toArray⟩, .bool x.l.g] 29))
  have x0 := X0.out
  have x1 := X1.out
  have x2 := X2.out
  have x3 := X3.out
  have x4 := X4.out
  have x5 := X5.out
  have x6 := X6.out
  clear X0 X1 X2 X3 X4 X5 X6
  go_upto_region 1 with fail
  go_cut [3] (fun s wx => s = .string ⟨H.toArray⟩ ∧ Below w.heap.size w wx ∧ Mark.Lies wx x.sa x.s.length x.s ∧ Row.Lies cE wx x.ca x.c.length x.c ∧ InnerI wx x ∧ wx.cell? ⟨w.heap.size, 0, none⟩ = some (.string ⟨x.k.toArray⟩) ∧ wx.cell? ⟨w.heap.size, 1, none⟩ = some (.slice x.sa x.s.length x.sc) ∧ wx.cell? ⟨w.heap.size, 2, none⟩ = some (.slice x.ca x.c.length x.cc) ∧ wx.cell? ⟨w.heap.size, 3, none⟩ = some (.slice x.ia x.j.length x.ic) ∧ wx.cell? ⟨w.heap.size, 4, none⟩ = some (.int .u64 (x.l.s : Int)) ∧ wx.cell? ⟨w.heap.size, 5, none⟩ = some (.string ⟨x.l.t.toArray⟩) ∧ wx.cell? ⟨w.heap.size, 6, none⟩ = some (.bool x.l.g))
  case first =>
    refine wp_region_noPanic ?_
    refine wp_region_held_drew (S := (fun w' => Below w.heap.size w w' ∧ Mark.Lies w' x.sa x.s.length x.s ∧ Row.Lies cE w' x.ca x.c.length x.c ∧ InnerI w' x ∧ w'.cell? ⟨w.heap.size, 0, none⟩ = some (.string ⟨x.k.toArray⟩) ∧ w'.cell? ⟨w.heap.size, 1, none⟩ = some (.slice x.sa x.s.length x.sc) ∧ w'.cell? ⟨w.heap.size, 2, none⟩ = some (.slice x.ca x.c.length x.cc) ∧ w'.cell? ⟨w.heap.size, 3, none⟩ = some (.slice x.ia x.j.length x.ic) ∧ w'.cell? ⟨w.heap.size, 4, none⟩ = some (.int .u64 (x.l.s : Int)) ∧ w'.cell? ⟨w.heap.size, 5, none⟩ = some (.string ⟨x.l.t.toArray⟩) ∧ w'.cell? ⟨w.heap.size, 6, none⟩ = some (.bool x.l.g))) (by kernel_rfl) (⟨Below.drew hb, (lS.out).below (Below.drew (Below.refl _ _)), (lC.out).below (Below.drew (Below.refl _ _)), (lJ.out).below (Below.drew (Below.refl _ _)), Coder.keepC x0 (Below.drew (Below.refl _ _)), Coder.keepC x1 (Below.drew (Below.refl _ _)), Coder.keepC x2 (Below.drew (Below.refl _ _)), Coder.keepC x3 (Below.drew (Below.refl _ _)), Coder.keepC x4 (Below.drew (Below.refl _ _)), Coder.keepC x5 (Below.drew (Below.refl _ _)), Coder.keepC x6 (Below.drew (Below.refl _ _))⟩) (fun hHeld => ?_)
    revert hHeld
    generalize World.drew _ = wd
    intro hHeld
    refine tk 0 ?_
    try simp only [Act.put, List.setIfInBounds_toArray, List.set_cons_zero, List.set_cons_succ]
    refine tk 1 ?_
    try simp only [Act.put, List.setIfInBounds_toArray, List.set_cons_zero, List.set_cons_succ]
    refine tk 4 ?_
    try simp only [Act.put, List.setIfInBounds_toArray, List.set_cons_zero, List.set_cons_succ]
    refine tk 5 ?_
    try simp only [Act.put, List.setIfInBounds_toArray, List.set_cons_zero, List.set_cons_succ]
    refine wpAnyH_ready (rs := [2]) (by kernel_rfl) (by simp) ?_
    refine AllReadyH.cons (by simp only [List.getElem?_toArray, List.getElem?_cons_succ, List.getElem?_cons_zero]; rfl) (fun K hK => ?_) AllReadyH.nil
    go_simp
    refine hK.out _ _ (⟨bstep hHeld.1 (balloc (Below.refl _ _) _), (hHeld.2.1).below (balloc (Below.refl _ _) _), (hHeld.2.2.1).below (balloc (Below.refl _ _) _), (hHeld.2.2.2.1).below (balloc (Below.refl _ _) _), Coder.keepC hHeld.2.2.2.2.1 (balloc (Below.refl _ _) _), Coder.keepC hHeld.2.2.2.2.2.1 (balloc (Below.refl _ _) _), Coder.keepC hHeld.2.2.2.2.2.2.1 (balloc (Below.refl _ _) _), Coder.keepC hHeld.2.2.2.2.2.2.2.1 (balloc (Below.refl _ _) _), Coder.keepC hHeld.2.2.2.2.2.2.2.2.1 (balloc (Below.refl _ _) _), Coder.keepC hHeld.2.2.2.2.2.2.2.2.2.1 (balloc (Below.refl _ _) _), Coder.keepC hHeld.2.2.2.2.2.2.2.2.2.2 (balloc (Below.refl _ _) _)⟩) (fun hHeld => ?_)
    clear hK K
    try simp only [Act.put, List.setIfInBounds_toArray, List.set_cons_zero, List.set_cons_succ]
    have N2 := txts_here [x.k] (by intro y hy; simp at hy; subst hy; omega) rfl 1 rfl hHeld.1
    try simp only [World.size_alloc] at N2
    refine wpAnyH_ready (rs := [3]) (by kernel_rfl) (by simp) ?_
    refine AllReadyH.cons (by simp only [List.getElem?_toArray, List.getElem?_cons_succ, List.getElem?_cons_zero]; rfl) (fun K hK => ?_) AllReadyH.nil
    go_simp
    go_at_call 44
    refine (texts_w N2 p0 R0.out (by omega) (by omega)).mono ?_
    rintro e v1 ⟨rfl, k1⟩
    replace N2 := (N2).below rfl k1
    go_wp2_with fail
    refine hK.out _ _ (⟨bstep hHeld.1 k1, (hHeld.2.1).below k1, (hHeld.2.2.1).below k1, (hHeld.2.2.2.1).below k1, Coder.keepC hHeld.2.2.2.2.1 k1, Coder.keepC hHeld.2.2.2.2.2.1 k1, Coder.keepC hHeld.2.2.2.2.2.2.1 k1, Coder.keepC hHeld.2.2.2.2.2.2.2.1 k1, Coder.keepC hHeld.2.2.2.2.2.2.2.2.1 k1, Coder.keepC hHeld.2.2.2.2.2.2.2.2.2.1 k1, Coder.keepC hHeld.2.2.2.2.2.2.2.2.2.2 k1⟩) (fun hHeld => ?_)
    clear hK K k1
    try simp only [Act.put, List.setIfInBounds_toArray, List.set_cons_zero, List.set_cons_succ]
    refine wpAnyH_ready (rs := [6]) (by kernel_rfl) (by simp) ?_
    refine AllReadyH.cons (by simp only [List.getElem?_toArray, List.getElem?_cons_succ, List.getElem?_cons_zero]; rfl) (fun K hK => ?_) AllReadyH.nil
    go_simp
    go_at_call 45
    refine (D6.out _ hHeld.2.1).mono ?_
    rintro e v2 ⟨rfl, k2⟩
    replace N2 := (N2).below rfl k2
    go_wp2_with fail
    refine hK.out _ _ (⟨bstep hHeld.1 k2, (hHeld.2.1).below k2, (hHeld.2.2.1).below k2, (hHeld.2.2.2.1).below k2, Coder.keepC hHeld.2.2.2.2.1 k2, Coder.keepC hHeld.2.2.2.2.2.1 k2, Coder.keepC hHeld.2.2.2.2.2.2.1 k2, Coder.keepC hHeld.2.2.2.2.2.2.2.1 k2, Coder.keepC hHeld.2.2.2.2.2.2.2.2.1 k2, Coder.keepC hHeld.2.2.2.2.2.2.2.2.2.1 k2, Coder.keepC hHeld.2.2.2.2.2.2.2.2.2.2 k2⟩) (fun hHeld => ?_)
    clear hK K k2
    try simp only [Act.put, List.setIfInBounds_toArray, List.set_cons_zero, List.set_cons_succ]
    refine tk 7 ?_
    try simp only [Act.put, List.setIfInBounds_toArray, List.set_cons_zero, List.set_cons_succ]
    refine tk 8 ?_
    try simp only [Act.put, List.setIfInBounds_toArray, List.set_cons_zero, List.set_cons_succ]
    refine wpAnyH_done (by kernel_rfl) ?_ _
    refine NoPanic.normal ?_
    clear hb lS lC lJ x0 x1 x2 x3 x4 x5 x6
    obtain ⟨hb, lS, lC, lJ, x0, x1, x2, x3, x4, x5, x6⟩ := hHeld
    replace lS := Lib.hid lS
    replace lC := Lib.hid lC
    replace lJ := Lib.hid lJ
    go_wp2_with fail
    go_meet
    exact ⟨rfl, hb, lS.out, lC.out, lJ.out, x0, x1, x2, x3, x4, x5, x6⟩
  clear hb lS lC lJ x0 x1 x2 x3 x4 x5 x6
  obtain ⟨rfl, hb, lS, lC, lJ, x0, x1, x2, x3, x4, x5, x6⟩ := hcut
  replace lS := Lib.hid lS
  replace lC := Lib.hid lC
  replace lJ := Lib.hid lJ
  clear lS
  go_wp2_with fail
  refine (KD.out _).mono ?_
  rintro e v3 ⟨rfl, k3⟩
  replace lC := Lib.hid ((lC.out).below k3)
  replace lJ := Lib.hid ((lJ.out).below k3)
  replace x0 := (Coder.keepC x0 k3)
  replace x1 := (Coder.keepC x1 k3)
  replace x2 := (Coder.keepC x2 k3)
  replace x3 := (Coder.keepC x3 k3)
  replace x4 := (Coder.keepC x4 k3)
  replace x5 := (Coder.keepC x5 k3)
  replace x6 := (Coder.keepC x6 k3)
  replace hb := bstep hb k3
  clear k3
  by_cases k1 : q = 1
  · skip
    have zz1 : ((q : Int) == 1) = true := by rw [beq_iff_eq]; omega
    obtain ⟨p2, hp2⟩ : ∃ p, p = lst ct x.c := ⟨_, rfl⟩
    rw [HB.out, if_pos k1, ← hp2] at hs
    have b2 : p2.length ≤ 70368744177664 := by omega
    have z2 := Str.size_mk p2
    obtain ⟨C2, hC2⟩ : ∃ p, p = H ++ p2 := ⟨_, rfl⟩
    have HV : Hid (fE x = C2) := Lib.hid (by rw [HV0.out, HB.out, if_pos k1, hC2, hp2])
    have aC2 : (({ data := H.toArray } : ByteArray)) ++ { data := p2.toArray } = { data := C2.toArray } := by rw [hC2]; exact Str.mk_append_mk H p2
    have zC2 := Str.size_mk C2
    have nC2 : ¬ (9223372036854775807 < H.length + p2.length) := by omega
    have mC2 : ¬ (H.length + p2.length > 9223372036854775807) := by omega
    have D7 := Lib.hid (fun W (h : Row.Lies cE W x.ca x.c.length x.c) => (by rw [hp2]; exact list_count x.ca x.c.length x.cc x.c W h OK.out.c OK.out.cm (by rw [← hp2]; exact b2) : Calls Tryz.prog 47 #[.slice x.ca x.c.length x.cc, .func (.func 48) #[] #[]] W fun e W' => e = .returned (.string ⟨p2.toArray⟩) ∧ Below W.heap.size W W'))
    replace hC2 := Lib.hid hC2
    replace k1 := Lib.hid k1
    clear hp2
    go_wp2_with fail
    refine (D7.out _ lC.out).mono ?_
    rintro e v4 ⟨rfl, k4⟩
    replace lC := Lib.hid ((lC.out).below k4)
    replace lJ := Lib.hid ((lJ.out).below k4)
    replace x0 := (Coder.keepC x0 k4)
    replace x1 := (Coder.keepC x1 k4)
    replace x2 := (Coder.keepC x2 k4)
    replace x3 := (Coder.keepC x3 k4)
    replace x4 := (Coder.keepC x4 k4)
    replace x5 := (Coder.keepC x5 k4)
    replace x6 := (Coder.keepC x6 k4)
    replace hb := bstep hb k4
    clear k4
    go_wp2
    go_ret
    exact ⟨by rw [HV.out]; rfl, hb⟩
  by_cases k2 : q = 2
  · skip
    have zz1 : ((q : Int) == 1) = false := by rw [beq_eq_false_iff_ne]; omega
    have zz2 : ((q : Int) == 2) = true := by rw [beq_iff_eq]; omega
    obtain ⟨p2, hp2⟩ : ∃ p, p = lst itb (x.j.map RI.it) := ⟨_, rfl⟩
    rw [HB.out, if_neg k1, if_pos k2, ← hp2] at hs
    have b2 : p2.length ≤ 70368744177664 := by omega
    have z2 := Str.size_mk p2
    obtain ⟨C2, hC2⟩ : ∃ p, p = H ++ p2 := ⟨_, rfl⟩
    have HV : Hid (fE x = C2) := Lib.hid (by rw [HV0.out, HB.out, if_neg k1, if_pos k2, hC2, hp2])
    have aC2 : (({ data := H.toArray } : ByteArray)) ++ { data := p2.toArray } = { data := C2.toArray } := by rw [hC2]; exact Str.mk_append_mk H p2
    have zC2 := Str.size_mk C2
    have nC2 : ¬ (9223372036854775807 < H.length + p2.length) := by omega
    have mC2 : ¬ (H.length + p2.length > 9223372036854775807) := by omega
    have D7 := Lib.hid (fun W (h : InnerI W x) => (by rw [hp2, lst_map]; exact list_item x.ia x.j.length x.ic x.j W h.1 OK.out.j (fun y hy => ⟨h.2 y hy, OK.out.jm y hy⟩) (by rw [show lst fI x.j = lst itb (x.j.map RI.it) from (lst_map itb RI.it x.j).symm, ← hp2]; exact b2) : Calls Tryz.prog 49 #[.slice x.ia x.j.length x.ic, .func (.func 50) #[] #[]] W fun e W' => e = .returned (.string ⟨p2.toArray⟩) ∧ Below W.heap.size W W'))
    replace hC2 := Lib.hid hC2
    replace k1 := Lib.hid k1
    replace k2 := Lib.hid k2
    clear hp2
    go_wp2_with fail
    refine (D7.out _ lJ.out).mono ?_
    rintro e v5 ⟨rfl, k5⟩
    replace lC := Lib.hid ((lC.out).below k5)
    replace lJ := Lib.hid ((lJ.out).below k5)
    replace x0 := (Coder.keepC x0 k5)
    replace x1 := (Coder.keepC x1 k5)
    replace x2 := (Coder.keepC x2 k5)
    replace x3 := (Coder.keepC x3 k5)
    replace x4 := (Coder.keepC x4 k5)
    replace x5 := (Coder.keepC x5 k5)
    replace x6 := (Coder.keepC x6 k5)
    replace hb := bstep hb k5
    clear k5
    go_wp2
    go_ret
    exact ⟨by rw [HV.out]; rfl, hb⟩
  by_cases k3 : q = 3
  · skip
    have zz1 : ((q : Int) == 1) = false := by rw [beq_eq_false_iff_ne]; omega
    have zz2 : ((q : Int) == 2) = false := by rw [beq_eq_false_iff_ne]; omega
    have zz3 : ((q : Int) == 3) = true := by rw [beq_iff_eq]; omega
    obtain ⟨p2, hp2⟩ : ∃ p, p = cl x.l := ⟨_, rfl⟩
    rw [HB.out, if_neg k1, if_neg k2, if_pos k3, ← hp2] at hs
    have b2 : p2.length ≤ 70368744177664 := by omega
    have z2 := Str.size_mk p2
    obtain ⟨C2, hC2⟩ : ∃ p, p = H ++ p2 := ⟨_, rfl⟩
    have HV : Hid (fE x = C2) := Lib.hid (by rw [HV0.out, HB.out, if_neg k1, if_neg k2, if_pos k3, hC2, hp2])
    have aC2 : (({ data := H.toArray } : ByteArray)) ++ { data := p2.toArray } = { data := C2.toArray } := by rw [hC2]; exact Str.mk_append_mk H p2
    have zC2 := Str.size_mk C2
    have nC2 : ¬ (9223372036854775807 < H.length + p2.length) := by omega
    have mC2 : ¬ (H.length + p2.length > 9223372036854775807) := by omega
    have D7 := Lib.hid (fun W => (by rw [hp2]; exact cell_any x.l W ok5 ok6 : Calls Tryz.prog 51 #[.agg #[.int .u64 (x.l.s : Int), .string ⟨x.l.t.toArray⟩, .bool x.l.g]] W fun e W' => e = .returned (.string ⟨p2.toArray⟩) ∧ Below W.heap.size W W'))
    replace hC2 := Lib.hid hC2
    replace k1 := Lib.hid k1
    replace k2 := Lib.hid k2
    replace k3 := Lib.hid k3
    clear hp2
    go_wp2_with fail
    refine (D7.out _).mono ?_
    rintro e v6 ⟨rfl, k6⟩
    replace lC := Lib.hid ((lC.out).below k6)
    replace lJ := Lib.hid ((lJ.out).below k6)
    replace x0 := (Coder.keepC x0 k6)
    replace x1 := (Coder.keepC x1 k6)
    replace x2 := (Coder.keepC x2 k6)
    replace x3 := (Coder.keepC x3 k6)
    replace x4 := (Coder.keepC x4 k6)
    replace x5 := (Coder.keepC x5 k6)
    replace x6 := (Coder.keepC x6 k6)
    replace hb := bstep hb k6
    clear k6
    go_wp2
    go_ret
    exact ⟨by rw [HV.out]; rfl, hb⟩
  have zz1 : ((q : Int) == 1) = false := by rw [beq_eq_false_iff_ne]; omega
  have zz2 : ((q : Int) == 2) = false := by rw [beq_eq_false_iff_ne]; omega
  have zz3 : ((q : Int) == 3) = false := by rw [beq_eq_false_iff_ne]; omega
  have HV : Hid (fE x = H) := Lib.hid (by rw [HV0.out, HB.out, if_neg k1, if_neg k2, if_neg k3, List.append_nil])
  go_wp2
  go_ret
  exact ⟨by rw [HV.out]; rfl, hb⟩
set_option maxRecDepth 100000 in
set_option maxHeartbeats 4000000 in
theorem list_entry (a : Option Addr) (n c : Nat) (L : List RE) (w : World) (hL : Row.Lies eE w a n L) (hn : n ≤ 1048576) (hf : ∀ x ∈ L, InnerE w x ∧ x.Ok ∧ (fE x).length ≤ 70368744177664) (hs : (lst fE L).length ≤ 70368744177664) :
    Calls Tryz.prog 84 #[.slice a n c, .func (.func 20) #[] #[]] w fun e w' => e = .returned (.string ⟨(lst fE L).toArray⟩) ∧ Below w.heap.size w w' := by
  have hlen := hL.1
  have HN := Lib.hid hL
  have HF := Lib.hid hf
  clear hL hf
  have wn : IntKind.u64.wrap (n : Int) = (n : Int) := by rw [IntKind.wrap_u64]; omega
  obtain ⟨H, hH⟩ : ∃ H, H = upL n := ⟨_, rfl⟩
  have HC : Hid (cat [n] = H) := Lib.hid (by rw [hH]; simp [cat])
  have HV : Hid (lst fE L = H ++ L.flatMap fE) := Lib.hid (by unfold lst; rw [← hlen, hH])
  have hH10 : H.length ≤ 10 := by rw [hH]; exact up_len n
  have hs2 : H.length + (L.flatMap fE).length ≤ 70368744177664 := by rw [← List.length_append, ← HV.out]; exact hs
  have HL := Lib.hid hlen
  rw [HV.out]
  clear hH hs hlen
  go_enter Tryz.func84, Tryz.ntmps84
  go_wp2_with fail
  have I0 := Lib.IsBuilderF.of (Lib.fresh_isBuilder 130 5 w)
  have hb0 : Below w.heap.size w (w.alloc (.cells #[.pointer none, .slice none 0 0] 130)) := balloc (Below.refl _ _) _
  have hz : (w.alloc (.cells #[.pointer none, .slice none 0 0] 130)).heap.size = w.heap.size + 1 := by rw [World.size_alloc]
  change Lib.IsBuilderF _ _ _ _ _ (w.alloc (.cells #[.pointer none, .slice none 0 0] 130)) at I0
  generalize w.alloc (.cells #[.pointer none, .slice none 0 0] 130) = w0 at I0 hb0 hz ⊢
  have N1 := nats_here [n] (by intro y hy; simp at hy; omega) (C := #[.int .u64 (n : Int)]) rfl (t := 25) 1 rfl (Below.refl 0 (w0.alloc (.cells #[.int .u64 (n : Int)] 25)))
  rw [hz] at N1
  refine (nums_w N1 (by omega) H HC.out).mono ?_
  rintro e w1 ⟨rfl, b1⟩
  have I1 := isB_below (isB_below I0 (balloc (Below.refl _ _) _)) b1
  have hb1 := bstep (balloc hb0 _) b1
  have hs1 := hb1.size
  clear I0 hb0 hz N1 b1
  go_wp2_with fail
  refine (Build.writeString_any w.heap.size w.heap.size _ _ _ I1 (by rw [Str.size_mk]; simp only [List.length_nil]; omega) hs1).mono ?_
  rintro e w2 ⟨rfl, I2, b2, _⟩
  rw [strCells_mk, List.nil_append] at I2
  have hb := hb1.trans b2
  clear I1 hb1 hs1 b2
  have HI := Lib.hid I2
  clear I2
  go_wp2_with fail
  go_loopw [16] (fun i wr => ∃ k : Nat, k ≤ n ∧ i = .int .i64 k ∧ Hid (Lib.IsBuilderF 130 5 w.heap.size w.heap.size (Lib.byteCells (H ++ (L.take k).flatMap fE)) wr) ∧ Below w.heap.size w wr) (fun i _ => n - (intOf i).toNat)
  case atStart => exact ⟨0, by omega, rfl, by rw [List.take_zero, List.flatMap_nil, List.append_nil]; exact HI, hb⟩
  case round =>
    clear hb HI
    obtain ⟨k, hk, rfl, HI, hb⟩ := hrel
    by_cases hlt : k < n
    · have hkL : k < L.length := by rw [← HL.out]; exact hlt
      obtain ⟨b, off, rfl, hc⟩ := (HN.out.below hb).2 (by omega)
      have hc0 : wr.cell? ⟨b, off + k * 7, none⟩ = some (.string ⟨(L[k]).k.toArray⟩) := hc k hkL 0 _ rfl
      have hc1 : wr.cell? ⟨b, off + k * 7 + 1, none⟩ = some (.slice (L[k]).sa (L[k]).s.length (L[k]).sc) := hc k hkL 1 _ rfl
      have hc2 : wr.cell? ⟨b, off + k * 7 + 2, none⟩ = some (.slice (L[k]).ca (L[k]).c.length (L[k]).cc) := hc k hkL 2 _ rfl
      have hc3 : wr.cell? ⟨b, off + k * 7 + 3, none⟩ = some (.slice (L[k]).ia (L[k]).j.length (L[k]).ic) := hc k hkL 3 _ rfl
      have hc4 : wr.cell? ⟨b, off + k * 7 + 4, none⟩ = some (.int .u64 ((L[k]).l.s : Int)) := hc k hkL 4 _ rfl
      have hc5 : wr.cell? ⟨b, off + k * 7 + 5, none⟩ = some (.string ⟨(L[k]).l.t.toArray⟩) := hc k hkL 5 _ rfl
      have hc6 : wr.cell? ⟨b, off + k * 7 + 6, none⟩ = some (.bool (L[k]).l.g) := hc k hkL 6 _ rfl
      have hf := HF.out _ (List.getElem_mem hkL)
      have Hct := Lib.hid (flat_take fE L k hkL)
      have hle := flat_le fE L (k + 1)
      rw [Hct.out, List.length_append] at hle
      obtain ⟨m, hm⟩ : ∃ m, m = L[k] := ⟨_, rfl⟩
      rw [← hm] at hc0 hc1 hc2 hc3 hc4 hc5 hc6 hf Hct hle
      have HX := Lib.hid hf
      clear hm hc hf
      go_wp2_with fail
      refine (entry_any m _ (HX.out.1.below (balloc hb _)) HX.out.2.1 HX.out.2.2).mono ?_
      rintro e w3 ⟨rfl, b3⟩
      have I3 := isB_below (isB_below HI.out (balloc (Below.refl _ _) _)) b3
      have hb3 := bstep (balloc hb _) b3
      have hs3 := hb3.size
      clear HI b3
      go_wp2_with fail
      refine (Build.writeString_any w.heap.size w.heap.size _ _ _ I3 (by rw [Lib.byteCells_length, List.length_append, Str.size_mk]; omega) hs3).mono ?_
      rintro e w4 ⟨rfl, I4, b4, _⟩
      rw [strCells_mk, ← Lib.byteCells_append, List.append_assoc, ← Hct.out] at I4
      have HI := Lib.hid I4
      clear I3 I4
      go_wp2
      go_roundw
      case rel => exact ⟨k + 1, by omega, by go_num, HI, hb3.trans b4⟩
      case measure => simp [intOf]; omega
    · have e : k = n := by omega
      have I := HI.out
      rw [List.take_of_length_le (by have := HL.out; omega)] at I
      have hsz := hb.size
      clear HI
      go_wp2_with fail
      refine (Tryz.Builder_String_any_k w.heap.size w.heap.size (H ++ L.flatMap fE) _ I hsz).mono ?_
      rintro e w5 ⟨rfl, _, b5, _⟩
      go_wp2
      go_ret
      exact ⟨rfl, hb.trans b5⟩

end Coder
end Go.Proofs.YtnpjkmomllkhpaaGreat
