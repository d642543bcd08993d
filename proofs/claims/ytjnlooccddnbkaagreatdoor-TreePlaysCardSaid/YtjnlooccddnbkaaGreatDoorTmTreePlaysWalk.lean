/- TreePlays: the walk. -/
import Derived.Test.YtjnlooccddnbkaaGreatDoorTmLaw
import Derived.Test.YtjnlooccddnbkaaGreatDoorTmStepIn
import Derived.Test.YtjnlooccddnbkaaGreatDoorTmTreePlaysInts
namespace Go.Proofs.YtjnlooccddnbkaaGreatDoor
namespace TreePlays
open Go.RowKit Go.Proofs.YtjnlooccddnbkaaGreatDoor.Mark Go.Proofs.YtjnlooccddnbkaaGreatDoor.Dots Go.Proofs.YtjnlooccddnbkaaGreatDoor.Tree Go.Proofs.YtjnlooccddnbkaaGreatDoor.TreeLaw Go.Proofs.YtjnlooccddnbkaaGreatDoor.RefTree Go.Proofs.YtjnlooccddnbkaaGreatDoor.TreePlay
def oneA (s : Option Addr) (c : Nat) (A : List M) : St := ⟨0, [], [], s, c, A⟩
/-- The step at hand, in a block of its own. -/
def Stp (x : World) (sb : Nat) (d : Int) (key bs : List UInt8) (ms : Option Addr) (na mc : Nat) : Prop :=
  x.heap[sb]? = some (.cells #[.int .i64 d, .string ⟨key.toArray⟩, .string ⟨bs.toArray⟩, .slice ms na mc] 26 (0, 0))
variable {w x y : World} {sb : Nat} {d : Int} {key bs : List UInt8} {ms : Option Addr} {na mc : Nat}
theorem Stp.cells (h : Stp x sb d key bs ms na mc) : x.cell? ⟨sb, 0, none⟩ = some (.int .i64 d) ∧ x.cell? ⟨sb, 1, none⟩ = some (.string ⟨key.toArray⟩) ∧ x.cell? ⟨sb, 2, none⟩ = some (.string ⟨bs.toArray⟩) ∧ x.cell? ⟨sb, 3, none⟩ = some (.slice ms na mc) :=
  ⟨by rw [cell_of_row x sb 0 _ _ _ h]; rfl, by rw [cell_of_row x sb 1 _ _ _ h]; rfl, by rw [cell_of_row x sb 2 _ _ _ h]; rfl, by rw [cell_of_row x sb 3 _ _ _ h]; rfl⟩
theorem heap_new (x : World) (o : Obj) : (x.alloc o).heap[x.heap.size]? = some o := by
  show (x.heap.push o)[x.heap.size]? = some o
  simp
theorem Stp.lt (h : Stp x sb d key bs ms na mc) : sb < x.heap.size := (Array.getElem?_eq_some_iff.1 h).1
theorem Stp.below (h : Stp x sb d key bs ms na mc) (k : Below x.heap.size x y) : Stp y sb d key bs ms na mc := (k.block sb h.lt).trans h
theorem Stp.but (h : Stp x sb d key bs ms na mc) {b : Nat} (k : But b x y) (hb : sb ≠ b) : Stp y sb d key bs ms na mc := (k.block sb h.lt hb).trans h
theorem Stp.turns (h : Stp x sb d key bs ms na mc) (k : Turns w x y) : Stp y sb d key bs ms na mc := by
  rcases k.block sb h.lt with e | ⟨_, cs, T, e, hT⟩
  · exact e.trans h
  · rw [h] at e
    simp only [Option.some.injEq, Obj.cells.injEq] at e
    rcases hT with hT | hT <;> (rw [hT] at e; exact absurd e.2.1 (by decide))

set_option maxRecDepth 100000 in
set_option maxHeartbeats 16000000 in
theorem walk (a0 : List St) (s0 : Option Addr) (c0 : Nat) (a1 : Int) (a2 : Int) (a3 : List M) (s3 : Option Addr) (c3 : Nat) (w : World) (w0 : ∀ x ∈ a0, x.Sized ∧ x.Deep w) (l0 : TreeLaw.Steps w s0 a0.length a0) (_ : a0.length ≤ 140737488351232) (_ : (Lit.int .i64 a1).wf = true) (_ : (Lit.int .i64 a2).wf = true) (w1 : ∀ x ∈ a3, x.Was) (l1 : Mark.Lies w s3 a3.length a3) (r1 : a3.length ≤ 140737488351232) (ht : Sha.Tabs w) :
    Calls Tryz.prog 7 #[.slice s0 a0.length c0, .int .i64 a1, .int .i64 a2, .slice s3 a3.length c3] w fun e w' => e = .returned (.bool true) ∧ Below w.heap.size w w' := by
  have hb := Below.refl w.heap.size w
  have HT := Lib.hid ht
  clear ht
  have HH0 := Lib.hid (fun x (k : Below w.heap.size w x) => heavy_any a0 s0 c0 x (l0.below k) (fun y hy => (w0 y hy).2.below k) (fun y hy => (w0 y hy).1))
  obtain ⟨n0, hn0⟩ : ∃ n, n = a0.length := ⟨_, rfl⟩
  rw [← hn0] at l0 HH0 ⊢
  have HN0 := Lib.hid hn0
  have W0 := Lib.hid w0
  have L0 := Lib.hid l0
  clear w0 l0 hn0
  obtain ⟨n1, hn1⟩ : ∃ n, n = a3.length := ⟨_, rfl⟩
  rw [← hn1] at l1 ⊢
  have HN1 := Lib.hid hn1
  have W1 := Lib.hid w1
  have R1 := Lib.hid r1
  have L1 := Lib.hid l1
  clear w1 l1 hn1 r1
  go_enter Tryz.func7, Tryz.ntmps7
  go_wp2_with fail
  refine (HH0.out _ hb).mono ?_
  rintro e vh0 ⟨r0, rfl, hr0, kh⟩
  replace hb := bstep hb kh
  have HR0 := Lib.hid hr0
  clear kh hr0 HH0
  cases r0
  rotate_left
  · skip
    go_wp2_with fail
    refine (works_any _ (HT.out.below hb)).mono ?_
    rintro e vw ⟨rfl, kw⟩
    replace hb := bstep hb kw
    go_wp2
    go_ret
    exact ⟨rfl, hb⟩
  have LT0 := Lib.hid (HR0.out rfl)
  clear HR0
  go_wp2_with fail
  have LB   : TreeLaw.Steps (vh0.alloc (.cells #[.int .i64 0, .string ⟨#[]⟩, .string ⟨#[]⟩, .slice s3 n1 c3] 26)) (some ⟨vh0.heap.size, 0, none⟩) 1 [oneA s3 c3 a3] := by
    have := Row.lies_new (E := TreeLaw.encS) vh0 (oneA s3 c3 a3) 26
    unfold oneA TreeLaw.encS St.cells at this
    simp only [← HN1.out] at this
    exact this
  replace hb := bstep hb (balloc (Below.refl _ _) (.cells #[.int .i64 0, .string ⟨#[]⟩, .string ⟨#[]⟩, .slice s3 n1 c3] 26))
  have HV1 := Lib.hid (heavy_any [oneA s3 c3 a3] _ 1 _ LB (fun x hx => by
    obtain rfl := List.mem_singleton.1 hx
    show Mark.Lies _ s3 a3.length a3
    rw [← HN1.out]
    exact L1.out.below hb) (fun x hx => by
    obtain rfl := List.mem_singleton.1 hx
    exact ⟨Nat.zero_le _, Nat.zero_le _, R1.out, fun m hm => ⟨(W1.out m hm).2, (W1.out m hm).1⟩⟩))
  clear LB
  refine HV1.out.mono ?_
  rintro e v1 ⟨r1, rfl, hr1, k1⟩
  replace hb := bstep hb k1
  have HR1 := Lib.hid hr1
  clear k1 hr1 HV1
  cases r1
  rotate_left
  · skip
    go_wp2_with fail
    refine (works_any _ (HT.out.below hb)).mono ?_
    rintro e vw ⟨rfl, kw⟩
    replace hb := bstep hb kw
    go_wp2
    go_ret
    exact ⟨rfl, hb⟩
  have LT1 : Hid (a3.length ≤ 30 ∧ ∀ m ∈ a3, m.p.length ≤ 2048) := Lib.hid (by
    have := (HR1.out rfl).2 (oneA s3 c3 a3) (List.mem_cons_self ..)
    exact ⟨this.1, this.2.2.2⟩)
  have OK1 : Hid (Ok a3) := Lib.hid (fun m hm => ⟨(W1.out m hm).1, Nat.le_trans (W1.out m hm).2 (by decide)⟩)
  clear HR1
  go_wp2_with fail
  refine (new_on hb).mono ?_
  rintro e vn ⟨tb, mb, rfl, i, htb, hmb, kn⟩
  have I := Lib.hid i
  have HB : Hid (w.heap.size ≤ tb ∧ w.heap.size ≤ mb) := Lib.hid ⟨Nat.le_trans hb.size htb, Nat.le_trans hb.size hmb⟩
  replace hb := bstep hb kn
  clear i htb hmb kn
  go_upto_region 5 with (fail)
  have kT := balloc (Below.refl vn.heap.size vn) (.cells #[.slice none 0 0] 56)
  have BB : Both w (vn.alloc (.cells #[.slice none 0 0] 56)) tb mb vn.heap.size 0 [] [] := ⟨I.out.below kT, ⟨[], rfl, ⟨⟨_, heap_new _ _, Row.Own.nil _ _⟩, fun y hy => (List.not_mem_nil hy).elim, hb.size⟩⟩, List.Pairwise.nil, Nat.zero_le _, fun y hy => (List.not_mem_nil hy).elim⟩
  obtain ⟨rb, hrb⟩ : ∃ b, b = vn.heap.size := ⟨_, rfl⟩
  obtain ⟨v2, hv2⟩ : ∃ v, v = vn.alloc (.cells #[.slice none 0 0] 56) := ⟨_, rfl⟩
  rw [← hrb] at BB ⊢
  rw [← hv2] at BB ⊢
  replace I := Lib.hid BB
  clear BB kT hrb hv2
  go_wp2_with fail
  go_loopw [11] (fun iv wr => ∃ k : Nat, k ≤ n0 ∧ iv = .int .i64 k ∧ ∃ l, Hid (Both w wr tb mb rb k l l)) (fun iv _ => n0 - (intOf iv).toNat)
  case atStart => exact ⟨0, by omega, rfl, _, I⟩
  case round =>
    clear hb I
    obtain ⟨k, hk, rfl, l, I⟩ := hrel
    have hn60 : n0 ≤ 60 := by have := LT0.out.1; have := HN0.out; omega
    by_cases hlt : k < n0
    · skip
      have hll : k < a0.length := by have := HN0.out; omega
      obtain ⟨b, o, rfl, hcell⟩ := steps_at L0.out (by omega)
      obtain ⟨x0, x1, x2, x3⟩ := hcell k hll
      have hmem := List.getElem_mem hll
      have hdk := (W0.out _ hmem).2
      have hok := step_ok (LT0.out.2 _ hmem) (W0.out _ hmem).1
      have hbl := World.block_lt_of_cell? _ _ x0
      obtain ⟨x, hx⟩ : ∃ x, x = a0[k] := ⟨_, rfl⟩
      rw [← hx] at x0 x1 x2 x3 hdk hok
      clear hx hmem hcell
      obtain ⟨d, key, bs, ms, mc, A⟩ := x
      unfold St.Deep at hdk
      simp only at x0 x1 x2 x3 hdk hok
      have dA := Lib.hid (hdk.below I.out.hb)
      have OK := Lib.hid hok
      have dB := Lib.hid hdk
      have HK := Lib.hid hlt
      have HBL : Hid (b < w.heap.size) := Lib.hid hbl
      obtain ⟨na, hna⟩ : ∃ n, n = A.length := ⟨_, rfl⟩
      rw [← hna] at x3 dA dB
      have HNA := Lib.hid hna
      have y0 := Dots.keepC x0 I.out.hb
      have y1 := Dots.keepC x1 I.out.hb
      have y2 := Dots.keepC x2 I.out.hb
      have y3 := Dots.keepC x3 I.out.hb
      have d1 : decide ((k : Int) < (n0 : Int)) = true := decide_eq_true (by omega)
      have j1 : (0 : Int) ≤ (k : Int) := by omega
      have j2 : (k : Int) < (n0 : Int) := by omega
      clear hok hlt x0 x1 x2 x3 hbl hna hdk hll
      go_upto_region 10 with (fail)
      have kS := balloc (Below.refl wr.heap.size wr) (.cells #[.int .i64 d, .string ⟨key.toArray⟩, .string ⟨bs.toArray⟩, .slice ms na mc] 26)
      have S1 : Stp (wr.alloc (.cells #[.int .i64 d, .string ⟨key.toArray⟩, .string ⟨bs.toArray⟩, .slice ms na mc] 26)) wr.heap.size d key bs ms na mc := heap_new _ _
      obtain ⟨sb, hsb⟩ : ∃ b, b = wr.heap.size := ⟨_, rfl⟩
      have HSB : Hid (sb ≠ mb) := Lib.hid (by have := I.out.on.is.mlt; omega)
      obtain ⟨ws, hws⟩ : ∃ v, v = wr.alloc (.cells #[.int .i64 d, .string ⟨key.toArray⟩, .string ⟨bs.toArray⟩, .slice ms na mc] 26) := ⟨_, rfl⟩
      rw [← hsb] at S1 ⊢
      rw [← hws] at S1 kS ⊢
      replace I := Lib.hid (I.out.below kS)
      obtain ⟨e0, e1, e2, e3⟩ := S1.cells
      have SS := Lib.hid S1
      clear S1 kS hsb hws y0 y1 y2 y3
      have HLS := Lib.hid I.out.small
      by_cases hd : d = 1
      · have e4 : (d == 1) = true := by rw [hd]; rfl
        have DP := Lib.hid (fun x h => dropp (w := w) (x := x) (tb := tb) (mb := mb) (rb := rb) (n := k) (l := l) (m := l) h key (by have := OK.out.2.1; omega))
        have DR := Lib.hid (fun x h => dropr (w := w) (x := x) (tb := tb) (mb := mb) (rb := rb) (n := k) (l := Tree.drop key l) (m := l) h key)
        obtain ⟨fb, hfb⟩ : ∃ b, b = (find l key).isSome := ⟨_, rfl⟩
        rw [← hfb] at DP DR
        have q7 : (fb == fb) = true := by simp
        clear hd hfb
        go_wp2_with fail
        refine wp_region_noPanic ?_
        refine wp_region_held_drew (S := (fun w' => Stp w' sb d key bs ms na mc ∧ w'.cell? ⟨sb, 1, none⟩ = some (.string ⟨key.toArray⟩) ∧ w'.cell? ⟨sb, 2, none⟩ = some (.string ⟨bs.toArray⟩) ∧ w'.cell? ⟨sb, 3, none⟩ = some (.slice ms na mc))) (by kernel_rfl) (⟨SS.out.below (Below.drew (Below.refl _ _)), (SS.out.below (Below.drew (Below.refl _ _))).cells.2.1, (SS.out.below (Below.drew (Below.refl _ _))).cells.2.2.1, (SS.out.below (Below.drew (Below.refl _ _))).cells.2.2.2⟩) (fun hHeld => ?_)
        refine wpAnyH_take (i := 0) (v := ?_) (by simp only [List.getElem?_toArray, List.getElem?_cons_zero]; rfl) (by kernel_rfl) (by kernel_rfl) (by kernel_rfl) (fun _ _ _ h => h) (Or.inl ⟨by rfl, ?_⟩) (by assumption) ?_
        rotate_left
        · (intro w hSw; (try dsimp only at hSw); go_simp; try with_reducible rfl)
        try simp only [Act.put, List.setIfInBounds_toArray, List.set_cons_zero, List.set_cons_succ]
        refine wpAnyH_take (i := 1) (v := ?_) (by simp only [List.getElem?_toArray, List.getElem?_cons_succ, List.getElem?_cons_zero]; rfl) (by kernel_rfl) (by kernel_rfl) (by kernel_rfl) (fun _ _ _ h => h) (Or.inl ⟨by rfl, ?_⟩) (by assumption) ?_
        rotate_left
        · (intro w hSw; (try dsimp only at hSw); go_simp; try with_reducible rfl)
        try simp only [Act.put, List.setIfInBounds_toArray, List.set_cons_zero, List.set_cons_succ]
        refine wpAnyH_take (i := 2) (v := ?_) (by simp only [List.getElem?_toArray, List.getElem?_cons_succ, List.getElem?_cons_zero]; rfl) (by kernel_rfl) (by kernel_rfl) (by kernel_rfl) (fun _ _ _ h => h) (Or.inl ⟨by rfl, ?_⟩) (by assumption) ?_
        rotate_left
        · (intro w hSw; (try dsimp only at hSw); go_simp; try with_reducible rfl)
        try simp only [Act.put, List.setIfInBounds_toArray, List.set_cons_zero, List.set_cons_succ]
        refine wpAnyH_take (i := 4) (v := ?_) (by simp only [List.getElem?_toArray, List.getElem?_cons_succ, List.getElem?_cons_zero]; rfl) (by kernel_rfl) (by kernel_rfl) (by kernel_rfl) (fun _ _ _ h => h) (Or.inl ⟨by rfl, ?_⟩) (by assumption) ?_
        rotate_left
        · (intro w hSw; (try dsimp only at hSw); go_simp; try with_reducible rfl)
        try simp only [Act.put, List.setIfInBounds_toArray, List.set_cons_zero, List.set_cons_succ]
        refine wpAnyH_take (i := 5) (v := ?_) (by simp only [List.getElem?_toArray, List.getElem?_cons_succ, List.getElem?_cons_zero]; rfl) (by kernel_rfl) (by kernel_rfl) (by kernel_rfl) (fun _ _ _ h => h) (Or.inl ⟨by rfl, ?_⟩) (by assumption) ?_
        rotate_left
        · (intro w hSw; (try dsimp only at hSw); go_simp; try with_reducible rfl)
        try simp only [Act.put, List.setIfInBounds_toArray, List.set_cons_zero, List.set_cons_succ]
        refine wpAnyH_take (i := 6) (v := ?_) (by simp only [List.getElem?_toArray, List.getElem?_cons_succ, List.getElem?_cons_zero]; rfl) (by kernel_rfl) (by kernel_rfl) (by kernel_rfl) (fun _ _ _ h => h) (Or.inl ⟨by rfl, ?_⟩) (by assumption) ?_
        rotate_left
        · (intro w hSw; (try dsimp only at hSw); go_simp; try with_reducible rfl)
        try simp only [Act.put, List.setIfInBounds_toArray, List.set_cons_zero, List.set_cons_succ]
        refine wpAnyH_ready (rs := [3]) (by kernel_rfl) (by simp) ?_
        refine AllReadyH.cons (by simp only [List.getElem?_toArray, List.getElem?_cons_succ, List.getElem?_cons_zero]; rfl) (fun K hK => ?_) AllReadyH.nil
        go_simp
        go_at_call 20
        refine (DP.out _ (I.out.below (Below.drew (Below.refl _ _)))).mono ?_
        rintro e v7 ⟨rfl, b7, k7⟩
        have B7 := Lib.hid b7
        clear b7
        go_wp2_with fail
        refine hK.out _ _ (⟨hHeld.1.but k7 HSB.out, (hHeld.1.but k7 HSB.out).cells.2.1, (hHeld.1.but k7 HSB.out).cells.2.2.1, (hHeld.1.but k7 HSB.out).cells.2.2.2⟩) (fun hHeld => ?_)
        clear hK K
        try simp only [Act.put, List.setIfInBounds_toArray, List.set_cons_zero, List.set_cons_succ]
        refine wpAnyH_ready (rs := [7]) (by kernel_rfl) (by simp) ?_
        refine AllReadyH.cons (by simp only [List.getElem?_toArray, List.getElem?_cons_succ, List.getElem?_cons_zero]; rfl) (fun K hK => ?_) AllReadyH.nil
        go_simp
        go_at_call 26
        refine (DR.out _ B7.out).mono ?_
        rintro e v8 ⟨rfl, b8, k8⟩
        have B8 := Lib.hid (b8.more (Nat.le_succ k))
        clear b8
        go_wp2_with fail
        refine hK.out _ _ (⟨hHeld.1.turns k8, (hHeld.1.turns k8).cells.2.1, (hHeld.1.turns k8).cells.2.2.1, (hHeld.1.turns k8).cells.2.2.2⟩) (fun hHeld => ?_)
        clear hK K
        try simp only [Act.put, List.setIfInBounds_toArray, List.set_cons_zero, List.set_cons_succ]
        refine wpAnyH_take (i := 8) (v := ?_) (by simp only [List.getElem?_toArray, List.getElem?_cons_succ, List.getElem?_cons_zero]; rfl) (by kernel_rfl) (by kernel_rfl) (by kernel_rfl) (fun _ _ _ h => h) (Or.inl ⟨by rfl, ?_⟩) (by assumption) ?_
        rotate_left
        · (intro w hSw; (try dsimp only at hSw); go_simp; try with_reducible rfl)
        try simp only [Act.put, List.setIfInBounds_toArray, List.set_cons_zero, List.set_cons_succ]
        refine wpAnyH_take (i := 9) (v := ?_) (by simp only [List.getElem?_toArray, List.getElem?_cons_succ, List.getElem?_cons_zero]; rfl) (by kernel_rfl) (by kernel_rfl) (by kernel_rfl) (fun _ _ _ h => h) (Or.inl ⟨by rfl, ?_⟩) (by assumption) ?_
        rotate_left
        · (intro w hSw; (try dsimp only at hSw); go_simp; try with_reducible rfl)
        try simp only [Act.put, List.setIfInBounds_toArray, List.set_cons_zero, List.set_cons_succ]
        refine wpAnyH_done (by kernel_rfl) ?_ _
        refine NoPanic.normal ?_
        clear hHeld DP DR k7 k8
        obtain ⟨l2, hl2⟩ : ∃ l2, l2 = Tree.drop key l := ⟨_, rfl⟩
        rw [← hl2] at B8
        obtain ⟨ra, rc, hrc⟩ := lenr B8.out
        obtain ⟨ln, hln⟩ : ∃ n, n = l2.length := ⟨_, rfl⟩
        have LE := Lib.hid (fun x h => len_on (w := w) (x := x) (tb := tb) (mb := mb) (n := k + 1) (l := l2) h)
        rw [← hln] at LE hrc
        have q8 : ((ln : Int) != (ln : Int)) = false := by simp
        clear hl2 hln e0 e1 e2 e3 SS
        go_wp2_with fail
        refine wp_region_noPanic ?_
        refine wp_region_held_drew (S := (fun w' => w'.cell? ⟨rb, 0, none⟩ = some (.slice ra ln rc))) (by kernel_rfl) (Dots.keepC hrc (Below.drew (Below.refl _ _))) (fun hHeld => ?_)
        refine wpAnyH_take (i := 0) (v := ?_) (by simp only [List.getElem?_toArray, List.getElem?_cons_zero]; rfl) (by kernel_rfl) (by kernel_rfl) (by kernel_rfl) (fun _ _ _ h => h) (Or.inl ⟨by rfl, ?_⟩) (by assumption) ?_
        rotate_left
        · (intro w hSw; (try dsimp only at hSw); go_simp; try with_reducible rfl)
        try simp only [Act.put, List.setIfInBounds_toArray, List.set_cons_zero, List.set_cons_succ]
        refine wpAnyH_take (i := 1) (v := ?_) (by simp only [List.getElem?_toArray, List.getElem?_cons_succ, List.getElem?_cons_zero]; rfl) (by kernel_rfl) (by kernel_rfl) (by kernel_rfl) (fun _ _ _ h => h) (Or.inl ⟨by rfl, ?_⟩) (by assumption) ?_
        rotate_left
        · (intro w hSw; (try dsimp only at hSw); go_simp; try with_reducible rfl)
        try simp only [Act.put, List.setIfInBounds_toArray, List.set_cons_zero, List.set_cons_succ]
        refine wpAnyH_take (i := 2) (v := ?_) (by simp only [List.getElem?_toArray, List.getElem?_cons_succ, List.getElem?_cons_zero]; rfl) (by kernel_rfl) (by kernel_rfl) (by kernel_rfl) (fun _ _ _ h => h) (Or.inl ⟨by rfl, ?_⟩) (by assumption) ?_
        rotate_left
        · (intro w hSw; (try dsimp only at hSw); go_simp; try with_reducible rfl)
        try simp only [Act.put, List.setIfInBounds_toArray, List.set_cons_zero, List.set_cons_succ]
        refine wpAnyH_take (i := 3) (v := ?_) (by simp only [List.getElem?_toArray, List.getElem?_cons_succ, List.getElem?_cons_zero]; rfl) (by kernel_rfl) (by kernel_rfl) (by kernel_rfl) (fun _ _ _ h => h) (Or.inl ⟨by rfl, ?_⟩) (by assumption) ?_
        rotate_left
        · (intro w hSw; (try dsimp only at hSw); go_simp; try with_reducible rfl)
        try simp only [Act.put, List.setIfInBounds_toArray, List.set_cons_zero, List.set_cons_succ]
        refine wpAnyH_take (i := 5) (v := ?_) (by simp only [List.getElem?_toArray, List.getElem?_cons_succ, List.getElem?_cons_zero]; rfl) (by kernel_rfl) (by kernel_rfl) (by kernel_rfl) (fun _ _ _ h => h) (Or.inl ⟨by rfl, ?_⟩) (by assumption) ?_
        rotate_left
        · (intro w hSw; (try dsimp only at hSw); go_simp; try with_reducible rfl)
        try simp only [Act.put, List.setIfInBounds_toArray, List.set_cons_zero, List.set_cons_succ]
        refine wpAnyH_take (i := 6) (v := ?_) (by simp only [List.getElem?_toArray, List.getElem?_cons_succ, List.getElem?_cons_zero]; rfl) (by kernel_rfl) (by kernel_rfl) (by kernel_rfl) (fun _ _ _ h => h) (Or.inl ⟨by rfl, ?_⟩) (by assumption) ?_
        rotate_left
        · (intro w hSw; (try dsimp only at hSw); go_simp; try with_reducible rfl)
        try simp only [Act.put, List.setIfInBounds_toArray, List.set_cons_zero, List.set_cons_succ]
        refine wpAnyH_take (i := 7) (v := ?_) (by simp only [List.getElem?_toArray, List.getElem?_cons_succ, List.getElem?_cons_zero]; rfl) (by kernel_rfl) (by kernel_rfl) (by kernel_rfl) (fun _ _ _ h => h) (Or.inl ⟨by rfl, ?_⟩) (by assumption) ?_
        rotate_left
        · (intro w hSw; (try dsimp only at hSw); go_simp; try with_reducible rfl)
        try simp only [Act.put, List.setIfInBounds_toArray, List.set_cons_zero, List.set_cons_succ]
        refine wpAnyH_take (i := 8) (v := ?_) (by simp only [List.getElem?_toArray, List.getElem?_cons_succ, List.getElem?_cons_zero]; rfl) (by kernel_rfl) (by kernel_rfl) (by kernel_rfl) (fun _ _ _ h => h) (Or.inl ⟨by rfl, ?_⟩) (by assumption) ?_
        rotate_left
        · (intro w hSw; (try dsimp only at hSw); go_simp; try with_reducible rfl)
        try simp only [Act.put, List.setIfInBounds_toArray, List.set_cons_zero, List.set_cons_succ]
        refine wpAnyH_take (i := 9) (v := ?_) (by simp only [List.getElem?_toArray, List.getElem?_cons_succ, List.getElem?_cons_zero]; rfl) (by kernel_rfl) (by kernel_rfl) (by kernel_rfl) (fun _ _ _ h => h) (Or.inl ⟨by rfl, ?_⟩) (by assumption) ?_
        rotate_left
        · (intro w hSw; (try dsimp only at hSw); go_simp; try with_reducible rfl)
        try simp only [Act.put, List.setIfInBounds_toArray, List.set_cons_zero, List.set_cons_succ]
        refine wpAnyH_ready (rs := [4]) (by kernel_rfl) (by simp) ?_
        refine AllReadyH.cons (by simp only [List.getElem?_toArray, List.getElem?_cons_succ, List.getElem?_cons_zero]; rfl) (fun K hK => ?_) AllReadyH.nil
        go_simp
        go_at_call 21
        refine (LE.out _ (B8.out.below (Below.drew (Below.refl _ _))).on).mono ?_
        rintro e v9 ⟨rfl, rfl⟩
        go_wp2_with fail
        refine hK.out _ _ (hHeld) (fun hHeld => ?_)
        clear hK K
        try simp only [Act.put, List.setIfInBounds_toArray, List.set_cons_zero, List.set_cons_succ]
        refine wpAnyH_take (i := 10) (v := ?_) (by simp only [List.getElem?_toArray, List.getElem?_cons_succ, List.getElem?_cons_zero]; rfl) (by kernel_rfl) (by kernel_rfl) (by kernel_rfl) (fun _ _ _ h => h) (Or.inl ⟨by rfl, ?_⟩) (by assumption) ?_
        rotate_left
        · (intro w hSw; (try dsimp only at hSw); go_simp; try with_reducible rfl)
        try simp only [Act.put, List.setIfInBounds_toArray, List.set_cons_zero, List.set_cons_succ]
        refine wpAnyH_take (i := 11) (v := ?_) (by simp only [List.getElem?_toArray, List.getElem?_cons_succ, List.getElem?_cons_zero]; rfl) (by kernel_rfl) (by kernel_rfl) (by kernel_rfl) (fun _ _ _ h => h) (Or.inl ⟨by rfl, ?_⟩) (by assumption) ?_
        rotate_left
        · (intro w hSw; (try dsimp only at hSw); go_simp; try with_reducible rfl)
        try simp only [Act.put, List.setIfInBounds_toArray, List.set_cons_zero, List.set_cons_succ]
        refine wpAnyH_done (by kernel_rfl) ?_ _
        refine NoPanic.normal ?_
        clear hHeld hrc
        go_wp2
        go_roundw
        case rel => exact ⟨k + 1, by have := HK.out; omega, by go_num, _, Lib.hid (B8.out.below (Below.drew (Below.refl _ _)))⟩
        case measure => have := HK.out; simp [intOf]; omega
      · have e4 : (d == 1) = false := by simp [hd]
        have PP := Lib.hid (fun x a c h hs => putp (w := w) (x := x) (tb := tb) (mb := mb) (rb := rb) (n := k) (l := l) (m := l) h key bs A a c hs OK.out.1.1 (by have := OK.out.2.1; omega) (by have := OK.out.2.2; omega) (by have := OK.out.1.2; omega) (by have := HK.out; omega))
        have PR : ∀ x, Both w x tb mb rb (k + 1) (putL l ⟨key, bs, A⟩) l → Calls Tryz.prog 27 #[.pointer (some ⟨rb, 0, none⟩), .agg #[.string ⟨key.toArray⟩, .string ⟨bs.toArray⟩, .slice ms na mc]] x fun e y => e = .returned (.int .i64 (putE l ⟨key, bs, A⟩)) ∧ Both w y tb mb rb (k + 1) (putL l ⟨key, bs, A⟩) (putL l ⟨key, bs, A⟩) ∧ Turns w x y := by
          rw [HNA.out]
          exact fun x h => putr h ⟨key, bs, ms, mc, A⟩ (by have := dB.out; rw [HNA.out] at this; exact this) ⟨by have := OK.out.2.1; show key.length ≤ _; omega, by have := OK.out.2.2; show bs.length ≤ _; omega, OK.out.1.1, by have := OK.out.1.2; show A.length ≤ _; omega⟩
        replace PR := Lib.hid PR
        obtain ⟨pe, hpe⟩ : ∃ z, z = putE l ⟨key, bs, A⟩ := ⟨_, rfl⟩
        rw [← hpe] at PP PR
        have q7 : (pe == pe) = true := by simp
        clear hd hpe
        go_wp2_with fail
        refine wp_region_noPanic ?_
        refine wp_region_held_drew (S := (fun w' => Stp w' sb d key bs ms na mc ∧ w'.cell? ⟨sb, 1, none⟩ = some (.string ⟨key.toArray⟩) ∧ w'.cell? ⟨sb, 2, none⟩ = some (.string ⟨bs.toArray⟩) ∧ w'.cell? ⟨sb, 3, none⟩ = some (.slice ms na mc))) (by kernel_rfl) (⟨SS.out.below (Below.drew (Below.refl _ _)), (SS.out.below (Below.drew (Below.refl _ _))).cells.2.1, (SS.out.below (Below.drew (Below.refl _ _))).cells.2.2.1, (SS.out.below (Below.drew (Below.refl _ _))).cells.2.2.2⟩) (fun hHeld => ?_)
        refine wpAnyH_take (i := 0) (v := ?_) (by simp only [List.getElem?_toArray, List.getElem?_cons_zero]; rfl) (by kernel_rfl) (by kernel_rfl) (by kernel_rfl) (fun _ _ _ h => h) (Or.inl ⟨by rfl, ?_⟩) (by assumption) ?_
        rotate_left
        · (intro w hSw; (try dsimp only at hSw); go_simp; try with_reducible rfl)
        try simp only [Act.put, List.setIfInBounds_toArray, List.set_cons_zero, List.set_cons_succ]
        refine wpAnyH_take (i := 1) (v := ?_) (by simp only [List.getElem?_toArray, List.getElem?_cons_succ, List.getElem?_cons_zero]; rfl) (by kernel_rfl) (by kernel_rfl) (by kernel_rfl) (fun _ _ _ h => h) (Or.inl ⟨by rfl, ?_⟩) (by assumption) ?_
        rotate_left
        · (intro w hSw; (try dsimp only at hSw); go_simp; try with_reducible rfl)
        try simp only [Act.put, List.setIfInBounds_toArray, List.set_cons_zero, List.set_cons_succ]
        refine wpAnyH_take (i := 2) (v := ?_) (by simp only [List.getElem?_toArray, List.getElem?_cons_succ, List.getElem?_cons_zero]; rfl) (by kernel_rfl) (by kernel_rfl) (by kernel_rfl) (fun _ _ _ h => h) (Or.inl ⟨by rfl, ?_⟩) (by assumption) ?_
        rotate_left
        · (intro w hSw; (try dsimp only at hSw); go_simp; try with_reducible rfl)
        try simp only [Act.put, List.setIfInBounds_toArray, List.set_cons_zero, List.set_cons_succ]
        refine wpAnyH_take (i := 3) (v := ?_) (by simp only [List.getElem?_toArray, List.getElem?_cons_succ, List.getElem?_cons_zero]; rfl) (by kernel_rfl) (by kernel_rfl) (by kernel_rfl) (fun _ _ _ h => h) (Or.inl ⟨by rfl, ?_⟩) (by assumption) ?_
        rotate_left
        · (intro w hSw; (try dsimp only at hSw); go_simp; try with_reducible rfl)
        try simp only [Act.put, List.setIfInBounds_toArray, List.set_cons_zero, List.set_cons_succ]
        refine wpAnyH_take (i := 4) (v := ?_) (by simp only [List.getElem?_toArray, List.getElem?_cons_succ, List.getElem?_cons_zero]; rfl) (by kernel_rfl) (by kernel_rfl) (by kernel_rfl) (fun _ _ _ h => h) (Or.inl ⟨by rfl, ?_⟩) (by assumption) ?_
        rotate_left
        · (intro w hSw; (try dsimp only at hSw); go_simp; try with_reducible rfl)
        try simp only [Act.put, List.setIfInBounds_toArray, List.set_cons_zero, List.set_cons_succ]
        refine wpAnyH_take (i := 5) (v := ?_) (by simp only [List.getElem?_toArray, List.getElem?_cons_succ, List.getElem?_cons_zero]; rfl) (by kernel_rfl) (by kernel_rfl) (by kernel_rfl) (fun _ _ _ h => h) (Or.inl ⟨by rfl, ?_⟩) (by assumption) ?_
        rotate_left
        · (intro w hSw; (try dsimp only at hSw); go_simp; try with_reducible rfl)
        try simp only [Act.put, List.setIfInBounds_toArray, List.set_cons_zero, List.set_cons_succ]
        refine wpAnyH_take (i := 6) (v := ?_) (by simp only [List.getElem?_toArray, List.getElem?_cons_succ, List.getElem?_cons_zero]; rfl) (by kernel_rfl) (by kernel_rfl) (by kernel_rfl) (fun _ _ _ h => h) (Or.inl ⟨by rfl, ?_⟩) (by assumption) ?_
        rotate_left
        · (intro w hSw; (try dsimp only at hSw); go_simp; try with_reducible rfl)
        try simp only [Act.put, List.setIfInBounds_toArray, List.set_cons_zero, List.set_cons_succ]
        refine wpAnyH_take (i := 9) (v := ?_) (by simp only [List.getElem?_toArray, List.getElem?_cons_succ, List.getElem?_cons_zero]; rfl) (by kernel_rfl) (by kernel_rfl) (by kernel_rfl) (fun _ _ _ h => h) (Or.inl ⟨by rfl, ?_⟩) (by assumption) ?_
        rotate_left
        · (intro w hSw; (try dsimp only at hSw); go_simp; try with_reducible rfl)
        try simp only [Act.put, List.setIfInBounds_toArray, List.set_cons_zero, List.set_cons_succ]
        refine wpAnyH_take (i := 10) (v := ?_) (by simp only [List.getElem?_toArray, List.getElem?_cons_succ, List.getElem?_cons_zero]; rfl) (by kernel_rfl) (by kernel_rfl) (by kernel_rfl) (fun _ _ _ h => h) (Or.inl ⟨by rfl, ?_⟩) (by assumption) ?_
        rotate_left
        · (intro w hSw; (try dsimp only at hSw); go_simp; try with_reducible rfl)
        try simp only [Act.put, List.setIfInBounds_toArray, List.set_cons_zero, List.set_cons_succ]
        refine wpAnyH_take (i := 11) (v := ?_) (by simp only [List.getElem?_toArray, List.getElem?_cons_succ, List.getElem?_cons_zero]; rfl) (by kernel_rfl) (by kernel_rfl) (by kernel_rfl) (fun _ _ _ h => h) (Or.inl ⟨by rfl, ?_⟩) (by assumption) ?_
        rotate_left
        · (intro w hSw; (try dsimp only at hSw); go_simp; try with_reducible rfl)
        try simp only [Act.put, List.setIfInBounds_toArray, List.set_cons_zero, List.set_cons_succ]
        refine wpAnyH_take (i := 12) (v := ?_) (by simp only [List.getElem?_toArray, List.getElem?_cons_succ, List.getElem?_cons_zero]; rfl) (by kernel_rfl) (by kernel_rfl) (by kernel_rfl) (fun _ _ _ h => h) (Or.inl ⟨by rfl, ?_⟩) (by assumption) ?_
        rotate_left
        · (intro w hSw; (try dsimp only at hSw); go_simp; try with_reducible rfl)
        try simp only [Act.put, List.setIfInBounds_toArray, List.set_cons_zero, List.set_cons_succ]
        refine wpAnyH_take (i := 13) (v := ?_) (by simp only [List.getElem?_toArray, List.getElem?_cons_succ, List.getElem?_cons_zero]; rfl) (by kernel_rfl) (by kernel_rfl) (by kernel_rfl) (fun _ _ _ h => h) (Or.inl ⟨by rfl, ?_⟩) (by assumption) ?_
        rotate_left
        · (intro w hSw; (try dsimp only at hSw); go_simp; try with_reducible rfl)
        try simp only [Act.put, List.setIfInBounds_toArray, List.set_cons_zero, List.set_cons_succ]
        refine wpAnyH_take (i := 14) (v := ?_) (by simp only [List.getElem?_toArray, List.getElem?_cons_succ, List.getElem?_cons_zero]; rfl) (by kernel_rfl) (by kernel_rfl) (by kernel_rfl) (fun _ _ _ h => h) (Or.inl ⟨by rfl, ?_⟩) (by assumption) ?_
        rotate_left
        · (intro w hSw; (try dsimp only at hSw); go_simp; try with_reducible rfl)
        try simp only [Act.put, List.setIfInBounds_toArray, List.set_cons_zero, List.set_cons_succ]
        refine wpAnyH_take (i := 15) (v := ?_) (by simp only [List.getElem?_toArray, List.getElem?_cons_succ, List.getElem?_cons_zero]; rfl) (by kernel_rfl) (by kernel_rfl) (by kernel_rfl) (fun _ _ _ h => h) (Or.inl ⟨by rfl, ?_⟩) (by assumption) ?_
        rotate_left
        · (intro w hSw; (try dsimp only at hSw); go_simp; try with_reducible rfl)
        try simp only [Act.put, List.setIfInBounds_toArray, List.set_cons_zero, List.set_cons_succ]
        refine wpAnyH_take (i := 16) (v := ?_) (by simp only [List.getElem?_toArray, List.getElem?_cons_succ, List.getElem?_cons_zero]; rfl) (by kernel_rfl) (by kernel_rfl) (by kernel_rfl) (fun _ _ _ h => h) (Or.inl ⟨by rfl, ?_⟩) (by assumption) ?_
        rotate_left
        · (intro w hSw; (try dsimp only at hSw); go_simp; try with_reducible rfl)
        try simp only [Act.put, List.setIfInBounds_toArray, List.set_cons_zero, List.set_cons_succ]
        refine wpAnyH_ready (rs := [7]) (by kernel_rfl) (by simp) ?_
        refine AllReadyH.cons (by simp only [List.getElem?_toArray, List.getElem?_cons_succ, List.getElem?_cons_zero]; rfl) (fun K hK => ?_) AllReadyH.nil
        go_simp
        go_at_call 14
        refine (copied_any A ms na mc _ ((dB.out.below I.out.hb).below (Below.drew (Below.refl _ _))) (by have := OK.out.1.2; have := HNA.out; omega)).mono ?_
        rintro e v6 ⟨z2, q2, rfl, t2, -, k6⟩
        have B6 := Lib.hid (I.out.below ((Below.drew (Below.refl _ _)).trans k6))
        have T2 := Lib.hid t2
        clear t2
        go_wp2_with fail
        refine hK.out _ _ (⟨hHeld.1.below k6, (hHeld.1.below k6).cells.2.1, (hHeld.1.below k6).cells.2.2.1, (hHeld.1.below k6).cells.2.2.2⟩) (fun hHeld => ?_)
        clear hK K
        try simp only [Act.put, List.setIfInBounds_toArray, List.set_cons_zero, List.set_cons_succ]
        refine wpAnyH_ready (rs := [8]) (by kernel_rfl) (by simp) ?_
        refine AllReadyH.cons (by simp only [List.getElem?_toArray, List.getElem?_cons_succ, List.getElem?_cons_zero]; rfl) (fun K hK => ?_) AllReadyH.nil
        go_simp
        go_at_call 13
        refine (PP.out _ z2 q2 B6.out T2.out).mono ?_
        rintro e v7 ⟨rfl, b7, k7⟩
        have B7 := Lib.hid b7
        clear b7
        go_wp2_with fail
        refine hK.out _ _ (⟨hHeld.1.but k7 HSB.out, (hHeld.1.but k7 HSB.out).cells.2.1, (hHeld.1.but k7 HSB.out).cells.2.2.1, (hHeld.1.but k7 HSB.out).cells.2.2.2⟩) (fun hHeld => ?_)
        clear hK K
        try simp only [Act.put, List.setIfInBounds_toArray, List.set_cons_zero, List.set_cons_succ]
        refine wpAnyH_ready (rs := [17]) (by kernel_rfl) (by simp) ?_
        refine AllReadyH.cons (by simp only [List.getElem?_toArray, List.getElem?_cons_succ, List.getElem?_cons_zero]; rfl) (fun K hK => ?_) AllReadyH.nil
        go_simp
        go_at_call 27
        refine (PR.out _ B7.out).mono ?_
        rintro e v8 ⟨rfl, b8, k8⟩
        have B8 := Lib.hid b8
        clear b8
        go_wp2_with fail
        refine hK.out _ _ (⟨hHeld.1.turns k8, (hHeld.1.turns k8).cells.2.1, (hHeld.1.turns k8).cells.2.2.1, (hHeld.1.turns k8).cells.2.2.2⟩) (fun hHeld => ?_)
        clear hK K
        try simp only [Act.put, List.setIfInBounds_toArray, List.set_cons_zero, List.set_cons_succ]
        refine wpAnyH_take (i := 18) (v := ?_) (by simp only [List.getElem?_toArray, List.getElem?_cons_succ, List.getElem?_cons_zero]; rfl) (by kernel_rfl) (by kernel_rfl) (by kernel_rfl) (fun _ _ _ h => h) (Or.inl ⟨by rfl, ?_⟩) (by assumption) ?_
        rotate_left
        · (intro w hSw; (try dsimp only at hSw); go_simp; try with_reducible rfl)
        try simp only [Act.put, List.setIfInBounds_toArray, List.set_cons_zero, List.set_cons_succ]
        refine wpAnyH_take (i := 19) (v := ?_) (by simp only [List.getElem?_toArray, List.getElem?_cons_succ, List.getElem?_cons_zero]; rfl) (by kernel_rfl) (by kernel_rfl) (by kernel_rfl) (fun _ _ _ h => h) (Or.inl ⟨by rfl, ?_⟩) (by assumption) ?_
        rotate_left
        · (intro w hSw; (try dsimp only at hSw); go_simp; try with_reducible rfl)
        try simp only [Act.put, List.setIfInBounds_toArray, List.set_cons_zero, List.set_cons_succ]
        refine wpAnyH_done (by kernel_rfl) ?_ _
        refine NoPanic.normal ?_
        clear hHeld PP PR k6 k7 k8
        obtain ⟨l2, hl2⟩ : ∃ l2, l2 = putL l ⟨key, bs, A⟩ := ⟨_, rfl⟩
        rw [← hl2] at B8
        obtain ⟨ra, rc, hrc⟩ := lenr B8.out
        obtain ⟨ln, hln⟩ : ∃ n, n = l2.length := ⟨_, rfl⟩
        have LE := Lib.hid (fun x h => len_on (w := w) (x := x) (tb := tb) (mb := mb) (n := k + 1) (l := l2) h)
        rw [← hln] at LE hrc
        have q8 : ((ln : Int) != (ln : Int)) = false := by simp
        clear hl2 hln e0 e1 e2 e3 SS
        go_wp2_with fail
        refine wp_region_noPanic ?_
        refine wp_region_held_drew (S := (fun w' => w'.cell? ⟨rb, 0, none⟩ = some (.slice ra ln rc))) (by kernel_rfl) (Dots.keepC hrc (Below.drew (Below.refl _ _))) (fun hHeld => ?_)
        refine wpAnyH_take (i := 0) (v := ?_) (by simp only [List.getElem?_toArray, List.getElem?_cons_zero]; rfl) (by kernel_rfl) (by kernel_rfl) (by kernel_rfl) (fun _ _ _ h => h) (Or.inl ⟨by rfl, ?_⟩) (by assumption) ?_
        rotate_left
        · (intro w hSw; (try dsimp only at hSw); go_simp; try with_reducible rfl)
        try simp only [Act.put, List.setIfInBounds_toArray, List.set_cons_zero, List.set_cons_succ]
        refine wpAnyH_take (i := 1) (v := ?_) (by simp only [List.getElem?_toArray, List.getElem?_cons_succ, List.getElem?_cons_zero]; rfl) (by kernel_rfl) (by kernel_rfl) (by kernel_rfl) (fun _ _ _ h => h) (Or.inl ⟨by rfl, ?_⟩) (by assumption) ?_
        rotate_left
        · (intro w hSw; (try dsimp only at hSw); go_simp; try with_reducible rfl)
        try simp only [Act.put, List.setIfInBounds_toArray, List.set_cons_zero, List.set_cons_succ]
        refine wpAnyH_take (i := 2) (v := ?_) (by simp only [List.getElem?_toArray, List.getElem?_cons_succ, List.getElem?_cons_zero]; rfl) (by kernel_rfl) (by kernel_rfl) (by kernel_rfl) (fun _ _ _ h => h) (Or.inl ⟨by rfl, ?_⟩) (by assumption) ?_
        rotate_left
        · (intro w hSw; (try dsimp only at hSw); go_simp; try with_reducible rfl)
        try simp only [Act.put, List.setIfInBounds_toArray, List.set_cons_zero, List.set_cons_succ]
        refine wpAnyH_take (i := 3) (v := ?_) (by simp only [List.getElem?_toArray, List.getElem?_cons_succ, List.getElem?_cons_zero]; rfl) (by kernel_rfl) (by kernel_rfl) (by kernel_rfl) (fun _ _ _ h => h) (Or.inl ⟨by rfl, ?_⟩) (by assumption) ?_
        rotate_left
        · (intro w hSw; (try dsimp only at hSw); go_simp; try with_reducible rfl)
        try simp only [Act.put, List.setIfInBounds_toArray, List.set_cons_zero, List.set_cons_succ]
        refine wpAnyH_take (i := 5) (v := ?_) (by simp only [List.getElem?_toArray, List.getElem?_cons_succ, List.getElem?_cons_zero]; rfl) (by kernel_rfl) (by kernel_rfl) (by kernel_rfl) (fun _ _ _ h => h) (Or.inl ⟨by rfl, ?_⟩) (by assumption) ?_
        rotate_left
        · (intro w hSw; (try dsimp only at hSw); go_simp; try with_reducible rfl)
        try simp only [Act.put, List.setIfInBounds_toArray, List.set_cons_zero, List.set_cons_succ]
        refine wpAnyH_take (i := 6) (v := ?_) (by simp only [List.getElem?_toArray, List.getElem?_cons_succ, List.getElem?_cons_zero]; rfl) (by kernel_rfl) (by kernel_rfl) (by kernel_rfl) (fun _ _ _ h => h) (Or.inl ⟨by rfl, ?_⟩) (by assumption) ?_
        rotate_left
        · (intro w hSw; (try dsimp only at hSw); go_simp; try with_reducible rfl)
        try simp only [Act.put, List.setIfInBounds_toArray, List.set_cons_zero, List.set_cons_succ]
        refine wpAnyH_take (i := 7) (v := ?_) (by simp only [List.getElem?_toArray, List.getElem?_cons_succ, List.getElem?_cons_zero]; rfl) (by kernel_rfl) (by kernel_rfl) (by kernel_rfl) (fun _ _ _ h => h) (Or.inl ⟨by rfl, ?_⟩) (by assumption) ?_
        rotate_left
        · (intro w hSw; (try dsimp only at hSw); go_simp; try with_reducible rfl)
        try simp only [Act.put, List.setIfInBounds_toArray, List.set_cons_zero, List.set_cons_succ]
        refine wpAnyH_take (i := 8) (v := ?_) (by simp only [List.getElem?_toArray, List.getElem?_cons_succ, List.getElem?_cons_zero]; rfl) (by kernel_rfl) (by kernel_rfl) (by kernel_rfl) (fun _ _ _ h => h) (Or.inl ⟨by rfl, ?_⟩) (by assumption) ?_
        rotate_left
        · (intro w hSw; (try dsimp only at hSw); go_simp; try with_reducible rfl)
        try simp only [Act.put, List.setIfInBounds_toArray, List.set_cons_zero, List.set_cons_succ]
        refine wpAnyH_take (i := 9) (v := ?_) (by simp only [List.getElem?_toArray, List.getElem?_cons_succ, List.getElem?_cons_zero]; rfl) (by kernel_rfl) (by kernel_rfl) (by kernel_rfl) (fun _ _ _ h => h) (Or.inl ⟨by rfl, ?_⟩) (by assumption) ?_
        rotate_left
        · (intro w hSw; (try dsimp only at hSw); go_simp; try with_reducible rfl)
        try simp only [Act.put, List.setIfInBounds_toArray, List.set_cons_zero, List.set_cons_succ]
        refine wpAnyH_ready (rs := [4]) (by kernel_rfl) (by simp) ?_
        refine AllReadyH.cons (by simp only [List.getElem?_toArray, List.getElem?_cons_succ, List.getElem?_cons_zero]; rfl) (fun K hK => ?_) AllReadyH.nil
        go_simp
        go_at_call 21
        refine (LE.out _ (B8.out.below (Below.drew (Below.refl _ _))).on).mono ?_
        rintro e v9 ⟨rfl, rfl⟩
        go_wp2_with fail
        refine hK.out _ _ (hHeld) (fun hHeld => ?_)
        clear hK K
        try simp only [Act.put, List.setIfInBounds_toArray, List.set_cons_zero, List.set_cons_succ]
        refine wpAnyH_take (i := 10) (v := ?_) (by simp only [List.getElem?_toArray, List.getElem?_cons_succ, List.getElem?_cons_zero]; rfl) (by kernel_rfl) (by kernel_rfl) (by kernel_rfl) (fun _ _ _ h => h) (Or.inl ⟨by rfl, ?_⟩) (by assumption) ?_
        rotate_left
        · (intro w hSw; (try dsimp only at hSw); go_simp; try with_reducible rfl)
        try simp only [Act.put, List.setIfInBounds_toArray, List.set_cons_zero, List.set_cons_succ]
        refine wpAnyH_take (i := 11) (v := ?_) (by simp only [List.getElem?_toArray, List.getElem?_cons_succ, List.getElem?_cons_zero]; rfl) (by kernel_rfl) (by kernel_rfl) (by kernel_rfl) (fun _ _ _ h => h) (Or.inl ⟨by rfl, ?_⟩) (by assumption) ?_
        rotate_left
        · (intro w hSw; (try dsimp only at hSw); go_simp; try with_reducible rfl)
        try simp only [Act.put, List.setIfInBounds_toArray, List.set_cons_zero, List.set_cons_succ]
        refine wpAnyH_done (by kernel_rfl) ?_ _
        refine NoPanic.normal ?_
        clear hHeld hrc
        go_wp2
        go_roundw
        case rel => exact ⟨k + 1, by have := HK.out; omega, by go_num, _, Lib.hid (B8.out.below (Below.drew (Below.refl _ _)))⟩
        case measure => have := HK.out; simp [intOf]; omega
    have d1 : decide ((k : Int) < (n0 : Int)) = false := decide_eq_false (by omega)
    skip
    obtain rfl : k = n0 := by omega
    clear hlt hk hn60
    go_wp2_with fail
    refine (nodep I.out HT.out a1 a2).mono ?_
    rintro e v3 ⟨g3, x3, c3', R3, rfl, N3, hl3, y3, k3⟩
    have I3 := Lib.hid (I.out.below k3)
    have HN3 := Lib.hid N3
    have HL3 := Lib.hid hl3
    have Y3 := Lib.hid y3
    clear k3 N3 hl3 y3
    go_wp2_with fail
    refine (noder I3.out a1 a2).mono ?_
    rintro e v4 ⟨g4, x4, c4, R4, rfl, N4, hl4, y4, k4⟩
    obtain ⟨rfl, rfl⟩ := HN3.out.uniq N4
    have I4 := Lib.hid (I3.out.below k4)
    have Y4 := Lib.hid y4
    replace Y3 := Lib.hid (Y3.out.below k4)
    clear k4 N4 hl4 y4 HN3 I I3
    go_wp2_with fail
    refine (noder I4.out 0 0).mono ?_
    rintro e v5 ⟨g5, x5, c5, R5, rfl, N5, -, -, k5⟩
    have h5 : g5 = dig l 4 0 := (N5.1 ⟨by decide, by decide, by decide, by decide⟩).1
    have I5 := Lib.hid (I4.out.below k5)
    replace Y3 := Lib.hid (Y3.out.below k5)
    replace Y4 := Lib.hid (Y4.out.below k5)
    have q1 : (g3 != g3) = false := by simp
    have RO := Lib.hid (fun x (h : On w x tb mb k l) => root_on h HT.out (tabs_two HT.out))
    rw [← h5] at RO
    have q2 : (g5 != g5) = false := by simp
    clear k5 N5 I4 h5
    go_wp2_with fail
    refine (marks_any R3 R3 x3 x4 R3.length R3.length c3' c4 _ Y3.out Y4.out (by have := HL3.out; omega) (by have := HL3.out; omega)).mono ?_
    rintro e v6 ⟨rfl, k6⟩
    rw [decide_eq_true (rfl : R3 = R3)]
    have I6 := Lib.hid (I5.out.below k6)
    clear k6 I5 Y3 Y4
    go_wp2_with fail
    refine (RO.out _ I6.out.on).mono ?_
    rintro e v7 ⟨rfl, k7⟩
    have I7 := Lib.hid (I6.out.below k7)
    clear k7 I6 RO
    go_wp2_with fail
    refine (copied_any a3 s3 n1 c3 _ (L1.out.below I7.out.hb) (by have := LT1.out.1; have := HN1.out; omega)).mono ?_
    rintro e v8 ⟨z8, q8, rfl, t8, -, k8⟩
    have I8 := Lib.hid (I7.out.below k8)
    obtain ⟨cc, hcc⟩ := lacks_fun l a3
    have DI := Lib.hid (diff_on I8.out.on HT.out a3 z8 a3.length q8 t8 OK1.out (by have := LT1.out.1; omega) cc hcc)
    have DR := Lib.hid (fun x h => diffr (w := w) (x := x) (tb := tb) (mb := mb) (rb := rb) (n := k) (l := l) (m := l) h a3 s3 n1 c3 (L1.out.below h.hb) OK1.out (by have := LT1.out.1; have := HN1.out; omega) cc hcc)
    obtain ⟨D, hD⟩ : ∃ D, D = (if mayL a3 then sel cc 16 else []) := ⟨_, rfl⟩
    rw [← hD] at DI DR
    have HD16 : Hid (D.length ≤ 16) := Lib.hid (by rw [hD]; split; exact sel_len _ _; exact Nat.zero_le _)
    clear k8 t8 hcc I7 hD
    go_wp2_with fail
    refine DI.out.mono ?_
    rintro e v9 ⟨x9, c9, rfl, y9, k9⟩
    have I9 := Lib.hid (I8.out.below k9)
    have Y9 := Lib.hid y9
    clear k9 I8 DI y9
    go_wp2_with fail
    refine (DR.out _ I9.out).mono ?_
    rintro e vA ⟨xA, cA, rfl, yA, kA⟩
    have IA := Lib.hid (I9.out.below kA)
    have YA := Lib.hid yA
    replace Y9 := Lib.hid (Y9.out.below kA)
    clear kA I9 DR yA
    go_wp2_with fail
    refine (ints_any D x9 xA c9 cA _ Y9.out YA.out (by have := HD16.out; omega)).mono ?_
    rintro e vB ⟨rfl, kB⟩
    have IB := Lib.hid (IA.out.below kB)
    clear kB IA Y9 YA
    go_wp2_with fail
    go_loopw [20, 21] (fun nv kv wr => ∃ i : Nat, i ≤ 16 ∧ kv = .int .i64 i ∧ nv = .int .i64 (cnt l i : Int) ∧ Hid (Both w wr tb mb rb k l l)) (fun _ kv _ => 16 - (intOf kv).toNat)
    case atStart => exact ⟨0, by omega, rfl, rfl, IB⟩
    case round =>
      clear IB
      obtain ⟨i, hi, rfl, rfl, IB⟩ := hrel
      by_cases hlt : i < 16
      · have d1 : decide ((i : Int) < 16) = true := decide_eq_true (by omega)
        have HI := Lib.hid hlt
        have KO := Lib.hid (keys_of _ tb mb k l i IB.out.on.is (HT.out.below IB.out.hb) hlt)
        have hcs : cnt l (i + 1) = cnt l i + (items l i).length := rfl
        have hcl := cnt_le l (i + 1)
        have hsm := IB.out.small
        obtain ⟨ks, hks⟩ : ∃ ks, ks = (items l i).map It.k := ⟨_, rfl⟩
        have hkl : (items l i).length = ks.length := by rw [hks, List.length_map]
        rw [← hks, hkl] at KO
        obtain ⟨m, hm⟩ : ∃ m, m = ks.length := ⟨_, rfl⟩
        rw [← hm] at KO
        have HKS : Hid (ks = (items l i).map It.k ∧ m = ks.length) := Lib.hid ⟨hks, hm⟩
        have HC : Hid (cnt l (i + 1) = cnt l i + m ∧ cnt l i + m ≤ 256) := Lib.hid (by omega)
        obtain ⟨cn, hcn⟩ : ∃ c, c = cnt l i := ⟨_, rfl⟩
        rw [← hcn] at HC ⊢
        have wc : IntKind.i64.wrap ((cn : Int) + (m : Int)) = ((cn + m : Nat) : Int) := by rw [IntKind.wrap_i64]; have := HC.out; omega
        clear hcs hcl hsm hks hkl hm hcn hlt
        go_wp2_with fail
        refine KO.out.mono ?_
        rintro e v1' ⟨ka, kc, rfl, kl, k1⟩
        replace IB := Lib.hid (IB.out.below k1)
        have KL := Lib.hid kl
        clear KO k1 kl
        go_wp2_with fail
        go_loopw [23] (fun jv wr => ∃ j : Nat, j ≤ m ∧ jv = .int .i64 j ∧ Hid (Both w wr tb mb rb k l l) ∧ Hid (Words.Lies wr ka m ks)) (fun jv _ => m - (intOf jv).toNat)
        case atStart => exact ⟨0, by omega, rfl, IB, KL⟩
        case round =>
          clear IB KL
          obtain ⟨j, hj, rfl, IB, KL⟩ := hrel
          by_cases hjm : j < m
          rotate_left
          · obtain rfl : j = m := by omega
            have d2 : decide ((j : Int) < (j : Int)) = false := decide_eq_false (by omega)
            go_wp2
            go_roundw
            case rel => exact ⟨i + 1, by have := HI.out; omega, by go_num, by rw [HC.out.1, Int.natCast_add], IB⟩
            case measure => have := HI.out; simp [intOf]; omega
          have d2 : decide ((j : Int) < (m : Int)) = true := decide_eq_true (by omega)
          have HJ := Lib.hid hjm
          have hjl : j < ks.length := by have := HKS.out.2; omega
          obtain ⟨b, o, rfl, hcell⟩ := Words.words_at KL.out (by omega)
          have hx := hcell j hjl
          have hik : ks[j] ∈ l.map It.k ∧ Shard.no ks[j] = i := by
            have e := HKS.out.1
            subst e
            exact items_key hjl
          have hfk : ks[j].length ≤ 1048576 := by
            obtain ⟨y, hy, e⟩ := List.mem_map.1 hik.1
            rw [← e]
            exact (IB.out.fine y hy).1
          have j1 : (0 : Int) ≤ (j : Int) := by omega
          have j2 : (j : Int) < (m : Int) := by omega
          obtain ⟨q, hq⟩ : ∃ q, q = ks[j] := ⟨_, rfl⟩
          rw [← hq] at hx hik hfk
          have e8 : (((Shard.no q : Nat) : Int) != (i : Int)) = false := by rw [hik.2]; simp
          have HIK := Lib.hid hik
          have HFK := Lib.hid hfk
          by_cases hj0 : j = 0
          · have d3 : decide ((j : Int) > 0) = false := decide_eq_false (by omega)
            have d4 : decide ((0 : Int) < (j : Int)) = false := decide_eq_false (by omega)
            have d5 : decide (0 < j) = false := decide_eq_false (by omega)
            clear hik hfk hq hcell hjm hj0
            go_wp2_with fail
            refine wp_region_noPanic ?_
            refine wp_region_held_drew (S := (fun w' => w'.cell? ⟨b, o + j, none⟩ = some (.string ⟨q.toArray⟩))) (by kernel_rfl) (Dots.keepC hx (Below.drew (Below.refl _ _))) (fun hHeld => ?_)
            refine wpAnyH_take (i := 0) (v := ?_) (by simp only [List.getElem?_toArray, List.getElem?_cons_zero]; rfl) (by kernel_rfl) (by kernel_rfl) (by kernel_rfl) (fun _ _ _ h => h) (Or.inl ⟨by rfl, ?_⟩) (by assumption) ?_
            rotate_left
            · (intro w hSw; (try dsimp only at hSw); go_simp; try with_reducible rfl)
            try simp only [Act.put, List.setIfInBounds_toArray, List.set_cons_zero, List.set_cons_succ]
            refine wpAnyH_take (i := 1) (v := ?_) (by simp only [List.getElem?_toArray, List.getElem?_cons_succ, List.getElem?_cons_zero]; rfl) (by kernel_rfl) (by kernel_rfl) (by kernel_rfl) (fun _ _ _ h => h) (Or.inl ⟨by rfl, ?_⟩) (by assumption) ?_
            rotate_left
            · (intro w hSw; (try dsimp only at hSw); go_simp; try with_reducible rfl)
            try simp only [Act.put, List.setIfInBounds_toArray, List.set_cons_zero, List.set_cons_succ]
            refine wpAnyH_take (i := 2) (v := ?_) (by simp only [List.getElem?_toArray, List.getElem?_cons_succ, List.getElem?_cons_zero]; rfl) (by kernel_rfl) (by kernel_rfl) (by kernel_rfl) (fun _ _ _ h => h) (Or.inl ⟨by rfl, ?_⟩) (by assumption) ?_
            rotate_left
            · (intro w hSw; (try dsimp only at hSw); go_simp; try with_reducible rfl)
            try simp only [Act.put, List.setIfInBounds_toArray, List.set_cons_zero, List.set_cons_succ]
            refine wpAnyH_take (i := 3) (v := ?_) (by simp only [List.getElem?_toArray, List.getElem?_cons_succ, List.getElem?_cons_zero]; rfl) (by kernel_rfl) (by kernel_rfl) (by kernel_rfl) (fun _ _ _ h => h) (Or.inl ⟨by rfl, ?_⟩) (by assumption) ?_
            rotate_left
            · (intro w hSw; (try dsimp only at hSw); go_simp; try with_reducible rfl)
            try simp only [Act.put, List.setIfInBounds_toArray, List.set_cons_zero, List.set_cons_succ]
            refine wpAnyH_take (i := 4) (v := ?_) (by simp only [List.getElem?_toArray, List.getElem?_cons_succ, List.getElem?_cons_zero]; rfl) (by kernel_rfl) (by kernel_rfl) (by kernel_rfl) (fun _ _ _ h => h) (Or.inl ⟨by rfl, ?_⟩) (by assumption) ?_
            rotate_left
            · (intro w hSw; (try dsimp only at hSw); go_simp; try with_reducible rfl)
            try simp only [Act.put, List.setIfInBounds_toArray, List.set_cons_zero, List.set_cons_succ]
            refine wpAnyH_ready (rs := [5]) (by kernel_rfl) (by simp) ?_
            refine AllReadyH.cons (by simp only [List.getElem?_toArray, List.getElem?_cons_succ, List.getElem?_cons_zero]; rfl) (fun K hK => ?_) AllReadyH.nil
            go_simp
            go_at_call 32
            refine (atr (IB.out.below (Below.drew (Below.refl _ _))) q HIK.out.1).mono ?_
            rintro e v8 ⟨r8, rfl, hr8, rfl⟩
            have d8 : decide (r8 < 0) = false := decide_eq_false (by omega)
            clear hr8
            go_wp2_with fail
            refine hK.out _ _ (hHeld) (fun hHeld => ?_)
            clear hK K
            try simp only [Act.put, List.setIfInBounds_toArray, List.set_cons_zero, List.set_cons_succ]
            refine wpAnyH_take (i := 6) (v := ?_) (by simp only [List.getElem?_toArray, List.getElem?_cons_succ, List.getElem?_cons_zero]; rfl) (by kernel_rfl) (by kernel_rfl) (by kernel_rfl) (fun _ _ _ h => h) (Or.inl ⟨by rfl, ?_⟩) (by assumption) ?_
            rotate_left
            · (intro w hSw; (try dsimp only at hSw); go_simp; try with_reducible rfl)
            try simp only [Act.put, List.setIfInBounds_toArray, List.set_cons_zero, List.set_cons_succ]
            refine wpAnyH_take (i := 7) (v := ?_) (by simp only [List.getElem?_toArray, List.getElem?_cons_succ, List.getElem?_cons_zero]; rfl) (by kernel_rfl) (by kernel_rfl) (by kernel_rfl) (fun _ _ _ h => h) (Or.inl ⟨by rfl, ?_⟩) (by assumption) ?_
            rotate_left
            · (intro w hSw; (try dsimp only at hSw); go_simp; try with_reducible rfl)
            try simp only [Act.put, List.setIfInBounds_toArray, List.set_cons_zero, List.set_cons_succ]
            refine wpAnyH_take (i := 8) (v := ?_) (by simp only [List.getElem?_toArray, List.getElem?_cons_succ, List.getElem?_cons_zero]; rfl) (by kernel_rfl) (by kernel_rfl) (by kernel_rfl) (fun _ _ _ h => h) (Or.inl ⟨by rfl, ?_⟩) (by assumption) ?_
            rotate_left
            · (intro w hSw; (try dsimp only at hSw); go_simp; try with_reducible rfl)
            try simp only [Act.put, List.setIfInBounds_toArray, List.set_cons_zero, List.set_cons_succ]
            refine wpAnyH_take (i := 9) (v := ?_) (by simp only [List.getElem?_toArray, List.getElem?_cons_succ, List.getElem?_cons_zero]; rfl) (by kernel_rfl) (by kernel_rfl) (by kernel_rfl) (fun _ _ _ h => h) (Or.inl ⟨by rfl, ?_⟩) (by assumption) ?_
            rotate_left
            · (intro w hSw; (try dsimp only at hSw); go_simp; try with_reducible rfl)
            try simp only [Act.put, List.setIfInBounds_toArray, List.set_cons_zero, List.set_cons_succ]
            refine wpAnyH_take (i := 10) (v := ?_) (by simp only [List.getElem?_toArray, List.getElem?_cons_succ, List.getElem?_cons_zero]; rfl) (by kernel_rfl) (by kernel_rfl) (by kernel_rfl) (fun _ _ _ h => h) (Or.inl ⟨by rfl, ?_⟩) (by assumption) ?_
            rotate_left
            · (intro w hSw; (try dsimp only at hSw); go_simp; try with_reducible rfl)
            try simp only [Act.put, List.setIfInBounds_toArray, List.set_cons_zero, List.set_cons_succ]
            refine wpAnyH_take (i := 11) (v := ?_) (by simp only [List.getElem?_toArray, List.getElem?_cons_succ, List.getElem?_cons_zero]; rfl) (by kernel_rfl) (by kernel_rfl) (by kernel_rfl) (fun _ _ _ h => h) (Or.inl ⟨by rfl, ?_⟩) (by assumption) ?_
            rotate_left
            · (intro w hSw; (try dsimp only at hSw); go_simp; try with_reducible rfl)
            try simp only [Act.put, List.setIfInBounds_toArray, List.set_cons_zero, List.set_cons_succ]
            refine wpAnyH_take (i := 13) (v := ?_) (by simp only [List.getElem?_toArray, List.getElem?_cons_succ, List.getElem?_cons_zero]; rfl) (by kernel_rfl) (by kernel_rfl) (by kernel_rfl) (fun _ _ _ h => h) (Or.inl ⟨by rfl, ?_⟩) (by assumption) ?_
            rotate_left
            · (intro w hSw; (try dsimp only at hSw); go_simp; try with_reducible rfl)
            try simp only [Act.put, List.setIfInBounds_toArray, List.set_cons_zero, List.set_cons_succ]
            refine wpAnyH_ready (rs := [12]) (by kernel_rfl) (by simp) ?_
            refine AllReadyH.cons (by simp only [List.getElem?_toArray, List.getElem?_cons_succ, List.getElem?_cons_zero]; rfl) (fun K hK => ?_) AllReadyH.nil
            go_simp
            go_at_call 17
            refine (Shard.refOf_any q _ (by have := HFK.out; omega)).mono ?_
            rintro e v9 ⟨rfl, k9⟩
            have IC := Lib.hid ((IB.out.below (Below.drew (Below.refl _ _))).below k9)
            have KC := Lib.hid ((KL.out.below (Below.drew (Below.refl _ _))).below k9)
            go_wp2_with fail
            refine hK.out _ _ (Dots.keepC hHeld k9) (fun hHeld => ?_)
            clear hK K
            try simp only [Act.put, List.setIfInBounds_toArray, List.set_cons_zero, List.set_cons_succ]
            refine wpAnyH_take (i := 14) (v := ?_) (by simp only [List.getElem?_toArray, List.getElem?_cons_succ, List.getElem?_cons_zero]; rfl) (by kernel_rfl) (by kernel_rfl) (by kernel_rfl) (fun _ _ _ h => h) (Or.inl ⟨by rfl, ?_⟩) (by assumption) ?_
            rotate_left
            · (intro w hSw; (try dsimp only at hSw); go_simp; try with_reducible rfl)
            try simp only [Act.put, List.setIfInBounds_toArray, List.set_cons_zero, List.set_cons_succ]
            refine wpAnyH_take (i := 15) (v := ?_) (by simp only [List.getElem?_toArray, List.getElem?_cons_succ, List.getElem?_cons_zero]; rfl) (by kernel_rfl) (by kernel_rfl) (by kernel_rfl) (fun _ _ _ h => h) (Or.inl ⟨by rfl, ?_⟩) (by assumption) ?_
            rotate_left
            · (intro w hSw; (try dsimp only at hSw); go_simp; try with_reducible rfl)
            try simp only [Act.put, List.setIfInBounds_toArray, List.set_cons_zero, List.set_cons_succ]
            refine wpAnyH_take (i := 16) (v := ?_) (by simp only [List.getElem?_toArray, List.getElem?_cons_succ, List.getElem?_cons_zero]; rfl) (by kernel_rfl) (by kernel_rfl) (by kernel_rfl) (fun _ _ _ h => h) (Or.inl ⟨by rfl, ?_⟩) (by assumption) ?_
            rotate_left
            · (intro w hSw; (try dsimp only at hSw); go_simp; try with_reducible rfl)
            try simp only [Act.put, List.setIfInBounds_toArray, List.set_cons_zero, List.set_cons_succ]
            refine wpAnyH_take (i := 17) (v := ?_) (by simp only [List.getElem?_toArray, List.getElem?_cons_succ, List.getElem?_cons_zero]; rfl) (by kernel_rfl) (by kernel_rfl) (by kernel_rfl) (fun _ _ _ h => h) (Or.inl ⟨by rfl, ?_⟩) (by assumption) ?_
            rotate_left
            · (intro w hSw; (try dsimp only at hSw); go_simp; try with_reducible rfl)
            try simp only [Act.put, List.setIfInBounds_toArray, List.set_cons_zero, List.set_cons_succ]
            refine wpAnyH_take (i := 18) (v := ?_) (by simp only [List.getElem?_toArray, List.getElem?_cons_succ, List.getElem?_cons_zero]; rfl) (by kernel_rfl) (by kernel_rfl) (by kernel_rfl) (fun _ _ _ h => h) (Or.inl ⟨by rfl, ?_⟩) (by assumption) ?_
            rotate_left
            · (intro w hSw; (try dsimp only at hSw); go_simp; try with_reducible rfl)
            try simp only [Act.put, List.setIfInBounds_toArray, List.set_cons_zero, List.set_cons_succ]
            refine wpAnyH_take (i := 19) (v := ?_) (by simp only [List.getElem?_toArray, List.getElem?_cons_succ, List.getElem?_cons_zero]; rfl) (by kernel_rfl) (by kernel_rfl) (by kernel_rfl) (fun _ _ _ h => h) (Or.inl ⟨by rfl, ?_⟩) (by assumption) ?_
            rotate_left
            · (intro w hSw; (try dsimp only at hSw); go_simp; try with_reducible rfl)
            try simp only [Act.put, List.setIfInBounds_toArray, List.set_cons_zero, List.set_cons_succ]
            refine wpAnyH_take (i := 20) (v := undef) (by simp only [List.getElem?_toArray, List.getElem?_cons_succ, List.getElem?_cons_zero]; rfl) (by kernel_rfl) (by kernel_rfl) (by kernel_rfl) (fun _ _ _ h => h) (Or.inr ⟨by rfl, rfl⟩) (by assumption) ?_
            try simp only [Act.put, List.setIfInBounds_toArray, List.set_cons_zero, List.set_cons_succ]
            refine wpAnyH_take (i := 21) (v := undef) (by simp only [List.getElem?_toArray, List.getElem?_cons_succ, List.getElem?_cons_zero]; rfl) (by kernel_rfl) (by kernel_rfl) (by kernel_rfl) (fun _ _ _ h => h) (Or.inr ⟨by rfl, rfl⟩) (by assumption) ?_
            try simp only [Act.put, List.setIfInBounds_toArray, List.set_cons_zero, List.set_cons_succ]
            refine wpAnyH_take (i := 22) (v := undef) (by simp only [List.getElem?_toArray, List.getElem?_cons_succ, List.getElem?_cons_zero]; rfl) (by kernel_rfl) (by kernel_rfl) (by kernel_rfl) (fun _ _ _ h => h) (Or.inr ⟨by rfl, rfl⟩) (by assumption) ?_
            try simp only [Act.put, List.setIfInBounds_toArray, List.set_cons_zero, List.set_cons_succ]
            refine wpAnyH_take (i := 23) (v := undef) (by simp only [List.getElem?_toArray, List.getElem?_cons_succ, List.getElem?_cons_zero]; rfl) (by kernel_rfl) (by kernel_rfl) (by kernel_rfl) (fun _ _ _ h => h) (Or.inr ⟨by rfl, rfl⟩) (by assumption) ?_
            try simp only [Act.put, List.setIfInBounds_toArray, List.set_cons_zero, List.set_cons_succ]
            refine wpAnyH_take (i := 24) (v := undef) (by simp only [List.getElem?_toArray, List.getElem?_cons_succ, List.getElem?_cons_zero]; rfl) (by kernel_rfl) (by kernel_rfl) (by kernel_rfl) (fun _ _ _ h => h) (Or.inr ⟨by rfl, rfl⟩) (by assumption) ?_
            try simp only [Act.put, List.setIfInBounds_toArray, List.set_cons_zero, List.set_cons_succ]
            refine wpAnyH_take (i := 25) (v := undef) (by simp only [List.getElem?_toArray, List.getElem?_cons_succ, List.getElem?_cons_zero]; rfl) (by kernel_rfl) (by kernel_rfl) (by kernel_rfl) (fun _ _ _ h => h) (Or.inr ⟨by rfl, rfl⟩) (by assumption) ?_
            try simp only [Act.put, List.setIfInBounds_toArray, List.set_cons_zero, List.set_cons_succ]
            refine wpAnyH_take (i := 26) (v := undef) (by simp only [List.getElem?_toArray, List.getElem?_cons_succ, List.getElem?_cons_zero]; rfl) (by kernel_rfl) (by kernel_rfl) (by kernel_rfl) (fun _ _ _ h => h) (Or.inr ⟨by rfl, rfl⟩) (by assumption) ?_
            try simp only [Act.put, List.setIfInBounds_toArray, List.set_cons_zero, List.set_cons_succ]
            refine wpAnyH_take (i := 27) (v := undef) (by simp only [List.getElem?_toArray, List.getElem?_cons_succ, List.getElem?_cons_zero]; rfl) (by kernel_rfl) (by kernel_rfl) (by kernel_rfl) (fun _ _ _ h => h) (Or.inr ⟨by rfl, rfl⟩) (by assumption) ?_
            try simp only [Act.put, List.setIfInBounds_toArray, List.set_cons_zero, List.set_cons_succ]
            refine wpAnyH_take (i := 28) (v := undef) (by simp only [List.getElem?_toArray, List.getElem?_cons_succ, List.getElem?_cons_zero]; rfl) (by kernel_rfl) (by kernel_rfl) (by kernel_rfl) (fun _ _ _ h => h) (Or.inr ⟨by rfl, rfl⟩) (by assumption) ?_
            try simp only [Act.put, List.setIfInBounds_toArray, List.set_cons_zero, List.set_cons_succ]
            refine wpAnyH_take (i := 29) (v := undef) (by simp only [List.getElem?_toArray, List.getElem?_cons_succ, List.getElem?_cons_zero]; rfl) (by kernel_rfl) (by kernel_rfl) (by kernel_rfl) (fun _ _ _ h => h) (Or.inr ⟨by rfl, rfl⟩) (by assumption) ?_
            try simp only [Act.put, List.setIfInBounds_toArray, List.set_cons_zero, List.set_cons_succ]
            refine wpAnyH_take (i := 30) (v := ?_) (by simp only [List.getElem?_toArray, List.getElem?_cons_succ, List.getElem?_cons_zero]; rfl) (by kernel_rfl) (by kernel_rfl) (by kernel_rfl) (fun _ _ _ h => h) (Or.inl ⟨by rfl, ?_⟩) (by assumption) ?_
            rotate_left
            · (intro w hSw; (try dsimp only at hSw); go_simp; try with_reducible rfl)
            try simp only [Act.put, List.setIfInBounds_toArray, List.set_cons_zero, List.set_cons_succ]
            refine wpAnyH_take (i := 31) (v := ?_) (by simp only [List.getElem?_toArray, List.getElem?_cons_succ, List.getElem?_cons_zero]; rfl) (by kernel_rfl) (by kernel_rfl) (by kernel_rfl) (fun _ _ _ h => h) (Or.inl ⟨by rfl, ?_⟩) (by assumption) ?_
            rotate_left
            · (intro w hSw; (try dsimp only at hSw); go_simp; try with_reducible rfl)
            try simp only [Act.put, List.setIfInBounds_toArray, List.set_cons_zero, List.set_cons_succ]
            refine wpAnyH_done (by kernel_rfl) ?_ _
            refine NoPanic.normal ?_
            clear hHeld hx k9
            go_wp2
            have hjw : wrap64 ((j : Int) + 1) = ((j + 1 : Nat) : Int) := by have := HJ.out; have := HC.out; unfold wrap64; omega
            go_roundw
            case rel => exact ⟨j + 1, by have := HJ.out; omega, by rw [hjw], IC, KC⟩
            case measure => rw [hjw]; have := HJ.out; simp only [intOf]; omega
          · obtain ⟨f, hf⟩ : ∃ f, j = f + 1 := ⟨j - 1, by omega⟩
            have hx2 := hcell f (by omega)
            have hri : ks[f]'(by omega) < ks[j] := by
              have e := HKS.out.1
              subst e
              subst hf
              exact items_rise IB.out.up hjl
            obtain ⟨p, hp⟩ : ∃ p, p = ks[f]'(by omega) := ⟨_, rfl⟩
            rw [← hq] at hri
            rw [← hp] at hx2 hri
            obtain ⟨u1, u2, u3, u4⟩ := less_of hri
            have d3 : decide ((j : Int) > 0) = true := decide_eq_true (by omega)
            have d4 : decide ((0 : Int) < (j : Int)) = true := decide_eq_true (by omega)
            have d5 : decide (0 < j) = true := decide_eq_true (by omega)
            have w5 : IntKind.i64.wrap ((j : Int) - 1) = (f : Int) := by rw [IntKind.wrap_i64]; have := HC.out; omega
            have j3 : (0 : Int) ≤ (f : Int) := by omega
            have j4 : (f : Int) < (m : Int) := by omega
            clear hik hfk hq hp hri hcell hjm hj0 hf hjl
            go_wp2_with fail
            refine wp_region_noPanic ?_
            refine wp_region_held_drew (S := (fun w' => w'.cell? ⟨b, o + j, none⟩ = some (.string ⟨q.toArray⟩) ∧ w'.cell? ⟨b, o + f, none⟩ = some (.string ⟨p.toArray⟩))) (by kernel_rfl) (⟨Dots.keepC hx (Below.drew (Below.refl _ _)), Dots.keepC hx2 (Below.drew (Below.refl _ _))⟩) (fun hHeld => ?_)
            refine wpAnyH_take (i := 0) (v := ?_) (by simp only [List.getElem?_toArray, List.getElem?_cons_zero]; rfl) (by kernel_rfl) (by kernel_rfl) (by kernel_rfl) (fun _ _ _ h => h) (Or.inl ⟨by rfl, ?_⟩) (by assumption) ?_
            rotate_left
            · (intro w hSw; (try dsimp only at hSw); go_simp; try with_reducible rfl)
            try simp only [Act.put, List.setIfInBounds_toArray, List.set_cons_zero, List.set_cons_succ]
            refine wpAnyH_take (i := 1) (v := ?_) (by simp only [List.getElem?_toArray, List.getElem?_cons_succ, List.getElem?_cons_zero]; rfl) (by kernel_rfl) (by kernel_rfl) (by kernel_rfl) (fun _ _ _ h => h) (Or.inl ⟨by rfl, ?_⟩) (by assumption) ?_
            rotate_left
            · (intro w hSw; (try dsimp only at hSw); go_simp; try with_reducible rfl)
            try simp only [Act.put, List.setIfInBounds_toArray, List.set_cons_zero, List.set_cons_succ]
            refine wpAnyH_take (i := 2) (v := ?_) (by simp only [List.getElem?_toArray, List.getElem?_cons_succ, List.getElem?_cons_zero]; rfl) (by kernel_rfl) (by kernel_rfl) (by kernel_rfl) (fun _ _ _ h => h) (Or.inl ⟨by rfl, ?_⟩) (by assumption) ?_
            rotate_left
            · (intro w hSw; (try dsimp only at hSw); go_simp; try with_reducible rfl)
            try simp only [Act.put, List.setIfInBounds_toArray, List.set_cons_zero, List.set_cons_succ]
            refine wpAnyH_take (i := 3) (v := ?_) (by simp only [List.getElem?_toArray, List.getElem?_cons_succ, List.getElem?_cons_zero]; rfl) (by kernel_rfl) (by kernel_rfl) (by kernel_rfl) (fun _ _ _ h => h) (Or.inl ⟨by rfl, ?_⟩) (by assumption) ?_
            rotate_left
            · (intro w hSw; (try dsimp only at hSw); go_simp; try with_reducible rfl)
            try simp only [Act.put, List.setIfInBounds_toArray, List.set_cons_zero, List.set_cons_succ]
            refine wpAnyH_take (i := 4) (v := ?_) (by simp only [List.getElem?_toArray, List.getElem?_cons_succ, List.getElem?_cons_zero]; rfl) (by kernel_rfl) (by kernel_rfl) (by kernel_rfl) (fun _ _ _ h => h) (Or.inl ⟨by rfl, ?_⟩) (by assumption) ?_
            rotate_left
            · (intro w hSw; (try dsimp only at hSw); go_simp; try with_reducible rfl)
            try simp only [Act.put, List.setIfInBounds_toArray, List.set_cons_zero, List.set_cons_succ]
            refine wpAnyH_ready (rs := [5]) (by kernel_rfl) (by simp) ?_
            refine AllReadyH.cons (by simp only [List.getElem?_toArray, List.getElem?_cons_succ, List.getElem?_cons_zero]; rfl) (fun K hK => ?_) AllReadyH.nil
            go_simp
            go_at_call 32
            refine (atr (IB.out.below (Below.drew (Below.refl _ _))) q HIK.out.1).mono ?_
            rintro e v8 ⟨r8, rfl, hr8, rfl⟩
            have d8 : decide (r8 < 0) = false := decide_eq_false (by omega)
            clear hr8
            go_wp2_with fail
            refine hK.out _ _ (hHeld) (fun hHeld => ?_)
            clear hK K
            try simp only [Act.put, List.setIfInBounds_toArray, List.set_cons_zero, List.set_cons_succ]
            refine wpAnyH_take (i := 6) (v := ?_) (by simp only [List.getElem?_toArray, List.getElem?_cons_succ, List.getElem?_cons_zero]; rfl) (by kernel_rfl) (by kernel_rfl) (by kernel_rfl) (fun _ _ _ h => h) (Or.inl ⟨by rfl, ?_⟩) (by assumption) ?_
            rotate_left
            · (intro w hSw; (try dsimp only at hSw); go_simp; try with_reducible rfl)
            try simp only [Act.put, List.setIfInBounds_toArray, List.set_cons_zero, List.set_cons_succ]
            refine wpAnyH_take (i := 7) (v := ?_) (by simp only [List.getElem?_toArray, List.getElem?_cons_succ, List.getElem?_cons_zero]; rfl) (by kernel_rfl) (by kernel_rfl) (by kernel_rfl) (fun _ _ _ h => h) (Or.inl ⟨by rfl, ?_⟩) (by assumption) ?_
            rotate_left
            · (intro w hSw; (try dsimp only at hSw); go_simp; try with_reducible rfl)
            try simp only [Act.put, List.setIfInBounds_toArray, List.set_cons_zero, List.set_cons_succ]
            refine wpAnyH_take (i := 8) (v := ?_) (by simp only [List.getElem?_toArray, List.getElem?_cons_succ, List.getElem?_cons_zero]; rfl) (by kernel_rfl) (by kernel_rfl) (by kernel_rfl) (fun _ _ _ h => h) (Or.inl ⟨by rfl, ?_⟩) (by assumption) ?_
            rotate_left
            · (intro w hSw; (try dsimp only at hSw); go_simp; try with_reducible rfl)
            try simp only [Act.put, List.setIfInBounds_toArray, List.set_cons_zero, List.set_cons_succ]
            refine wpAnyH_take (i := 9) (v := ?_) (by simp only [List.getElem?_toArray, List.getElem?_cons_succ, List.getElem?_cons_zero]; rfl) (by kernel_rfl) (by kernel_rfl) (by kernel_rfl) (fun _ _ _ h => h) (Or.inl ⟨by rfl, ?_⟩) (by assumption) ?_
            rotate_left
            · (intro w hSw; (try dsimp only at hSw); go_simp; try with_reducible rfl)
            try simp only [Act.put, List.setIfInBounds_toArray, List.set_cons_zero, List.set_cons_succ]
            refine wpAnyH_take (i := 10) (v := ?_) (by simp only [List.getElem?_toArray, List.getElem?_cons_succ, List.getElem?_cons_zero]; rfl) (by kernel_rfl) (by kernel_rfl) (by kernel_rfl) (fun _ _ _ h => h) (Or.inl ⟨by rfl, ?_⟩) (by assumption) ?_
            rotate_left
            · (intro w hSw; (try dsimp only at hSw); go_simp; try with_reducible rfl)
            try simp only [Act.put, List.setIfInBounds_toArray, List.set_cons_zero, List.set_cons_succ]
            refine wpAnyH_take (i := 11) (v := ?_) (by simp only [List.getElem?_toArray, List.getElem?_cons_succ, List.getElem?_cons_zero]; rfl) (by kernel_rfl) (by kernel_rfl) (by kernel_rfl) (fun _ _ _ h => h) (Or.inl ⟨by rfl, ?_⟩) (by assumption) ?_
            rotate_left
            · (intro w hSw; (try dsimp only at hSw); go_simp; try with_reducible rfl)
            try simp only [Act.put, List.setIfInBounds_toArray, List.set_cons_zero, List.set_cons_succ]
            refine wpAnyH_take (i := 13) (v := ?_) (by simp only [List.getElem?_toArray, List.getElem?_cons_succ, List.getElem?_cons_zero]; rfl) (by kernel_rfl) (by kernel_rfl) (by kernel_rfl) (fun _ _ _ h => h) (Or.inl ⟨by rfl, ?_⟩) (by assumption) ?_
            rotate_left
            · (intro w hSw; (try dsimp only at hSw); go_simp; try with_reducible rfl)
            try simp only [Act.put, List.setIfInBounds_toArray, List.set_cons_zero, List.set_cons_succ]
            refine wpAnyH_ready (rs := [12]) (by kernel_rfl) (by simp) ?_
            refine AllReadyH.cons (by simp only [List.getElem?_toArray, List.getElem?_cons_succ, List.getElem?_cons_zero]; rfl) (fun K hK => ?_) AllReadyH.nil
            go_simp
            go_at_call 17
            refine (Shard.refOf_any q _ (by have := HFK.out; omega)).mono ?_
            rintro e v9 ⟨rfl, k9⟩
            have IC := Lib.hid ((IB.out.below (Below.drew (Below.refl _ _))).below k9)
            have KC := Lib.hid ((KL.out.below (Below.drew (Below.refl _ _))).below k9)
            go_wp2_with fail
            refine hK.out _ _ (⟨Dots.keepC hHeld.1 k9, Dots.keepC hHeld.2 k9⟩) (fun hHeld => ?_)
            clear hK K
            try simp only [Act.put, List.setIfInBounds_toArray, List.set_cons_zero, List.set_cons_succ]
            refine wpAnyH_take (i := 14) (v := ?_) (by simp only [List.getElem?_toArray, List.getElem?_cons_succ, List.getElem?_cons_zero]; rfl) (by kernel_rfl) (by kernel_rfl) (by kernel_rfl) (fun _ _ _ h => h) (Or.inl ⟨by rfl, ?_⟩) (by assumption) ?_
            rotate_left
            · (intro w hSw; (try dsimp only at hSw); go_simp; try with_reducible rfl)
            try simp only [Act.put, List.setIfInBounds_toArray, List.set_cons_zero, List.set_cons_succ]
            refine wpAnyH_take (i := 15) (v := ?_) (by simp only [List.getElem?_toArray, List.getElem?_cons_succ, List.getElem?_cons_zero]; rfl) (by kernel_rfl) (by kernel_rfl) (by kernel_rfl) (fun _ _ _ h => h) (Or.inl ⟨by rfl, ?_⟩) (by assumption) ?_
            rotate_left
            · (intro w hSw; (try dsimp only at hSw); go_simp; try with_reducible rfl)
            try simp only [Act.put, List.setIfInBounds_toArray, List.set_cons_zero, List.set_cons_succ]
            refine wpAnyH_take (i := 16) (v := ?_) (by simp only [List.getElem?_toArray, List.getElem?_cons_succ, List.getElem?_cons_zero]; rfl) (by kernel_rfl) (by kernel_rfl) (by kernel_rfl) (fun _ _ _ h => h) (Or.inl ⟨by rfl, ?_⟩) (by assumption) ?_
            rotate_left
            · (intro w hSw; (try dsimp only at hSw); go_simp; try with_reducible rfl)
            try simp only [Act.put, List.setIfInBounds_toArray, List.set_cons_zero, List.set_cons_succ]
            refine wpAnyH_take (i := 17) (v := ?_) (by simp only [List.getElem?_toArray, List.getElem?_cons_succ, List.getElem?_cons_zero]; rfl) (by kernel_rfl) (by kernel_rfl) (by kernel_rfl) (fun _ _ _ h => h) (Or.inl ⟨by rfl, ?_⟩) (by assumption) ?_
            rotate_left
            · (intro w hSw; (try dsimp only at hSw); go_simp; try with_reducible rfl)
            try simp only [Act.put, List.setIfInBounds_toArray, List.set_cons_zero, List.set_cons_succ]
            refine wpAnyH_take (i := 18) (v := ?_) (by simp only [List.getElem?_toArray, List.getElem?_cons_succ, List.getElem?_cons_zero]; rfl) (by kernel_rfl) (by kernel_rfl) (by kernel_rfl) (fun _ _ _ h => h) (Or.inl ⟨by rfl, ?_⟩) (by assumption) ?_
            rotate_left
            · (intro w hSw; (try dsimp only at hSw); go_simp; try with_reducible rfl)
            try simp only [Act.put, List.setIfInBounds_toArray, List.set_cons_zero, List.set_cons_succ]
            refine wpAnyH_take (i := 19) (v := ?_) (by simp only [List.getElem?_toArray, List.getElem?_cons_succ, List.getElem?_cons_zero]; rfl) (by kernel_rfl) (by kernel_rfl) (by kernel_rfl) (fun _ _ _ h => h) (Or.inl ⟨by rfl, ?_⟩) (by assumption) ?_
            rotate_left
            · (intro w hSw; (try dsimp only at hSw); go_simp; try with_reducible rfl)
            try simp only [Act.put, List.setIfInBounds_toArray, List.set_cons_zero, List.set_cons_succ]
            refine wpAnyH_take (i := 20) (v := ?_) (by simp only [List.getElem?_toArray, List.getElem?_cons_succ, List.getElem?_cons_zero]; rfl) (by kernel_rfl) (by kernel_rfl) (by kernel_rfl) (fun _ _ _ h => h) (Or.inl ⟨by rfl, ?_⟩) (by assumption) ?_
            rotate_left
            · (intro w hSw; (try dsimp only at hSw); go_simp; try with_reducible rfl)
            try simp only [Act.put, List.setIfInBounds_toArray, List.set_cons_zero, List.set_cons_succ]
            refine wpAnyH_take (i := 21) (v := ?_) (by simp only [List.getElem?_toArray, List.getElem?_cons_succ, List.getElem?_cons_zero]; rfl) (by kernel_rfl) (by kernel_rfl) (by kernel_rfl) (fun _ _ _ h => h) (Or.inl ⟨by rfl, ?_⟩) (by assumption) ?_
            rotate_left
            · (intro w hSw; (try dsimp only at hSw); go_simp; try with_reducible rfl)
            try simp only [Act.put, List.setIfInBounds_toArray, List.set_cons_zero, List.set_cons_succ]
            refine wpAnyH_take (i := 22) (v := ?_) (by simp only [List.getElem?_toArray, List.getElem?_cons_succ, List.getElem?_cons_zero]; rfl) (by kernel_rfl) (by kernel_rfl) (by kernel_rfl) (fun _ _ _ h => h) (Or.inl ⟨by rfl, ?_⟩) (by assumption) ?_
            rotate_left
            · (intro w hSw; (try dsimp only at hSw); go_simp; try with_reducible rfl)
            try simp only [Act.put, List.setIfInBounds_toArray, List.set_cons_zero, List.set_cons_succ]
            refine wpAnyH_take (i := 23) (v := ?_) (by simp only [List.getElem?_toArray, List.getElem?_cons_succ, List.getElem?_cons_zero]; rfl) (by kernel_rfl) (by kernel_rfl) (by kernel_rfl) (fun _ _ _ h => h) (Or.inl ⟨by rfl, ?_⟩) (by assumption) ?_
            rotate_left
            · (intro w hSw; (try dsimp only at hSw); go_simp; try with_reducible rfl)
            try simp only [Act.put, List.setIfInBounds_toArray, List.set_cons_zero, List.set_cons_succ]
            refine wpAnyH_take (i := 24) (v := ?_) (by simp only [List.getElem?_toArray, List.getElem?_cons_succ, List.getElem?_cons_zero]; rfl) (by kernel_rfl) (by kernel_rfl) (by kernel_rfl) (fun _ _ _ h => h) (Or.inl ⟨by rfl, ?_⟩) (by assumption) ?_
            rotate_left
            · (intro w hSw; (try dsimp only at hSw); go_simp; try with_reducible rfl)
            try simp only [Act.put, List.setIfInBounds_toArray, List.set_cons_zero, List.set_cons_succ]
            refine wpAnyH_take (i := 25) (v := ?_) (by simp only [List.getElem?_toArray, List.getElem?_cons_succ, List.getElem?_cons_zero]; rfl) (by kernel_rfl) (by kernel_rfl) (by kernel_rfl) (fun _ _ _ h => h) (Or.inl ⟨by rfl, ?_⟩) (by assumption) ?_
            rotate_left
            · (intro w hSw; (try dsimp only at hSw); go_simp; try with_reducible rfl)
            try simp only [Act.put, List.setIfInBounds_toArray, List.set_cons_zero, List.set_cons_succ]
            refine wpAnyH_take (i := 26) (v := ?_) (by simp only [List.getElem?_toArray, List.getElem?_cons_succ, List.getElem?_cons_zero]; rfl) (by kernel_rfl) (by kernel_rfl) (by kernel_rfl) (fun _ _ _ h => h) (Or.inl ⟨by rfl, ?_⟩) (by assumption) ?_
            rotate_left
            · (intro w hSw; (try dsimp only at hSw); go_simp; try with_reducible rfl)
            try simp only [Act.put, List.setIfInBounds_toArray, List.set_cons_zero, List.set_cons_succ]
            refine wpAnyH_take (i := 27) (v := ?_) (by simp only [List.getElem?_toArray, List.getElem?_cons_succ, List.getElem?_cons_zero]; rfl) (by kernel_rfl) (by kernel_rfl) (by kernel_rfl) (fun _ _ _ h => h) (Or.inl ⟨by rfl, ?_⟩) (by assumption) ?_
            rotate_left
            · (intro w hSw; (try dsimp only at hSw); go_simp; try with_reducible rfl)
            try simp only [Act.put, List.setIfInBounds_toArray, List.set_cons_zero, List.set_cons_succ]
            refine wpAnyH_take (i := 28) (v := ?_) (by simp only [List.getElem?_toArray, List.getElem?_cons_succ, List.getElem?_cons_zero]; rfl) (by kernel_rfl) (by kernel_rfl) (by kernel_rfl) (fun _ _ _ h => h) (Or.inl ⟨by rfl, ?_⟩) (by assumption) ?_
            rotate_left
            · (intro w hSw; (try dsimp only at hSw); go_simp; try with_reducible rfl)
            try simp only [Act.put, List.setIfInBounds_toArray, List.set_cons_zero, List.set_cons_succ]
            refine wpAnyH_take (i := 29) (v := ?_) (by simp only [List.getElem?_toArray, List.getElem?_cons_succ, List.getElem?_cons_zero]; rfl) (by kernel_rfl) (by kernel_rfl) (by kernel_rfl) (fun _ _ _ h => h) (Or.inl ⟨by rfl, ?_⟩) (by assumption) ?_
            rotate_left
            · (intro w hSw; (try dsimp only at hSw); go_simp; try with_reducible rfl)
            try simp only [Act.put, List.setIfInBounds_toArray, List.set_cons_zero, List.set_cons_succ]
            refine wpAnyH_take (i := 30) (v := ?_) (by simp only [List.getElem?_toArray, List.getElem?_cons_succ, List.getElem?_cons_zero]; rfl) (by kernel_rfl) (by kernel_rfl) (by kernel_rfl) (fun _ _ _ h => h) (Or.inl ⟨by rfl, ?_⟩) (by assumption) ?_
            rotate_left
            · (intro w hSw; (try dsimp only at hSw); go_simp; try with_reducible rfl)
            try simp only [Act.put, List.setIfInBounds_toArray, List.set_cons_zero, List.set_cons_succ]
            refine wpAnyH_take (i := 31) (v := ?_) (by simp only [List.getElem?_toArray, List.getElem?_cons_succ, List.getElem?_cons_zero]; rfl) (by kernel_rfl) (by kernel_rfl) (by kernel_rfl) (fun _ _ _ h => h) (Or.inl ⟨by rfl, ?_⟩) (by assumption) ?_
            rotate_left
            · (intro w hSw; (try dsimp only at hSw); go_simp; try with_reducible rfl)
            try simp only [Act.put, List.setIfInBounds_toArray, List.set_cons_zero, List.set_cons_succ]
            refine wpAnyH_done (by kernel_rfl) ?_ _
            refine NoPanic.normal ?_
            clear hHeld hx hx2 k9
            go_wp2
            have hjw : wrap64 ((j : Int) + 1) = ((j + 1 : Nat) : Int) := by have := HJ.out; have := HC.out; unfold wrap64; omega
            go_roundw
            case rel => exact ⟨j + 1, by have := HJ.out; omega, by rw [hjw], IC, KC⟩
            case measure => rw [hjw]; have := HJ.out; simp only [intOf]; omega
      obtain rfl : i = 16 := by omega
      have d1 : decide (((16 : Nat) : Int) < 16) = false := by decide
      rw [cnt_all]
      obtain ⟨ra, rc, hrc⟩ := lenr IB.out
      obtain ⟨ln, hln⟩ : ∃ n, n = l.length := ⟨_, rfl⟩
      rw [← hln] at hrc ⊢
      have q9 : ((ln : Int) == (ln : Int)) = true := by simp
      clear hln hlt hi
      go_wp2_with fail
      refine (works_any _ (HT.out.below IB.out.hb)).mono ?_
      rintro e vw ⟨rfl, kw⟩
      have hb := bstep IB.out.hb kw
      go_wp2
      go_ret
      exact ⟨rfl, hb⟩
end TreePlays
end Go.Proofs.YtjnlooccddnbkaaGreatDoor
