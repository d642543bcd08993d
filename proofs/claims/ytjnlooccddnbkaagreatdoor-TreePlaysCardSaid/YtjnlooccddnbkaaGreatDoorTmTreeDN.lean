/- Merged texts: TreeDig, TreeNode. -/
import Derived.Test.YtjnlooccddnbkaaGreatDoorTmTreeIter
import Derived.Test.YtjnlooccddnbkaaGreatDoorTmSha
import Derived.Test.YtjnlooccddnbkaaGreatDoorTmWire
namespace Go.Proofs.YtjnlooccddnbkaaGreatDoor
namespace Tree
open Go.RowKit Go.Shelf Go.Maps Go.Sort Go.Proofs.YtjnlooccddnbkaaGreatDoor.Mark Go.Proofs.YtjnlooccddnbkaaGreatDoor.Dots
attribute [local go_sem] Oper.semAt_some
set_option maxRecDepth 100000 in
/-- The digest of a byte 1, a, and b. -/
theorem pair_any (a b : List UInt8) (w : World) (ht : Sha.Tabs w) (ha : a.length ≤ 1099511627776) (hb : b.length ≤ 1099511627776) :
    Calls Tryz.prog 24 #[.string ⟨a.toArray⟩, .string ⟨b.toArray⟩] w fun e w' => e = .returned (.string ⟨(Sha.of (1 :: (a ++ b))).toArray⟩) ∧ Below w.heap.size w w' := by
  have HT := Lib.hid ht
  have e3 : [[1], a, b].flatten = 1 :: (a ++ b) := by simp
  have A := Lib.hid (fun W (h : Words.Lies W (some ⟨w.heap.size, 0, none⟩) 3 [[1], a, b]) (hT : Sha.Tabs W) => Sha.of_any (some ⟨w.heap.size, 0, none⟩) 3 3 [[1], a, b] W h hT (by rw [e3, List.length_cons, List.length_append]; omega) (by decide))
  rw [e3] at A
  have HL : Hid (Words.Lies (w.alloc (.cells #[.string ⟨[1].toArray⟩, .string ⟨a.toArray⟩, .string ⟨b.toArray⟩] 9)) (some ⟨w.heap.size, 0, none⟩) 3 [[1], a, b]) := Lib.hid (Words.Lies.of_cells (L := [[1], a, b]) (fun j hj => by
    rw [World.cell?_alloc_new, Nat.zero_add]
    match j, hj with
    | 0, _ => rfl
    | 1, _ => rfl
    | 2, _ => rfl))
  clear ht e3
  go_enter Tryz.func24, Tryz.ntmps24
  go_wp2_with fail
  refine (A.out _ HL.out (HT.out.below (balloc (Below.refl _ _) _))).mono ?_
  rintro e w1 ⟨rfl, k1⟩
  go_wp2
  go_ret
  exact ⟨rfl, bstep (balloc (Below.refl _ _) _) k1⟩
theorem keepC {w w' : World} {p : Addr} {v : Value} (h : w.cell? p = some v) {B : Nat} (k : Below B w w') (hB : B = w.heap.size := by rfl) : w'.cell? p = some v := by
  subst hB
  exact (k.cell (World.block_lt_of_cell? _ _ h)).trans h
theorem keepsOthers_but {b : Nat} {W W' : World} (k : But b W W') (hc : ∃ cs t fr, W.heap[b]? = some (.cells cs t fr)) : KeepsOthers W W' := by
  refine ⟨k.size, fun j o hj ho => ?_⟩
  have hjb : j ≠ b := fun e => by
    obtain ⟨cs, t, fr, hc⟩ := hc
    rw [e, hc] at hj
    cases hj; cases ho
  rw [k.block j (Array.getElem?_eq_some_iff.1 hj).1 hjb]; exact hj
theorem keepsOthers_below {W W' : World} (k : Below W.heap.size W W') : KeepsOthers W W' := ⟨k.size, fun j o hj _ => by rw [k.block j (Array.getElem?_eq_some_iff.1 hj).1]; exact hj⟩
theorem hi_own (b : Nat) (l : List UInt8) : Go.Own (fun (_ : Unit) W => Sha.HI W b l) := fun s X Y row hs hg hrow => by
  obtain ⟨bk, h1, h2⟩ := hs
  have hx := h1.1
  refine ⟨bk, h1.block (hg.block b h1.lt fun e => ?_), h2⟩
  obtain ⟨o, ho, hc⟩ := hrow b e.symm
  rw [hx] at ho; cases ho; cases hc
theorem hi_own1 {α : Type} (b : Nat) (f : List α → List UInt8) : Go.Own (fun (pre : List α) W => Sha.HI W b (f pre)) := fun s X Y row hs hg hrow => hi_own b (f s) () X Y row hs hg hrow
theorem hi_cells {W : World} {b : Nat} {l : List UInt8} (h : Sha.HI W b l) : ∃ cs t fr, W.heap[b]? = some (.cells cs t fr) := by
  obtain ⟨bk, h1, _⟩ := h
  exact ⟨_, _, _, h1.1⟩
/-- What a key has, in a block. -/
def Bx {w0 : World} {l : List It} (W : World) (B : Nat) (x : Got w0 l) : Prop := W.heap[B]? = some (.cells #[.string ⟨x.it.b.toArray⟩, .slice x.a x.it.s.length x.c] 73 (0, 0))
theorem bx_own {w0 : World} {l : List It} (B : Nat) (x : Got w0 l) : Go.Own (fun (_ : Unit) W => Bx W B x) := fun s X Y row hs hg hrow => by
  refine (hg.block B (Array.getElem?_eq_some_iff.1 hs).1 fun e => ?_).trans hs
  obtain ⟨o, ho, hc⟩ := hrow B e.symm
  rw [show X.heap[B]? = _ from hs] at ho; cases ho; cases hc
theorem Bx.cells {w0 : World} {l : List It} {W : World} {B : Nat} {x : Got w0 l} (h : Bx W B x) : W.cell? ⟨B, 0, none⟩ = some (.string ⟨x.it.b.toArray⟩) ∧ W.cell? ⟨B, 1, none⟩ = some (.slice x.a x.it.s.length x.c) := by
  unfold Bx at h
  refine ⟨?_, ?_⟩ <;> simp [World.cell?, h]
def tx (x : It) : List UInt8 := Wire.tcat [⟨x.k.toArray⟩, ⟨x.b.toArray⟩]
theorem tx_length (x : It) : (tx x).length ≤ x.k.length + x.b.length + 20 := by
  unfold tx
  have h1 := (Wire.one_length ⟨x.k.toArray⟩).2
  have h2 := (Wire.one_length ⟨x.b.toArray⟩).2
  rw [Str.size_mk] at h1 h2
  rw [Wire.tcat_cons, Wire.tcat_cons, List.length_append, List.length_append]
  have : (Wire.tcat []).length = 0 := rfl
  omega
theorem txt_eq (l : List It) : txt l = 0 :: l.flatMap tx := rfl
theorem txt_len (l : List It) (h : ∀ x ∈ l, (tx x).length ≤ 10000000000) : (l.flatMap tx).length ≤ l.length * 10000000000 := by
  induction l with
  | nil => simp
  | cons x l ih =>
    rw [List.flatMap_cons, List.length_append, List.length_cons]
    have h1 := h x (List.mem_cons_self ..)
    have h2 := ih (fun y hy => h y (List.mem_cons_of_mem _ hy))
    omega
theorem two_texts (W : World) (x y : List UInt8) (hx : x.length ≤ maxLen) (hy : y.length ≤ maxLen) : Txts (W.alloc (.cells #[.string ⟨x.toArray⟩, .string ⟨y.toArray⟩] 9)) (some ⟨W.heap.size, 0, none⟩) 2 [⟨x.toArray⟩, ⟨y.toArray⟩] := by
  refine ⟨rfl, fun t ht => ?_, fun _ => ⟨W.heap.size, 0, rfl, by rw [World.size_alloc]; exact Nat.lt_succ_self _, fun j hj => ?_⟩⟩
  · simp only [List.mem_cons, List.not_mem_nil, or_false] at ht
    rcases ht with rfl | rfl
    · rw [Str.size_mk]; exact hx
    · rw [Str.size_mk]; exact hy
  · rw [World.cell?_alloc_new, Nat.zero_add]
    match j, hj with
    | 0, _ => rfl
    | 1, _ => rfl

set_option maxRecDepth 100000 in
set_option maxHeartbeats 4000000 in
theorem leaf_in (w : World) (tb mb n : Nat) (l : List It) (B g : Nat) (V : Nat → Value) (i : Nat) (h : Is w tb mb n l) (hp : Parts.Is w B g 16 V (Shard.part (l.map It.k))) (ht : Sha.Tabs w) (hi : i < 16) (h2 : 2 ≤ w.heap.size) :
    CallsIn Fence.wide 10 Tryz.prog 41 #[.pointer (some ⟨tb, 0, none⟩), .slice (some ⟨g, 0, none⟩) 16 16, .int .i64 (4 : Int), .int .i64 (i : Int)] w fun e w' => e = .returned (.string ⟨(dig l 0 i).toArray⟩) ∧ Below w.heap.size w w' := by
  obtain ⟨f, hf, he⟩ := h.map
  have hit : ∀ x ∈ items l i, x ∈ l := fun x hx => (List.mem_filter.1 hx).1
  obtain ⟨zs, hzs, hfz⟩ := got_list h he (items l i) hit
  obtain ⟨a, c, hv, hl, -, hlow⟩ := hp.row hi
  have hcr := hp.cell hi
  rw [hv] at hcr
  rw [part_items, List.length_map] at hl hcr
  rw [← hzs, List.length_map] at hl hcr
  obtain ⟨m, hm⟩ : ∃ m, m = zs.length := ⟨_, rfl⟩
  rw [← hm] at hl hcr
  have hlz : Words.Lies w a m (zs.map (fun x => x.it.k)) := by
    have e : (zs.map Got.it).map It.k = zs.map (fun x => x.it.k) := List.map_map
    rw [← e]; exact hl
  have hfine : ∀ z : Got w l, z.it.k.length ≤ 4294967296 ∧ z.it.b.length ≤ 4294967296 := fun z => ⟨(h.fine z.it z.mem).1, (h.fine z.it z.mem).2.1⟩
  have hm256 : m ≤ 256 := by
    have h1 : m = (items l i).length := by rw [hm, ← hzs, List.length_map]
    have h2 : (items l i).length ≤ l.length := List.length_filter_le _ _
    have := h.small
    omega
  have HV : Hid (txt (zs.map Got.it) = txt (items l i)) := Lib.hid (by rw [hzs])
  have htl := h.tlt
  have hml := h.mlt
  have htc := h.cell
  have htm := h.ne
  have HF := Lib.hid hf
  have HFZ := Lib.hid hfz
  have HL := Lib.hid hlz
  have HFINE := Lib.hid hfine
  have HT := Lib.hid ht
  have HLOW := Lib.hid hlow
  have HM := Lib.hid hm
  have HN := Lib.hid (Sha.new_any w ht)
  clear h hf he hp ht hl hlz hfine hzs hfz hit hv hlow hm
  refine callsIn_of_wp_marks Tryz.func41 rfl trivial ?_ rfl
  simp only [Tryz.ntmps41, List.size_toArray, List.length_cons, List.length_nil, Nat.reduceAdd, Nat.reduceSub, Array.replicate_succ, Array.replicate_zero, List.push_toArray, List.append_toArray, List.nil_append, List.cons_append]
  gi_wp2_with fail
  refine ⟨trivial, (callsIn_wide.2 HN.out).mono ?_⟩
  rintro e w1 ⟨rfl, hI1, hs1, k1⟩
  have HI1 := Lib.hid hI1
  clear hI1 HN
  have hS1 : w1.heap.size = w.heap.size + 1 := hs1
  have hIA := Lib.hid (HI1.out.below (balloc (Below.refl _ _) (.cells #[.pointer (some ⟨w.heap.size, 0, none⟩)] 103)))
  have kA : Below w.heap.size w (w1.alloc (.cells #[.pointer (some ⟨w.heap.size, 0, none⟩)] 103)) := balloc k1 _
  have bxA : Boxed (w1.alloc (.cells #[.pointer (some ⟨w.heap.size, 0, none⟩)] 103)) (w.heap.size + 1) 103 (.pointer (some ⟨w.heap.size, 0, none⟩)) := by rw [← hS1]; exact Boxed.new _ _ _
  gi_wp2_with fail
  refine ⟨trivial, (callsIn_wide.2 (Sha.add_any w.heap.size [] [0] _ hIA.out (HT.out.below kA) h2 (by decide))).mono ?_⟩
  rintro e w2 ⟨rfl, hI2, k2⟩
  have HI2 := Lib.hid hI2
  have hb2 := But.below kA k2 (Nat.le_refl _) kA.size
  have bx2 : Boxed w2 (w.heap.size + 1) 103 (.pointer (some ⟨w.heap.size, 0, none⟩)) := (k2.block _ (by rw [World.size_alloc]; omega) (by omega)).trans bxA
  have hs2 : w.heap.size + 2 ≤ w2.heap.size := by have := k2.size; rw [World.size_alloc] at this; omega
  have hcr2 := keepC hcr hb2
  have cbx := bx2.cell
  have h0i : (0 : Int) ≤ (i : Int) := by omega
  have hi16 : (i : Int) < 16 := by omega
  clear hI2 hIA kA bxA k1 hs1 hcr k2 HI1
  gi_wp2_with fail
  refine ⟨trivial, (callsIn_wide.2 (pairs_any tb a m c w2)).mono ?_⟩
  rintro e w3 ⟨rfl, rfl⟩
  gi_wp2_with fail
  obtain ⟨W0, hW0⟩ : ∃ W0, ((w2.alloc (.cells #[.pointer (some ⟨tb, 0, none⟩)] 29)).alloc (.cells #[.slice a m c] 42)) = W0 := ⟨_, rfl⟩
  have hB3 : Below w.heap.size w W0 := by rw [← hW0]; exact balloc (balloc hb2 _) _
  have hs3 : W0.heap.size = w2.heap.size + 1 + 1 := by rw [← hW0]; simp
  have hbx3 : Boxed W0 (w.heap.size + 1) 103 (.pointer (some ⟨w.heap.size, 0, none⟩)) := by rw [← hW0]; exact (bx2.alloc _).alloc _
  have hI3 := Lib.hid (show Sha.HI W0 w.heap.size (txt (([] : List (Got w l)).map Got.it)) by
    have k : Below w2.heap.size w2 W0 := by rw [← hW0]; exact balloc (balloc (Below.refl _ _) _) _
    exact HI2.out.below k)
  have hBt : W0.cell? ⟨w2.heap.size, 0, none⟩ = some (.pointer (some ⟨tb, 0, none⟩)) := by rw [← hW0]; exact Lib.cell?_alloc_some _ (by rw [World.cell?_alloc_new]; rfl)
  have hBk : W0.cell? ⟨w2.heap.size + 1, 0, none⟩ = some (.slice a m c) := by
    have h := World.cell?_alloc_new (w := w2.alloc (.cells #[.pointer (some ⟨tb, 0, none⟩)] 29)) (c := #[.slice a m c]) (i := 0) (t := 42)
    rw [World.size_alloc] at h
    rw [← hW0]; exact h
  rw [hW0]
  clear hW0 hcr2 cbx bx2 HI2 hb2
  refine wpIn_rangeFunc_ownH (α := Got w l) (encs := fun x : Got w l => #[Value.string ⟨x.it.k.toArray⟩, x.val]) (Kp := Kept (fun k => k < W0.heap.size ∧ k ≠ w.heap.size)) rfl (by decide) (gf := 50) (lb := #[.pointer (some ⟨w2.heap.size + 1, 0, none⟩), .pointer (some ⟨w2.heap.size, 0, none⟩)]) rfl trivial (enters_of Tryz.func50 (by kernel_rfl) rfl)
    (pairs_stops 9 (by decide) (w2.heap.size + 1) w2.heap.size tb mb n _ a m c zs f W0 hBk hBt (keepC htc hB3) (HF.out.below hB3) (HL.out.below hB3) HFZ.out (fun z _ => by have := (HFINE.out z).1; unfold maxLen; omega) (by omega) ⟨by omega, by omega⟩ ⟨by omega, by omega⟩ ⟨by omega, by omega⟩ (fun x hx => by have := HLOW.out x hx; exact ⟨by omega, by omega⟩)) Kept.trans (kept_b (fun k hk => hk.1) (Nat.le_refl _)) (Below.refl _ _) (fun _ => rfl)
    (fun pre W => Sha.HI W w.heap.size (txt (pre.map Got.it)) ∧ Boxed W (w.heap.size + 1) 103 (.pointer (some ⟨w.heap.size, 0, none⟩)) ∧ W0.heap.size ≤ W.heap.size ∧ Below w.heap.size w W)
    (fun _ _ _ => False)
    (OwnFrom.and ((hi_own1 _ (fun pre : List (Got w l) => txt (pre.map Got.it))).from _) (OwnFrom.and ((boxed_own _ _ (fun _ : List (Got w l) => Value.pointer (some ⟨w.heap.size, 0, none⟩))).from _) (OwnFrom.and (fun s W W' row hs hg _ => Nat.le_trans hs hg.size) (ownFrom_below (Nat.le_refl _) (by omega)))))
    (fun _ _ _ _ _ hs _ _ => hs)
    ⟨hI3.out, hbx3, Nat.le_refl _, hB3⟩
    (fun x a' W => ∃ Bq, W0.heap.size ≤ Bq ∧ Bx W Bq x ∧ a' = { tmps := #[.pointer (some ⟨tb, 0, none⟩), .slice (some ⟨g, 0, none⟩) 16 16, .int .i64 4, .int .i64 (i : Int), undef, undef, undef, undef, .string ⟨#[]⟩, .pointer (some ⟨w.heap.size + 1, 0, none⟩), .string ⟨x.it.k.toArray⟩, .pointer (some ⟨Bq, 0, none⟩), .int .i64 4, .bool false, undef, undef, undef, undef, undef, undef, undef, undef, undef, undef, undef, undef, undef, undef, undef, undef, .pointer (some ⟨w.heap.size, 0, none⟩), .pointer (some ⟨w.heap.size, 0, none⟩), .tuple #[], .pointer (some ⟨tb, 0, none⟩), .slice (some ⟨g, 0, none⟩) 16 16, .int .i64 (i : Int), .pointer (some ⟨g, i, none⟩), .slice a m c, .func (.func 50) #[] #[.pointer (some ⟨w2.heap.size + 1, 0, none⟩), .pointer (some ⟨w2.heap.size, 0, none⟩)], .string ⟨x.it.k.toArray⟩, x.val, undef, undef, undef, undef, undef, undef, undef, undef, undef], defers := [] })
    (fun x a' s W W' row hs hg hr => by obtain ⟨Bq, h1, h2, h3⟩ := hs; exact ⟨Bq, h1, (bx_own Bq x) s W W' row h2 hg (fun r e => (hr r e).2), h3⟩) ?assign ?body ?done ?stop
  case assign =>
    rintro l2 pre x W K ⟨hI, hbx, hsz, hB⟩ hK
    have hws := hB.size
    unfold Got.val at hK ⊢
    gi_wp2
    exact hK _ _ ((KeepsOthers.alloc _ _).from _) (Kept.of (balloc (Below.refl _ _) _)) ⟨hI.below (balloc (Below.refl _ _) _), hbx.alloc _, by rw [World.size_alloc]; omega, balloc hB _⟩ ⟨W.heap.size, hsz, World.alloc_heap_new W _, rfl⟩
  case body =>
    rintro l2 pre x a' W hl2 ⟨r, hr⟩ ⟨hI, hbx, hsz, hB⟩ ⟨Bq, hBq, hbq, rfl⟩ hlt
    obtain ⟨e1, -⟩ := hbq.cells
    have q1 := hbx.cell
    have hfx := HFINE.out x
    have htl := tx_length x.it
    have hpl : (txt (pre.map Got.it)).length ≤ 10000000000000 := by
      rw [txt_eq, List.length_cons]
      have h1 := txt_len (pre.map Got.it) (fun y hy => by obtain ⟨z, _, rfl⟩ := List.mem_map.1 hy; have h1 := tx_length z.it; have h2 := HFINE.out z; omega)
      rw [List.length_map] at h1
      have h3 := HM.out
      have h4 : pre.length * 10000000000 ≤ 256 * 10000000000 := Nat.mul_le_mul_right _ (by omega)
      omega
    have HX : Hid (txt ((pre ++ [x]).map Got.it) = txt (pre.map Got.it) ++ tx x.it) := Lib.hid (by rw [txt_eq, txt_eq, List.map_append, List.flatMap_append]; simp)
    have TW := Lib.hid (two_texts W x.it.k x.it.b (by unfold maxLen; omega) (by unfold maxLen; omega))
    have TL : (Wire.tcat [⟨x.it.k.toArray⟩, ⟨x.it.b.toArray⟩]).length ≤ 1099511627776 := by have h : tx x.it = Wire.tcat [⟨x.it.k.toArray⟩, ⟨x.it.b.toArray⟩] := rfl; rw [← h]; omega
    have TX := Lib.hid (fun W' (h : Txts W' (some ⟨W.heap.size, 0, none⟩) 2 [⟨x.it.k.toArray⟩, ⟨x.it.b.toArray⟩]) => Wire.texts_any (some ⟨W.heap.size, 0, none⟩) 2 2 _ W' h TL (by decide))
    have HTE : Hid (Wire.tcat [⟨x.it.k.toArray⟩, ⟨x.it.b.toArray⟩] = tx x.it) := Lib.hid rfl
    rw [HTE.out] at TX
    have hts : (tx x.it).length ≤ 10000000000 := by omega
    obtain ⟨s, hs⟩ : ∃ s, s = tx x.it := ⟨_, rfl⟩
    obtain ⟨t, ht⟩ : ∃ t, t = txt (pre.map Got.it) := ⟨_, rfl⟩
    obtain ⟨kk, hkk⟩ : ∃ k, k = x.it.k := ⟨_, rfl⟩
    obtain ⟨bb, hbb⟩ : ∃ b, b = x.it.b := ⟨_, rfl⟩
    rw [← hs] at TX hts HX
    rw [← ht] at hpl HX hI
    rw [← hkk, ← hbb] at TW TX
    rw [← hbb] at e1
    rw [← hkk]
    have HI := Lib.hid hI
    have HC := Lib.hid (hi_cells hI)
    have HBX := Lib.hid hbx
    have HB := Lib.hid hB
    have hmx : Tryz.prog.follows .mixedOrders = true := by kernel_rfl
    have q1A := keepC q1 (balloc (Below.refl W.heap.size W) (.cells #[.string ⟨kk.toArray⟩, .string ⟨bb.toArray⟩] 9))
    have q1B : (W.drew.alloc (.cells #[.string ⟨kk.toArray⟩, .string ⟨bb.toArray⟩] 9)).cell? ⟨w.heap.size + 1, 0, none⟩ = some (.pointer (some ⟨w.heap.size, 0, none⟩)) := q1A
    clear HTE hs ht hkk hbb hI hfx htl TL hbx hB
    gi_wp2_with fail
    gi_region_with_o (first
      | (refine ⟨trivial, ?_⟩; gi_at_call 57; refine (CallsIn.inRound l2 (callsIn_wide.2 (TX.out _ (TW.out.below rfl (Below.drew (Below.refl _ _)))))).mono ?_; rintro e wT ⟨rfl, kT⟩
         have kU : Below W.heap.size W wT := bstep (Below.drew (balloc (Below.refl _ _) _)) kT
         have q1T := keepC q1 kU
         have HIT := Lib.hid (HI.out.below kU)
         have HBT := Lib.hid (bstep HB.out kU)
         have HBXT := Lib.hid ((kU.block _ (Array.getElem?_eq_some_iff.1 HBX.out).1).trans HBX.out)
         have HU := Lib.hid kU
         clear kU kT)
      | (refine ⟨trivial, ?_⟩; gi_at_call 56; refine (CallsIn.inRound l2 (callsIn_wide.2 (Sha.add_any w.heap.size t s _ HIT.out (HT.out.below HBT.out) h2 (by omega)))).mono ?_; rintro e wA ⟨rfl, hIA, kA⟩))
    all_goals gi_wp2
    all_goals exact ⟨((keepsOthers_below HU.out).trans (keepsOthers_but kA (hi_cells HIT.out))).from _, (Kept.of HU.out).trans (Kept.but kA (fun j hj => hj.2)), by rw [HX.out]; exact hIA, (kA.block _ (Array.getElem?_eq_some_iff.1 HBXT.out).1 (by omega)).trans HBXT.out, by have := HU.out.size; have := kA.size; omega, But.below HBT.out kA (Nat.le_refl _) HBT.out.size⟩
    
  case done =>
    rintro D ys W hD rfl ⟨hI, hbx, hsz, hB⟩ hK
    have q1 := hbx.cell
    have HI := Lib.hid hI
    have hml : (txt (ys.map Got.it)).length ≤ 10000000000000 := by
      rw [txt_eq, List.length_cons]
      have h1 := txt_len (ys.map Got.it) (fun y hy => by obtain ⟨z, _, rfl⟩ := List.mem_map.1 hy; have h1 := tx_length z.it; have h2 := HFINE.out z; omega)
      rw [List.length_map] at h1
      have h3 := HM.out
      have h4 : ys.length * 10000000000 ≤ 256 * 10000000000 := Nat.mul_le_mul_right _ (by omega)
      omega
    clear hI
    gi_wp2_with fail
    refine ⟨trivial, (callsIn_wide.2 (Sha.sum_any w.heap.size _ _ HI.out (HT.out.below hB) (by omega) (by have := hB.size; omega))).mono ?_⟩
    rintro e w9 ⟨rfl, k9⟩
    gi_wp2
    have hK9 := (k9.block D (Array.getElem?_eq_some_iff.1 hK).1).trans hK
    refine ⟨by simp, .inl ⟨_, _, rfl, run_takeDeferred hK9, ?_⟩⟩
    exact ⟨_, results_tmp rfl _ _ _, by rw [HV.out]; rfl, (bstep hB k9).trans (belowK_b (w := w) (Nat.le_refl _) w9 D _ _ (by omega) hK9 rfl rfl)⟩
  case stop =>
    rintro D c pre W _ _ h _
    exact h.elim
end Tree
end Go.Proofs.YtjnlooccddnbkaaGreatDoor

namespace Go.Proofs.YtjnlooccddnbkaaGreatDoor
namespace Tree
open Go.RowKit Go.Shelf Go.Maps Go.Sort Go.Proofs.YtjnlooccddnbkaaGreatDoor.Mark Go.Proofs.YtjnlooccddnbkaaGreatDoor.Dots
set_option maxRecDepth 100000 in
set_option maxHeartbeats 2000000 in
theorem dig_any (tb mb n : Nat) (l : List It) (B g : Nat) (V : Nat → Value) : ∀ (m deep i : Nat) (w : World), deep + m = 4 → i < 2 ^ deep → Is w tb mb n l → Parts.Is w B g 16 V (Shard.part (l.map It.k)) → Sha.Tabs w → 2 ≤ w.heap.size →
    Calls Tryz.prog 41 #[.pointer (some ⟨tb, 0, none⟩), .slice (some ⟨g, 0, none⟩) 16 16, .int .i64 (deep : Int), .int .i64 (i : Int)] w fun e w' => e = .returned (.string ⟨(dig l m i).toArray⟩) ∧ Below w.heap.size w w'
  | 0, deep, i, w, hd, hi, h, hp, ht, h2 => by
    obtain rfl : deep = 4 := by omega
    exact callsIn_wide.1 (leaf_in w tb mb n l B g V i h hp ht hi h2)
  | m + 1, deep, i, w, hd, hi, h, hp, ht, h2 => by
    have hd4 : deep < 4 := by omega
    have h16 : i < 16 := Nat.lt_of_lt_of_le hi (Nat.le_trans (Nat.pow_le_pow_right (by decide) (show deep ≤ 4 by omega)) (by decide))
    have hi1 : 2 * i < 2 ^ (deep + 1) := by rw [Nat.pow_succ]; omega
    have hi2 : 2 * i + 1 < 2 ^ (deep + 1) := by rw [Nat.pow_succ]; omega
    have I1 := Lib.hid (fun w' (k : Below w.heap.size w w') => dig_any tb mb n l B g V m (deep + 1) (2 * i) w' (by omega) hi1 (h.below k) (hp.below k) (ht.below k) (Nat.le_trans h2 k.size))
    have I2 := Lib.hid (fun w' (k : Below w.heap.size w w') => dig_any tb mb n l B g V m (deep + 1) (2 * i + 1) w' (by omega) hi2 (h.below k) (hp.below k) (ht.below k) (Nat.le_trans h2 k.size))
    have HP := Lib.hid (fun a b w' (k : Below w.heap.size w w') ha hb => pair_any a b w' (ht.below k) ha hb)
    have d1 : decide ((deep : Int) < 4) = true := decide_eq_true (by omega)
    have w1 : IntKind.i64.wrap ((deep : Int) + 1) = ((deep + 1 : Nat) : Int) := by rw [IntKind.wrap_i64]; omega
    have w2 : IntKind.i64.wrap (2 * (i : Int)) = ((2 * i : Nat) : Int) := by rw [IntKind.wrap_i64]; omega
    have w3 : IntKind.i64.wrap (((2 * i : Nat) : Int) + 1) = ((2 * i + 1 : Nat) : Int) := by rw [IntKind.wrap_i64]; omega
    obtain ⟨da, hda⟩ : ∃ d, d = dig l m (2 * i) := ⟨_, rfl⟩
    obtain ⟨db, hdb⟩ : ∃ d, d = dig l m (2 * i + 1) := ⟨_, rfl⟩
    have hla : da.length = 32 := by rw [hda]; exact dig_length _ _ _
    have hlb : db.length = 32 := by rw [hdb]; exact dig_length _ _ _
    have HV : Hid (dig l (m + 1) i = Sha.of (1 :: (da ++ db))) := Lib.hid (by rw [hda, hdb]; rfl)
    rw [← hda] at I1
    rw [← hdb] at I2
    clear h hp ht h2 hda hdb hd4 hi1 hi2 hi hd
    go_enter Tryz.func41, Tryz.ntmps41
    go_wp2_with fail
    refine (I1.out _ (Below.refl _ _)).mono ?_
    rintro e w4 ⟨rfl, k4⟩
    go_wp2_with fail
    refine (I2.out _ k4).mono ?_
    rintro e w5 ⟨rfl, k5⟩
    have hb5 := bstep k4 k5
    go_wp2_with fail
    refine (HP.out da db _ hb5 (by omega) (by omega)).mono ?_
    rintro e w6 ⟨rfl, k6⟩
    go_wp2
    go_ret
    exact ⟨by rw [HV.out]; rfl, bstep hb5 k6⟩
set_option maxRecDepth 100000 in
theorem root_any (w : World) (tb mb n : Nat) (l : List It) (h : Is w tb mb n l) (ht : Sha.Tabs w) (h2 : 2 ≤ w.heap.size) :
    Calls Tryz.prog 18 #[.pointer (some ⟨tb, 0, none⟩)] w fun e w' => e = .returned (.string ⟨(dig l 4 0).toArray⟩) ∧ Below w.heap.size w w' := by
  have TH := Lib.hid (there_any w tb mb h.cell)
  have SH := Lib.hid (shards_any w tb mb n l h ht)
  have DG := Lib.hid (fun w' (k : Below w.heap.size w w') g V (hp : Parts.Is w' w.heap.size g 16 V (Shard.part (l.map It.k))) => dig_any tb mb n l w.heap.size g V 4 0 0 w' rfl (by decide) (h.below k) hp (ht.below k) (Nat.le_trans h2 k.size))
  clear h ht h2
  go_enter Tryz.func18, Tryz.ntmps18
  go_wp2_with fail
  refine TH.out.mono ?_
  rintro e w1 ⟨rfl, rfl⟩
  go_wp2_with fail
  refine SH.out.mono ?_
  rintro e w2 ⟨g, V, rfl, hp, k2⟩
  have D2 := Lib.hid (DG.out _ k2 g V hp)
  clear hp SH DG
  go_wp2_with fail
  refine D2.out.mono ?_
  rintro e w3 ⟨rfl, k3⟩
  go_wp2
  go_ret
  exact ⟨rfl, bstep k2 k3⟩
set_option maxRecDepth 100000 in
theorem root_nil (w : World) : Calls Tryz.prog 18 #[.pointer none] w fun e w' => e = .returned (.string ⟨#[]⟩) ∧ w = w' := by
  go_enter Tryz.func18, Tryz.ntmps18
  go_wp2_with fail
  refine (there_nil _).mono ?_
  rintro e w1 ⟨rfl, rfl⟩
  go_wp2
  go_ret
  exact ⟨rfl, rfl⟩
set_option maxRecDepth 100000 in
theorem keys_nil (w : World) (v : Int) : Calls Tryz.prog 31 #[.pointer none, .int .i64 v] w fun e w' => e = .returned (.slice none 0 0) ∧ w = w' := by
  go_enter Tryz.func31, Tryz.ntmps31
  go_wp2_with fail
  refine (there_nil _).mono ?_
  rintro e w1 ⟨rfl, rfl⟩
  go_wp2
  go_ret
  exact ⟨rfl, rfl⟩
set_option maxRecDepth 100000 in
theorem keys_of (w : World) (tb mb n : Nat) (l : List It) (i : Nat) (h : Is w tb mb n l) (ht : Sha.Tabs w) (hi : i < 16) :
    Calls Tryz.prog 31 #[.pointer (some ⟨tb, 0, none⟩), .int .i64 (i : Int)] w fun e w' => ∃ a c, e = .returned (.slice a (items l i).length c) ∧ Words.Lies w' a (items l i).length ((items l i).map It.k) ∧ Below w.heap.size w w' := by
  have TH := Lib.hid (there_any w tb mb h.cell)
  have SH := Lib.hid (shards_any w tb mb n l h ht)
  have h0 : (0 : Int) ≤ (i : Int) := by omega
  have h1 : (i : Int) < 16 := by omega
  have d1 : decide ((i : Int) < 0) = false := decide_eq_false (by omega)
  have d2 : decide ((i : Int) ≥ 16) = false := decide_eq_false (by omega)
  have d3 : decide ((16 : Int) ≤ (i : Int)) = false := decide_eq_false (by omega)
  clear h ht
  go_enter Tryz.func31, Tryz.ntmps31
  go_wp2_with fail
  refine TH.out.mono ?_
  rintro e w1 ⟨rfl, rfl⟩
  go_wp2_with fail
  refine SH.out.mono ?_
  rintro e w2 ⟨g, V, rfl, hp, k2⟩
  obtain ⟨a, c, hv, hl, -, -⟩ := hp.row hi
  have hc := hp.cell hi
  rw [hv] at hc
  rw [part_items, List.length_map] at hl hc
  have HL := Lib.hid hl
  clear hp SH hv hl
  go_wp2
  go_ret
  exact ⟨a, c, rfl, HL.out, k2⟩
end Tree
end Go.Proofs.YtjnlooccddnbkaaGreatDoor
