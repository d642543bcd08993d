/- Tree: Diff: the shards whose vector another vector does not cover. -/
import Derived.Test.YtjnlooccddnbkaaGreatDoorTmTreeDN
import Derived.Test.YtjnlooccddnbkaaGreatDoorTmJoin
import Derived.Test.YtjnlooccddnbkaaGreatDoorTmDotA
import Derived.Test.YtjnlooccddnbkaaGreatDoorTmBase2
import Derived.Test.YtjnlooccddnbkaaGreatDoorTmMarkApp
import Derived.WalkMore
namespace Go.Proofs.YtjnlooccddnbkaaGreatDoor
namespace Tree
open Go.RowKit Go.Shelf Go.Maps Go.Sort Go.Proofs.YtjnlooccddnbkaaGreatDoor.Mark Go.Proofs.YtjnlooccddnbkaaGreatDoor.Dots
attribute [local go_sem] Oper.semAt_some
/-- A shard lacks something of what another vector has not. -/
def Lacks (l : List It) (base : List M) (i : Nat) : Prop := ∃ x ∈ items l i, ¬ ∀ q, ofL x.s q ≤ ofL base q
/-- The numbers below n that c tells. -/
def sel (c : Nat → Bool) (n : Nat) : List Int := ((List.range n).filter c).map (fun i : Nat => (i : Int))
theorem sel_no {c : Nat → Bool} {n : Nat} (h : c n = false) : sel c (n + 1) = sel c n := by
  unfold sel; rw [List.range_succ, List.filter_append]; simp [h]
theorem sel_yes {c : Nat → Bool} {n : Nat} (h : c n = true) : sel c (n + 1) = sel c n ++ [(n : Int)] := by
  unfold sel; rw [List.range_succ, List.filter_append]; simp [h]
theorem sel_len (c : Nat → Bool) (n : Nat) : (sel c n).length ≤ n := by
  unfold sel; rw [List.length_map]; exact Nat.le_trans (List.length_filter_le c (List.range n)) (Nat.le_of_eq List.length_range)
theorem Kept.weak {p q : Nat → Prop} {w w' : World} (h : Kept p w w') (k : ∀ j, q j → p j) : Kept q w w' := ⟨h.size, fun j hj => h.block j (k j hj)⟩
theorem lies_kept {α : Type} {E : Row.Enc α} {p : Nat → Prop} {x y : World} {a : Option Addr} {k : Nat} {L : List α} (h : Row.Lies E x a k L) (g : Kept p x y) (hb : ∀ q, a = some q → p q.block) : Row.Lies E y a k L :=
  ⟨h.1, fun hn => by
    obtain ⟨b', off, e, hc⟩ := h.2 hn
    exact ⟨b', off, e, fun j hj i u hu => g.cell (q := ⟨b', off + j * E.k + i, none⟩) (show p b' from hb _ e) (hc j hj i u hu)⟩⟩
theorem Marks_lower {B C N : Nat} {w : World} : ∀ {ds : List Deferred}, Marks.Lie B N ds w → C ≤ B → Marks.Lie C N ds w
  | [], _, _ => trivial
  | _ :: _, ⟨D, e, h1, h2, h3, h4, h5⟩, hC => ⟨D, e, Nat.le_trans hC h1, h2, h3, h4, Marks_lower h5 hC⟩
theorem row_shut {α : Type} {E : Row.Enc α} {te : TypeId} {B C : Nat} {w w' : World} {v : Value} {L : List α} (h : Row.Own E te w C v L) (k : Marks.Shut B w w') : Row.Own E te w' C v L := by
  refine ⟨h.1, ?_⟩
  rcases h.2 with h' | ⟨g, cap, cur, e, hB, hg, hr⟩
  · exact .inl h'
  · exact .inr ⟨g, cap, cur, e, hB, k.cells g _ rfl hg, hr⟩
theorem ownFrom_kept {β : Type} {B : Nat} {p : Nat → Prop} {w0 : World} (hp : ∀ k, p k → k < B) : OwnFrom B (fun (_ : β) W => Kept p w0 W) := fun _ _ _ _ hs hg hr => hs.trans (Kept.grown hg (fun j pj e => by have h1 := (hr j e.symm).1; have := hp j pj; omega))
theorem typ_int : Row.Typ Tryz.prog (Ones.enc .i64) 35 3 (.int .i64 0) 8 := Ones.typ_of Tryz.underlying35 (by kernel_rfl) (by decide)
/-- A number behind an own row of numbers, as a run. -/
theorem run_push {W : World} {B : Nat} {v : Value} {L : List Int} {x : Int} {b : Nat} (ho : Row.Own (Ones.enc .i64) 3 W B v L) (hx : W.cell? ⟨b, 0, none⟩ = some (.int .i64 x)) (hs : L.length + 1 ≤ 1099511627776) (hB : B ≤ W.heap.size) (ty : TypeId) :
    ∃ a' c' W', (Builtin.append_ #[35, 35] ty #[v, .slice (some ⟨b, 0, none⟩) 1 1]).run Tryz.prog W = .ok (.slice a' (L ++ [x]).length c') W' ∧ Row.Own (Ones.enc .i64) 3 W' B (.slice a' (L ++ [x]).length c') (L ++ [x]) ∧ W.grownBy W' v.ownBlock := by
  obtain ⟨h1, ⟨i0, hi, hz0, hz1, hz2⟩, h3, h4⟩ := typ_int
  obtain ⟨v', W', hr, h2, h3, -⟩ := Ones.run_app_place (P := Tryz.prog) (w := W) B 35 ty 3 i0 (.int .i64 0) 1 8 h1 hi hz0 hz1 hz2 rfl (by decide) v L.length (Row.flat (Ones.enc .i64) L) ho ⟨b, 0, none⟩ 1 1 [.int .i64 x] rfl (fun j u hu => by
    match j, hu with
    | 0, hu => cases hu; exact hx) (fun u hu => by rw [List.mem_singleton.1 hu]; rfl) (by unfold maxLen; omega) (by omega) hB
  have ho' : Row.Own (Ones.enc .i64) 3 W' B v' (L ++ [x]) := by
    unfold Row.Own
    rw [Row.flat_append, List.length_append]
    exact h2
  obtain ⟨a', c', rfl, -⟩ := ho'.lies
  exact ⟨a', c', W', hr, ho', h3⟩

set_option maxRecDepth 100000 in
set_option maxHeartbeats 4000000 in
theorem diff_in (w : World) (tb mb n : Nat) (l : List It) (base : List M) (a : Option Addr) (nb c : Nat) (h : Is w tb mb n l) (ht : Sha.Tabs w) (hb : Mark.Lies w a nb base) (hok : Ok base) (hnb : nb ≤ 1099511627776) (cc : Nat → Bool) (hcc : ∀ i, cc i = true ↔ Lacks l base i) :
    CallsIn Fence.wide 10 Tryz.prog 15 #[.pointer (some ⟨tb, 0, none⟩), .slice a nb c] w fun e w' => ∃ a' c', e = .returned (.slice a' (if mayL base then sel cc 16 else []).length c') ∧ Row.Lies (Ones.enc .i64) w' a' (if mayL base then sel cc 16 else []).length (if mayL base then sel cc 16 else []) ∧ Below w.heap.size w w' := by
  obtain ⟨W1, hW1⟩ : ∃ W1, W1 = w.alloc (.cells #[.slice a nb c] 23) := ⟨_, rfl⟩
  have k1 : Below w.heap.size w W1 := by rw [hW1]; exact balloc (Below.refl _ _) _
  have cb1 : W1.cell? ⟨w.heap.size, 0, none⟩ = some (.slice a nb c) := by rw [hW1, World.cell?_alloc_new]; rfl
  have hs1 : W1.heap.size = w.heap.size + 1 := by rw [hW1]; simp
  have h1 := h.below k1
  have ht1 := ht.below k1
  have hb1 := hb.below k1
  have TH := Lib.hid (there_any W1 tb mb h1.cell)
  have MA := Lib.hid (may_any base a nb c W1 hb1 hnb hok)
  obtain ⟨mb1, hmb1⟩ : ∃ b, b = mayL base := ⟨_, rfl⟩
  rw [← hmb1] at MA ⊢
  have H := Lib.hid h
  have HT := Lib.hid ht
  have HBL := Lib.hid hb
  have HNB := Lib.hid hnb
  have HCC := Lib.hid hcc
  have HS1 := Lib.hid hs1
  have K1 := Lib.hid k1
  clear h ht hb hok hnb hcc h1 ht1 hb1 hs1 k1 hmb1
  refine callsIn_of_wp_marks Tryz.func15 rfl trivial ?_ rfl
  simp only [Tryz.ntmps15, List.size_toArray, List.length_cons, List.length_nil, Nat.reduceAdd, Nat.reduceSub, Array.replicate_succ, Array.replicate_zero, List.push_toArray, List.append_toArray, List.nil_append, List.cons_append]
  gi_wp2_with fail
  refine wpIn_scope_straight' ?_
  rw [← hW1]
  clear hW1
  gi_wp2_with fail
  refine ⟨trivial, (callsIn_wide.2 TH.out).mono ?_⟩
  rintro e w1 ⟨rfl, rfl⟩
  gi_wp2_with fail
  refine ⟨trivial, (callsIn_wide.2 MA.out).mono ?_⟩
  rintro e w2 ⟨rfl, k2⟩
  cases mb1
  · gi_wp2
    rw [Exit.noGoto_ret]
    gi_wp2
    refine Marks.leaves (B := w.heap.size) (N := w.heap.size) [] w2 trivial (Nat.le_trans K1.out.size k2.size) ?_
    intro w9 hs
    refine ⟨.slice none 0 0, by simp [results, Tryz.f15, go_sem], none, ⟨0, rfl⟩, Row.Lies.nil _ _, (bstep K1.out k2).trans hs.below⟩
  gi_wp2_with fail
  refine wpIn_label ?_
  obtain ⟨W3, hW3⟩ : ∃ W3, W3 = w2.alloc (.cells #[.slice none 0 0] 35) := ⟨_, rfl⟩
  obtain ⟨B5, hB5⟩ : ∃ b, b = w2.heap.size := ⟨_, rfl⟩
  have k3 : Below W1.heap.size W1 W3 := by rw [hW3]; exact bstep k2 (balloc (Below.refl _ _) _)
  have hB3 : Below w.heap.size w W3 := bstep K1.out k3
  have bx3 : Boxed W3 B5 35 (.slice none 0 0) := by rw [hW3, hB5]; exact Boxed.new _ _ _
  have hsW3 : W3.heap.size = B5 + 1 := by rw [hW3, hB5]; simp
  have hB5w : w.heap.size < B5 := by rw [hB5]; have := k2.size; have := HS1.out; omega
  have SH := Lib.hid (shards_any W3 tb mb n l (H.out.below hB3) (HT.out.below hB3))
  rw [← hW3, ← hB5]
  have cb3 := k3.cell (p := ⟨w.heap.size, 0, none⟩) (World.block_lt_of_cell? _ _ cb1) |>.trans cb1
  clear hW3 hB5 k2 k3 MA TH
  gi_wp2_with fail
  refine ⟨trivial, (callsIn_wide.2 SH.out).mono ?_⟩
  rintro e w4 ⟨g, V, rfl, hp, k4⟩
  have HP := Lib.hid hp
  have hB4 := bstep hB3 k4
  have hs4 := k4.size
  have cb4 := k4.cell (p := ⟨w.heap.size, 0, none⟩) (World.block_lt_of_cell? _ _ cb3) |>.trans cb3
  have bx4 : Boxed w4 B5 35 (.slice none 0 0) := (k4.block _ bx3.lt).trans bx3
  obtain ⟨f, hf, he⟩ := H.out.map
  have HG := Lib.hid (fun its (hi : ∀ x ∈ its, x ∈ l) => got_list H.out he its hi)
  have HF := Lib.hid hf
  have HFINE := Lib.hid H.out.fine
  have htl := H.out.tlt
  have hml := H.out.mlt
  have htc := H.out.cell
  have hsm := H.out.small
  clear hp hf he cb1 cb3 bx3 SH hB3
  gi_wp2_with fail
  refine wpIn_loop (fun a' w' => ∃ (q : Nat) (v : Value) (ds : List Deferred) (u2 u6 u7 u8 u9 u10 u11 u12 u13 u14 u15 u16 u17 u18 u22 u23 u24 u25 u26 u27 u28 u29 u30 u31 u32 u33 u34 u35 u36 u37 u38 u39 u40 u41 : Value), q ≤ 16 ∧ Hid (Marks.Lie w4.heap.size w'.heap.size ds w') ∧ Hid (Boxed w' B5 35 v) ∧ Hid (Row.Own (Ones.enc .i64) 3 w' w4.heap.size v (sel cc q)) ∧ Hid (Below w.heap.size w w') ∧ Hid (Kept (fun k => k < w4.heap.size ∧ k ≠ B5) w4 w') ∧ a' = { tmps := #[.pointer (some ⟨tb, 0, none⟩), .slice a nb c, u2, .pointer (some ⟨w.heap.size, 0, none⟩), .slice none 0 0, .pointer (some ⟨B5, 0, none⟩), u6, u7, u8, u9, u10, u11, u12, u13, u14, u15, u16, u17, u18, .slice (some ⟨g, 0, none⟩) 16 16, .int .i64 16, .int .i64 (q : Int), u22, u23, u24, u25, u26, u27, u28, u29, u30, u31, u32, u33, u34, u35, u36, u37, u38, u39, u40, u41], defers := ds })
    (fun a' _ => 16 - (intOf (a'.tmps.getD 21 undef)).toNat) ⟨0, .slice none 0 0, [], _, _, _, _, _, _, _, _, _, _, _, _, _, _, _, _, _, _, _, _, _, _, _, _, _, _, _, _, _, _, _, _, _, _, Nat.zero_le _, Lib.hid trivial, Lib.hid bx4, Lib.hid (Row.Own.nil _ _), Lib.hid hB4, Lib.hid (Kept.refl _ _), rfl⟩ ?_
  rintro a' wr ⟨q, v, ds, u2, u6, u7, u8, u9, u10, u11, u12, u13, u14, u15, u16, u17, u18, u22, u23, u24, u25, u26, u27, u28, u29, u30, u31, u32, u33, u34, u35, u36, u37, u38, u39, u40, u41, hq, HLIE, HBX, HOWN, HB, HKP, rfl⟩
  have hwr := HKP.out.size
  by_cases hlt : q < 16
  · skip
    have e1 : decide ((q : Int) < 16) = true := decide_eq_true (by omega)
    have h0q : (0 : Int) ≤ (q : Int) := by omega
    have hqw : (q : Int) < 16 := by omega
    obtain ⟨zs, hzs, hfz⟩ := HG.out (items l q) (fun x hx => (List.mem_filter.1 hx).1)
    obtain ⟨ak, ck, hv, hl, hup, hlow⟩ := HP.out.row hlt
    have hcr := HP.out.cell hlt
    rw [hv] at hcr
    rw [part_items, List.length_map] at hl hcr
    rw [← hzs, List.length_map] at hl hcr
    obtain ⟨mm, hm⟩ : ∃ m, m = zs.length := ⟨_, rfl⟩
    rw [← hm] at hl hcr
    have HLZ : Hid (Words.Lies w4 ak mm (zs.map (fun x => x.it.k))) := Lib.hid (by
      have e : (zs.map Got.it).map It.k = zs.map (fun x => x.it.k) := List.map_map
      rw [← e]; exact hl)
    have HM : Hid (mm ≤ 256) := Lib.hid (by
      have h1 : mm = (items l q).length := by rw [hm, ← hzs, List.length_map]
      have h2 : (items l q).length ≤ l.length := List.length_filter_le _ _
      omega)
    have HMM := Lib.hid hm
    have HZS := Lib.hid hzs
    have HFZ := Lib.hid hfz
    have HLOW : Hid (∀ x, ak = some x → x.block < w4.heap.size ∧ x.block ≠ B5) := Lib.hid (fun x hx => by have := hlow x hx; have := hup x hx; have := HP.out.base; omega)
    have HQ := Lib.hid hlt
    have hgl : g < w4.heap.size := World.block_lt_of_cell? _ _ hcr
    have hgB : B5 < g := by have := HP.out.base; omega
    have hcr2 := HKP.out.cell (q := ⟨g, q, none⟩) ⟨hgl, by show g ≠ B5; omega⟩ hcr
    clear hv hl hm hzs hfz hlow hup hlt hcr
    gi_wp2_with fail
    obtain ⟨wi, hwi⟩ : ∃ x, x = wr.alloc (.cells #[.int .i64 (q : Int)] 3) := ⟨_, rfl⟩
    have kwi : Below wr.heap.size wr wi := by rw [hwi]; exact balloc (Below.refl _ _) _
    have hsi : wi.heap.size = wr.heap.size + 1 := by rw [hwi]; simp
    have cbi : wi.cell? ⟨wr.heap.size, 0, none⟩ = some (.int .i64 (q : Int)) := by rw [hwi, World.cell?_alloc_new]; rfl
    rw [← hwi]
    clear hwi
    refine ⟨trivial, (callsIn_wide.2 (pairs_any tb ak mm ck wi)).mono ?_⟩
    rintro e w5 ⟨rfl, rfl⟩
    gi_wp2_with fail
    obtain ⟨W0, hW0⟩ : ∃ W0, ((wi.alloc (.cells #[.pointer (some ⟨tb, 0, none⟩)] 29)).alloc (.cells #[.slice ak mm ck] 42)) = W0 := ⟨_, rfl⟩
    have kW' : Below wi.heap.size wi W0 := by rw [← hW0]; exact balloc (balloc (Below.refl _ _) _) _
    have kW : Below wr.heap.size wr W0 := kwi.trans (kW'.mono (by omega))
    have hB0 : Below w.heap.size w W0 := bstep HB.out kW
    have hKP0 : Kept (fun k => k < w4.heap.size ∧ k ≠ B5) w4 W0 := HKP.out.trans (Kept.of kW)
    have hs5 : W0.heap.size = wr.heap.size + 1 + 1 + 1 := by rw [← hW0]; simp [hsi]
    have hbl := HBX.out.lt
    have hbx0 : Boxed W0 B5 35 v := (kW.block _ hbl).trans HBX.out
    have HO0 := Lib.hid (HOWN.out.below kW)
    have HL0 : Hid (Marks.Lie w4.heap.size W0.heap.size ds W0) := Lib.hid ((HLIE.out.kept (fun D _ hD hd => (kW.block D hD).trans hd)).more kW.size)
    have cb0 : W0.cell? ⟨w.heap.size, 0, none⟩ = some (.slice a nb c) := hKP0.cell (q := ⟨w.heap.size, 0, none⟩) ⟨World.block_lt_of_cell? _ _ cb4, by show w.heap.size ≠ B5; omega⟩ cb4
    have ci0 : W0.cell? ⟨wr.heap.size, 0, none⟩ = some (.int .i64 (q : Int)) := keepC cbi kW'
    have hBt : W0.cell? ⟨wr.heap.size + 1, 0, none⟩ = some (.pointer (some ⟨tb, 0, none⟩)) := by rw [← hW0, ← hsi]; exact Lib.cell?_alloc_some _ (by rw [World.cell?_alloc_new]; rfl)
    have hBk : W0.cell? ⟨wr.heap.size + 1 + 1, 0, none⟩ = some (.slice ak mm ck) := by
      have h := World.cell?_alloc_new (w := wi.alloc (.cells #[.pointer (some ⟨tb, 0, none⟩)] 29)) (c := #[.slice ak mm ck]) (i := 0) (t := 42)
      rw [World.size_alloc] at h
      rw [← hW0, ← hsi]; exact h
    have hLW0 := lies_kept HLZ.out hKP0 HLOW.out
    rw [hW0]
    clear hW0 hcr2 kW' cbi kwi hsi
    refine wpIn_rangeFunc_ownH (α := Got w l) (encs := fun x : Got w l => #[Value.string ⟨x.it.k.toArray⟩, x.val]) (Kp := Kept (fun k => k < W0.heap.size)) rfl (by decide) (gf := 50) (lb := #[.pointer (some ⟨wr.heap.size + 1 + 1, 0, none⟩), .pointer (some ⟨wr.heap.size + 1, 0, none⟩)]) rfl trivial (enters_of Tryz.func50 (by kernel_rfl) rfl)
      (pairs_stops 9 (by decide) (wr.heap.size + 1 + 1) (wr.heap.size + 1) tb mb n _ ak mm ck zs f W0 hBk hBt (keepC htc hB0) (HF.out.below hB0) hLW0 HFZ.out (fun z _ => by have := (HFINE.out z.it z.mem).1; unfold maxLen; omega) (by have := HM.out; omega) (by omega) (by have := hB0.size; omega) (by have := hB0.size; omega) (fun x hx => by have := HLOW.out x hx; omega)) Kept.trans (kept_b (fun k hk => hk) (Nat.le_refl _)) (Below.refl _ _) (fun _ => rfl)
      (fun pre W => (∃ v', Boxed W B5 35 v' ∧ W.ownsRow w4.heap.size 3 1 v' (sel cc q).length (Row.flat (Ones.enc .i64) (sel cc q)) ∧ True) ∧ (∀ x ∈ pre, ∀ p, ofL x.it.s p ≤ ofL base p) ∧ Marks.Lie w4.heap.size W0.heap.size ds W ∧ W0.heap.size ≤ W.heap.size ∧ Below w.heap.size w W ∧ Kept (fun k => k < W0.heap.size ∧ k ≠ B5) W0 W)
      (fun c pre W => (∃ v', Boxed W B5 35 v' ∧ W.ownsRow w4.heap.size 3 1 v' (sel cc q ++ [(q : Int)]).length (Row.flat (Ones.enc .i64) (sel cc q ++ [(q : Int)])) ∧ True) ∧ (c = .exit 1 ∧ ∃ x ∈ pre, ¬ ∀ p, ofL x.it.s p ≤ ofL base p) ∧ Marks.Lie w4.heap.size W0.heap.size ds W ∧ W0.heap.size ≤ W.heap.size ∧ Below w.heap.size w W ∧ Kept (fun k => k < w4.heap.size ∧ k ≠ B5) w4 W)
      (OwnFrom.and (Own.from (holdsRow_own w4.heap.size B5 35 3 1 (fun _ : List (Got w l) => (sel cc q).length) (fun _ => Row.flat (Ones.enc .i64) (sel cc q)) (fun _ _ => True)) _) (OwnFrom.and (ownFrom_pure _ (fun pre : List (Got w l) => ∀ x ∈ pre, ∀ p, ofL x.it.s p ≤ ofL base p)) (OwnFrom.and (Marks.lie_ownFrom _ _ ds) (OwnFrom.and (fun s W W' row hs hg _ => Nat.le_trans hs hg.size) (OwnFrom.and (ownFrom_below (Nat.le_refl _) (by have := hB0.size; omega)) (ownFrom_kept (fun k hk => hk.1)))))))
      (fun c => OwnFrom.and (Own.from (holdsRow_own w4.heap.size B5 35 3 1 (fun _ : List (Got w l) => (sel cc q ++ [(q : Int)]).length) (fun _ => Row.flat (Ones.enc .i64) (sel cc q ++ [(q : Int)])) (fun _ _ => True)) _) (OwnFrom.and (ownFrom_pure _ (fun pre : List (Got w l) => c = .exit 1 ∧ ∃ x ∈ pre, ¬ ∀ p, ofL x.it.s p ≤ ofL base p)) (OwnFrom.and (Marks.lie_ownFrom _ _ ds) (OwnFrom.and (fun s W W' row hs hg _ => Nat.le_trans hs hg.size) (OwnFrom.and (ownFrom_below (Nat.le_refl _) (by have := hB0.size; omega)) (ownFrom_kept (fun k hk => by have := hk.1; omega)))))))
      ⟨⟨v, hbx0, HO0.out, trivial⟩, fun x hx => (by cases hx), HL0.out, Nat.le_refl _, hB0, Kept.refl _ _⟩
      (fun x a' W => ∃ Bq, W0.heap.size ≤ Bq ∧ Bx W Bq x ∧ a' = { tmps := #[.pointer (some ⟨tb, 0, none⟩), .slice a nb c, u2, .pointer (some ⟨w.heap.size, 0, none⟩), .slice none 0 0, .pointer (some ⟨B5, 0, none⟩), .pointer (some ⟨wr.heap.size, 0, none⟩), .slice ak mm ck, u8, .pointer (some ⟨Bq, 0, none⟩), u10, u11, u12, u13, u14, u15, u16, u17, u18, .slice (some ⟨g, 0, none⟩) 16 16, .int .i64 16, .int .i64 (q : Int), .bool true, .int .i64 (q : Int), .pointer (some ⟨g, q, none⟩), .slice ak mm ck, .pointer (some ⟨tb, 0, none⟩), .slice ak mm ck, .func (.func 50) #[] #[.pointer (some ⟨wr.heap.size + 1 + 1, 0, none⟩), .pointer (some ⟨wr.heap.size + 1, 0, none⟩)], .string ⟨x.it.k.toArray⟩, x.val, u31, u32, u33, u34, u35, u36, u37, u38, u39, u40, u41], defers := [] })
      (fun x a' s W W' row hs hg hr => by obtain ⟨Bq, h1, h2, h3⟩ := hs; exact ⟨Bq, h1, (bx_own Bq x) s W W' row h2 hg (fun r e => (hr r e).2), h3⟩) ?assign ?body ?done ?stop
    case assign =>
      rintro l2 pre x W K ⟨⟨v', hb', ho', -⟩, hcv, hLie, hsz, hB, hK0⟩ hK
      have hws := hB.size
      unfold Got.val at hK ⊢
      gi_wp2
      exact hK _ _ ((KeepsOthers.alloc _ _).from _) (Kept.of (balloc (Below.refl _ _) _)) ⟨⟨v', hb'.alloc _, World.ownsRow.alloc ho' _, trivial⟩, hcv, hLie.kept (fun D _ hD hd => (Below.heap_alloc W _ D (Nat.lt_of_lt_of_le hD hsz)).trans hd), by rw [World.size_alloc]; omega, balloc hB _, hK0.trans (Kept.of (balloc (Below.refl _ _) _))⟩ ⟨W.heap.size, hsz, World.alloc_heap_new W _, rfl⟩
    case body =>
      rintro l2 pre x a' W hl2 ⟨r, hr⟩ ⟨⟨v', hb', ho', -⟩, hcv, hLie, hsz, hB, hK0⟩ ⟨Bq, hBq, hbq, rfl⟩ hlt
      obtain ⟨-, e5⟩ := hbq.cells
      have hlx := x.lies.below hB
      have hxs : x.it.s.length ≤ 1099511627776 := by
        have := (HFINE.out x.it x.mem).2.2.1
        unfold mayL at this
        split at this
        · cases this
        · omega
      have cbW := hK0.cell (q := ⟨w.heap.size, 0, none⟩) ⟨World.block_lt_of_cell? _ _ cb0, by show w.heap.size ≠ B5; omega⟩ cb0
      have ciW := hK0.cell (q := ⟨wr.heap.size, 0, none⟩) ⟨World.block_lt_of_cell? _ _ ci0, by show wr.heap.size ≠ B5; omega⟩ ci0
      have CV := Lib.hid (covers_any base x.it.s a x.a nb x.it.s.length c x.c W (HBL.out.below hB) hlx HNB.out hxs)
      have HB' := Lib.hid hb'
      have HO' := Lib.hid (show Row.Own (Ones.enc .i64) 3 W w4.heap.size v' (sel cc q) from ho')
      have HCV := Lib.hid hcv
      have HLIE' := Lib.hid hLie
      have HSZ := Lib.hid hsz
      have HB9 := Lib.hid hB
      have HK0 := Lib.hid hK0
      clear hb' ho' hcv hLie hsz hB hK0 hlx hxs hr
      gi_wp2_with fail
      refine ⟨trivial, (CallsIn.inRound l2 (callsIn_wide.2 CV.out)).mono ?_⟩
      rintro e W2 ⟨r2, rfl, hr2, kc⟩
      have hb2 : Boxed W2 B5 35 v' := (kc.block _ HB'.out.lt).trans HB'.out
      have HO2 := Lib.hid (HO'.out.below kc)
      have HL2 := Lib.hid (HLIE'.out.kept (fun D _ hD hd => (kc.block D (Nat.lt_of_lt_of_le hD HSZ.out)).trans hd))
      have HSZ2 : Hid (W0.heap.size ≤ W2.heap.size) := Lib.hid (Nat.le_trans HSZ.out kc.size)
      have HB2 := Lib.hid (bstep HB9.out kc)
      have HKc := Lib.hid (Kept.of (p := fun k => k < W0.heap.size) kc)
      have HK2 := Lib.hid (HK0.out.trans (Kept.of kc))
      have ci2 := keepC ciW kc
      have HR2 := Lib.hid hr2
      have HKO := Lib.hid (keepsOthers_below kc)
      clear kc hr2 HO' HLIE' HSZ HB9 HK0 HB' cbW ciW CV
      cases r2
      rotate_left
      · have HC2 : Hid (∀ y ∈ pre ++ [x], ∀ p, ofL y.it.s p ≤ ofL base p) := Lib.hid (fun y hy => by
          rcases List.mem_append.1 hy with h | h
          · exact HCV.out y h
          · rw [List.mem_singleton.1 h]; exact HR2.out.1 rfl)
        gi_wp2
        exact ⟨HKO.out.from _, HKc.out, ⟨v', hb2, HO2.out, trivial⟩, HC2.out, HL2.out, HSZ2.out, HB2.out, HK2.out⟩
      have HX : Hid (∃ y ∈ pre ++ [x], ¬ ∀ p, ofL y.it.s p ≤ ofL base p) := Lib.hid ⟨x, List.mem_append.2 (.inr (List.mem_singleton.2 rfl)), fun h => by cases HR2.out.2 h⟩
      have hb2A := hb2.alloc (.cells #[.int .i64 (q : Int)] 3)
      have q2 := hb2.cell
      obtain ⟨a9, c9, W9, hr9, ho9, hg9⟩ := run_push (W := W2.alloc (.cells #[.int .i64 (q : Int)] 3)) (x := (q : Int)) (b := W2.heap.size) (HO2.out.alloc _) (by rw [World.cell?_alloc_new]; rfl) (by have := sel_len cc q; have := HQ.out; omega) (by have := HSZ2.out; rw [World.size_alloc]; omega) 35
      obtain ⟨n9, hn9⟩ : ∃ n, n = (sel cc q ++ [(q : Int)]).length := ⟨_, rfl⟩
      rw [← hn9] at hr9 ho9
      have ho9' : Row.Own (Ones.enc .i64) 3 W9 w4.heap.size (.slice a9 n9 c9) (sel cc q ++ [(q : Int)]) := ho9
      obtain ⟨b9, s9, -, ko9, kb9⟩ := Boxed.appended (n₀ := B5) (B := B5) hb2 (e := 3) (by decide) (HO2.out.base (by omega)) (by have := HSZ2.out; omega) (Nat.le_refl _) (ho9'.base (by omega)) hg9
      have r9 : Row.Own (Ones.enc .i64) 3 (W9.setCell ⟨B5, 0, none⟩ (.slice a9 n9 c9)) w4.heap.size (.slice a9 n9 c9) (sel cc q ++ [(q : Int)]) := World.ownsRow.kept ho9' (grownBy_setCell' W9 B5 _) (.inr (fun e => Boxed.not_row b9 (e := 3) (by decide) ho9' e.symm))
      have hk9 : Kept (fun k => k < w4.heap.size ∧ k ≠ B5) w4 (W9.setCell ⟨B5, 0, none⟩ (.slice a9 n9 c9)) := (hKP0.trans (HK2.out.weak (fun j hj => ⟨by omega, hj.2⟩))).trans ⟨kb9.size, fun k hk hlt => by
        rw [heap_setCell_other W9 _ k _ hk.2]
        refine (hg9.block k (by rw [World.size_alloc]; omega) fun e => ?_).trans (Below.heap_alloc W2 _ k hlt)
        have := (HO2.out.lt k e.symm).1
        omega⟩
      have q9 := b9.cell
      have f9 := b9.frozen
      have HS9 := Lib.hid s9
      have HR9 := Lib.hid r9
      have HKO9 := Lib.hid (HKO.out.trans ko9)
      have HKB9 := Lib.hid (HB2.out.trans (kb9.mono (by omega)))
      have HSZ9 : Hid (W0.heap.size ≤ (W9.setCell ⟨B5, 0, none⟩ (.slice a9 n9 c9)).heap.size) := Lib.hid (Nat.le_trans HSZ2.out kb9.size)
      have HL9 := Lib.hid (HL2.out.kept (fun D _ _ hd => ko9.same D _ hd rfl))
      have HK9 := Lib.hid hk9
      clear s9 r9 ko9 kb9 hk9 ho9 ho9' hg9 hb2A HKO HKc b9 hn9
      gi_wp2_with (gi_at_builtin; refine Mark.wpListIn_app_run rfl _ _ 35 rfl v' _ _ W9 rfl rfl hr9 ?_)
      exact ⟨HKO9.out.from _, ⟨_, HS9.out, HR9.out, trivial⟩, ⟨rfl, HX.out⟩, HL9.out, HSZ9.out, HKB9.out, HK9.out⟩
    case done =>
      rintro D xs W hD rfl ⟨⟨v', hb', ho', -⟩, hcv, hLie, hsz, hB, hK0⟩ hK
      have hno : cc q = false := by
        cases h : cc q with
        | false => rfl
        | true =>
          exfalso
          obtain ⟨y, hy, hn⟩ := (HCC.out q).1 h
          rw [← HZS.out] at hy
          obtain ⟨z, hz, rfl⟩ := List.mem_map.1 hy
          exact hn (hcv z hz)
      have HS : Hid (Row.Own (Ones.enc .i64) 3 W w4.heap.size v' (sel cc (q + 1))) := Lib.hid (by rw [sel_no hno]; exact ho')
      have HK4 : Hid (Kept (fun k => k < w4.heap.size ∧ k ≠ B5) w4 W) := Lib.hid (hKP0.trans (hK0.weak (fun j hj => ⟨by have := hKP0.size; omega, hj.2⟩)))
      have HLI : Hid (Marks.Lie w4.heap.size W.heap.size ({ target := .collected D, args := #[] } :: ds) W) := Lib.hid (hLie.cons (by have := hKP0.size; omega) hD hK)
      have HBX2 := Lib.hid hb'
      have HB2 := Lib.hid hB
      have xq : IntKind.i64.wrap ((q : Int) + 1) = ((q + 1 : Nat) : Int) := by rw [IntKind.wrap_i64]; omega
      clear ho' hLie hB hb' hK hcv hK0 hno hsz
      gi_wp2_with fail
      refine ⟨⟨q + 1, v', _, _, _, _, _, _, _, _, _, _, _, _, _, _, _, _, _, _, _, _, _, _, _, _, _, _, _, _, _, _, _, _, _, _, _, by have := HQ.out; omega, HLI, HBX2, HS, HB2, HK4, rfl⟩, ?_⟩
      have := HQ.out
      simp [intOf]; omega
    case stop =>
      rintro D c2 pre W hD hpre ⟨⟨v', hb', ho', -⟩, ⟨rfl, y, hy, hn⟩, hLie, hsz, hB, hK4⟩ hK
      have hyes : cc q = true := (HCC.out q).2 ⟨y.it, by rw [← HZS.out]; exact List.mem_map_of_mem (hpre.subset hy), hn⟩
      have HS : Hid (Row.Own (Ones.enc .i64) 3 W w4.heap.size v' (sel cc (q + 1))) := Lib.hid (by rw [sel_yes hyes]; exact ho')
      have HK4 := Lib.hid hK4
      have HLI : Hid (Marks.Lie w4.heap.size W.heap.size ({ target := .collected D, args := #[] } :: ds) W) := Lib.hid (hLie.cons (by have := hKP0.size; omega) hD hK)
      have HBX2 := Lib.hid hb'
      have HB2 := Lib.hid hB
      have xq : IntKind.i64.wrap ((q : Int) + 1) = ((q + 1 : Nat) : Int) := by rw [IntKind.wrap_i64]; omega
      clear ho' hLie hB hb' hK hn hy hK4 hyes hsz hpre
      gi_wp2_with fail
      refine ⟨⟨q + 1, v', _, _, _, _, _, _, _, _, _, _, _, _, _, _, _, _, _, _, _, _, _, _, _, _, _, _, _, _, _, _, _, _, _, _, _, by have := HQ.out; omega, HLI, HBX2, HS, HB2, HK4, rfl⟩, ?_⟩
      have := HQ.out
      simp [intOf]; omega
  · skip
    obtain rfl : q = 16 := by omega
    have e1 : decide (((16 : Nat) : Int) < 16) = false := by decide
    have q5 := HBX.out.cell
    have HW := Lib.hid hwr
    obtain ⟨av, cv, rfl, -, -, -, -⟩ := HOWN.out.lies
    obtain ⟨nv, hnv⟩ : ∃ n, n = (sel cc 16).length := ⟨_, rfl⟩
    have HNV := Lib.hid hnv
    rw [← hnv] at q5
    clear hwr hnv hq hlt
    gi_wp2
    rw [Exit.noGoto_ret]
    gi_wp2
    refine Marks.leaves (B := w.heap.size) (N := wr.heap.size) ds wr (Marks_lower HLIE.out (by have := hB4.size; omega)) HB.out.size ?_
    intro w9 hs
    refine ⟨.slice av nv cv, by simp [results, Tryz.f15, go_sem], av, ⟨cv, ?_⟩, ?_, HB.out.trans hs.below⟩
    · rw [HNV.out]
    · obtain ⟨a8, c8, e8, -, -, hl8, -⟩ := (row_shut HOWN.out hs).lies
      simp only [Value.slice.injEq] at e8
      rw [e8.1]; exact hl8
end Tree
end Go.Proofs.YtjnlooccddnbkaaGreatDoor
