/- Tree: Node: a node's digest, and its vector. -/
import Derived.Test.YtjnlooccddnbkaaGreatDoorTmTreeDN
import Derived.Test.YtjnlooccddnbkaaGreatDoorTmJoin
import Derived.Test.YtjnlooccddnbkaaGreatDoorTmAlive
import Derived.Test.YtjnlooccddnbkaaGreatDoorTmBase2
import Derived.Test.YtjnlooccddnbkaaGreatDoorTmMarkApp
import Derived.Sort.CutIn
import Derived.Deep.RegionHeld3
namespace Go.Proofs.YtjnlooccddnbkaaGreatDoor
namespace Tree
open Go.RowKit Go.Shelf Go.Maps Go.Sort Go.Proofs.YtjnlooccddnbkaaGreatDoor.Mark Go.Proofs.YtjnlooccddnbkaaGreatDoor.Dots
attribute [local go_sem] Oper.semAt_some
theorem slice_rows (g lo n hi : Nat) (hh : hi = lo + n) (h : lo + n ≤ 16) (h1 : 1 ≤ n) (w : World) : (Instr.sliceAt 75 (.slice (some ⟨g, 0, none⟩) 16 16) (some (.int .i64 (lo : Int))) (some (.int .i64 (hi : Int))) none).run Tryz.prog w = .ok (.slice (some ⟨g, lo, none⟩) n (16 - lo)) w := by
  subst hh
  have hz : (sizeOf (Tryz.prog.elem 75)).run Tryz.prog w = .ok 1 w := by kernel_rfl
  rw [run_sliceAt_slice (h := by kernel_rfl), run_slice_lh (ht := by kernel_rfl) (h0 := by omega) (h1 := by omega) (h2 := by omega), hz]
  have e1 : (lo : Int).toNat = lo := by omega
  have e2 : ((lo + n : Nat) : Int).toNat = lo + n := by omega
  simp only [Result.andThen_ok, sliced, e1, e2]
  rw [show lo + n - lo = n by omega]
  have h0 : ¬ 16 = lo := by omega
  by_cases h2 : lo = 0
  · subst h2; simp [Addr.add]
  · simp [Addr.add, h0, h2]
theorem shl_nat (k x : Nat) (hx : x = 2 ^ k) (h : x ≤ 16) : wrap64 ((2 : Int) ^ k) = (x : Int) := by
  have : (2 : Int) ^ k = (x : Int) := by rw [hx]; exact (Int.natCast_pow 2 k).symm
  rw [this]; unfold wrap64; omega
theorem may_len {L : List M} (h : mayL L = true) : L.length ≤ 512 := by
  unfold mayL at h
  split at h
  · cases h
  · omega
theorem flat_len (l : List It) (h : ∀ x ∈ l, x.s.length ≤ 512) : (l.flatMap It.s).length ≤ l.length * 512 := by
  induction l with
  | nil => exact Nat.zero_le _
  | cons x l ih =>
    rw [List.flatMap_cons, List.length_append, List.length_cons]
    have h1 := h x (List.mem_cons_self ..)
    have h2 := ih (fun y hy => h y (List.mem_cons_of_mem _ hy))
    omega
theorem seen_len (l : List It) (h : ∀ x ∈ l, x.s.length ≤ 512) (hl : l.length ≤ 256) (lo : Nat) : ∀ n, (seen l lo n).length ≤ n * 131072
  | 0 => Nat.zero_le _
  | n + 1 => by
    have h1 := seen_len l h hl lo n
    have h2 := flat_len (items l (lo + n)) (fun x hx => h x (List.mem_filter.1 hx).1)
    have h3 : (items l (lo + n)).length ≤ l.length := List.length_filter_le _ _
    show (seen l lo n ++ (items l (lo + n)).flatMap It.s).length ≤ _
    rw [List.length_append]
    omega
/-- Where the own row lies now: where it lay, or in a new block. -/
def Place (N : Nat) (v0 v : Value) : Prop := v.ownBlock = v0.ownBlock ∨ ∃ k, N ≤ k ∧ v.ownBlock = some k
theorem own_shut {B C : Nat} {w w' : World} {v : Value} {L : List M} (h : Mark.Own w C v L) (k : Marks.Shut B w w') : Mark.Own w' C v L := by
  refine ⟨h.1, ?_⟩
  rcases h.2 with h' | ⟨g, cap, cur, e, hB, hg, hr⟩
  · exact .inl h'
  · exact .inr ⟨g, cap, cur, e, hB, k.cells g _ rfl hg, hr⟩

set_option maxRecDepth 100000 in
set_option maxHeartbeats 4000000 in
theorem node_in (w : World) (tb mb n : Nat) (l : List It) (deep i m : Nat) (h : Is w tb mb n l) (ht : Sha.Tabs w) (h2 : 2 ≤ w.heap.size) (hd : deep + m = 4) (hi : i < 2 ^ deep) :
    CallsIn Fence.wide 10 Tryz.prog 19 #[.pointer (some ⟨tb, 0, none⟩), .int .i64 (deep : Int), .int .i64 (i : Int)] w fun e w' => ∃ (v : Value) (R : List M), e = .returned (.tuple #[.string ⟨(dig l m i).toArray⟩, v]) ∧ IsVec R (ofL (seen l (i * 2 ^ m) (2 ^ m))) ∧ R.length ≤ 2097152 ∧ Mark.Own w' w.heap.size v R ∧ Below w.heap.size w w' := by
  obtain ⟨ww, hww⟩ : ∃ x, x = 2 ^ m := ⟨_, rfl⟩
  obtain ⟨dd, hdd⟩ : ∃ x, x = 2 ^ deep := ⟨_, rfl⟩
  have hdw : dd * ww = 16 := by rw [hdd, hww, ← Nat.pow_add, hd]
  rw [← hdd] at hi
  rw [← hww]
  obtain ⟨lo, hlo⟩ : ∃ x, x = i * ww := ⟨_, rfl⟩
  have hwp : 1 ≤ ww := by rw [hww]; exact Nat.one_le_two_pow
  have hdp : 1 ≤ dd := by rw [hdd]; exact Nat.one_le_two_pow
  have hlw : lo + ww ≤ 16 := by have h1 := Nat.mul_le_mul_right ww (show i + 1 ≤ dd by omega); rw [Nat.add_mul, Nat.one_mul, ← hlo, hdw] at h1; exact h1
  have hw16 : ww ≤ 16 := by omega
  have hd16 : dd ≤ 16 := by have h1 := Nat.mul_le_mul_left dd hwp; omega
  rw [← hlo]
  have HS1 := Lib.hid (shl_nat deep dd hdd hd16)
  have HS2 := Lib.hid (shl_nat m ww hww hw16)
  have HDD := Lib.hid hdd
  clear hww hdd hdw
  have TH := Lib.hid (there_any w tb mb h.cell)
  have SH := Lib.hid (shards_any w tb mb n l h ht)
  have DG := Lib.hid (fun w' (k : Below w.heap.size w w') B g V (hp : Parts.Is w' B g 16 V (Shard.part (l.map It.k))) => dig_any tb mb n l B g V m deep i w' hd (by rw [← HDD.out]; exact hi) (h.below k) hp (ht.below k) (Nat.le_trans h2 k.size))
  obtain ⟨f, hf, he⟩ := h.map
  have HG := Lib.hid (fun its (hi : ∀ x ∈ its, x ∈ l) => got_list h he its hi)
  have HF := Lib.hid hf
  have HFINE := Lib.hid h.fine
  have htl := h.tlt
  have hml := h.mlt
  have htc := h.cell
  have hsm := h.small
  have d1 : decide ((deep : Int) < 0) = false := decide_eq_false (by omega)
  have d2 : decide ((deep : Int) > 4) = false := decide_eq_false (by omega)
  have d3 : decide ((4 : Int) < (deep : Int)) = false := decide_eq_false (by omega)
  have d4 : decide ((i : Int) < 0) = false := decide_eq_false (by omega)
  have d5 : decide ((dd : Int) ≤ (i : Int)) = false := decide_eq_false (by omega)
  have d6 : decide ((i : Int) ≥ (dd : Int)) = false := decide_eq_false (by omega)
  have d7 : decide (dd ≤ i) = false := decide_eq_false (by omega)
  have x1 : IntKind.i64.wrap (4 - (deep : Int)) = (m : Int) := by rw [IntKind.wrap_i64]; omega
  have x2 : IntKind.i64.wrap ((i : Int) * (ww : Int)) = (lo : Int) := by rw [← Int.natCast_mul, ← hlo, IntKind.wrap_i64]; omega
  have x3 : IntKind.i64.wrap ((i : Int) + 1) = (i : Int) + 1 := by rw [IntKind.wrap_i64]; omega
  obtain ⟨hiN, hhi⟩ : ∃ x, x = lo + ww := ⟨_, rfl⟩
  have HHI := Lib.hid hhi
  have x4 : IntKind.i64.wrap (((i : Int) + 1) * (ww : Int)) = (hiN : Int) := by
    have e : ((i : Int) + 1) * (ww : Int) = (hiN : Int) := by rw [Int.add_mul, Int.one_mul, ← Int.natCast_mul, ← hlo]; omega
    rw [e, IntKind.wrap_i64]; omega
  have H2 := Lib.hid (And.intro h2 (And.intro hsm hd))
  have hs1 := HS1.out
  have hs2 := HS2.out
  clear hhi
  clear h ht hf he hlo HS1 HS2 h2 hi hdp hd16 hsm
  refine callsIn_of_wp_marks Tryz.func19 rfl trivial ?_ rfl
  simp only [Tryz.ntmps19, List.size_toArray, List.length_cons, List.length_nil, Nat.reduceAdd, Nat.reduceSub, Array.replicate_succ, Array.replicate_zero, List.push_toArray, List.append_toArray, List.nil_append, List.cons_append]
  gi_wp2_with fail
  refine ⟨trivial, (callsIn_wide.2 TH.out).mono ?_⟩
  rintro e w1 ⟨rfl, rfl⟩
  gi_wp2_with fail
  refine ⟨trivial, (callsIn_wide.2 SH.out).mono ?_⟩
  rintro e w2 ⟨g, V, rfl, hp, k2⟩
  have HP := Lib.hid hp
  have hsl := fun w => slice_rows g lo ww hiN HHI.out hlw hwp w
  have hs3 := k2.size
  clear hp TH SH
  gi_upto_region 6 with (fail)
  gi_wp2_with fail
  rw [hs2]
  clear hsl x1 x2 x3 x4 d1 d2 d3 d4 d5 d6 d7 hs1 hs2
  refine wpIn_loop (fun a w' => ∃ (q : Nat) (v : Value) (ds : List Deferred) (u3 u4 u5 u6 u7 u11 u12 u13 u14 u15 u16 u17 u18 u19 u20 u21 u22 u23 u24 u25 u26 u27 u28 u29 u30 u31 u32 u33 u34 u35 u36 u37 u38 u39 u40 u41 u42 u43 u44 u45 u46 u47 u48 u52 u53 u54 u55 u56 u57 u58 u59 u60 u61 u62 u63 u64 u65 u66 u67 u68 u69 u70 u71 : Value), q ≤ ww ∧ Hid (Marks.Lie w2.heap.size w'.heap.size ds w') ∧ Hid (Boxed w' w2.heap.size 23 v) ∧ Hid (Mark.Own w' w2.heap.size v (seen l lo q)) ∧ Hid (Below w2.heap.size w2 w') ∧ a = { tmps := #[.pointer (some ⟨tb, 0, none⟩), .int .i64 (deep : Int), .int .i64 (i : Int), u3, u4, u5, u6, u7, .slice (some ⟨g, 0, none⟩) 16 16, .int .i64 (ww : Int), .pointer (some ⟨w2.heap.size, 0, none⟩), u11, u12, u13, u14, u15, u16, u17, u18, u19, u20, u21, u22, u23, u24, u25, u26, u27, u28, u29, u30, u31, u32, u33, u34, u35, u36, u37, u38, u39, u40, u41, u42, u43, u44, u45, u46, u47, u48, .slice (some ⟨g, lo, none⟩) ww (16 - lo), .int .i64 (ww : Int), .int .i64 (q : Int), u52, u53, u54, u55, u56, u57, u58, u59, u60, u61, u62, u63, u64, u65, u66, u67, u68, u69, u70, u71], defers := ds })
    (fun a _ => ww - (intOf (a.tmps.getD 51 undef)).toNat) ⟨0, .slice none 0 0, [], _, _, _, _, _, _, _, _, _, _, _, _, _, _, _, _, _, _, _, _, _, _, _, _, _, _, _, _, _, _, _, _, _, _, _, _, _, _, _, _, _, _, _, _, _, _, _, _, _, _, _, _, _, _, _, _, _, _, _, _, _, _, _, Nat.zero_le _, Lib.hid trivial, Lib.hid (Boxed.new _ _ _), Lib.hid (Mark.Own.nil _ _), Lib.hid (balloc (Below.refl _ _) _), rfl⟩ ?_
  rintro a' wr ⟨q, v, ds, u3, u4, u5, u6, u7, u11, u12, u13, u14, u15, u16, u17, u18, u19, u20, u21, u22, u23, u24, u25, u26, u27, u28, u29, u30, u31, u32, u33, u34, u35, u36, u37, u38, u39, u40, u41, u42, u43, u44, u45, u46, u47, u48, u52, u53, u54, u55, u56, u57, u58, u59, u60, u61, u62, u63, u64, u65, u66, u67, u68, u69, u70, u71, hq, HLIE, HBX, HOWN, HB, rfl⟩
  by_cases hlt : q < ww
  · skip
    have e1 : decide ((q : Int) < (ww : Int)) = true := decide_eq_true (by omega)
    have e2 : decide (q < ww) = true := decide_eq_true hlt
    have hq16 : lo + q < 16 := by omega
    have h0q : (0 : Int) ≤ (q : Int) := by omega
    have hqw : (q : Int) < (ww : Int) := by omega
    obtain ⟨zs, hzs, hfz⟩ := HG.out (items l (lo + q)) (fun x hx => (List.mem_filter.1 hx).1)
    obtain ⟨a, c, hv, hl, -, hlow⟩ := HP.out.row hq16
    have hcr := keepC (HP.out.cell hq16) HB.out
    rw [hv] at hcr
    rw [part_items, List.length_map] at hl hcr
    rw [← hzs, List.length_map] at hl hcr
    obtain ⟨mm, hm⟩ : ∃ m, m = zs.length := ⟨_, rfl⟩
    rw [← hm] at hl hcr
    have HLZ : Hid (Words.Lies w2 a mm (zs.map (fun x => x.it.k))) := Lib.hid (by
      have e : (zs.map Got.it).map It.k = zs.map (fun x => x.it.k) := List.map_map
      rw [← e]; exact hl)
    have HM : Hid (mm ≤ 256) := Lib.hid (by
      have h1 : mm = (items l (lo + q)).length := by rw [hm, ← hzs, List.length_map]
      have h2 : (items l (lo + q)).length ≤ l.length := List.length_filter_le _ _
      have := H2.out.2.1
      omega)
    have HMM := Lib.hid hm
    have HZS := Lib.hid hzs
    have HFZ := Lib.hid hfz
    have HLOW := Lib.hid hlow
    have HQ := Lib.hid hlt
    have hwr := HB.out.size
    have hbl := HBX.out.lt
    clear hv hl hm hzs hfz hlow hlt
    gi_wp2_with fail
    refine ⟨trivial, (callsIn_wide.2 (pairs_any tb a mm c wr)).mono ?_⟩
    rintro e w5 ⟨rfl, rfl⟩
    gi_wp2_with fail
    obtain ⟨W0, hW0⟩ : ∃ W0, ((wr.alloc (.cells #[.pointer (some ⟨tb, 0, none⟩)] 29)).alloc (.cells #[.slice a mm c] 42)) = W0 := ⟨_, rfl⟩
    have kW : Below wr.heap.size wr W0 := by rw [← hW0]; exact balloc (balloc (Below.refl _ _) _) _
    have hB0 : Below w2.heap.size w2 W0 := HB.out.trans (kW.mono hwr)
    have hs4 : W0.heap.size = wr.heap.size + 1 + 1 := by rw [← hW0]; simp
    have hBw : Below w.heap.size w W0 := k2.trans (hB0.mono hs3)
    have hbx0 : Boxed W0 w2.heap.size 23 v := (kW.block _ hbl).trans HBX.out
    have HO0 := Lib.hid (HOWN.out.below kW)
    have HL0 : Hid (Marks.Lie w2.heap.size W0.heap.size ds W0) := Lib.hid ((HLIE.out.kept (fun D _ hD hd => (kW.block D hD).trans hd)).more kW.size)
    have hBt : W0.cell? ⟨wr.heap.size, 0, none⟩ = some (.pointer (some ⟨tb, 0, none⟩)) := by rw [← hW0]; exact Lib.cell?_alloc_some _ (by rw [World.cell?_alloc_new]; rfl)
    have hBk : W0.cell? ⟨wr.heap.size + 1, 0, none⟩ = some (.slice a mm c) := by
      have h := World.cell?_alloc_new (w := wr.alloc (.cells #[.pointer (some ⟨tb, 0, none⟩)] 29)) (c := #[.slice a mm c]) (i := 0) (t := 42)
      rw [World.size_alloc] at h
      rw [← hW0]; exact h
    have hown0 : ∀ k, v.ownBlock = some k → w2.heap.size ≤ k ∧ k < wr.heap.size := fun k e => Mark.own_lt HOWN.out e
    have hne0 : v.ownBlock ≠ some w2.heap.size := fun e => Boxed.not_row HBX.out (by decide) HOWN.out e.symm
    rw [hW0]
    clear hW0 hcr
    refine wpIn_rangeFunc_ownH (α := Got w l) (encs := fun x : Got w l => #[Value.string ⟨x.it.k.toArray⟩, x.val]) (Kp := Kept (fun k => k < W0.heap.size ∧ k ≠ w2.heap.size ∧ v.ownBlock ≠ some k)) rfl (by decide) (gf := 50) (lb := #[.pointer (some ⟨wr.heap.size + 1, 0, none⟩), .pointer (some ⟨wr.heap.size, 0, none⟩)]) rfl trivial (enters_of Tryz.func50 (by kernel_rfl) rfl)
      (pairs_stops 9 (by decide) (wr.heap.size + 1) wr.heap.size tb mb n _ a mm c zs f W0 hBk hBt (keepC htc hBw) (HF.out.below hBw) (HLZ.out.below hB0) HFZ.out (fun z _ => by have := (HFINE.out z.it z.mem).1; unfold maxLen; omega) (by have := HM.out; omega) ⟨by omega, by omega, fun e => by have := (hown0 _ e).2; omega⟩ ⟨by omega, by omega, fun e => by have := (hown0 _ e).1; omega⟩ ⟨by omega, by omega, fun e => by have := (hown0 _ e).1; omega⟩ (fun x hx => by have := HLOW.out x hx; exact ⟨by omega, by omega, fun e => by have := (hown0 _ e).1; omega⟩)) Kept.trans (kept_b (fun k hk => hk.1) (Nat.le_refl _)) (Below.refl _ _) (fun _ => rfl)
      (fun pre W => (∃ v', Boxed W w2.heap.size 23 v' ∧ W.ownsRow w2.heap.size 68 2 v' (seen l lo q ++ (pre.map Got.it).flatMap It.s).length (Mark.flat (seen l lo q ++ (pre.map Got.it).flatMap It.s)) ∧ Place W0.heap.size v v') ∧ Marks.Lie w2.heap.size W0.heap.size ds W ∧ W0.heap.size ≤ W.heap.size ∧ Below w2.heap.size w2 W)
      (fun _ _ _ => False)
      (OwnFrom.and (Own.from (holdsRow_own w2.heap.size w2.heap.size 23 68 2 (fun pre : List (Got w l) => (seen l lo q ++ (pre.map Got.it).flatMap It.s).length) (fun pre => Mark.flat (seen l lo q ++ (pre.map Got.it).flatMap It.s)) (fun _ v' => Place W0.heap.size v v')) _) (OwnFrom.and (Marks.lie_ownFrom _ _ ds) (OwnFrom.and (fun s W W' row hs hg _ => Nat.le_trans hs hg.size) (ownFrom_below (by omega) (by omega)))))
      (fun _ _ _ _ _ hs _ _ => hs)
      ⟨⟨v, hbx0, by rw [show (([] : List (Got w l)).map Got.it).flatMap It.s = [] from rfl, List.append_nil]; exact HO0.out, .inl rfl⟩, HL0.out, Nat.le_refl _, hB0⟩
      (fun x a' W => ∃ Bq, W0.heap.size ≤ Bq ∧ Bx W Bq x ∧ a' = { tmps := #[.pointer (some ⟨tb, 0, none⟩), .int .i64 (deep : Int), .int .i64 (i : Int), u3, u4, u5, u6, u7, .slice (some ⟨g, 0, none⟩) 16 16, .int .i64 (ww : Int), .pointer (some ⟨w2.heap.size, 0, none⟩), u11, .slice a mm c, u13, .pointer (some ⟨Bq, 0, none⟩), u15, u16, u17, u18, u19, u20, u21, u22, u23, u24, u25, u26, u27, u28, u29, u30, u31, u32, u33, u34, u35, u36, u37, u38, u39, u40, u41, u42, u43, u44, u45, u46, u47, u48, .slice (some ⟨g, lo, none⟩) ww (16 - lo), .int .i64 (ww : Int), .int .i64 (q : Int), .bool true, .pointer (some ⟨g, lo + q, none⟩), .slice a mm c, .pointer (some ⟨tb, 0, none⟩), .slice a mm c, .func (.func 50) #[] #[.pointer (some ⟨wr.heap.size + 1, 0, none⟩), .pointer (some ⟨wr.heap.size, 0, none⟩)], .string ⟨x.it.k.toArray⟩, x.val, u60, u61, u62, u63, u64, u65, u66, u67, u68, u69, u70, u71], defers := [] })
      (fun x a' s W W' row hs hg hr => by obtain ⟨Bq, h1, h2, h3⟩ := hs; exact ⟨Bq, h1, (bx_own Bq x) s W W' row h2 hg (fun r e => (hr r e).2), h3⟩) ?assign ?body ?done ?stop
    case assign =>
      rintro l2 pre x W K ⟨⟨v', hb', ho', hv'⟩, hLie, hsz, hB⟩ hK
      have hws := hB.size
      unfold Got.val at hK ⊢
      gi_wp2
      exact hK _ _ ((KeepsOthers.alloc _ _).from _) (Kept.of (balloc (Below.refl _ _) _)) ⟨⟨v', hb'.alloc _, World.ownsRow.alloc ho' _, hv'⟩, hLie.kept (fun D _ hD hd => (Below.heap_alloc W _ D (Nat.lt_of_lt_of_le hD hsz)).trans hd), by rw [World.size_alloc]; omega, hB.trans (balloc (Below.refl W.heap.size W) _ |>.mono hws)⟩ ⟨W.heap.size, hsz, World.alloc_heap_new W _, rfl⟩
    case body =>
      rintro l2 pre x a' W hl2 ⟨r, hr⟩ ⟨⟨v', hb', ho', hv'⟩, hLie, hsz, hB⟩ ⟨Bq, hBq, hbq, rfl⟩ hlt
      obtain ⟨-, e5⟩ := hbq.cells
      have q1 := hb'.cell
      have hlx := x.lies.below (k2.trans (hB.mono hs3))
      have hfive : ∀ y ∈ l, y.s.length ≤ 512 := fun y hy => may_len (HFINE.out y hy).2.2.1
      have hl1 := seen_len l hfive H2.out.2.1 lo q
      have hl2 := flat_len (pre.map Got.it) (fun y hy => by obtain ⟨z, _, rfl⟩ := List.mem_map.1 hy; exact hfive _ z.mem)
      rw [List.length_map] at hl2
      have hl3 := hfive _ x.mem
      have hl4 : (seen l lo q ++ (pre.map Got.it).flatMap It.s).length + x.it.s.length ≤ 1099511627776 := by
        have h1 := HMM.out
        have h2 := HM.out
        rw [List.length_append]
        omega
      have hBW : w2.heap.size ≤ W.heap.size := hB.size
      have HX : Hid (seen l lo q ++ ((pre ++ [x]).map Got.it).flatMap It.s = (seen l lo q ++ (pre.map Got.it).flatMap It.s) ++ x.it.s) := Lib.hid (by rw [List.map_append, List.flatMap_append, ← List.append_assoc]; simp)
      obtain ⟨LL, hLL⟩ : ∃ L, L = seen l lo q ++ (pre.map Got.it).flatMap It.s := ⟨_, rfl⟩
      rw [← hLL] at ho' hl4 HX
      obtain ⟨a9, c9, W9, hr9, ho9, hg9, hp9⟩ := Mark.run_app (v := v') (L := LL) (K := x.it.s) (c := x.c) ho' hlx hl4 hBW 23
      obtain ⟨n9, hn9⟩ : ∃ n, n = (LL ++ x.it.s).length := ⟨_, rfl⟩
      rw [← hn9] at hr9 ho9 hp9
      obtain ⟨b9, s9, r9, ko9, kb9⟩ := Mark.box_app hb' ho' hg9 ho9 (by decide) (Nat.le_refl _) hBW
      have q9 := b9.cell
      have f9 := b9.frozen
      have HR9 := Lib.hid r9
      have HKO := Lib.hid ko9
      have HKB := Lib.hid kb9
      have HS9 := Lib.hid s9
      have HPL : Hid (Place W0.heap.size v (.slice a9 n9 c9)) := Lib.hid (by
        rcases hp9 with h | h
        · rcases hv' with k | ⟨j, hj, k⟩
          · exact .inl (h.trans k)
          · exact .inr ⟨j, hj, h.trans k⟩
        · exact .inr ⟨_, hsz, h⟩)
      have HKP : Hid (Kept (fun k => k < W0.heap.size ∧ k ≠ w2.heap.size ∧ v.ownBlock ≠ some k) W (W9.setCell ⟨w2.heap.size, 0, none⟩ (.slice a9 n9 c9))) := Lib.hid ⟨HKB.out.size, fun k hk hlt => by
        rw [heap_setCell_other W9 _ k _ hk.2.1]
        refine hg9.block k hlt fun e => ?_
        rcases hv' with h | ⟨j, hj, h⟩
        · rw [h] at e; exact hk.2.2 e.symm
        · rw [h] at e; cases e; omega⟩
      have HB9 := Lib.hid hB
      have HLI := Lib.hid hLie
      have HBX' := Lib.hid hb'
      clear r9 ko9 kb9 s9 b9 ho9 hg9 hp9 ho' hlx hl1 hl2 hl3 hl4 hLL hn9 hfive hlt hv' hB hLie hb'
      gi_wp2_with (gi_at_builtin; refine Mark.wpListIn_app_run rfl _ _ 23 rfl v' _ _ W9 rfl rfl hr9 ?_)
      refine ⟨HKO.out.from _, HKP.out, ⟨_, HS9.out, by rw [HX.out]; exact HR9.out, HPL.out⟩, HLI.out.kept (fun D _ _ hd => HKO.out.same D _ hd rfl), by have := HKB.out.size; omega, HB9.out.trans HKB.out⟩
    case done =>
      rintro D xs W hD rfl ⟨⟨v', hb', ho', hv'⟩, hLie, hsz, hB⟩ hK
      have HS : Hid (Mark.Own W w2.heap.size v' (seen l lo (q + 1))) := Lib.hid (by rw [HZS.out] at ho'; exact ho')
      have HLI : Hid (Marks.Lie w2.heap.size W.heap.size ({ target := .collected D, args := #[] } :: ds) W) := Lib.hid (hLie.cons (by omega) hD hK)
      have HBX2 := Lib.hid hb'
      have HB2 := Lib.hid hB
      have xq : IntKind.i64.wrap ((q : Int) + 1) = ((q + 1 : Nat) : Int) := by rw [IntKind.wrap_i64]; omega
      clear ho' hv' hLie hB hb' hK
      gi_wp2_with fail
      refine ⟨⟨q + 1, v', _, _, _, _, _, _, _, _, _, _, _, _, _, _, _, _, _, _, _, _, _, _, _, _, _, _, _, _, _, _, _, _, _, _, _, _, _, _, _, _, _, _, _, _, _, _, _, _, _, _, _, _, _, _, _, _, _, _, _, _, _, _, _, _, by have := HQ.out; omega, HLI, HBX2, HS, HB2, rfl⟩, ?_⟩
      have := HQ.out
      simp [intOf]; omega
    case stop =>
      rintro D c pre W _ _ h _
      exact h.elim
  · skip
    obtain rfl : q = ww := by omega
    have e1 : decide ((q : Int) < (q : Int)) = false := decide_eq_false (by omega)
    have e2 : decide (q < q) = false := decide_eq_false (by omega)
    have hwr := HB.out.size
    obtain ⟨av, cv, rfl, -, -, hlv, -⟩ := HOWN.out.lies
    obtain ⟨nv, hnv⟩ : ∃ n, n = (seen l lo q).length := ⟨_, rfl⟩
    rw [← hnv] at hlv HBX
    have hbw : Below w.heap.size w wr := k2.trans (HB.out.mono hs3)
    have hnv2 : nv ≤ 2097152 := by
      have h1 := seen_len l (fun y hy => may_len (HFINE.out y hy).2.2.1) H2.out.2.1 lo q
      omega
    have hnl : nv ≤ 1099511627776 := by omega
    have HN2 := Lib.hid hnv2
    have DIG := Lib.hid (fun W (k : Below wr.heap.size wr W) => DG.out W (bstep hbw k) _ g V (HP.out.below (HB.out.trans (k.mono hwr))))
    have JOI := Lib.hid (fun W (k : Below wr.heap.size wr W) => join_any (seen l lo q) [] av none nv 0 cv 0 W (hlv.below k) (Mark.Lies.nil _ _) hnl (by decide))
    have HV : Hid (∀ J, IsVec J (fun x => max (ofL (seen l lo q) x) (ofL [] x)) → IsVec J (ofL (seen l lo q))) := Lib.hid (fun J hJ => by
      have e : (fun x => max (ofL (seen l lo q) x) (ofL [] x)) = ofL (seen l lo q) := funext fun x => Nat.max_zero _
      rwa [e] at hJ)
    have HWR := Lib.hid hbw
    have q1 := HBX.out.cell
    have hmx : Tryz.prog.follows .mixedOrders = true := by kernel_rfl
    have k0 : Below wr.heap.size wr wr.drew := Below.drew (Below.refl _ _)
    have hnd := HP.out
    clear hnd hlv hnl hbw hnv hnv2 HG HF HOWN
    gi_wp2_with fail
    refine Code.wpIn_mono NoPanic.imp ?_
    gi_region_with_o (first
      | (refine ⟨trivial, ?_⟩; gi_at_call 41; refine (callsIn_wide.2 (DIG.out _ (by first | exact k0 | assumption))).mono ?_; rintro e wD ⟨rfl, kD⟩
         have kD2 : Below wr.heap.size wr wD := by first | exact bstep kJ2 kD | exact bstep k0 kD
         have qD := keepC q1 kD2
         try (have HOD := Lib.hid (HOJ.out.below kD))
         clear kD)
      | (refine ⟨trivial, ?_⟩; gi_at_call 25; refine (callsIn_wide.2 (JOI.out _ (by first | exact k0 | assumption))).mono ?_; rintro e wJ ⟨vJ, J, rfl, hJ, hlJ, hOJ, kJ⟩
         have kJ2 : Below wr.heap.size wr wJ := by first | exact bstep kD2 kJ | exact bstep k0 kJ
         have HJ := Lib.hid (HV.out J hJ)
         have HLJ : Hid (J.length ≤ 2097152) := Lib.hid (by have := HN2.out; omega)
         have HOJ : Hid (Mark.Own wJ w.heap.size vJ J) := Lib.hid (hOJ.base (by first | exact Nat.le_trans HWR.out.size kD2.size | exact HWR.out.size))
         clear kJ hOJ hJ hlJ))
    all_goals refine NoPanic.normal ?_
    all_goals gi_wp2
    all_goals first
      | (refine Marks.leaves (B := w2.heap.size) (N := wr.heap.size) ds _ (HLIE.out.kept (fun D _ hD hd => (kJ2.block D hD).trans hd)) (Nat.le_trans hwr kJ2.size) ?_
         intro w9 hs
         exact ⟨.tuple #[.string ⟨(dig l m i).toArray⟩, vJ], by simp [results, Tryz.f19, go_sem], vJ, J, rfl, HJ.out, HLJ.out, own_shut HOJ.out hs, (bstep HWR.out kJ2).trans (hs.below.mono hs3)⟩)
      | (refine Marks.leaves (B := w2.heap.size) (N := wr.heap.size) ds _ (HLIE.out.kept (fun D _ hD hd => (kD2.block D hD).trans hd)) (Nat.le_trans hwr kD2.size) ?_
         intro w9 hs
         exact ⟨.tuple #[.string ⟨(dig l m i).toArray⟩, vJ], by simp [results, Tryz.f19, go_sem], vJ, J, rfl, HJ.out, HLJ.out, own_shut HOD.out hs, (bstep HWR.out kD2).trans (hs.below.mono hs3)⟩)
end Tree
end Go.Proofs.YtjnlooccddnbkaaGreatDoor
