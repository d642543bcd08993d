/- HealthTells: the walk. -/
import Derived.Test.YtfdcmmafdgagoaaBeatUse
namespace Go.Proofs.Ytfdcmmafdgagoaa
namespace HealthTells
open Go.RowKit Go.Proofs.Ytfdcmmafdgagoaa.Order Go.Proofs.Ytfdcmmafdgagoaa.Beat
theorem path_no {q : List UInt8} {b : Bool} (h : pathB q = b) : decide (Path.parse q ≠ []) = b := (path_iff q).trans h
def GotW (R : List (List UInt8)) (w : World) (e : Ending) (w' : World) : Prop := ∃ s c, e = .returned (.slice s R.length c) ∧ Words.Lies w' s R.length R ∧ Below w.heap.size w w'
def GotN (n : Nat) (w : World) (e : Ending) (w' : World) : Prop := ∃ s c, e = .returned (.slice s n c) ∧ Below w.heap.size w w'
theorem gotN {R : List B} {n : Nat} {f : FuncId} {args : Array Value} {w : World} (h : Calls Try.prog f args w (Got R w)) (hn : R.length = n) : Calls Try.prog f args w (GotN n w) := by
  refine h.mono ?_
  rintro e w' ⟨s, c, rfl, _, k⟩
  exact ⟨s, c, by rw [hn], k⟩
theorem gotWN {R : List (List UInt8)} {n : Nat} {f : FuncId} {args : Array Value} {w : World} (h : Calls Try.prog f args w (GotW R w)) (hn : R.length = n) : Calls Try.prog f args w (GotN n w) := by
  refine h.mono ?_
  rintro e w' ⟨s, c, rfl, _, k⟩
  exact ⟨s, c, by rw [hn], k⟩
theorem bad_got {L : List B} {R : List (List UInt8)} {s : Option Addr} {c : Nat} {w : World} (hR : badS L = R) (h : Came w s c L) (hs : Small L) : Calls Try.prog 11 #[.slice s L.length c] w (GotW R w) := by
  refine (bad_any L s c w h.1 hs).mono ?_
  rintro e w' ⟨v, rfl, o, k⟩
  rw [hR] at o
  obtain ⟨a, c, rfl, _, _, h3, _⟩ := Row.Own.lies' o
  exact ⟨a, c, rfl, h3, k⟩
theorem same_is {R : List B} {s s2 : Option Addr} {c c2 : Nat} {w : World} (h : Lies w s R.length R) (h2 : Lies w s2 R.length R) (hn : R.length ≤ 1000) :
    Calls Try.prog 17 #[.slice s R.length c, .slice s2 R.length c2] w fun e w' => e = .returned (.bool true) ∧ Below w.heap.size w w' := by
  refine (same_any R R s s2 c c2 w h h2 (by omega)).mono ?_
  rintro e w' ⟨rfl, k⟩
  exact ⟨by rw [decide_eq_true rfl], k⟩
theorem bad_at (L : List B) (k : Nat) (hk : k < L.length) (hb : L[k].bad = true) : (badL (L.take k)).length < (badL L).length ∧ (badL L)[(badL (L.take k)).length]? = some L[k].p := by
  have h1 := badL_step L k hk
  rw [hb, if_pos rfl] at h1
  have h2 : badL L = badL (L.take (k + 1)) ++ badL (L.drop (k + 1)) := by
    unfold badL
    rw [← List.map_append, ← List.filter_append, List.take_append_drop]
  rw [h2, h1]
  refine ⟨by simp, ?_⟩
  simp
theorem is_of {L : List B} {q : List UInt8} (hm : mayB L = true) (h : (Beat.look L q).isSome = true) : pathB q = true ∧ isB L q = true := by
  cases hl : Beat.look L q with
  | none => rw [hl] at h; cases h
  | some x =>
    obtain ⟨e, hx⟩ := look_some hl
    have hp : pathB q = true := by rw [← e]; exact ((may_facts hm).2.1 x hx).2
    refine ⟨hp, ?_⟩
    unfold isB hasB
    rw [hm, hp, hl]; rfl
theorem drop_go (L : List B) (q : List UInt8) (k : Nat) (hk : k < L.length) : dropL (L.take (k + 1)) [q] = dropL (L.take k) [q] ++ (if L[k].p = q then [] else [L[k]]) := by
  rw [dropL_step L [q] k hk]
  by_cases h : L[k].p = q
  · rw [if_pos h, if_pos (by simp [h])]
  · rw [if_neg h, if_neg (by simp [h])]
theorem merge_len (L K : List B) (n : Nat) (h : L.length ≤ n) (h2 : K.length ≤ n) : (mergeL L K).length ≤ 2 * n := by have := merge_length L K; omega

set_option maxRecDepth 100000 in
set_option maxHeartbeats 40000000 in
theorem walk (a0 : List Beat.B) (s0 : Option Addr) (c0 : Nat) (a1 : List Beat.B) (s1 : Option Addr) (c1 : Nat) (a2 : ByteArray) (w : World) (w0 : ∀ x ∈ a0, x.Was) (l0 : Beat.Came w s0 c0 a0) (w1 : ∀ x ∈ a1, x.Was) (l1 : Beat.Came w s1 c1 a1) (w2 : a2.size ≤ maxLen) (_ : a2.size ≤ 140737488351232) :
    Calls Try.prog 3 #[.slice s0 a0.length c0, .slice s1 a1.length c1, .string a2] w fun e w' => e = .returned (.bool true) ∧ Below w.heap.size w w' := by
  obtain ⟨q, rfl⟩ : ∃ l : List UInt8, a2 = ⟨l.toArray⟩ := ⟨a2.data.toList, (Str.mk_toList a2).symm⟩
  have hsz := Str.size_mk q
  have hb := Below.refl w.heap.size w
  obtain ⟨n0, hn0⟩ : ∃ n, n = a0.length := ⟨_, rfl⟩
  obtain ⟨n1, hn1⟩ : ∃ n, n = a1.length := ⟨_, rfl⟩
  have C0 : Hid (∀ w, Came w s0 c0 a0 → Calls Try.prog 5 #[.slice s0 n0 c0] w fun e w' => e = .returned (.bool (heavyB a0)) ∧ w = w') := Lib.hid (fun w h => by rw [hn0]; exact heavy_any a0 s0 c0 w h.1 (fun x hx => (w0 x hx).2))
  have C1 : Hid (∀ w, Came w s1 c1 a1 → Calls Try.prog 5 #[.slice s1 n1 c1] w fun e w' => e = .returned (.bool (heavyB a1)) ∧ w = w') := Lib.hid (fun w h => by rw [hn1]; exact heavy_any a1 s1 c1 w h.1 (fun x hx => (w1 x hx).2))
  have HN := Lib.hid (And.intro hn0 hn1)
  replace l0 := Lib.hid l0
  replace l1 := Lib.hid l1
  rw [← hn0, ← hn1]
  clear w0 w1 w2 hn0 hn1
  cases h0 : heavyB a0
  rotate_left
  · have H0 := Lib.hid h0
    clear h0
    go_enter Try.func3, Try.ntmps3
    go_wp2_with fail
    refine (C0.out _ l0.out).mono ?_
    rintro e w1 ⟨rfl, rfl⟩
    rw [H0.out]
    go_wp2_with fail
    refine (works_any _).mono ?_
    rintro e v2 ⟨rfl, k2⟩
    replace l0 := Lib.hid ((l0.out).below k2)
    replace l1 := Lib.hid ((l1.out).below k2)
    replace hb := bstep hb k2
    clear k2
    go_wp2
    go_ret
    exact ⟨rfl, hb⟩
  have H0 := Lib.hid h0
  have K0 := Lib.hid (light h0)
  clear h0
  cases h1 : heavyB a1
  rotate_left
  · have H1 := Lib.hid h1
    clear h1
    go_enter Try.func3, Try.ntmps3
    go_wp2_with fail
    refine (C0.out _ l0.out).mono ?_
    rintro e w3 ⟨rfl, rfl⟩
    rw [H0.out]
    go_wp2_with fail
    refine (C1.out _ l1.out).mono ?_
    rintro e w4 ⟨rfl, rfl⟩
    rw [H1.out]
    go_wp2_with fail
    refine (works_any _).mono ?_
    rintro e v5 ⟨rfl, k5⟩
    replace l0 := Lib.hid ((l0.out).below k5)
    replace l1 := Lib.hid ((l1.out).below k5)
    replace hb := bstep hb k5
    clear k5
    go_wp2
    go_ret
    exact ⟨rfl, hb⟩
  have H1 := Lib.hid h1
  have K1 := Lib.hid (light h1)
  clear h1
  by_cases hbig : q.length > 100
  · have d1 : decide ((q.length : Int) > 100) = true := decide_eq_true (by omega)
    have d2 : decide ((100 : Int) < (q.length : Int)) = true := decide_eq_true (by omega)
    go_enter Try.func3, Try.ntmps3
    go_wp2_with fail
    refine (C0.out _ l0.out).mono ?_
    rintro e w6 ⟨rfl, rfl⟩
    rw [H0.out]
    go_wp2_with fail
    refine (C1.out _ l1.out).mono ?_
    rintro e w7 ⟨rfl, rfl⟩
    rw [H1.out]
    go_wp2_with fail
    refine (works_any _).mono ?_
    rintro e v8 ⟨rfl, k8⟩
    replace l0 := Lib.hid ((l0.out).below k8)
    replace l1 := Lib.hid ((l1.out).below k8)
    replace hb := bstep hb k8
    clear k8
    go_wp2
    go_ret
    exact ⟨rfl, hb⟩
  have d1 : decide ((q.length : Int) > 100) = false := decide_eq_false (by omega)
  have d2 : decide ((100 : Int) < (q.length : Int)) = false := decide_eq_false (by omega)
  have HQ : Hid (q.length ≤ 100) := Lib.hid (by omega)
  have HQ2 : Hid (q.length ≤ 1099511627776) := Lib.hid (by omega)
  clear hbig
  have e0 : n0 ≤ 40 := by have := K0.out.1; have := HN.out; omega
  have e1 : n1 ≤ 40 := by have := K1.out.1; have := HN.out; omega
  have E0 : Hid (∀ w, Came w s0 c0 a0 → Calls Try.prog 9 #[.slice s0 n0 c0] w (Got a0 w)) := Lib.hid (fun w h => by rw [HN.out.1]; exact copied_got h (by have := K0.out.1; omega))
  have D0 : Hid (∀ w, Came w s0 c0 a0 → Calls Try.prog 7 #[.slice s0 n0 c0] w fun e w' => e = .returned (.bool (mayB a0)) ∧ Below w.heap.size w w') := Lib.hid (fun w h => by rw [HN.out.1]; exact rmay_any a0 s0 c0 w h.1 (by have := K0.out.1; omega) K0.out.2)
  have E1 : Hid (∀ w, Came w s1 c1 a1 → Calls Try.prog 9 #[.slice s1 n1 c1] w (Got a1 w)) := Lib.hid (fun w h => by rw [HN.out.2]; exact copied_got h (by have := K1.out.1; omega))
  have D1 : Hid (∀ w, Came w s1 c1 a1 → Calls Try.prog 7 #[.slice s1 n1 c1] w fun e w' => e = .returned (.bool (mayB a1)) ∧ Below w.heap.size w w') := Lib.hid (fun w h => by rw [HN.out.2]; exact rmay_any a1 s1 c1 w h.1 (by have := K1.out.1; omega) K1.out.2)
  have DQ := Lib.hid (fun w => RefPath.may_any q w HQ2.out)
  have AT : Hid (∀ w, Came w s0 c0 a0 → Calls Try.prog 16 #[.slice s0 n0 c0, .string ⟨q.toArray⟩] w fun e w' => e = .returned (.int .i64 (atL a0 q)) ∧ w = w') := Lib.hid (fun w h => by rw [HN.out.1]; exact at_any a0 q s0 c0 w h.1 (by have := K0.out.1; omega))
  have PG : Hid (∀ (x : Beat.B) (R : List Beat.B) w, putL a0 x = R → Came w s0 c0 a0 → Calls Try.prog 20 #[.slice s0 n0 c0, .agg #[.string ⟨x.p.toArray⟩, .int .u64 (x.n : Int), .bool x.bad]] w (Got R w)) := Lib.hid (fun x R w hR h => by rw [HN.out.1]; exact put_got hR h (by have := K0.out.1; omega))
  have RJ : Hid (∀ (R : List Beat.B) w, joinR a0 a1 = R → Came w s0 c0 a0 → Came w s1 c1 a1 → Calls Try.prog 18 #[.slice s0 n0 c0, .slice s1 n1 c1] w (Got R w)) := Lib.hid (fun R w hR h h2 => by rw [HN.out.1, HN.out.2]; exact rjoin_got hR h h2 (by have := K0.out.1; have := K1.out.1; omega))
  obtain ⟨ml, hml⟩ : ∃ l, mergeL a0 a1 = l := ⟨_, rfl⟩
  have LJ : Hid ((joinB a0 a1).length ≤ 1000) := Lib.hid (by unfold joinB; split; have := merge_len a0 a1 40 K0.out.1 K1.out.1; omega; simp)
  clear hml ml
  have LS : Hid ((susB a0 q).length ≤ 1000) := Lib.hid (by have := K0.out.1; unfold susB; split; rename_i hx; have := put_length a0 ⟨q, (((Beat.look a0 q).map (·.n)).getD 0), true⟩; omega; simp)
  have LR : Hid ((refB a0 q).length ≤ 1000) := Lib.hid (by
    have := K0.out.1
    unfold refB
    split
    · split
      · rename_i x _
        split
        · have := put_length a0 ⟨q, x.n + 1, false⟩; omega
        · omega
      · omega
    · simp)
  have LD : Hid ((dropB a0 [q]).length ≤ 1000) := Lib.hid (by have := K0.out.1; unfold dropB; split; have := dropL_length a0 [q]; omega; simp)
  cases m0 : mayB a0
  · have M0 := Lib.hid m0
    obtain ⟨x, hx⟩ : ∃ x, ofB a0 q = x := ⟨_, rfl⟩
    have XO := Lib.hid hx
    have hz : x = zeroB := by rw [← hx]; unfold ofB; rw [m0]; rfl
    have XI : Hid (isB a0 q = false) := Lib.hid (by unfold isB; rw [m0]; rfl)
    have NB : Hid ((badS a0).length = 0) := Lib.hid (by unfold badS; rw [m0]; rfl)
    have NJ : Hid ((joinB a0 a1).length = 0) := Lib.hid (by unfold joinB; rw [m0]; rfl)
    have NS : Hid ((susB a0 q).length = 0) := Lib.hid (by unfold susB; rw [m0]; rfl)
    have NR : Hid ((refB a0 q).length = 0) := Lib.hid (by unfold refB; rw [m0]; rfl)
    have ND : Hid ((dropB a0 [q]).length = 0) := Lib.hid (by unfold dropB; rw [m0]; rfl)
    have q1 : ∀ w, (binOp .eql 28 (.agg #[.string ⟨x.p.toArray⟩, .int .u64 (x.n : Int), .bool x.bad]) (.agg #[.string ⟨#[]⟩, .int .u64 0, .bool false])).run Try.prog w = .ok (.bool true) w := fun w => by rw [hz]; exact eql_beat zeroB zeroB w
    clear m0 hz hx
    go_enter Try.func3, Try.ntmps3
    go_wp2_with fail
    refine (C0.out _ l0.out).mono ?_
    rintro e w9 ⟨rfl, rfl⟩
    rw [H0.out]
    go_wp2_with fail
    refine (C1.out _ l1.out).mono ?_
    rintro e w10 ⟨rfl, rfl⟩
    rw [H1.out]
    go_wp2_with fail
    refine (D0.out _ l0.out).mono ?_
    rintro e v11 ⟨rfl, k11⟩
    replace l0 := Lib.hid ((l0.out).below k11)
    replace l1 := Lib.hid ((l1.out).below k11)
    replace hb := bstep hb k11
    clear k11
    rw [M0.out]
    go_wp2_with fail
    refine (E0.out _ l0.out).mono ?_
    rintro e v12 ⟨z1, y1, rfl, t1, k12⟩
    replace l0 := Lib.hid ((l0.out).below k12)
    replace l1 := Lib.hid ((l1.out).below k12)
    replace hb := bstep hb k12
    clear k12
    replace t1 := Lib.hid t1
    go_wp2_with fail
    refine (may_any a0 _ _ _ t1.out.1 K0.out.2).mono ?_
    rintro e v13 ⟨rfl, k13⟩
    replace l0 := Lib.hid ((l0.out).below k13)
    replace l1 := Lib.hid ((l1.out).below k13)
    replace t1 := Lib.hid ((t1.out).below k13)
    replace hb := bstep hb k13
    clear k13
    rw [M0.out]
    clear t1
    go_wp2_with fail
    refine (E0.out _ l0.out).mono ?_
    rintro e v14 ⟨z2, y2, rfl, t2, k14⟩
    replace l0 := Lib.hid ((l0.out).below k14)
    replace l1 := Lib.hid ((l1.out).below k14)
    replace hb := bstep hb k14
    clear k14
    replace t2 := Lib.hid t2
    go_wp2_with fail
    refine (of_is XO.out XI.out t2.out K0.out.2 HQ2.out).mono ?_
    rintro e v15 ⟨rfl, k15⟩
    replace l0 := Lib.hid ((l0.out).below k15)
    replace l1 := Lib.hid ((l1.out).below k15)
    replace t2 := Lib.hid ((t2.out).below k15)
    replace hb := bstep hb k15
    clear k15
    clear t2
    have x0 : (v15.alloc (.cells #[.string ⟨x.p.toArray⟩, .int .u64 (x.n : Int), .bool x.bad] 28)).cell? ⟨v15.heap.size, 0, none⟩ = some (.string ⟨x.p.toArray⟩) := by rw [World.cell?_alloc_new]; rfl
    have x1 : (v15.alloc (.cells #[.string ⟨x.p.toArray⟩, .int .u64 (x.n : Int), .bool x.bad] 28)).cell? ⟨v15.heap.size, 1, none⟩ = some (.int .u64 (x.n : Int)) := by rw [World.cell?_alloc_new]; rfl
    have x2 : (v15.alloc (.cells #[.string ⟨x.p.toArray⟩, .int .u64 (x.n : Int), .bool x.bad] 28)).cell? ⟨v15.heap.size, 2, none⟩ = some (.bool x.bad) := by rw [World.cell?_alloc_new]; rfl
    go_wp2_with fail
    have hbx : Below v15.heap.size v15 (v15.alloc (.cells #[.string ⟨x.p.toArray⟩, .int .u64 (x.n : Int), .bool x.bad] 28)) := balloc (Below.refl _ _) _
    replace l0 := Lib.hid ((l0.out).below hbx)
    replace l1 := Lib.hid ((l1.out).below hbx)
    replace hb := bstep hb hbx
    generalize v15.alloc _ = u0 at *
    generalize v15.heap.size = g0 at *
    clear hbx
    refine (E0.out _ l0.out).mono ?_
    rintro e v16 ⟨z3, y3, rfl, t3, k16⟩
    replace l0 := Lib.hid ((l0.out).below k16)
    replace l1 := Lib.hid ((l1.out).below k16)
    replace x0 := (Beat.keepC x0 k16)
    replace x1 := (Beat.keepC x1 k16)
    replace x2 := (Beat.keepC x2 k16)
    replace hb := bstep hb k16
    clear k16
    replace t3 := Lib.hid t3
    go_wp2_with fail
    refine (gotWN (bad_got rfl t3.out K0.out.2) NB.out).mono ?_
    rintro e v17 ⟨z4, y4, rfl, k17⟩
    replace l0 := Lib.hid ((l0.out).below k17)
    replace l1 := Lib.hid ((l1.out).below k17)
    replace x0 := (Beat.keepC x0 k17)
    replace x1 := (Beat.keepC x1 k17)
    replace x2 := (Beat.keepC x2 k17)
    replace t3 := Lib.hid ((t3.out).below k17)
    replace hb := bstep hb k17
    clear k17
    clear t3
    go_wp2_with fail
    refine (E0.out _ l0.out).mono ?_
    rintro e v18 ⟨z5, y5, rfl, t5, k18⟩
    replace l0 := Lib.hid ((l0.out).below k18)
    replace l1 := Lib.hid ((l1.out).below k18)
    replace x0 := (Beat.keepC x0 k18)
    replace x1 := (Beat.keepC x1 k18)
    replace x2 := (Beat.keepC x2 k18)
    replace hb := bstep hb k18
    clear k18
    replace t5 := Lib.hid t5
    go_wp2_with fail
    refine (E1.out _ l1.out).mono ?_
    rintro e v19 ⟨z6, y6, rfl, t6, k19⟩
    replace l0 := Lib.hid ((l0.out).below k19)
    replace l1 := Lib.hid ((l1.out).below k19)
    replace x0 := (Beat.keepC x0 k19)
    replace x1 := (Beat.keepC x1 k19)
    replace x2 := (Beat.keepC x2 k19)
    replace t5 := Lib.hid ((t5.out).below k19)
    replace hb := bstep hb k19
    clear k19
    replace t6 := Lib.hid t6
    go_wp2_with fail
    refine (gotN (join_got rfl t5.out t6.out K0.out.2 K1.out.2 LJ.out) NJ.out).mono ?_
    rintro e v20 ⟨z7, y7, rfl, k20⟩
    replace l0 := Lib.hid ((l0.out).below k20)
    replace l1 := Lib.hid ((l1.out).below k20)
    replace x0 := (Beat.keepC x0 k20)
    replace x1 := (Beat.keepC x1 k20)
    replace x2 := (Beat.keepC x2 k20)
    replace t5 := Lib.hid ((t5.out).below k20)
    replace t6 := Lib.hid ((t6.out).below k20)
    replace hb := bstep hb k20
    clear k20
    clear t5 t6
    go_wp2_with fail
    refine (E0.out _ l0.out).mono ?_
    rintro e v21 ⟨z8, y8, rfl, t8, k21⟩
    replace l0 := Lib.hid ((l0.out).below k21)
    replace l1 := Lib.hid ((l1.out).below k21)
    replace x0 := (Beat.keepC x0 k21)
    replace x1 := (Beat.keepC x1 k21)
    replace x2 := (Beat.keepC x2 k21)
    replace hb := bstep hb k21
    clear k21
    replace t8 := Lib.hid t8
    go_wp2_with fail
    refine (gotN (sus_got rfl t8.out K0.out.2 HQ2.out LS.out) NS.out).mono ?_
    rintro e v22 ⟨z9, y9, rfl, k22⟩
    replace l0 := Lib.hid ((l0.out).below k22)
    replace l1 := Lib.hid ((l1.out).below k22)
    replace x0 := (Beat.keepC x0 k22)
    replace x1 := (Beat.keepC x1 k22)
    replace x2 := (Beat.keepC x2 k22)
    replace t8 := Lib.hid ((t8.out).below k22)
    replace hb := bstep hb k22
    clear k22
    clear t8
    go_wp2_with fail
    refine (E0.out _ l0.out).mono ?_
    rintro e v23 ⟨z10, y10, rfl, t10, k23⟩
    replace l0 := Lib.hid ((l0.out).below k23)
    replace l1 := Lib.hid ((l1.out).below k23)
    replace x0 := (Beat.keepC x0 k23)
    replace x1 := (Beat.keepC x1 k23)
    replace x2 := (Beat.keepC x2 k23)
    replace hb := bstep hb k23
    clear k23
    replace t10 := Lib.hid t10
    go_wp2_with fail
    refine (gotN (ref_got rfl t10.out K0.out.2 HQ2.out LR.out) NR.out).mono ?_
    rintro e v24 ⟨z11, y11, rfl, k24⟩
    replace l0 := Lib.hid ((l0.out).below k24)
    replace l1 := Lib.hid ((l1.out).below k24)
    replace x0 := (Beat.keepC x0 k24)
    replace x1 := (Beat.keepC x1 k24)
    replace x2 := (Beat.keepC x2 k24)
    replace t10 := Lib.hid ((t10.out).below k24)
    replace hb := bstep hb k24
    clear k24
    clear t10
    go_wp2_with fail
    refine (E0.out _ l0.out).mono ?_
    rintro e v25 ⟨z12, y12, rfl, t12, k25⟩
    replace l0 := Lib.hid ((l0.out).below k25)
    replace l1 := Lib.hid ((l1.out).below k25)
    replace x0 := (Beat.keepC x0 k25)
    replace x1 := (Beat.keepC x1 k25)
    replace x2 := (Beat.keepC x2 k25)
    replace hb := bstep hb k25
    clear k25
    replace t12 := Lib.hid t12
    go_wp2_with fail
    have hbx : Below v25.heap.size v25 (v25.alloc (.cells #[.string ⟨q.toArray⟩] 9)) := balloc (Below.refl _ _) _
    have lq := Row.lies_new (E := Words.enc) v25 q 9
    replace l0 := Lib.hid ((l0.out).below hbx)
    replace l1 := Lib.hid ((l1.out).below hbx)
    replace x0 := (Beat.keepC x0 hbx)
    replace x1 := (Beat.keepC x1 hbx)
    replace x2 := (Beat.keepC x2 hbx)
    replace t12 := Lib.hid ((t12.out).below hbx)
    replace hb := bstep hb hbx
    clear hbx
    refine (gotN (drop_got (ps := [q]) rfl t12.out lq K0.out.2 (fun p hp => by obtain rfl := List.mem_singleton.1 hp; exact HQ2.out) (by simp) LD.out) ND.out).mono ?_
    rintro e v26 ⟨z13, y13, rfl, k26⟩
    replace l0 := Lib.hid ((l0.out).below k26)
    replace l1 := Lib.hid ((l1.out).below k26)
    replace x0 := (Beat.keepC x0 k26)
    replace x1 := (Beat.keepC x1 k26)
    replace x2 := (Beat.keepC x2 k26)
    replace t12 := Lib.hid ((t12.out).below k26)
    replace hb := bstep hb k26
    clear k26
    clear lq
    clear t12
    go_wp2_with fail
    refine (works_any _).mono ?_
    rintro e w9 ⟨rfl, k9⟩
    go_wp2
    go_ret
    exact ⟨rfl, bstep hb k9⟩
  have M0 := Lib.hid m0
  have XB : Hid (badS a0 = badL a0) := Lib.hid (by unfold badS; rw [m0]; rfl)
  obtain ⟨BD, hBD⟩ : ∃ l, badL a0 = l := ⟨_, rfl⟩
  rw [hBD] at XB
  replace hBD := Lib.hid hBD
  obtain ⟨x, hx⟩ : ∃ x, ofB a0 q = x := ⟨_, rfl⟩
  have XO := Lib.hid hx
  obtain ⟨J, hJ⟩ : ∃ l, joinB a0 a1 = l := ⟨_, rfl⟩
  have XJ := Lib.hid hJ
  obtain ⟨SL, hSL⟩ : ∃ l, susB a0 q = l := ⟨_, rfl⟩
  have XS := Lib.hid hSL
  obtain ⟨RL, hRL⟩ : ∃ l, refB a0 q = l := ⟨_, rfl⟩
  have XR := Lib.hid hRL
  obtain ⟨DL, hDL⟩ : ∃ l, dropB a0 [q] = l := ⟨_, rfl⟩
  have XD := Lib.hid hDL
  have NS2 : Hid (SL.length ≤ 1000) := Lib.hid (by have := LS.out; rw [hSL] at this; exact this)
  have NR2 : Hid (RL.length ≤ 1000) := Lib.hid (by have := LR.out; rw [hRL] at this; exact this)
  have ND2 : Hid (DL.length ≤ 1000) := Lib.hid (by have := LD.out; rw [hDL] at this; exact this)
  cases m1 : mayB a1
  · have M1 := Lib.hid m1
    obtain ⟨is, his⟩ : ∃ b, isB a0 q = b := ⟨_, rfl⟩
    have XI := Lib.hid his
    have NJ : Hid ((joinB a0 a1).length = 0) := Lib.hid (by unfold joinB; rw [m1, Bool.and_false]; rfl)
    clear m0 m1 hx his hJ hSL hRL hDL
    go_enter Try.func3, Try.ntmps3
    go_wp2_with fail
    refine (C0.out _ l0.out).mono ?_
    rintro e w27 ⟨rfl, rfl⟩
    rw [H0.out]
    go_wp2_with fail
    refine (C1.out _ l1.out).mono ?_
    rintro e w28 ⟨rfl, rfl⟩
    rw [H1.out]
    go_wp2_with fail
    refine (D0.out _ l0.out).mono ?_
    rintro e v29 ⟨rfl, k29⟩
    replace l0 := Lib.hid ((l0.out).below k29)
    replace l1 := Lib.hid ((l1.out).below k29)
    replace hb := bstep hb k29
    clear k29
    rw [M0.out]
    go_wp2_with fail
    refine (E0.out _ l0.out).mono ?_
    rintro e v30 ⟨z14, y14, rfl, t14, k30⟩
    replace l0 := Lib.hid ((l0.out).below k30)
    replace l1 := Lib.hid ((l1.out).below k30)
    replace hb := bstep hb k30
    clear k30
    replace t14 := Lib.hid t14
    go_wp2_with fail
    refine (may_any a0 _ _ _ t14.out.1 K0.out.2).mono ?_
    rintro e v31 ⟨rfl, k31⟩
    replace l0 := Lib.hid ((l0.out).below k31)
    replace l1 := Lib.hid ((l1.out).below k31)
    replace t14 := Lib.hid ((t14.out).below k31)
    replace hb := bstep hb k31
    clear k31
    rw [M0.out]
    clear t14
    go_wp2_with fail
    refine (E0.out _ l0.out).mono ?_
    rintro e v32 ⟨z15, y15, rfl, t15, k32⟩
    replace l0 := Lib.hid ((l0.out).below k32)
    replace l1 := Lib.hid ((l1.out).below k32)
    replace hb := bstep hb k32
    clear k32
    replace t15 := Lib.hid t15
    go_wp2_with fail
    refine (of_is XO.out XI.out t15.out K0.out.2 HQ2.out).mono ?_
    rintro e v33 ⟨rfl, k33⟩
    replace l0 := Lib.hid ((l0.out).below k33)
    replace l1 := Lib.hid ((l1.out).below k33)
    replace t15 := Lib.hid ((t15.out).below k33)
    replace hb := bstep hb k33
    clear k33
    clear t15
    have x0 : (v33.alloc (.cells #[.string ⟨x.p.toArray⟩, .int .u64 (x.n : Int), .bool x.bad] 28)).cell? ⟨v33.heap.size, 0, none⟩ = some (.string ⟨x.p.toArray⟩) := by rw [World.cell?_alloc_new]; rfl
    have x1 : (v33.alloc (.cells #[.string ⟨x.p.toArray⟩, .int .u64 (x.n : Int), .bool x.bad] 28)).cell? ⟨v33.heap.size, 1, none⟩ = some (.int .u64 (x.n : Int)) := by rw [World.cell?_alloc_new]; rfl
    have x2 : (v33.alloc (.cells #[.string ⟨x.p.toArray⟩, .int .u64 (x.n : Int), .bool x.bad] 28)).cell? ⟨v33.heap.size, 2, none⟩ = some (.bool x.bad) := by rw [World.cell?_alloc_new]; rfl
    go_wp2_with fail
    have hbx : Below v33.heap.size v33 (v33.alloc (.cells #[.string ⟨x.p.toArray⟩, .int .u64 (x.n : Int), .bool x.bad] 28)) := balloc (Below.refl _ _) _
    replace l0 := Lib.hid ((l0.out).below hbx)
    replace l1 := Lib.hid ((l1.out).below hbx)
    replace hb := bstep hb hbx
    generalize v33.alloc _ = u0 at *
    generalize v33.heap.size = g0 at *
    clear hbx
    refine (E0.out _ l0.out).mono ?_
    rintro e v34 ⟨z16, y16, rfl, t16, k34⟩
    replace l0 := Lib.hid ((l0.out).below k34)
    replace l1 := Lib.hid ((l1.out).below k34)
    replace x0 := (Beat.keepC x0 k34)
    replace x1 := (Beat.keepC x1 k34)
    replace x2 := (Beat.keepC x2 k34)
    replace hb := bstep hb k34
    clear k34
    replace t16 := Lib.hid t16
    go_wp2_with fail
    refine (bad_got XB.out t16.out K0.out.2).mono ?_
    rintro e v35 ⟨z17, y17, rfl, t17, k35⟩
    replace l0 := Lib.hid ((l0.out).below k35)
    replace l1 := Lib.hid ((l1.out).below k35)
    replace x0 := (Beat.keepC x0 k35)
    replace x1 := (Beat.keepC x1 k35)
    replace x2 := (Beat.keepC x2 k35)
    replace t16 := Lib.hid ((t16.out).below k35)
    replace hb := bstep hb k35
    clear k35
    replace t17 := Lib.hid t17
    clear t16
    go_wp2_with fail
    refine (E0.out _ l0.out).mono ?_
    rintro e v36 ⟨z18, y18, rfl, t18, k36⟩
    replace l0 := Lib.hid ((l0.out).below k36)
    replace l1 := Lib.hid ((l1.out).below k36)
    replace x0 := (Beat.keepC x0 k36)
    replace x1 := (Beat.keepC x1 k36)
    replace x2 := (Beat.keepC x2 k36)
    replace t17 := Lib.hid ((t17.out).below k36)
    replace hb := bstep hb k36
    clear k36
    replace t18 := Lib.hid t18
    go_wp2_with fail
    refine (E1.out _ l1.out).mono ?_
    rintro e v37 ⟨z19, y19, rfl, t19, k37⟩
    replace l0 := Lib.hid ((l0.out).below k37)
    replace l1 := Lib.hid ((l1.out).below k37)
    replace x0 := (Beat.keepC x0 k37)
    replace x1 := (Beat.keepC x1 k37)
    replace x2 := (Beat.keepC x2 k37)
    replace t17 := Lib.hid ((t17.out).below k37)
    replace t18 := Lib.hid ((t18.out).below k37)
    replace hb := bstep hb k37
    clear k37
    replace t19 := Lib.hid t19
    go_wp2_with fail
    refine (gotN (join_got rfl t18.out t19.out K0.out.2 K1.out.2 LJ.out) NJ.out).mono ?_
    rintro e v38 ⟨z20, y20, rfl, k38⟩
    replace l0 := Lib.hid ((l0.out).below k38)
    replace l1 := Lib.hid ((l1.out).below k38)
    replace x0 := (Beat.keepC x0 k38)
    replace x1 := (Beat.keepC x1 k38)
    replace x2 := (Beat.keepC x2 k38)
    replace t17 := Lib.hid ((t17.out).below k38)
    replace t18 := Lib.hid ((t18.out).below k38)
    replace t19 := Lib.hid ((t19.out).below k38)
    replace hb := bstep hb k38
    clear k38
    clear t18 t19
    go_wp2_with fail
    refine (E0.out _ l0.out).mono ?_
    rintro e v39 ⟨z21, y21, rfl, t21, k39⟩
    replace l0 := Lib.hid ((l0.out).below k39)
    replace l1 := Lib.hid ((l1.out).below k39)
    replace x0 := (Beat.keepC x0 k39)
    replace x1 := (Beat.keepC x1 k39)
    replace x2 := (Beat.keepC x2 k39)
    replace t17 := Lib.hid ((t17.out).below k39)
    replace hb := bstep hb k39
    clear k39
    replace t21 := Lib.hid t21
    go_wp2_with fail
    refine (sus_got XS.out t21.out K0.out.2 HQ2.out NS2.out).mono ?_
    rintro e v40 ⟨z22, y22, rfl, t22, k40⟩
    replace l0 := Lib.hid ((l0.out).below k40)
    replace l1 := Lib.hid ((l1.out).below k40)
    replace x0 := (Beat.keepC x0 k40)
    replace x1 := (Beat.keepC x1 k40)
    replace x2 := (Beat.keepC x2 k40)
    replace t17 := Lib.hid ((t17.out).below k40)
    replace t21 := Lib.hid ((t21.out).below k40)
    replace hb := bstep hb k40
    clear k40
    replace t22 := Lib.hid t22
    clear t21
    go_wp2_with fail
    refine (E0.out _ l0.out).mono ?_
    rintro e v41 ⟨z23, y23, rfl, t23, k41⟩
    replace l0 := Lib.hid ((l0.out).below k41)
    replace l1 := Lib.hid ((l1.out).below k41)
    replace x0 := (Beat.keepC x0 k41)
    replace x1 := (Beat.keepC x1 k41)
    replace x2 := (Beat.keepC x2 k41)
    replace t17 := Lib.hid ((t17.out).below k41)
    replace t22 := Lib.hid ((t22.out).below k41)
    replace hb := bstep hb k41
    clear k41
    replace t23 := Lib.hid t23
    go_wp2_with fail
    refine (ref_got XR.out t23.out K0.out.2 HQ2.out NR2.out).mono ?_
    rintro e v42 ⟨z24, y24, rfl, t24, k42⟩
    replace l0 := Lib.hid ((l0.out).below k42)
    replace l1 := Lib.hid ((l1.out).below k42)
    replace x0 := (Beat.keepC x0 k42)
    replace x1 := (Beat.keepC x1 k42)
    replace x2 := (Beat.keepC x2 k42)
    replace t17 := Lib.hid ((t17.out).below k42)
    replace t22 := Lib.hid ((t22.out).below k42)
    replace t23 := Lib.hid ((t23.out).below k42)
    replace hb := bstep hb k42
    clear k42
    replace t24 := Lib.hid t24
    clear t23
    go_wp2_with fail
    refine (E0.out _ l0.out).mono ?_
    rintro e v43 ⟨z25, y25, rfl, t25, k43⟩
    replace l0 := Lib.hid ((l0.out).below k43)
    replace l1 := Lib.hid ((l1.out).below k43)
    replace x0 := (Beat.keepC x0 k43)
    replace x1 := (Beat.keepC x1 k43)
    replace x2 := (Beat.keepC x2 k43)
    replace t17 := Lib.hid ((t17.out).below k43)
    replace t22 := Lib.hid ((t22.out).below k43)
    replace t24 := Lib.hid ((t24.out).below k43)
    replace hb := bstep hb k43
    clear k43
    replace t25 := Lib.hid t25
    go_wp2_with fail
    have hbx : Below v43.heap.size v43 (v43.alloc (.cells #[.string ⟨q.toArray⟩] 9)) := balloc (Below.refl _ _) _
    have lq := Row.lies_new (E := Words.enc) v43 q 9
    replace l0 := Lib.hid ((l0.out).below hbx)
    replace l1 := Lib.hid ((l1.out).below hbx)
    replace x0 := (Beat.keepC x0 hbx)
    replace x1 := (Beat.keepC x1 hbx)
    replace x2 := (Beat.keepC x2 hbx)
    replace t17 := Lib.hid ((t17.out).below hbx)
    replace t22 := Lib.hid ((t22.out).below hbx)
    replace t24 := Lib.hid ((t24.out).below hbx)
    replace t25 := Lib.hid ((t25.out).below hbx)
    replace hb := bstep hb hbx
    clear hbx
    refine (drop_got (ps := [q]) XD.out t25.out lq K0.out.2 (fun p hp => by obtain rfl := List.mem_singleton.1 hp; exact HQ2.out) (by simp) ND2.out).mono ?_
    rintro e v44 ⟨z26, y26, rfl, t26, k44⟩
    replace l0 := Lib.hid ((l0.out).below k44)
    replace l1 := Lib.hid ((l1.out).below k44)
    replace x0 := (Beat.keepC x0 k44)
    replace x1 := (Beat.keepC x1 k44)
    replace x2 := (Beat.keepC x2 k44)
    replace t17 := Lib.hid ((t17.out).below k44)
    replace t22 := Lib.hid ((t22.out).below k44)
    replace t24 := Lib.hid ((t24.out).below k44)
    replace t25 := Lib.hid ((t25.out).below k44)
    replace hb := bstep hb k44
    clear k44
    replace t26 := Lib.hid t26
    clear lq
    clear t25
    go_wp2_with fail
    refine (D1.out _ l1.out).mono ?_
    rintro e v45 ⟨rfl, k45⟩
    replace l0 := Lib.hid ((l0.out).below k45)
    replace l1 := Lib.hid ((l1.out).below k45)
    replace x0 := (Beat.keepC x0 k45)
    replace x1 := (Beat.keepC x1 k45)
    replace x2 := (Beat.keepC x2 k45)
    replace t17 := Lib.hid ((t17.out).below k45)
    replace t22 := Lib.hid ((t22.out).below k45)
    replace t24 := Lib.hid ((t24.out).below k45)
    replace t26 := Lib.hid ((t26.out).below k45)
    replace hb := bstep hb k45
    clear k45
    rw [M1.out]
    go_wp2_with fail
    refine (works_any _).mono ?_
    rintro e v46 ⟨rfl, k46⟩
    replace l0 := Lib.hid ((l0.out).below k46)
    replace l1 := Lib.hid ((l1.out).below k46)
    replace x0 := (Beat.keepC x0 k46)
    replace x1 := (Beat.keepC x1 k46)
    replace x2 := (Beat.keepC x2 k46)
    replace t17 := Lib.hid ((t17.out).below k46)
    replace t22 := Lib.hid ((t22.out).below k46)
    replace t24 := Lib.hid ((t24.out).below k46)
    replace t26 := Lib.hid ((t26.out).below k46)
    replace hb := bstep hb k46
    clear k46
    go_wp2
    go_ret
    exact ⟨rfl, hb⟩
  have M1 := Lib.hid m1
  have XRJ : Hid (joinR a0 a1 = J) := Lib.hid (by rw [← hJ]; unfold joinB; rw [m0, m1]; exact (join_eq a0 a1 (may_facts m0).2.2 (may_facts m1).2.2).symm)
  have NJ2 : Hid (J.length ≤ 1000) := Lib.hid (by have := LJ.out; rw [hJ] at this; exact this)
  clear hJ
  have BL : Hid (BD.length ≤ 1000) := Lib.hid (by have := badL_length a0; rw [hBD.out] at this; have := K0.out.1; omega)
  have SM : Hid (∀ s2 c2 w, Lies w s2 a0.length a0 → Came w s0 c0 a0 → Calls Try.prog 17 #[.slice s2 a0.length c2, .slice s0 n0 c0] w fun e w' => e = .returned (.bool true) ∧ Below w.heap.size w w') := Lib.hid (fun s2 c2 w h h2 => by rw [HN.out.1]; exact same_is h h2.1 (by have := K0.out.1; omega))
  rcases atL_look a0 q with ⟨-, jx, hjx, ha, hl⟩ | ⟨ha, hl⟩
  rotate_left
  · have XI : Hid (isB a0 q = false) := Lib.hid (by unfold isB hasB; rw [hl, Bool.and_comm]; rfl)
    have hz : x = zeroB := by rw [← hx]; unfold ofB; rw [hl]; split <;> rfl
    have nq : ∀ w, (binOp .neq 28 (.agg #[.string ⟨x.p.toArray⟩, .int .u64 (x.n : Int), .bool x.bad]) (.agg #[.string ⟨#[]⟩, .int .u64 0, .bool false])).run Try.prog w = .ok (.bool false) w := fun w => by rw [hz]; exact neq_beat zeroB zeroB w
    have HA := Lib.hid ha
    clear ha hx hz
    cases mq : pathB q
    · have MQ := Lib.hid (path_no mq)
      have NS : Hid ((susB a0 q).length = 0) := Lib.hid (by unfold susB; rw [mq, Bool.and_false]; rfl)
      have NR : Hid ((refB a0 q).length = 0) := Lib.hid (by unfold refB; rw [mq, Bool.and_false]; rfl)
      have ND : Hid ((dropB a0 [q]).length = 0) := Lib.hid (by unfold dropB; simp [mq])
      clear mq m0 m1 hl hSL hRL hDL
      go_enter Try.func3, Try.ntmps3
      go_wp2_with fail
      refine (C0.out _ l0.out).mono ?_
      rintro e w47 ⟨rfl, rfl⟩
      rw [H0.out]
      go_wp2_with fail
      refine (C1.out _ l1.out).mono ?_
      rintro e w48 ⟨rfl, rfl⟩
      rw [H1.out]
      go_wp2_with fail
      refine (D0.out _ l0.out).mono ?_
      rintro e v49 ⟨rfl, k49⟩
      replace l0 := Lib.hid ((l0.out).below k49)
      replace l1 := Lib.hid ((l1.out).below k49)
      replace hb := bstep hb k49
      clear k49
      rw [M0.out]
      go_wp2_with fail
      refine (E0.out _ l0.out).mono ?_
      rintro e v50 ⟨z27, y27, rfl, t27, k50⟩
      replace l0 := Lib.hid ((l0.out).below k50)
      replace l1 := Lib.hid ((l1.out).below k50)
      replace hb := bstep hb k50
      clear k50
      replace t27 := Lib.hid t27
      go_wp2_with fail
      refine (may_any a0 _ _ _ t27.out.1 K0.out.2).mono ?_
      rintro e v51 ⟨rfl, k51⟩
      replace l0 := Lib.hid ((l0.out).below k51)
      replace l1 := Lib.hid ((l1.out).below k51)
      replace t27 := Lib.hid ((t27.out).below k51)
      replace hb := bstep hb k51
      clear k51
      rw [M0.out]
      clear t27
      go_wp2_with fail
      refine (E0.out _ l0.out).mono ?_
      rintro e v52 ⟨z28, y28, rfl, t28, k52⟩
      replace l0 := Lib.hid ((l0.out).below k52)
      replace l1 := Lib.hid ((l1.out).below k52)
      replace hb := bstep hb k52
      clear k52
      replace t28 := Lib.hid t28
      go_wp2_with fail
      refine (of_is XO.out XI.out t28.out K0.out.2 HQ2.out).mono ?_
      rintro e v53 ⟨rfl, k53⟩
      replace l0 := Lib.hid ((l0.out).below k53)
      replace l1 := Lib.hid ((l1.out).below k53)
      replace t28 := Lib.hid ((t28.out).below k53)
      replace hb := bstep hb k53
      clear k53
      clear t28
      have x0 : (v53.alloc (.cells #[.string ⟨x.p.toArray⟩, .int .u64 (x.n : Int), .bool x.bad] 28)).cell? ⟨v53.heap.size, 0, none⟩ = some (.string ⟨x.p.toArray⟩) := by rw [World.cell?_alloc_new]; rfl
      have x1 : (v53.alloc (.cells #[.string ⟨x.p.toArray⟩, .int .u64 (x.n : Int), .bool x.bad] 28)).cell? ⟨v53.heap.size, 1, none⟩ = some (.int .u64 (x.n : Int)) := by rw [World.cell?_alloc_new]; rfl
      have x2 : (v53.alloc (.cells #[.string ⟨x.p.toArray⟩, .int .u64 (x.n : Int), .bool x.bad] 28)).cell? ⟨v53.heap.size, 2, none⟩ = some (.bool x.bad) := by rw [World.cell?_alloc_new]; rfl
      go_wp2_with fail
      have hbx : Below v53.heap.size v53 (v53.alloc (.cells #[.string ⟨x.p.toArray⟩, .int .u64 (x.n : Int), .bool x.bad] 28)) := balloc (Below.refl _ _) _
      replace l0 := Lib.hid ((l0.out).below hbx)
      replace l1 := Lib.hid ((l1.out).below hbx)
      replace hb := bstep hb hbx
      generalize v53.alloc _ = u0 at *
      generalize v53.heap.size = g0 at *
      clear hbx
      refine (E0.out _ l0.out).mono ?_
      rintro e v54 ⟨z29, y29, rfl, t29, k54⟩
      replace l0 := Lib.hid ((l0.out).below k54)
      replace l1 := Lib.hid ((l1.out).below k54)
      replace x0 := (Beat.keepC x0 k54)
      replace x1 := (Beat.keepC x1 k54)
      replace x2 := (Beat.keepC x2 k54)
      replace hb := bstep hb k54
      clear k54
      replace t29 := Lib.hid t29
      go_wp2_with fail
      refine (bad_got XB.out t29.out K0.out.2).mono ?_
      rintro e v55 ⟨z30, y30, rfl, t30, k55⟩
      replace l0 := Lib.hid ((l0.out).below k55)
      replace l1 := Lib.hid ((l1.out).below k55)
      replace x0 := (Beat.keepC x0 k55)
      replace x1 := (Beat.keepC x1 k55)
      replace x2 := (Beat.keepC x2 k55)
      replace t29 := Lib.hid ((t29.out).below k55)
      replace hb := bstep hb k55
      clear k55
      replace t30 := Lib.hid t30
      clear t29
      go_wp2_with fail
      refine (E0.out _ l0.out).mono ?_
      rintro e v56 ⟨z31, y31, rfl, t31, k56⟩
      replace l0 := Lib.hid ((l0.out).below k56)
      replace l1 := Lib.hid ((l1.out).below k56)
      replace x0 := (Beat.keepC x0 k56)
      replace x1 := (Beat.keepC x1 k56)
      replace x2 := (Beat.keepC x2 k56)
      replace t30 := Lib.hid ((t30.out).below k56)
      replace hb := bstep hb k56
      clear k56
      replace t31 := Lib.hid t31
      go_wp2_with fail
      refine (E1.out _ l1.out).mono ?_
      rintro e v57 ⟨z32, y32, rfl, t32, k57⟩
      replace l0 := Lib.hid ((l0.out).below k57)
      replace l1 := Lib.hid ((l1.out).below k57)
      replace x0 := (Beat.keepC x0 k57)
      replace x1 := (Beat.keepC x1 k57)
      replace x2 := (Beat.keepC x2 k57)
      replace t30 := Lib.hid ((t30.out).below k57)
      replace t31 := Lib.hid ((t31.out).below k57)
      replace hb := bstep hb k57
      clear k57
      replace t32 := Lib.hid t32
      go_wp2_with fail
      refine (join_got XJ.out t31.out t32.out K0.out.2 K1.out.2 NJ2.out).mono ?_
      rintro e v58 ⟨z33, y33, rfl, t33, k58⟩
      replace l0 := Lib.hid ((l0.out).below k58)
      replace l1 := Lib.hid ((l1.out).below k58)
      replace x0 := (Beat.keepC x0 k58)
      replace x1 := (Beat.keepC x1 k58)
      replace x2 := (Beat.keepC x2 k58)
      replace t30 := Lib.hid ((t30.out).below k58)
      replace t31 := Lib.hid ((t31.out).below k58)
      replace t32 := Lib.hid ((t32.out).below k58)
      replace hb := bstep hb k58
      clear k58
      replace t33 := Lib.hid t33
      clear t31 t32
      go_wp2_with fail
      refine (E0.out _ l0.out).mono ?_
      rintro e v59 ⟨z34, y34, rfl, t34, k59⟩
      replace l0 := Lib.hid ((l0.out).below k59)
      replace l1 := Lib.hid ((l1.out).below k59)
      replace x0 := (Beat.keepC x0 k59)
      replace x1 := (Beat.keepC x1 k59)
      replace x2 := (Beat.keepC x2 k59)
      replace t30 := Lib.hid ((t30.out).below k59)
      replace t33 := Lib.hid ((t33.out).below k59)
      replace hb := bstep hb k59
      clear k59
      replace t34 := Lib.hid t34
      go_wp2_with fail
      refine (gotN (sus_got rfl t34.out K0.out.2 HQ2.out LS.out) NS.out).mono ?_
      rintro e v60 ⟨z35, y35, rfl, k60⟩
      replace l0 := Lib.hid ((l0.out).below k60)
      replace l1 := Lib.hid ((l1.out).below k60)
      replace x0 := (Beat.keepC x0 k60)
      replace x1 := (Beat.keepC x1 k60)
      replace x2 := (Beat.keepC x2 k60)
      replace t30 := Lib.hid ((t30.out).below k60)
      replace t33 := Lib.hid ((t33.out).below k60)
      replace t34 := Lib.hid ((t34.out).below k60)
      replace hb := bstep hb k60
      clear k60
      clear t34
      go_wp2_with fail
      refine (E0.out _ l0.out).mono ?_
      rintro e v61 ⟨z36, y36, rfl, t36, k61⟩
      replace l0 := Lib.hid ((l0.out).below k61)
      replace l1 := Lib.hid ((l1.out).below k61)
      replace x0 := (Beat.keepC x0 k61)
      replace x1 := (Beat.keepC x1 k61)
      replace x2 := (Beat.keepC x2 k61)
      replace t30 := Lib.hid ((t30.out).below k61)
      replace t33 := Lib.hid ((t33.out).below k61)
      replace hb := bstep hb k61
      clear k61
      replace t36 := Lib.hid t36
      go_wp2_with fail
      refine (gotN (ref_got rfl t36.out K0.out.2 HQ2.out LR.out) NR.out).mono ?_
      rintro e v62 ⟨z37, y37, rfl, k62⟩
      replace l0 := Lib.hid ((l0.out).below k62)
      replace l1 := Lib.hid ((l1.out).below k62)
      replace x0 := (Beat.keepC x0 k62)
      replace x1 := (Beat.keepC x1 k62)
      replace x2 := (Beat.keepC x2 k62)
      replace t30 := Lib.hid ((t30.out).below k62)
      replace t33 := Lib.hid ((t33.out).below k62)
      replace t36 := Lib.hid ((t36.out).below k62)
      replace hb := bstep hb k62
      clear k62
      clear t36
      go_wp2_with fail
      refine (E0.out _ l0.out).mono ?_
      rintro e v63 ⟨z38, y38, rfl, t38, k63⟩
      replace l0 := Lib.hid ((l0.out).below k63)
      replace l1 := Lib.hid ((l1.out).below k63)
      replace x0 := (Beat.keepC x0 k63)
      replace x1 := (Beat.keepC x1 k63)
      replace x2 := (Beat.keepC x2 k63)
      replace t30 := Lib.hid ((t30.out).below k63)
      replace t33 := Lib.hid ((t33.out).below k63)
      replace hb := bstep hb k63
      clear k63
      replace t38 := Lib.hid t38
      go_wp2_with fail
      have hbx : Below v63.heap.size v63 (v63.alloc (.cells #[.string ⟨q.toArray⟩] 9)) := balloc (Below.refl _ _) _
      have lq := Row.lies_new (E := Words.enc) v63 q 9
      replace l0 := Lib.hid ((l0.out).below hbx)
      replace l1 := Lib.hid ((l1.out).below hbx)
      replace x0 := (Beat.keepC x0 hbx)
      replace x1 := (Beat.keepC x1 hbx)
      replace x2 := (Beat.keepC x2 hbx)
      replace t30 := Lib.hid ((t30.out).below hbx)
      replace t33 := Lib.hid ((t33.out).below hbx)
      replace t38 := Lib.hid ((t38.out).below hbx)
      replace hb := bstep hb hbx
      clear hbx
      refine (gotN (drop_got (ps := [q]) rfl t38.out lq K0.out.2 (fun p hp => by obtain rfl := List.mem_singleton.1 hp; exact HQ2.out) (by simp) LD.out) ND.out).mono ?_
      rintro e v64 ⟨z39, y39, rfl, k64⟩
      replace l0 := Lib.hid ((l0.out).below k64)
      replace l1 := Lib.hid ((l1.out).below k64)
      replace x0 := (Beat.keepC x0 k64)
      replace x1 := (Beat.keepC x1 k64)
      replace x2 := (Beat.keepC x2 k64)
      replace t30 := Lib.hid ((t30.out).below k64)
      replace t33 := Lib.hid ((t33.out).below k64)
      replace t38 := Lib.hid ((t38.out).below k64)
      replace hb := bstep hb k64
      clear k64
      clear lq
      clear t38
      go_wp2_with fail
      refine (D1.out _ l1.out).mono ?_
      rintro e v65 ⟨rfl, k65⟩
      replace l0 := Lib.hid ((l0.out).below k65)
      replace l1 := Lib.hid ((l1.out).below k65)
      replace x0 := (Beat.keepC x0 k65)
      replace x1 := (Beat.keepC x1 k65)
      replace x2 := (Beat.keepC x2 k65)
      replace t30 := Lib.hid ((t30.out).below k65)
      replace t33 := Lib.hid ((t33.out).below k65)
      replace hb := bstep hb k65
      clear k65
      rw [M1.out]
      go_wp2_with fail
      refine (AT.out _ l0.out).mono ?_
      rintro e w66 ⟨rfl, rfl⟩
      rw [HA.out]
      go_wp2_with fail
      refine wp_region_noPanic ?_
      refine wp_region_held_drew (S := (fun w' => Below w.heap.size w w' ∧ Came w' s0 c0 a0 ∧ Came w' s1 c1 a1 ∧ w'.cell? ⟨g0, 0, none⟩ = some (.string ⟨x.p.toArray⟩) ∧ w'.cell? ⟨g0, 1, none⟩ = some (.int .u64 (x.n : Int)) ∧ w'.cell? ⟨g0, 2, none⟩ = some (.bool x.bad) ∧ Words.Lies w' z30 BD.length BD ∧ Came w' z33 y33 J)) (by kernel_rfl) (⟨Below.drew hb, (l0.out).below (Below.drew (Below.refl _ _)), (l1.out).below (Below.drew (Below.refl _ _)), Beat.keepC x0 (Below.drew (Below.refl _ _)), Beat.keepC x1 (Below.drew (Below.refl _ _)), Beat.keepC x2 (Below.drew (Below.refl _ _)), (t30.out).below (Below.drew (Below.refl _ _)), (t33.out).below (Below.drew (Below.refl _ _))⟩) (fun hHeld => ?_)
      refine wpAnyH_take (i := 0) (v := ?_) (by simp only [List.getElem?_toArray, List.getElem?_cons_zero]; rfl) (by kernel_rfl) (by kernel_rfl) (by kernel_rfl) (fun _ _ _ h => h) (Or.inl ⟨by rfl, ?_⟩) (by assumption) ?_
      rotate_left
      · (intro w hSw; (try dsimp only at hSw); go_simp; try with_reducible rfl)
      try simp only [Act.put, List.setIfInBounds_toArray, List.set_cons_zero, List.set_cons_succ]
      refine wpAnyH_take (i := 1) (v := ?_) (by simp only [List.getElem?_toArray, List.getElem?_cons_succ, List.getElem?_cons_zero]; rfl) (by kernel_rfl) (by kernel_rfl) (by kernel_rfl) (fun _ _ _ h => h) (Or.inl ⟨by rfl, ?_⟩) (by assumption) ?_
      rotate_left
      · (intro w hSw; (try dsimp only at hSw); go_simp; try with_reducible rfl)
      try simp only [Act.put, List.setIfInBounds_toArray, List.set_cons_zero, List.set_cons_succ]
      refine wpAnyH_take (i := 2) (v := ?_) (by simp only [List.getElem?_toArray, List.getElem?_cons_succ, List.getElem?_cons_zero]; rfl) (by kernel_rfl) (by kernel_rfl) (by kernel_rfl) (fun _ _ _ h => h) (Or.inl ⟨by rfl, ?_⟩) (by assumption) ?_
      rotate_left
      · (intro w hSw; (try dsimp only at hSw); go_simp; try with_reducible rfl)
      try simp only [Act.put, List.setIfInBounds_toArray, List.set_cons_zero, List.set_cons_succ]
      refine wpAnyH_take (i := 3) (v := ?_) (by simp only [List.getElem?_toArray, List.getElem?_cons_succ, List.getElem?_cons_zero]; rfl) (by kernel_rfl) (by kernel_rfl) (by kernel_rfl) (fun _ _ _ h => h) (Or.inl ⟨by rfl, ?_⟩) (by assumption) ?_
      rotate_left
      · (intro w hSw; (try dsimp only at hSw); go_simp; try with_reducible rfl)
      try simp only [Act.put, List.setIfInBounds_toArray, List.set_cons_zero, List.set_cons_succ]
      refine wpAnyH_take (i := 4) (v := ?_) (by simp only [List.getElem?_toArray, List.getElem?_cons_succ, List.getElem?_cons_zero]; rfl) (by kernel_rfl) (by kernel_rfl) (by kernel_rfl) (fun _ _ _ h => h) (Or.inl ⟨by rfl, ?_⟩) (by assumption) ?_
      rotate_left
      · (intro w hSw; (try dsimp only at hSw); go_simp; try with_reducible rfl)
      try simp only [Act.put, List.setIfInBounds_toArray, List.set_cons_zero, List.set_cons_succ]
      refine wpAnyH_take (i := 5) (v := ?_) (by simp only [List.getElem?_toArray, List.getElem?_cons_succ, List.getElem?_cons_zero]; rfl) (by kernel_rfl) (by kernel_rfl) (by kernel_rfl) (fun _ _ _ h => h) (Or.inl ⟨by rfl, ?_⟩) (by assumption) ?_
      rotate_left
      · (intro w hSw; (try dsimp only at hSw); go_simp; try with_reducible rfl)
      try simp only [Act.put, List.setIfInBounds_toArray, List.set_cons_zero, List.set_cons_succ]
      refine wpAnyH_take (i := 6) (v := ?_) (by simp only [List.getElem?_toArray, List.getElem?_cons_succ, List.getElem?_cons_zero]; rfl) (by kernel_rfl) (by kernel_rfl) (by kernel_rfl) (fun _ _ _ h => h) (Or.inl ⟨by rfl, ?_⟩) (by assumption) ?_
      rotate_left
      · (intro w hSw; (try dsimp only at hSw); go_simp; try with_reducible rfl)
      try simp only [Act.put, List.setIfInBounds_toArray, List.set_cons_zero, List.set_cons_succ]
      refine wpAnyH_take (i := 7) (v := undef) (by simp only [List.getElem?_toArray, List.getElem?_cons_succ, List.getElem?_cons_zero]; rfl) (by kernel_rfl) (by kernel_rfl) (by kernel_rfl) (fun _ _ _ h => h) (Or.inr ⟨by rfl, rfl⟩) (by assumption) ?_
      try simp only [Act.put, List.setIfInBounds_toArray, List.set_cons_zero, List.set_cons_succ]
      refine wpAnyH_take (i := 8) (v := undef) (by simp only [List.getElem?_toArray, List.getElem?_cons_succ, List.getElem?_cons_zero]; rfl) (by kernel_rfl) (by kernel_rfl) (by kernel_rfl) (fun _ _ _ h => h) (Or.inr ⟨by rfl, rfl⟩) (by assumption) ?_
      try simp only [Act.put, List.setIfInBounds_toArray, List.set_cons_zero, List.set_cons_succ]
      refine wpAnyH_take (i := 9) (v := undef) (by simp only [List.getElem?_toArray, List.getElem?_cons_succ, List.getElem?_cons_zero]; rfl) (by kernel_rfl) (by kernel_rfl) (by kernel_rfl) (fun _ _ _ h => h) (Or.inr ⟨by rfl, rfl⟩) (by assumption) ?_
      try simp only [Act.put, List.setIfInBounds_toArray, List.set_cons_zero, List.set_cons_succ]
      refine wpAnyH_take (i := 10) (v := undef) (by simp only [List.getElem?_toArray, List.getElem?_cons_succ, List.getElem?_cons_zero]; rfl) (by kernel_rfl) (by kernel_rfl) (by kernel_rfl) (fun _ _ _ h => h) (Or.inr ⟨by rfl, rfl⟩) (by assumption) ?_
      try simp only [Act.put, List.setIfInBounds_toArray, List.set_cons_zero, List.set_cons_succ]
      refine wpAnyH_take (i := 11) (v := undef) (by simp only [List.getElem?_toArray, List.getElem?_cons_succ, List.getElem?_cons_zero]; rfl) (by kernel_rfl) (by kernel_rfl) (by kernel_rfl) (fun _ _ _ h => h) (Or.inr ⟨by rfl, rfl⟩) (by assumption) ?_
      try simp only [Act.put, List.setIfInBounds_toArray, List.set_cons_zero, List.set_cons_succ]
      refine wpAnyH_take (i := 12) (v := undef) (by simp only [List.getElem?_toArray, List.getElem?_cons_succ, List.getElem?_cons_zero]; rfl) (by kernel_rfl) (by kernel_rfl) (by kernel_rfl) (fun _ _ _ h => h) (Or.inr ⟨by rfl, rfl⟩) (by assumption) ?_
      try simp only [Act.put, List.setIfInBounds_toArray, List.set_cons_zero, List.set_cons_succ]
      refine wpAnyH_take (i := 13) (v := ?_) (by simp only [List.getElem?_toArray, List.getElem?_cons_succ, List.getElem?_cons_zero]; rfl) (by kernel_rfl) (by kernel_rfl) (by kernel_rfl) (fun _ _ _ h => h) (Or.inl ⟨by rfl, ?_⟩) (by assumption) ?_
      rotate_left
      · (intro w hSw; (try dsimp only at hSw); go_simp; try with_reducible rfl)
      try simp only [Act.put, List.setIfInBounds_toArray, List.set_cons_zero, List.set_cons_succ]
      refine wpAnyH_take (i := 14) (v := ?_) (by simp only [List.getElem?_toArray, List.getElem?_cons_succ, List.getElem?_cons_zero]; rfl) (by kernel_rfl) (by kernel_rfl) (by kernel_rfl) (fun _ _ _ h => h) (Or.inl ⟨by rfl, ?_⟩) (by assumption) ?_
      rotate_left
      · (intro w hSw; (try dsimp only at hSw); go_simp; try with_reducible rfl)
      try simp only [Act.put, List.setIfInBounds_toArray, List.set_cons_zero, List.set_cons_succ]
      refine wpAnyH_take (i := 15) (v := ?_) (by simp only [List.getElem?_toArray, List.getElem?_cons_succ, List.getElem?_cons_zero]; rfl) (by kernel_rfl) (by kernel_rfl) (by kernel_rfl) (fun _ _ _ h => h) (Or.inl ⟨by rfl, ?_⟩) (by assumption) ?_
      rotate_left
      · (intro w hSw; (try dsimp only at hSw); go_simp; try with_reducible rfl)
      try simp only [Act.put, List.setIfInBounds_toArray, List.set_cons_zero, List.set_cons_succ]
      refine wpAnyH_take (i := 16) (v := ?_) (by simp only [List.getElem?_toArray, List.getElem?_cons_succ, List.getElem?_cons_zero]; rfl) (by kernel_rfl) (by kernel_rfl) (by kernel_rfl) (fun _ _ _ h => h) (Or.inl ⟨by rfl, ?_⟩) (by assumption) ?_
      rotate_left
      · (intro w hSw; (try dsimp only at hSw); go_simp; try with_reducible rfl)
      try simp only [Act.put, List.setIfInBounds_toArray, List.set_cons_zero, List.set_cons_succ]
      refine wpAnyH_take (i := 17) (v := ?_) (by simp only [List.getElem?_toArray, List.getElem?_cons_succ, List.getElem?_cons_zero]; rfl) (by kernel_rfl) (by kernel_rfl) (by kernel_rfl) (fun _ _ _ h => h) (Or.inl ⟨by rfl, ?_⟩) (by assumption) ?_
      rotate_left
      · (intro w hSw; (try dsimp only at hSw); go_simp; try with_reducible rfl)
      try simp only [Act.put, List.setIfInBounds_toArray, List.set_cons_zero, List.set_cons_succ]
      refine wpAnyH_take (i := 18) (v := ?_) (by simp only [List.getElem?_toArray, List.getElem?_cons_succ, List.getElem?_cons_zero]; rfl) (by kernel_rfl) (by kernel_rfl) (by kernel_rfl) (fun _ _ _ h => h) (Or.inl ⟨by rfl, ?_⟩) (by assumption) ?_
      rotate_left
      · (intro w hSw; (try dsimp only at hSw); go_simp; try with_reducible rfl)
      try simp only [Act.put, List.setIfInBounds_toArray, List.set_cons_zero, List.set_cons_succ]
      refine wpAnyH_take (i := 19) (v := ?_) (by simp only [List.getElem?_toArray, List.getElem?_cons_succ, List.getElem?_cons_zero]; rfl) (by kernel_rfl) (by kernel_rfl) (by kernel_rfl) (fun _ _ _ h => h) (Or.inl ⟨by rfl, ?_⟩) (by assumption) ?_
      rotate_left
      · (intro w hSw; (try dsimp only at hSw); go_simp; try with_reducible rfl)
      try simp only [Act.put, List.setIfInBounds_toArray, List.set_cons_zero, List.set_cons_succ]
      refine wpAnyH_take (i := 20) (v := ?_) (by simp only [List.getElem?_toArray, List.getElem?_cons_succ, List.getElem?_cons_zero]; rfl) (by kernel_rfl) (by kernel_rfl) (by kernel_rfl) (fun _ _ _ h => h) (Or.inl ⟨by rfl, ?_⟩) (by assumption) ?_
      rotate_left
      · (intro w hSw; (try dsimp only at hSw); go_simp; try with_reducible rfl)
      try simp only [Act.put, List.setIfInBounds_toArray, List.set_cons_zero, List.set_cons_succ]
      refine wpAnyH_take (i := 21) (v := ?_) (by simp only [List.getElem?_toArray, List.getElem?_cons_succ, List.getElem?_cons_zero]; rfl) (by kernel_rfl) (by kernel_rfl) (by kernel_rfl) (fun _ _ _ h => h) (Or.inl ⟨by rfl, ?_⟩) (by assumption) ?_
      rotate_left
      · (intro w hSw; (try dsimp only at hSw); go_simp; try with_reducible rfl)
      try simp only [Act.put, List.setIfInBounds_toArray, List.set_cons_zero, List.set_cons_succ]
      refine wpAnyH_take (i := 22) (v := ?_) (by simp only [List.getElem?_toArray, List.getElem?_cons_succ, List.getElem?_cons_zero]; rfl) (by kernel_rfl) (by kernel_rfl) (by kernel_rfl) (fun _ _ _ h => h) (Or.inl ⟨by rfl, ?_⟩) (by assumption) ?_
      rotate_left
      · (intro w hSw; (try dsimp only at hSw); go_simp; try with_reducible rfl)
      try simp only [Act.put, List.setIfInBounds_toArray, List.set_cons_zero, List.set_cons_succ]
      refine wpAnyH_take (i := 23) (v := ?_) (by simp only [List.getElem?_toArray, List.getElem?_cons_succ, List.getElem?_cons_zero]; rfl) (by kernel_rfl) (by kernel_rfl) (by kernel_rfl) (fun _ _ _ h => h) (Or.inl ⟨by rfl, ?_⟩) (by assumption) ?_
      rotate_left
      · (intro w hSw; (try dsimp only at hSw); go_simp; try with_reducible rfl)
      try simp only [Act.put, List.setIfInBounds_toArray, List.set_cons_zero, List.set_cons_succ]
      refine wpAnyH_done (by kernel_rfl) ?_ _
      refine NoPanic.normal ?_
      clear hb l0 l1 x0 x1 x2 t30 t33
      obtain ⟨hb, l0, l1, x0, x1, x2, t30, t33⟩ := hHeld
      replace l0 := Lib.hid l0
      replace l1 := Lib.hid l1
      replace t30 := Lib.hid t30
      replace t33 := Lib.hid t33
      clear x0 x1 x2
      clear nq
      go_wp2_with fail
      go_loopw [16, 17] (fun kv iv wr => ∃ j kk : Nat, j ≤ n0 ∧ iv = .int .i64 j ∧ kv = .int .i64 kk ∧ Hid (kk = (badL (a0.take j)).length) ∧ Below w.heap.size w wr ∧ Came wr s0 c0 a0 ∧ Came wr s1 c1 a1 ∧ Words.Lies wr z30 BD.length BD ∧ Came wr z33 y33 J) (fun kv iv _ => n0 - (intOf iv).toNat)
      case atStart => exact ⟨0, 0, by omega, rfl, rfl, Lib.hid rfl, hb, l0.out, l1.out, t30.out, t33.out⟩
      case round =>
        clear hb l0 l1 t30 t33
        obtain ⟨j, kk, hj, rfl, rfl, HK, hb, l0, l1, t30, t33⟩ := hrel
        replace l0 := Lib.hid l0
        replace l1 := Lib.hid l1
        replace t30 := Lib.hid t30
        replace t33 := Lib.hid t33
        by_cases hlt : j < n0
        · have hll : j < a0.length := by have := HN.out; omega
          obtain ⟨b4, o4, rfl, hcell⟩ := lies_at l0.out.1 (by omega)
          obtain ⟨u0, -, u2⟩ := hcell j hll
          have BS := badL_step a0 j hll
          have BA := fun h => bad_at a0 j hll h
          obtain ⟨m, hm⟩ : ∃ m, m = a0[j] := ⟨_, rfl⟩
          rw [← hm] at u0 u2 BS BA
          have d5 : decide ((j : Int) < (n0 : Int)) = true := decide_eq_true (by omega)
          have j5 : (0 : Int) ≤ (j : Int) := by omega
          have j6 : (j : Int) < (n0 : Int) := by omega
          have HJ := Lib.hid hlt
          clear hcell hm hll hlt
          cases hbd : m.bad
          · rw [hbd] at u2 BS
            have HK2 : Hid (kk = (badL (a0.take (j + 1))).length) := Lib.hid (by rw [BS, HK.out]; simp)
            clear BS BA hbd u0
            go_wp2_with fail
            go_roundw
            case rel => exact ⟨j + 1, kk, by have := HJ.out; omega, by go_num, rfl, HK2, hb, l0.out, l1.out, t30.out, t33.out⟩
            case measure => have := HJ.out; simp [intOf]; omega
          rw [hbd] at u2 BS
          obtain ⟨BA1, BA2⟩ := BA hbd
          have HK2 : Hid (kk + 1 = (badL (a0.take (j + 1))).length) := Lib.hid (by rw [BS, HK.out]; simp)
          rw [hBD.out, ← HK.out] at BA1 BA2
          clear BS hbd BA
          obtain ⟨b5, o5, rfl, hw5⟩ := words_at t30.out (by omega)
          have t0 := hw5 kk BA1
          rw [List.getElem?_eq_getElem BA1] at BA2
          rw [Option.some.inj BA2] at t0
          clear hw5 BA2
          have d6 : decide ((kk : Int) ≥ (BD.length : Int)) = false := decide_eq_false (by omega)
          have d7 : decide ((BD.length : Int) ≤ (kk : Int)) = false := decide_eq_false (by omega)
          have d8 : decide (BD.length ≤ kk) = false := decide_eq_false (by omega)
          have j7 : (0 : Int) ≤ (kk : Int) := by omega
          have j8 : (kk : Int) < (BD.length : Int) := by omega
          have j9 : kk ≤ 1000 := by have := BL.out; omega
          clear BA1
          go_wp2_with fail
          refine wp_region_noPanic ?_
          refine wp_region_held_drew (S := (fun w' => Below w.heap.size w w' ∧ Came w' (some ⟨b4, o4, none⟩) c0 a0 ∧ Came w' s1 c1 a1 ∧ Words.Lies w' (some ⟨b5, o5, none⟩) BD.length BD ∧ Came w' z33 y33 J ∧ w'.cell? ⟨b5, o5 + kk, none⟩ = some (.string ⟨m.p.toArray⟩) ∧ w'.cell? ⟨b4, o4 + j * 3, none⟩ = some (.string ⟨m.p.toArray⟩))) (by kernel_rfl) (⟨Below.drew hb, (l0.out).below (Below.drew (Below.refl _ _)), (l1.out).below (Below.drew (Below.refl _ _)), (t30.out).below (Below.drew (Below.refl _ _)), (t33.out).below (Below.drew (Below.refl _ _)), Beat.keepC t0 (Below.drew (Below.refl _ _)), Beat.keepC u0 (Below.drew (Below.refl _ _))⟩) (fun hHeld => ?_)
          refine wpAnyH_take (i := 0) (v := ?_) (by simp only [List.getElem?_toArray, List.getElem?_cons_zero]; rfl) (by kernel_rfl) (by kernel_rfl) (by kernel_rfl) (fun _ _ _ h => h) (Or.inl ⟨by rfl, ?_⟩) (by assumption) ?_
          rotate_left
          · (intro w hSw; (try dsimp only at hSw); go_simp; try with_reducible rfl)
          try simp only [Act.put, List.setIfInBounds_toArray, List.set_cons_zero, List.set_cons_succ]
          refine wpAnyH_take (i := 1) (v := ?_) (by simp only [List.getElem?_toArray, List.getElem?_cons_succ, List.getElem?_cons_zero]; rfl) (by kernel_rfl) (by kernel_rfl) (by kernel_rfl) (fun _ _ _ h => h) (Or.inl ⟨by rfl, ?_⟩) (by assumption) ?_
          rotate_left
          · (intro w hSw; (try dsimp only at hSw); go_simp; try with_reducible rfl)
          try simp only [Act.put, List.setIfInBounds_toArray, List.set_cons_zero, List.set_cons_succ]
          refine wpAnyH_take (i := 2) (v := ?_) (by simp only [List.getElem?_toArray, List.getElem?_cons_succ, List.getElem?_cons_zero]; rfl) (by kernel_rfl) (by kernel_rfl) (by kernel_rfl) (fun _ _ _ h => h) (Or.inl ⟨by rfl, ?_⟩) (by assumption) ?_
          rotate_left
          · (intro w hSw; (try dsimp only at hSw); go_simp; try with_reducible rfl)
          try simp only [Act.put, List.setIfInBounds_toArray, List.set_cons_zero, List.set_cons_succ]
          refine wpAnyH_take (i := 3) (v := ?_) (by simp only [List.getElem?_toArray, List.getElem?_cons_succ, List.getElem?_cons_zero]; rfl) (by kernel_rfl) (by kernel_rfl) (by kernel_rfl) (fun _ _ _ h => h) (Or.inl ⟨by rfl, ?_⟩) (by assumption) ?_
          rotate_left
          · (intro w hSw; (try dsimp only at hSw); go_simp; try with_reducible rfl)
          try simp only [Act.put, List.setIfInBounds_toArray, List.set_cons_zero, List.set_cons_succ]
          refine wpAnyH_take (i := 4) (v := ?_) (by simp only [List.getElem?_toArray, List.getElem?_cons_succ, List.getElem?_cons_zero]; rfl) (by kernel_rfl) (by kernel_rfl) (by kernel_rfl) (fun _ _ _ h => h) (Or.inl ⟨by rfl, ?_⟩) (by assumption) ?_
          rotate_left
          · (intro w hSw; (try dsimp only at hSw); go_simp; try with_reducible rfl)
          try simp only [Act.put, List.setIfInBounds_toArray, List.set_cons_zero, List.set_cons_succ]
          refine wpAnyH_take (i := 5) (v := ?_) (by simp only [List.getElem?_toArray, List.getElem?_cons_succ, List.getElem?_cons_zero]; rfl) (by kernel_rfl) (by kernel_rfl) (by kernel_rfl) (fun _ _ _ h => h) (Or.inl ⟨by rfl, ?_⟩) (by assumption) ?_
          rotate_left
          · (intro w hSw; (try dsimp only at hSw); go_simp; try with_reducible rfl)
          try simp only [Act.put, List.setIfInBounds_toArray, List.set_cons_zero, List.set_cons_succ]
          refine wpAnyH_take (i := 6) (v := ?_) (by simp only [List.getElem?_toArray, List.getElem?_cons_succ, List.getElem?_cons_zero]; rfl) (by kernel_rfl) (by kernel_rfl) (by kernel_rfl) (fun _ _ _ h => h) (Or.inl ⟨by rfl, ?_⟩) (by assumption) ?_
          rotate_left
          · (intro w hSw; (try dsimp only at hSw); go_simp; try with_reducible rfl)
          try simp only [Act.put, List.setIfInBounds_toArray, List.set_cons_zero, List.set_cons_succ]
          refine wpAnyH_take (i := 7) (v := ?_) (by simp only [List.getElem?_toArray, List.getElem?_cons_succ, List.getElem?_cons_zero]; rfl) (by kernel_rfl) (by kernel_rfl) (by kernel_rfl) (fun _ _ _ h => h) (Or.inl ⟨by rfl, ?_⟩) (by assumption) ?_
          rotate_left
          · (intro w hSw; (try dsimp only at hSw); go_simp; try with_reducible rfl)
          try simp only [Act.put, List.setIfInBounds_toArray, List.set_cons_zero, List.set_cons_succ]
          refine wpAnyH_take (i := 8) (v := ?_) (by simp only [List.getElem?_toArray, List.getElem?_cons_succ, List.getElem?_cons_zero]; rfl) (by kernel_rfl) (by kernel_rfl) (by kernel_rfl) (fun _ _ _ h => h) (Or.inl ⟨by rfl, ?_⟩) (by assumption) ?_
          rotate_left
          · (intro w hSw; (try dsimp only at hSw); go_simp; try with_reducible rfl)
          try simp only [Act.put, List.setIfInBounds_toArray, List.set_cons_zero, List.set_cons_succ]
          refine wpAnyH_take (i := 9) (v := ?_) (by simp only [List.getElem?_toArray, List.getElem?_cons_succ, List.getElem?_cons_zero]; rfl) (by kernel_rfl) (by kernel_rfl) (by kernel_rfl) (fun _ _ _ h => h) (Or.inl ⟨by rfl, ?_⟩) (by assumption) ?_
          rotate_left
          · (intro w hSw; (try dsimp only at hSw); go_simp; try with_reducible rfl)
          try simp only [Act.put, List.setIfInBounds_toArray, List.set_cons_zero, List.set_cons_succ]
          refine wpAnyH_take (i := 10) (v := ?_) (by simp only [List.getElem?_toArray, List.getElem?_cons_succ, List.getElem?_cons_zero]; rfl) (by kernel_rfl) (by kernel_rfl) (by kernel_rfl) (fun _ _ _ h => h) (Or.inl ⟨by rfl, ?_⟩) (by assumption) ?_
          rotate_left
          · (intro w hSw; (try dsimp only at hSw); go_simp; try with_reducible rfl)
          try simp only [Act.put, List.setIfInBounds_toArray, List.set_cons_zero, List.set_cons_succ]
          refine wpAnyH_take (i := 11) (v := ?_) (by simp only [List.getElem?_toArray, List.getElem?_cons_succ, List.getElem?_cons_zero]; rfl) (by kernel_rfl) (by kernel_rfl) (by kernel_rfl) (fun _ _ _ h => h) (Or.inl ⟨by rfl, ?_⟩) (by assumption) ?_
          rotate_left
          · (intro w hSw; (try dsimp only at hSw); go_simp; try with_reducible rfl)
          try simp only [Act.put, List.setIfInBounds_toArray, List.set_cons_zero, List.set_cons_succ]
          refine wpAnyH_take (i := 12) (v := ?_) (by simp only [List.getElem?_toArray, List.getElem?_cons_succ, List.getElem?_cons_zero]; rfl) (by kernel_rfl) (by kernel_rfl) (by kernel_rfl) (fun _ _ _ h => h) (Or.inl ⟨by rfl, ?_⟩) (by assumption) ?_
          rotate_left
          · (intro w hSw; (try dsimp only at hSw); go_simp; try with_reducible rfl)
          try simp only [Act.put, List.setIfInBounds_toArray, List.set_cons_zero, List.set_cons_succ]
          refine wpAnyH_take (i := 13) (v := ?_) (by simp only [List.getElem?_toArray, List.getElem?_cons_succ, List.getElem?_cons_zero]; rfl) (by kernel_rfl) (by kernel_rfl) (by kernel_rfl) (fun _ _ _ h => h) (Or.inl ⟨by rfl, ?_⟩) (by assumption) ?_
          rotate_left
          · (intro w hSw; (try dsimp only at hSw); go_simp; try with_reducible rfl)
          try simp only [Act.put, List.setIfInBounds_toArray, List.set_cons_zero, List.set_cons_succ]
          refine wpAnyH_take (i := 14) (v := ?_) (by simp only [List.getElem?_toArray, List.getElem?_cons_succ, List.getElem?_cons_zero]; rfl) (by kernel_rfl) (by kernel_rfl) (by kernel_rfl) (fun _ _ _ h => h) (Or.inl ⟨by rfl, ?_⟩) (by assumption) ?_
          rotate_left
          · (intro w hSw; (try dsimp only at hSw); go_simp; try with_reducible rfl)
          try simp only [Act.put, List.setIfInBounds_toArray, List.set_cons_zero, List.set_cons_succ]
          refine wpAnyH_take (i := 15) (v := ?_) (by simp only [List.getElem?_toArray, List.getElem?_cons_succ, List.getElem?_cons_zero]; rfl) (by kernel_rfl) (by kernel_rfl) (by kernel_rfl) (fun _ _ _ h => h) (Or.inl ⟨by rfl, ?_⟩) (by assumption) ?_
          rotate_left
          · (intro w hSw; (try dsimp only at hSw); go_simp; try with_reducible rfl)
          try simp only [Act.put, List.setIfInBounds_toArray, List.set_cons_zero, List.set_cons_succ]
          refine wpAnyH_done (by kernel_rfl) ?_ _
          refine NoPanic.normal ?_
          clear hb l0 l1 t30 t33 t0 u0
          obtain ⟨hb, l0, l1, t30, t33, t0, u0⟩ := hHeld
          replace l0 := Lib.hid l0
          replace l1 := Lib.hid l1
          replace t30 := Lib.hid t30
          replace t33 := Lib.hid t33
          clear t0 u0
          go_wp2_with fail
          go_roundw
          case rel => exact ⟨j + 1, kk + 1, by have := HJ.out; omega, by go_num, by go_num, HK2, hb, l0.out, l1.out, t30.out, t33.out⟩
          case measure => have := HJ.out; simp [intOf]; omega
        obtain rfl : n0 = j := by omega
        have d5 : decide ((n0 : Int) < (n0 : Int)) = false := decide_eq_false (by omega)
        obtain rfl : BD.length = kk := by have h := HK.out; rw [List.take_of_length_le (by have := HN.out; omega), hBD.out] at h; exact h.symm
        clear HK hj hlt
        go_wp2_with fail
        refine (RJ.out J _ XRJ.out l0.out l1.out).mono ?_
        rintro e v67 ⟨z40, y40, rfl, t40, k67⟩
        replace l0 := Lib.hid ((l0.out).below k67)
        replace l1 := Lib.hid ((l1.out).below k67)
        replace t30 := Lib.hid ((t30.out).below k67)
        replace t33 := Lib.hid ((t33.out).below k67)
        replace hb := bstep hb k67
        clear k67
        replace t40 := Lib.hid t40
        go_wp2_with fail
        refine (same_is t33.out.1 t40.out.1 NJ2.out).mono ?_
        rintro e v68 ⟨rfl, k68⟩
        replace l0 := Lib.hid ((l0.out).below k68)
        replace l1 := Lib.hid ((l1.out).below k68)
        replace t30 := Lib.hid ((t30.out).below k68)
        replace t33 := Lib.hid ((t33.out).below k68)
        replace t40 := Lib.hid ((t40.out).below k68)
        replace hb := bstep hb k68
        clear k68
        clear t40 t33 t30
        go_wp2_with fail
        refine (DQ.out _).mono ?_
        rintro e v69 ⟨rfl, k69⟩
        replace l0 := Lib.hid ((l0.out).below k69)
        replace l1 := Lib.hid ((l1.out).below k69)
        replace hb := bstep hb k69
        clear k69
        rw [MQ.out]
        go_wp2_with fail
        refine (works_any _).mono ?_
        rintro e v70 ⟨rfl, k70⟩
        replace l0 := Lib.hid ((l0.out).below k70)
        replace l1 := Lib.hid ((l1.out).below k70)
        replace hb := bstep hb k70
        clear k70
        go_wp2
        go_ret
        exact ⟨rfl, hb⟩
    have MQ := Lib.hid (path_no mq)
    have XP1 : Hid (putL a0 ⟨q, 0, true⟩ = SL) := Lib.hid (by rw [← hSL]; unfold susB; rw [m0, mq, hl]; rfl)
    replace XR : Hid (refB a0 q = a0) := Lib.hid (by unfold refB; rw [m0, mq, hl]; rfl)
    replace NR2 : Hid (a0.length ≤ 1000) := Lib.hid (by have := K0.out.1; omega)
    have XD2 : Hid (dropL a0 [q] = DL) := Lib.hid (by rw [← hDL]; unfold dropB; simp [m0, mq])
    clear mq m0 m1 hl hSL hRL hDL
    go_enter Try.func3, Try.ntmps3
    go_wp2_with fail
    refine (C0.out _ l0.out).mono ?_
    rintro e w71 ⟨rfl, rfl⟩
    rw [H0.out]
    go_wp2_with fail
    refine (C1.out _ l1.out).mono ?_
    rintro e w72 ⟨rfl, rfl⟩
    rw [H1.out]
    go_wp2_with fail
    refine (D0.out _ l0.out).mono ?_
    rintro e v73 ⟨rfl, k73⟩
    replace l0 := Lib.hid ((l0.out).below k73)
    replace l1 := Lib.hid ((l1.out).below k73)
    replace hb := bstep hb k73
    clear k73
    rw [M0.out]
    go_wp2_with fail
    refine (E0.out _ l0.out).mono ?_
    rintro e v74 ⟨z41, y41, rfl, t41, k74⟩
    replace l0 := Lib.hid ((l0.out).below k74)
    replace l1 := Lib.hid ((l1.out).below k74)
    replace hb := bstep hb k74
    clear k74
    replace t41 := Lib.hid t41
    go_wp2_with fail
    refine (may_any a0 _ _ _ t41.out.1 K0.out.2).mono ?_
    rintro e v75 ⟨rfl, k75⟩
    replace l0 := Lib.hid ((l0.out).below k75)
    replace l1 := Lib.hid ((l1.out).below k75)
    replace t41 := Lib.hid ((t41.out).below k75)
    replace hb := bstep hb k75
    clear k75
    rw [M0.out]
    clear t41
    go_wp2_with fail
    refine (E0.out _ l0.out).mono ?_
    rintro e v76 ⟨z42, y42, rfl, t42, k76⟩
    replace l0 := Lib.hid ((l0.out).below k76)
    replace l1 := Lib.hid ((l1.out).below k76)
    replace hb := bstep hb k76
    clear k76
    replace t42 := Lib.hid t42
    go_wp2_with fail
    refine (of_is XO.out XI.out t42.out K0.out.2 HQ2.out).mono ?_
    rintro e v77 ⟨rfl, k77⟩
    replace l0 := Lib.hid ((l0.out).below k77)
    replace l1 := Lib.hid ((l1.out).below k77)
    replace t42 := Lib.hid ((t42.out).below k77)
    replace hb := bstep hb k77
    clear k77
    clear t42
    have x0 : (v77.alloc (.cells #[.string ⟨x.p.toArray⟩, .int .u64 (x.n : Int), .bool x.bad] 28)).cell? ⟨v77.heap.size, 0, none⟩ = some (.string ⟨x.p.toArray⟩) := by rw [World.cell?_alloc_new]; rfl
    have x1 : (v77.alloc (.cells #[.string ⟨x.p.toArray⟩, .int .u64 (x.n : Int), .bool x.bad] 28)).cell? ⟨v77.heap.size, 1, none⟩ = some (.int .u64 (x.n : Int)) := by rw [World.cell?_alloc_new]; rfl
    have x2 : (v77.alloc (.cells #[.string ⟨x.p.toArray⟩, .int .u64 (x.n : Int), .bool x.bad] 28)).cell? ⟨v77.heap.size, 2, none⟩ = some (.bool x.bad) := by rw [World.cell?_alloc_new]; rfl
    go_wp2_with fail
    have hbx : Below v77.heap.size v77 (v77.alloc (.cells #[.string ⟨x.p.toArray⟩, .int .u64 (x.n : Int), .bool x.bad] 28)) := balloc (Below.refl _ _) _
    replace l0 := Lib.hid ((l0.out).below hbx)
    replace l1 := Lib.hid ((l1.out).below hbx)
    replace hb := bstep hb hbx
    generalize v77.alloc _ = u0 at *
    generalize v77.heap.size = g0 at *
    clear hbx
    refine (E0.out _ l0.out).mono ?_
    rintro e v78 ⟨z43, y43, rfl, t43, k78⟩
    replace l0 := Lib.hid ((l0.out).below k78)
    replace l1 := Lib.hid ((l1.out).below k78)
    replace x0 := (Beat.keepC x0 k78)
    replace x1 := (Beat.keepC x1 k78)
    replace x2 := (Beat.keepC x2 k78)
    replace hb := bstep hb k78
    clear k78
    replace t43 := Lib.hid t43
    go_wp2_with fail
    refine (bad_got XB.out t43.out K0.out.2).mono ?_
    rintro e v79 ⟨z44, y44, rfl, t44, k79⟩
    replace l0 := Lib.hid ((l0.out).below k79)
    replace l1 := Lib.hid ((l1.out).below k79)
    replace x0 := (Beat.keepC x0 k79)
    replace x1 := (Beat.keepC x1 k79)
    replace x2 := (Beat.keepC x2 k79)
    replace t43 := Lib.hid ((t43.out).below k79)
    replace hb := bstep hb k79
    clear k79
    replace t44 := Lib.hid t44
    clear t43
    go_wp2_with fail
    refine (E0.out _ l0.out).mono ?_
    rintro e v80 ⟨z45, y45, rfl, t45, k80⟩
    replace l0 := Lib.hid ((l0.out).below k80)
    replace l1 := Lib.hid ((l1.out).below k80)
    replace x0 := (Beat.keepC x0 k80)
    replace x1 := (Beat.keepC x1 k80)
    replace x2 := (Beat.keepC x2 k80)
    replace t44 := Lib.hid ((t44.out).below k80)
    replace hb := bstep hb k80
    clear k80
    replace t45 := Lib.hid t45
    go_wp2_with fail
    refine (E1.out _ l1.out).mono ?_
    rintro e v81 ⟨z46, y46, rfl, t46, k81⟩
    replace l0 := Lib.hid ((l0.out).below k81)
    replace l1 := Lib.hid ((l1.out).below k81)
    replace x0 := (Beat.keepC x0 k81)
    replace x1 := (Beat.keepC x1 k81)
    replace x2 := (Beat.keepC x2 k81)
    replace t44 := Lib.hid ((t44.out).below k81)
    replace t45 := Lib.hid ((t45.out).below k81)
    replace hb := bstep hb k81
    clear k81
    replace t46 := Lib.hid t46
    go_wp2_with fail
    refine (join_got XJ.out t45.out t46.out K0.out.2 K1.out.2 NJ2.out).mono ?_
    rintro e v82 ⟨z47, y47, rfl, t47, k82⟩
    replace l0 := Lib.hid ((l0.out).below k82)
    replace l1 := Lib.hid ((l1.out).below k82)
    replace x0 := (Beat.keepC x0 k82)
    replace x1 := (Beat.keepC x1 k82)
    replace x2 := (Beat.keepC x2 k82)
    replace t44 := Lib.hid ((t44.out).below k82)
    replace t45 := Lib.hid ((t45.out).below k82)
    replace t46 := Lib.hid ((t46.out).below k82)
    replace hb := bstep hb k82
    clear k82
    replace t47 := Lib.hid t47
    clear t45 t46
    go_wp2_with fail
    refine (E0.out _ l0.out).mono ?_
    rintro e v83 ⟨z48, y48, rfl, t48, k83⟩
    replace l0 := Lib.hid ((l0.out).below k83)
    replace l1 := Lib.hid ((l1.out).below k83)
    replace x0 := (Beat.keepC x0 k83)
    replace x1 := (Beat.keepC x1 k83)
    replace x2 := (Beat.keepC x2 k83)
    replace t44 := Lib.hid ((t44.out).below k83)
    replace t47 := Lib.hid ((t47.out).below k83)
    replace hb := bstep hb k83
    clear k83
    replace t48 := Lib.hid t48
    go_wp2_with fail
    refine (sus_got XS.out t48.out K0.out.2 HQ2.out NS2.out).mono ?_
    rintro e v84 ⟨z49, y49, rfl, t49, k84⟩
    replace l0 := Lib.hid ((l0.out).below k84)
    replace l1 := Lib.hid ((l1.out).below k84)
    replace x0 := (Beat.keepC x0 k84)
    replace x1 := (Beat.keepC x1 k84)
    replace x2 := (Beat.keepC x2 k84)
    replace t44 := Lib.hid ((t44.out).below k84)
    replace t47 := Lib.hid ((t47.out).below k84)
    replace t48 := Lib.hid ((t48.out).below k84)
    replace hb := bstep hb k84
    clear k84
    replace t49 := Lib.hid t49
    clear t48
    go_wp2_with fail
    refine (E0.out _ l0.out).mono ?_
    rintro e v85 ⟨z50, y50, rfl, t50, k85⟩
    replace l0 := Lib.hid ((l0.out).below k85)
    replace l1 := Lib.hid ((l1.out).below k85)
    replace x0 := (Beat.keepC x0 k85)
    replace x1 := (Beat.keepC x1 k85)
    replace x2 := (Beat.keepC x2 k85)
    replace t44 := Lib.hid ((t44.out).below k85)
    replace t47 := Lib.hid ((t47.out).below k85)
    replace t49 := Lib.hid ((t49.out).below k85)
    replace hb := bstep hb k85
    clear k85
    replace t50 := Lib.hid t50
    go_wp2_with fail
    refine (ref_got XR.out t50.out K0.out.2 HQ2.out NR2.out).mono ?_
    rintro e v86 ⟨z51, y51, rfl, t51, k86⟩
    replace l0 := Lib.hid ((l0.out).below k86)
    replace l1 := Lib.hid ((l1.out).below k86)
    replace x0 := (Beat.keepC x0 k86)
    replace x1 := (Beat.keepC x1 k86)
    replace x2 := (Beat.keepC x2 k86)
    replace t44 := Lib.hid ((t44.out).below k86)
    replace t47 := Lib.hid ((t47.out).below k86)
    replace t49 := Lib.hid ((t49.out).below k86)
    replace t50 := Lib.hid ((t50.out).below k86)
    replace hb := bstep hb k86
    clear k86
    replace t51 := Lib.hid t51
    clear t50
    go_wp2_with fail
    refine (E0.out _ l0.out).mono ?_
    rintro e v87 ⟨z52, y52, rfl, t52, k87⟩
    replace l0 := Lib.hid ((l0.out).below k87)
    replace l1 := Lib.hid ((l1.out).below k87)
    replace x0 := (Beat.keepC x0 k87)
    replace x1 := (Beat.keepC x1 k87)
    replace x2 := (Beat.keepC x2 k87)
    replace t44 := Lib.hid ((t44.out).below k87)
    replace t47 := Lib.hid ((t47.out).below k87)
    replace t49 := Lib.hid ((t49.out).below k87)
    replace t51 := Lib.hid ((t51.out).below k87)
    replace hb := bstep hb k87
    clear k87
    replace t52 := Lib.hid t52
    go_wp2_with fail
    have hbx : Below v87.heap.size v87 (v87.alloc (.cells #[.string ⟨q.toArray⟩] 9)) := balloc (Below.refl _ _) _
    have lq := Row.lies_new (E := Words.enc) v87 q 9
    replace l0 := Lib.hid ((l0.out).below hbx)
    replace l1 := Lib.hid ((l1.out).below hbx)
    replace x0 := (Beat.keepC x0 hbx)
    replace x1 := (Beat.keepC x1 hbx)
    replace x2 := (Beat.keepC x2 hbx)
    replace t44 := Lib.hid ((t44.out).below hbx)
    replace t47 := Lib.hid ((t47.out).below hbx)
    replace t49 := Lib.hid ((t49.out).below hbx)
    replace t51 := Lib.hid ((t51.out).below hbx)
    replace t52 := Lib.hid ((t52.out).below hbx)
    replace hb := bstep hb hbx
    clear hbx
    refine (drop_got (ps := [q]) XD.out t52.out lq K0.out.2 (fun p hp => by obtain rfl := List.mem_singleton.1 hp; exact HQ2.out) (by simp) ND2.out).mono ?_
    rintro e v88 ⟨z53, y53, rfl, t53, k88⟩
    replace l0 := Lib.hid ((l0.out).below k88)
    replace l1 := Lib.hid ((l1.out).below k88)
    replace x0 := (Beat.keepC x0 k88)
    replace x1 := (Beat.keepC x1 k88)
    replace x2 := (Beat.keepC x2 k88)
    replace t44 := Lib.hid ((t44.out).below k88)
    replace t47 := Lib.hid ((t47.out).below k88)
    replace t49 := Lib.hid ((t49.out).below k88)
    replace t51 := Lib.hid ((t51.out).below k88)
    replace t52 := Lib.hid ((t52.out).below k88)
    replace hb := bstep hb k88
    clear k88
    replace t53 := Lib.hid t53
    clear lq
    clear t52
    go_wp2_with fail
    refine (D1.out _ l1.out).mono ?_
    rintro e v89 ⟨rfl, k89⟩
    replace l0 := Lib.hid ((l0.out).below k89)
    replace l1 := Lib.hid ((l1.out).below k89)
    replace x0 := (Beat.keepC x0 k89)
    replace x1 := (Beat.keepC x1 k89)
    replace x2 := (Beat.keepC x2 k89)
    replace t44 := Lib.hid ((t44.out).below k89)
    replace t47 := Lib.hid ((t47.out).below k89)
    replace t49 := Lib.hid ((t49.out).below k89)
    replace t51 := Lib.hid ((t51.out).below k89)
    replace t53 := Lib.hid ((t53.out).below k89)
    replace hb := bstep hb k89
    clear k89
    rw [M1.out]
    go_wp2_with fail
    refine (AT.out _ l0.out).mono ?_
    rintro e w90 ⟨rfl, rfl⟩
    rw [HA.out]
    go_wp2_with fail
    refine wp_region_noPanic ?_
    refine wp_region_held_drew (S := (fun w' => Below w.heap.size w w' ∧ Came w' s0 c0 a0 ∧ Came w' s1 c1 a1 ∧ w'.cell? ⟨g0, 0, none⟩ = some (.string ⟨x.p.toArray⟩) ∧ w'.cell? ⟨g0, 1, none⟩ = some (.int .u64 (x.n : Int)) ∧ w'.cell? ⟨g0, 2, none⟩ = some (.bool x.bad) ∧ Words.Lies w' z44 BD.length BD ∧ Came w' z47 y47 J ∧ Came w' z49 y49 SL ∧ Came w' z51 y51 a0 ∧ Came w' z53 y53 DL)) (by kernel_rfl) (⟨Below.drew hb, (l0.out).below (Below.drew (Below.refl _ _)), (l1.out).below (Below.drew (Below.refl _ _)), Beat.keepC x0 (Below.drew (Below.refl _ _)), Beat.keepC x1 (Below.drew (Below.refl _ _)), Beat.keepC x2 (Below.drew (Below.refl _ _)), (t44.out).below (Below.drew (Below.refl _ _)), (t47.out).below (Below.drew (Below.refl _ _)), (t49.out).below (Below.drew (Below.refl _ _)), (t51.out).below (Below.drew (Below.refl _ _)), (t53.out).below (Below.drew (Below.refl _ _))⟩) (fun hHeld => ?_)
    refine wpAnyH_take (i := 0) (v := ?_) (by simp only [List.getElem?_toArray, List.getElem?_cons_zero]; rfl) (by kernel_rfl) (by kernel_rfl) (by kernel_rfl) (fun _ _ _ h => h) (Or.inl ⟨by rfl, ?_⟩) (by assumption) ?_
    rotate_left
    · (intro w hSw; (try dsimp only at hSw); go_simp; try with_reducible rfl)
    try simp only [Act.put, List.setIfInBounds_toArray, List.set_cons_zero, List.set_cons_succ]
    refine wpAnyH_take (i := 1) (v := ?_) (by simp only [List.getElem?_toArray, List.getElem?_cons_succ, List.getElem?_cons_zero]; rfl) (by kernel_rfl) (by kernel_rfl) (by kernel_rfl) (fun _ _ _ h => h) (Or.inl ⟨by rfl, ?_⟩) (by assumption) ?_
    rotate_left
    · (intro w hSw; (try dsimp only at hSw); go_simp; try with_reducible rfl)
    try simp only [Act.put, List.setIfInBounds_toArray, List.set_cons_zero, List.set_cons_succ]
    refine wpAnyH_take (i := 2) (v := ?_) (by simp only [List.getElem?_toArray, List.getElem?_cons_succ, List.getElem?_cons_zero]; rfl) (by kernel_rfl) (by kernel_rfl) (by kernel_rfl) (fun _ _ _ h => h) (Or.inl ⟨by rfl, ?_⟩) (by assumption) ?_
    rotate_left
    · (intro w hSw; (try dsimp only at hSw); go_simp; try with_reducible rfl)
    try simp only [Act.put, List.setIfInBounds_toArray, List.set_cons_zero, List.set_cons_succ]
    refine wpAnyH_take (i := 3) (v := ?_) (by simp only [List.getElem?_toArray, List.getElem?_cons_succ, List.getElem?_cons_zero]; rfl) (by kernel_rfl) (by kernel_rfl) (by kernel_rfl) (fun _ _ _ h => h) (Or.inl ⟨by rfl, ?_⟩) (by assumption) ?_
    rotate_left
    · (intro w hSw; (try dsimp only at hSw); go_simp; try with_reducible rfl)
    try simp only [Act.put, List.setIfInBounds_toArray, List.set_cons_zero, List.set_cons_succ]
    refine wpAnyH_take (i := 4) (v := ?_) (by simp only [List.getElem?_toArray, List.getElem?_cons_succ, List.getElem?_cons_zero]; rfl) (by kernel_rfl) (by kernel_rfl) (by kernel_rfl) (fun _ _ _ h => h) (Or.inl ⟨by rfl, ?_⟩) (by assumption) ?_
    rotate_left
    · (intro w hSw; (try dsimp only at hSw); go_simp; try with_reducible rfl)
    try simp only [Act.put, List.setIfInBounds_toArray, List.set_cons_zero, List.set_cons_succ]
    refine wpAnyH_take (i := 5) (v := ?_) (by simp only [List.getElem?_toArray, List.getElem?_cons_succ, List.getElem?_cons_zero]; rfl) (by kernel_rfl) (by kernel_rfl) (by kernel_rfl) (fun _ _ _ h => h) (Or.inl ⟨by rfl, ?_⟩) (by assumption) ?_
    rotate_left
    · (intro w hSw; (try dsimp only at hSw); go_simp; try with_reducible rfl)
    try simp only [Act.put, List.setIfInBounds_toArray, List.set_cons_zero, List.set_cons_succ]
    refine wpAnyH_take (i := 6) (v := ?_) (by simp only [List.getElem?_toArray, List.getElem?_cons_succ, List.getElem?_cons_zero]; rfl) (by kernel_rfl) (by kernel_rfl) (by kernel_rfl) (fun _ _ _ h => h) (Or.inl ⟨by rfl, ?_⟩) (by assumption) ?_
    rotate_left
    · (intro w hSw; (try dsimp only at hSw); go_simp; try with_reducible rfl)
    try simp only [Act.put, List.setIfInBounds_toArray, List.set_cons_zero, List.set_cons_succ]
    refine wpAnyH_take (i := 7) (v := undef) (by simp only [List.getElem?_toArray, List.getElem?_cons_succ, List.getElem?_cons_zero]; rfl) (by kernel_rfl) (by kernel_rfl) (by kernel_rfl) (fun _ _ _ h => h) (Or.inr ⟨by rfl, rfl⟩) (by assumption) ?_
    try simp only [Act.put, List.setIfInBounds_toArray, List.set_cons_zero, List.set_cons_succ]
    refine wpAnyH_take (i := 8) (v := undef) (by simp only [List.getElem?_toArray, List.getElem?_cons_succ, List.getElem?_cons_zero]; rfl) (by kernel_rfl) (by kernel_rfl) (by kernel_rfl) (fun _ _ _ h => h) (Or.inr ⟨by rfl, rfl⟩) (by assumption) ?_
    try simp only [Act.put, List.setIfInBounds_toArray, List.set_cons_zero, List.set_cons_succ]
    refine wpAnyH_take (i := 9) (v := undef) (by simp only [List.getElem?_toArray, List.getElem?_cons_succ, List.getElem?_cons_zero]; rfl) (by kernel_rfl) (by kernel_rfl) (by kernel_rfl) (fun _ _ _ h => h) (Or.inr ⟨by rfl, rfl⟩) (by assumption) ?_
    try simp only [Act.put, List.setIfInBounds_toArray, List.set_cons_zero, List.set_cons_succ]
    refine wpAnyH_take (i := 10) (v := undef) (by simp only [List.getElem?_toArray, List.getElem?_cons_succ, List.getElem?_cons_zero]; rfl) (by kernel_rfl) (by kernel_rfl) (by kernel_rfl) (fun _ _ _ h => h) (Or.inr ⟨by rfl, rfl⟩) (by assumption) ?_
    try simp only [Act.put, List.setIfInBounds_toArray, List.set_cons_zero, List.set_cons_succ]
    refine wpAnyH_take (i := 11) (v := undef) (by simp only [List.getElem?_toArray, List.getElem?_cons_succ, List.getElem?_cons_zero]; rfl) (by kernel_rfl) (by kernel_rfl) (by kernel_rfl) (fun _ _ _ h => h) (Or.inr ⟨by rfl, rfl⟩) (by assumption) ?_
    try simp only [Act.put, List.setIfInBounds_toArray, List.set_cons_zero, List.set_cons_succ]
    refine wpAnyH_take (i := 12) (v := undef) (by simp only [List.getElem?_toArray, List.getElem?_cons_succ, List.getElem?_cons_zero]; rfl) (by kernel_rfl) (by kernel_rfl) (by kernel_rfl) (fun _ _ _ h => h) (Or.inr ⟨by rfl, rfl⟩) (by assumption) ?_
    try simp only [Act.put, List.setIfInBounds_toArray, List.set_cons_zero, List.set_cons_succ]
    refine wpAnyH_take (i := 13) (v := ?_) (by simp only [List.getElem?_toArray, List.getElem?_cons_succ, List.getElem?_cons_zero]; rfl) (by kernel_rfl) (by kernel_rfl) (by kernel_rfl) (fun _ _ _ h => h) (Or.inl ⟨by rfl, ?_⟩) (by assumption) ?_
    rotate_left
    · (intro w hSw; (try dsimp only at hSw); go_simp; try with_reducible rfl)
    try simp only [Act.put, List.setIfInBounds_toArray, List.set_cons_zero, List.set_cons_succ]
    refine wpAnyH_take (i := 14) (v := ?_) (by simp only [List.getElem?_toArray, List.getElem?_cons_succ, List.getElem?_cons_zero]; rfl) (by kernel_rfl) (by kernel_rfl) (by kernel_rfl) (fun _ _ _ h => h) (Or.inl ⟨by rfl, ?_⟩) (by assumption) ?_
    rotate_left
    · (intro w hSw; (try dsimp only at hSw); go_simp; try with_reducible rfl)
    try simp only [Act.put, List.setIfInBounds_toArray, List.set_cons_zero, List.set_cons_succ]
    refine wpAnyH_take (i := 15) (v := ?_) (by simp only [List.getElem?_toArray, List.getElem?_cons_succ, List.getElem?_cons_zero]; rfl) (by kernel_rfl) (by kernel_rfl) (by kernel_rfl) (fun _ _ _ h => h) (Or.inl ⟨by rfl, ?_⟩) (by assumption) ?_
    rotate_left
    · (intro w hSw; (try dsimp only at hSw); go_simp; try with_reducible rfl)
    try simp only [Act.put, List.setIfInBounds_toArray, List.set_cons_zero, List.set_cons_succ]
    refine wpAnyH_take (i := 16) (v := ?_) (by simp only [List.getElem?_toArray, List.getElem?_cons_succ, List.getElem?_cons_zero]; rfl) (by kernel_rfl) (by kernel_rfl) (by kernel_rfl) (fun _ _ _ h => h) (Or.inl ⟨by rfl, ?_⟩) (by assumption) ?_
    rotate_left
    · (intro w hSw; (try dsimp only at hSw); go_simp; try with_reducible rfl)
    try simp only [Act.put, List.setIfInBounds_toArray, List.set_cons_zero, List.set_cons_succ]
    refine wpAnyH_take (i := 17) (v := ?_) (by simp only [List.getElem?_toArray, List.getElem?_cons_succ, List.getElem?_cons_zero]; rfl) (by kernel_rfl) (by kernel_rfl) (by kernel_rfl) (fun _ _ _ h => h) (Or.inl ⟨by rfl, ?_⟩) (by assumption) ?_
    rotate_left
    · (intro w hSw; (try dsimp only at hSw); go_simp; try with_reducible rfl)
    try simp only [Act.put, List.setIfInBounds_toArray, List.set_cons_zero, List.set_cons_succ]
    refine wpAnyH_take (i := 18) (v := ?_) (by simp only [List.getElem?_toArray, List.getElem?_cons_succ, List.getElem?_cons_zero]; rfl) (by kernel_rfl) (by kernel_rfl) (by kernel_rfl) (fun _ _ _ h => h) (Or.inl ⟨by rfl, ?_⟩) (by assumption) ?_
    rotate_left
    · (intro w hSw; (try dsimp only at hSw); go_simp; try with_reducible rfl)
    try simp only [Act.put, List.setIfInBounds_toArray, List.set_cons_zero, List.set_cons_succ]
    refine wpAnyH_take (i := 19) (v := ?_) (by simp only [List.getElem?_toArray, List.getElem?_cons_succ, List.getElem?_cons_zero]; rfl) (by kernel_rfl) (by kernel_rfl) (by kernel_rfl) (fun _ _ _ h => h) (Or.inl ⟨by rfl, ?_⟩) (by assumption) ?_
    rotate_left
    · (intro w hSw; (try dsimp only at hSw); go_simp; try with_reducible rfl)
    try simp only [Act.put, List.setIfInBounds_toArray, List.set_cons_zero, List.set_cons_succ]
    refine wpAnyH_take (i := 20) (v := ?_) (by simp only [List.getElem?_toArray, List.getElem?_cons_succ, List.getElem?_cons_zero]; rfl) (by kernel_rfl) (by kernel_rfl) (by kernel_rfl) (fun _ _ _ h => h) (Or.inl ⟨by rfl, ?_⟩) (by assumption) ?_
    rotate_left
    · (intro w hSw; (try dsimp only at hSw); go_simp; try with_reducible rfl)
    try simp only [Act.put, List.setIfInBounds_toArray, List.set_cons_zero, List.set_cons_succ]
    refine wpAnyH_take (i := 21) (v := ?_) (by simp only [List.getElem?_toArray, List.getElem?_cons_succ, List.getElem?_cons_zero]; rfl) (by kernel_rfl) (by kernel_rfl) (by kernel_rfl) (fun _ _ _ h => h) (Or.inl ⟨by rfl, ?_⟩) (by assumption) ?_
    rotate_left
    · (intro w hSw; (try dsimp only at hSw); go_simp; try with_reducible rfl)
    try simp only [Act.put, List.setIfInBounds_toArray, List.set_cons_zero, List.set_cons_succ]
    refine wpAnyH_take (i := 22) (v := ?_) (by simp only [List.getElem?_toArray, List.getElem?_cons_succ, List.getElem?_cons_zero]; rfl) (by kernel_rfl) (by kernel_rfl) (by kernel_rfl) (fun _ _ _ h => h) (Or.inl ⟨by rfl, ?_⟩) (by assumption) ?_
    rotate_left
    · (intro w hSw; (try dsimp only at hSw); go_simp; try with_reducible rfl)
    try simp only [Act.put, List.setIfInBounds_toArray, List.set_cons_zero, List.set_cons_succ]
    refine wpAnyH_take (i := 23) (v := ?_) (by simp only [List.getElem?_toArray, List.getElem?_cons_succ, List.getElem?_cons_zero]; rfl) (by kernel_rfl) (by kernel_rfl) (by kernel_rfl) (fun _ _ _ h => h) (Or.inl ⟨by rfl, ?_⟩) (by assumption) ?_
    rotate_left
    · (intro w hSw; (try dsimp only at hSw); go_simp; try with_reducible rfl)
    try simp only [Act.put, List.setIfInBounds_toArray, List.set_cons_zero, List.set_cons_succ]
    refine wpAnyH_done (by kernel_rfl) ?_ _
    refine NoPanic.normal ?_
    clear hb l0 l1 x0 x1 x2 t44 t47 t49 t51 t53
    obtain ⟨hb, l0, l1, x0, x1, x2, t44, t47, t49, t51, t53⟩ := hHeld
    replace l0 := Lib.hid l0
    replace l1 := Lib.hid l1
    replace t44 := Lib.hid t44
    replace t47 := Lib.hid t47
    replace t49 := Lib.hid t49
    replace t51 := Lib.hid t51
    replace t53 := Lib.hid t53
    clear x0 x1 x2
    clear nq
    go_wp2_with fail
    go_loopw [16, 17] (fun kv iv wr => ∃ j kk : Nat, j ≤ n0 ∧ iv = .int .i64 j ∧ kv = .int .i64 kk ∧ Hid (kk = (badL (a0.take j)).length) ∧ Below w.heap.size w wr ∧ Came wr s0 c0 a0 ∧ Came wr s1 c1 a1 ∧ Words.Lies wr z44 BD.length BD ∧ Came wr z47 y47 J ∧ Came wr z49 y49 SL ∧ Came wr z51 y51 a0 ∧ Came wr z53 y53 DL) (fun kv iv _ => n0 - (intOf iv).toNat)
    case atStart => exact ⟨0, 0, by omega, rfl, rfl, Lib.hid rfl, hb, l0.out, l1.out, t44.out, t47.out, t49.out, t51.out, t53.out⟩
    case round =>
      clear hb l0 l1 t44 t47 t49 t51 t53
      obtain ⟨j, kk, hj, rfl, rfl, HK, hb, l0, l1, t44, t47, t49, t51, t53⟩ := hrel
      replace l0 := Lib.hid l0
      replace l1 := Lib.hid l1
      replace t44 := Lib.hid t44
      replace t47 := Lib.hid t47
      replace t49 := Lib.hid t49
      replace t51 := Lib.hid t51
      replace t53 := Lib.hid t53
      by_cases hlt : j < n0
      · have hll : j < a0.length := by have := HN.out; omega
        obtain ⟨b4, o4, rfl, hcell⟩ := lies_at l0.out.1 (by omega)
        obtain ⟨u0, -, u2⟩ := hcell j hll
        have BS := badL_step a0 j hll
        have BA := fun h => bad_at a0 j hll h
        obtain ⟨m, hm⟩ : ∃ m, m = a0[j] := ⟨_, rfl⟩
        rw [← hm] at u0 u2 BS BA
        have d5 : decide ((j : Int) < (n0 : Int)) = true := decide_eq_true (by omega)
        have j5 : (0 : Int) ≤ (j : Int) := by omega
        have j6 : (j : Int) < (n0 : Int) := by omega
        have HJ := Lib.hid hlt
        clear hcell hm hll hlt
        cases hbd : m.bad
        · rw [hbd] at u2 BS
          have HK2 : Hid (kk = (badL (a0.take (j + 1))).length) := Lib.hid (by rw [BS, HK.out]; simp)
          clear BS BA hbd u0
          go_wp2_with fail
          go_roundw
          case rel => exact ⟨j + 1, kk, by have := HJ.out; omega, by go_num, rfl, HK2, hb, l0.out, l1.out, t44.out, t47.out, t49.out, t51.out, t53.out⟩
          case measure => have := HJ.out; simp [intOf]; omega
        rw [hbd] at u2 BS
        obtain ⟨BA1, BA2⟩ := BA hbd
        have HK2 : Hid (kk + 1 = (badL (a0.take (j + 1))).length) := Lib.hid (by rw [BS, HK.out]; simp)
        rw [hBD.out, ← HK.out] at BA1 BA2
        clear BS hbd BA
        obtain ⟨b5, o5, rfl, hw5⟩ := words_at t44.out (by omega)
        have t0 := hw5 kk BA1
        rw [List.getElem?_eq_getElem BA1] at BA2
        rw [Option.some.inj BA2] at t0
        clear hw5 BA2
        have d6 : decide ((kk : Int) ≥ (BD.length : Int)) = false := decide_eq_false (by omega)
        have d7 : decide ((BD.length : Int) ≤ (kk : Int)) = false := decide_eq_false (by omega)
        have d8 : decide (BD.length ≤ kk) = false := decide_eq_false (by omega)
        have j7 : (0 : Int) ≤ (kk : Int) := by omega
        have j8 : (kk : Int) < (BD.length : Int) := by omega
        have j9 : kk ≤ 1000 := by have := BL.out; omega
        clear BA1
        go_wp2_with fail
        refine wp_region_noPanic ?_
        refine wp_region_held_drew (S := (fun w' => Below w.heap.size w w' ∧ Came w' (some ⟨b4, o4, none⟩) c0 a0 ∧ Came w' s1 c1 a1 ∧ Words.Lies w' (some ⟨b5, o5, none⟩) BD.length BD ∧ Came w' z47 y47 J ∧ Came w' z49 y49 SL ∧ Came w' z51 y51 a0 ∧ Came w' z53 y53 DL ∧ w'.cell? ⟨b5, o5 + kk, none⟩ = some (.string ⟨m.p.toArray⟩) ∧ w'.cell? ⟨b4, o4 + j * 3, none⟩ = some (.string ⟨m.p.toArray⟩))) (by kernel_rfl) (⟨Below.drew hb, (l0.out).below (Below.drew (Below.refl _ _)), (l1.out).below (Below.drew (Below.refl _ _)), (t44.out).below (Below.drew (Below.refl _ _)), (t47.out).below (Below.drew (Below.refl _ _)), (t49.out).below (Below.drew (Below.refl _ _)), (t51.out).below (Below.drew (Below.refl _ _)), (t53.out).below (Below.drew (Below.refl _ _)), Beat.keepC t0 (Below.drew (Below.refl _ _)), Beat.keepC u0 (Below.drew (Below.refl _ _))⟩) (fun hHeld => ?_)
        refine wpAnyH_take (i := 0) (v := ?_) (by simp only [List.getElem?_toArray, List.getElem?_cons_zero]; rfl) (by kernel_rfl) (by kernel_rfl) (by kernel_rfl) (fun _ _ _ h => h) (Or.inl ⟨by rfl, ?_⟩) (by assumption) ?_
        rotate_left
        · (intro w hSw; (try dsimp only at hSw); go_simp; try with_reducible rfl)
        try simp only [Act.put, List.setIfInBounds_toArray, List.set_cons_zero, List.set_cons_succ]
        refine wpAnyH_take (i := 1) (v := ?_) (by simp only [List.getElem?_toArray, List.getElem?_cons_succ, List.getElem?_cons_zero]; rfl) (by kernel_rfl) (by kernel_rfl) (by kernel_rfl) (fun _ _ _ h => h) (Or.inl ⟨by rfl, ?_⟩) (by assumption) ?_
        rotate_left
        · (intro w hSw; (try dsimp only at hSw); go_simp; try with_reducible rfl)
        try simp only [Act.put, List.setIfInBounds_toArray, List.set_cons_zero, List.set_cons_succ]
        refine wpAnyH_take (i := 2) (v := ?_) (by simp only [List.getElem?_toArray, List.getElem?_cons_succ, List.getElem?_cons_zero]; rfl) (by kernel_rfl) (by kernel_rfl) (by kernel_rfl) (fun _ _ _ h => h) (Or.inl ⟨by rfl, ?_⟩) (by assumption) ?_
        rotate_left
        · (intro w hSw; (try dsimp only at hSw); go_simp; try with_reducible rfl)
        try simp only [Act.put, List.setIfInBounds_toArray, List.set_cons_zero, List.set_cons_succ]
        refine wpAnyH_take (i := 3) (v := ?_) (by simp only [List.getElem?_toArray, List.getElem?_cons_succ, List.getElem?_cons_zero]; rfl) (by kernel_rfl) (by kernel_rfl) (by kernel_rfl) (fun _ _ _ h => h) (Or.inl ⟨by rfl, ?_⟩) (by assumption) ?_
        rotate_left
        · (intro w hSw; (try dsimp only at hSw); go_simp; try with_reducible rfl)
        try simp only [Act.put, List.setIfInBounds_toArray, List.set_cons_zero, List.set_cons_succ]
        refine wpAnyH_take (i := 4) (v := ?_) (by simp only [List.getElem?_toArray, List.getElem?_cons_succ, List.getElem?_cons_zero]; rfl) (by kernel_rfl) (by kernel_rfl) (by kernel_rfl) (fun _ _ _ h => h) (Or.inl ⟨by rfl, ?_⟩) (by assumption) ?_
        rotate_left
        · (intro w hSw; (try dsimp only at hSw); go_simp; try with_reducible rfl)
        try simp only [Act.put, List.setIfInBounds_toArray, List.set_cons_zero, List.set_cons_succ]
        refine wpAnyH_take (i := 5) (v := ?_) (by simp only [List.getElem?_toArray, List.getElem?_cons_succ, List.getElem?_cons_zero]; rfl) (by kernel_rfl) (by kernel_rfl) (by kernel_rfl) (fun _ _ _ h => h) (Or.inl ⟨by rfl, ?_⟩) (by assumption) ?_
        rotate_left
        · (intro w hSw; (try dsimp only at hSw); go_simp; try with_reducible rfl)
        try simp only [Act.put, List.setIfInBounds_toArray, List.set_cons_zero, List.set_cons_succ]
        refine wpAnyH_take (i := 6) (v := ?_) (by simp only [List.getElem?_toArray, List.getElem?_cons_succ, List.getElem?_cons_zero]; rfl) (by kernel_rfl) (by kernel_rfl) (by kernel_rfl) (fun _ _ _ h => h) (Or.inl ⟨by rfl, ?_⟩) (by assumption) ?_
        rotate_left
        · (intro w hSw; (try dsimp only at hSw); go_simp; try with_reducible rfl)
        try simp only [Act.put, List.setIfInBounds_toArray, List.set_cons_zero, List.set_cons_succ]
        refine wpAnyH_take (i := 7) (v := ?_) (by simp only [List.getElem?_toArray, List.getElem?_cons_succ, List.getElem?_cons_zero]; rfl) (by kernel_rfl) (by kernel_rfl) (by kernel_rfl) (fun _ _ _ h => h) (Or.inl ⟨by rfl, ?_⟩) (by assumption) ?_
        rotate_left
        · (intro w hSw; (try dsimp only at hSw); go_simp; try with_reducible rfl)
        try simp only [Act.put, List.setIfInBounds_toArray, List.set_cons_zero, List.set_cons_succ]
        refine wpAnyH_take (i := 8) (v := ?_) (by simp only [List.getElem?_toArray, List.getElem?_cons_succ, List.getElem?_cons_zero]; rfl) (by kernel_rfl) (by kernel_rfl) (by kernel_rfl) (fun _ _ _ h => h) (Or.inl ⟨by rfl, ?_⟩) (by assumption) ?_
        rotate_left
        · (intro w hSw; (try dsimp only at hSw); go_simp; try with_reducible rfl)
        try simp only [Act.put, List.setIfInBounds_toArray, List.set_cons_zero, List.set_cons_succ]
        refine wpAnyH_take (i := 9) (v := ?_) (by simp only [List.getElem?_toArray, List.getElem?_cons_succ, List.getElem?_cons_zero]; rfl) (by kernel_rfl) (by kernel_rfl) (by kernel_rfl) (fun _ _ _ h => h) (Or.inl ⟨by rfl, ?_⟩) (by assumption) ?_
        rotate_left
        · (intro w hSw; (try dsimp only at hSw); go_simp; try with_reducible rfl)
        try simp only [Act.put, List.setIfInBounds_toArray, List.set_cons_zero, List.set_cons_succ]
        refine wpAnyH_take (i := 10) (v := ?_) (by simp only [List.getElem?_toArray, List.getElem?_cons_succ, List.getElem?_cons_zero]; rfl) (by kernel_rfl) (by kernel_rfl) (by kernel_rfl) (fun _ _ _ h => h) (Or.inl ⟨by rfl, ?_⟩) (by assumption) ?_
        rotate_left
        · (intro w hSw; (try dsimp only at hSw); go_simp; try with_reducible rfl)
        try simp only [Act.put, List.setIfInBounds_toArray, List.set_cons_zero, List.set_cons_succ]
        refine wpAnyH_take (i := 11) (v := ?_) (by simp only [List.getElem?_toArray, List.getElem?_cons_succ, List.getElem?_cons_zero]; rfl) (by kernel_rfl) (by kernel_rfl) (by kernel_rfl) (fun _ _ _ h => h) (Or.inl ⟨by rfl, ?_⟩) (by assumption) ?_
        rotate_left
        · (intro w hSw; (try dsimp only at hSw); go_simp; try with_reducible rfl)
        try simp only [Act.put, List.setIfInBounds_toArray, List.set_cons_zero, List.set_cons_succ]
        refine wpAnyH_take (i := 12) (v := ?_) (by simp only [List.getElem?_toArray, List.getElem?_cons_succ, List.getElem?_cons_zero]; rfl) (by kernel_rfl) (by kernel_rfl) (by kernel_rfl) (fun _ _ _ h => h) (Or.inl ⟨by rfl, ?_⟩) (by assumption) ?_
        rotate_left
        · (intro w hSw; (try dsimp only at hSw); go_simp; try with_reducible rfl)
        try simp only [Act.put, List.setIfInBounds_toArray, List.set_cons_zero, List.set_cons_succ]
        refine wpAnyH_take (i := 13) (v := ?_) (by simp only [List.getElem?_toArray, List.getElem?_cons_succ, List.getElem?_cons_zero]; rfl) (by kernel_rfl) (by kernel_rfl) (by kernel_rfl) (fun _ _ _ h => h) (Or.inl ⟨by rfl, ?_⟩) (by assumption) ?_
        rotate_left
        · (intro w hSw; (try dsimp only at hSw); go_simp; try with_reducible rfl)
        try simp only [Act.put, List.setIfInBounds_toArray, List.set_cons_zero, List.set_cons_succ]
        refine wpAnyH_take (i := 14) (v := ?_) (by simp only [List.getElem?_toArray, List.getElem?_cons_succ, List.getElem?_cons_zero]; rfl) (by kernel_rfl) (by kernel_rfl) (by kernel_rfl) (fun _ _ _ h => h) (Or.inl ⟨by rfl, ?_⟩) (by assumption) ?_
        rotate_left
        · (intro w hSw; (try dsimp only at hSw); go_simp; try with_reducible rfl)
        try simp only [Act.put, List.setIfInBounds_toArray, List.set_cons_zero, List.set_cons_succ]
        refine wpAnyH_take (i := 15) (v := ?_) (by simp only [List.getElem?_toArray, List.getElem?_cons_succ, List.getElem?_cons_zero]; rfl) (by kernel_rfl) (by kernel_rfl) (by kernel_rfl) (fun _ _ _ h => h) (Or.inl ⟨by rfl, ?_⟩) (by assumption) ?_
        rotate_left
        · (intro w hSw; (try dsimp only at hSw); go_simp; try with_reducible rfl)
        try simp only [Act.put, List.setIfInBounds_toArray, List.set_cons_zero, List.set_cons_succ]
        refine wpAnyH_done (by kernel_rfl) ?_ _
        refine NoPanic.normal ?_
        clear hb l0 l1 t44 t47 t49 t51 t53 t0 u0
        obtain ⟨hb, l0, l1, t44, t47, t49, t51, t53, t0, u0⟩ := hHeld
        replace l0 := Lib.hid l0
        replace l1 := Lib.hid l1
        replace t44 := Lib.hid t44
        replace t47 := Lib.hid t47
        replace t49 := Lib.hid t49
        replace t51 := Lib.hid t51
        replace t53 := Lib.hid t53
        clear t0 u0
        go_wp2_with fail
        go_roundw
        case rel => exact ⟨j + 1, kk + 1, by have := HJ.out; omega, by go_num, by go_num, HK2, hb, l0.out, l1.out, t44.out, t47.out, t49.out, t51.out, t53.out⟩
        case measure => have := HJ.out; simp [intOf]; omega
      obtain rfl : n0 = j := by omega
      have d5 : decide ((n0 : Int) < (n0 : Int)) = false := decide_eq_false (by omega)
      obtain rfl : BD.length = kk := by have h := HK.out; rw [List.take_of_length_le (by have := HN.out; omega), hBD.out] at h; exact h.symm
      clear HK hj hlt
      go_wp2_with fail
      refine (RJ.out J _ XRJ.out l0.out l1.out).mono ?_
      rintro e v91 ⟨z54, y54, rfl, t54, k91⟩
      replace l0 := Lib.hid ((l0.out).below k91)
      replace l1 := Lib.hid ((l1.out).below k91)
      replace t44 := Lib.hid ((t44.out).below k91)
      replace t47 := Lib.hid ((t47.out).below k91)
      replace t49 := Lib.hid ((t49.out).below k91)
      replace t51 := Lib.hid ((t51.out).below k91)
      replace t53 := Lib.hid ((t53.out).below k91)
      replace hb := bstep hb k91
      clear k91
      replace t54 := Lib.hid t54
      go_wp2_with fail
      refine (same_is t47.out.1 t54.out.1 NJ2.out).mono ?_
      rintro e v92 ⟨rfl, k92⟩
      replace l0 := Lib.hid ((l0.out).below k92)
      replace l1 := Lib.hid ((l1.out).below k92)
      replace t44 := Lib.hid ((t44.out).below k92)
      replace t47 := Lib.hid ((t47.out).below k92)
      replace t49 := Lib.hid ((t49.out).below k92)
      replace t51 := Lib.hid ((t51.out).below k92)
      replace t53 := Lib.hid ((t53.out).below k92)
      replace t54 := Lib.hid ((t54.out).below k92)
      replace hb := bstep hb k92
      clear k92
      clear t54 t47 t44
      go_wp2_with fail
      refine (DQ.out _).mono ?_
      rintro e v93 ⟨rfl, k93⟩
      replace l0 := Lib.hid ((l0.out).below k93)
      replace l1 := Lib.hid ((l1.out).below k93)
      replace t49 := Lib.hid ((t49.out).below k93)
      replace t51 := Lib.hid ((t51.out).below k93)
      replace t53 := Lib.hid ((t53.out).below k93)
      replace hb := bstep hb k93
      clear k93
      rw [MQ.out]
      go_wp2_with fail
      refine (PG.out ⟨q, 0, true⟩ SL _ XP1.out l0.out).mono ?_
      rintro e v94 ⟨z55, y55, rfl, t55, k94⟩
      replace l0 := Lib.hid ((l0.out).below k94)
      replace l1 := Lib.hid ((l1.out).below k94)
      replace t49 := Lib.hid ((t49.out).below k94)
      replace t51 := Lib.hid ((t51.out).below k94)
      replace t53 := Lib.hid ((t53.out).below k94)
      replace hb := bstep hb k94
      clear k94
      replace t55 := Lib.hid t55
      go_wp2_with fail
      have hO2 := Row.Own.nil (E := enc) (te := 28) v94 v94.heap.size
      have hb2 := Below.refl v94.heap.size v94
      go_loopw [20, 21] (fun lv iv wr => ∃ j : Nat, j ≤ n0 ∧ iv = .int .i64 j ∧ Hid (Mine wr v94.heap.size lv (dropL (a0.take j) [q])) ∧ Below v94.heap.size v94 wr) (fun _ iv _ => n0 - (intOf iv).toNat)
      case atStart => exact ⟨0, by omega, rfl, Lib.hid hO2, hb2⟩
      case round =>
        clear hO2 hb2
        obtain ⟨j, hj, rfl, oO, kb⟩ := hrel
        by_cases hlt : j < n0
        · have hll : j < a0.length := by have := HN.out; omega
          obtain ⟨b4, o4, rfl, hcell⟩ := lies_at (l0.out.below kb).1 (by omega)
          obtain ⟨u0, u1, u2⟩ := hcell j hll
          have DS := drop_go a0 q j hll
          have DN := dropL_length (a0.take j) [q]
          rw [List.length_take] at DN
          obtain ⟨m, hm⟩ : ∃ m, m = a0[j] := ⟨_, rfl⟩
          rw [← hm] at u0 u1 u2 DS
          have d5 : decide ((j : Int) < (n0 : Int)) = true := decide_eq_true (by omega)
          have j5 : (0 : Int) ≤ (j : Int) := by omega
          have j6 : (j : Int) < (n0 : Int) := by omega
          have HJ := Lib.hid (And.intro hlt DN)
          clear hcell hm hll hlt DN
          by_cases hpq : m.p = q
          · have e1 : (m.p == q) = true := by simp [hpq]
            have e2 : (m.p != q) = false := by simp [hpq]
            rw [if_pos hpq] at DS
            have HD := Lib.hid DS
            clear DS hpq
            go_wp2_with fail
            go_roundw
            case rel => exact ⟨j + 1, by have := HJ.out; omega, by go_num, Lib.hid (by rw [HD.out]; simpa using oO.out), kb⟩
            case measure => have := HJ.out.1; simp [intOf]; omega
          have e1 : (m.p == q) = false := by simp [hpq]
          have e2 : (m.p != q) = true := by simp [hpq]
          rw [if_neg hpq] at DS
          have HD := Lib.hid DS
          clear DS hpq
          go_wp2_with (at_builtin; refine Row.wpList_app typ rfl _ _ rfl v94.heap.size _ _ rfl (oO.out.alloc _) _ 1 1 [m] rfl (Row.lies_new' _ m _ rfl) (by have := HJ.out; omega) (by have := kb.size; simp only [World.size_alloc]; omega) ?_; intro v9 w9 o9 _ k9)
          go_roundw
          case rel => exact ⟨j + 1, by have := HJ.out; omega, by go_num, Lib.hid (by rw [HD.out]; exact o9), (balloc kb _).trans k9⟩
          case measure => have := HJ.out.1; simp [intOf]; omega
        obtain rfl : n0 = j := by omega
        have d5 : decide ((n0 : Int) < (n0 : Int)) = false := decide_eq_false (by omega)
        have oD := oO.out
        rw [List.take_of_length_le (by have := HN.out; omega), XD2.out] at oD
        obtain ⟨aD, cD, rfl, -, -, tD, -, -⟩ := oD.lies'
        replace tD := Lib.hid tD
        clear oO oD hj hlt
        replace l0 := Lib.hid ((l0.out).below kb)
        replace l1 := Lib.hid ((l1.out).below kb)
        replace t49 := Lib.hid ((t49.out).below kb)
        replace t51 := Lib.hid ((t51.out).below kb)
        replace t53 := Lib.hid ((t53.out).below kb)
        replace t55 := Lib.hid ((t55.out).below kb)
        replace hb := bstep hb kb
        clear kb
        go_wp2_with fail
        refine (same_is t49.out.1 t55.out.1 NS2.out).mono ?_
        rintro e v95 ⟨rfl, k95⟩
        replace l0 := Lib.hid ((l0.out).below k95)
        replace l1 := Lib.hid ((l1.out).below k95)
        replace t49 := Lib.hid ((t49.out).below k95)
        replace t51 := Lib.hid ((t51.out).below k95)
        replace t53 := Lib.hid ((t53.out).below k95)
        replace t55 := Lib.hid ((t55.out).below k95)
        replace tD := Lib.hid ((tD.out).below k95)
        replace hb := bstep hb k95
        clear k95
        go_wp2_with fail
        refine (SM.out _ _ _ t51.out.1 l0.out).mono ?_
        rintro e v96 ⟨rfl, k96⟩
        replace l0 := Lib.hid ((l0.out).below k96)
        replace l1 := Lib.hid ((l1.out).below k96)
        replace t49 := Lib.hid ((t49.out).below k96)
        replace t51 := Lib.hid ((t51.out).below k96)
        replace t53 := Lib.hid ((t53.out).below k96)
        replace t55 := Lib.hid ((t55.out).below k96)
        replace tD := Lib.hid ((tD.out).below k96)
        replace hb := bstep hb k96
        clear k96
        go_wp2_with fail
        refine (same_is t53.out.1 tD.out ND2.out).mono ?_
        rintro e v97 ⟨rfl, k97⟩
        replace l0 := Lib.hid ((l0.out).below k97)
        replace l1 := Lib.hid ((l1.out).below k97)
        replace t49 := Lib.hid ((t49.out).below k97)
        replace t51 := Lib.hid ((t51.out).below k97)
        replace t53 := Lib.hid ((t53.out).below k97)
        replace t55 := Lib.hid ((t55.out).below k97)
        replace tD := Lib.hid ((tD.out).below k97)
        replace hb := bstep hb k97
        clear k97
        go_wp2_with fail
        refine (works_any _).mono ?_
        rintro e v98 ⟨rfl, k98⟩
        replace l0 := Lib.hid ((l0.out).below k98)
        replace l1 := Lib.hid ((l1.out).below k98)
        replace t49 := Lib.hid ((t49.out).below k98)
        replace t51 := Lib.hid ((t51.out).below k98)
        replace t53 := Lib.hid ((t53.out).below k98)
        replace t55 := Lib.hid ((t55.out).below k98)
        replace tD := Lib.hid ((tD.out).below k98)
        replace hb := bstep hb k98
        clear k98
        go_wp2
        go_ret
        exact ⟨rfl, hb⟩
  have hlen := hjx
  obtain ⟨b0, o0, rfl, hcell⟩ := lies_at l0.out.1 (by omega)
  obtain ⟨z0, z1, z2⟩ := hcell jx hjx
  obtain ⟨mq, hi⟩ := is_of m0 (by rw [hl]; rfl)
  have hxx : x = a0[jx] := by rw [← hx]; unfold ofB; rw [m0, mq, hl]; rfl
  have XI := Lib.hid hi
  have nq : ∀ w, (binOp .neq 28 (.agg #[.string ⟨x.p.toArray⟩, .int .u64 (x.n : Int), .bool x.bad]) (.agg #[.string ⟨x.p.toArray⟩, .int .u64 (x.n : Int), .bool x.bad])).run Try.prog w = .ok (.bool false) w := fun w => by have := neq_beat x x w; rw [decide_eq_true rfl] at this; exact this
  rw [← hxx] at z0 z1 z2 hl
  have HA := Lib.hid ha
  have MQ := Lib.hid (path_no mq)
  have XP1 : Hid (putL a0 ⟨q, x.n, true⟩ = SL) := Lib.hid (by rw [← hSL]; unfold susB; rw [m0, mq, hl]; rfl)
  have XD2 : Hid (dropL a0 [q] = DL) := Lib.hid (by rw [← hDL]; unfold dropB; simp [m0, mq])
  have jx1 : (0 : Int) ≤ (jx : Int) := by omega
  have jx2 : (jx : Int) < (n0 : Int) := by have := HN.out; omega
  have dj1 : decide ((jx : Int) ≥ 0) = true := decide_eq_true (by omega)
  have dj2 : decide ((0 : Int) ≤ (jx : Int)) = true := decide_eq_true (by omega)
  have XN : refB a0 q = if x.bad && decide (x.n < 281474976710656) then putL a0 ⟨q, x.n + 1, false⟩ else a0 := by unfold refB; rw [m0, mq, hl]; rfl
  clear ha hx hxx hcell hlen hi hl hSL hDL hjx m0 m1 mq
  cases hbd : x.bad
  · have hr : refB a0 q = a0 := by rw [XN, hbd]; rfl
    have XBD := Lib.hid hbd
    clear hbd
    replace XR : Hid (refB a0 q = a0) := Lib.hid hr
    replace NR2 : Hid (a0.length ≤ 1000) := Lib.hid (by have := K0.out.1; omega)
    clear hr XN hRL
    go_enter Try.func3, Try.ntmps3
    go_wp2_with fail
    refine (C0.out _ l0.out).mono ?_
    rintro e w99 ⟨rfl, rfl⟩
    rw [H0.out]
    go_wp2_with fail
    refine (C1.out _ l1.out).mono ?_
    rintro e w100 ⟨rfl, rfl⟩
    rw [H1.out]
    go_wp2_with fail
    refine (D0.out _ l0.out).mono ?_
    rintro e v101 ⟨rfl, k101⟩
    replace l0 := Lib.hid ((l0.out).below k101)
    replace l1 := Lib.hid ((l1.out).below k101)
    replace z0 := (Beat.keepC z0 k101)
    replace z1 := (Beat.keepC z1 k101)
    replace z2 := (Beat.keepC z2 k101)
    replace hb := bstep hb k101
    clear k101
    rw [M0.out]
    go_wp2_with fail
    refine (E0.out _ l0.out).mono ?_
    rintro e v102 ⟨z56, y56, rfl, t56, k102⟩
    replace l0 := Lib.hid ((l0.out).below k102)
    replace l1 := Lib.hid ((l1.out).below k102)
    replace z0 := (Beat.keepC z0 k102)
    replace z1 := (Beat.keepC z1 k102)
    replace z2 := (Beat.keepC z2 k102)
    replace hb := bstep hb k102
    clear k102
    replace t56 := Lib.hid t56
    go_wp2_with fail
    refine (may_any a0 _ _ _ t56.out.1 K0.out.2).mono ?_
    rintro e v103 ⟨rfl, k103⟩
    replace l0 := Lib.hid ((l0.out).below k103)
    replace l1 := Lib.hid ((l1.out).below k103)
    replace z0 := (Beat.keepC z0 k103)
    replace z1 := (Beat.keepC z1 k103)
    replace z2 := (Beat.keepC z2 k103)
    replace t56 := Lib.hid ((t56.out).below k103)
    replace hb := bstep hb k103
    clear k103
    rw [M0.out]
    clear t56
    go_wp2_with fail
    refine (E0.out _ l0.out).mono ?_
    rintro e v104 ⟨z57, y57, rfl, t57, k104⟩
    replace l0 := Lib.hid ((l0.out).below k104)
    replace l1 := Lib.hid ((l1.out).below k104)
    replace z0 := (Beat.keepC z0 k104)
    replace z1 := (Beat.keepC z1 k104)
    replace z2 := (Beat.keepC z2 k104)
    replace hb := bstep hb k104
    clear k104
    replace t57 := Lib.hid t57
    go_wp2_with fail
    refine (of_is XO.out XI.out t57.out K0.out.2 HQ2.out).mono ?_
    rintro e v105 ⟨rfl, k105⟩
    replace l0 := Lib.hid ((l0.out).below k105)
    replace l1 := Lib.hid ((l1.out).below k105)
    replace z0 := (Beat.keepC z0 k105)
    replace z1 := (Beat.keepC z1 k105)
    replace z2 := (Beat.keepC z2 k105)
    replace t57 := Lib.hid ((t57.out).below k105)
    replace hb := bstep hb k105
    clear k105
    clear t57
    have x0 : (v105.alloc (.cells #[.string ⟨x.p.toArray⟩, .int .u64 (x.n : Int), .bool x.bad] 28)).cell? ⟨v105.heap.size, 0, none⟩ = some (.string ⟨x.p.toArray⟩) := by rw [World.cell?_alloc_new]; rfl
    have x1 : (v105.alloc (.cells #[.string ⟨x.p.toArray⟩, .int .u64 (x.n : Int), .bool x.bad] 28)).cell? ⟨v105.heap.size, 1, none⟩ = some (.int .u64 (x.n : Int)) := by rw [World.cell?_alloc_new]; rfl
    have x2 : (v105.alloc (.cells #[.string ⟨x.p.toArray⟩, .int .u64 (x.n : Int), .bool x.bad] 28)).cell? ⟨v105.heap.size, 2, none⟩ = some (.bool x.bad) := by rw [World.cell?_alloc_new]; rfl
    go_wp2_with fail
    have hbx : Below v105.heap.size v105 (v105.alloc (.cells #[.string ⟨x.p.toArray⟩, .int .u64 (x.n : Int), .bool x.bad] 28)) := balloc (Below.refl _ _) _
    replace l0 := Lib.hid ((l0.out).below hbx)
    replace l1 := Lib.hid ((l1.out).below hbx)
    replace z0 := (Beat.keepC z0 hbx)
    replace z1 := (Beat.keepC z1 hbx)
    replace z2 := (Beat.keepC z2 hbx)
    replace hb := bstep hb hbx
    generalize v105.alloc _ = u0 at *
    generalize v105.heap.size = g0 at *
    clear hbx
    refine (E0.out _ l0.out).mono ?_
    rintro e v106 ⟨z58, y58, rfl, t58, k106⟩
    replace l0 := Lib.hid ((l0.out).below k106)
    replace l1 := Lib.hid ((l1.out).below k106)
    replace z0 := (Beat.keepC z0 k106)
    replace z1 := (Beat.keepC z1 k106)
    replace z2 := (Beat.keepC z2 k106)
    replace x0 := (Beat.keepC x0 k106)
    replace x1 := (Beat.keepC x1 k106)
    replace x2 := (Beat.keepC x2 k106)
    replace hb := bstep hb k106
    clear k106
    replace t58 := Lib.hid t58
    go_wp2_with fail
    refine (bad_got XB.out t58.out K0.out.2).mono ?_
    rintro e v107 ⟨z59, y59, rfl, t59, k107⟩
    replace l0 := Lib.hid ((l0.out).below k107)
    replace l1 := Lib.hid ((l1.out).below k107)
    replace z0 := (Beat.keepC z0 k107)
    replace z1 := (Beat.keepC z1 k107)
    replace z2 := (Beat.keepC z2 k107)
    replace x0 := (Beat.keepC x0 k107)
    replace x1 := (Beat.keepC x1 k107)
    replace x2 := (Beat.keepC x2 k107)
    replace t58 := Lib.hid ((t58.out).below k107)
    replace hb := bstep hb k107
    clear k107
    replace t59 := Lib.hid t59
    clear t58
    go_wp2_with fail
    refine (E0.out _ l0.out).mono ?_
    rintro e v108 ⟨z60, y60, rfl, t60, k108⟩
    replace l0 := Lib.hid ((l0.out).below k108)
    replace l1 := Lib.hid ((l1.out).below k108)
    replace z0 := (Beat.keepC z0 k108)
    replace z1 := (Beat.keepC z1 k108)
    replace z2 := (Beat.keepC z2 k108)
    replace x0 := (Beat.keepC x0 k108)
    replace x1 := (Beat.keepC x1 k108)
    replace x2 := (Beat.keepC x2 k108)
    replace t59 := Lib.hid ((t59.out).below k108)
    replace hb := bstep hb k108
    clear k108
    replace t60 := Lib.hid t60
    go_wp2_with fail
    refine (E1.out _ l1.out).mono ?_
    rintro e v109 ⟨z61, y61, rfl, t61, k109⟩
    replace l0 := Lib.hid ((l0.out).below k109)
    replace l1 := Lib.hid ((l1.out).below k109)
    replace z0 := (Beat.keepC z0 k109)
    replace z1 := (Beat.keepC z1 k109)
    replace z2 := (Beat.keepC z2 k109)
    replace x0 := (Beat.keepC x0 k109)
    replace x1 := (Beat.keepC x1 k109)
    replace x2 := (Beat.keepC x2 k109)
    replace t59 := Lib.hid ((t59.out).below k109)
    replace t60 := Lib.hid ((t60.out).below k109)
    replace hb := bstep hb k109
    clear k109
    replace t61 := Lib.hid t61
    go_wp2_with fail
    refine (join_got XJ.out t60.out t61.out K0.out.2 K1.out.2 NJ2.out).mono ?_
    rintro e v110 ⟨z62, y62, rfl, t62, k110⟩
    replace l0 := Lib.hid ((l0.out).below k110)
    replace l1 := Lib.hid ((l1.out).below k110)
    replace z0 := (Beat.keepC z0 k110)
    replace z1 := (Beat.keepC z1 k110)
    replace z2 := (Beat.keepC z2 k110)
    replace x0 := (Beat.keepC x0 k110)
    replace x1 := (Beat.keepC x1 k110)
    replace x2 := (Beat.keepC x2 k110)
    replace t59 := Lib.hid ((t59.out).below k110)
    replace t60 := Lib.hid ((t60.out).below k110)
    replace t61 := Lib.hid ((t61.out).below k110)
    replace hb := bstep hb k110
    clear k110
    replace t62 := Lib.hid t62
    clear t60 t61
    go_wp2_with fail
    refine (E0.out _ l0.out).mono ?_
    rintro e v111 ⟨z63, y63, rfl, t63, k111⟩
    replace l0 := Lib.hid ((l0.out).below k111)
    replace l1 := Lib.hid ((l1.out).below k111)
    replace z0 := (Beat.keepC z0 k111)
    replace z1 := (Beat.keepC z1 k111)
    replace z2 := (Beat.keepC z2 k111)
    replace x0 := (Beat.keepC x0 k111)
    replace x1 := (Beat.keepC x1 k111)
    replace x2 := (Beat.keepC x2 k111)
    replace t59 := Lib.hid ((t59.out).below k111)
    replace t62 := Lib.hid ((t62.out).below k111)
    replace hb := bstep hb k111
    clear k111
    replace t63 := Lib.hid t63
    go_wp2_with fail
    refine (sus_got XS.out t63.out K0.out.2 HQ2.out NS2.out).mono ?_
    rintro e v112 ⟨z64, y64, rfl, t64, k112⟩
    replace l0 := Lib.hid ((l0.out).below k112)
    replace l1 := Lib.hid ((l1.out).below k112)
    replace z0 := (Beat.keepC z0 k112)
    replace z1 := (Beat.keepC z1 k112)
    replace z2 := (Beat.keepC z2 k112)
    replace x0 := (Beat.keepC x0 k112)
    replace x1 := (Beat.keepC x1 k112)
    replace x2 := (Beat.keepC x2 k112)
    replace t59 := Lib.hid ((t59.out).below k112)
    replace t62 := Lib.hid ((t62.out).below k112)
    replace t63 := Lib.hid ((t63.out).below k112)
    replace hb := bstep hb k112
    clear k112
    replace t64 := Lib.hid t64
    clear t63
    go_wp2_with fail
    refine (E0.out _ l0.out).mono ?_
    rintro e v113 ⟨z65, y65, rfl, t65, k113⟩
    replace l0 := Lib.hid ((l0.out).below k113)
    replace l1 := Lib.hid ((l1.out).below k113)
    replace z0 := (Beat.keepC z0 k113)
    replace z1 := (Beat.keepC z1 k113)
    replace z2 := (Beat.keepC z2 k113)
    replace x0 := (Beat.keepC x0 k113)
    replace x1 := (Beat.keepC x1 k113)
    replace x2 := (Beat.keepC x2 k113)
    replace t59 := Lib.hid ((t59.out).below k113)
    replace t62 := Lib.hid ((t62.out).below k113)
    replace t64 := Lib.hid ((t64.out).below k113)
    replace hb := bstep hb k113
    clear k113
    replace t65 := Lib.hid t65
    go_wp2_with fail
    refine (ref_got XR.out t65.out K0.out.2 HQ2.out NR2.out).mono ?_
    rintro e v114 ⟨z66, y66, rfl, t66, k114⟩
    replace l0 := Lib.hid ((l0.out).below k114)
    replace l1 := Lib.hid ((l1.out).below k114)
    replace z0 := (Beat.keepC z0 k114)
    replace z1 := (Beat.keepC z1 k114)
    replace z2 := (Beat.keepC z2 k114)
    replace x0 := (Beat.keepC x0 k114)
    replace x1 := (Beat.keepC x1 k114)
    replace x2 := (Beat.keepC x2 k114)
    replace t59 := Lib.hid ((t59.out).below k114)
    replace t62 := Lib.hid ((t62.out).below k114)
    replace t64 := Lib.hid ((t64.out).below k114)
    replace t65 := Lib.hid ((t65.out).below k114)
    replace hb := bstep hb k114
    clear k114
    replace t66 := Lib.hid t66
    clear t65
    go_wp2_with fail
    refine (E0.out _ l0.out).mono ?_
    rintro e v115 ⟨z67, y67, rfl, t67, k115⟩
    replace l0 := Lib.hid ((l0.out).below k115)
    replace l1 := Lib.hid ((l1.out).below k115)
    replace z0 := (Beat.keepC z0 k115)
    replace z1 := (Beat.keepC z1 k115)
    replace z2 := (Beat.keepC z2 k115)
    replace x0 := (Beat.keepC x0 k115)
    replace x1 := (Beat.keepC x1 k115)
    replace x2 := (Beat.keepC x2 k115)
    replace t59 := Lib.hid ((t59.out).below k115)
    replace t62 := Lib.hid ((t62.out).below k115)
    replace t64 := Lib.hid ((t64.out).below k115)
    replace t66 := Lib.hid ((t66.out).below k115)
    replace hb := bstep hb k115
    clear k115
    replace t67 := Lib.hid t67
    go_wp2_with fail
    have hbx : Below v115.heap.size v115 (v115.alloc (.cells #[.string ⟨q.toArray⟩] 9)) := balloc (Below.refl _ _) _
    have lq := Row.lies_new (E := Words.enc) v115 q 9
    replace l0 := Lib.hid ((l0.out).below hbx)
    replace l1 := Lib.hid ((l1.out).below hbx)
    replace z0 := (Beat.keepC z0 hbx)
    replace z1 := (Beat.keepC z1 hbx)
    replace z2 := (Beat.keepC z2 hbx)
    replace x0 := (Beat.keepC x0 hbx)
    replace x1 := (Beat.keepC x1 hbx)
    replace x2 := (Beat.keepC x2 hbx)
    replace t59 := Lib.hid ((t59.out).below hbx)
    replace t62 := Lib.hid ((t62.out).below hbx)
    replace t64 := Lib.hid ((t64.out).below hbx)
    replace t66 := Lib.hid ((t66.out).below hbx)
    replace t67 := Lib.hid ((t67.out).below hbx)
    replace hb := bstep hb hbx
    clear hbx
    refine (drop_got (ps := [q]) XD.out t67.out lq K0.out.2 (fun p hp => by obtain rfl := List.mem_singleton.1 hp; exact HQ2.out) (by simp) ND2.out).mono ?_
    rintro e v116 ⟨z68, y68, rfl, t68, k116⟩
    replace l0 := Lib.hid ((l0.out).below k116)
    replace l1 := Lib.hid ((l1.out).below k116)
    replace z0 := (Beat.keepC z0 k116)
    replace z1 := (Beat.keepC z1 k116)
    replace z2 := (Beat.keepC z2 k116)
    replace x0 := (Beat.keepC x0 k116)
    replace x1 := (Beat.keepC x1 k116)
    replace x2 := (Beat.keepC x2 k116)
    replace t59 := Lib.hid ((t59.out).below k116)
    replace t62 := Lib.hid ((t62.out).below k116)
    replace t64 := Lib.hid ((t64.out).below k116)
    replace t66 := Lib.hid ((t66.out).below k116)
    replace t67 := Lib.hid ((t67.out).below k116)
    replace hb := bstep hb k116
    clear k116
    replace t68 := Lib.hid t68
    clear lq
    clear t67
    go_wp2_with fail
    refine (D1.out _ l1.out).mono ?_
    rintro e v117 ⟨rfl, k117⟩
    replace l0 := Lib.hid ((l0.out).below k117)
    replace l1 := Lib.hid ((l1.out).below k117)
    replace z0 := (Beat.keepC z0 k117)
    replace z1 := (Beat.keepC z1 k117)
    replace z2 := (Beat.keepC z2 k117)
    replace x0 := (Beat.keepC x0 k117)
    replace x1 := (Beat.keepC x1 k117)
    replace x2 := (Beat.keepC x2 k117)
    replace t59 := Lib.hid ((t59.out).below k117)
    replace t62 := Lib.hid ((t62.out).below k117)
    replace t64 := Lib.hid ((t64.out).below k117)
    replace t66 := Lib.hid ((t66.out).below k117)
    replace t68 := Lib.hid ((t68.out).below k117)
    replace hb := bstep hb k117
    clear k117
    rw [M1.out]
    go_wp2_with fail
    refine (AT.out _ l0.out).mono ?_
    rintro e w118 ⟨rfl, rfl⟩
    rw [HA.out]
    go_wp2_with fail
    refine wp_region_noPanic ?_
    refine wp_region_held_drew (S := (fun w' => Below w.heap.size w w' ∧ Came w' (some ⟨b0, o0, none⟩) c0 a0 ∧ Came w' s1 c1 a1 ∧ w'.cell? ⟨b0, o0 + jx * 3, none⟩ = some (.string ⟨x.p.toArray⟩) ∧ w'.cell? ⟨b0, o0 + jx * 3 + 1, none⟩ = some (.int .u64 (x.n : Int)) ∧ w'.cell? ⟨b0, o0 + jx * 3 + 2, none⟩ = some (.bool x.bad) ∧ w'.cell? ⟨g0, 0, none⟩ = some (.string ⟨x.p.toArray⟩) ∧ w'.cell? ⟨g0, 1, none⟩ = some (.int .u64 (x.n : Int)) ∧ w'.cell? ⟨g0, 2, none⟩ = some (.bool x.bad) ∧ Words.Lies w' z59 BD.length BD ∧ Came w' z62 y62 J ∧ Came w' z64 y64 SL ∧ Came w' z66 y66 a0 ∧ Came w' z68 y68 DL)) (by kernel_rfl) (⟨Below.drew hb, (l0.out).below (Below.drew (Below.refl _ _)), (l1.out).below (Below.drew (Below.refl _ _)), Beat.keepC z0 (Below.drew (Below.refl _ _)), Beat.keepC z1 (Below.drew (Below.refl _ _)), Beat.keepC z2 (Below.drew (Below.refl _ _)), Beat.keepC x0 (Below.drew (Below.refl _ _)), Beat.keepC x1 (Below.drew (Below.refl _ _)), Beat.keepC x2 (Below.drew (Below.refl _ _)), (t59.out).below (Below.drew (Below.refl _ _)), (t62.out).below (Below.drew (Below.refl _ _)), (t64.out).below (Below.drew (Below.refl _ _)), (t66.out).below (Below.drew (Below.refl _ _)), (t68.out).below (Below.drew (Below.refl _ _))⟩) (fun hHeld => ?_)
    refine wpAnyH_take (i := 0) (v := ?_) (by simp only [List.getElem?_toArray, List.getElem?_cons_zero]; rfl) (by kernel_rfl) (by kernel_rfl) (by kernel_rfl) (fun _ _ _ h => h) (Or.inl ⟨by rfl, ?_⟩) (by assumption) ?_
    rotate_left
    · (intro w hSw; (try dsimp only at hSw); go_simp; try with_reducible rfl)
    try simp only [Act.put, List.setIfInBounds_toArray, List.set_cons_zero, List.set_cons_succ]
    refine wpAnyH_take (i := 1) (v := ?_) (by simp only [List.getElem?_toArray, List.getElem?_cons_succ, List.getElem?_cons_zero]; rfl) (by kernel_rfl) (by kernel_rfl) (by kernel_rfl) (fun _ _ _ h => h) (Or.inl ⟨by rfl, ?_⟩) (by assumption) ?_
    rotate_left
    · (intro w hSw; (try dsimp only at hSw); go_simp; try with_reducible rfl)
    try simp only [Act.put, List.setIfInBounds_toArray, List.set_cons_zero, List.set_cons_succ]
    refine wpAnyH_take (i := 2) (v := ?_) (by simp only [List.getElem?_toArray, List.getElem?_cons_succ, List.getElem?_cons_zero]; rfl) (by kernel_rfl) (by kernel_rfl) (by kernel_rfl) (fun _ _ _ h => h) (Or.inl ⟨by rfl, ?_⟩) (by assumption) ?_
    rotate_left
    · (intro w hSw; (try dsimp only at hSw); go_simp; try with_reducible rfl)
    try simp only [Act.put, List.setIfInBounds_toArray, List.set_cons_zero, List.set_cons_succ]
    refine wpAnyH_take (i := 3) (v := ?_) (by simp only [List.getElem?_toArray, List.getElem?_cons_succ, List.getElem?_cons_zero]; rfl) (by kernel_rfl) (by kernel_rfl) (by kernel_rfl) (fun _ _ _ h => h) (Or.inl ⟨by rfl, ?_⟩) (by assumption) ?_
    rotate_left
    · (intro w hSw; (try dsimp only at hSw); go_simp; try with_reducible rfl)
    try simp only [Act.put, List.setIfInBounds_toArray, List.set_cons_zero, List.set_cons_succ]
    refine wpAnyH_take (i := 4) (v := ?_) (by simp only [List.getElem?_toArray, List.getElem?_cons_succ, List.getElem?_cons_zero]; rfl) (by kernel_rfl) (by kernel_rfl) (by kernel_rfl) (fun _ _ _ h => h) (Or.inl ⟨by rfl, ?_⟩) (by assumption) ?_
    rotate_left
    · (intro w hSw; (try dsimp only at hSw); go_simp; try with_reducible rfl)
    try simp only [Act.put, List.setIfInBounds_toArray, List.set_cons_zero, List.set_cons_succ]
    refine wpAnyH_take (i := 5) (v := ?_) (by simp only [List.getElem?_toArray, List.getElem?_cons_succ, List.getElem?_cons_zero]; rfl) (by kernel_rfl) (by kernel_rfl) (by kernel_rfl) (fun _ _ _ h => h) (Or.inl ⟨by rfl, ?_⟩) (by assumption) ?_
    rotate_left
    · (intro w hSw; (try dsimp only at hSw); go_simp; try with_reducible rfl)
    try simp only [Act.put, List.setIfInBounds_toArray, List.set_cons_zero, List.set_cons_succ]
    refine wpAnyH_take (i := 6) (v := ?_) (by simp only [List.getElem?_toArray, List.getElem?_cons_succ, List.getElem?_cons_zero]; rfl) (by kernel_rfl) (by kernel_rfl) (by kernel_rfl) (fun _ _ _ h => h) (Or.inl ⟨by rfl, ?_⟩) (by assumption) ?_
    rotate_left
    · (intro w hSw; (try dsimp only at hSw); go_simp; try with_reducible rfl)
    try simp only [Act.put, List.setIfInBounds_toArray, List.set_cons_zero, List.set_cons_succ]
    refine wpAnyH_take (i := 7) (v := ?_) (by simp only [List.getElem?_toArray, List.getElem?_cons_succ, List.getElem?_cons_zero]; rfl) (by kernel_rfl) (by kernel_rfl) (by kernel_rfl) (fun _ _ _ h => h) (Or.inl ⟨by rfl, ?_⟩) (by assumption) ?_
    rotate_left
    · (intro w hSw; (try dsimp only at hSw); go_simp; try with_reducible rfl)
    try simp only [Act.put, List.setIfInBounds_toArray, List.set_cons_zero, List.set_cons_succ]
    refine wpAnyH_take (i := 8) (v := ?_) (by simp only [List.getElem?_toArray, List.getElem?_cons_succ, List.getElem?_cons_zero]; rfl) (by kernel_rfl) (by kernel_rfl) (by kernel_rfl) (fun _ _ _ h => h) (Or.inl ⟨by rfl, ?_⟩) (by assumption) ?_
    rotate_left
    · (intro w hSw; (try dsimp only at hSw); go_simp; try with_reducible rfl)
    try simp only [Act.put, List.setIfInBounds_toArray, List.set_cons_zero, List.set_cons_succ]
    refine wpAnyH_take (i := 9) (v := ?_) (by simp only [List.getElem?_toArray, List.getElem?_cons_succ, List.getElem?_cons_zero]; rfl) (by kernel_rfl) (by kernel_rfl) (by kernel_rfl) (fun _ _ _ h => h) (Or.inl ⟨by rfl, ?_⟩) (by assumption) ?_
    rotate_left
    · (intro w hSw; (try dsimp only at hSw); go_simp; try with_reducible rfl)
    try simp only [Act.put, List.setIfInBounds_toArray, List.set_cons_zero, List.set_cons_succ]
    refine wpAnyH_take (i := 10) (v := ?_) (by simp only [List.getElem?_toArray, List.getElem?_cons_succ, List.getElem?_cons_zero]; rfl) (by kernel_rfl) (by kernel_rfl) (by kernel_rfl) (fun _ _ _ h => h) (Or.inl ⟨by rfl, ?_⟩) (by assumption) ?_
    rotate_left
    · (intro w hSw; (try dsimp only at hSw); go_simp; try with_reducible rfl)
    try simp only [Act.put, List.setIfInBounds_toArray, List.set_cons_zero, List.set_cons_succ]
    refine wpAnyH_take (i := 11) (v := ?_) (by simp only [List.getElem?_toArray, List.getElem?_cons_succ, List.getElem?_cons_zero]; rfl) (by kernel_rfl) (by kernel_rfl) (by kernel_rfl) (fun _ _ _ h => h) (Or.inl ⟨by rfl, ?_⟩) (by assumption) ?_
    rotate_left
    · (intro w hSw; (try dsimp only at hSw); go_simp; try with_reducible rfl)
    try simp only [Act.put, List.setIfInBounds_toArray, List.set_cons_zero, List.set_cons_succ]
    refine wpAnyH_take (i := 12) (v := ?_) (by simp only [List.getElem?_toArray, List.getElem?_cons_succ, List.getElem?_cons_zero]; rfl) (by kernel_rfl) (by kernel_rfl) (by kernel_rfl) (fun _ _ _ h => h) (Or.inl ⟨by rfl, ?_⟩) (by assumption) ?_
    rotate_left
    · (intro w hSw; (try dsimp only at hSw); go_simp; try with_reducible rfl)
    try simp only [Act.put, List.setIfInBounds_toArray, List.set_cons_zero, List.set_cons_succ]
    refine wpAnyH_take (i := 13) (v := ?_) (by simp only [List.getElem?_toArray, List.getElem?_cons_succ, List.getElem?_cons_zero]; rfl) (by kernel_rfl) (by kernel_rfl) (by kernel_rfl) (fun _ _ _ h => h) (Or.inl ⟨by rfl, ?_⟩) (by assumption) ?_
    rotate_left
    · (intro w hSw; (try dsimp only at hSw); go_simp; try with_reducible rfl)
    try simp only [Act.put, List.setIfInBounds_toArray, List.set_cons_zero, List.set_cons_succ]
    refine wpAnyH_take (i := 14) (v := ?_) (by simp only [List.getElem?_toArray, List.getElem?_cons_succ, List.getElem?_cons_zero]; rfl) (by kernel_rfl) (by kernel_rfl) (by kernel_rfl) (fun _ _ _ h => h) (Or.inl ⟨by rfl, ?_⟩) (by assumption) ?_
    rotate_left
    · (intro w hSw; (try dsimp only at hSw); go_simp; try with_reducible rfl)
    try simp only [Act.put, List.setIfInBounds_toArray, List.set_cons_zero, List.set_cons_succ]
    refine wpAnyH_take (i := 15) (v := ?_) (by simp only [List.getElem?_toArray, List.getElem?_cons_succ, List.getElem?_cons_zero]; rfl) (by kernel_rfl) (by kernel_rfl) (by kernel_rfl) (fun _ _ _ h => h) (Or.inl ⟨by rfl, ?_⟩) (by assumption) ?_
    rotate_left
    · (intro w hSw; (try dsimp only at hSw); go_simp; try with_reducible rfl)
    try simp only [Act.put, List.setIfInBounds_toArray, List.set_cons_zero, List.set_cons_succ]
    refine wpAnyH_take (i := 16) (v := ?_) (by simp only [List.getElem?_toArray, List.getElem?_cons_succ, List.getElem?_cons_zero]; rfl) (by kernel_rfl) (by kernel_rfl) (by kernel_rfl) (fun _ _ _ h => h) (Or.inl ⟨by rfl, ?_⟩) (by assumption) ?_
    rotate_left
    · (intro w hSw; (try dsimp only at hSw); go_simp; try with_reducible rfl)
    try simp only [Act.put, List.setIfInBounds_toArray, List.set_cons_zero, List.set_cons_succ]
    refine wpAnyH_take (i := 17) (v := ?_) (by simp only [List.getElem?_toArray, List.getElem?_cons_succ, List.getElem?_cons_zero]; rfl) (by kernel_rfl) (by kernel_rfl) (by kernel_rfl) (fun _ _ _ h => h) (Or.inl ⟨by rfl, ?_⟩) (by assumption) ?_
    rotate_left
    · (intro w hSw; (try dsimp only at hSw); go_simp; try with_reducible rfl)
    try simp only [Act.put, List.setIfInBounds_toArray, List.set_cons_zero, List.set_cons_succ]
    refine wpAnyH_take (i := 18) (v := ?_) (by simp only [List.getElem?_toArray, List.getElem?_cons_succ, List.getElem?_cons_zero]; rfl) (by kernel_rfl) (by kernel_rfl) (by kernel_rfl) (fun _ _ _ h => h) (Or.inl ⟨by rfl, ?_⟩) (by assumption) ?_
    rotate_left
    · (intro w hSw; (try dsimp only at hSw); go_simp; try with_reducible rfl)
    try simp only [Act.put, List.setIfInBounds_toArray, List.set_cons_zero, List.set_cons_succ]
    refine wpAnyH_take (i := 19) (v := undef) (by simp only [List.getElem?_toArray, List.getElem?_cons_succ, List.getElem?_cons_zero]; rfl) (by kernel_rfl) (by kernel_rfl) (by kernel_rfl) (fun _ _ _ h => h) (Or.inr ⟨by rfl, rfl⟩) (by assumption) ?_
    try simp only [Act.put, List.setIfInBounds_toArray, List.set_cons_zero, List.set_cons_succ]
    refine wpAnyH_take (i := 20) (v := undef) (by simp only [List.getElem?_toArray, List.getElem?_cons_succ, List.getElem?_cons_zero]; rfl) (by kernel_rfl) (by kernel_rfl) (by kernel_rfl) (fun _ _ _ h => h) (Or.inr ⟨by rfl, rfl⟩) (by assumption) ?_
    try simp only [Act.put, List.setIfInBounds_toArray, List.set_cons_zero, List.set_cons_succ]
    refine wpAnyH_take (i := 21) (v := undef) (by simp only [List.getElem?_toArray, List.getElem?_cons_succ, List.getElem?_cons_zero]; rfl) (by kernel_rfl) (by kernel_rfl) (by kernel_rfl) (fun _ _ _ h => h) (Or.inr ⟨by rfl, rfl⟩) (by assumption) ?_
    try simp only [Act.put, List.setIfInBounds_toArray, List.set_cons_zero, List.set_cons_succ]
    refine wpAnyH_take (i := 22) (v := ?_) (by simp only [List.getElem?_toArray, List.getElem?_cons_succ, List.getElem?_cons_zero]; rfl) (by kernel_rfl) (by kernel_rfl) (by kernel_rfl) (fun _ _ _ h => h) (Or.inl ⟨by rfl, ?_⟩) (by assumption) ?_
    rotate_left
    · (intro w hSw; (try dsimp only at hSw); go_simp; try with_reducible rfl)
    try simp only [Act.put, List.setIfInBounds_toArray, List.set_cons_zero, List.set_cons_succ]
    refine wpAnyH_take (i := 23) (v := ?_) (by simp only [List.getElem?_toArray, List.getElem?_cons_succ, List.getElem?_cons_zero]; rfl) (by kernel_rfl) (by kernel_rfl) (by kernel_rfl) (fun _ _ _ h => h) (Or.inl ⟨by rfl, ?_⟩) (by assumption) ?_
    rotate_left
    · (intro w hSw; (try dsimp only at hSw); go_simp; try with_reducible rfl)
    try simp only [Act.put, List.setIfInBounds_toArray, List.set_cons_zero, List.set_cons_succ]
    refine wpAnyH_done (by kernel_rfl) ?_ _
    refine NoPanic.normal ?_
    clear hb l0 l1 z0 z1 z2 x0 x1 x2 t59 t62 t64 t66 t68
    obtain ⟨hb, l0, l1, z0, z1, z2, x0, x1, x2, t59, t62, t64, t66, t68⟩ := hHeld
    replace l0 := Lib.hid l0
    replace l1 := Lib.hid l1
    replace t59 := Lib.hid t59
    replace t62 := Lib.hid t62
    replace t64 := Lib.hid t64
    replace t66 := Lib.hid t66
    replace t68 := Lib.hid t68
    clear x0 x1 x2
    clear nq
    go_wp2_with fail
    go_loopw [16, 17] (fun kv iv wr => ∃ j kk : Nat, j ≤ n0 ∧ iv = .int .i64 j ∧ kv = .int .i64 kk ∧ Hid (kk = (badL (a0.take j)).length) ∧ Below w.heap.size w wr ∧ Came wr (some ⟨b0, o0, none⟩) c0 a0 ∧ Came wr s1 c1 a1 ∧ wr.cell? ⟨b0, o0 + jx * 3, none⟩ = some (.string ⟨x.p.toArray⟩) ∧ wr.cell? ⟨b0, o0 + jx * 3 + 1, none⟩ = some (.int .u64 (x.n : Int)) ∧ wr.cell? ⟨b0, o0 + jx * 3 + 2, none⟩ = some (.bool x.bad) ∧ Words.Lies wr z59 BD.length BD ∧ Came wr z62 y62 J ∧ Came wr z64 y64 SL ∧ Came wr z66 y66 a0 ∧ Came wr z68 y68 DL) (fun kv iv _ => n0 - (intOf iv).toNat)
    case atStart => exact ⟨0, 0, by omega, rfl, rfl, Lib.hid rfl, hb, l0.out, l1.out, z0, z1, z2, t59.out, t62.out, t64.out, t66.out, t68.out⟩
    case round =>
      clear hb l0 l1 z0 z1 z2 t59 t62 t64 t66 t68
      obtain ⟨j, kk, hj, rfl, rfl, HK, hb, l0, l1, z0, z1, z2, t59, t62, t64, t66, t68⟩ := hrel
      replace l0 := Lib.hid l0
      replace l1 := Lib.hid l1
      replace t59 := Lib.hid t59
      replace t62 := Lib.hid t62
      replace t64 := Lib.hid t64
      replace t66 := Lib.hid t66
      replace t68 := Lib.hid t68
      by_cases hlt : j < n0
      · have hll : j < a0.length := by have := HN.out; omega
        obtain ⟨b4, o4, e4, hcell⟩ := lies_at l0.out.1 (by omega)
        cases e4
        obtain ⟨u0, -, u2⟩ := hcell j hll
        have BS := badL_step a0 j hll
        have BA := fun h => bad_at a0 j hll h
        obtain ⟨m, hm⟩ : ∃ m, m = a0[j] := ⟨_, rfl⟩
        rw [← hm] at u0 u2 BS BA
        have d5 : decide ((j : Int) < (n0 : Int)) = true := decide_eq_true (by omega)
        have j5 : (0 : Int) ≤ (j : Int) := by omega
        have j6 : (j : Int) < (n0 : Int) := by omega
        have HJ := Lib.hid hlt
        clear hcell hm hll hlt
        cases hbd : m.bad
        · rw [hbd] at u2 BS
          have HK2 : Hid (kk = (badL (a0.take (j + 1))).length) := Lib.hid (by rw [BS, HK.out]; simp)
          clear BS BA hbd u0
          go_wp2_with fail
          go_roundw
          case rel => exact ⟨j + 1, kk, by have := HJ.out; omega, by go_num, rfl, HK2, hb, l0.out, l1.out, z0, z1, z2, t59.out, t62.out, t64.out, t66.out, t68.out⟩
          case measure => have := HJ.out; simp [intOf]; omega
        rw [hbd] at u2 BS
        obtain ⟨BA1, BA2⟩ := BA hbd
        have HK2 : Hid (kk + 1 = (badL (a0.take (j + 1))).length) := Lib.hid (by rw [BS, HK.out]; simp)
        rw [hBD.out, ← HK.out] at BA1 BA2
        clear BS hbd BA
        obtain ⟨b5, o5, rfl, hw5⟩ := words_at t59.out (by omega)
        have t0 := hw5 kk BA1
        rw [List.getElem?_eq_getElem BA1] at BA2
        rw [Option.some.inj BA2] at t0
        clear hw5 BA2
        have d6 : decide ((kk : Int) ≥ (BD.length : Int)) = false := decide_eq_false (by omega)
        have d7 : decide ((BD.length : Int) ≤ (kk : Int)) = false := decide_eq_false (by omega)
        have d8 : decide (BD.length ≤ kk) = false := decide_eq_false (by omega)
        have j7 : (0 : Int) ≤ (kk : Int) := by omega
        have j8 : (kk : Int) < (BD.length : Int) := by omega
        have j9 : kk ≤ 1000 := by have := BL.out; omega
        clear BA1
        go_wp2_with fail
        refine wp_region_noPanic ?_
        refine wp_region_held_drew (S := (fun w' => Below w.heap.size w w' ∧ Came w' (some ⟨b0, o0, none⟩) c0 a0 ∧ Came w' s1 c1 a1 ∧ w'.cell? ⟨b0, o0 + jx * 3, none⟩ = some (.string ⟨x.p.toArray⟩) ∧ w'.cell? ⟨b0, o0 + jx * 3 + 1, none⟩ = some (.int .u64 (x.n : Int)) ∧ w'.cell? ⟨b0, o0 + jx * 3 + 2, none⟩ = some (.bool x.bad) ∧ Words.Lies w' (some ⟨b5, o5, none⟩) BD.length BD ∧ Came w' z62 y62 J ∧ Came w' z64 y64 SL ∧ Came w' z66 y66 a0 ∧ Came w' z68 y68 DL ∧ w'.cell? ⟨b5, o5 + kk, none⟩ = some (.string ⟨m.p.toArray⟩) ∧ w'.cell? ⟨b0, o0 + j * 3, none⟩ = some (.string ⟨m.p.toArray⟩))) (by kernel_rfl) (⟨Below.drew hb, (l0.out).below (Below.drew (Below.refl _ _)), (l1.out).below (Below.drew (Below.refl _ _)), Beat.keepC z0 (Below.drew (Below.refl _ _)), Beat.keepC z1 (Below.drew (Below.refl _ _)), Beat.keepC z2 (Below.drew (Below.refl _ _)), (t59.out).below (Below.drew (Below.refl _ _)), (t62.out).below (Below.drew (Below.refl _ _)), (t64.out).below (Below.drew (Below.refl _ _)), (t66.out).below (Below.drew (Below.refl _ _)), (t68.out).below (Below.drew (Below.refl _ _)), Beat.keepC t0 (Below.drew (Below.refl _ _)), Beat.keepC u0 (Below.drew (Below.refl _ _))⟩) (fun hHeld => ?_)
        refine wpAnyH_take (i := 0) (v := ?_) (by simp only [List.getElem?_toArray, List.getElem?_cons_zero]; rfl) (by kernel_rfl) (by kernel_rfl) (by kernel_rfl) (fun _ _ _ h => h) (Or.inl ⟨by rfl, ?_⟩) (by assumption) ?_
        rotate_left
        · (intro w hSw; (try dsimp only at hSw); go_simp; try with_reducible rfl)
        try simp only [Act.put, List.setIfInBounds_toArray, List.set_cons_zero, List.set_cons_succ]
        refine wpAnyH_take (i := 1) (v := ?_) (by simp only [List.getElem?_toArray, List.getElem?_cons_succ, List.getElem?_cons_zero]; rfl) (by kernel_rfl) (by kernel_rfl) (by kernel_rfl) (fun _ _ _ h => h) (Or.inl ⟨by rfl, ?_⟩) (by assumption) ?_
        rotate_left
        · (intro w hSw; (try dsimp only at hSw); go_simp; try with_reducible rfl)
        try simp only [Act.put, List.setIfInBounds_toArray, List.set_cons_zero, List.set_cons_succ]
        refine wpAnyH_take (i := 2) (v := ?_) (by simp only [List.getElem?_toArray, List.getElem?_cons_succ, List.getElem?_cons_zero]; rfl) (by kernel_rfl) (by kernel_rfl) (by kernel_rfl) (fun _ _ _ h => h) (Or.inl ⟨by rfl, ?_⟩) (by assumption) ?_
        rotate_left
        · (intro w hSw; (try dsimp only at hSw); go_simp; try with_reducible rfl)
        try simp only [Act.put, List.setIfInBounds_toArray, List.set_cons_zero, List.set_cons_succ]
        refine wpAnyH_take (i := 3) (v := ?_) (by simp only [List.getElem?_toArray, List.getElem?_cons_succ, List.getElem?_cons_zero]; rfl) (by kernel_rfl) (by kernel_rfl) (by kernel_rfl) (fun _ _ _ h => h) (Or.inl ⟨by rfl, ?_⟩) (by assumption) ?_
        rotate_left
        · (intro w hSw; (try dsimp only at hSw); go_simp; try with_reducible rfl)
        try simp only [Act.put, List.setIfInBounds_toArray, List.set_cons_zero, List.set_cons_succ]
        refine wpAnyH_take (i := 4) (v := ?_) (by simp only [List.getElem?_toArray, List.getElem?_cons_succ, List.getElem?_cons_zero]; rfl) (by kernel_rfl) (by kernel_rfl) (by kernel_rfl) (fun _ _ _ h => h) (Or.inl ⟨by rfl, ?_⟩) (by assumption) ?_
        rotate_left
        · (intro w hSw; (try dsimp only at hSw); go_simp; try with_reducible rfl)
        try simp only [Act.put, List.setIfInBounds_toArray, List.set_cons_zero, List.set_cons_succ]
        refine wpAnyH_take (i := 5) (v := ?_) (by simp only [List.getElem?_toArray, List.getElem?_cons_succ, List.getElem?_cons_zero]; rfl) (by kernel_rfl) (by kernel_rfl) (by kernel_rfl) (fun _ _ _ h => h) (Or.inl ⟨by rfl, ?_⟩) (by assumption) ?_
        rotate_left
        · (intro w hSw; (try dsimp only at hSw); go_simp; try with_reducible rfl)
        try simp only [Act.put, List.setIfInBounds_toArray, List.set_cons_zero, List.set_cons_succ]
        refine wpAnyH_take (i := 6) (v := ?_) (by simp only [List.getElem?_toArray, List.getElem?_cons_succ, List.getElem?_cons_zero]; rfl) (by kernel_rfl) (by kernel_rfl) (by kernel_rfl) (fun _ _ _ h => h) (Or.inl ⟨by rfl, ?_⟩) (by assumption) ?_
        rotate_left
        · (intro w hSw; (try dsimp only at hSw); go_simp; try with_reducible rfl)
        try simp only [Act.put, List.setIfInBounds_toArray, List.set_cons_zero, List.set_cons_succ]
        refine wpAnyH_take (i := 7) (v := ?_) (by simp only [List.getElem?_toArray, List.getElem?_cons_succ, List.getElem?_cons_zero]; rfl) (by kernel_rfl) (by kernel_rfl) (by kernel_rfl) (fun _ _ _ h => h) (Or.inl ⟨by rfl, ?_⟩) (by assumption) ?_
        rotate_left
        · (intro w hSw; (try dsimp only at hSw); go_simp; try with_reducible rfl)
        try simp only [Act.put, List.setIfInBounds_toArray, List.set_cons_zero, List.set_cons_succ]
        refine wpAnyH_take (i := 8) (v := ?_) (by simp only [List.getElem?_toArray, List.getElem?_cons_succ, List.getElem?_cons_zero]; rfl) (by kernel_rfl) (by kernel_rfl) (by kernel_rfl) (fun _ _ _ h => h) (Or.inl ⟨by rfl, ?_⟩) (by assumption) ?_
        rotate_left
        · (intro w hSw; (try dsimp only at hSw); go_simp; try with_reducible rfl)
        try simp only [Act.put, List.setIfInBounds_toArray, List.set_cons_zero, List.set_cons_succ]
        refine wpAnyH_take (i := 9) (v := ?_) (by simp only [List.getElem?_toArray, List.getElem?_cons_succ, List.getElem?_cons_zero]; rfl) (by kernel_rfl) (by kernel_rfl) (by kernel_rfl) (fun _ _ _ h => h) (Or.inl ⟨by rfl, ?_⟩) (by assumption) ?_
        rotate_left
        · (intro w hSw; (try dsimp only at hSw); go_simp; try with_reducible rfl)
        try simp only [Act.put, List.setIfInBounds_toArray, List.set_cons_zero, List.set_cons_succ]
        refine wpAnyH_take (i := 10) (v := ?_) (by simp only [List.getElem?_toArray, List.getElem?_cons_succ, List.getElem?_cons_zero]; rfl) (by kernel_rfl) (by kernel_rfl) (by kernel_rfl) (fun _ _ _ h => h) (Or.inl ⟨by rfl, ?_⟩) (by assumption) ?_
        rotate_left
        · (intro w hSw; (try dsimp only at hSw); go_simp; try with_reducible rfl)
        try simp only [Act.put, List.setIfInBounds_toArray, List.set_cons_zero, List.set_cons_succ]
        refine wpAnyH_take (i := 11) (v := ?_) (by simp only [List.getElem?_toArray, List.getElem?_cons_succ, List.getElem?_cons_zero]; rfl) (by kernel_rfl) (by kernel_rfl) (by kernel_rfl) (fun _ _ _ h => h) (Or.inl ⟨by rfl, ?_⟩) (by assumption) ?_
        rotate_left
        · (intro w hSw; (try dsimp only at hSw); go_simp; try with_reducible rfl)
        try simp only [Act.put, List.setIfInBounds_toArray, List.set_cons_zero, List.set_cons_succ]
        refine wpAnyH_take (i := 12) (v := ?_) (by simp only [List.getElem?_toArray, List.getElem?_cons_succ, List.getElem?_cons_zero]; rfl) (by kernel_rfl) (by kernel_rfl) (by kernel_rfl) (fun _ _ _ h => h) (Or.inl ⟨by rfl, ?_⟩) (by assumption) ?_
        rotate_left
        · (intro w hSw; (try dsimp only at hSw); go_simp; try with_reducible rfl)
        try simp only [Act.put, List.setIfInBounds_toArray, List.set_cons_zero, List.set_cons_succ]
        refine wpAnyH_take (i := 13) (v := ?_) (by simp only [List.getElem?_toArray, List.getElem?_cons_succ, List.getElem?_cons_zero]; rfl) (by kernel_rfl) (by kernel_rfl) (by kernel_rfl) (fun _ _ _ h => h) (Or.inl ⟨by rfl, ?_⟩) (by assumption) ?_
        rotate_left
        · (intro w hSw; (try dsimp only at hSw); go_simp; try with_reducible rfl)
        try simp only [Act.put, List.setIfInBounds_toArray, List.set_cons_zero, List.set_cons_succ]
        refine wpAnyH_take (i := 14) (v := ?_) (by simp only [List.getElem?_toArray, List.getElem?_cons_succ, List.getElem?_cons_zero]; rfl) (by kernel_rfl) (by kernel_rfl) (by kernel_rfl) (fun _ _ _ h => h) (Or.inl ⟨by rfl, ?_⟩) (by assumption) ?_
        rotate_left
        · (intro w hSw; (try dsimp only at hSw); go_simp; try with_reducible rfl)
        try simp only [Act.put, List.setIfInBounds_toArray, List.set_cons_zero, List.set_cons_succ]
        refine wpAnyH_take (i := 15) (v := ?_) (by simp only [List.getElem?_toArray, List.getElem?_cons_succ, List.getElem?_cons_zero]; rfl) (by kernel_rfl) (by kernel_rfl) (by kernel_rfl) (fun _ _ _ h => h) (Or.inl ⟨by rfl, ?_⟩) (by assumption) ?_
        rotate_left
        · (intro w hSw; (try dsimp only at hSw); go_simp; try with_reducible rfl)
        try simp only [Act.put, List.setIfInBounds_toArray, List.set_cons_zero, List.set_cons_succ]
        refine wpAnyH_done (by kernel_rfl) ?_ _
        refine NoPanic.normal ?_
        clear hb l0 l1 z0 z1 z2 t59 t62 t64 t66 t68 t0 u0
        obtain ⟨hb, l0, l1, z0, z1, z2, t59, t62, t64, t66, t68, t0, u0⟩ := hHeld
        replace l0 := Lib.hid l0
        replace l1 := Lib.hid l1
        replace t59 := Lib.hid t59
        replace t62 := Lib.hid t62
        replace t64 := Lib.hid t64
        replace t66 := Lib.hid t66
        replace t68 := Lib.hid t68
        clear t0 u0
        go_wp2_with fail
        go_roundw
        case rel => exact ⟨j + 1, kk + 1, by have := HJ.out; omega, by go_num, by go_num, HK2, hb, l0.out, l1.out, z0, z1, z2, t59.out, t62.out, t64.out, t66.out, t68.out⟩
        case measure => have := HJ.out; simp [intOf]; omega
      obtain rfl : n0 = j := by omega
      have d5 : decide ((n0 : Int) < (n0 : Int)) = false := decide_eq_false (by omega)
      obtain rfl : BD.length = kk := by have h := HK.out; rw [List.take_of_length_le (by have := HN.out; omega), hBD.out] at h; exact h.symm
      clear HK hj hlt
      go_wp2_with fail
      refine (RJ.out J _ XRJ.out l0.out l1.out).mono ?_
      rintro e v119 ⟨z69, y69, rfl, t69, k119⟩
      replace l0 := Lib.hid ((l0.out).below k119)
      replace l1 := Lib.hid ((l1.out).below k119)
      replace z0 := (Beat.keepC z0 k119)
      replace z1 := (Beat.keepC z1 k119)
      replace z2 := (Beat.keepC z2 k119)
      replace t59 := Lib.hid ((t59.out).below k119)
      replace t62 := Lib.hid ((t62.out).below k119)
      replace t64 := Lib.hid ((t64.out).below k119)
      replace t66 := Lib.hid ((t66.out).below k119)
      replace t68 := Lib.hid ((t68.out).below k119)
      replace hb := bstep hb k119
      clear k119
      replace t69 := Lib.hid t69
      go_wp2_with fail
      refine (same_is t62.out.1 t69.out.1 NJ2.out).mono ?_
      rintro e v120 ⟨rfl, k120⟩
      replace l0 := Lib.hid ((l0.out).below k120)
      replace l1 := Lib.hid ((l1.out).below k120)
      replace z0 := (Beat.keepC z0 k120)
      replace z1 := (Beat.keepC z1 k120)
      replace z2 := (Beat.keepC z2 k120)
      replace t59 := Lib.hid ((t59.out).below k120)
      replace t62 := Lib.hid ((t62.out).below k120)
      replace t64 := Lib.hid ((t64.out).below k120)
      replace t66 := Lib.hid ((t66.out).below k120)
      replace t68 := Lib.hid ((t68.out).below k120)
      replace t69 := Lib.hid ((t69.out).below k120)
      replace hb := bstep hb k120
      clear k120
      clear t69 t62 t59
      go_wp2_with fail
      refine (DQ.out _).mono ?_
      rintro e v121 ⟨rfl, k121⟩
      replace l0 := Lib.hid ((l0.out).below k121)
      replace l1 := Lib.hid ((l1.out).below k121)
      replace z0 := (Beat.keepC z0 k121)
      replace z1 := (Beat.keepC z1 k121)
      replace z2 := (Beat.keepC z2 k121)
      replace t64 := Lib.hid ((t64.out).below k121)
      replace t66 := Lib.hid ((t66.out).below k121)
      replace t68 := Lib.hid ((t68.out).below k121)
      replace hb := bstep hb k121
      clear k121
      rw [MQ.out]
      go_wp2_with fail
      refine (PG.out ⟨q, x.n, true⟩ SL _ XP1.out l0.out).mono ?_
      rintro e v122 ⟨z70, y70, rfl, t70, k122⟩
      replace l0 := Lib.hid ((l0.out).below k122)
      replace l1 := Lib.hid ((l1.out).below k122)
      replace z0 := (Beat.keepC z0 k122)
      replace z1 := (Beat.keepC z1 k122)
      replace z2 := (Beat.keepC z2 k122)
      replace t64 := Lib.hid ((t64.out).below k122)
      replace t66 := Lib.hid ((t66.out).below k122)
      replace t68 := Lib.hid ((t68.out).below k122)
      replace hb := bstep hb k122
      clear k122
      replace t70 := Lib.hid t70
      rw [XBD.out] at z2
      go_wp2_with fail
      clear z0 z1 z2
      skip
      have hO2 := Row.Own.nil (E := enc) (te := 28) v122 v122.heap.size
      have hb2 := Below.refl v122.heap.size v122
      go_loopw [20, 21] (fun lv iv wr => ∃ j : Nat, j ≤ n0 ∧ iv = .int .i64 j ∧ Hid (Mine wr v122.heap.size lv (dropL (a0.take j) [q])) ∧ Below v122.heap.size v122 wr) (fun _ iv _ => n0 - (intOf iv).toNat)
      case atStart => exact ⟨0, by omega, rfl, Lib.hid hO2, hb2⟩
      case round =>
        clear hO2 hb2
        obtain ⟨j, hj, rfl, oO, kb⟩ := hrel
        by_cases hlt : j < n0
        · have hll : j < a0.length := by have := HN.out; omega
          obtain ⟨b4, o4, e4, hcell⟩ := lies_at (l0.out.below kb).1 (by omega)
          cases e4
          obtain ⟨u0, u1, u2⟩ := hcell j hll
          have DS := drop_go a0 q j hll
          have DN := dropL_length (a0.take j) [q]
          rw [List.length_take] at DN
          obtain ⟨m, hm⟩ : ∃ m, m = a0[j] := ⟨_, rfl⟩
          rw [← hm] at u0 u1 u2 DS
          have d5 : decide ((j : Int) < (n0 : Int)) = true := decide_eq_true (by omega)
          have j5 : (0 : Int) ≤ (j : Int) := by omega
          have j6 : (j : Int) < (n0 : Int) := by omega
          have HJ := Lib.hid (And.intro hlt DN)
          clear hcell hm hll hlt DN
          by_cases hpq : m.p = q
          · have e1 : (m.p == q) = true := by simp [hpq]
            have e2 : (m.p != q) = false := by simp [hpq]
            rw [if_pos hpq] at DS
            have HD := Lib.hid DS
            clear DS hpq
            go_wp2_with fail
            go_roundw
            case rel => exact ⟨j + 1, by have := HJ.out; omega, by go_num, Lib.hid (by rw [HD.out]; simpa using oO.out), kb⟩
            case measure => have := HJ.out.1; simp [intOf]; omega
          have e1 : (m.p == q) = false := by simp [hpq]
          have e2 : (m.p != q) = true := by simp [hpq]
          rw [if_neg hpq] at DS
          have HD := Lib.hid DS
          clear DS hpq
          go_wp2_with (at_builtin; refine Row.wpList_app typ rfl _ _ rfl v122.heap.size _ _ rfl (oO.out.alloc _) _ 1 1 [m] rfl (Row.lies_new' _ m _ rfl) (by have := HJ.out; omega) (by have := kb.size; simp only [World.size_alloc]; omega) ?_; intro v9 w9 o9 _ k9)
          go_roundw
          case rel => exact ⟨j + 1, by have := HJ.out; omega, by go_num, Lib.hid (by rw [HD.out]; exact o9), (balloc kb _).trans k9⟩
          case measure => have := HJ.out.1; simp [intOf]; omega
        obtain rfl : n0 = j := by omega
        have d5 : decide ((n0 : Int) < (n0 : Int)) = false := decide_eq_false (by omega)
        have oD := oO.out
        rw [List.take_of_length_le (by have := HN.out; omega), XD2.out] at oD
        obtain ⟨aD, cD, rfl, -, -, tD, -, -⟩ := oD.lies'
        replace tD := Lib.hid tD
        clear oO oD hj hlt
        replace l0 := Lib.hid ((l0.out).below kb)
        replace l1 := Lib.hid ((l1.out).below kb)
        replace t64 := Lib.hid ((t64.out).below kb)
        replace t66 := Lib.hid ((t66.out).below kb)
        replace t68 := Lib.hid ((t68.out).below kb)
        replace t70 := Lib.hid ((t70.out).below kb)
        replace hb := bstep hb kb
        clear kb
        go_wp2_with fail
        refine (same_is t64.out.1 t70.out.1 NS2.out).mono ?_
        rintro e v123 ⟨rfl, k123⟩
        replace l0 := Lib.hid ((l0.out).below k123)
        replace l1 := Lib.hid ((l1.out).below k123)
        replace t64 := Lib.hid ((t64.out).below k123)
        replace t66 := Lib.hid ((t66.out).below k123)
        replace t68 := Lib.hid ((t68.out).below k123)
        replace t70 := Lib.hid ((t70.out).below k123)
        replace tD := Lib.hid ((tD.out).below k123)
        replace hb := bstep hb k123
        clear k123
        go_wp2_with fail
        refine (SM.out _ _ _ t66.out.1 l0.out).mono ?_
        rintro e v124 ⟨rfl, k124⟩
        replace l0 := Lib.hid ((l0.out).below k124)
        replace l1 := Lib.hid ((l1.out).below k124)
        replace t64 := Lib.hid ((t64.out).below k124)
        replace t66 := Lib.hid ((t66.out).below k124)
        replace t68 := Lib.hid ((t68.out).below k124)
        replace t70 := Lib.hid ((t70.out).below k124)
        replace tD := Lib.hid ((tD.out).below k124)
        replace hb := bstep hb k124
        clear k124
        go_wp2_with fail
        refine (same_is t68.out.1 tD.out ND2.out).mono ?_
        rintro e v125 ⟨rfl, k125⟩
        replace l0 := Lib.hid ((l0.out).below k125)
        replace l1 := Lib.hid ((l1.out).below k125)
        replace t64 := Lib.hid ((t64.out).below k125)
        replace t66 := Lib.hid ((t66.out).below k125)
        replace t68 := Lib.hid ((t68.out).below k125)
        replace t70 := Lib.hid ((t70.out).below k125)
        replace tD := Lib.hid ((tD.out).below k125)
        replace hb := bstep hb k125
        clear k125
        go_wp2_with fail
        refine (works_any _).mono ?_
        rintro e v126 ⟨rfl, k126⟩
        replace l0 := Lib.hid ((l0.out).below k126)
        replace l1 := Lib.hid ((l1.out).below k126)
        replace t64 := Lib.hid ((t64.out).below k126)
        replace t66 := Lib.hid ((t66.out).below k126)
        replace t68 := Lib.hid ((t68.out).below k126)
        replace t70 := Lib.hid ((t70.out).below k126)
        replace tD := Lib.hid ((tD.out).below k126)
        replace hb := bstep hb k126
        clear k126
        go_wp2
        go_ret
        exact ⟨rfl, hb⟩
  have XBD := Lib.hid hbd
  by_cases hlt : x.n < 281474976710656
  rotate_left
  · have hr : refB a0 q = a0 := by rw [XN, hbd, decide_eq_false hlt]; rfl
    have dn : decide ((x.n : Int) < 281474976710656) = false := decide_eq_false (by omega)
    clear hbd hlt
    replace XR : Hid (refB a0 q = a0) := Lib.hid hr
    replace NR2 : Hid (a0.length ≤ 1000) := Lib.hid (by have := K0.out.1; omega)
    clear hr XN hRL
    go_enter Try.func3, Try.ntmps3
    go_wp2_with fail
    refine (C0.out _ l0.out).mono ?_
    rintro e w127 ⟨rfl, rfl⟩
    rw [H0.out]
    go_wp2_with fail
    refine (C1.out _ l1.out).mono ?_
    rintro e w128 ⟨rfl, rfl⟩
    rw [H1.out]
    go_wp2_with fail
    refine (D0.out _ l0.out).mono ?_
    rintro e v129 ⟨rfl, k129⟩
    replace l0 := Lib.hid ((l0.out).below k129)
    replace l1 := Lib.hid ((l1.out).below k129)
    replace z0 := (Beat.keepC z0 k129)
    replace z1 := (Beat.keepC z1 k129)
    replace z2 := (Beat.keepC z2 k129)
    replace hb := bstep hb k129
    clear k129
    rw [M0.out]
    go_wp2_with fail
    refine (E0.out _ l0.out).mono ?_
    rintro e v130 ⟨z71, y71, rfl, t71, k130⟩
    replace l0 := Lib.hid ((l0.out).below k130)
    replace l1 := Lib.hid ((l1.out).below k130)
    replace z0 := (Beat.keepC z0 k130)
    replace z1 := (Beat.keepC z1 k130)
    replace z2 := (Beat.keepC z2 k130)
    replace hb := bstep hb k130
    clear k130
    replace t71 := Lib.hid t71
    go_wp2_with fail
    refine (may_any a0 _ _ _ t71.out.1 K0.out.2).mono ?_
    rintro e v131 ⟨rfl, k131⟩
    replace l0 := Lib.hid ((l0.out).below k131)
    replace l1 := Lib.hid ((l1.out).below k131)
    replace z0 := (Beat.keepC z0 k131)
    replace z1 := (Beat.keepC z1 k131)
    replace z2 := (Beat.keepC z2 k131)
    replace t71 := Lib.hid ((t71.out).below k131)
    replace hb := bstep hb k131
    clear k131
    rw [M0.out]
    clear t71
    go_wp2_with fail
    refine (E0.out _ l0.out).mono ?_
    rintro e v132 ⟨z72, y72, rfl, t72, k132⟩
    replace l0 := Lib.hid ((l0.out).below k132)
    replace l1 := Lib.hid ((l1.out).below k132)
    replace z0 := (Beat.keepC z0 k132)
    replace z1 := (Beat.keepC z1 k132)
    replace z2 := (Beat.keepC z2 k132)
    replace hb := bstep hb k132
    clear k132
    replace t72 := Lib.hid t72
    go_wp2_with fail
    refine (of_is XO.out XI.out t72.out K0.out.2 HQ2.out).mono ?_
    rintro e v133 ⟨rfl, k133⟩
    replace l0 := Lib.hid ((l0.out).below k133)
    replace l1 := Lib.hid ((l1.out).below k133)
    replace z0 := (Beat.keepC z0 k133)
    replace z1 := (Beat.keepC z1 k133)
    replace z2 := (Beat.keepC z2 k133)
    replace t72 := Lib.hid ((t72.out).below k133)
    replace hb := bstep hb k133
    clear k133
    clear t72
    have x0 : (v133.alloc (.cells #[.string ⟨x.p.toArray⟩, .int .u64 (x.n : Int), .bool x.bad] 28)).cell? ⟨v133.heap.size, 0, none⟩ = some (.string ⟨x.p.toArray⟩) := by rw [World.cell?_alloc_new]; rfl
    have x1 : (v133.alloc (.cells #[.string ⟨x.p.toArray⟩, .int .u64 (x.n : Int), .bool x.bad] 28)).cell? ⟨v133.heap.size, 1, none⟩ = some (.int .u64 (x.n : Int)) := by rw [World.cell?_alloc_new]; rfl
    have x2 : (v133.alloc (.cells #[.string ⟨x.p.toArray⟩, .int .u64 (x.n : Int), .bool x.bad] 28)).cell? ⟨v133.heap.size, 2, none⟩ = some (.bool x.bad) := by rw [World.cell?_alloc_new]; rfl
    go_wp2_with fail
    have hbx : Below v133.heap.size v133 (v133.alloc (.cells #[.string ⟨x.p.toArray⟩, .int .u64 (x.n : Int), .bool x.bad] 28)) := balloc (Below.refl _ _) _
    replace l0 := Lib.hid ((l0.out).below hbx)
    replace l1 := Lib.hid ((l1.out).below hbx)
    replace z0 := (Beat.keepC z0 hbx)
    replace z1 := (Beat.keepC z1 hbx)
    replace z2 := (Beat.keepC z2 hbx)
    replace hb := bstep hb hbx
    generalize v133.alloc _ = u0 at *
    generalize v133.heap.size = g0 at *
    clear hbx
    refine (E0.out _ l0.out).mono ?_
    rintro e v134 ⟨z73, y73, rfl, t73, k134⟩
    replace l0 := Lib.hid ((l0.out).below k134)
    replace l1 := Lib.hid ((l1.out).below k134)
    replace z0 := (Beat.keepC z0 k134)
    replace z1 := (Beat.keepC z1 k134)
    replace z2 := (Beat.keepC z2 k134)
    replace x0 := (Beat.keepC x0 k134)
    replace x1 := (Beat.keepC x1 k134)
    replace x2 := (Beat.keepC x2 k134)
    replace hb := bstep hb k134
    clear k134
    replace t73 := Lib.hid t73
    go_wp2_with fail
    refine (bad_got XB.out t73.out K0.out.2).mono ?_
    rintro e v135 ⟨z74, y74, rfl, t74, k135⟩
    replace l0 := Lib.hid ((l0.out).below k135)
    replace l1 := Lib.hid ((l1.out).below k135)
    replace z0 := (Beat.keepC z0 k135)
    replace z1 := (Beat.keepC z1 k135)
    replace z2 := (Beat.keepC z2 k135)
    replace x0 := (Beat.keepC x0 k135)
    replace x1 := (Beat.keepC x1 k135)
    replace x2 := (Beat.keepC x2 k135)
    replace t73 := Lib.hid ((t73.out).below k135)
    replace hb := bstep hb k135
    clear k135
    replace t74 := Lib.hid t74
    clear t73
    go_wp2_with fail
    refine (E0.out _ l0.out).mono ?_
    rintro e v136 ⟨z75, y75, rfl, t75, k136⟩
    replace l0 := Lib.hid ((l0.out).below k136)
    replace l1 := Lib.hid ((l1.out).below k136)
    replace z0 := (Beat.keepC z0 k136)
    replace z1 := (Beat.keepC z1 k136)
    replace z2 := (Beat.keepC z2 k136)
    replace x0 := (Beat.keepC x0 k136)
    replace x1 := (Beat.keepC x1 k136)
    replace x2 := (Beat.keepC x2 k136)
    replace t74 := Lib.hid ((t74.out).below k136)
    replace hb := bstep hb k136
    clear k136
    replace t75 := Lib.hid t75
    go_wp2_with fail
    refine (E1.out _ l1.out).mono ?_
    rintro e v137 ⟨z76, y76, rfl, t76, k137⟩
    replace l0 := Lib.hid ((l0.out).below k137)
    replace l1 := Lib.hid ((l1.out).below k137)
    replace z0 := (Beat.keepC z0 k137)
    replace z1 := (Beat.keepC z1 k137)
    replace z2 := (Beat.keepC z2 k137)
    replace x0 := (Beat.keepC x0 k137)
    replace x1 := (Beat.keepC x1 k137)
    replace x2 := (Beat.keepC x2 k137)
    replace t74 := Lib.hid ((t74.out).below k137)
    replace t75 := Lib.hid ((t75.out).below k137)
    replace hb := bstep hb k137
    clear k137
    replace t76 := Lib.hid t76
    go_wp2_with fail
    refine (join_got XJ.out t75.out t76.out K0.out.2 K1.out.2 NJ2.out).mono ?_
    rintro e v138 ⟨z77, y77, rfl, t77, k138⟩
    replace l0 := Lib.hid ((l0.out).below k138)
    replace l1 := Lib.hid ((l1.out).below k138)
    replace z0 := (Beat.keepC z0 k138)
    replace z1 := (Beat.keepC z1 k138)
    replace z2 := (Beat.keepC z2 k138)
    replace x0 := (Beat.keepC x0 k138)
    replace x1 := (Beat.keepC x1 k138)
    replace x2 := (Beat.keepC x2 k138)
    replace t74 := Lib.hid ((t74.out).below k138)
    replace t75 := Lib.hid ((t75.out).below k138)
    replace t76 := Lib.hid ((t76.out).below k138)
    replace hb := bstep hb k138
    clear k138
    replace t77 := Lib.hid t77
    clear t75 t76
    go_wp2_with fail
    refine (E0.out _ l0.out).mono ?_
    rintro e v139 ⟨z78, y78, rfl, t78, k139⟩
    replace l0 := Lib.hid ((l0.out).below k139)
    replace l1 := Lib.hid ((l1.out).below k139)
    replace z0 := (Beat.keepC z0 k139)
    replace z1 := (Beat.keepC z1 k139)
    replace z2 := (Beat.keepC z2 k139)
    replace x0 := (Beat.keepC x0 k139)
    replace x1 := (Beat.keepC x1 k139)
    replace x2 := (Beat.keepC x2 k139)
    replace t74 := Lib.hid ((t74.out).below k139)
    replace t77 := Lib.hid ((t77.out).below k139)
    replace hb := bstep hb k139
    clear k139
    replace t78 := Lib.hid t78
    go_wp2_with fail
    refine (sus_got XS.out t78.out K0.out.2 HQ2.out NS2.out).mono ?_
    rintro e v140 ⟨z79, y79, rfl, t79, k140⟩
    replace l0 := Lib.hid ((l0.out).below k140)
    replace l1 := Lib.hid ((l1.out).below k140)
    replace z0 := (Beat.keepC z0 k140)
    replace z1 := (Beat.keepC z1 k140)
    replace z2 := (Beat.keepC z2 k140)
    replace x0 := (Beat.keepC x0 k140)
    replace x1 := (Beat.keepC x1 k140)
    replace x2 := (Beat.keepC x2 k140)
    replace t74 := Lib.hid ((t74.out).below k140)
    replace t77 := Lib.hid ((t77.out).below k140)
    replace t78 := Lib.hid ((t78.out).below k140)
    replace hb := bstep hb k140
    clear k140
    replace t79 := Lib.hid t79
    clear t78
    go_wp2_with fail
    refine (E0.out _ l0.out).mono ?_
    rintro e v141 ⟨z80, y80, rfl, t80, k141⟩
    replace l0 := Lib.hid ((l0.out).below k141)
    replace l1 := Lib.hid ((l1.out).below k141)
    replace z0 := (Beat.keepC z0 k141)
    replace z1 := (Beat.keepC z1 k141)
    replace z2 := (Beat.keepC z2 k141)
    replace x0 := (Beat.keepC x0 k141)
    replace x1 := (Beat.keepC x1 k141)
    replace x2 := (Beat.keepC x2 k141)
    replace t74 := Lib.hid ((t74.out).below k141)
    replace t77 := Lib.hid ((t77.out).below k141)
    replace t79 := Lib.hid ((t79.out).below k141)
    replace hb := bstep hb k141
    clear k141
    replace t80 := Lib.hid t80
    go_wp2_with fail
    refine (ref_got XR.out t80.out K0.out.2 HQ2.out NR2.out).mono ?_
    rintro e v142 ⟨z81, y81, rfl, t81, k142⟩
    replace l0 := Lib.hid ((l0.out).below k142)
    replace l1 := Lib.hid ((l1.out).below k142)
    replace z0 := (Beat.keepC z0 k142)
    replace z1 := (Beat.keepC z1 k142)
    replace z2 := (Beat.keepC z2 k142)
    replace x0 := (Beat.keepC x0 k142)
    replace x1 := (Beat.keepC x1 k142)
    replace x2 := (Beat.keepC x2 k142)
    replace t74 := Lib.hid ((t74.out).below k142)
    replace t77 := Lib.hid ((t77.out).below k142)
    replace t79 := Lib.hid ((t79.out).below k142)
    replace t80 := Lib.hid ((t80.out).below k142)
    replace hb := bstep hb k142
    clear k142
    replace t81 := Lib.hid t81
    clear t80
    go_wp2_with fail
    refine (E0.out _ l0.out).mono ?_
    rintro e v143 ⟨z82, y82, rfl, t82, k143⟩
    replace l0 := Lib.hid ((l0.out).below k143)
    replace l1 := Lib.hid ((l1.out).below k143)
    replace z0 := (Beat.keepC z0 k143)
    replace z1 := (Beat.keepC z1 k143)
    replace z2 := (Beat.keepC z2 k143)
    replace x0 := (Beat.keepC x0 k143)
    replace x1 := (Beat.keepC x1 k143)
    replace x2 := (Beat.keepC x2 k143)
    replace t74 := Lib.hid ((t74.out).below k143)
    replace t77 := Lib.hid ((t77.out).below k143)
    replace t79 := Lib.hid ((t79.out).below k143)
    replace t81 := Lib.hid ((t81.out).below k143)
    replace hb := bstep hb k143
    clear k143
    replace t82 := Lib.hid t82
    go_wp2_with fail
    have hbx : Below v143.heap.size v143 (v143.alloc (.cells #[.string ⟨q.toArray⟩] 9)) := balloc (Below.refl _ _) _
    have lq := Row.lies_new (E := Words.enc) v143 q 9
    replace l0 := Lib.hid ((l0.out).below hbx)
    replace l1 := Lib.hid ((l1.out).below hbx)
    replace z0 := (Beat.keepC z0 hbx)
    replace z1 := (Beat.keepC z1 hbx)
    replace z2 := (Beat.keepC z2 hbx)
    replace x0 := (Beat.keepC x0 hbx)
    replace x1 := (Beat.keepC x1 hbx)
    replace x2 := (Beat.keepC x2 hbx)
    replace t74 := Lib.hid ((t74.out).below hbx)
    replace t77 := Lib.hid ((t77.out).below hbx)
    replace t79 := Lib.hid ((t79.out).below hbx)
    replace t81 := Lib.hid ((t81.out).below hbx)
    replace t82 := Lib.hid ((t82.out).below hbx)
    replace hb := bstep hb hbx
    clear hbx
    refine (drop_got (ps := [q]) XD.out t82.out lq K0.out.2 (fun p hp => by obtain rfl := List.mem_singleton.1 hp; exact HQ2.out) (by simp) ND2.out).mono ?_
    rintro e v144 ⟨z83, y83, rfl, t83, k144⟩
    replace l0 := Lib.hid ((l0.out).below k144)
    replace l1 := Lib.hid ((l1.out).below k144)
    replace z0 := (Beat.keepC z0 k144)
    replace z1 := (Beat.keepC z1 k144)
    replace z2 := (Beat.keepC z2 k144)
    replace x0 := (Beat.keepC x0 k144)
    replace x1 := (Beat.keepC x1 k144)
    replace x2 := (Beat.keepC x2 k144)
    replace t74 := Lib.hid ((t74.out).below k144)
    replace t77 := Lib.hid ((t77.out).below k144)
    replace t79 := Lib.hid ((t79.out).below k144)
    replace t81 := Lib.hid ((t81.out).below k144)
    replace t82 := Lib.hid ((t82.out).below k144)
    replace hb := bstep hb k144
    clear k144
    replace t83 := Lib.hid t83
    clear lq
    clear t82
    go_wp2_with fail
    refine (D1.out _ l1.out).mono ?_
    rintro e v145 ⟨rfl, k145⟩
    replace l0 := Lib.hid ((l0.out).below k145)
    replace l1 := Lib.hid ((l1.out).below k145)
    replace z0 := (Beat.keepC z0 k145)
    replace z1 := (Beat.keepC z1 k145)
    replace z2 := (Beat.keepC z2 k145)
    replace x0 := (Beat.keepC x0 k145)
    replace x1 := (Beat.keepC x1 k145)
    replace x2 := (Beat.keepC x2 k145)
    replace t74 := Lib.hid ((t74.out).below k145)
    replace t77 := Lib.hid ((t77.out).below k145)
    replace t79 := Lib.hid ((t79.out).below k145)
    replace t81 := Lib.hid ((t81.out).below k145)
    replace t83 := Lib.hid ((t83.out).below k145)
    replace hb := bstep hb k145
    clear k145
    rw [M1.out]
    go_wp2_with fail
    refine (AT.out _ l0.out).mono ?_
    rintro e w146 ⟨rfl, rfl⟩
    rw [HA.out]
    go_wp2_with fail
    refine wp_region_noPanic ?_
    refine wp_region_held_drew (S := (fun w' => Below w.heap.size w w' ∧ Came w' (some ⟨b0, o0, none⟩) c0 a0 ∧ Came w' s1 c1 a1 ∧ w'.cell? ⟨b0, o0 + jx * 3, none⟩ = some (.string ⟨x.p.toArray⟩) ∧ w'.cell? ⟨b0, o0 + jx * 3 + 1, none⟩ = some (.int .u64 (x.n : Int)) ∧ w'.cell? ⟨b0, o0 + jx * 3 + 2, none⟩ = some (.bool x.bad) ∧ w'.cell? ⟨g0, 0, none⟩ = some (.string ⟨x.p.toArray⟩) ∧ w'.cell? ⟨g0, 1, none⟩ = some (.int .u64 (x.n : Int)) ∧ w'.cell? ⟨g0, 2, none⟩ = some (.bool x.bad) ∧ Words.Lies w' z74 BD.length BD ∧ Came w' z77 y77 J ∧ Came w' z79 y79 SL ∧ Came w' z81 y81 a0 ∧ Came w' z83 y83 DL)) (by kernel_rfl) (⟨Below.drew hb, (l0.out).below (Below.drew (Below.refl _ _)), (l1.out).below (Below.drew (Below.refl _ _)), Beat.keepC z0 (Below.drew (Below.refl _ _)), Beat.keepC z1 (Below.drew (Below.refl _ _)), Beat.keepC z2 (Below.drew (Below.refl _ _)), Beat.keepC x0 (Below.drew (Below.refl _ _)), Beat.keepC x1 (Below.drew (Below.refl _ _)), Beat.keepC x2 (Below.drew (Below.refl _ _)), (t74.out).below (Below.drew (Below.refl _ _)), (t77.out).below (Below.drew (Below.refl _ _)), (t79.out).below (Below.drew (Below.refl _ _)), (t81.out).below (Below.drew (Below.refl _ _)), (t83.out).below (Below.drew (Below.refl _ _))⟩) (fun hHeld => ?_)
    refine wpAnyH_take (i := 0) (v := ?_) (by simp only [List.getElem?_toArray, List.getElem?_cons_zero]; rfl) (by kernel_rfl) (by kernel_rfl) (by kernel_rfl) (fun _ _ _ h => h) (Or.inl ⟨by rfl, ?_⟩) (by assumption) ?_
    rotate_left
    · (intro w hSw; (try dsimp only at hSw); go_simp; try with_reducible rfl)
    try simp only [Act.put, List.setIfInBounds_toArray, List.set_cons_zero, List.set_cons_succ]
    refine wpAnyH_take (i := 1) (v := ?_) (by simp only [List.getElem?_toArray, List.getElem?_cons_succ, List.getElem?_cons_zero]; rfl) (by kernel_rfl) (by kernel_rfl) (by kernel_rfl) (fun _ _ _ h => h) (Or.inl ⟨by rfl, ?_⟩) (by assumption) ?_
    rotate_left
    · (intro w hSw; (try dsimp only at hSw); go_simp; try with_reducible rfl)
    try simp only [Act.put, List.setIfInBounds_toArray, List.set_cons_zero, List.set_cons_succ]
    refine wpAnyH_take (i := 2) (v := ?_) (by simp only [List.getElem?_toArray, List.getElem?_cons_succ, List.getElem?_cons_zero]; rfl) (by kernel_rfl) (by kernel_rfl) (by kernel_rfl) (fun _ _ _ h => h) (Or.inl ⟨by rfl, ?_⟩) (by assumption) ?_
    rotate_left
    · (intro w hSw; (try dsimp only at hSw); go_simp; try with_reducible rfl)
    try simp only [Act.put, List.setIfInBounds_toArray, List.set_cons_zero, List.set_cons_succ]
    refine wpAnyH_take (i := 3) (v := ?_) (by simp only [List.getElem?_toArray, List.getElem?_cons_succ, List.getElem?_cons_zero]; rfl) (by kernel_rfl) (by kernel_rfl) (by kernel_rfl) (fun _ _ _ h => h) (Or.inl ⟨by rfl, ?_⟩) (by assumption) ?_
    rotate_left
    · (intro w hSw; (try dsimp only at hSw); go_simp; try with_reducible rfl)
    try simp only [Act.put, List.setIfInBounds_toArray, List.set_cons_zero, List.set_cons_succ]
    refine wpAnyH_take (i := 4) (v := ?_) (by simp only [List.getElem?_toArray, List.getElem?_cons_succ, List.getElem?_cons_zero]; rfl) (by kernel_rfl) (by kernel_rfl) (by kernel_rfl) (fun _ _ _ h => h) (Or.inl ⟨by rfl, ?_⟩) (by assumption) ?_
    rotate_left
    · (intro w hSw; (try dsimp only at hSw); go_simp; try with_reducible rfl)
    try simp only [Act.put, List.setIfInBounds_toArray, List.set_cons_zero, List.set_cons_succ]
    refine wpAnyH_take (i := 5) (v := ?_) (by simp only [List.getElem?_toArray, List.getElem?_cons_succ, List.getElem?_cons_zero]; rfl) (by kernel_rfl) (by kernel_rfl) (by kernel_rfl) (fun _ _ _ h => h) (Or.inl ⟨by rfl, ?_⟩) (by assumption) ?_
    rotate_left
    · (intro w hSw; (try dsimp only at hSw); go_simp; try with_reducible rfl)
    try simp only [Act.put, List.setIfInBounds_toArray, List.set_cons_zero, List.set_cons_succ]
    refine wpAnyH_take (i := 6) (v := ?_) (by simp only [List.getElem?_toArray, List.getElem?_cons_succ, List.getElem?_cons_zero]; rfl) (by kernel_rfl) (by kernel_rfl) (by kernel_rfl) (fun _ _ _ h => h) (Or.inl ⟨by rfl, ?_⟩) (by assumption) ?_
    rotate_left
    · (intro w hSw; (try dsimp only at hSw); go_simp; try with_reducible rfl)
    try simp only [Act.put, List.setIfInBounds_toArray, List.set_cons_zero, List.set_cons_succ]
    refine wpAnyH_take (i := 7) (v := ?_) (by simp only [List.getElem?_toArray, List.getElem?_cons_succ, List.getElem?_cons_zero]; rfl) (by kernel_rfl) (by kernel_rfl) (by kernel_rfl) (fun _ _ _ h => h) (Or.inl ⟨by rfl, ?_⟩) (by assumption) ?_
    rotate_left
    · (intro w hSw; (try dsimp only at hSw); go_simp; try with_reducible rfl)
    try simp only [Act.put, List.setIfInBounds_toArray, List.set_cons_zero, List.set_cons_succ]
    refine wpAnyH_take (i := 8) (v := ?_) (by simp only [List.getElem?_toArray, List.getElem?_cons_succ, List.getElem?_cons_zero]; rfl) (by kernel_rfl) (by kernel_rfl) (by kernel_rfl) (fun _ _ _ h => h) (Or.inl ⟨by rfl, ?_⟩) (by assumption) ?_
    rotate_left
    · (intro w hSw; (try dsimp only at hSw); go_simp; try with_reducible rfl)
    try simp only [Act.put, List.setIfInBounds_toArray, List.set_cons_zero, List.set_cons_succ]
    refine wpAnyH_take (i := 9) (v := ?_) (by simp only [List.getElem?_toArray, List.getElem?_cons_succ, List.getElem?_cons_zero]; rfl) (by kernel_rfl) (by kernel_rfl) (by kernel_rfl) (fun _ _ _ h => h) (Or.inl ⟨by rfl, ?_⟩) (by assumption) ?_
    rotate_left
    · (intro w hSw; (try dsimp only at hSw); go_simp; try with_reducible rfl)
    try simp only [Act.put, List.setIfInBounds_toArray, List.set_cons_zero, List.set_cons_succ]
    refine wpAnyH_take (i := 10) (v := ?_) (by simp only [List.getElem?_toArray, List.getElem?_cons_succ, List.getElem?_cons_zero]; rfl) (by kernel_rfl) (by kernel_rfl) (by kernel_rfl) (fun _ _ _ h => h) (Or.inl ⟨by rfl, ?_⟩) (by assumption) ?_
    rotate_left
    · (intro w hSw; (try dsimp only at hSw); go_simp; try with_reducible rfl)
    try simp only [Act.put, List.setIfInBounds_toArray, List.set_cons_zero, List.set_cons_succ]
    refine wpAnyH_take (i := 11) (v := ?_) (by simp only [List.getElem?_toArray, List.getElem?_cons_succ, List.getElem?_cons_zero]; rfl) (by kernel_rfl) (by kernel_rfl) (by kernel_rfl) (fun _ _ _ h => h) (Or.inl ⟨by rfl, ?_⟩) (by assumption) ?_
    rotate_left
    · (intro w hSw; (try dsimp only at hSw); go_simp; try with_reducible rfl)
    try simp only [Act.put, List.setIfInBounds_toArray, List.set_cons_zero, List.set_cons_succ]
    refine wpAnyH_take (i := 12) (v := ?_) (by simp only [List.getElem?_toArray, List.getElem?_cons_succ, List.getElem?_cons_zero]; rfl) (by kernel_rfl) (by kernel_rfl) (by kernel_rfl) (fun _ _ _ h => h) (Or.inl ⟨by rfl, ?_⟩) (by assumption) ?_
    rotate_left
    · (intro w hSw; (try dsimp only at hSw); go_simp; try with_reducible rfl)
    try simp only [Act.put, List.setIfInBounds_toArray, List.set_cons_zero, List.set_cons_succ]
    refine wpAnyH_take (i := 13) (v := ?_) (by simp only [List.getElem?_toArray, List.getElem?_cons_succ, List.getElem?_cons_zero]; rfl) (by kernel_rfl) (by kernel_rfl) (by kernel_rfl) (fun _ _ _ h => h) (Or.inl ⟨by rfl, ?_⟩) (by assumption) ?_
    rotate_left
    · (intro w hSw; (try dsimp only at hSw); go_simp; try with_reducible rfl)
    try simp only [Act.put, List.setIfInBounds_toArray, List.set_cons_zero, List.set_cons_succ]
    refine wpAnyH_take (i := 14) (v := ?_) (by simp only [List.getElem?_toArray, List.getElem?_cons_succ, List.getElem?_cons_zero]; rfl) (by kernel_rfl) (by kernel_rfl) (by kernel_rfl) (fun _ _ _ h => h) (Or.inl ⟨by rfl, ?_⟩) (by assumption) ?_
    rotate_left
    · (intro w hSw; (try dsimp only at hSw); go_simp; try with_reducible rfl)
    try simp only [Act.put, List.setIfInBounds_toArray, List.set_cons_zero, List.set_cons_succ]
    refine wpAnyH_take (i := 15) (v := ?_) (by simp only [List.getElem?_toArray, List.getElem?_cons_succ, List.getElem?_cons_zero]; rfl) (by kernel_rfl) (by kernel_rfl) (by kernel_rfl) (fun _ _ _ h => h) (Or.inl ⟨by rfl, ?_⟩) (by assumption) ?_
    rotate_left
    · (intro w hSw; (try dsimp only at hSw); go_simp; try with_reducible rfl)
    try simp only [Act.put, List.setIfInBounds_toArray, List.set_cons_zero, List.set_cons_succ]
    refine wpAnyH_take (i := 16) (v := ?_) (by simp only [List.getElem?_toArray, List.getElem?_cons_succ, List.getElem?_cons_zero]; rfl) (by kernel_rfl) (by kernel_rfl) (by kernel_rfl) (fun _ _ _ h => h) (Or.inl ⟨by rfl, ?_⟩) (by assumption) ?_
    rotate_left
    · (intro w hSw; (try dsimp only at hSw); go_simp; try with_reducible rfl)
    try simp only [Act.put, List.setIfInBounds_toArray, List.set_cons_zero, List.set_cons_succ]
    refine wpAnyH_take (i := 17) (v := ?_) (by simp only [List.getElem?_toArray, List.getElem?_cons_succ, List.getElem?_cons_zero]; rfl) (by kernel_rfl) (by kernel_rfl) (by kernel_rfl) (fun _ _ _ h => h) (Or.inl ⟨by rfl, ?_⟩) (by assumption) ?_
    rotate_left
    · (intro w hSw; (try dsimp only at hSw); go_simp; try with_reducible rfl)
    try simp only [Act.put, List.setIfInBounds_toArray, List.set_cons_zero, List.set_cons_succ]
    refine wpAnyH_take (i := 18) (v := ?_) (by simp only [List.getElem?_toArray, List.getElem?_cons_succ, List.getElem?_cons_zero]; rfl) (by kernel_rfl) (by kernel_rfl) (by kernel_rfl) (fun _ _ _ h => h) (Or.inl ⟨by rfl, ?_⟩) (by assumption) ?_
    rotate_left
    · (intro w hSw; (try dsimp only at hSw); go_simp; try with_reducible rfl)
    try simp only [Act.put, List.setIfInBounds_toArray, List.set_cons_zero, List.set_cons_succ]
    refine wpAnyH_take (i := 19) (v := undef) (by simp only [List.getElem?_toArray, List.getElem?_cons_succ, List.getElem?_cons_zero]; rfl) (by kernel_rfl) (by kernel_rfl) (by kernel_rfl) (fun _ _ _ h => h) (Or.inr ⟨by rfl, rfl⟩) (by assumption) ?_
    try simp only [Act.put, List.setIfInBounds_toArray, List.set_cons_zero, List.set_cons_succ]
    refine wpAnyH_take (i := 20) (v := undef) (by simp only [List.getElem?_toArray, List.getElem?_cons_succ, List.getElem?_cons_zero]; rfl) (by kernel_rfl) (by kernel_rfl) (by kernel_rfl) (fun _ _ _ h => h) (Or.inr ⟨by rfl, rfl⟩) (by assumption) ?_
    try simp only [Act.put, List.setIfInBounds_toArray, List.set_cons_zero, List.set_cons_succ]
    refine wpAnyH_take (i := 21) (v := undef) (by simp only [List.getElem?_toArray, List.getElem?_cons_succ, List.getElem?_cons_zero]; rfl) (by kernel_rfl) (by kernel_rfl) (by kernel_rfl) (fun _ _ _ h => h) (Or.inr ⟨by rfl, rfl⟩) (by assumption) ?_
    try simp only [Act.put, List.setIfInBounds_toArray, List.set_cons_zero, List.set_cons_succ]
    refine wpAnyH_take (i := 22) (v := ?_) (by simp only [List.getElem?_toArray, List.getElem?_cons_succ, List.getElem?_cons_zero]; rfl) (by kernel_rfl) (by kernel_rfl) (by kernel_rfl) (fun _ _ _ h => h) (Or.inl ⟨by rfl, ?_⟩) (by assumption) ?_
    rotate_left
    · (intro w hSw; (try dsimp only at hSw); go_simp; try with_reducible rfl)
    try simp only [Act.put, List.setIfInBounds_toArray, List.set_cons_zero, List.set_cons_succ]
    refine wpAnyH_take (i := 23) (v := ?_) (by simp only [List.getElem?_toArray, List.getElem?_cons_succ, List.getElem?_cons_zero]; rfl) (by kernel_rfl) (by kernel_rfl) (by kernel_rfl) (fun _ _ _ h => h) (Or.inl ⟨by rfl, ?_⟩) (by assumption) ?_
    rotate_left
    · (intro w hSw; (try dsimp only at hSw); go_simp; try with_reducible rfl)
    try simp only [Act.put, List.setIfInBounds_toArray, List.set_cons_zero, List.set_cons_succ]
    refine wpAnyH_done (by kernel_rfl) ?_ _
    refine NoPanic.normal ?_
    clear hb l0 l1 z0 z1 z2 x0 x1 x2 t74 t77 t79 t81 t83
    obtain ⟨hb, l0, l1, z0, z1, z2, x0, x1, x2, t74, t77, t79, t81, t83⟩ := hHeld
    replace l0 := Lib.hid l0
    replace l1 := Lib.hid l1
    replace t74 := Lib.hid t74
    replace t77 := Lib.hid t77
    replace t79 := Lib.hid t79
    replace t81 := Lib.hid t81
    replace t83 := Lib.hid t83
    clear x0 x1 x2
    clear nq
    go_wp2_with fail
    go_loopw [16, 17] (fun kv iv wr => ∃ j kk : Nat, j ≤ n0 ∧ iv = .int .i64 j ∧ kv = .int .i64 kk ∧ Hid (kk = (badL (a0.take j)).length) ∧ Below w.heap.size w wr ∧ Came wr (some ⟨b0, o0, none⟩) c0 a0 ∧ Came wr s1 c1 a1 ∧ wr.cell? ⟨b0, o0 + jx * 3, none⟩ = some (.string ⟨x.p.toArray⟩) ∧ wr.cell? ⟨b0, o0 + jx * 3 + 1, none⟩ = some (.int .u64 (x.n : Int)) ∧ wr.cell? ⟨b0, o0 + jx * 3 + 2, none⟩ = some (.bool x.bad) ∧ Words.Lies wr z74 BD.length BD ∧ Came wr z77 y77 J ∧ Came wr z79 y79 SL ∧ Came wr z81 y81 a0 ∧ Came wr z83 y83 DL) (fun kv iv _ => n0 - (intOf iv).toNat)
    case atStart => exact ⟨0, 0, by omega, rfl, rfl, Lib.hid rfl, hb, l0.out, l1.out, z0, z1, z2, t74.out, t77.out, t79.out, t81.out, t83.out⟩
    case round =>
      clear hb l0 l1 z0 z1 z2 t74 t77 t79 t81 t83
      obtain ⟨j, kk, hj, rfl, rfl, HK, hb, l0, l1, z0, z1, z2, t74, t77, t79, t81, t83⟩ := hrel
      replace l0 := Lib.hid l0
      replace l1 := Lib.hid l1
      replace t74 := Lib.hid t74
      replace t77 := Lib.hid t77
      replace t79 := Lib.hid t79
      replace t81 := Lib.hid t81
      replace t83 := Lib.hid t83
      by_cases hlt : j < n0
      · have hll : j < a0.length := by have := HN.out; omega
        obtain ⟨b4, o4, e4, hcell⟩ := lies_at l0.out.1 (by omega)
        cases e4
        obtain ⟨u0, -, u2⟩ := hcell j hll
        have BS := badL_step a0 j hll
        have BA := fun h => bad_at a0 j hll h
        obtain ⟨m, hm⟩ : ∃ m, m = a0[j] := ⟨_, rfl⟩
        rw [← hm] at u0 u2 BS BA
        have d5 : decide ((j : Int) < (n0 : Int)) = true := decide_eq_true (by omega)
        have j5 : (0 : Int) ≤ (j : Int) := by omega
        have j6 : (j : Int) < (n0 : Int) := by omega
        have HJ := Lib.hid hlt
        clear hcell hm hll hlt
        cases hbd : m.bad
        · rw [hbd] at u2 BS
          have HK2 : Hid (kk = (badL (a0.take (j + 1))).length) := Lib.hid (by rw [BS, HK.out]; simp)
          clear BS BA hbd u0
          go_wp2_with fail
          go_roundw
          case rel => exact ⟨j + 1, kk, by have := HJ.out; omega, by go_num, rfl, HK2, hb, l0.out, l1.out, z0, z1, z2, t74.out, t77.out, t79.out, t81.out, t83.out⟩
          case measure => have := HJ.out; simp [intOf]; omega
        rw [hbd] at u2 BS
        obtain ⟨BA1, BA2⟩ := BA hbd
        have HK2 : Hid (kk + 1 = (badL (a0.take (j + 1))).length) := Lib.hid (by rw [BS, HK.out]; simp)
        rw [hBD.out, ← HK.out] at BA1 BA2
        clear BS hbd BA
        obtain ⟨b5, o5, rfl, hw5⟩ := words_at t74.out (by omega)
        have t0 := hw5 kk BA1
        rw [List.getElem?_eq_getElem BA1] at BA2
        rw [Option.some.inj BA2] at t0
        clear hw5 BA2
        have d6 : decide ((kk : Int) ≥ (BD.length : Int)) = false := decide_eq_false (by omega)
        have d7 : decide ((BD.length : Int) ≤ (kk : Int)) = false := decide_eq_false (by omega)
        have d8 : decide (BD.length ≤ kk) = false := decide_eq_false (by omega)
        have j7 : (0 : Int) ≤ (kk : Int) := by omega
        have j8 : (kk : Int) < (BD.length : Int) := by omega
        have j9 : kk ≤ 1000 := by have := BL.out; omega
        clear BA1
        go_wp2_with fail
        refine wp_region_noPanic ?_
        refine wp_region_held_drew (S := (fun w' => Below w.heap.size w w' ∧ Came w' (some ⟨b0, o0, none⟩) c0 a0 ∧ Came w' s1 c1 a1 ∧ w'.cell? ⟨b0, o0 + jx * 3, none⟩ = some (.string ⟨x.p.toArray⟩) ∧ w'.cell? ⟨b0, o0 + jx * 3 + 1, none⟩ = some (.int .u64 (x.n : Int)) ∧ w'.cell? ⟨b0, o0 + jx * 3 + 2, none⟩ = some (.bool x.bad) ∧ Words.Lies w' (some ⟨b5, o5, none⟩) BD.length BD ∧ Came w' z77 y77 J ∧ Came w' z79 y79 SL ∧ Came w' z81 y81 a0 ∧ Came w' z83 y83 DL ∧ w'.cell? ⟨b5, o5 + kk, none⟩ = some (.string ⟨m.p.toArray⟩) ∧ w'.cell? ⟨b0, o0 + j * 3, none⟩ = some (.string ⟨m.p.toArray⟩))) (by kernel_rfl) (⟨Below.drew hb, (l0.out).below (Below.drew (Below.refl _ _)), (l1.out).below (Below.drew (Below.refl _ _)), Beat.keepC z0 (Below.drew (Below.refl _ _)), Beat.keepC z1 (Below.drew (Below.refl _ _)), Beat.keepC z2 (Below.drew (Below.refl _ _)), (t74.out).below (Below.drew (Below.refl _ _)), (t77.out).below (Below.drew (Below.refl _ _)), (t79.out).below (Below.drew (Below.refl _ _)), (t81.out).below (Below.drew (Below.refl _ _)), (t83.out).below (Below.drew (Below.refl _ _)), Beat.keepC t0 (Below.drew (Below.refl _ _)), Beat.keepC u0 (Below.drew (Below.refl _ _))⟩) (fun hHeld => ?_)
        refine wpAnyH_take (i := 0) (v := ?_) (by simp only [List.getElem?_toArray, List.getElem?_cons_zero]; rfl) (by kernel_rfl) (by kernel_rfl) (by kernel_rfl) (fun _ _ _ h => h) (Or.inl ⟨by rfl, ?_⟩) (by assumption) ?_
        rotate_left
        · (intro w hSw; (try dsimp only at hSw); go_simp; try with_reducible rfl)
        try simp only [Act.put, List.setIfInBounds_toArray, List.set_cons_zero, List.set_cons_succ]
        refine wpAnyH_take (i := 1) (v := ?_) (by simp only [List.getElem?_toArray, List.getElem?_cons_succ, List.getElem?_cons_zero]; rfl) (by kernel_rfl) (by kernel_rfl) (by kernel_rfl) (fun _ _ _ h => h) (Or.inl ⟨by rfl, ?_⟩) (by assumption) ?_
        rotate_left
        · (intro w hSw; (try dsimp only at hSw); go_simp; try with_reducible rfl)
        try simp only [Act.put, List.setIfInBounds_toArray, List.set_cons_zero, List.set_cons_succ]
        refine wpAnyH_take (i := 2) (v := ?_) (by simp only [List.getElem?_toArray, List.getElem?_cons_succ, List.getElem?_cons_zero]; rfl) (by kernel_rfl) (by kernel_rfl) (by kernel_rfl) (fun _ _ _ h => h) (Or.inl ⟨by rfl, ?_⟩) (by assumption) ?_
        rotate_left
        · (intro w hSw; (try dsimp only at hSw); go_simp; try with_reducible rfl)
        try simp only [Act.put, List.setIfInBounds_toArray, List.set_cons_zero, List.set_cons_succ]
        refine wpAnyH_take (i := 3) (v := ?_) (by simp only [List.getElem?_toArray, List.getElem?_cons_succ, List.getElem?_cons_zero]; rfl) (by kernel_rfl) (by kernel_rfl) (by kernel_rfl) (fun _ _ _ h => h) (Or.inl ⟨by rfl, ?_⟩) (by assumption) ?_
        rotate_left
        · (intro w hSw; (try dsimp only at hSw); go_simp; try with_reducible rfl)
        try simp only [Act.put, List.setIfInBounds_toArray, List.set_cons_zero, List.set_cons_succ]
        refine wpAnyH_take (i := 4) (v := ?_) (by simp only [List.getElem?_toArray, List.getElem?_cons_succ, List.getElem?_cons_zero]; rfl) (by kernel_rfl) (by kernel_rfl) (by kernel_rfl) (fun _ _ _ h => h) (Or.inl ⟨by rfl, ?_⟩) (by assumption) ?_
        rotate_left
        · (intro w hSw; (try dsimp only at hSw); go_simp; try with_reducible rfl)
        try simp only [Act.put, List.setIfInBounds_toArray, List.set_cons_zero, List.set_cons_succ]
        refine wpAnyH_take (i := 5) (v := ?_) (by simp only [List.getElem?_toArray, List.getElem?_cons_succ, List.getElem?_cons_zero]; rfl) (by kernel_rfl) (by kernel_rfl) (by kernel_rfl) (fun _ _ _ h => h) (Or.inl ⟨by rfl, ?_⟩) (by assumption) ?_
        rotate_left
        · (intro w hSw; (try dsimp only at hSw); go_simp; try with_reducible rfl)
        try simp only [Act.put, List.setIfInBounds_toArray, List.set_cons_zero, List.set_cons_succ]
        refine wpAnyH_take (i := 6) (v := ?_) (by simp only [List.getElem?_toArray, List.getElem?_cons_succ, List.getElem?_cons_zero]; rfl) (by kernel_rfl) (by kernel_rfl) (by kernel_rfl) (fun _ _ _ h => h) (Or.inl ⟨by rfl, ?_⟩) (by assumption) ?_
        rotate_left
        · (intro w hSw; (try dsimp only at hSw); go_simp; try with_reducible rfl)
        try simp only [Act.put, List.setIfInBounds_toArray, List.set_cons_zero, List.set_cons_succ]
        refine wpAnyH_take (i := 7) (v := ?_) (by simp only [List.getElem?_toArray, List.getElem?_cons_succ, List.getElem?_cons_zero]; rfl) (by kernel_rfl) (by kernel_rfl) (by kernel_rfl) (fun _ _ _ h => h) (Or.inl ⟨by rfl, ?_⟩) (by assumption) ?_
        rotate_left
        · (intro w hSw; (try dsimp only at hSw); go_simp; try with_reducible rfl)
        try simp only [Act.put, List.setIfInBounds_toArray, List.set_cons_zero, List.set_cons_succ]
        refine wpAnyH_take (i := 8) (v := ?_) (by simp only [List.getElem?_toArray, List.getElem?_cons_succ, List.getElem?_cons_zero]; rfl) (by kernel_rfl) (by kernel_rfl) (by kernel_rfl) (fun _ _ _ h => h) (Or.inl ⟨by rfl, ?_⟩) (by assumption) ?_
        rotate_left
        · (intro w hSw; (try dsimp only at hSw); go_simp; try with_reducible rfl)
        try simp only [Act.put, List.setIfInBounds_toArray, List.set_cons_zero, List.set_cons_succ]
        refine wpAnyH_take (i := 9) (v := ?_) (by simp only [List.getElem?_toArray, List.getElem?_cons_succ, List.getElem?_cons_zero]; rfl) (by kernel_rfl) (by kernel_rfl) (by kernel_rfl) (fun _ _ _ h => h) (Or.inl ⟨by rfl, ?_⟩) (by assumption) ?_
        rotate_left
        · (intro w hSw; (try dsimp only at hSw); go_simp; try with_reducible rfl)
        try simp only [Act.put, List.setIfInBounds_toArray, List.set_cons_zero, List.set_cons_succ]
        refine wpAnyH_take (i := 10) (v := ?_) (by simp only [List.getElem?_toArray, List.getElem?_cons_succ, List.getElem?_cons_zero]; rfl) (by kernel_rfl) (by kernel_rfl) (by kernel_rfl) (fun _ _ _ h => h) (Or.inl ⟨by rfl, ?_⟩) (by assumption) ?_
        rotate_left
        · (intro w hSw; (try dsimp only at hSw); go_simp; try with_reducible rfl)
        try simp only [Act.put, List.setIfInBounds_toArray, List.set_cons_zero, List.set_cons_succ]
        refine wpAnyH_take (i := 11) (v := ?_) (by simp only [List.getElem?_toArray, List.getElem?_cons_succ, List.getElem?_cons_zero]; rfl) (by kernel_rfl) (by kernel_rfl) (by kernel_rfl) (fun _ _ _ h => h) (Or.inl ⟨by rfl, ?_⟩) (by assumption) ?_
        rotate_left
        · (intro w hSw; (try dsimp only at hSw); go_simp; try with_reducible rfl)
        try simp only [Act.put, List.setIfInBounds_toArray, List.set_cons_zero, List.set_cons_succ]
        refine wpAnyH_take (i := 12) (v := ?_) (by simp only [List.getElem?_toArray, List.getElem?_cons_succ, List.getElem?_cons_zero]; rfl) (by kernel_rfl) (by kernel_rfl) (by kernel_rfl) (fun _ _ _ h => h) (Or.inl ⟨by rfl, ?_⟩) (by assumption) ?_
        rotate_left
        · (intro w hSw; (try dsimp only at hSw); go_simp; try with_reducible rfl)
        try simp only [Act.put, List.setIfInBounds_toArray, List.set_cons_zero, List.set_cons_succ]
        refine wpAnyH_take (i := 13) (v := ?_) (by simp only [List.getElem?_toArray, List.getElem?_cons_succ, List.getElem?_cons_zero]; rfl) (by kernel_rfl) (by kernel_rfl) (by kernel_rfl) (fun _ _ _ h => h) (Or.inl ⟨by rfl, ?_⟩) (by assumption) ?_
        rotate_left
        · (intro w hSw; (try dsimp only at hSw); go_simp; try with_reducible rfl)
        try simp only [Act.put, List.setIfInBounds_toArray, List.set_cons_zero, List.set_cons_succ]
        refine wpAnyH_take (i := 14) (v := ?_) (by simp only [List.getElem?_toArray, List.getElem?_cons_succ, List.getElem?_cons_zero]; rfl) (by kernel_rfl) (by kernel_rfl) (by kernel_rfl) (fun _ _ _ h => h) (Or.inl ⟨by rfl, ?_⟩) (by assumption) ?_
        rotate_left
        · (intro w hSw; (try dsimp only at hSw); go_simp; try with_reducible rfl)
        try simp only [Act.put, List.setIfInBounds_toArray, List.set_cons_zero, List.set_cons_succ]
        refine wpAnyH_take (i := 15) (v := ?_) (by simp only [List.getElem?_toArray, List.getElem?_cons_succ, List.getElem?_cons_zero]; rfl) (by kernel_rfl) (by kernel_rfl) (by kernel_rfl) (fun _ _ _ h => h) (Or.inl ⟨by rfl, ?_⟩) (by assumption) ?_
        rotate_left
        · (intro w hSw; (try dsimp only at hSw); go_simp; try with_reducible rfl)
        try simp only [Act.put, List.setIfInBounds_toArray, List.set_cons_zero, List.set_cons_succ]
        refine wpAnyH_done (by kernel_rfl) ?_ _
        refine NoPanic.normal ?_
        clear hb l0 l1 z0 z1 z2 t74 t77 t79 t81 t83 t0 u0
        obtain ⟨hb, l0, l1, z0, z1, z2, t74, t77, t79, t81, t83, t0, u0⟩ := hHeld
        replace l0 := Lib.hid l0
        replace l1 := Lib.hid l1
        replace t74 := Lib.hid t74
        replace t77 := Lib.hid t77
        replace t79 := Lib.hid t79
        replace t81 := Lib.hid t81
        replace t83 := Lib.hid t83
        clear t0 u0
        go_wp2_with fail
        go_roundw
        case rel => exact ⟨j + 1, kk + 1, by have := HJ.out; omega, by go_num, by go_num, HK2, hb, l0.out, l1.out, z0, z1, z2, t74.out, t77.out, t79.out, t81.out, t83.out⟩
        case measure => have := HJ.out; simp [intOf]; omega
      obtain rfl : n0 = j := by omega
      have d5 : decide ((n0 : Int) < (n0 : Int)) = false := decide_eq_false (by omega)
      obtain rfl : BD.length = kk := by have h := HK.out; rw [List.take_of_length_le (by have := HN.out; omega), hBD.out] at h; exact h.symm
      clear HK hj hlt
      go_wp2_with fail
      refine (RJ.out J _ XRJ.out l0.out l1.out).mono ?_
      rintro e v147 ⟨z84, y84, rfl, t84, k147⟩
      replace l0 := Lib.hid ((l0.out).below k147)
      replace l1 := Lib.hid ((l1.out).below k147)
      replace z0 := (Beat.keepC z0 k147)
      replace z1 := (Beat.keepC z1 k147)
      replace z2 := (Beat.keepC z2 k147)
      replace t74 := Lib.hid ((t74.out).below k147)
      replace t77 := Lib.hid ((t77.out).below k147)
      replace t79 := Lib.hid ((t79.out).below k147)
      replace t81 := Lib.hid ((t81.out).below k147)
      replace t83 := Lib.hid ((t83.out).below k147)
      replace hb := bstep hb k147
      clear k147
      replace t84 := Lib.hid t84
      go_wp2_with fail
      refine (same_is t77.out.1 t84.out.1 NJ2.out).mono ?_
      rintro e v148 ⟨rfl, k148⟩
      replace l0 := Lib.hid ((l0.out).below k148)
      replace l1 := Lib.hid ((l1.out).below k148)
      replace z0 := (Beat.keepC z0 k148)
      replace z1 := (Beat.keepC z1 k148)
      replace z2 := (Beat.keepC z2 k148)
      replace t74 := Lib.hid ((t74.out).below k148)
      replace t77 := Lib.hid ((t77.out).below k148)
      replace t79 := Lib.hid ((t79.out).below k148)
      replace t81 := Lib.hid ((t81.out).below k148)
      replace t83 := Lib.hid ((t83.out).below k148)
      replace t84 := Lib.hid ((t84.out).below k148)
      replace hb := bstep hb k148
      clear k148
      clear t84 t77 t74
      go_wp2_with fail
      refine (DQ.out _).mono ?_
      rintro e v149 ⟨rfl, k149⟩
      replace l0 := Lib.hid ((l0.out).below k149)
      replace l1 := Lib.hid ((l1.out).below k149)
      replace z0 := (Beat.keepC z0 k149)
      replace z1 := (Beat.keepC z1 k149)
      replace z2 := (Beat.keepC z2 k149)
      replace t79 := Lib.hid ((t79.out).below k149)
      replace t81 := Lib.hid ((t81.out).below k149)
      replace t83 := Lib.hid ((t83.out).below k149)
      replace hb := bstep hb k149
      clear k149
      rw [MQ.out]
      go_wp2_with fail
      refine (PG.out ⟨q, x.n, true⟩ SL _ XP1.out l0.out).mono ?_
      rintro e v150 ⟨z85, y85, rfl, t85, k150⟩
      replace l0 := Lib.hid ((l0.out).below k150)
      replace l1 := Lib.hid ((l1.out).below k150)
      replace z0 := (Beat.keepC z0 k150)
      replace z1 := (Beat.keepC z1 k150)
      replace z2 := (Beat.keepC z2 k150)
      replace t79 := Lib.hid ((t79.out).below k150)
      replace t81 := Lib.hid ((t81.out).below k150)
      replace t83 := Lib.hid ((t83.out).below k150)
      replace hb := bstep hb k150
      clear k150
      replace t85 := Lib.hid t85
      rw [XBD.out] at z2
      go_wp2_with fail
      clear z0 z1 z2
      skip
      have hO2 := Row.Own.nil (E := enc) (te := 28) v150 v150.heap.size
      have hb2 := Below.refl v150.heap.size v150
      go_loopw [20, 21] (fun lv iv wr => ∃ j : Nat, j ≤ n0 ∧ iv = .int .i64 j ∧ Hid (Mine wr v150.heap.size lv (dropL (a0.take j) [q])) ∧ Below v150.heap.size v150 wr) (fun _ iv _ => n0 - (intOf iv).toNat)
      case atStart => exact ⟨0, by omega, rfl, Lib.hid hO2, hb2⟩
      case round =>
        clear hO2 hb2
        obtain ⟨j, hj, rfl, oO, kb⟩ := hrel
        by_cases hlt : j < n0
        · have hll : j < a0.length := by have := HN.out; omega
          obtain ⟨b4, o4, e4, hcell⟩ := lies_at (l0.out.below kb).1 (by omega)
          cases e4
          obtain ⟨u0, u1, u2⟩ := hcell j hll
          have DS := drop_go a0 q j hll
          have DN := dropL_length (a0.take j) [q]
          rw [List.length_take] at DN
          obtain ⟨m, hm⟩ : ∃ m, m = a0[j] := ⟨_, rfl⟩
          rw [← hm] at u0 u1 u2 DS
          have d5 : decide ((j : Int) < (n0 : Int)) = true := decide_eq_true (by omega)
          have j5 : (0 : Int) ≤ (j : Int) := by omega
          have j6 : (j : Int) < (n0 : Int) := by omega
          have HJ := Lib.hid (And.intro hlt DN)
          clear hcell hm hll hlt DN
          by_cases hpq : m.p = q
          · have e1 : (m.p == q) = true := by simp [hpq]
            have e2 : (m.p != q) = false := by simp [hpq]
            rw [if_pos hpq] at DS
            have HD := Lib.hid DS
            clear DS hpq
            go_wp2_with fail
            go_roundw
            case rel => exact ⟨j + 1, by have := HJ.out; omega, by go_num, Lib.hid (by rw [HD.out]; simpa using oO.out), kb⟩
            case measure => have := HJ.out.1; simp [intOf]; omega
          have e1 : (m.p == q) = false := by simp [hpq]
          have e2 : (m.p != q) = true := by simp [hpq]
          rw [if_neg hpq] at DS
          have HD := Lib.hid DS
          clear DS hpq
          go_wp2_with (at_builtin; refine Row.wpList_app typ rfl _ _ rfl v150.heap.size _ _ rfl (oO.out.alloc _) _ 1 1 [m] rfl (Row.lies_new' _ m _ rfl) (by have := HJ.out; omega) (by have := kb.size; simp only [World.size_alloc]; omega) ?_; intro v9 w9 o9 _ k9)
          go_roundw
          case rel => exact ⟨j + 1, by have := HJ.out; omega, by go_num, Lib.hid (by rw [HD.out]; exact o9), (balloc kb _).trans k9⟩
          case measure => have := HJ.out.1; simp [intOf]; omega
        obtain rfl : n0 = j := by omega
        have d5 : decide ((n0 : Int) < (n0 : Int)) = false := decide_eq_false (by omega)
        have oD := oO.out
        rw [List.take_of_length_le (by have := HN.out; omega), XD2.out] at oD
        obtain ⟨aD, cD, rfl, -, -, tD, -, -⟩ := oD.lies'
        replace tD := Lib.hid tD
        clear oO oD hj hlt
        replace l0 := Lib.hid ((l0.out).below kb)
        replace l1 := Lib.hid ((l1.out).below kb)
        replace t79 := Lib.hid ((t79.out).below kb)
        replace t81 := Lib.hid ((t81.out).below kb)
        replace t83 := Lib.hid ((t83.out).below kb)
        replace t85 := Lib.hid ((t85.out).below kb)
        replace hb := bstep hb kb
        clear kb
        go_wp2_with fail
        refine (same_is t79.out.1 t85.out.1 NS2.out).mono ?_
        rintro e v151 ⟨rfl, k151⟩
        replace l0 := Lib.hid ((l0.out).below k151)
        replace l1 := Lib.hid ((l1.out).below k151)
        replace t79 := Lib.hid ((t79.out).below k151)
        replace t81 := Lib.hid ((t81.out).below k151)
        replace t83 := Lib.hid ((t83.out).below k151)
        replace t85 := Lib.hid ((t85.out).below k151)
        replace tD := Lib.hid ((tD.out).below k151)
        replace hb := bstep hb k151
        clear k151
        go_wp2_with fail
        refine (SM.out _ _ _ t81.out.1 l0.out).mono ?_
        rintro e v152 ⟨rfl, k152⟩
        replace l0 := Lib.hid ((l0.out).below k152)
        replace l1 := Lib.hid ((l1.out).below k152)
        replace t79 := Lib.hid ((t79.out).below k152)
        replace t81 := Lib.hid ((t81.out).below k152)
        replace t83 := Lib.hid ((t83.out).below k152)
        replace t85 := Lib.hid ((t85.out).below k152)
        replace tD := Lib.hid ((tD.out).below k152)
        replace hb := bstep hb k152
        clear k152
        go_wp2_with fail
        refine (same_is t83.out.1 tD.out ND2.out).mono ?_
        rintro e v153 ⟨rfl, k153⟩
        replace l0 := Lib.hid ((l0.out).below k153)
        replace l1 := Lib.hid ((l1.out).below k153)
        replace t79 := Lib.hid ((t79.out).below k153)
        replace t81 := Lib.hid ((t81.out).below k153)
        replace t83 := Lib.hid ((t83.out).below k153)
        replace t85 := Lib.hid ((t85.out).below k153)
        replace tD := Lib.hid ((tD.out).below k153)
        replace hb := bstep hb k153
        clear k153
        go_wp2_with fail
        refine (works_any _).mono ?_
        rintro e v154 ⟨rfl, k154⟩
        replace l0 := Lib.hid ((l0.out).below k154)
        replace l1 := Lib.hid ((l1.out).below k154)
        replace t79 := Lib.hid ((t79.out).below k154)
        replace t81 := Lib.hid ((t81.out).below k154)
        replace t83 := Lib.hid ((t83.out).below k154)
        replace t85 := Lib.hid ((t85.out).below k154)
        replace tD := Lib.hid ((tD.out).below k154)
        replace hb := bstep hb k154
        clear k154
        go_wp2
        go_ret
        exact ⟨rfl, hb⟩
  obtain ⟨mx, hmx⟩ : ∃ mx, mx = x.n + 1 := ⟨_, rfl⟩
  have XP2 : Hid (putL a0 ⟨q, mx, false⟩ = RL) := Lib.hid (by rw [← hRL, XN, hbd, decide_eq_true hlt, hmx]; rfl)
  have dn : decide ((x.n : Int) < 281474976710656) = true := decide_eq_true (by omega)
  have wr0 : IntKind.u64.wrap ((x.n : Int) + 1) = (mx : Int) := by rw [IntKind.wrap_u64]; omega
  clear hbd hlt hmx hRL XN
  go_enter Try.func3, Try.ntmps3
  go_wp2_with fail
  refine (C0.out _ l0.out).mono ?_
  rintro e w155 ⟨rfl, rfl⟩
  rw [H0.out]
  go_wp2_with fail
  refine (C1.out _ l1.out).mono ?_
  rintro e w156 ⟨rfl, rfl⟩
  rw [H1.out]
  go_wp2_with fail
  refine (D0.out _ l0.out).mono ?_
  rintro e v157 ⟨rfl, k157⟩
  replace l0 := Lib.hid ((l0.out).below k157)
  replace l1 := Lib.hid ((l1.out).below k157)
  replace z0 := (Beat.keepC z0 k157)
  replace z1 := (Beat.keepC z1 k157)
  replace z2 := (Beat.keepC z2 k157)
  replace hb := bstep hb k157
  clear k157
  rw [M0.out]
  go_wp2_with fail
  refine (E0.out _ l0.out).mono ?_
  rintro e v158 ⟨z86, y86, rfl, t86, k158⟩
  replace l0 := Lib.hid ((l0.out).below k158)
  replace l1 := Lib.hid ((l1.out).below k158)
  replace z0 := (Beat.keepC z0 k158)
  replace z1 := (Beat.keepC z1 k158)
  replace z2 := (Beat.keepC z2 k158)
  replace hb := bstep hb k158
  clear k158
  replace t86 := Lib.hid t86
  go_wp2_with fail
  refine (may_any a0 _ _ _ t86.out.1 K0.out.2).mono ?_
  rintro e v159 ⟨rfl, k159⟩
  replace l0 := Lib.hid ((l0.out).below k159)
  replace l1 := Lib.hid ((l1.out).below k159)
  replace z0 := (Beat.keepC z0 k159)
  replace z1 := (Beat.keepC z1 k159)
  replace z2 := (Beat.keepC z2 k159)
  replace t86 := Lib.hid ((t86.out).below k159)
  replace hb := bstep hb k159
  clear k159
  rw [M0.out]
  clear t86
  go_wp2_with fail
  refine (E0.out _ l0.out).mono ?_
  rintro e v160 ⟨z87, y87, rfl, t87, k160⟩
  replace l0 := Lib.hid ((l0.out).below k160)
  replace l1 := Lib.hid ((l1.out).below k160)
  replace z0 := (Beat.keepC z0 k160)
  replace z1 := (Beat.keepC z1 k160)
  replace z2 := (Beat.keepC z2 k160)
  replace hb := bstep hb k160
  clear k160
  replace t87 := Lib.hid t87
  go_wp2_with fail
  refine (of_is XO.out XI.out t87.out K0.out.2 HQ2.out).mono ?_
  rintro e v161 ⟨rfl, k161⟩
  replace l0 := Lib.hid ((l0.out).below k161)
  replace l1 := Lib.hid ((l1.out).below k161)
  replace z0 := (Beat.keepC z0 k161)
  replace z1 := (Beat.keepC z1 k161)
  replace z2 := (Beat.keepC z2 k161)
  replace t87 := Lib.hid ((t87.out).below k161)
  replace hb := bstep hb k161
  clear k161
  clear t87
  have x0 : (v161.alloc (.cells #[.string ⟨x.p.toArray⟩, .int .u64 (x.n : Int), .bool x.bad] 28)).cell? ⟨v161.heap.size, 0, none⟩ = some (.string ⟨x.p.toArray⟩) := by rw [World.cell?_alloc_new]; rfl
  have x1 : (v161.alloc (.cells #[.string ⟨x.p.toArray⟩, .int .u64 (x.n : Int), .bool x.bad] 28)).cell? ⟨v161.heap.size, 1, none⟩ = some (.int .u64 (x.n : Int)) := by rw [World.cell?_alloc_new]; rfl
  have x2 : (v161.alloc (.cells #[.string ⟨x.p.toArray⟩, .int .u64 (x.n : Int), .bool x.bad] 28)).cell? ⟨v161.heap.size, 2, none⟩ = some (.bool x.bad) := by rw [World.cell?_alloc_new]; rfl
  go_wp2_with fail
  have hbx : Below v161.heap.size v161 (v161.alloc (.cells #[.string ⟨x.p.toArray⟩, .int .u64 (x.n : Int), .bool x.bad] 28)) := balloc (Below.refl _ _) _
  replace l0 := Lib.hid ((l0.out).below hbx)
  replace l1 := Lib.hid ((l1.out).below hbx)
  replace z0 := (Beat.keepC z0 hbx)
  replace z1 := (Beat.keepC z1 hbx)
  replace z2 := (Beat.keepC z2 hbx)
  replace hb := bstep hb hbx
  generalize v161.alloc _ = u0 at *
  generalize v161.heap.size = g0 at *
  clear hbx
  refine (E0.out _ l0.out).mono ?_
  rintro e v162 ⟨z88, y88, rfl, t88, k162⟩
  replace l0 := Lib.hid ((l0.out).below k162)
  replace l1 := Lib.hid ((l1.out).below k162)
  replace z0 := (Beat.keepC z0 k162)
  replace z1 := (Beat.keepC z1 k162)
  replace z2 := (Beat.keepC z2 k162)
  replace x0 := (Beat.keepC x0 k162)
  replace x1 := (Beat.keepC x1 k162)
  replace x2 := (Beat.keepC x2 k162)
  replace hb := bstep hb k162
  clear k162
  replace t88 := Lib.hid t88
  go_wp2_with fail
  refine (bad_got XB.out t88.out K0.out.2).mono ?_
  rintro e v163 ⟨z89, y89, rfl, t89, k163⟩
  replace l0 := Lib.hid ((l0.out).below k163)
  replace l1 := Lib.hid ((l1.out).below k163)
  replace z0 := (Beat.keepC z0 k163)
  replace z1 := (Beat.keepC z1 k163)
  replace z2 := (Beat.keepC z2 k163)
  replace x0 := (Beat.keepC x0 k163)
  replace x1 := (Beat.keepC x1 k163)
  replace x2 := (Beat.keepC x2 k163)
  replace t88 := Lib.hid ((t88.out).below k163)
  replace hb := bstep hb k163
  clear k163
  replace t89 := Lib.hid t89
  clear t88
  go_wp2_with fail
  refine (E0.out _ l0.out).mono ?_
  rintro e v164 ⟨z90, y90, rfl, t90, k164⟩
  replace l0 := Lib.hid ((l0.out).below k164)
  replace l1 := Lib.hid ((l1.out).below k164)
  replace z0 := (Beat.keepC z0 k164)
  replace z1 := (Beat.keepC z1 k164)
  replace z2 := (Beat.keepC z2 k164)
  replace x0 := (Beat.keepC x0 k164)
  replace x1 := (Beat.keepC x1 k164)
  replace x2 := (Beat.keepC x2 k164)
  replace t89 := Lib.hid ((t89.out).below k164)
  replace hb := bstep hb k164
  clear k164
  replace t90 := Lib.hid t90
  go_wp2_with fail
  refine (E1.out _ l1.out).mono ?_
  rintro e v165 ⟨z91, y91, rfl, t91, k165⟩
  replace l0 := Lib.hid ((l0.out).below k165)
  replace l1 := Lib.hid ((l1.out).below k165)
  replace z0 := (Beat.keepC z0 k165)
  replace z1 := (Beat.keepC z1 k165)
  replace z2 := (Beat.keepC z2 k165)
  replace x0 := (Beat.keepC x0 k165)
  replace x1 := (Beat.keepC x1 k165)
  replace x2 := (Beat.keepC x2 k165)
  replace t89 := Lib.hid ((t89.out).below k165)
  replace t90 := Lib.hid ((t90.out).below k165)
  replace hb := bstep hb k165
  clear k165
  replace t91 := Lib.hid t91
  go_wp2_with fail
  refine (join_got XJ.out t90.out t91.out K0.out.2 K1.out.2 NJ2.out).mono ?_
  rintro e v166 ⟨z92, y92, rfl, t92, k166⟩
  replace l0 := Lib.hid ((l0.out).below k166)
  replace l1 := Lib.hid ((l1.out).below k166)
  replace z0 := (Beat.keepC z0 k166)
  replace z1 := (Beat.keepC z1 k166)
  replace z2 := (Beat.keepC z2 k166)
  replace x0 := (Beat.keepC x0 k166)
  replace x1 := (Beat.keepC x1 k166)
  replace x2 := (Beat.keepC x2 k166)
  replace t89 := Lib.hid ((t89.out).below k166)
  replace t90 := Lib.hid ((t90.out).below k166)
  replace t91 := Lib.hid ((t91.out).below k166)
  replace hb := bstep hb k166
  clear k166
  replace t92 := Lib.hid t92
  clear t90 t91
  go_wp2_with fail
  refine (E0.out _ l0.out).mono ?_
  rintro e v167 ⟨z93, y93, rfl, t93, k167⟩
  replace l0 := Lib.hid ((l0.out).below k167)
  replace l1 := Lib.hid ((l1.out).below k167)
  replace z0 := (Beat.keepC z0 k167)
  replace z1 := (Beat.keepC z1 k167)
  replace z2 := (Beat.keepC z2 k167)
  replace x0 := (Beat.keepC x0 k167)
  replace x1 := (Beat.keepC x1 k167)
  replace x2 := (Beat.keepC x2 k167)
  replace t89 := Lib.hid ((t89.out).below k167)
  replace t92 := Lib.hid ((t92.out).below k167)
  replace hb := bstep hb k167
  clear k167
  replace t93 := Lib.hid t93
  go_wp2_with fail
  refine (sus_got XS.out t93.out K0.out.2 HQ2.out NS2.out).mono ?_
  rintro e v168 ⟨z94, y94, rfl, t94, k168⟩
  replace l0 := Lib.hid ((l0.out).below k168)
  replace l1 := Lib.hid ((l1.out).below k168)
  replace z0 := (Beat.keepC z0 k168)
  replace z1 := (Beat.keepC z1 k168)
  replace z2 := (Beat.keepC z2 k168)
  replace x0 := (Beat.keepC x0 k168)
  replace x1 := (Beat.keepC x1 k168)
  replace x2 := (Beat.keepC x2 k168)
  replace t89 := Lib.hid ((t89.out).below k168)
  replace t92 := Lib.hid ((t92.out).below k168)
  replace t93 := Lib.hid ((t93.out).below k168)
  replace hb := bstep hb k168
  clear k168
  replace t94 := Lib.hid t94
  clear t93
  go_wp2_with fail
  refine (E0.out _ l0.out).mono ?_
  rintro e v169 ⟨z95, y95, rfl, t95, k169⟩
  replace l0 := Lib.hid ((l0.out).below k169)
  replace l1 := Lib.hid ((l1.out).below k169)
  replace z0 := (Beat.keepC z0 k169)
  replace z1 := (Beat.keepC z1 k169)
  replace z2 := (Beat.keepC z2 k169)
  replace x0 := (Beat.keepC x0 k169)
  replace x1 := (Beat.keepC x1 k169)
  replace x2 := (Beat.keepC x2 k169)
  replace t89 := Lib.hid ((t89.out).below k169)
  replace t92 := Lib.hid ((t92.out).below k169)
  replace t94 := Lib.hid ((t94.out).below k169)
  replace hb := bstep hb k169
  clear k169
  replace t95 := Lib.hid t95
  go_wp2_with fail
  refine (ref_got XR.out t95.out K0.out.2 HQ2.out NR2.out).mono ?_
  rintro e v170 ⟨z96, y96, rfl, t96, k170⟩
  replace l0 := Lib.hid ((l0.out).below k170)
  replace l1 := Lib.hid ((l1.out).below k170)
  replace z0 := (Beat.keepC z0 k170)
  replace z1 := (Beat.keepC z1 k170)
  replace z2 := (Beat.keepC z2 k170)
  replace x0 := (Beat.keepC x0 k170)
  replace x1 := (Beat.keepC x1 k170)
  replace x2 := (Beat.keepC x2 k170)
  replace t89 := Lib.hid ((t89.out).below k170)
  replace t92 := Lib.hid ((t92.out).below k170)
  replace t94 := Lib.hid ((t94.out).below k170)
  replace t95 := Lib.hid ((t95.out).below k170)
  replace hb := bstep hb k170
  clear k170
  replace t96 := Lib.hid t96
  clear t95
  go_wp2_with fail
  refine (E0.out _ l0.out).mono ?_
  rintro e v171 ⟨z97, y97, rfl, t97, k171⟩
  replace l0 := Lib.hid ((l0.out).below k171)
  replace l1 := Lib.hid ((l1.out).below k171)
  replace z0 := (Beat.keepC z0 k171)
  replace z1 := (Beat.keepC z1 k171)
  replace z2 := (Beat.keepC z2 k171)
  replace x0 := (Beat.keepC x0 k171)
  replace x1 := (Beat.keepC x1 k171)
  replace x2 := (Beat.keepC x2 k171)
  replace t89 := Lib.hid ((t89.out).below k171)
  replace t92 := Lib.hid ((t92.out).below k171)
  replace t94 := Lib.hid ((t94.out).below k171)
  replace t96 := Lib.hid ((t96.out).below k171)
  replace hb := bstep hb k171
  clear k171
  replace t97 := Lib.hid t97
  go_wp2_with fail
  have hbx : Below v171.heap.size v171 (v171.alloc (.cells #[.string ⟨q.toArray⟩] 9)) := balloc (Below.refl _ _) _
  have lq := Row.lies_new (E := Words.enc) v171 q 9
  replace l0 := Lib.hid ((l0.out).below hbx)
  replace l1 := Lib.hid ((l1.out).below hbx)
  replace z0 := (Beat.keepC z0 hbx)
  replace z1 := (Beat.keepC z1 hbx)
  replace z2 := (Beat.keepC z2 hbx)
  replace x0 := (Beat.keepC x0 hbx)
  replace x1 := (Beat.keepC x1 hbx)
  replace x2 := (Beat.keepC x2 hbx)
  replace t89 := Lib.hid ((t89.out).below hbx)
  replace t92 := Lib.hid ((t92.out).below hbx)
  replace t94 := Lib.hid ((t94.out).below hbx)
  replace t96 := Lib.hid ((t96.out).below hbx)
  replace t97 := Lib.hid ((t97.out).below hbx)
  replace hb := bstep hb hbx
  clear hbx
  refine (drop_got (ps := [q]) XD.out t97.out lq K0.out.2 (fun p hp => by obtain rfl := List.mem_singleton.1 hp; exact HQ2.out) (by simp) ND2.out).mono ?_
  rintro e v172 ⟨z98, y98, rfl, t98, k172⟩
  replace l0 := Lib.hid ((l0.out).below k172)
  replace l1 := Lib.hid ((l1.out).below k172)
  replace z0 := (Beat.keepC z0 k172)
  replace z1 := (Beat.keepC z1 k172)
  replace z2 := (Beat.keepC z2 k172)
  replace x0 := (Beat.keepC x0 k172)
  replace x1 := (Beat.keepC x1 k172)
  replace x2 := (Beat.keepC x2 k172)
  replace t89 := Lib.hid ((t89.out).below k172)
  replace t92 := Lib.hid ((t92.out).below k172)
  replace t94 := Lib.hid ((t94.out).below k172)
  replace t96 := Lib.hid ((t96.out).below k172)
  replace t97 := Lib.hid ((t97.out).below k172)
  replace hb := bstep hb k172
  clear k172
  replace t98 := Lib.hid t98
  clear lq
  clear t97
  go_wp2_with fail
  refine (D1.out _ l1.out).mono ?_
  rintro e v173 ⟨rfl, k173⟩
  replace l0 := Lib.hid ((l0.out).below k173)
  replace l1 := Lib.hid ((l1.out).below k173)
  replace z0 := (Beat.keepC z0 k173)
  replace z1 := (Beat.keepC z1 k173)
  replace z2 := (Beat.keepC z2 k173)
  replace x0 := (Beat.keepC x0 k173)
  replace x1 := (Beat.keepC x1 k173)
  replace x2 := (Beat.keepC x2 k173)
  replace t89 := Lib.hid ((t89.out).below k173)
  replace t92 := Lib.hid ((t92.out).below k173)
  replace t94 := Lib.hid ((t94.out).below k173)
  replace t96 := Lib.hid ((t96.out).below k173)
  replace t98 := Lib.hid ((t98.out).below k173)
  replace hb := bstep hb k173
  clear k173
  rw [M1.out]
  go_wp2_with fail
  refine (AT.out _ l0.out).mono ?_
  rintro e w174 ⟨rfl, rfl⟩
  rw [HA.out]
  go_wp2_with fail
  refine wp_region_noPanic ?_
  refine wp_region_held_drew (S := (fun w' => Below w.heap.size w w' ∧ Came w' (some ⟨b0, o0, none⟩) c0 a0 ∧ Came w' s1 c1 a1 ∧ w'.cell? ⟨b0, o0 + jx * 3, none⟩ = some (.string ⟨x.p.toArray⟩) ∧ w'.cell? ⟨b0, o0 + jx * 3 + 1, none⟩ = some (.int .u64 (x.n : Int)) ∧ w'.cell? ⟨b0, o0 + jx * 3 + 2, none⟩ = some (.bool x.bad) ∧ w'.cell? ⟨g0, 0, none⟩ = some (.string ⟨x.p.toArray⟩) ∧ w'.cell? ⟨g0, 1, none⟩ = some (.int .u64 (x.n : Int)) ∧ w'.cell? ⟨g0, 2, none⟩ = some (.bool x.bad) ∧ Words.Lies w' z89 BD.length BD ∧ Came w' z92 y92 J ∧ Came w' z94 y94 SL ∧ Came w' z96 y96 RL ∧ Came w' z98 y98 DL)) (by kernel_rfl) (⟨Below.drew hb, (l0.out).below (Below.drew (Below.refl _ _)), (l1.out).below (Below.drew (Below.refl _ _)), Beat.keepC z0 (Below.drew (Below.refl _ _)), Beat.keepC z1 (Below.drew (Below.refl _ _)), Beat.keepC z2 (Below.drew (Below.refl _ _)), Beat.keepC x0 (Below.drew (Below.refl _ _)), Beat.keepC x1 (Below.drew (Below.refl _ _)), Beat.keepC x2 (Below.drew (Below.refl _ _)), (t89.out).below (Below.drew (Below.refl _ _)), (t92.out).below (Below.drew (Below.refl _ _)), (t94.out).below (Below.drew (Below.refl _ _)), (t96.out).below (Below.drew (Below.refl _ _)), (t98.out).below (Below.drew (Below.refl _ _))⟩) (fun hHeld => ?_)
  refine wpAnyH_take (i := 0) (v := ?_) (by simp only [List.getElem?_toArray, List.getElem?_cons_zero]; rfl) (by kernel_rfl) (by kernel_rfl) (by kernel_rfl) (fun _ _ _ h => h) (Or.inl ⟨by rfl, ?_⟩) (by assumption) ?_
  rotate_left
  · (intro w hSw; (try dsimp only at hSw); go_simp; try with_reducible rfl)
  try simp only [Act.put, List.setIfInBounds_toArray, List.set_cons_zero, List.set_cons_succ]
  refine wpAnyH_take (i := 1) (v := ?_) (by simp only [List.getElem?_toArray, List.getElem?_cons_succ, List.getElem?_cons_zero]; rfl) (by kernel_rfl) (by kernel_rfl) (by kernel_rfl) (fun _ _ _ h => h) (Or.inl ⟨by rfl, ?_⟩) (by assumption) ?_
  rotate_left
  · (intro w hSw; (try dsimp only at hSw); go_simp; try with_reducible rfl)
  try simp only [Act.put, List.setIfInBounds_toArray, List.set_cons_zero, List.set_cons_succ]
  refine wpAnyH_take (i := 2) (v := ?_) (by simp only [List.getElem?_toArray, List.getElem?_cons_succ, List.getElem?_cons_zero]; rfl) (by kernel_rfl) (by kernel_rfl) (by kernel_rfl) (fun _ _ _ h => h) (Or.inl ⟨by rfl, ?_⟩) (by assumption) ?_
  rotate_left
  · (intro w hSw; (try dsimp only at hSw); go_simp; try with_reducible rfl)
  try simp only [Act.put, List.setIfInBounds_toArray, List.set_cons_zero, List.set_cons_succ]
  refine wpAnyH_take (i := 3) (v := ?_) (by simp only [List.getElem?_toArray, List.getElem?_cons_succ, List.getElem?_cons_zero]; rfl) (by kernel_rfl) (by kernel_rfl) (by kernel_rfl) (fun _ _ _ h => h) (Or.inl ⟨by rfl, ?_⟩) (by assumption) ?_
  rotate_left
  · (intro w hSw; (try dsimp only at hSw); go_simp; try with_reducible rfl)
  try simp only [Act.put, List.setIfInBounds_toArray, List.set_cons_zero, List.set_cons_succ]
  refine wpAnyH_take (i := 4) (v := ?_) (by simp only [List.getElem?_toArray, List.getElem?_cons_succ, List.getElem?_cons_zero]; rfl) (by kernel_rfl) (by kernel_rfl) (by kernel_rfl) (fun _ _ _ h => h) (Or.inl ⟨by rfl, ?_⟩) (by assumption) ?_
  rotate_left
  · (intro w hSw; (try dsimp only at hSw); go_simp; try with_reducible rfl)
  try simp only [Act.put, List.setIfInBounds_toArray, List.set_cons_zero, List.set_cons_succ]
  refine wpAnyH_take (i := 5) (v := ?_) (by simp only [List.getElem?_toArray, List.getElem?_cons_succ, List.getElem?_cons_zero]; rfl) (by kernel_rfl) (by kernel_rfl) (by kernel_rfl) (fun _ _ _ h => h) (Or.inl ⟨by rfl, ?_⟩) (by assumption) ?_
  rotate_left
  · (intro w hSw; (try dsimp only at hSw); go_simp; try with_reducible rfl)
  try simp only [Act.put, List.setIfInBounds_toArray, List.set_cons_zero, List.set_cons_succ]
  refine wpAnyH_take (i := 6) (v := ?_) (by simp only [List.getElem?_toArray, List.getElem?_cons_succ, List.getElem?_cons_zero]; rfl) (by kernel_rfl) (by kernel_rfl) (by kernel_rfl) (fun _ _ _ h => h) (Or.inl ⟨by rfl, ?_⟩) (by assumption) ?_
  rotate_left
  · (intro w hSw; (try dsimp only at hSw); go_simp; try with_reducible rfl)
  try simp only [Act.put, List.setIfInBounds_toArray, List.set_cons_zero, List.set_cons_succ]
  refine wpAnyH_take (i := 7) (v := ?_) (by simp only [List.getElem?_toArray, List.getElem?_cons_succ, List.getElem?_cons_zero]; rfl) (by kernel_rfl) (by kernel_rfl) (by kernel_rfl) (fun _ _ _ h => h) (Or.inl ⟨by rfl, ?_⟩) (by assumption) ?_
  rotate_left
  · (intro w hSw; (try dsimp only at hSw); go_simp; try with_reducible rfl)
  try simp only [Act.put, List.setIfInBounds_toArray, List.set_cons_zero, List.set_cons_succ]
  refine wpAnyH_take (i := 8) (v := ?_) (by simp only [List.getElem?_toArray, List.getElem?_cons_succ, List.getElem?_cons_zero]; rfl) (by kernel_rfl) (by kernel_rfl) (by kernel_rfl) (fun _ _ _ h => h) (Or.inl ⟨by rfl, ?_⟩) (by assumption) ?_
  rotate_left
  · (intro w hSw; (try dsimp only at hSw); go_simp; try with_reducible rfl)
  try simp only [Act.put, List.setIfInBounds_toArray, List.set_cons_zero, List.set_cons_succ]
  refine wpAnyH_take (i := 9) (v := ?_) (by simp only [List.getElem?_toArray, List.getElem?_cons_succ, List.getElem?_cons_zero]; rfl) (by kernel_rfl) (by kernel_rfl) (by kernel_rfl) (fun _ _ _ h => h) (Or.inl ⟨by rfl, ?_⟩) (by assumption) ?_
  rotate_left
  · (intro w hSw; (try dsimp only at hSw); go_simp; try with_reducible rfl)
  try simp only [Act.put, List.setIfInBounds_toArray, List.set_cons_zero, List.set_cons_succ]
  refine wpAnyH_take (i := 10) (v := ?_) (by simp only [List.getElem?_toArray, List.getElem?_cons_succ, List.getElem?_cons_zero]; rfl) (by kernel_rfl) (by kernel_rfl) (by kernel_rfl) (fun _ _ _ h => h) (Or.inl ⟨by rfl, ?_⟩) (by assumption) ?_
  rotate_left
  · (intro w hSw; (try dsimp only at hSw); go_simp; try with_reducible rfl)
  try simp only [Act.put, List.setIfInBounds_toArray, List.set_cons_zero, List.set_cons_succ]
  refine wpAnyH_take (i := 11) (v := ?_) (by simp only [List.getElem?_toArray, List.getElem?_cons_succ, List.getElem?_cons_zero]; rfl) (by kernel_rfl) (by kernel_rfl) (by kernel_rfl) (fun _ _ _ h => h) (Or.inl ⟨by rfl, ?_⟩) (by assumption) ?_
  rotate_left
  · (intro w hSw; (try dsimp only at hSw); go_simp; try with_reducible rfl)
  try simp only [Act.put, List.setIfInBounds_toArray, List.set_cons_zero, List.set_cons_succ]
  refine wpAnyH_take (i := 12) (v := ?_) (by simp only [List.getElem?_toArray, List.getElem?_cons_succ, List.getElem?_cons_zero]; rfl) (by kernel_rfl) (by kernel_rfl) (by kernel_rfl) (fun _ _ _ h => h) (Or.inl ⟨by rfl, ?_⟩) (by assumption) ?_
  rotate_left
  · (intro w hSw; (try dsimp only at hSw); go_simp; try with_reducible rfl)
  try simp only [Act.put, List.setIfInBounds_toArray, List.set_cons_zero, List.set_cons_succ]
  refine wpAnyH_take (i := 13) (v := ?_) (by simp only [List.getElem?_toArray, List.getElem?_cons_succ, List.getElem?_cons_zero]; rfl) (by kernel_rfl) (by kernel_rfl) (by kernel_rfl) (fun _ _ _ h => h) (Or.inl ⟨by rfl, ?_⟩) (by assumption) ?_
  rotate_left
  · (intro w hSw; (try dsimp only at hSw); go_simp; try with_reducible rfl)
  try simp only [Act.put, List.setIfInBounds_toArray, List.set_cons_zero, List.set_cons_succ]
  refine wpAnyH_take (i := 14) (v := ?_) (by simp only [List.getElem?_toArray, List.getElem?_cons_succ, List.getElem?_cons_zero]; rfl) (by kernel_rfl) (by kernel_rfl) (by kernel_rfl) (fun _ _ _ h => h) (Or.inl ⟨by rfl, ?_⟩) (by assumption) ?_
  rotate_left
  · (intro w hSw; (try dsimp only at hSw); go_simp; try with_reducible rfl)
  try simp only [Act.put, List.setIfInBounds_toArray, List.set_cons_zero, List.set_cons_succ]
  refine wpAnyH_take (i := 15) (v := ?_) (by simp only [List.getElem?_toArray, List.getElem?_cons_succ, List.getElem?_cons_zero]; rfl) (by kernel_rfl) (by kernel_rfl) (by kernel_rfl) (fun _ _ _ h => h) (Or.inl ⟨by rfl, ?_⟩) (by assumption) ?_
  rotate_left
  · (intro w hSw; (try dsimp only at hSw); go_simp; try with_reducible rfl)
  try simp only [Act.put, List.setIfInBounds_toArray, List.set_cons_zero, List.set_cons_succ]
  refine wpAnyH_take (i := 16) (v := ?_) (by simp only [List.getElem?_toArray, List.getElem?_cons_succ, List.getElem?_cons_zero]; rfl) (by kernel_rfl) (by kernel_rfl) (by kernel_rfl) (fun _ _ _ h => h) (Or.inl ⟨by rfl, ?_⟩) (by assumption) ?_
  rotate_left
  · (intro w hSw; (try dsimp only at hSw); go_simp; try with_reducible rfl)
  try simp only [Act.put, List.setIfInBounds_toArray, List.set_cons_zero, List.set_cons_succ]
  refine wpAnyH_take (i := 17) (v := ?_) (by simp only [List.getElem?_toArray, List.getElem?_cons_succ, List.getElem?_cons_zero]; rfl) (by kernel_rfl) (by kernel_rfl) (by kernel_rfl) (fun _ _ _ h => h) (Or.inl ⟨by rfl, ?_⟩) (by assumption) ?_
  rotate_left
  · (intro w hSw; (try dsimp only at hSw); go_simp; try with_reducible rfl)
  try simp only [Act.put, List.setIfInBounds_toArray, List.set_cons_zero, List.set_cons_succ]
  refine wpAnyH_take (i := 18) (v := ?_) (by simp only [List.getElem?_toArray, List.getElem?_cons_succ, List.getElem?_cons_zero]; rfl) (by kernel_rfl) (by kernel_rfl) (by kernel_rfl) (fun _ _ _ h => h) (Or.inl ⟨by rfl, ?_⟩) (by assumption) ?_
  rotate_left
  · (intro w hSw; (try dsimp only at hSw); go_simp; try with_reducible rfl)
  try simp only [Act.put, List.setIfInBounds_toArray, List.set_cons_zero, List.set_cons_succ]
  refine wpAnyH_take (i := 19) (v := undef) (by simp only [List.getElem?_toArray, List.getElem?_cons_succ, List.getElem?_cons_zero]; rfl) (by kernel_rfl) (by kernel_rfl) (by kernel_rfl) (fun _ _ _ h => h) (Or.inr ⟨by rfl, rfl⟩) (by assumption) ?_
  try simp only [Act.put, List.setIfInBounds_toArray, List.set_cons_zero, List.set_cons_succ]
  refine wpAnyH_take (i := 20) (v := undef) (by simp only [List.getElem?_toArray, List.getElem?_cons_succ, List.getElem?_cons_zero]; rfl) (by kernel_rfl) (by kernel_rfl) (by kernel_rfl) (fun _ _ _ h => h) (Or.inr ⟨by rfl, rfl⟩) (by assumption) ?_
  try simp only [Act.put, List.setIfInBounds_toArray, List.set_cons_zero, List.set_cons_succ]
  refine wpAnyH_take (i := 21) (v := undef) (by simp only [List.getElem?_toArray, List.getElem?_cons_succ, List.getElem?_cons_zero]; rfl) (by kernel_rfl) (by kernel_rfl) (by kernel_rfl) (fun _ _ _ h => h) (Or.inr ⟨by rfl, rfl⟩) (by assumption) ?_
  try simp only [Act.put, List.setIfInBounds_toArray, List.set_cons_zero, List.set_cons_succ]
  refine wpAnyH_take (i := 22) (v := ?_) (by simp only [List.getElem?_toArray, List.getElem?_cons_succ, List.getElem?_cons_zero]; rfl) (by kernel_rfl) (by kernel_rfl) (by kernel_rfl) (fun _ _ _ h => h) (Or.inl ⟨by rfl, ?_⟩) (by assumption) ?_
  rotate_left
  · (intro w hSw; (try dsimp only at hSw); go_simp; try with_reducible rfl)
  try simp only [Act.put, List.setIfInBounds_toArray, List.set_cons_zero, List.set_cons_succ]
  refine wpAnyH_take (i := 23) (v := ?_) (by simp only [List.getElem?_toArray, List.getElem?_cons_succ, List.getElem?_cons_zero]; rfl) (by kernel_rfl) (by kernel_rfl) (by kernel_rfl) (fun _ _ _ h => h) (Or.inl ⟨by rfl, ?_⟩) (by assumption) ?_
  rotate_left
  · (intro w hSw; (try dsimp only at hSw); go_simp; try with_reducible rfl)
  try simp only [Act.put, List.setIfInBounds_toArray, List.set_cons_zero, List.set_cons_succ]
  refine wpAnyH_done (by kernel_rfl) ?_ _
  refine NoPanic.normal ?_
  clear hb l0 l1 z0 z1 z2 x0 x1 x2 t89 t92 t94 t96 t98
  obtain ⟨hb, l0, l1, z0, z1, z2, x0, x1, x2, t89, t92, t94, t96, t98⟩ := hHeld
  replace l0 := Lib.hid l0
  replace l1 := Lib.hid l1
  replace t89 := Lib.hid t89
  replace t92 := Lib.hid t92
  replace t94 := Lib.hid t94
  replace t96 := Lib.hid t96
  replace t98 := Lib.hid t98
  clear x0 x1 x2
  clear nq
  go_wp2_with fail
  go_loopw [16, 17] (fun kv iv wr => ∃ j kk : Nat, j ≤ n0 ∧ iv = .int .i64 j ∧ kv = .int .i64 kk ∧ Hid (kk = (badL (a0.take j)).length) ∧ Below w.heap.size w wr ∧ Came wr (some ⟨b0, o0, none⟩) c0 a0 ∧ Came wr s1 c1 a1 ∧ wr.cell? ⟨b0, o0 + jx * 3, none⟩ = some (.string ⟨x.p.toArray⟩) ∧ wr.cell? ⟨b0, o0 + jx * 3 + 1, none⟩ = some (.int .u64 (x.n : Int)) ∧ wr.cell? ⟨b0, o0 + jx * 3 + 2, none⟩ = some (.bool x.bad) ∧ Words.Lies wr z89 BD.length BD ∧ Came wr z92 y92 J ∧ Came wr z94 y94 SL ∧ Came wr z96 y96 RL ∧ Came wr z98 y98 DL) (fun kv iv _ => n0 - (intOf iv).toNat)
  case atStart => exact ⟨0, 0, by omega, rfl, rfl, Lib.hid rfl, hb, l0.out, l1.out, z0, z1, z2, t89.out, t92.out, t94.out, t96.out, t98.out⟩
  case round =>
    clear hb l0 l1 z0 z1 z2 t89 t92 t94 t96 t98
    obtain ⟨j, kk, hj, rfl, rfl, HK, hb, l0, l1, z0, z1, z2, t89, t92, t94, t96, t98⟩ := hrel
    replace l0 := Lib.hid l0
    replace l1 := Lib.hid l1
    replace t89 := Lib.hid t89
    replace t92 := Lib.hid t92
    replace t94 := Lib.hid t94
    replace t96 := Lib.hid t96
    replace t98 := Lib.hid t98
    by_cases hlt : j < n0
    · have hll : j < a0.length := by have := HN.out; omega
      obtain ⟨b4, o4, e4, hcell⟩ := lies_at l0.out.1 (by omega)
      cases e4
      obtain ⟨u0, -, u2⟩ := hcell j hll
      have BS := badL_step a0 j hll
      have BA := fun h => bad_at a0 j hll h
      obtain ⟨m, hm⟩ : ∃ m, m = a0[j] := ⟨_, rfl⟩
      rw [← hm] at u0 u2 BS BA
      have d5 : decide ((j : Int) < (n0 : Int)) = true := decide_eq_true (by omega)
      have j5 : (0 : Int) ≤ (j : Int) := by omega
      have j6 : (j : Int) < (n0 : Int) := by omega
      have HJ := Lib.hid hlt
      clear hcell hm hll hlt
      cases hbd : m.bad
      · rw [hbd] at u2 BS
        have HK2 : Hid (kk = (badL (a0.take (j + 1))).length) := Lib.hid (by rw [BS, HK.out]; simp)
        clear BS BA hbd u0
        go_wp2_with fail
        go_roundw
        case rel => exact ⟨j + 1, kk, by have := HJ.out; omega, by go_num, rfl, HK2, hb, l0.out, l1.out, z0, z1, z2, t89.out, t92.out, t94.out, t96.out, t98.out⟩
        case measure => have := HJ.out; simp [intOf]; omega
      rw [hbd] at u2 BS
      obtain ⟨BA1, BA2⟩ := BA hbd
      have HK2 : Hid (kk + 1 = (badL (a0.take (j + 1))).length) := Lib.hid (by rw [BS, HK.out]; simp)
      rw [hBD.out, ← HK.out] at BA1 BA2
      clear BS hbd BA
      obtain ⟨b5, o5, rfl, hw5⟩ := words_at t89.out (by omega)
      have t0 := hw5 kk BA1
      rw [List.getElem?_eq_getElem BA1] at BA2
      rw [Option.some.inj BA2] at t0
      clear hw5 BA2
      have d6 : decide ((kk : Int) ≥ (BD.length : Int)) = false := decide_eq_false (by omega)
      have d7 : decide ((BD.length : Int) ≤ (kk : Int)) = false := decide_eq_false (by omega)
      have d8 : decide (BD.length ≤ kk) = false := decide_eq_false (by omega)
      have j7 : (0 : Int) ≤ (kk : Int) := by omega
      have j8 : (kk : Int) < (BD.length : Int) := by omega
      have j9 : kk ≤ 1000 := by have := BL.out; omega
      clear BA1
      go_wp2_with fail
      refine wp_region_noPanic ?_
      refine wp_region_held_drew (S := (fun w' => Below w.heap.size w w' ∧ Came w' (some ⟨b0, o0, none⟩) c0 a0 ∧ Came w' s1 c1 a1 ∧ w'.cell? ⟨b0, o0 + jx * 3, none⟩ = some (.string ⟨x.p.toArray⟩) ∧ w'.cell? ⟨b0, o0 + jx * 3 + 1, none⟩ = some (.int .u64 (x.n : Int)) ∧ w'.cell? ⟨b0, o0 + jx * 3 + 2, none⟩ = some (.bool x.bad) ∧ Words.Lies w' (some ⟨b5, o5, none⟩) BD.length BD ∧ Came w' z92 y92 J ∧ Came w' z94 y94 SL ∧ Came w' z96 y96 RL ∧ Came w' z98 y98 DL ∧ w'.cell? ⟨b5, o5 + kk, none⟩ = some (.string ⟨m.p.toArray⟩) ∧ w'.cell? ⟨b0, o0 + j * 3, none⟩ = some (.string ⟨m.p.toArray⟩))) (by kernel_rfl) (⟨Below.drew hb, (l0.out).below (Below.drew (Below.refl _ _)), (l1.out).below (Below.drew (Below.refl _ _)), Beat.keepC z0 (Below.drew (Below.refl _ _)), Beat.keepC z1 (Below.drew (Below.refl _ _)), Beat.keepC z2 (Below.drew (Below.refl _ _)), (t89.out).below (Below.drew (Below.refl _ _)), (t92.out).below (Below.drew (Below.refl _ _)), (t94.out).below (Below.drew (Below.refl _ _)), (t96.out).below (Below.drew (Below.refl _ _)), (t98.out).below (Below.drew (Below.refl _ _)), Beat.keepC t0 (Below.drew (Below.refl _ _)), Beat.keepC u0 (Below.drew (Below.refl _ _))⟩) (fun hHeld => ?_)
      refine wpAnyH_take (i := 0) (v := ?_) (by simp only [List.getElem?_toArray, List.getElem?_cons_zero]; rfl) (by kernel_rfl) (by kernel_rfl) (by kernel_rfl) (fun _ _ _ h => h) (Or.inl ⟨by rfl, ?_⟩) (by assumption) ?_
      rotate_left
      · (intro w hSw; (try dsimp only at hSw); go_simp; try with_reducible rfl)
      try simp only [Act.put, List.setIfInBounds_toArray, List.set_cons_zero, List.set_cons_succ]
      refine wpAnyH_take (i := 1) (v := ?_) (by simp only [List.getElem?_toArray, List.getElem?_cons_succ, List.getElem?_cons_zero]; rfl) (by kernel_rfl) (by kernel_rfl) (by kernel_rfl) (fun _ _ _ h => h) (Or.inl ⟨by rfl, ?_⟩) (by assumption) ?_
      rotate_left
      · (intro w hSw; (try dsimp only at hSw); go_simp; try with_reducible rfl)
      try simp only [Act.put, List.setIfInBounds_toArray, List.set_cons_zero, List.set_cons_succ]
      refine wpAnyH_take (i := 2) (v := ?_) (by simp only [List.getElem?_toArray, List.getElem?_cons_succ, List.getElem?_cons_zero]; rfl) (by kernel_rfl) (by kernel_rfl) (by kernel_rfl) (fun _ _ _ h => h) (Or.inl ⟨by rfl, ?_⟩) (by assumption) ?_
      rotate_left
      · (intro w hSw; (try dsimp only at hSw); go_simp; try with_reducible rfl)
      try simp only [Act.put, List.setIfInBounds_toArray, List.set_cons_zero, List.set_cons_succ]
      refine wpAnyH_take (i := 3) (v := ?_) (by simp only [List.getElem?_toArray, List.getElem?_cons_succ, List.getElem?_cons_zero]; rfl) (by kernel_rfl) (by kernel_rfl) (by kernel_rfl) (fun _ _ _ h => h) (Or.inl ⟨by rfl, ?_⟩) (by assumption) ?_
      rotate_left
      · (intro w hSw; (try dsimp only at hSw); go_simp; try with_reducible rfl)
      try simp only [Act.put, List.setIfInBounds_toArray, List.set_cons_zero, List.set_cons_succ]
      refine wpAnyH_take (i := 4) (v := ?_) (by simp only [List.getElem?_toArray, List.getElem?_cons_succ, List.getElem?_cons_zero]; rfl) (by kernel_rfl) (by kernel_rfl) (by kernel_rfl) (fun _ _ _ h => h) (Or.inl ⟨by rfl, ?_⟩) (by assumption) ?_
      rotate_left
      · (intro w hSw; (try dsimp only at hSw); go_simp; try with_reducible rfl)
      try simp only [Act.put, List.setIfInBounds_toArray, List.set_cons_zero, List.set_cons_succ]
      refine wpAnyH_take (i := 5) (v := ?_) (by simp only [List.getElem?_toArray, List.getElem?_cons_succ, List.getElem?_cons_zero]; rfl) (by kernel_rfl) (by kernel_rfl) (by kernel_rfl) (fun _ _ _ h => h) (Or.inl ⟨by rfl, ?_⟩) (by assumption) ?_
      rotate_left
      · (intro w hSw; (try dsimp only at hSw); go_simp; try with_reducible rfl)
      try simp only [Act.put, List.setIfInBounds_toArray, List.set_cons_zero, List.set_cons_succ]
      refine wpAnyH_take (i := 6) (v := ?_) (by simp only [List.getElem?_toArray, List.getElem?_cons_succ, List.getElem?_cons_zero]; rfl) (by kernel_rfl) (by kernel_rfl) (by kernel_rfl) (fun _ _ _ h => h) (Or.inl ⟨by rfl, ?_⟩) (by assumption) ?_
      rotate_left
      · (intro w hSw; (try dsimp only at hSw); go_simp; try with_reducible rfl)
      try simp only [Act.put, List.setIfInBounds_toArray, List.set_cons_zero, List.set_cons_succ]
      refine wpAnyH_take (i := 7) (v := ?_) (by simp only [List.getElem?_toArray, List.getElem?_cons_succ, List.getElem?_cons_zero]; rfl) (by kernel_rfl) (by kernel_rfl) (by kernel_rfl) (fun _ _ _ h => h) (Or.inl ⟨by rfl, ?_⟩) (by assumption) ?_
      rotate_left
      · (intro w hSw; (try dsimp only at hSw); go_simp; try with_reducible rfl)
      try simp only [Act.put, List.setIfInBounds_toArray, List.set_cons_zero, List.set_cons_succ]
      refine wpAnyH_take (i := 8) (v := ?_) (by simp only [List.getElem?_toArray, List.getElem?_cons_succ, List.getElem?_cons_zero]; rfl) (by kernel_rfl) (by kernel_rfl) (by kernel_rfl) (fun _ _ _ h => h) (Or.inl ⟨by rfl, ?_⟩) (by assumption) ?_
      rotate_left
      · (intro w hSw; (try dsimp only at hSw); go_simp; try with_reducible rfl)
      try simp only [Act.put, List.setIfInBounds_toArray, List.set_cons_zero, List.set_cons_succ]
      refine wpAnyH_take (i := 9) (v := ?_) (by simp only [List.getElem?_toArray, List.getElem?_cons_succ, List.getElem?_cons_zero]; rfl) (by kernel_rfl) (by kernel_rfl) (by kernel_rfl) (fun _ _ _ h => h) (Or.inl ⟨by rfl, ?_⟩) (by assumption) ?_
      rotate_left
      · (intro w hSw; (try dsimp only at hSw); go_simp; try with_reducible rfl)
      try simp only [Act.put, List.setIfInBounds_toArray, List.set_cons_zero, List.set_cons_succ]
      refine wpAnyH_take (i := 10) (v := ?_) (by simp only [List.getElem?_toArray, List.getElem?_cons_succ, List.getElem?_cons_zero]; rfl) (by kernel_rfl) (by kernel_rfl) (by kernel_rfl) (fun _ _ _ h => h) (Or.inl ⟨by rfl, ?_⟩) (by assumption) ?_
      rotate_left
      · (intro w hSw; (try dsimp only at hSw); go_simp; try with_reducible rfl)
      try simp only [Act.put, List.setIfInBounds_toArray, List.set_cons_zero, List.set_cons_succ]
      refine wpAnyH_take (i := 11) (v := ?_) (by simp only [List.getElem?_toArray, List.getElem?_cons_succ, List.getElem?_cons_zero]; rfl) (by kernel_rfl) (by kernel_rfl) (by kernel_rfl) (fun _ _ _ h => h) (Or.inl ⟨by rfl, ?_⟩) (by assumption) ?_
      rotate_left
      · (intro w hSw; (try dsimp only at hSw); go_simp; try with_reducible rfl)
      try simp only [Act.put, List.setIfInBounds_toArray, List.set_cons_zero, List.set_cons_succ]
      refine wpAnyH_take (i := 12) (v := ?_) (by simp only [List.getElem?_toArray, List.getElem?_cons_succ, List.getElem?_cons_zero]; rfl) (by kernel_rfl) (by kernel_rfl) (by kernel_rfl) (fun _ _ _ h => h) (Or.inl ⟨by rfl, ?_⟩) (by assumption) ?_
      rotate_left
      · (intro w hSw; (try dsimp only at hSw); go_simp; try with_reducible rfl)
      try simp only [Act.put, List.setIfInBounds_toArray, List.set_cons_zero, List.set_cons_succ]
      refine wpAnyH_take (i := 13) (v := ?_) (by simp only [List.getElem?_toArray, List.getElem?_cons_succ, List.getElem?_cons_zero]; rfl) (by kernel_rfl) (by kernel_rfl) (by kernel_rfl) (fun _ _ _ h => h) (Or.inl ⟨by rfl, ?_⟩) (by assumption) ?_
      rotate_left
      · (intro w hSw; (try dsimp only at hSw); go_simp; try with_reducible rfl)
      try simp only [Act.put, List.setIfInBounds_toArray, List.set_cons_zero, List.set_cons_succ]
      refine wpAnyH_take (i := 14) (v := ?_) (by simp only [List.getElem?_toArray, List.getElem?_cons_succ, List.getElem?_cons_zero]; rfl) (by kernel_rfl) (by kernel_rfl) (by kernel_rfl) (fun _ _ _ h => h) (Or.inl ⟨by rfl, ?_⟩) (by assumption) ?_
      rotate_left
      · (intro w hSw; (try dsimp only at hSw); go_simp; try with_reducible rfl)
      try simp only [Act.put, List.setIfInBounds_toArray, List.set_cons_zero, List.set_cons_succ]
      refine wpAnyH_take (i := 15) (v := ?_) (by simp only [List.getElem?_toArray, List.getElem?_cons_succ, List.getElem?_cons_zero]; rfl) (by kernel_rfl) (by kernel_rfl) (by kernel_rfl) (fun _ _ _ h => h) (Or.inl ⟨by rfl, ?_⟩) (by assumption) ?_
      rotate_left
      · (intro w hSw; (try dsimp only at hSw); go_simp; try with_reducible rfl)
      try simp only [Act.put, List.setIfInBounds_toArray, List.set_cons_zero, List.set_cons_succ]
      refine wpAnyH_done (by kernel_rfl) ?_ _
      refine NoPanic.normal ?_
      clear hb l0 l1 z0 z1 z2 t89 t92 t94 t96 t98 t0 u0
      obtain ⟨hb, l0, l1, z0, z1, z2, t89, t92, t94, t96, t98, t0, u0⟩ := hHeld
      replace l0 := Lib.hid l0
      replace l1 := Lib.hid l1
      replace t89 := Lib.hid t89
      replace t92 := Lib.hid t92
      replace t94 := Lib.hid t94
      replace t96 := Lib.hid t96
      replace t98 := Lib.hid t98
      clear t0 u0
      go_wp2_with fail
      go_roundw
      case rel => exact ⟨j + 1, kk + 1, by have := HJ.out; omega, by go_num, by go_num, HK2, hb, l0.out, l1.out, z0, z1, z2, t89.out, t92.out, t94.out, t96.out, t98.out⟩
      case measure => have := HJ.out; simp [intOf]; omega
    obtain rfl : n0 = j := by omega
    have d5 : decide ((n0 : Int) < (n0 : Int)) = false := decide_eq_false (by omega)
    obtain rfl : BD.length = kk := by have h := HK.out; rw [List.take_of_length_le (by have := HN.out; omega), hBD.out] at h; exact h.symm
    clear HK hj hlt
    go_wp2_with fail
    refine (RJ.out J _ XRJ.out l0.out l1.out).mono ?_
    rintro e v175 ⟨z99, y99, rfl, t99, k175⟩
    replace l0 := Lib.hid ((l0.out).below k175)
    replace l1 := Lib.hid ((l1.out).below k175)
    replace z0 := (Beat.keepC z0 k175)
    replace z1 := (Beat.keepC z1 k175)
    replace z2 := (Beat.keepC z2 k175)
    replace t89 := Lib.hid ((t89.out).below k175)
    replace t92 := Lib.hid ((t92.out).below k175)
    replace t94 := Lib.hid ((t94.out).below k175)
    replace t96 := Lib.hid ((t96.out).below k175)
    replace t98 := Lib.hid ((t98.out).below k175)
    replace hb := bstep hb k175
    clear k175
    replace t99 := Lib.hid t99
    go_wp2_with fail
    refine (same_is t92.out.1 t99.out.1 NJ2.out).mono ?_
    rintro e v176 ⟨rfl, k176⟩
    replace l0 := Lib.hid ((l0.out).below k176)
    replace l1 := Lib.hid ((l1.out).below k176)
    replace z0 := (Beat.keepC z0 k176)
    replace z1 := (Beat.keepC z1 k176)
    replace z2 := (Beat.keepC z2 k176)
    replace t89 := Lib.hid ((t89.out).below k176)
    replace t92 := Lib.hid ((t92.out).below k176)
    replace t94 := Lib.hid ((t94.out).below k176)
    replace t96 := Lib.hid ((t96.out).below k176)
    replace t98 := Lib.hid ((t98.out).below k176)
    replace t99 := Lib.hid ((t99.out).below k176)
    replace hb := bstep hb k176
    clear k176
    clear t99 t92 t89
    go_wp2_with fail
    refine (DQ.out _).mono ?_
    rintro e v177 ⟨rfl, k177⟩
    replace l0 := Lib.hid ((l0.out).below k177)
    replace l1 := Lib.hid ((l1.out).below k177)
    replace z0 := (Beat.keepC z0 k177)
    replace z1 := (Beat.keepC z1 k177)
    replace z2 := (Beat.keepC z2 k177)
    replace t94 := Lib.hid ((t94.out).below k177)
    replace t96 := Lib.hid ((t96.out).below k177)
    replace t98 := Lib.hid ((t98.out).below k177)
    replace hb := bstep hb k177
    clear k177
    rw [MQ.out]
    go_wp2_with fail
    refine (PG.out ⟨q, x.n, true⟩ SL _ XP1.out l0.out).mono ?_
    rintro e v178 ⟨z100, y100, rfl, t100, k178⟩
    replace l0 := Lib.hid ((l0.out).below k178)
    replace l1 := Lib.hid ((l1.out).below k178)
    replace z0 := (Beat.keepC z0 k178)
    replace z1 := (Beat.keepC z1 k178)
    replace z2 := (Beat.keepC z2 k178)
    replace t94 := Lib.hid ((t94.out).below k178)
    replace t96 := Lib.hid ((t96.out).below k178)
    replace t98 := Lib.hid ((t98.out).below k178)
    replace hb := bstep hb k178
    clear k178
    replace t100 := Lib.hid t100
    rw [XBD.out] at z2
    go_wp2_with fail
    refine (PG.out ⟨q, mx, false⟩ RL _ XP2.out l0.out).mono ?_
    rintro e v179 ⟨z101, y101, rfl, t101, k179⟩
    replace l0 := Lib.hid ((l0.out).below k179)
    replace l1 := Lib.hid ((l1.out).below k179)
    replace z0 := (Beat.keepC z0 k179)
    replace z1 := (Beat.keepC z1 k179)
    replace z2 := (Beat.keepC z2 k179)
    replace t94 := Lib.hid ((t94.out).below k179)
    replace t96 := Lib.hid ((t96.out).below k179)
    replace t98 := Lib.hid ((t98.out).below k179)
    replace t100 := Lib.hid ((t100.out).below k179)
    replace hb := bstep hb k179
    clear k179
    replace t101 := Lib.hid t101
    clear z0 z1 z2
    go_wp2_with fail
    have hO2 := Row.Own.nil (E := enc) (te := 28) v179 v179.heap.size
    have hb2 := Below.refl v179.heap.size v179
    go_loopw [20, 21] (fun lv iv wr => ∃ j : Nat, j ≤ n0 ∧ iv = .int .i64 j ∧ Hid (Mine wr v179.heap.size lv (dropL (a0.take j) [q])) ∧ Below v179.heap.size v179 wr) (fun _ iv _ => n0 - (intOf iv).toNat)
    case atStart => exact ⟨0, by omega, rfl, Lib.hid hO2, hb2⟩
    case round =>
      clear hO2 hb2
      obtain ⟨j, hj, rfl, oO, kb⟩ := hrel
      by_cases hlt : j < n0
      · have hll : j < a0.length := by have := HN.out; omega
        obtain ⟨b4, o4, e4, hcell⟩ := lies_at (l0.out.below kb).1 (by omega)
        cases e4
        obtain ⟨u0, u1, u2⟩ := hcell j hll
        have DS := drop_go a0 q j hll
        have DN := dropL_length (a0.take j) [q]
        rw [List.length_take] at DN
        obtain ⟨m, hm⟩ : ∃ m, m = a0[j] := ⟨_, rfl⟩
        rw [← hm] at u0 u1 u2 DS
        have d5 : decide ((j : Int) < (n0 : Int)) = true := decide_eq_true (by omega)
        have j5 : (0 : Int) ≤ (j : Int) := by omega
        have j6 : (j : Int) < (n0 : Int) := by omega
        have HJ := Lib.hid (And.intro hlt DN)
        clear hcell hm hll hlt DN
        by_cases hpq : m.p = q
        · have e1 : (m.p == q) = true := by simp [hpq]
          have e2 : (m.p != q) = false := by simp [hpq]
          rw [if_pos hpq] at DS
          have HD := Lib.hid DS
          clear DS hpq
          go_wp2_with fail
          go_roundw
          case rel => exact ⟨j + 1, by have := HJ.out; omega, by go_num, Lib.hid (by rw [HD.out]; simpa using oO.out), kb⟩
          case measure => have := HJ.out.1; simp [intOf]; omega
        have e1 : (m.p == q) = false := by simp [hpq]
        have e2 : (m.p != q) = true := by simp [hpq]
        rw [if_neg hpq] at DS
        have HD := Lib.hid DS
        clear DS hpq
        go_wp2_with (at_builtin; refine Row.wpList_app typ rfl _ _ rfl v179.heap.size _ _ rfl (oO.out.alloc _) _ 1 1 [m] rfl (Row.lies_new' _ m _ rfl) (by have := HJ.out; omega) (by have := kb.size; simp only [World.size_alloc]; omega) ?_; intro v9 w9 o9 _ k9)
        go_roundw
        case rel => exact ⟨j + 1, by have := HJ.out; omega, by go_num, Lib.hid (by rw [HD.out]; exact o9), (balloc kb _).trans k9⟩
        case measure => have := HJ.out.1; simp [intOf]; omega
      obtain rfl : n0 = j := by omega
      have d5 : decide ((n0 : Int) < (n0 : Int)) = false := decide_eq_false (by omega)
      have oD := oO.out
      rw [List.take_of_length_le (by have := HN.out; omega), XD2.out] at oD
      obtain ⟨aD, cD, rfl, -, -, tD, -, -⟩ := oD.lies'
      replace tD := Lib.hid tD
      clear oO oD hj hlt
      replace l0 := Lib.hid ((l0.out).below kb)
      replace l1 := Lib.hid ((l1.out).below kb)
      replace t94 := Lib.hid ((t94.out).below kb)
      replace t96 := Lib.hid ((t96.out).below kb)
      replace t98 := Lib.hid ((t98.out).below kb)
      replace t100 := Lib.hid ((t100.out).below kb)
      replace t101 := Lib.hid ((t101.out).below kb)
      replace hb := bstep hb kb
      clear kb
      go_wp2_with fail
      refine (same_is t94.out.1 t100.out.1 NS2.out).mono ?_
      rintro e v180 ⟨rfl, k180⟩
      replace l0 := Lib.hid ((l0.out).below k180)
      replace l1 := Lib.hid ((l1.out).below k180)
      replace t94 := Lib.hid ((t94.out).below k180)
      replace t96 := Lib.hid ((t96.out).below k180)
      replace t98 := Lib.hid ((t98.out).below k180)
      replace t100 := Lib.hid ((t100.out).below k180)
      replace t101 := Lib.hid ((t101.out).below k180)
      replace tD := Lib.hid ((tD.out).below k180)
      replace hb := bstep hb k180
      clear k180
      go_wp2_with fail
      refine (same_is t96.out.1 t101.out.1 NR2.out).mono ?_
      rintro e v181 ⟨rfl, k181⟩
      replace l0 := Lib.hid ((l0.out).below k181)
      replace l1 := Lib.hid ((l1.out).below k181)
      replace t94 := Lib.hid ((t94.out).below k181)
      replace t96 := Lib.hid ((t96.out).below k181)
      replace t98 := Lib.hid ((t98.out).below k181)
      replace t100 := Lib.hid ((t100.out).below k181)
      replace t101 := Lib.hid ((t101.out).below k181)
      replace tD := Lib.hid ((tD.out).below k181)
      replace hb := bstep hb k181
      clear k181
      go_wp2_with fail
      refine (same_is t98.out.1 tD.out ND2.out).mono ?_
      rintro e v182 ⟨rfl, k182⟩
      replace l0 := Lib.hid ((l0.out).below k182)
      replace l1 := Lib.hid ((l1.out).below k182)
      replace t94 := Lib.hid ((t94.out).below k182)
      replace t96 := Lib.hid ((t96.out).below k182)
      replace t98 := Lib.hid ((t98.out).below k182)
      replace t100 := Lib.hid ((t100.out).below k182)
      replace t101 := Lib.hid ((t101.out).below k182)
      replace tD := Lib.hid ((tD.out).below k182)
      replace hb := bstep hb k182
      clear k182
      go_wp2_with fail
      refine (works_any _).mono ?_
      rintro e v183 ⟨rfl, k183⟩
      replace l0 := Lib.hid ((l0.out).below k183)
      replace l1 := Lib.hid ((l1.out).below k183)
      replace t94 := Lib.hid ((t94.out).below k183)
      replace t96 := Lib.hid ((t96.out).below k183)
      replace t98 := Lib.hid ((t98.out).below k183)
      replace t100 := Lib.hid ((t100.out).below k183)
      replace t101 := Lib.hid ((t101.out).below k183)
      replace tD := Lib.hid ((tD.out).below k183)
      replace hb := bstep hb k183
      clear k183
      go_wp2
      go_ret
      exact ⟨rfl, hb⟩
end HealthTells
end Go.Proofs.Ytfdcmmafdgagoaa
