
/- the reference of dots: Join, Covers. -/
import Derived.Test.YtcbnkncgacbniaaRefDotDrop
import Derived.Laws.OwnMore
namespace Go.Proofs.Ytcbnkncgacbniaa
namespace RefDots
open Go.RowKit Go.Proofs.Ytcbnkncgacbniaa.Mark Go.Proofs.Ytcbnkncgacbniaa.Dots

/-- Marks that lie anywhere, appended to a call's own row. -/
theorem wpList_app {ops : Array Oper} {rest : List Oper} {o : Oper} {a : Act} {w : World} {Q : Exit → Act → World → Prop} (hgd : o.guard = none) (s x : Operand)
    (ho : o.op = .call { callee := .builtin .append, args := #[s, x], argTypes := #[25, 25] }) (B : Nat) (v : Value) (L : List M) (hs : a.eval s = v) (hown : Mark.Own w B v L)
    (ax : Option Addr) (nx cx : Nat) (K : List M) (hx : a.eval x = .slice ax nx cx) (hK : Lies w ax nx K)
    (hlen : L.length + nx ≤ 4398046511104) (hbase : B ≤ w.heap.size)
    (h : ∀ v' w', Mark.Own w' B v' (L ++ K) → Below B w w' → wpList Try.prog ops Q rest (a.put o.dst v') w') : wpList Try.prog ops Q (o :: rest) a w := by
  obtain ⟨i0, hi, hz0, hz1, hz2⟩ := info_parts info_mark
  cases ax with
  | none =>
    have hn0 : nx = 0 := by
      rcases Nat.eq_zero_or_pos nx with h | h
      · exact h
      · obtain ⟨_, _, e, _⟩ := hK.2 h; cases e
    have hl0 : K = [] := List.length_eq_zero_iff.1 (by rw [← hK.1]; exact hn0)
    subst hl0
    subst hn0
    refine wpList_plain hgd fun k hk => ?_
    have hrun : (Builtin.append_ #[25, 25] o.type #[v, .slice none 0 cx]).run Try.prog w = .ok v w := by
      rcases hown.2 with ⟨rfl, _⟩ | ⟨g, cap, cur, rfl, _, _, hnc, _⟩
      · simp [Builtin.append_, run_underlying Try.underlying25, sizeOf, typeInfo, hi, Builtin.lenOf, Builtin.firstCells]
      · simp [Builtin.append_, run_underlying Try.underlying25, sizeOf, typeInfo, hi, Builtin.lenOf, Builtin.firstCells, hnc, storeCells]
    unfold Oper.wp
    simp [execOp, ho, resolve, invoke, builtin, hs, hx, hrun, Result.andThen]
    exact hk _ _ (h v w (by rw [List.append_nil]; exact hown) (Below.refl _ _))
  | some q =>
    have hnews : ∀ j u, (flat K)[j]? = some u → w.cell? (q.add j) = some u := fun j u hu => by
      have hj : j < K.length * 2 := by rw [← flat_length]; exact (List.getElem?_eq_some_iff.1 hu).1
      obtain ⟨b, off, e, _⟩ := hK.2 (by rw [hK.1]; omega)
      obtain rfl : q = ⟨b, off, none⟩ := Option.some.inj e
      exact hK.at j u hu
    refine wpList_append_own w hgd s x 25 ho B 55 i0 (.agg #[.string ⟨#[]⟩, .int .u64 0]) 2 24 Try.underlying25 hi hz0 hz1 hz2 rfl (by decide) v L.length (flat L) hs hown q nx cx (flat K) hx (by rw [flat_length, hK.1]) hnews (flat_one K) (by unfold maxLen; omega) (by omega) hbase ?_
    intro v' w' h1 h2 _
    refine h v' w' ?_ (Below.grown (Below.refl B w) h2 hbase (own_block hown))
    unfold Mark.Own
    rw [flat_append, List.length_append, ← hK.1]
    exact h1

theorem mostL_append (f : M → Bool) (L K : List M) : mostL f (L ++ K) = max (mostL f L) (mostL f K) := by
  unfold mostL
  rw [List.foldl_append]
  have key : ∀ (K : List M) (a : Nat), K.foldl (fun n m => if f m then max n m.n else n) a = max a (K.foldl (fun n m => if f m then max n m.n else n) 0) := by
    intro K
    induction K with
    | nil => intro a; simp
    | cons m K ih =>
      intro a
      rw [List.foldl_cons, List.foldl_cons, ih, ih (if f m then max 0 m.n else 0)]
      split <;> omega
  exact key K _
theorem ofL_append (L K : List M) (q : List UInt8) : ofL (L ++ K) q = max (ofL L q) (ofL K q) := mostL_append _ L K
theorem ok_append {L K : List M} (h : Ok L) (k : Ok K) : Ok (L ++ K) := fun m hm => (List.mem_append.1 hm).elim (h m) (k m)

theorem covers_of {R L K : List M} (h : IsVec R (ofL K)) : (∀ m ∈ R, m.n ≤ ofL L m.p) ↔ ∀ q, ofL K q ≤ ofL L q := by
  constructor
  · intro hm q
    have := h.2 q
    rcases ofL_ex R q with e | ⟨m, hm', e1, e2, e3⟩
    · omega
    · have := hm m hm'
      rw [e1] at this; omega
  · intro hq m hm
    have h1 := vec_of h.1 hm
    have h2 := h.2 m.p
    have := hq m.p
    omega

set_option maxRecDepth 100000 in
set_option maxHeartbeats 2000000 in
theorem covers_any (L K : List M) (a1 a2 : Option Addr) (n1 n2 c1 c2 : Nat) (w : World) (hL : Lies w a1 n1 L) (hK : Lies w a2 n2 K) (hn1 : n1 ≤ 549755813888) (hn2 : n2 ≤ 549755813888) (hok1 : Ok L) (hok2 : Ok K) :
    Calls Try.prog 14 #[.slice a1 n1 c1, .slice a2 n2 c2] w fun e w' => ∃ r : Bool, e = .returned (.bool r) ∧ (r = true ↔ ∀ q, ofL K q ≤ ofL L q) ∧ Below w.heap.size w w' := by
  have C := Lib.hid (clean_any K a2 n2 c2 w hK (by omega) hok2)
  have CO := Lib.hid (fun q W (k : Below w.heap.size w W) => of_any q L a1 n1 c1 W (hL.below k) (by omega) hok1)
  have HO := Lib.hid (okF_of hok1)
  clear hL hK
  go_enter Try.func14, Try.ntmps14
  go_wp2_with fail
  refine C.out.mono ?_
  rintro e w1 ⟨v1, R, rfl, hR, hRl, o1, k1⟩
  obtain ⟨aR, cR, rfl, _, _, lR, _⟩ := o1.lies
  have HR := Lib.hid (covers_of (L := L) hR)
  have HOk := Lib.hid (ok_vec hR (okF_of hok2))
  have HL := Lib.hid lR
  have HK := Lib.hid k1
  obtain ⟨l, hl⟩ : ∃ l, l = R.length := ⟨_, rfl⟩
  rw [← hl] at HL hRl ⊢
  have HN := Lib.hid hl
  clear hR lR k1 C o1 hl
  go_wp2_with fail
  go_loopw [6] (fun iv wr => ∃ (k : Nat), k ≤ l ∧ iv = .int .i64 k ∧ (∀ m ∈ R.take k, m.n ≤ ofL L m.p) ∧ Below w1.heap.size w1 wr) (fun iv _ => l - (intOf iv).toNat)
  case atStart => exact ⟨0, by omega, rfl, fun m hm => by simp at hm, Below.refl _ _⟩
  case round =>
    obtain ⟨k, hk, rfl, hs, hb⟩ := hrel
    have hl := HN.out
    have hB : Below w.heap.size w wr := HK.out.trans (hb.mono HK.out.size)
    by_cases hlt : k < l
    · obtain ⟨b, off, rfl, hcell⟩ := (HL.out.below hb).2 (by omega)
      obtain ⟨d1, d2⟩ := hcell k (by omega)
      have hstep : R.take (k + 1) = R.take k ++ [R[k]'(by omega)] := List.take_succ_eq_append_getElem (by omega)
      have hmem : (R[k]'(by omega)) ∈ R := List.getElem_mem _
      have hmk := HOk.out _ hmem
      obtain ⟨m, hm⟩ : ∃ m, m = R[k]'(by omega) := ⟨_, rfl⟩
      rw [← hm] at d1 d2 hstep hmem hmk
      have b1 : (0 : Int) ≤ (k : Int) := by omega
      have b2 : (k : Int) < (l : Int) := by omega
      have CO := Lib.hid (CO.out m.p)
      have hx := (HO.out m.p).1
      obtain ⟨x, hxx⟩ : ∃ x, x = ofL L m.p := ⟨_, rfl⟩
      rw [← hxx] at CO hx
      have hm1 := hmk.1
      have hm2 := hmk.2
      clear hm hcell hl hmk
      by_cases hc : x < m.n
      · have e1 : decide ((x : Int) < (m.n : Int)) = true := decide_eq_true (by omega)
        have e2 : decide (x < m.n) = true := decide_eq_true hc
        have HV : Hid (¬ ∀ q, ofL K q ≤ ofL L q) := Lib.hid fun h => by have := HR.out.2 h m hmem; omega
        clear hs hstep hmem hxx hc
        go_wp2_with fail
        refine wp_region_noPanic ?_
        refine wp_region_held_drew (S := (fun w' => (w'.cell? ⟨b, off + k * 2, none⟩ = some (.string ⟨m.p.toArray⟩) ∧ w'.cell? ⟨b, off + k * 2 + 1, none⟩ = some (.int .u64 (m.n : Int))) ∧ Below w.heap.size w w')) (by kernel_rfl) (⟨⟨d1, d2⟩, Below.drew hB⟩) (fun hHeld => ?_)
        refine wpAnyH_take (i := 0) (v := ?_) (by simp only [List.getElem?_toArray, List.getElem?_cons_zero]; rfl) (by kernel_rfl) (by kernel_rfl) (by kernel_rfl) (fun _ _ _ h => h) (Or.inl ⟨by rfl, ?_⟩) (by assumption) ?_
        rotate_left
        · (intro w hSw; (try dsimp only at hSw); go_simp; try with_reducible rfl)
        try simp only [Act.put, List.setIfInBounds_toArray, List.set_cons_zero, List.set_cons_succ]
        refine wpAnyH_take (i := 1) (v := ?_) (by simp only [List.getElem?_toArray, List.getElem?_cons_succ, List.getElem?_cons_zero]; rfl) (by kernel_rfl) (by kernel_rfl) (by kernel_rfl) (fun _ _ _ h => h) (Or.inl ⟨by rfl, ?_⟩) (by assumption) ?_
        rotate_left
        · (intro w hSw; (try dsimp only at hSw); go_simp; try with_reducible rfl)
        try simp only [Act.put, List.setIfInBounds_toArray, List.set_cons_zero, List.set_cons_succ]
        refine wpAnyH_take (i := 2) (v := ?_) (by simp only [List.getElem?_toArray, List.getElem?_cons_succ, List.getElem?_cons_zero]; rfl) (by kernel_rfl) (by kernel_rfl) (by kernel_rfl) (fun _ _ _ h => h) (Or.inl ⟨by rfl, ?_⟩) (by assumption) ?_
        rotate_left
        · (intro w hSw; (try dsimp only at hSw); go_simp; try with_reducible rfl)
        try simp only [Act.put, List.setIfInBounds_toArray, List.set_cons_zero, List.set_cons_succ]
        refine wpAnyH_take (i := 3) (v := ?_) (by simp only [List.getElem?_toArray, List.getElem?_cons_succ, List.getElem?_cons_zero]; rfl) (by kernel_rfl) (by kernel_rfl) (by kernel_rfl) (fun _ _ _ h => h) (Or.inl ⟨by rfl, ?_⟩) (by assumption) ?_
        rotate_left
        · (intro w hSw; (try dsimp only at hSw); go_simp; try with_reducible rfl)
        try simp only [Act.put, List.setIfInBounds_toArray, List.set_cons_zero, List.set_cons_succ]
        refine wpAnyH_take (i := 4) (v := ?_) (by simp only [List.getElem?_toArray, List.getElem?_cons_succ, List.getElem?_cons_zero]; rfl) (by kernel_rfl) (by kernel_rfl) (by kernel_rfl) (fun _ _ _ h => h) (Or.inl ⟨by rfl, ?_⟩) (by assumption) ?_
        rotate_left
        · (intro w hSw; (try dsimp only at hSw); go_simp; try with_reducible rfl)
        try simp only [Act.put, List.setIfInBounds_toArray, List.set_cons_zero, List.set_cons_succ]
        refine wpAnyH_take (i := 5) (v := ?_) (by simp only [List.getElem?_toArray, List.getElem?_cons_succ, List.getElem?_cons_zero]; rfl) (by kernel_rfl) (by kernel_rfl) (by kernel_rfl) (fun _ _ _ h => h) (Or.inl ⟨by rfl, ?_⟩) (by assumption) ?_
        rotate_left
        · (intro w hSw; (try dsimp only at hSw); go_simp; try with_reducible rfl)
        try simp only [Act.put, List.setIfInBounds_toArray, List.set_cons_zero, List.set_cons_succ]
        refine wpAnyH_take (i := 7) (v := ?_) (by simp only [List.getElem?_toArray, List.getElem?_cons_succ, List.getElem?_cons_zero]; rfl) (by kernel_rfl) (by kernel_rfl) (by kernel_rfl) (fun _ _ _ h => h) (Or.inl ⟨by rfl, ?_⟩) (by assumption) ?_
        rotate_left
        · (intro w hSw; (try dsimp only at hSw); go_simp; try with_reducible rfl)
        try simp only [Act.put, List.setIfInBounds_toArray, List.set_cons_zero, List.set_cons_succ]
        refine wpAnyH_take (i := 8) (v := ?_) (by simp only [List.getElem?_toArray, List.getElem?_cons_succ, List.getElem?_cons_zero]; rfl) (by kernel_rfl) (by kernel_rfl) (by kernel_rfl) (fun _ _ _ h => h) (Or.inl ⟨by rfl, ?_⟩) (by assumption) ?_
        rotate_left
        · (intro w hSw; (try dsimp only at hSw); go_simp; try with_reducible rfl)
        try simp only [Act.put, List.setIfInBounds_toArray, List.set_cons_zero, List.set_cons_succ]
        refine wpAnyH_take (i := 9) (v := ?_) (by simp only [List.getElem?_toArray, List.getElem?_cons_succ, List.getElem?_cons_zero]; rfl) (by kernel_rfl) (by kernel_rfl) (by kernel_rfl) (fun _ _ _ h => h) (Or.inl ⟨by rfl, ?_⟩) (by assumption) ?_
        rotate_left
        · (intro w hSw; (try dsimp only at hSw); go_simp; try with_reducible rfl)
        try simp only [Act.put, List.setIfInBounds_toArray, List.set_cons_zero, List.set_cons_succ]
        refine wpAnyH_take (i := 10) (v := ?_) (by simp only [List.getElem?_toArray, List.getElem?_cons_succ, List.getElem?_cons_zero]; rfl) (by kernel_rfl) (by kernel_rfl) (by kernel_rfl) (fun _ _ _ h => h) (Or.inl ⟨by rfl, ?_⟩) (by assumption) ?_
        rotate_left
        · (intro w hSw; (try dsimp only at hSw); go_simp; try with_reducible rfl)
        try simp only [Act.put, List.setIfInBounds_toArray, List.set_cons_zero, List.set_cons_succ]
        refine wpAnyH_take (i := 11) (v := ?_) (by simp only [List.getElem?_toArray, List.getElem?_cons_succ, List.getElem?_cons_zero]; rfl) (by kernel_rfl) (by kernel_rfl) (by kernel_rfl) (fun _ _ _ h => h) (Or.inl ⟨by rfl, ?_⟩) (by assumption) ?_
        rotate_left
        · (intro w hSw; (try dsimp only at hSw); go_simp; try with_reducible rfl)
        try simp only [Act.put, List.setIfInBounds_toArray, List.set_cons_zero, List.set_cons_succ]
        refine wpAnyH_ready (rs := [6]) (by kernel_rfl) (by simp) ?_
        refine AllReadyH.cons (by simp only [List.getElem?_toArray, List.getElem?_cons_succ, List.getElem?_cons_zero]; rfl) (fun K hK => ?_) AllReadyH.nil
        go_simp
        go_at_call 23
        refine (CO.out _ hHeld.2).mono ?_
        rintro e w' ⟨rfl, rfl⟩
        go_wp2_with fail
        refine hK.out _ _ (hHeld) (fun hHeld => ?_)
        clear hK K
        try simp only [Act.put, List.setIfInBounds_toArray, List.set_cons_zero, List.set_cons_succ]
        refine wpAnyH_take (i := 12) (v := ?_) (by simp only [List.getElem?_toArray, List.getElem?_cons_succ, List.getElem?_cons_zero]; rfl) (by kernel_rfl) (by kernel_rfl) (by kernel_rfl) (fun _ _ _ h => h) (Or.inl ⟨by rfl, ?_⟩) (by assumption) ?_
        rotate_left
        · (intro w hSw; (try dsimp only at hSw); go_simp; try with_reducible rfl)
        try simp only [Act.put, List.setIfInBounds_toArray, List.set_cons_zero, List.set_cons_succ]
        refine wpAnyH_done (by kernel_rfl) ?_ _
        refine NoPanic.normal ?_
        go_wp2
        go_ret
        exact ⟨false, rfl, ⟨fun h => (by cases h), fun h => absurd h HV.out⟩, Below.drew hB⟩
      · have e1 : decide ((x : Int) < (m.n : Int)) = false := decide_eq_false (by omega)
        have e2 : decide (x < m.n) = false := decide_eq_false hc
        have HS : Hid (∀ y ∈ R.take (k + 1), y.n ≤ ofL L y.p) := Lib.hid (by
          rw [hstep]
          intro y hy
          rcases List.mem_append.1 hy with hy | hy
          · exact hs y hy
          · rw [List.mem_singleton.1 hy]; omega)
        clear hs hstep hmem hxx hc
        go_wp2_with fail
        refine wp_region_noPanic ?_
        refine wp_region_held_drew (S := (fun w' => (w'.cell? ⟨b, off + k * 2, none⟩ = some (.string ⟨m.p.toArray⟩) ∧ w'.cell? ⟨b, off + k * 2 + 1, none⟩ = some (.int .u64 (m.n : Int))) ∧ Below w.heap.size w w')) (by kernel_rfl) (⟨⟨d1, d2⟩, Below.drew hB⟩) (fun hHeld => ?_)
        refine wpAnyH_take (i := 0) (v := ?_) (by simp only [List.getElem?_toArray, List.getElem?_cons_zero]; rfl) (by kernel_rfl) (by kernel_rfl) (by kernel_rfl) (fun _ _ _ h => h) (Or.inl ⟨by rfl, ?_⟩) (by assumption) ?_
        rotate_left
        · (intro w hSw; (try dsimp only at hSw); go_simp; try with_reducible rfl)
        try simp only [Act.put, List.setIfInBounds_toArray, List.set_cons_zero, List.set_cons_succ]
        refine wpAnyH_take (i := 1) (v := ?_) (by simp only [List.getElem?_toArray, List.getElem?_cons_succ, List.getElem?_cons_zero]; rfl) (by kernel_rfl) (by kernel_rfl) (by kernel_rfl) (fun _ _ _ h => h) (Or.inl ⟨by rfl, ?_⟩) (by assumption) ?_
        rotate_left
        · (intro w hSw; (try dsimp only at hSw); go_simp; try with_reducible rfl)
        try simp only [Act.put, List.setIfInBounds_toArray, List.set_cons_zero, List.set_cons_succ]
        refine wpAnyH_take (i := 2) (v := ?_) (by simp only [List.getElem?_toArray, List.getElem?_cons_succ, List.getElem?_cons_zero]; rfl) (by kernel_rfl) (by kernel_rfl) (by kernel_rfl) (fun _ _ _ h => h) (Or.inl ⟨by rfl, ?_⟩) (by assumption) ?_
        rotate_left
        · (intro w hSw; (try dsimp only at hSw); go_simp; try with_reducible rfl)
        try simp only [Act.put, List.setIfInBounds_toArray, List.set_cons_zero, List.set_cons_succ]
        refine wpAnyH_take (i := 3) (v := ?_) (by simp only [List.getElem?_toArray, List.getElem?_cons_succ, List.getElem?_cons_zero]; rfl) (by kernel_rfl) (by kernel_rfl) (by kernel_rfl) (fun _ _ _ h => h) (Or.inl ⟨by rfl, ?_⟩) (by assumption) ?_
        rotate_left
        · (intro w hSw; (try dsimp only at hSw); go_simp; try with_reducible rfl)
        try simp only [Act.put, List.setIfInBounds_toArray, List.set_cons_zero, List.set_cons_succ]
        refine wpAnyH_take (i := 4) (v := ?_) (by simp only [List.getElem?_toArray, List.getElem?_cons_succ, List.getElem?_cons_zero]; rfl) (by kernel_rfl) (by kernel_rfl) (by kernel_rfl) (fun _ _ _ h => h) (Or.inl ⟨by rfl, ?_⟩) (by assumption) ?_
        rotate_left
        · (intro w hSw; (try dsimp only at hSw); go_simp; try with_reducible rfl)
        try simp only [Act.put, List.setIfInBounds_toArray, List.set_cons_zero, List.set_cons_succ]
        refine wpAnyH_take (i := 5) (v := ?_) (by simp only [List.getElem?_toArray, List.getElem?_cons_succ, List.getElem?_cons_zero]; rfl) (by kernel_rfl) (by kernel_rfl) (by kernel_rfl) (fun _ _ _ h => h) (Or.inl ⟨by rfl, ?_⟩) (by assumption) ?_
        rotate_left
        · (intro w hSw; (try dsimp only at hSw); go_simp; try with_reducible rfl)
        try simp only [Act.put, List.setIfInBounds_toArray, List.set_cons_zero, List.set_cons_succ]
        refine wpAnyH_take (i := 7) (v := ?_) (by simp only [List.getElem?_toArray, List.getElem?_cons_succ, List.getElem?_cons_zero]; rfl) (by kernel_rfl) (by kernel_rfl) (by kernel_rfl) (fun _ _ _ h => h) (Or.inl ⟨by rfl, ?_⟩) (by assumption) ?_
        rotate_left
        · (intro w hSw; (try dsimp only at hSw); go_simp; try with_reducible rfl)
        try simp only [Act.put, List.setIfInBounds_toArray, List.set_cons_zero, List.set_cons_succ]
        refine wpAnyH_take (i := 8) (v := ?_) (by simp only [List.getElem?_toArray, List.getElem?_cons_succ, List.getElem?_cons_zero]; rfl) (by kernel_rfl) (by kernel_rfl) (by kernel_rfl) (fun _ _ _ h => h) (Or.inl ⟨by rfl, ?_⟩) (by assumption) ?_
        rotate_left
        · (intro w hSw; (try dsimp only at hSw); go_simp; try with_reducible rfl)
        try simp only [Act.put, List.setIfInBounds_toArray, List.set_cons_zero, List.set_cons_succ]
        refine wpAnyH_take (i := 9) (v := ?_) (by simp only [List.getElem?_toArray, List.getElem?_cons_succ, List.getElem?_cons_zero]; rfl) (by kernel_rfl) (by kernel_rfl) (by kernel_rfl) (fun _ _ _ h => h) (Or.inl ⟨by rfl, ?_⟩) (by assumption) ?_
        rotate_left
        · (intro w hSw; (try dsimp only at hSw); go_simp; try with_reducible rfl)
        try simp only [Act.put, List.setIfInBounds_toArray, List.set_cons_zero, List.set_cons_succ]
        refine wpAnyH_take (i := 10) (v := ?_) (by simp only [List.getElem?_toArray, List.getElem?_cons_succ, List.getElem?_cons_zero]; rfl) (by kernel_rfl) (by kernel_rfl) (by kernel_rfl) (fun _ _ _ h => h) (Or.inl ⟨by rfl, ?_⟩) (by assumption) ?_
        rotate_left
        · (intro w hSw; (try dsimp only at hSw); go_simp; try with_reducible rfl)
        try simp only [Act.put, List.setIfInBounds_toArray, List.set_cons_zero, List.set_cons_succ]
        refine wpAnyH_take (i := 11) (v := ?_) (by simp only [List.getElem?_toArray, List.getElem?_cons_succ, List.getElem?_cons_zero]; rfl) (by kernel_rfl) (by kernel_rfl) (by kernel_rfl) (fun _ _ _ h => h) (Or.inl ⟨by rfl, ?_⟩) (by assumption) ?_
        rotate_left
        · (intro w hSw; (try dsimp only at hSw); go_simp; try with_reducible rfl)
        try simp only [Act.put, List.setIfInBounds_toArray, List.set_cons_zero, List.set_cons_succ]
        refine wpAnyH_ready (rs := [6]) (by kernel_rfl) (by simp) ?_
        refine AllReadyH.cons (by simp only [List.getElem?_toArray, List.getElem?_cons_succ, List.getElem?_cons_zero]; rfl) (fun K hK => ?_) AllReadyH.nil
        go_simp
        go_at_call 23
        refine (CO.out _ hHeld.2).mono ?_
        rintro e w' ⟨rfl, rfl⟩
        go_wp2_with fail
        refine hK.out _ _ (hHeld) (fun hHeld => ?_)
        clear hK K
        try simp only [Act.put, List.setIfInBounds_toArray, List.set_cons_zero, List.set_cons_succ]
        refine wpAnyH_take (i := 12) (v := ?_) (by simp only [List.getElem?_toArray, List.getElem?_cons_succ, List.getElem?_cons_zero]; rfl) (by kernel_rfl) (by kernel_rfl) (by kernel_rfl) (fun _ _ _ h => h) (Or.inl ⟨by rfl, ?_⟩) (by assumption) ?_
        rotate_left
        · (intro w hSw; (try dsimp only at hSw); go_simp; try with_reducible rfl)
        try simp only [Act.put, List.setIfInBounds_toArray, List.set_cons_zero, List.set_cons_succ]
        refine wpAnyH_done (by kernel_rfl) ?_ _
        refine NoPanic.normal ?_
        go_wp2
        go_roundw
        case rel => exact ⟨k + 1, by omega, by go_num, HS.out, Below.drew hb⟩
        case measure => simp [intOf]; omega
    · obtain rfl : k = l := by omega
      have hd : decide ((k : Int) < (k : Int)) = false := decide_eq_false (by omega)
      rw [List.take_of_length_le (by omega)] at hs
      have HV := Lib.hid (HR.out.1 hs)
      clear hl hs
      go_wp2
      go_ret
      exact ⟨true, rfl, ⟨fun _ => HV.out, fun _ => rfl⟩, hB⟩


end RefDots
end Go.Proofs.Ytcbnkncgacbniaa
