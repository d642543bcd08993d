/- Merged texts: RefDotPut, RefDotClean, RefDotDrop, RefDotJoin. -/
import Derived.Test.YtjnlooccddnbkaaGreatDoorTmRefDotMay
import Derived.Test.YtjnlooccddnbkaaGreatDoorTmJoin
import Derived.Laws.OwnMore
namespace Go.Proofs.YtjnlooccddnbkaaGreatDoor
namespace RefDots
open Go.RowKit Go.Proofs.YtjnlooccddnbkaaGreatDoor.Mark Go.Proofs.YtjnlooccddnbkaaGreatDoor.Dots

/-- What is still to come behind the marks that are laid: 'true': the new one lies already. -/
def putGo : Bool → M → List M → List M
  | true, _, R => R
  | false, m, [] => [m]
  | false, m, x :: R => if Op.bytesLess m.p x.p then m :: x :: R else x :: putGo false m R
theorem putGo_true (m : M) (R : List M) : putGo true m R = R := by rw [putGo]
theorem putGo_mem (m : M) : ∀ (L : List M) (y : M), y ∈ putGo false m L ↔ y = m ∨ y ∈ L
  | [], y => by rw [putGo, List.mem_singleton]; simp
  | x :: L, y => by
    rw [putGo]
    split
    · rw [List.mem_cons]
    · rw [List.mem_cons, putGo_mem m L y, List.mem_cons]
      constructor
      · rintro (h | h | h)
        · exact .inr (.inl h)
        · exact .inl h
        · exact .inr (.inr h)
      · rintro (h | h | h)
        · exact .inr (.inl h)
        · exact .inl h
        · exact .inr (.inr h)
theorem putGo_len (m : M) : ∀ (L : List M), (putGo false m L).length = L.length + 1
  | [] => rfl
  | x :: L => by
    rw [putGo]
    split
    · rfl
    · rw [List.length_cons, putGo_len m L, List.length_cons]
theorem putGo_vec (m : M) (hp : m.p ≠ []) (hn : 1 ≤ m.n) : ∀ (L : List M), Vec L → (∀ x ∈ L, x.p ≠ m.p) → Vec (putGo false m L)
  | [], _, _ => ⟨List.pairwise_singleton _ _, fun y hy => by rw [putGo, List.mem_singleton] at hy; rw [hy]; exact ⟨hp, hn⟩⟩
  | x :: L, hv, hne => by
    refine ⟨?_, fun y hy => ?_⟩
    · have hx := List.pairwise_cons.1 hv.1
      have hxm := hne x (List.mem_cons_self ..)
      rw [putGo]
      cases hl : Op.bytesLess m.p x.p with
      | true =>
        rw [if_pos rfl]
        have h1 : Less m x := by unfold Less; rw [Order.cmp_less _ _ hl]; decide
        refine List.pairwise_cons.2 ⟨fun y hy => ?_, hv.1⟩
        rcases List.mem_cons.1 hy with rfl | hy
        · exact h1
        · exact less_trans h1 (hx.1 y hy)
      | false =>
        rw [if_neg (by decide)]
        have h1 : Less x m := by unfold Less; rw [Order.cmp_flip, Order.cmp_more _ _ (fun e => hxm e.symm) hl]; decide
        refine List.pairwise_cons.2 ⟨fun y hy => ?_, (putGo_vec m hp hn L hv.tail fun z hz => hne z (List.mem_cons_of_mem _ hz)).1⟩
        rcases (putGo_mem m L y).1 hy with rfl | hy
        · exact h1
        · exact hx.1 y hy
    · rcases (putGo_mem m _ y).1 hy with rfl | hy
      · exact ⟨hp, hn⟩
      · exact hv.2 y hy
/-- A mark put into a vector that has none of its path. -/
theorem put_vec {R : List M} {f : List UInt8 → Nat} (h : IsVec R f) (m : M) (hp : m.p ≠ []) (hn : 1 ≤ m.n) (h0 : f m.p = 0) : IsVec (putGo false m R) (fun q => if q = m.p then m.n else f q) := by
  have hne : ∀ x ∈ R, x.p ≠ m.p := fun x hx e => by
    have h1 := vec_of h.1 hx
    have h2 := h.2 x.p
    have := (h.1.2 x hx).2
    rw [e] at h1 h2
    omega
  have hv := putGo_vec m hp hn R h.1 hne
  refine ⟨hv, fun q => ?_⟩
  by_cases e : q = m.p
  · subst e
    show _ = if m.p = m.p then m.n else f m.p
    rw [if_pos rfl]
    exact vec_of hv ((putGo_mem m R m).2 (.inl rfl))
  · show _ = if q = m.p then m.n else f q
    rw [if_neg e, ← h.2]
    refine Nat.le_antisymm ?_ ?_
    · rcases ofL_ex (putGo false m R) q with e0 | ⟨y, hy, e1, e2, e3⟩
      · rw [e0]; exact Nat.zero_le _
      · rcases (putGo_mem m R y).1 hy with rfl | hy
        · exact absurd e1.symm e
        · have := ofL_le R y hy (by rw [e1]; exact e2)
          rw [e1] at this; omega
    · rcases ofL_ex R q with e0 | ⟨y, hy, e1, e2, e3⟩
      · rw [e0]; exact Nat.zero_le _
      · have := ofL_le _ y ((putGo_mem m R y).2 (.inr hy)) (by rw [e1]; exact e2)
        rw [e1] at this; omega

theorem own_block {w : World} {B : Nat} {v : Value} {L : List M} (h : Mark.Own w B v L) : ∀ k, v.ownBlock = some k → B ≤ k := fun k e => (h.lt k e).1
/-- A mark appended to a call's own row. -/
theorem wpList_push {ops : Array Oper} {rest : List Oper} {o : Oper} {a : Act} {w : World} {Q : Exit → Act → World → Prop} (hgd : o.guard = none) (s x : Operand)
    (ho : o.op = .call { callee := .builtin .append, args := #[s, x], argTypes := #[23, 23] }) (B : Nat) (v : Value) (L : List M) (hs : a.eval s = v) (hown : Mark.Own w B v L)
    (ad : Addr) (c : Nat) (m : M) (hx : a.eval x = .slice (some ad) 1 c) (hnews : ∀ j u, ([.string ⟨m.p.toArray⟩, .int .u64 (m.n : Int)] : List Value)[j]? = some u → w.cell? (ad.add j) = some u)
    (hlen : L.length + 1 ≤ 1099511627780) (hbase : B ≤ w.heap.size)
    (h : ∀ v' w', Mark.Own w' B v' (L ++ [m]) → Below B w w' → wpList Tryz.prog ops Q rest (a.put o.dst v') w') : wpList Tryz.prog ops Q (o :: rest) a w := by
  obtain ⟨i0, hi, hz0, hz1, hz2⟩ := info_parts info_mark
  refine wpList_append_own w hgd s x 23 ho B 68 i0 (.agg #[.string ⟨#[]⟩, .int .u64 0]) 2 24 Tryz.underlying23 hi hz0 hz1 hz2 rfl (by decide) v L.length (flat L) hs hown ad 1 c _ hx rfl hnews (by simp [Value.oneCell']) (by unfold maxLen; omega) (by omega) hbase ?_
  intro v' w' h1 h2 _
  refine h v' w' ?_ (Below.grown (Below.refl B w) h2 hbase (own_block hown))
  unfold Mark.Own
  rw [← flat_snoc, List.length_append]
  exact h1

set_option maxRecDepth 100000 in
set_option maxHeartbeats 2000000 in
theorem put_any (m : M) (L : List M) (a : Option Addr) (n c : Nat) (w : World) (hL : Lies w a n L) (hn : n ≤ 1099511627776) :
    Calls Tryz.prog 51 #[.slice a n c, .agg #[.string ⟨m.p.toArray⟩, .int .u64 (m.n : Nat)]] w fun e w' => ∃ v : Value, e = .returned v ∧ Mark.Own w' w.heap.size v (putGo false m L) ∧ Below w.heap.size w w' := by
  have h0 := Below.refl w.heap.size w
  have HL := Lib.hid hL
  have HP := Lib.hid (putGo_len m L)
  clear hL
  go_enter Tryz.func51, Tryz.ntmps51
  go_wp2_with fail
  have x1 : (w.alloc (.cells #[.string ⟨m.p.toArray⟩, .int .u64 (m.n : Int)] 68)).cell? ⟨w.heap.size, 0, none⟩ = some (.string ⟨m.p.toArray⟩) := by rw [World.cell?_alloc_new]; rfl
  have x2 : (w.alloc (.cells #[.string ⟨m.p.toArray⟩, .int .u64 (m.n : Int)] 68)).cell? ⟨w.heap.size, 1, none⟩ = some (.int .u64 (m.n : Int)) := by rw [World.cell?_alloc_new]; rfl
  have hb0 : Below w.heap.size w (w.alloc (.cells #[.string ⟨m.p.toArray⟩, .int .u64 (m.n : Int)] 68)) := balloc h0 _
  have hs0 : (w.alloc (.cells #[.string ⟨m.p.toArray⟩, .int .u64 (m.n : Int)] 68)).heap.size = w.heap.size + 1 := by simp
  obtain ⟨B, hB⟩ : ∃ B, B = w.heap.size := ⟨_, rfl⟩
  rw [← hB] at x1 x2 hs0 ⊢
  obtain ⟨wb, hwb⟩ : ∃ wb, wb = w.alloc (.cells #[.string ⟨m.p.toArray⟩, .int .u64 (m.n : Int)] 68) := ⟨_, rfl⟩
  rw [← hwb] at x1 x2 hs0 hb0 ⊢
  have HB := Lib.hid (And.intro hB hs0)
  have HX := Lib.hid (And.intro x1 x2)
  have HB0 := Lib.hid hb0
  have HLb := Lib.hid (HL.out.below hb0)
  clear hwb hB hs0 x1 x2 hb0 HL
  go_loopw [5, 6, 7] (fun ov dv iv wr => ∃ (k : Nat) (d : Bool) (out : List M), k ≤ n ∧ iv = .int .i64 k ∧ dv = .bool d ∧ Mark.Own wr wb.heap.size ov out ∧ out ++ putGo d m (L.drop k) = putGo false m L ∧ Below wb.heap.size wb wr) (fun _ _ iv _ => n - (intOf iv).toNat)
  case atStart => exact ⟨0, false, [], by omega, rfl, rfl, Mark.Own.nil _ _, rfl, Below.refl _ _⟩
  case round =>
    obtain ⟨k, d, out, hk, rfl, rfl, hown, hs, hb⟩ := hrel
    have hln := HLb.out.1
    have x1 := (hb.cell (p := ⟨B, 0, none⟩) (by have := HB.out.2; show B < _; omega)).trans HX.out.1
    have x2 := (hb.cell (p := ⟨B, 1, none⟩) (by have := HB.out.2; show B < _; omega)).trans HX.out.2
    have hol : out.length ≤ n + 1 := by
      have h1 := congrArg List.length hs
      rw [List.length_append, HP.out] at h1
      omega
    have hwr := hb.size
    by_cases hlt : k < n
    · obtain ⟨b, off, rfl, hcell⟩ := HLb.out.2 (by omega)
      obtain ⟨c1, c2⟩ := hcell k (by omega)
      rw [List.drop_eq_getElem_cons (by omega)] at hs
      obtain ⟨x, hx⟩ : ∃ x, x = L[k]'(by omega) := ⟨_, rfl⟩
      rw [← hx] at c1 c2 hs
      have q1 := World.block_lt_of_cell? _ _ c2
      have HD := Lib.hid (And.intro c1 c2)
      replace c1 := (hb.cell (p := ⟨b, off + k * 2, none⟩) q1).trans c1
      replace c2 := (hb.cell (p := ⟨b, off + k * 2 + 1, none⟩) q1).trans c2
      have b1 : (0 : Int) ≤ (k : Int) := by omega
      have b2 : (k : Int) < (n : Int) := by omega
      clear hx hcell hln
      cases d with
      | true =>
        have HS : Hid ((out ++ [x]) ++ putGo true m (L.drop (k + 1)) = putGo false m L) := Lib.hid (by rw [List.append_assoc, putGo_true]; rw [putGo_true] at hs; exact hs)
        clear hs
        go_wp2_with fail
        refine wp_region_noPanic ?_
        refine wp_region_held_drew (S := (fun w' => (w'.cell? ⟨B, 0, none⟩ = some (.string ⟨m.p.toArray⟩) ∧ w'.cell? ⟨B, 1, none⟩ = some (.int .u64 (m.n : Int))) ∧ w'.cell? ⟨b, off + k * 2, none⟩ = some (.string ⟨x.p.toArray⟩) ∧ w'.cell? ⟨b, off + k * 2 + 1, none⟩ = some (.int .u64 (x.n : Int)))) (by kernel_rfl) (⟨⟨x1, x2⟩, c1, c2⟩) (fun hHeld => ?_)
        refine wpAnyH_take (i := 0) (v := ?_) (by simp only [List.getElem?_toArray, List.getElem?_cons_zero]; rfl) (by kernel_rfl) (by kernel_rfl) (by kernel_rfl) (fun _ _ _ h => h) (Or.inl ⟨by rfl, ?_⟩) (by assumption) ?_
        rotate_left
        · (intro w hSw; (try dsimp only at hSw); go_simp; try with_reducible rfl)
        try simp only [Act.put, List.setIfInBounds_toArray, List.set_cons_zero, List.set_cons_succ]
        refine wpAnyH_take (i := 1) (v := ?_) (by simp only [List.getElem?_toArray, List.getElem?_cons_succ, List.getElem?_cons_zero]; rfl) (by kernel_rfl) (by kernel_rfl) (by kernel_rfl) (fun _ _ _ h => h) (Or.inl ⟨by rfl, ?_⟩) (by assumption) ?_
        rotate_left
        · (intro w hSw; (try dsimp only at hSw); go_simp; try with_reducible rfl)
        try simp only [Act.put, List.setIfInBounds_toArray, List.set_cons_zero, List.set_cons_succ]
        refine wpAnyH_take (i := 2) (v := ?_) (by simp only [List.getElem?_toArray, List.getElem?_cons_succ, List.getElem?_cons_zero]; rfl) (by kernel_rfl) (by kernel_rfl) (by kernel_rfl) (fun _ _ _ h => h) (Or.inl ⟨by rfl, ?_⟩) (by assumption) ?_
        rotate_left
        · (intro w hSw; (try dsimp only at hSw); go_simp; try with_reducible rfl)
        try simp only [Act.put, List.setIfInBounds_toArray, List.set_cons_zero, List.set_cons_succ]
        refine wpAnyH_take (i := 3) (v := undef) (by simp only [List.getElem?_toArray, List.getElem?_cons_succ, List.getElem?_cons_zero]; rfl) (by kernel_rfl) (by kernel_rfl) (by kernel_rfl) (fun _ _ _ h => h) (Or.inr ⟨by rfl, rfl⟩) (by assumption) ?_
        try simp only [Act.put, List.setIfInBounds_toArray, List.set_cons_zero, List.set_cons_succ]
        refine wpAnyH_take (i := 4) (v := undef) (by simp only [List.getElem?_toArray, List.getElem?_cons_succ, List.getElem?_cons_zero]; rfl) (by kernel_rfl) (by kernel_rfl) (by kernel_rfl) (fun _ _ _ h => h) (Or.inr ⟨by rfl, rfl⟩) (by assumption) ?_
        try simp only [Act.put, List.setIfInBounds_toArray, List.set_cons_zero, List.set_cons_succ]
        refine wpAnyH_take (i := 5) (v := undef) (by simp only [List.getElem?_toArray, List.getElem?_cons_succ, List.getElem?_cons_zero]; rfl) (by kernel_rfl) (by kernel_rfl) (by kernel_rfl) (fun _ _ _ h => h) (Or.inr ⟨by rfl, rfl⟩) (by assumption) ?_
        try simp only [Act.put, List.setIfInBounds_toArray, List.set_cons_zero, List.set_cons_succ]
        refine wpAnyH_take (i := 6) (v := undef) (by simp only [List.getElem?_toArray, List.getElem?_cons_succ, List.getElem?_cons_zero]; rfl) (by kernel_rfl) (by kernel_rfl) (by kernel_rfl) (fun _ _ _ h => h) (Or.inr ⟨by rfl, rfl⟩) (by assumption) ?_
        try simp only [Act.put, List.setIfInBounds_toArray, List.set_cons_zero, List.set_cons_succ]
        refine wpAnyH_take (i := 7) (v := undef) (by simp only [List.getElem?_toArray, List.getElem?_cons_succ, List.getElem?_cons_zero]; rfl) (by kernel_rfl) (by kernel_rfl) (by kernel_rfl) (fun _ _ _ h => h) (Or.inr ⟨by rfl, rfl⟩) (by assumption) ?_
        try simp only [Act.put, List.setIfInBounds_toArray, List.set_cons_zero, List.set_cons_succ]
        refine wpAnyH_take (i := 8) (v := undef) (by simp only [List.getElem?_toArray, List.getElem?_cons_succ, List.getElem?_cons_zero]; rfl) (by kernel_rfl) (by kernel_rfl) (by kernel_rfl) (fun _ _ _ h => h) (Or.inr ⟨by rfl, rfl⟩) (by assumption) ?_
        try simp only [Act.put, List.setIfInBounds_toArray, List.set_cons_zero, List.set_cons_succ]
        refine wpAnyH_take (i := 9) (v := undef) (by simp only [List.getElem?_toArray, List.getElem?_cons_succ, List.getElem?_cons_zero]; rfl) (by kernel_rfl) (by kernel_rfl) (by kernel_rfl) (fun _ _ _ h => h) (Or.inr ⟨by rfl, rfl⟩) (by assumption) ?_
        try simp only [Act.put, List.setIfInBounds_toArray, List.set_cons_zero, List.set_cons_succ]
        refine wpAnyH_take (i := 10) (v := undef) (by simp only [List.getElem?_toArray, List.getElem?_cons_succ, List.getElem?_cons_zero]; rfl) (by kernel_rfl) (by kernel_rfl) (by kernel_rfl) (fun _ _ _ h => h) (Or.inr ⟨by rfl, rfl⟩) (by assumption) ?_
        try simp only [Act.put, List.setIfInBounds_toArray, List.set_cons_zero, List.set_cons_succ]
        refine wpAnyH_take (i := 11) (v := ?_) (by simp only [List.getElem?_toArray, List.getElem?_cons_succ, List.getElem?_cons_zero]; rfl) (by kernel_rfl) (by kernel_rfl) (by kernel_rfl) (fun _ _ _ h => h) (Or.inl ⟨by rfl, ?_⟩) (by assumption) ?_
        rotate_left
        · (intro w hSw; (try dsimp only at hSw); go_simp; try with_reducible rfl)
        try simp only [Act.put, List.setIfInBounds_toArray, List.set_cons_zero, List.set_cons_succ]
        refine wpAnyH_done (by kernel_rfl) ?_ _
        refine NoPanic.normal ?_
        go_wp2_with (at_builtin; refine wpList_push rfl _ _ rfl wb.heap.size _ _ rfl ((Mark.Own.drew hown).alloc _) _ _ x rfl (cells2_new _ _ _ _) (by simp; omega) (by simp; omega) ?_; intro v1 w1 o1 k1; have g1 := (balloc (Below.drew hb) _).trans k1)
        go_roundw
        case rel => exact ⟨k + 1, true, out ++ [x], by omega, by go_num, rfl, o1, HS.out, g1⟩
        case measure => simp [intOf]; omega
      | false =>
        rw [putGo] at hs
        cases hl : Op.bytesLess m.p x.p with
        | true =>
          rw [hl, if_pos rfl] at hs
          have HS : Hid ((out ++ [m] ++ [x]) ++ putGo true m (L.drop (k + 1)) = putGo false m L) := Lib.hid (by rw [List.append_assoc, List.append_assoc, putGo_true]; exact hs)
          clear hs
          go_wp2_with fail
          refine wp_region_noPanic ?_
          refine wp_region_held_drew (S := (fun w' => (w'.cell? ⟨B, 0, none⟩ = some (.string ⟨m.p.toArray⟩) ∧ w'.cell? ⟨B, 1, none⟩ = some (.int .u64 (m.n : Int))) ∧ w'.cell? ⟨b, off + k * 2, none⟩ = some (.string ⟨x.p.toArray⟩) ∧ w'.cell? ⟨b, off + k * 2 + 1, none⟩ = some (.int .u64 (x.n : Int)))) (by kernel_rfl) (⟨⟨x1, x2⟩, c1, c2⟩) (fun hHeld => ?_)
          refine wpAnyH_take (i := 0) (v := ?_) (by simp only [List.getElem?_toArray, List.getElem?_cons_zero]; rfl) (by kernel_rfl) (by kernel_rfl) (by kernel_rfl) (fun _ _ _ h => h) (Or.inl ⟨by rfl, ?_⟩) (by assumption) ?_
          rotate_left
          · (intro w hSw; (try dsimp only at hSw); go_simp; try with_reducible rfl)
          try simp only [Act.put, List.setIfInBounds_toArray, List.set_cons_zero, List.set_cons_succ]
          refine wpAnyH_take (i := 1) (v := ?_) (by simp only [List.getElem?_toArray, List.getElem?_cons_succ, List.getElem?_cons_zero]; rfl) (by kernel_rfl) (by kernel_rfl) (by kernel_rfl) (fun _ _ _ h => h) (Or.inl ⟨by rfl, ?_⟩) (by assumption) ?_
          rotate_left
          · (intro w hSw; (try dsimp only at hSw); go_simp; try with_reducible rfl)
          try simp only [Act.put, List.setIfInBounds_toArray, List.set_cons_zero, List.set_cons_succ]
          refine wpAnyH_take (i := 2) (v := ?_) (by simp only [List.getElem?_toArray, List.getElem?_cons_succ, List.getElem?_cons_zero]; rfl) (by kernel_rfl) (by kernel_rfl) (by kernel_rfl) (fun _ _ _ h => h) (Or.inl ⟨by rfl, ?_⟩) (by assumption) ?_
          rotate_left
          · (intro w hSw; (try dsimp only at hSw); go_simp; try with_reducible rfl)
          try simp only [Act.put, List.setIfInBounds_toArray, List.set_cons_zero, List.set_cons_succ]
          refine wpAnyH_take (i := 3) (v := ?_) (by simp only [List.getElem?_toArray, List.getElem?_cons_succ, List.getElem?_cons_zero]; rfl) (by kernel_rfl) (by kernel_rfl) (by kernel_rfl) (fun _ _ _ h => h) (Or.inl ⟨by rfl, ?_⟩) (by assumption) ?_
          rotate_left
          · (intro w hSw; (try dsimp only at hSw); go_simp; try with_reducible rfl)
          try simp only [Act.put, List.setIfInBounds_toArray, List.set_cons_zero, List.set_cons_succ]
          refine wpAnyH_take (i := 4) (v := ?_) (by simp only [List.getElem?_toArray, List.getElem?_cons_succ, List.getElem?_cons_zero]; rfl) (by kernel_rfl) (by kernel_rfl) (by kernel_rfl) (fun _ _ _ h => h) (Or.inl ⟨by rfl, ?_⟩) (by assumption) ?_
          rotate_left
          · (intro w hSw; (try dsimp only at hSw); go_simp; try with_reducible rfl)
          try simp only [Act.put, List.setIfInBounds_toArray, List.set_cons_zero, List.set_cons_succ]
          refine wpAnyH_take (i := 5) (v := ?_) (by simp only [List.getElem?_toArray, List.getElem?_cons_succ, List.getElem?_cons_zero]; rfl) (by kernel_rfl) (by kernel_rfl) (by kernel_rfl) (fun _ _ _ h => h) (Or.inl ⟨by rfl, ?_⟩) (by assumption) ?_
          rotate_left
          · (intro w hSw; (try dsimp only at hSw); go_simp; try with_reducible rfl)
          try simp only [Act.put, List.setIfInBounds_toArray, List.set_cons_zero, List.set_cons_succ]
          refine wpAnyH_take (i := 6) (v := ?_) (by simp only [List.getElem?_toArray, List.getElem?_cons_succ, List.getElem?_cons_zero]; rfl) (by kernel_rfl) (by kernel_rfl) (by kernel_rfl) (fun _ _ _ h => h) (Or.inl ⟨by rfl, ?_⟩) (by assumption) ?_
          rotate_left
          · (intro w hSw; (try dsimp only at hSw); go_simp; try with_reducible rfl)
          try simp only [Act.put, List.setIfInBounds_toArray, List.set_cons_zero, List.set_cons_succ]
          refine wpAnyH_take (i := 7) (v := ?_) (by simp only [List.getElem?_toArray, List.getElem?_cons_succ, List.getElem?_cons_zero]; rfl) (by kernel_rfl) (by kernel_rfl) (by kernel_rfl) (fun _ _ _ h => h) (Or.inl ⟨by rfl, ?_⟩) (by assumption) ?_
          rotate_left
          · (intro w hSw; (try dsimp only at hSw); go_simp; try with_reducible rfl)
          try simp only [Act.put, List.setIfInBounds_toArray, List.set_cons_zero, List.set_cons_succ]
          refine wpAnyH_take (i := 8) (v := ?_) (by simp only [List.getElem?_toArray, List.getElem?_cons_succ, List.getElem?_cons_zero]; rfl) (by kernel_rfl) (by kernel_rfl) (by kernel_rfl) (fun _ _ _ h => h) (Or.inl ⟨by rfl, ?_⟩) (by assumption) ?_
          rotate_left
          · (intro w hSw; (try dsimp only at hSw); go_simp; try with_reducible rfl)
          try simp only [Act.put, List.setIfInBounds_toArray, List.set_cons_zero, List.set_cons_succ]
          refine wpAnyH_take (i := 9) (v := ?_) (by simp only [List.getElem?_toArray, List.getElem?_cons_succ, List.getElem?_cons_zero]; rfl) (by kernel_rfl) (by kernel_rfl) (by kernel_rfl) (fun _ _ _ h => h) (Or.inl ⟨by rfl, ?_⟩) (by assumption) ?_
          rotate_left
          · (intro w hSw; (try dsimp only at hSw); go_simp; try with_reducible rfl)
          try simp only [Act.put, List.setIfInBounds_toArray, List.set_cons_zero, List.set_cons_succ]
          refine wpAnyH_take (i := 10) (v := ?_) (by simp only [List.getElem?_toArray, List.getElem?_cons_succ, List.getElem?_cons_zero]; rfl) (by kernel_rfl) (by kernel_rfl) (by kernel_rfl) (fun _ _ _ h => h) (Or.inl ⟨by rfl, ?_⟩) (by assumption) ?_
          rotate_left
          · (intro w hSw; (try dsimp only at hSw); go_simp; try with_reducible rfl)
          try simp only [Act.put, List.setIfInBounds_toArray, List.set_cons_zero, List.set_cons_succ]
          refine wpAnyH_take (i := 11) (v := ?_) (by simp only [List.getElem?_toArray, List.getElem?_cons_succ, List.getElem?_cons_zero]; rfl) (by kernel_rfl) (by kernel_rfl) (by kernel_rfl) (fun _ _ _ h => h) (Or.inl ⟨by rfl, ?_⟩) (by assumption) ?_
          rotate_left
          · (intro w hSw; (try dsimp only at hSw); go_simp; try with_reducible rfl)
          try simp only [Act.put, List.setIfInBounds_toArray, List.set_cons_zero, List.set_cons_succ]
          refine wpAnyH_done (by kernel_rfl) ?_ _
          refine NoPanic.normal ?_
          go_wp2_with (at_builtin; first | (refine wpList_push rfl _ _ rfl wb.heap.size _ _ rfl (o1.alloc _) _ _ x rfl (cells2_new _ _ _ _) (by simp; omega) (by simp; omega) ?_; intro v2 w2 o2 k2; have g2 := (balloc g1 _).trans k2) | (refine wpList_push rfl _ _ rfl wb.heap.size _ _ rfl ((Mark.Own.drew hown).alloc _) _ _ m rfl (cells2_new _ _ _ _) (by simp; omega) (by simp; omega) ?_; intro v1 w1 o1 k1; have g1 := (balloc (Below.drew hb) _).trans k1; have c3 := (g1.cell (p := ⟨b, off + k * 2, none⟩) q1).trans HD.out.1; have c4 := (g1.cell (p := ⟨b, off + k * 2 + 1, none⟩) q1).trans HD.out.2; clear x1 x2 c1 c2; have z1 := g1.size))
          go_roundw
          case rel => exact ⟨k + 1, true, out ++ [m] ++ [x], by omega, by go_num, rfl, o2, HS.out, g2⟩
          case measure => simp [intOf]; omega
        | false =>
          rw [hl, if_neg (by decide)] at hs
          have HS : Hid ((out ++ [x]) ++ putGo false m (L.drop (k + 1)) = putGo false m L) := Lib.hid (by rw [List.append_assoc]; exact hs)
          clear hs
          go_wp2_with fail
          refine wp_region_noPanic ?_
          refine wp_region_held_drew (S := (fun w' => (w'.cell? ⟨B, 0, none⟩ = some (.string ⟨m.p.toArray⟩) ∧ w'.cell? ⟨B, 1, none⟩ = some (.int .u64 (m.n : Int))) ∧ w'.cell? ⟨b, off + k * 2, none⟩ = some (.string ⟨x.p.toArray⟩) ∧ w'.cell? ⟨b, off + k * 2 + 1, none⟩ = some (.int .u64 (x.n : Int)))) (by kernel_rfl) (⟨⟨x1, x2⟩, c1, c2⟩) (fun hHeld => ?_)
          refine wpAnyH_take (i := 0) (v := ?_) (by simp only [List.getElem?_toArray, List.getElem?_cons_zero]; rfl) (by kernel_rfl) (by kernel_rfl) (by kernel_rfl) (fun _ _ _ h => h) (Or.inl ⟨by rfl, ?_⟩) (by assumption) ?_
          rotate_left
          · (intro w hSw; (try dsimp only at hSw); go_simp; try with_reducible rfl)
          try simp only [Act.put, List.setIfInBounds_toArray, List.set_cons_zero, List.set_cons_succ]
          refine wpAnyH_take (i := 1) (v := ?_) (by simp only [List.getElem?_toArray, List.getElem?_cons_succ, List.getElem?_cons_zero]; rfl) (by kernel_rfl) (by kernel_rfl) (by kernel_rfl) (fun _ _ _ h => h) (Or.inl ⟨by rfl, ?_⟩) (by assumption) ?_
          rotate_left
          · (intro w hSw; (try dsimp only at hSw); go_simp; try with_reducible rfl)
          try simp only [Act.put, List.setIfInBounds_toArray, List.set_cons_zero, List.set_cons_succ]
          refine wpAnyH_take (i := 2) (v := ?_) (by simp only [List.getElem?_toArray, List.getElem?_cons_succ, List.getElem?_cons_zero]; rfl) (by kernel_rfl) (by kernel_rfl) (by kernel_rfl) (fun _ _ _ h => h) (Or.inl ⟨by rfl, ?_⟩) (by assumption) ?_
          rotate_left
          · (intro w hSw; (try dsimp only at hSw); go_simp; try with_reducible rfl)
          try simp only [Act.put, List.setIfInBounds_toArray, List.set_cons_zero, List.set_cons_succ]
          refine wpAnyH_take (i := 3) (v := ?_) (by simp only [List.getElem?_toArray, List.getElem?_cons_succ, List.getElem?_cons_zero]; rfl) (by kernel_rfl) (by kernel_rfl) (by kernel_rfl) (fun _ _ _ h => h) (Or.inl ⟨by rfl, ?_⟩) (by assumption) ?_
          rotate_left
          · (intro w hSw; (try dsimp only at hSw); go_simp; try with_reducible rfl)
          try simp only [Act.put, List.setIfInBounds_toArray, List.set_cons_zero, List.set_cons_succ]
          refine wpAnyH_take (i := 4) (v := ?_) (by simp only [List.getElem?_toArray, List.getElem?_cons_succ, List.getElem?_cons_zero]; rfl) (by kernel_rfl) (by kernel_rfl) (by kernel_rfl) (fun _ _ _ h => h) (Or.inl ⟨by rfl, ?_⟩) (by assumption) ?_
          rotate_left
          · (intro w hSw; (try dsimp only at hSw); go_simp; try with_reducible rfl)
          try simp only [Act.put, List.setIfInBounds_toArray, List.set_cons_zero, List.set_cons_succ]
          refine wpAnyH_take (i := 5) (v := ?_) (by simp only [List.getElem?_toArray, List.getElem?_cons_succ, List.getElem?_cons_zero]; rfl) (by kernel_rfl) (by kernel_rfl) (by kernel_rfl) (fun _ _ _ h => h) (Or.inl ⟨by rfl, ?_⟩) (by assumption) ?_
          rotate_left
          · (intro w hSw; (try dsimp only at hSw); go_simp; try with_reducible rfl)
          try simp only [Act.put, List.setIfInBounds_toArray, List.set_cons_zero, List.set_cons_succ]
          refine wpAnyH_take (i := 6) (v := ?_) (by simp only [List.getElem?_toArray, List.getElem?_cons_succ, List.getElem?_cons_zero]; rfl) (by kernel_rfl) (by kernel_rfl) (by kernel_rfl) (fun _ _ _ h => h) (Or.inl ⟨by rfl, ?_⟩) (by assumption) ?_
          rotate_left
          · (intro w hSw; (try dsimp only at hSw); go_simp; try with_reducible rfl)
          try simp only [Act.put, List.setIfInBounds_toArray, List.set_cons_zero, List.set_cons_succ]
          refine wpAnyH_take (i := 7) (v := ?_) (by simp only [List.getElem?_toArray, List.getElem?_cons_succ, List.getElem?_cons_zero]; rfl) (by kernel_rfl) (by kernel_rfl) (by kernel_rfl) (fun _ _ _ h => h) (Or.inl ⟨by rfl, ?_⟩) (by assumption) ?_
          rotate_left
          · (intro w hSw; (try dsimp only at hSw); go_simp; try with_reducible rfl)
          try simp only [Act.put, List.setIfInBounds_toArray, List.set_cons_zero, List.set_cons_succ]
          refine wpAnyH_take (i := 8) (v := ?_) (by simp only [List.getElem?_toArray, List.getElem?_cons_succ, List.getElem?_cons_zero]; rfl) (by kernel_rfl) (by kernel_rfl) (by kernel_rfl) (fun _ _ _ h => h) (Or.inl ⟨by rfl, ?_⟩) (by assumption) ?_
          rotate_left
          · (intro w hSw; (try dsimp only at hSw); go_simp; try with_reducible rfl)
          try simp only [Act.put, List.setIfInBounds_toArray, List.set_cons_zero, List.set_cons_succ]
          refine wpAnyH_take (i := 9) (v := ?_) (by simp only [List.getElem?_toArray, List.getElem?_cons_succ, List.getElem?_cons_zero]; rfl) (by kernel_rfl) (by kernel_rfl) (by kernel_rfl) (fun _ _ _ h => h) (Or.inl ⟨by rfl, ?_⟩) (by assumption) ?_
          rotate_left
          · (intro w hSw; (try dsimp only at hSw); go_simp; try with_reducible rfl)
          try simp only [Act.put, List.setIfInBounds_toArray, List.set_cons_zero, List.set_cons_succ]
          refine wpAnyH_take (i := 10) (v := ?_) (by simp only [List.getElem?_toArray, List.getElem?_cons_succ, List.getElem?_cons_zero]; rfl) (by kernel_rfl) (by kernel_rfl) (by kernel_rfl) (fun _ _ _ h => h) (Or.inl ⟨by rfl, ?_⟩) (by assumption) ?_
          rotate_left
          · (intro w hSw; (try dsimp only at hSw); go_simp; try with_reducible rfl)
          try simp only [Act.put, List.setIfInBounds_toArray, List.set_cons_zero, List.set_cons_succ]
          refine wpAnyH_take (i := 11) (v := ?_) (by simp only [List.getElem?_toArray, List.getElem?_cons_succ, List.getElem?_cons_zero]; rfl) (by kernel_rfl) (by kernel_rfl) (by kernel_rfl) (fun _ _ _ h => h) (Or.inl ⟨by rfl, ?_⟩) (by assumption) ?_
          rotate_left
          · (intro w hSw; (try dsimp only at hSw); go_simp; try with_reducible rfl)
          try simp only [Act.put, List.setIfInBounds_toArray, List.set_cons_zero, List.set_cons_succ]
          refine wpAnyH_done (by kernel_rfl) ?_ _
          refine NoPanic.normal ?_
          go_wp2_with (at_builtin; refine wpList_push rfl _ _ rfl wb.heap.size _ _ rfl ((Mark.Own.drew hown).alloc _) _ _ x rfl (cells2_new _ _ _ _) (by simp; omega) (by simp; omega) ?_; intro v1 w1 o1 k1; have g1 := (balloc (Below.drew hb) _).trans k1)
          go_roundw
          case rel => exact ⟨k + 1, false, out ++ [x], by omega, by go_num, rfl, o1, HS.out, g1⟩
          case measure => simp [intOf]; omega
    · obtain rfl : k = n := by omega
      rw [List.drop_eq_nil_of_le (by omega)] at hs
      have hd : decide ((k : Int) < (k : Int)) = false := decide_eq_false (by omega)
      clear hln
      cases d with
      | true =>
        have HS : Hid (out = putGo false m L) := Lib.hid (by rw [← hs, putGo, List.append_nil])
        clear hs
        go_wp2
        go_ret
        exact ⟨_, rfl, by rw [← HS.out]; exact hown.base (by have := HB.out; omega), HB0.out.trans (hb.mono (by have := HB.out; omega))⟩
      | false =>
        have HS : Hid (out ++ [m] = putGo false m L) := Lib.hid hs
        clear hs
        go_wp2_with (at_builtin; refine wpList_push rfl _ _ rfl wb.heap.size _ _ rfl (hown.alloc _) _ _ m rfl (cells2_new _ _ _ _) (by simp; omega) (by simp; omega) ?_; intro v1 w1 o1 k1; have g1 := (balloc hb _).trans k1)
        go_ret
        exact ⟨_, rfl, by rw [← HS.out]; exact o1.base (by have := HB.out; omega), HB0.out.trans (g1.mono (by have := HB.out; omega))⟩


end RefDots
end Go.Proofs.YtjnlooccddnbkaaGreatDoor

namespace Go.Proofs.YtjnlooccddnbkaaGreatDoor
namespace RefDots
open Go.RowKit Go.Proofs.YtjnlooccddnbkaaGreatDoor.Mark Go.Proofs.YtjnlooccddnbkaaGreatDoor.Dots

theorem IsVec.congr {R : List M} {f g : List UInt8 → Nat} (h : IsVec R f) (e : ∀ q, f q = g q) : IsVec R g := ⟨h.1, fun q => (h.2 q).trans (e q)⟩
/-- Numbers and paths that can be. -/
def OkF (f : List UInt8 → Nat) : Prop := ∀ q, f q ≤ 18446744073709551615 ∧ (f q ≠ 0 → q.length ≤ 9223372036854775807)
theorem okF_of {L : List M} (h : Ok L) : OkF (ofL L) := by
  intro q
  rcases ofL_ex L q with e | ⟨m, hm, e1, e2, e3⟩
  · rw [e]; exact ⟨by omega, fun h => absurd rfl h⟩
  · obtain ⟨h1, h2⟩ := h m hm
    rw [← e3, ← e1]; exact ⟨h1, fun _ => h2⟩
theorem ok_vec {R : List M} {f : List UInt8 → Nat} (h : IsVec R f) (k : OkF f) : Ok R := by
  intro m hm
  have h1 := vec_of h.1 hm
  have h2 := (h.1.2 m hm).2
  have h3 := h.2 m.p
  obtain ⟨k1, k2⟩ := k m.p
  exact ⟨by omega, k2 (by omega)⟩
/-- What is known of the paths that were seen. -/
def seenF (L : List M) (k : Nat) (q : List UInt8) : Nat := if q ∈ (L.take k).map (·.p) then ofL L q else 0
theorem seenF_zero (L : List M) (q : List UInt8) : seenF L 0 q = 0 := by simp [seenF]
theorem seenF_step (L : List M) (k : Nat) (hk : k < L.length) (q : List UInt8) : seenF L (k + 1) q = if q = L[k].p then ofL L q else seenF L k q := by
  unfold seenF
  rw [List.take_succ_eq_append_getElem hk, List.map_append, List.map_cons, List.map_nil]
  by_cases e : q = L[k].p
  · rw [if_pos e, if_pos (List.mem_append.2 (.inr (by rw [e]; exact List.mem_singleton.2 rfl)))]
  · rw [if_neg e]
    have : (q ∈ List.map (fun x => x.p) (List.take k L) ++ [L[k].p]) ↔ q ∈ List.map (fun x => x.p) (List.take k L) := by
      rw [List.mem_append, List.mem_singleton]
      exact ⟨fun h => h.resolve_right e, .inl⟩
    simp only [this]
theorem seenF_all (L : List M) (k : Nat) (hk : L.length ≤ k) (q : List UInt8) : seenF L k q = ofL L q := by
  unfold seenF
  rw [List.take_of_length_le hk]
  split
  · rfl
  · rename_i h
    exact (ofL_none L q fun m hm e => h (List.mem_map.2 ⟨m, hm, e⟩)).symm
theorem seenF_le (L : List M) (k : Nat) (q : List UInt8) : seenF L k q = ofL L q ∨ seenF L k q = 0 := by
  unfold seenF; split
  · exact .inl rfl
  · exact .inr rfl
theorem okF_seen {L : List M} (h : Ok L) (k : Nat) : OkF (seenF L k) := by
  intro q
  rcases seenF_le L k q with e | e
  · rw [e]; exact okF_of h q
  · rw [e]; exact ⟨by omega, fun h => absurd rfl h⟩
theorem seen_keep (L : List M) (k : Nat) (hk : k < L.length) (h : ofL L L[k].p = 0 ∨ seenF L k L[k].p ≠ 0) (q : List UInt8) : seenF L k q = seenF L (k + 1) q := by
  rw [seenF_step L k hk]
  by_cases e : q = L[k].p
  · rw [if_pos e]
    rcases seenF_le L k q with h1 | h1
    · exact h1
    · rw [h1]
      rcases h with h | h
      · rw [e]; exact h.symm
      · rw [← e] at h; exact absurd h1 h
  · rw [if_neg e]

set_option maxRecDepth 100000 in
set_option maxHeartbeats 2000000 in
theorem clean_any (L : List M) (a : Option Addr) (n c : Nat) (w : World) (hL : Lies w a n L) (hn : n ≤ 1099511627776) (hok : Ok L) :
    Calls Tryz.prog 38 #[.slice a n c] w fun e w' => ∃ (v : Value) (R : List M), e = .returned v ∧ IsVec R (ofL L) ∧ R.length ≤ n ∧ Mark.Own w' w.heap.size v R ∧ Below w.heap.size w w' := by
  have h0 := Below.refl w.heap.size w
  have HL := Lib.hid hL
  have HO := Lib.hid hok
  have C1 := Lib.hid (fun q W (k : Below w.heap.size w W) => of_any q L a n c W (hL.below k) hn hok)
  clear hL hok
  go_enter Tryz.func38, Tryz.ntmps38
  go_wp2_with fail
  go_loopw [3, 4] (fun ov iv wr => ∃ (k : Nat) (out : List M), k ≤ n ∧ iv = .int .i64 k ∧ Mark.Own wr w.heap.size ov out ∧ IsVec out (seenF L k) ∧ out.length ≤ k ∧ Below w.heap.size w wr) (fun _ iv _ => n - (intOf iv).toNat)
  case atStart => exact ⟨0, [], by omega, rfl, Mark.Own.nil _ _, ⟨⟨List.Pairwise.nil, fun m hm => (by cases hm)⟩, fun q => (seenF_zero L q).symm⟩, by simp, h0⟩
  case round =>
    obtain ⟨k, out, hk, rfl, hown, hv, hol, hb⟩ := hrel
    have hln := HL.out.1
    obtain ⟨aO, cO, rfl, _, _, lO, _⟩ := hown.lies
    by_cases hlt : k < n
    · obtain ⟨b, off, rfl, hcell⟩ := (HL.out.below hb).2 (by omega)
      have c1 := (hcell k (by omega)).1
      have hst := seenF_step L k (by omega)
      have hkp := seen_keep L k (by omega)
      have hmk := HO.out L[k] (List.getElem_mem _)
      obtain ⟨m, hm⟩ : ∃ m, m = L[k]'(by omega) := ⟨_, rfl⟩
      rw [← hm] at c1 hst hkp hmk
      have b1 : (0 : Int) ≤ (k : Int) := by omega
      have b2 : (k : Int) < (n : Int) := by omega
      have hOk := ok_vec hv (okF_seen HO.out k)
      have C2 := Lib.hid (of_any m.p out aO out.length cO wr lO (by omega) hOk)
      have C1 := Lib.hid (C1.out m.p)
      have hx := (okF_of HO.out m.p).1
      have hos := hv.2 m.p
      have hme := ofL_empty L
      obtain ⟨q, hq⟩ : ∃ q, q = m.p := ⟨_, rfl⟩
      rw [← hq] at c1 hst hkp hx hos C2 C1 hmk
      obtain ⟨x, hxx⟩ : ∃ x, x = ofL L q := ⟨_, rfl⟩
      obtain ⟨y, hyy⟩ : ∃ y, y = ofL out q := ⟨_, rfl⟩
      rw [← hxx] at C1 hx hkp
      rw [← hyy] at C2 hos
      have hq2 := hmk.2
      clear hm hcell hq hOk hmk
      by_cases g1 : 0 < x
      · have e1 : decide ((x : Int) > 0) = true := decide_eq_true (by omega)
        have e2 : decide ((0 : Int) < (x : Int)) = true := decide_eq_true (by omega)
        have e3 : decide (0 < x) = true := decide_eq_true g1
        by_cases g2 : y = 0
        · have e4 : ((y : Int) == 0) = true := by rw [beq_iff_eq]; omega
          have hqn : q ≠ [] := fun e => by rw [e, hme] at hxx; omega
          have hnv := IsVec.congr (g := seenF L (k + 1)) (put_vec hv ⟨q, x⟩ hqn g1 (by show seenF L k q = 0; omega)) (fun p => by
            show (if p = q then x else seenF L k p) = _
            rw [hst p]
            split
            · rename_i e; rw [e, hxx]
            · rfl)
          have hnl := putGo_len ⟨q, x⟩ out
          have HV := Lib.hid (And.intro hnv hnl)
          have HY := Lib.hid g2
          clear hst hkp hos hme hxx hyy hln hnv hnl hown hv g1 g2
          go_wp2_with (go_at_call 39; (first | with_reducible refine (C1.out _ hb).mono ?_ | with_reducible refine (C2.out).mono ?_); rintro e w' ⟨rfl, rfl⟩)
          refine wp_region_noPanic ?_
          refine wp_region_held_drew (S := (fun w' => w'.cell? ⟨b, off + k * 2, none⟩ = some (.string ⟨q.toArray⟩) ∧ Lies w' aO out.length out ∧ Below w.heap.size w w')) (by kernel_rfl) (⟨c1, lO.below (Below.drew (Below.refl _ _)), Below.drew hb⟩) (fun hHeld => ?_)
          refine wpAnyH_take (i := 0) (v := ?_) (by simp only [List.getElem?_toArray, List.getElem?_cons_zero]; rfl) (by kernel_rfl) (by kernel_rfl) (by kernel_rfl) (fun _ _ _ h => h) (Or.inl ⟨by rfl, ?_⟩) (by assumption) ?_
          rotate_left
          · (intro w hSw; (try dsimp only at hSw); go_simp; try with_reducible rfl)
          try simp only [Act.put, List.setIfInBounds_toArray, List.set_cons_zero, List.set_cons_succ]
          refine wpAnyH_take (i := 1) (v := ?_) (by simp only [List.getElem?_toArray, List.getElem?_cons_succ, List.getElem?_cons_zero]; rfl) (by kernel_rfl) (by kernel_rfl) (by kernel_rfl) (fun _ _ _ h => h) (Or.inl ⟨by rfl, ?_⟩) (by assumption) ?_
          rotate_left
          · (intro w hSw; (try dsimp only at hSw); go_simp; try with_reducible rfl)
          try simp only [Act.put, List.setIfInBounds_toArray, List.set_cons_zero, List.set_cons_succ]
          refine wpAnyH_take (i := 2) (v := ?_) (by simp only [List.getElem?_toArray, List.getElem?_cons_succ, List.getElem?_cons_zero]; rfl) (by kernel_rfl) (by kernel_rfl) (by kernel_rfl) (fun _ _ _ h => h) (Or.inl ⟨by rfl, ?_⟩) (by assumption) ?_
          rotate_left
          · (intro w hSw; (try dsimp only at hSw); go_simp; try with_reducible rfl)
          try simp only [Act.put, List.setIfInBounds_toArray, List.set_cons_zero, List.set_cons_succ]
          refine wpAnyH_take (i := 3) (v := ?_) (by simp only [List.getElem?_toArray, List.getElem?_cons_succ, List.getElem?_cons_zero]; rfl) (by kernel_rfl) (by kernel_rfl) (by kernel_rfl) (fun _ _ _ h => h) (Or.inl ⟨by rfl, ?_⟩) (by assumption) ?_
          rotate_left
          · (intro w hSw; (try dsimp only at hSw); go_simp; try with_reducible rfl)
          try simp only [Act.put, List.setIfInBounds_toArray, List.set_cons_zero, List.set_cons_succ]
          refine wpAnyH_take (i := 4) (v := ?_) (by simp only [List.getElem?_toArray, List.getElem?_cons_succ, List.getElem?_cons_zero]; rfl) (by kernel_rfl) (by kernel_rfl) (by kernel_rfl) (fun _ _ _ h => h) (Or.inl ⟨by rfl, ?_⟩) (by assumption) ?_
          rotate_left
          · (intro w hSw; (try dsimp only at hSw); go_simp; try with_reducible rfl)
          try simp only [Act.put, List.setIfInBounds_toArray, List.set_cons_zero, List.set_cons_succ]
          refine wpAnyH_take (i := 5) (v := ?_) (by simp only [List.getElem?_toArray, List.getElem?_cons_succ, List.getElem?_cons_zero]; rfl) (by kernel_rfl) (by kernel_rfl) (by kernel_rfl) (fun _ _ _ h => h) (Or.inl ⟨by rfl, ?_⟩) (by assumption) ?_
          rotate_left
          · (intro w hSw; (try dsimp only at hSw); go_simp; try with_reducible rfl)
          try simp only [Act.put, List.setIfInBounds_toArray, List.set_cons_zero, List.set_cons_succ]
          refine wpAnyH_take (i := 6) (v := ?_) (by simp only [List.getElem?_toArray, List.getElem?_cons_succ, List.getElem?_cons_zero]; rfl) (by kernel_rfl) (by kernel_rfl) (by kernel_rfl) (fun _ _ _ h => h) (Or.inl ⟨by rfl, ?_⟩) (by assumption) ?_
          rotate_left
          · (intro w hSw; (try dsimp only at hSw); go_simp; try with_reducible rfl)
          try simp only [Act.put, List.setIfInBounds_toArray, List.set_cons_zero, List.set_cons_succ]
          refine wpAnyH_take (i := 7) (v := ?_) (by simp only [List.getElem?_toArray, List.getElem?_cons_succ, List.getElem?_cons_zero]; rfl) (by kernel_rfl) (by kernel_rfl) (by kernel_rfl) (fun _ _ _ h => h) (Or.inl ⟨by rfl, ?_⟩) (by assumption) ?_
          rotate_left
          · (intro w hSw; (try dsimp only at hSw); go_simp; try with_reducible rfl)
          try simp only [Act.put, List.setIfInBounds_toArray, List.set_cons_zero, List.set_cons_succ]
          refine wpAnyH_take (i := 8) (v := ?_) (by simp only [List.getElem?_toArray, List.getElem?_cons_succ, List.getElem?_cons_zero]; rfl) (by kernel_rfl) (by kernel_rfl) (by kernel_rfl) (fun _ _ _ h => h) (Or.inl ⟨by rfl, ?_⟩) (by assumption) ?_
          rotate_left
          · (intro w hSw; (try dsimp only at hSw); go_simp; try with_reducible rfl)
          try simp only [Act.put, List.setIfInBounds_toArray, List.set_cons_zero, List.set_cons_succ]
          refine wpAnyH_take (i := 9) (v := ?_) (by simp only [List.getElem?_toArray, List.getElem?_cons_succ, List.getElem?_cons_zero]; rfl) (by kernel_rfl) (by kernel_rfl) (by kernel_rfl) (fun _ _ _ h => h) (Or.inl ⟨by rfl, ?_⟩) (by assumption) ?_
          rotate_left
          · (intro w hSw; (try dsimp only at hSw); go_simp; try with_reducible rfl)
          try simp only [Act.put, List.setIfInBounds_toArray, List.set_cons_zero, List.set_cons_succ]
          refine wpAnyH_take (i := 10) (v := ?_) (by simp only [List.getElem?_toArray, List.getElem?_cons_succ, List.getElem?_cons_zero]; rfl) (by kernel_rfl) (by kernel_rfl) (by kernel_rfl) (fun _ _ _ h => h) (Or.inl ⟨by rfl, ?_⟩) (by assumption) ?_
          rotate_left
          · (intro w hSw; (try dsimp only at hSw); go_simp; try with_reducible rfl)
          try simp only [Act.put, List.setIfInBounds_toArray, List.set_cons_zero, List.set_cons_succ]
          refine wpAnyH_take (i := 11) (v := ?_) (by simp only [List.getElem?_toArray, List.getElem?_cons_succ, List.getElem?_cons_zero]; rfl) (by kernel_rfl) (by kernel_rfl) (by kernel_rfl) (fun _ _ _ h => h) (Or.inl ⟨by rfl, ?_⟩) (by assumption) ?_
          rotate_left
          · (intro w hSw; (try dsimp only at hSw); go_simp; try with_reducible rfl)
          try simp only [Act.put, List.setIfInBounds_toArray, List.set_cons_zero, List.set_cons_succ]
          refine wpAnyH_ready (rs := [12]) (by kernel_rfl) (by simp) ?_
          refine AllReadyH.cons (by simp only [List.getElem?_toArray, List.getElem?_cons_succ, List.getElem?_cons_zero]; rfl) (fun K hK => ?_) AllReadyH.nil
          go_simp
          go_at_call 39
          refine (C1.out _ hHeld.2.2).mono ?_
          rintro e w' ⟨rfl, rfl⟩
          go_wp2_with fail
          refine hK.out _ _ (hHeld) (fun hHeld => ?_)
          clear hK K
          try simp only [Act.put, List.setIfInBounds_toArray, List.set_cons_zero, List.set_cons_succ]
          refine wpAnyH_take (i := 13) (v := ?_) (by simp only [List.getElem?_toArray, List.getElem?_cons_succ, List.getElem?_cons_zero]; rfl) (by kernel_rfl) (by kernel_rfl) (by kernel_rfl) (fun _ _ _ h => h) (Or.inl ⟨by rfl, ?_⟩) (by assumption) ?_
          rotate_left
          · (intro w hSw; (try dsimp only at hSw); go_simp; try with_reducible rfl)
          try simp only [Act.put, List.setIfInBounds_toArray, List.set_cons_zero, List.set_cons_succ]
          refine wpAnyH_ready (rs := [14]) (by kernel_rfl) (by simp) ?_
          refine AllReadyH.cons (by simp only [List.getElem?_toArray, List.getElem?_cons_succ, List.getElem?_cons_zero]; rfl) (fun K hK => ?_) AllReadyH.nil
          go_simp
          go_at_call 51
          refine (put_any ⟨q, x⟩ out aO out.length cO _ hHeld.2.1 (by omega)).mono ?_
          rintro e v1 ⟨vP, rfl, oP, k1⟩
          have h1 := bstep (w := w) (by first | exact hb | exact Below.drew hb) k1
          go_wp2_with fail
          refine hK.out _ _ (⟨Dots.keepC hHeld.1 k1, hHeld.2.1.below k1, h1⟩) (fun hHeld => ?_)
          clear hK K
          try simp only [Act.put, List.setIfInBounds_toArray, List.set_cons_zero, List.set_cons_succ]
          refine wpAnyH_take (i := 15) (v := ?_) (by simp only [List.getElem?_toArray, List.getElem?_cons_succ, List.getElem?_cons_zero]; rfl) (by kernel_rfl) (by kernel_rfl) (by kernel_rfl) (fun _ _ _ h => h) (Or.inl ⟨by rfl, ?_⟩) (by assumption) ?_
          rotate_left
          · (intro w hSw; (try dsimp only at hSw); go_simp; try with_reducible rfl)
          try simp only [Act.put, List.setIfInBounds_toArray, List.set_cons_zero, List.set_cons_succ]
          refine wpAnyH_done (by kernel_rfl) ?_ _
          refine NoPanic.normal ?_
          go_wp2
          have hsz := hb.size
          go_roundw
          case rel => exact ⟨k + 1, _, by omega, by go_num, oP.base (by simp; omega), HV.out.1, by rw [HV.out.2]; omega, h1⟩
          case measure => simp [intOf]; omega
        · have e4 : ((y : Int) == 0) = false := by rw [beq_eq_false_iff_ne]; omega
          have HV := Lib.hid (IsVec.congr hv (hkp (.inr (by omega))))
          clear hst hkp hos hme hxx hyy hln g1 g2 hv
          go_wp2_with (go_at_call 39; (first | with_reducible refine (C1.out _ hb).mono ?_ | with_reducible refine (C2.out).mono ?_); rintro e w' ⟨rfl, rfl⟩)
          go_roundw
          case rel => exact ⟨k + 1, out, by omega, by go_num, hown, HV.out, by omega, hb⟩
          case measure => simp [intOf]; omega
      · have e1 : decide ((x : Int) > 0) = false := decide_eq_false (by omega)
        have e2 : decide ((0 : Int) < (x : Int)) = false := decide_eq_false (by omega)
        have e3 : decide (0 < x) = false := decide_eq_false g1
        have HV := Lib.hid (IsVec.congr hv (hkp (.inl (by omega))))
        clear hst hkp hos hme hxx hyy hln g1 hv
        go_wp2_with (go_at_call 39; with_reducible refine (C1.out _ hb).mono ?_; rintro e w' ⟨rfl, rfl⟩)
        go_roundw
        case rel => exact ⟨k + 1, out, by omega, by go_num, hown, HV.out, by omega, hb⟩
        case measure => simp [intOf]; omega
    · obtain rfl : k = n := by omega
      have hd : decide ((k : Int) < (k : Int)) = false := decide_eq_false (by omega)
      have HV := Lib.hid (IsVec.congr hv (seenF_all L k (by omega)))
      clear hln hv
      go_wp2
      go_ret
      exact ⟨_, out, rfl, HV.out, hol, hown, hb⟩


end RefDots
end Go.Proofs.YtjnlooccddnbkaaGreatDoor

namespace Go.Proofs.YtjnlooccddnbkaaGreatDoor
namespace RefDots
open Go.RowKit Go.Proofs.YtjnlooccddnbkaaGreatDoor.Mark Go.Proofs.YtjnlooccddnbkaaGreatDoor.Dots

theorem filter_snoc (f : M → Bool) (R : List M) (k : Nat) (h : k < R.length) : (R.take (k + 1)).filter f = (R.take k).filter f ++ (if f R[k] then [R[k]] else []) := by
  rw [List.take_succ_eq_append_getElem h, List.filter_append]
  congr 1
  cases hf : f R[k] with
  | true => rw [List.filter_cons_of_pos hf, if_pos rfl]; rfl
  | false => rw [List.filter_cons_of_neg (by rw [hf]; decide), if_neg (by decide)]; rfl

end RefDots
end Go.Proofs.YtjnlooccddnbkaaGreatDoor

namespace Go.Proofs.YtjnlooccddnbkaaGreatDoor
namespace RefDots
open Go.RowKit Go.Proofs.YtjnlooccddnbkaaGreatDoor.Mark Go.Proofs.YtjnlooccddnbkaaGreatDoor.Dots

/-- Marks that lie anywhere, appended to a call's own row. -/
theorem wpList_app {ops : Array Oper} {rest : List Oper} {o : Oper} {a : Act} {w : World} {Q : Exit → Act → World → Prop} (hgd : o.guard = none) (s x : Operand)
    (ho : o.op = .call { callee := .builtin .append, args := #[s, x], argTypes := #[23, 23] }) (B : Nat) (v : Value) (L : List M) (hs : a.eval s = v) (hown : Mark.Own w B v L)
    (ax : Option Addr) (nx cx : Nat) (K : List M) (hx : a.eval x = .slice ax nx cx) (hK : Lies w ax nx K)
    (hlen : L.length + nx ≤ 4398046511104) (hbase : B ≤ w.heap.size)
    (h : ∀ v' w', Mark.Own w' B v' (L ++ K) → Below B w w' → wpList Tryz.prog ops Q rest (a.put o.dst v') w') : wpList Tryz.prog ops Q (o :: rest) a w := by
  obtain ⟨i0, hi, hz0, hz1, hz2⟩ := info_parts info_mark
  cases ax with
  | none =>
    have hn0 : nx = 0 := by
      rcases Nat.eq_zero_or_pos nx with h | h
      · exact h
      · obtain ⟨_, _, e, _⟩ := hK.2 h; cases e
    have hl0 : K = [] := List.length_eq_zero_iff.1 (by rw [← hK.1]; exact hn0)
    subst hl0
    subst hn0
    refine wpList_plain hgd fun k hk => ?_
    have hrun : (Builtin.append_ #[23, 23] o.type #[v, .slice none 0 cx]).run Tryz.prog w = .ok v w := by
      rcases hown.2 with ⟨rfl, _⟩ | ⟨g, cap, cur, rfl, _, _, hnc, _⟩
      · simp [Builtin.append_, run_underlying Tryz.underlying23, sizeOf, typeInfo, hi, Builtin.lenOf, Builtin.firstCells]
      · simp [Builtin.append_, run_underlying Tryz.underlying23, sizeOf, typeInfo, hi, Builtin.lenOf, Builtin.firstCells, hnc, storeCells]
    unfold Oper.wp
    simp [execOp, ho, resolve, invoke, builtin, hs, hx, hrun, Result.andThen]
    exact hk _ _ (h v w (by rw [List.append_nil]; exact hown) (Below.refl _ _))
  | some q =>
    have hnews : ∀ j u, (flat K)[j]? = some u → w.cell? (q.add j) = some u := fun j u hu => by
      have hj : j < K.length * 2 := by rw [← flat_length]; exact (List.getElem?_eq_some_iff.1 hu).1
      obtain ⟨b, off, e, _⟩ := hK.2 (by rw [hK.1]; omega)
      obtain rfl : q = ⟨b, off, none⟩ := Option.some.inj e
      exact hK.at j u hu
    refine wpList_append_own w hgd s x 23 ho B 68 i0 (.agg #[.string ⟨#[]⟩, .int .u64 0]) 2 24 Tryz.underlying23 hi hz0 hz1 hz2 rfl (by decide) v L.length (flat L) hs hown q nx cx (flat K) hx (by rw [flat_length, hK.1]) hnews (flat_one K) (by unfold maxLen; omega) (by omega) hbase ?_
    intro v' w' h1 h2 _
    refine h v' w' ?_ (Below.grown (Below.refl B w) h2 hbase (own_block hown))
    unfold Mark.Own
    rw [flat_append, List.length_append, ← hK.1]
    exact h1

theorem mostL_append (f : M → Bool) (L K : List M) : mostL f (L ++ K) = max (mostL f L) (mostL f K) := by
  unfold mostL
  rw [List.foldl_append]
  have key : ∀ (K : List M) (a : Nat), K.foldl (fun n m => if f m then max n m.n else n) a = max a (K.foldl (fun n m => if f m then max n m.n else n) 0) := by
    intro K
    induction K with
    | nil => intro a; simp
    | cons m K ih =>
      intro a
      rw [List.foldl_cons, List.foldl_cons, ih, ih (if f m then max 0 m.n else 0)]
      split <;> omega
  exact key K _
theorem ofL_append (L K : List M) (q : List UInt8) : ofL (L ++ K) q = max (ofL L q) (ofL K q) := mostL_append _ L K
theorem ok_append {L K : List M} (h : Ok L) (k : Ok K) : Ok (L ++ K) := fun m hm => (List.mem_append.1 hm).elim (h m) (k m)

set_option maxRecDepth 100000 in
set_option maxHeartbeats 2000000 in
theorem join_any (L K : List M) (a1 a2 : Option Addr) (n1 n2 c1 c2 : Nat) (w : World) (hL : Lies w a1 n1 L) (hK : Lies w a2 n2 K) (hn1 : n1 ≤ 549755813888) (hn2 : n2 ≤ 549755813888) (hok1 : Ok L) (hok2 : Ok K) :
    Calls Tryz.prog 46 #[.slice a1 n1 c1, .slice a2 n2 c2] w fun e w' => ∃ (v : Value) (J : List M), e = .returned v ∧ IsVec J (fun q => max (ofL L q) (ofL K q)) ∧ J.length ≤ n1 + n2 ∧ Mark.Own w' w.heap.size v J ∧ Below w.heap.size w w' := by
  have h0 := Below.refl w.heap.size w
  have hr : Mark.Own (w.alloc (.cells #[] 68)) w.heap.size (.slice (some ⟨w.heap.size, 0, none⟩) 0 0) [] := World.ownsRow_lit w #[] 0 (Nat.le_refl _) (by decide) rfl
  have HL := Lib.hid (And.intro hL hK)
  have HR := Lib.hid hr
  have HN := Lib.hid (And.intro hL.1 hK.1)
  clear hL hK hr
  go_enter Tryz.func46, Tryz.ntmps46
  go_wp2_with (at_builtin; first | (refine wpList_app rfl _ _ rfl w.heap.size _ _ rfl o1 a2 n2 c2 K rfl (HL.out.2.below g1) (by omega) g1.size ?_; intro v2 w2 o2 k2; have g2 := g1.trans k2) | (refine wpList_app rfl _ _ rfl w.heap.size _ _ rfl HR.out a1 n1 c1 L rfl (HL.out.1.below (balloc h0 _)) (by simp; omega) (by simp) ?_; intro v1 w1 o1 k1; rw [List.nil_append] at o1; have g1 := (balloc h0 _).trans k1; have hl1 : L.length ≤ 549755813888 := HN.out.1 ▸ hn1))
  obtain ⟨aJ, cJ, rfl, _, _, lJ, _⟩ := o2.lies
  have hl2 : (L ++ K).length ≤ 1099511627776 := by rw [List.length_append]; have := HN.out; omega
  refine (clean_any (L ++ K) aJ _ cJ _ lJ hl2 (ok_append hok1 hok2)).mono ?_
  rintro e w3 ⟨v3, J, rfl, hJ, hJl, o3, k3⟩
  have hs2 := g2.size
  go_wp2
  go_ret
  refine ⟨_, J, rfl, IsVec.congr hJ (ofL_append L K), by rw [List.length_append] at hJl; have := HN.out; omega, o3.base hs2, g2.trans (k3.mono hs2)⟩

theorem covers_of {R L K : List M} (h : IsVec R (ofL K)) : (∀ m ∈ R, m.n ≤ ofL L m.p) ↔ ∀ q, ofL K q ≤ ofL L q := by
  constructor
  · intro hm q
    have := h.2 q
    rcases ofL_ex R q with e | ⟨m, hm', e1, e2, e3⟩
    · omega
    · have := hm m hm'
      rw [e1] at this; omega
  · intro hq m hm
    have h1 := vec_of h.1 hm
    have h2 := h.2 m.p
    have := hq m.p
    omega

set_option maxRecDepth 100000 in
set_option maxHeartbeats 2000000 in
theorem covers_any (L K : List M) (a1 a2 : Option Addr) (n1 n2 c1 c2 : Nat) (w : World) (hL : Lies w a1 n1 L) (hK : Lies w a2 n2 K) (hn1 : n1 ≤ 549755813888) (hn2 : n2 ≤ 549755813888) (hok1 : Ok L) (hok2 : Ok K) :
    Calls Tryz.prog 16 #[.slice a1 n1 c1, .slice a2 n2 c2] w fun e w' => ∃ r : Bool, e = .returned (.bool r) ∧ (r = true ↔ ∀ q, ofL K q ≤ ofL L q) ∧ Below w.heap.size w w' := by
  have C := Lib.hid (clean_any K a2 n2 c2 w hK (by omega) hok2)
  have CO := Lib.hid (fun q W (k : Below w.heap.size w W) => of_any q L a1 n1 c1 W (hL.below k) (by omega) hok1)
  have HO := Lib.hid (okF_of hok1)
  clear hL hK
  go_enter Tryz.func16, Tryz.ntmps16
  go_wp2_with fail
  refine C.out.mono ?_
  rintro e w1 ⟨v1, R, rfl, hR, hRl, o1, k1⟩
  obtain ⟨aR, cR, rfl, _, _, lR, _⟩ := o1.lies
  have HR := Lib.hid (covers_of (L := L) hR)
  have HOk := Lib.hid (ok_vec hR (okF_of hok2))
  have HL := Lib.hid lR
  have HK := Lib.hid k1
  obtain ⟨l, hl⟩ : ∃ l, l = R.length := ⟨_, rfl⟩
  rw [← hl] at HL hRl ⊢
  have HN := Lib.hid hl
  clear hR lR k1 C o1 hl
  go_wp2_with fail
  go_loopw [6] (fun iv wr => ∃ (k : Nat), k ≤ l ∧ iv = .int .i64 k ∧ (∀ m ∈ R.take k, m.n ≤ ofL L m.p) ∧ Below w1.heap.size w1 wr) (fun iv _ => l - (intOf iv).toNat)
  case atStart => exact ⟨0, by omega, rfl, fun m hm => by simp at hm, Below.refl _ _⟩
  case round =>
    obtain ⟨k, hk, rfl, hs, hb⟩ := hrel
    have hl := HN.out
    have hB : Below w.heap.size w wr := HK.out.trans (hb.mono HK.out.size)
    by_cases hlt : k < l
    · obtain ⟨b, off, rfl, hcell⟩ := (HL.out.below hb).2 (by omega)
      obtain ⟨d1, d2⟩ := hcell k (by omega)
      have hstep : R.take (k + 1) = R.take k ++ [R[k]'(by omega)] := List.take_succ_eq_append_getElem (by omega)
      have hmem : (R[k]'(by omega)) ∈ R := List.getElem_mem _
      have hmk := HOk.out _ hmem
      obtain ⟨m, hm⟩ : ∃ m, m = R[k]'(by omega) := ⟨_, rfl⟩
      rw [← hm] at d1 d2 hstep hmem hmk
      have b1 : (0 : Int) ≤ (k : Int) := by omega
      have b2 : (k : Int) < (l : Int) := by omega
      have CO := Lib.hid (CO.out m.p)
      have hx := (HO.out m.p).1
      obtain ⟨x, hxx⟩ : ∃ x, x = ofL L m.p := ⟨_, rfl⟩
      rw [← hxx] at CO hx
      have hm1 := hmk.1
      have hm2 := hmk.2
      clear hm hcell hl hmk
      by_cases hc : x < m.n
      · have e1 : decide ((x : Int) < (m.n : Int)) = true := decide_eq_true (by omega)
        have e2 : decide (x < m.n) = true := decide_eq_true hc
        have HV : Hid (¬ ∀ q, ofL K q ≤ ofL L q) := Lib.hid fun h => by have := HR.out.2 h m hmem; omega
        clear hs hstep hmem hxx hc
        go_wp2_with fail
        refine wp_region_noPanic ?_
        refine wp_region_held_drew (S := (fun w' => (w'.cell? ⟨b, off + k * 2, none⟩ = some (.string ⟨m.p.toArray⟩) ∧ w'.cell? ⟨b, off + k * 2 + 1, none⟩ = some (.int .u64 (m.n : Int))) ∧ Below w.heap.size w w')) (by kernel_rfl) (⟨⟨d1, d2⟩, Below.drew hB⟩) (fun hHeld => ?_)
        refine wpAnyH_take (i := 0) (v := ?_) (by simp only [List.getElem?_toArray, List.getElem?_cons_zero]; rfl) (by kernel_rfl) (by kernel_rfl) (by kernel_rfl) (fun _ _ _ h => h) (Or.inl ⟨by rfl, ?_⟩) (by assumption) ?_
        rotate_left
        · (intro w hSw; (try dsimp only at hSw); go_simp; try with_reducible rfl)
        try simp only [Act.put, List.setIfInBounds_toArray, List.set_cons_zero, List.set_cons_succ]
        refine wpAnyH_take (i := 1) (v := ?_) (by simp only [List.getElem?_toArray, List.getElem?_cons_succ, List.getElem?_cons_zero]; rfl) (by kernel_rfl) (by kernel_rfl) (by kernel_rfl) (fun _ _ _ h => h) (Or.inl ⟨by rfl, ?_⟩) (by assumption) ?_
        rotate_left
        · (intro w hSw; (try dsimp only at hSw); go_simp; try with_reducible rfl)
        try simp only [Act.put, List.setIfInBounds_toArray, List.set_cons_zero, List.set_cons_succ]
        refine wpAnyH_take (i := 2) (v := ?_) (by simp only [List.getElem?_toArray, List.getElem?_cons_succ, List.getElem?_cons_zero]; rfl) (by kernel_rfl) (by kernel_rfl) (by kernel_rfl) (fun _ _ _ h => h) (Or.inl ⟨by rfl, ?_⟩) (by assumption) ?_
        rotate_left
        · (intro w hSw; (try dsimp only at hSw); go_simp; try with_reducible rfl)
        try simp only [Act.put, List.setIfInBounds_toArray, List.set_cons_zero, List.set_cons_succ]
        refine wpAnyH_take (i := 3) (v := ?_) (by simp only [List.getElem?_toArray, List.getElem?_cons_succ, List.getElem?_cons_zero]; rfl) (by kernel_rfl) (by kernel_rfl) (by kernel_rfl) (fun _ _ _ h => h) (Or.inl ⟨by rfl, ?_⟩) (by assumption) ?_
        rotate_left
        · (intro w hSw; (try dsimp only at hSw); go_simp; try with_reducible rfl)
        try simp only [Act.put, List.setIfInBounds_toArray, List.set_cons_zero, List.set_cons_succ]
        refine wpAnyH_take (i := 4) (v := ?_) (by simp only [List.getElem?_toArray, List.getElem?_cons_succ, List.getElem?_cons_zero]; rfl) (by kernel_rfl) (by kernel_rfl) (by kernel_rfl) (fun _ _ _ h => h) (Or.inl ⟨by rfl, ?_⟩) (by assumption) ?_
        rotate_left
        · (intro w hSw; (try dsimp only at hSw); go_simp; try with_reducible rfl)
        try simp only [Act.put, List.setIfInBounds_toArray, List.set_cons_zero, List.set_cons_succ]
        refine wpAnyH_take (i := 5) (v := ?_) (by simp only [List.getElem?_toArray, List.getElem?_cons_succ, List.getElem?_cons_zero]; rfl) (by kernel_rfl) (by kernel_rfl) (by kernel_rfl) (fun _ _ _ h => h) (Or.inl ⟨by rfl, ?_⟩) (by assumption) ?_
        rotate_left
        · (intro w hSw; (try dsimp only at hSw); go_simp; try with_reducible rfl)
        try simp only [Act.put, List.setIfInBounds_toArray, List.set_cons_zero, List.set_cons_succ]
        refine wpAnyH_take (i := 7) (v := ?_) (by simp only [List.getElem?_toArray, List.getElem?_cons_succ, List.getElem?_cons_zero]; rfl) (by kernel_rfl) (by kernel_rfl) (by kernel_rfl) (fun _ _ _ h => h) (Or.inl ⟨by rfl, ?_⟩) (by assumption) ?_
        rotate_left
        · (intro w hSw; (try dsimp only at hSw); go_simp; try with_reducible rfl)
        try simp only [Act.put, List.setIfInBounds_toArray, List.set_cons_zero, List.set_cons_succ]
        refine wpAnyH_take (i := 8) (v := ?_) (by simp only [List.getElem?_toArray, List.getElem?_cons_succ, List.getElem?_cons_zero]; rfl) (by kernel_rfl) (by kernel_rfl) (by kernel_rfl) (fun _ _ _ h => h) (Or.inl ⟨by rfl, ?_⟩) (by assumption) ?_
        rotate_left
        · (intro w hSw; (try dsimp only at hSw); go_simp; try with_reducible rfl)
        try simp only [Act.put, List.setIfInBounds_toArray, List.set_cons_zero, List.set_cons_succ]
        refine wpAnyH_take (i := 9) (v := ?_) (by simp only [List.getElem?_toArray, List.getElem?_cons_succ, List.getElem?_cons_zero]; rfl) (by kernel_rfl) (by kernel_rfl) (by kernel_rfl) (fun _ _ _ h => h) (Or.inl ⟨by rfl, ?_⟩) (by assumption) ?_
        rotate_left
        · (intro w hSw; (try dsimp only at hSw); go_simp; try with_reducible rfl)
        try simp only [Act.put, List.setIfInBounds_toArray, List.set_cons_zero, List.set_cons_succ]
        refine wpAnyH_take (i := 10) (v := ?_) (by simp only [List.getElem?_toArray, List.getElem?_cons_succ, List.getElem?_cons_zero]; rfl) (by kernel_rfl) (by kernel_rfl) (by kernel_rfl) (fun _ _ _ h => h) (Or.inl ⟨by rfl, ?_⟩) (by assumption) ?_
        rotate_left
        · (intro w hSw; (try dsimp only at hSw); go_simp; try with_reducible rfl)
        try simp only [Act.put, List.setIfInBounds_toArray, List.set_cons_zero, List.set_cons_succ]
        refine wpAnyH_take (i := 11) (v := ?_) (by simp only [List.getElem?_toArray, List.getElem?_cons_succ, List.getElem?_cons_zero]; rfl) (by kernel_rfl) (by kernel_rfl) (by kernel_rfl) (fun _ _ _ h => h) (Or.inl ⟨by rfl, ?_⟩) (by assumption) ?_
        rotate_left
        · (intro w hSw; (try dsimp only at hSw); go_simp; try with_reducible rfl)
        try simp only [Act.put, List.setIfInBounds_toArray, List.set_cons_zero, List.set_cons_succ]
        refine wpAnyH_ready (rs := [6]) (by kernel_rfl) (by simp) ?_
        refine AllReadyH.cons (by simp only [List.getElem?_toArray, List.getElem?_cons_succ, List.getElem?_cons_zero]; rfl) (fun K hK => ?_) AllReadyH.nil
        go_simp
        go_at_call 39
        refine (CO.out _ hHeld.2).mono ?_
        rintro e w' ⟨rfl, rfl⟩
        go_wp2_with fail
        refine hK.out _ _ (hHeld) (fun hHeld => ?_)
        clear hK K
        try simp only [Act.put, List.setIfInBounds_toArray, List.set_cons_zero, List.set_cons_succ]
        refine wpAnyH_take (i := 12) (v := ?_) (by simp only [List.getElem?_toArray, List.getElem?_cons_succ, List.getElem?_cons_zero]; rfl) (by kernel_rfl) (by kernel_rfl) (by kernel_rfl) (fun _ _ _ h => h) (Or.inl ⟨by rfl, ?_⟩) (by assumption) ?_
        rotate_left
        · (intro w hSw; (try dsimp only at hSw); go_simp; try with_reducible rfl)
        try simp only [Act.put, List.setIfInBounds_toArray, List.set_cons_zero, List.set_cons_succ]
        refine wpAnyH_done (by kernel_rfl) ?_ _
        refine NoPanic.normal ?_
        go_wp2
        go_ret
        exact ⟨false, rfl, ⟨fun h => (by cases h), fun h => absurd h HV.out⟩, Below.drew hB⟩
      · have e1 : decide ((x : Int) < (m.n : Int)) = false := decide_eq_false (by omega)
        have e2 : decide (x < m.n) = false := decide_eq_false hc
        have HS : Hid (∀ y ∈ R.take (k + 1), y.n ≤ ofL L y.p) := Lib.hid (by
          rw [hstep]
          intro y hy
          rcases List.mem_append.1 hy with hy | hy
          · exact hs y hy
          · rw [List.mem_singleton.1 hy]; omega)
        clear hs hstep hmem hxx hc
        go_wp2_with fail
        refine wp_region_noPanic ?_
        refine wp_region_held_drew (S := (fun w' => (w'.cell? ⟨b, off + k * 2, none⟩ = some (.string ⟨m.p.toArray⟩) ∧ w'.cell? ⟨b, off + k * 2 + 1, none⟩ = some (.int .u64 (m.n : Int))) ∧ Below w.heap.size w w')) (by kernel_rfl) (⟨⟨d1, d2⟩, Below.drew hB⟩) (fun hHeld => ?_)
        refine wpAnyH_take (i := 0) (v := ?_) (by simp only [List.getElem?_toArray, List.getElem?_cons_zero]; rfl) (by kernel_rfl) (by kernel_rfl) (by kernel_rfl) (fun _ _ _ h => h) (Or.inl ⟨by rfl, ?_⟩) (by assumption) ?_
        rotate_left
        · (intro w hSw; (try dsimp only at hSw); go_simp; try with_reducible rfl)
        try simp only [Act.put, List.setIfInBounds_toArray, List.set_cons_zero, List.set_cons_succ]
        refine wpAnyH_take (i := 1) (v := ?_) (by simp only [List.getElem?_toArray, List.getElem?_cons_succ, List.getElem?_cons_zero]; rfl) (by kernel_rfl) (by kernel_rfl) (by kernel_rfl) (fun _ _ _ h => h) (Or.inl ⟨by rfl, ?_⟩) (by assumption) ?_
        rotate_left
        · (intro w hSw; (try dsimp only at hSw); go_simp; try with_reducible rfl)
        try simp only [Act.put, List.setIfInBounds_toArray, List.set_cons_zero, List.set_cons_succ]
        refine wpAnyH_take (i := 2) (v := ?_) (by simp only [List.getElem?_toArray, List.getElem?_cons_succ, List.getElem?_cons_zero]; rfl) (by kernel_rfl) (by kernel_rfl) (by kernel_rfl) (fun _ _ _ h => h) (Or.inl ⟨by rfl, ?_⟩) (by assumption) ?_
        rotate_left
        · (intro w hSw; (try dsimp only at hSw); go_simp; try with_reducible rfl)
        try simp only [Act.put, List.setIfInBounds_toArray, List.set_cons_zero, List.set_cons_succ]
        refine wpAnyH_take (i := 3) (v := ?_) (by simp only [List.getElem?_toArray, List.getElem?_cons_succ, List.getElem?_cons_zero]; rfl) (by kernel_rfl) (by kernel_rfl) (by kernel_rfl) (fun _ _ _ h => h) (Or.inl ⟨by rfl, ?_⟩) (by assumption) ?_
        rotate_left
        · (intro w hSw; (try dsimp only at hSw); go_simp; try with_reducible rfl)
        try simp only [Act.put, List.setIfInBounds_toArray, List.set_cons_zero, List.set_cons_succ]
        refine wpAnyH_take (i := 4) (v := ?_) (by simp only [List.getElem?_toArray, List.getElem?_cons_succ, List.getElem?_cons_zero]; rfl) (by kernel_rfl) (by kernel_rfl) (by kernel_rfl) (fun _ _ _ h => h) (Or.inl ⟨by rfl, ?_⟩) (by assumption) ?_
        rotate_left
        · (intro w hSw; (try dsimp only at hSw); go_simp; try with_reducible rfl)
        try simp only [Act.put, List.setIfInBounds_toArray, List.set_cons_zero, List.set_cons_succ]
        refine wpAnyH_take (i := 5) (v := ?_) (by simp only [List.getElem?_toArray, List.getElem?_cons_succ, List.getElem?_cons_zero]; rfl) (by kernel_rfl) (by kernel_rfl) (by kernel_rfl) (fun _ _ _ h => h) (Or.inl ⟨by rfl, ?_⟩) (by assumption) ?_
        rotate_left
        · (intro w hSw; (try dsimp only at hSw); go_simp; try with_reducible rfl)
        try simp only [Act.put, List.setIfInBounds_toArray, List.set_cons_zero, List.set_cons_succ]
        refine wpAnyH_take (i := 7) (v := ?_) (by simp only [List.getElem?_toArray, List.getElem?_cons_succ, List.getElem?_cons_zero]; rfl) (by kernel_rfl) (by kernel_rfl) (by kernel_rfl) (fun _ _ _ h => h) (Or.inl ⟨by rfl, ?_⟩) (by assumption) ?_
        rotate_left
        · (intro w hSw; (try dsimp only at hSw); go_simp; try with_reducible rfl)
        try simp only [Act.put, List.setIfInBounds_toArray, List.set_cons_zero, List.set_cons_succ]
        refine wpAnyH_take (i := 8) (v := ?_) (by simp only [List.getElem?_toArray, List.getElem?_cons_succ, List.getElem?_cons_zero]; rfl) (by kernel_rfl) (by kernel_rfl) (by kernel_rfl) (fun _ _ _ h => h) (Or.inl ⟨by rfl, ?_⟩) (by assumption) ?_
        rotate_left
        · (intro w hSw; (try dsimp only at hSw); go_simp; try with_reducible rfl)
        try simp only [Act.put, List.setIfInBounds_toArray, List.set_cons_zero, List.set_cons_succ]
        refine wpAnyH_take (i := 9) (v := ?_) (by simp only [List.getElem?_toArray, List.getElem?_cons_succ, List.getElem?_cons_zero]; rfl) (by kernel_rfl) (by kernel_rfl) (by kernel_rfl) (fun _ _ _ h => h) (Or.inl ⟨by rfl, ?_⟩) (by assumption) ?_
        rotate_left
        · (intro w hSw; (try dsimp only at hSw); go_simp; try with_reducible rfl)
        try simp only [Act.put, List.setIfInBounds_toArray, List.set_cons_zero, List.set_cons_succ]
        refine wpAnyH_take (i := 10) (v := ?_) (by simp only [List.getElem?_toArray, List.getElem?_cons_succ, List.getElem?_cons_zero]; rfl) (by kernel_rfl) (by kernel_rfl) (by kernel_rfl) (fun _ _ _ h => h) (Or.inl ⟨by rfl, ?_⟩) (by assumption) ?_
        rotate_left
        · (intro w hSw; (try dsimp only at hSw); go_simp; try with_reducible rfl)
        try simp only [Act.put, List.setIfInBounds_toArray, List.set_cons_zero, List.set_cons_succ]
        refine wpAnyH_take (i := 11) (v := ?_) (by simp only [List.getElem?_toArray, List.getElem?_cons_succ, List.getElem?_cons_zero]; rfl) (by kernel_rfl) (by kernel_rfl) (by kernel_rfl) (fun _ _ _ h => h) (Or.inl ⟨by rfl, ?_⟩) (by assumption) ?_
        rotate_left
        · (intro w hSw; (try dsimp only at hSw); go_simp; try with_reducible rfl)
        try simp only [Act.put, List.setIfInBounds_toArray, List.set_cons_zero, List.set_cons_succ]
        refine wpAnyH_ready (rs := [6]) (by kernel_rfl) (by simp) ?_
        refine AllReadyH.cons (by simp only [List.getElem?_toArray, List.getElem?_cons_succ, List.getElem?_cons_zero]; rfl) (fun K hK => ?_) AllReadyH.nil
        go_simp
        go_at_call 39
        refine (CO.out _ hHeld.2).mono ?_
        rintro e w' ⟨rfl, rfl⟩
        go_wp2_with fail
        refine hK.out _ _ (hHeld) (fun hHeld => ?_)
        clear hK K
        try simp only [Act.put, List.setIfInBounds_toArray, List.set_cons_zero, List.set_cons_succ]
        refine wpAnyH_take (i := 12) (v := ?_) (by simp only [List.getElem?_toArray, List.getElem?_cons_succ, List.getElem?_cons_zero]; rfl) (by kernel_rfl) (by kernel_rfl) (by kernel_rfl) (fun _ _ _ h => h) (Or.inl ⟨by rfl, ?_⟩) (by assumption) ?_
        rotate_left
        · (intro w hSw; (try dsimp only at hSw); go_simp; try with_reducible rfl)
        try simp only [Act.put, List.setIfInBounds_toArray, List.set_cons_zero, List.set_cons_succ]
        refine wpAnyH_done (by kernel_rfl) ?_ _
        refine NoPanic.normal ?_
        go_wp2
        go_roundw
        case rel => exact ⟨k + 1, by omega, by go_num, HS.out, Below.drew hb⟩
        case measure => simp [intOf]; omega
    · obtain rfl : k = l := by omega
      have hd : decide ((k : Int) < (k : Int)) = false := decide_eq_false (by omega)
      rw [List.take_of_length_le (by omega)] at hs
      have HV := Lib.hid (HR.out.1 hs)
      clear hl hs
      go_wp2
      go_ret
      exact ⟨true, rfl, ⟨fun _ => HV.out, fun _ => rfl⟩, hB⟩


end RefDots
end Go.Proofs.YtjnlooccddnbkaaGreatDoor
