
/- the reference of dots: put. -/
import Derived.Test.YtcbnkncgacbniaaRefDotMay
import Derived.Test.YtcbnkncgacbniaaDotRest
namespace Go.Proofs.Ytcbnkncgacbniaa
namespace RefDots
open Go.RowKit Go.Proofs.Ytcbnkncgacbniaa.Mark Go.Proofs.Ytcbnkncgacbniaa.Dots

/-- What is still to come behind the marks that are laid: 'true': the new one lies already. -/
def putGo : Bool → M → List M → List M
  | true, _, R => R
  | false, m, [] => [m]
  | false, m, x :: R => if Op.bytesLess m.p x.p then m :: x :: R else x :: putGo false m R
theorem putGo_true (m : M) (R : List M) : putGo true m R = R := by rw [putGo]
theorem putGo_mem (m : M) : ∀ (L : List M) (y : M), y ∈ putGo false m L ↔ y = m ∨ y ∈ L
  | [], y => by rw [putGo, List.mem_singleton]; simp
  | x :: L, y => by
    rw [putGo]
    split
    · rw [List.mem_cons]
    · rw [List.mem_cons, putGo_mem m L y, List.mem_cons]
      constructor
      · rintro (h | h | h)
        · exact .inr (.inl h)
        · exact .inl h
        · exact .inr (.inr h)
      · rintro (h | h | h)
        · exact .inr (.inl h)
        · exact .inl h
        · exact .inr (.inr h)
theorem putGo_len (m : M) : ∀ (L : List M), (putGo false m L).length = L.length + 1
  | [] => rfl
  | x :: L => by
    rw [putGo]
    split
    · rfl
    · rw [List.length_cons, putGo_len m L, List.length_cons]
theorem putGo_vec (m : M) (hp : m.p ≠ []) (hn : 1 ≤ m.n) : ∀ (L : List M), Vec L → (∀ x ∈ L, x.p ≠ m.p) → Vec (putGo false m L)
  | [], _, _ => ⟨List.pairwise_singleton _ _, fun y hy => by rw [putGo, List.mem_singleton] at hy; rw [hy]; exact ⟨hp, hn⟩⟩
  | x :: L, hv, hne => by
    refine ⟨?_, fun y hy => ?_⟩
    · have hx := List.pairwise_cons.1 hv.1
      have hxm := hne x (List.mem_cons_self ..)
      rw [putGo]
      cases hl : Op.bytesLess m.p x.p with
      | true =>
        rw [if_pos rfl]
        have h1 : Less m x := by unfold Less; rw [Order.cmp_less _ _ hl]; decide
        refine List.pairwise_cons.2 ⟨fun y hy => ?_, hv.1⟩
        rcases List.mem_cons.1 hy with rfl | hy
        · exact h1
        · exact less_trans h1 (hx.1 y hy)
      | false =>
        rw [if_neg (by decide)]
        have h1 : Less x m := by unfold Less; rw [Order.cmp_flip, Order.cmp_more _ _ (fun e => hxm e.symm) hl]; decide
        refine List.pairwise_cons.2 ⟨fun y hy => ?_, (putGo_vec m hp hn L hv.tail fun z hz => hne z (List.mem_cons_of_mem _ hz)).1⟩
        rcases (putGo_mem m L y).1 hy with rfl | hy
        · exact h1
        · exact hx.1 y hy
    · rcases (putGo_mem m _ y).1 hy with rfl | hy
      · exact ⟨hp, hn⟩
      · exact hv.2 y hy
/-- A mark put into a vector that has none of its path. -/
theorem put_vec {R : List M} {f : List UInt8 → Nat} (h : IsVec R f) (m : M) (hp : m.p ≠ []) (hn : 1 ≤ m.n) (h0 : f m.p = 0) : IsVec (putGo false m R) (fun q => if q = m.p then m.n else f q) := by
  have hne : ∀ x ∈ R, x.p ≠ m.p := fun x hx e => by
    have h1 := vec_of h.1 hx
    have h2 := h.2 x.p
    have := (h.1.2 x hx).2
    rw [e] at h1 h2
    omega
  have hv := putGo_vec m hp hn R h.1 hne
  refine ⟨hv, fun q => ?_⟩
  by_cases e : q = m.p
  · subst e
    show _ = if m.p = m.p then m.n else f m.p
    rw [if_pos rfl]
    exact vec_of hv ((putGo_mem m R m).2 (.inl rfl))
  · show _ = if q = m.p then m.n else f q
    rw [if_neg e, ← h.2]
    refine Nat.le_antisymm ?_ ?_
    · rcases ofL_ex (putGo false m R) q with e0 | ⟨y, hy, e1, e2, e3⟩
      · rw [e0]; exact Nat.zero_le _
      · rcases (putGo_mem m R y).1 hy with rfl | hy
        · exact absurd e1.symm e
        · have := ofL_le R y hy (by rw [e1]; exact e2)
          rw [e1] at this; omega
    · rcases ofL_ex R q with e0 | ⟨y, hy, e1, e2, e3⟩
      · rw [e0]; exact Nat.zero_le _
      · have := ofL_le _ y ((putGo_mem m R y).2 (.inr hy)) (by rw [e1]; exact e2)
        rw [e1] at this; omega

theorem own_block {w : World} {B : Nat} {v : Value} {L : List M} (h : Mark.Own w B v L) : ∀ k, v.ownBlock = some k → B ≤ k := fun k e => (h.lt k e).1
/-- A mark appended to a call's own row. -/
theorem wpList_push {ops : Array Oper} {rest : List Oper} {o : Oper} {a : Act} {w : World} {Q : Exit → Act → World → Prop} (hgd : o.guard = none) (s x : Operand)
    (ho : o.op = .call { callee := .builtin .append, args := #[s, x], argTypes := #[25, 25] }) (B : Nat) (v : Value) (L : List M) (hs : a.eval s = v) (hown : Mark.Own w B v L)
    (ad : Addr) (c : Nat) (m : M) (hx : a.eval x = .slice (some ad) 1 c) (hnews : ∀ j u, ([.string ⟨m.p.toArray⟩, .int .u64 (m.n : Int)] : List Value)[j]? = some u → w.cell? (ad.add j) = some u)
    (hlen : L.length + 1 ≤ 1099511627780) (hbase : B ≤ w.heap.size)
    (h : ∀ v' w', Mark.Own w' B v' (L ++ [m]) → Below B w w' → wpList Try.prog ops Q rest (a.put o.dst v') w') : wpList Try.prog ops Q (o :: rest) a w := by
  obtain ⟨i0, hi, hz0, hz1, hz2⟩ := info_parts info_mark
  refine wpList_append_own w hgd s x 25 ho B 55 i0 (.agg #[.string ⟨#[]⟩, .int .u64 0]) 2 24 Try.underlying25 hi hz0 hz1 hz2 rfl (by decide) v L.length (flat L) hs hown ad 1 c _ hx rfl hnews (by simp [Value.oneCell']) (by unfold maxLen; omega) (by omega) hbase ?_
  intro v' w' h1 h2 _
  refine h v' w' ?_ (Below.grown (Below.refl B w) h2 hbase (own_block hown))
  unfold Mark.Own
  rw [← flat_snoc, List.length_append]
  exact h1

set_option maxRecDepth 100000 in
set_option maxHeartbeats 2000000 in
theorem put_any (m : M) (L : List M) (a : Option Addr) (n c : Nat) (w : World) (hL : Lies w a n L) (hn : n ≤ 1099511627776) :
    Calls Try.prog 39 #[.slice a n c, .agg #[.string ⟨m.p.toArray⟩, .int .u64 (m.n : Nat)]] w fun e w' => ∃ v : Value, e = .returned v ∧ Mark.Own w' w.heap.size v (putGo false m L) ∧ Below w.heap.size w w' := by
  have h0 := Below.refl w.heap.size w
  have HL := Lib.hid hL
  have HP := Lib.hid (putGo_len m L)
  clear hL
  go_enter Try.func39, Try.ntmps39
  go_wp2_with fail
  have x1 : (w.alloc (.cells #[.string ⟨m.p.toArray⟩, .int .u64 (m.n : Int)] 55)).cell? ⟨w.heap.size, 0, none⟩ = some (.string ⟨m.p.toArray⟩) := by rw [World.cell?_alloc_new]; rfl
  have x2 : (w.alloc (.cells #[.string ⟨m.p.toArray⟩, .int .u64 (m.n : Int)] 55)).cell? ⟨w.heap.size, 1, none⟩ = some (.int .u64 (m.n : Int)) := by rw [World.cell?_alloc_new]; rfl
  have hb0 : Below w.heap.size w (w.alloc (.cells #[.string ⟨m.p.toArray⟩, .int .u64 (m.n : Int)] 55)) := balloc h0 _
  have hs0 : (w.alloc (.cells #[.string ⟨m.p.toArray⟩, .int .u64 (m.n : Int)] 55)).heap.size = w.heap.size + 1 := by simp
  obtain ⟨B, hB⟩ : ∃ B, B = w.heap.size := ⟨_, rfl⟩
  rw [← hB] at x1 x2 hs0 ⊢
  obtain ⟨wb, hwb⟩ : ∃ wb, wb = w.alloc (.cells #[.string ⟨m.p.toArray⟩, .int .u64 (m.n : Int)] 55) := ⟨_, rfl⟩
  rw [← hwb] at x1 x2 hs0 hb0 ⊢
  have HB := Lib.hid (And.intro hB hs0)
  have HX := Lib.hid (And.intro x1 x2)
  have HB0 := Lib.hid hb0
  have HLb := Lib.hid (HL.out.below hb0)
  clear hwb hB hs0 x1 x2 hb0 HL
  go_loopw [5, 6, 7] (fun ov dv iv wr => ∃ (k : Nat) (d : Bool) (out : List M), k ≤ n ∧ iv = .int .i64 k ∧ dv = .bool d ∧ Mark.Own wr wb.heap.size ov out ∧ out ++ putGo d m (L.drop k) = putGo false m L ∧ Below wb.heap.size wb wr) (fun _ _ iv _ => n - (intOf iv).toNat)
  case atStart => exact ⟨0, false, [], by omega, rfl, rfl, Mark.Own.nil _ _, rfl, Below.refl _ _⟩
  case round =>
    obtain ⟨k, d, out, hk, rfl, rfl, hown, hs, hb⟩ := hrel
    have hln := HLb.out.1
    have x1 := (hb.cell (p := ⟨B, 0, none⟩) (by have := HB.out.2; show B < _; omega)).trans HX.out.1
    have x2 := (hb.cell (p := ⟨B, 1, none⟩) (by have := HB.out.2; show B < _; omega)).trans HX.out.2
    have hol : out.length ≤ n + 1 := by
      have h1 := congrArg List.length hs
      rw [List.length_append, HP.out] at h1
      omega
    have hwr := hb.size
    by_cases hlt : k < n
    · obtain ⟨b, off, rfl, hcell⟩ := HLb.out.2 (by omega)
      obtain ⟨c1, c2⟩ := hcell k (by omega)
      rw [List.drop_eq_getElem_cons (by omega)] at hs
      obtain ⟨x, hx⟩ : ∃ x, x = L[k]'(by omega) := ⟨_, rfl⟩
      rw [← hx] at c1 c2 hs
      have q1 := World.block_lt_of_cell? _ _ c2
      have HD := Lib.hid (And.intro c1 c2)
      replace c1 := (hb.cell (p := ⟨b, off + k * 2, none⟩) q1).trans c1
      replace c2 := (hb.cell (p := ⟨b, off + k * 2 + 1, none⟩) q1).trans c2
      have b1 : (0 : Int) ≤ (k : Int) := by omega
      have b2 : (k : Int) < (n : Int) := by omega
      clear hx hcell hln
      cases d with
      | true =>
        have HS : Hid ((out ++ [x]) ++ putGo true m (L.drop (k + 1)) = putGo false m L) := Lib.hid (by rw [List.append_assoc, putGo_true]; rw [putGo_true] at hs; exact hs)
        clear hs
        go_wp2_with fail
        refine wp_region_noPanic ?_
        refine wp_region_held_drew (S := (fun w' => (w'.cell? ⟨B, 0, none⟩ = some (.string ⟨m.p.toArray⟩) ∧ w'.cell? ⟨B, 1, none⟩ = some (.int .u64 (m.n : Int))) ∧ w'.cell? ⟨b, off + k * 2, none⟩ = some (.string ⟨x.p.toArray⟩) ∧ w'.cell? ⟨b, off + k * 2 + 1, none⟩ = some (.int .u64 (x.n : Int)))) (by kernel_rfl) (⟨⟨x1, x2⟩, c1, c2⟩) (fun hHeld => ?_)
        refine wpAnyH_take (i := 0) (v := ?_) (by simp only [List.getElem?_toArray, List.getElem?_cons_zero]; rfl) (by kernel_rfl) (by kernel_rfl) (by kernel_rfl) (fun _ _ _ h => h) (Or.inl ⟨by rfl, ?_⟩) (by assumption) ?_
        rotate_left
        · (intro w hSw; (try dsimp only at hSw); go_simp; try with_reducible rfl)
        try simp only [Act.put, List.setIfInBounds_toArray, List.set_cons_zero, List.set_cons_succ]
        refine wpAnyH_take (i := 1) (v := ?_) (by simp only [List.getElem?_toArray, List.getElem?_cons_succ, List.getElem?_cons_zero]; rfl) (by kernel_rfl) (by kernel_rfl) (by kernel_rfl) (fun _ _ _ h => h) (Or.inl ⟨by rfl, ?_⟩) (by assumption) ?_
        rotate_left
        · (intro w hSw; (try dsimp only at hSw); go_simp; try with_reducible rfl)
        try simp only [Act.put, List.setIfInBounds_toArray, List.set_cons_zero, List.set_cons_succ]
        refine wpAnyH_take (i := 2) (v := ?_) (by simp only [List.getElem?_toArray, List.getElem?_cons_succ, List.getElem?_cons_zero]; rfl) (by kernel_rfl) (by kernel_rfl) (by kernel_rfl) (fun _ _ _ h => h) (Or.inl ⟨by rfl, ?_⟩) (by assumption) ?_
        rotate_left
        · (intro w hSw; (try dsimp only at hSw); go_simp; try with_reducible rfl)
        try simp only [Act.put, List.setIfInBounds_toArray, List.set_cons_zero, List.set_cons_succ]
        refine wpAnyH_take (i := 3) (v := undef) (by simp only [List.getElem?_toArray, List.getElem?_cons_succ, List.getElem?_cons_zero]; rfl) (by kernel_rfl) (by kernel_rfl) (by kernel_rfl) (fun _ _ _ h => h) (Or.inr ⟨by rfl, rfl⟩) (by assumption) ?_
        try simp only [Act.put, List.setIfInBounds_toArray, List.set_cons_zero, List.set_cons_succ]
        refine wpAnyH_take (i := 4) (v := undef) (by simp only [List.getElem?_toArray, List.getElem?_cons_succ, List.getElem?_cons_zero]; rfl) (by kernel_rfl) (by kernel_rfl) (by kernel_rfl) (fun _ _ _ h => h) (Or.inr ⟨by rfl, rfl⟩) (by assumption) ?_
        try simp only [Act.put, List.setIfInBounds_toArray, List.set_cons_zero, List.set_cons_succ]
        refine wpAnyH_take (i := 5) (v := undef) (by simp only [List.getElem?_toArray, List.getElem?_cons_succ, List.getElem?_cons_zero]; rfl) (by kernel_rfl) (by kernel_rfl) (by kernel_rfl) (fun _ _ _ h => h) (Or.inr ⟨by rfl, rfl⟩) (by assumption) ?_
        try simp only [Act.put, List.setIfInBounds_toArray, List.set_cons_zero, List.set_cons_succ]
        refine wpAnyH_take (i := 6) (v := undef) (by simp only [List.getElem?_toArray, List.getElem?_cons_succ, List.getElem?_cons_zero]; rfl) (by kernel_rfl) (by kernel_rfl) (by kernel_rfl) (fun _ _ _ h => h) (Or.inr ⟨by rfl, rfl⟩) (by assumption) ?_
        try simp only [Act.put, List.setIfInBounds_toArray, List.set_cons_zero, List.set_cons_succ]
        refine wpAnyH_take (i := 7) (v := undef) (by simp only [List.getElem?_toArray, List.getElem?_cons_succ, List.getElem?_cons_zero]; rfl) (by kernel_rfl) (by kernel_rfl) (by kernel_rfl) (fun _ _ _ h => h) (Or.inr ⟨by rfl, rfl⟩) (by assumption) ?_
        try simp only [Act.put, List.setIfInBounds_toArray, List.set_cons_zero, List.set_cons_succ]
        refine wpAnyH_take (i := 8) (v := undef) (by simp only [List.getElem?_toArray, List.getElem?_cons_succ, List.getElem?_cons_zero]; rfl) (by kernel_rfl) (by kernel_rfl) (by kernel_rfl) (fun _ _ _ h => h) (Or.inr ⟨by rfl, rfl⟩) (by assumption) ?_
        try simp only [Act.put, List.setIfInBounds_toArray, List.set_cons_zero, List.set_cons_succ]
        refine wpAnyH_take (i := 9) (v := undef) (by simp only [List.getElem?_toArray, List.getElem?_cons_succ, List.getElem?_cons_zero]; rfl) (by kernel_rfl) (by kernel_rfl) (by kernel_rfl) (fun _ _ _ h => h) (Or.inr ⟨by rfl, rfl⟩) (by assumption) ?_
        try simp only [Act.put, List.setIfInBounds_toArray, List.set_cons_zero, List.set_cons_succ]
        refine wpAnyH_take (i := 10) (v := undef) (by simp only [List.getElem?_toArray, List.getElem?_cons_succ, List.getElem?_cons_zero]; rfl) (by kernel_rfl) (by kernel_rfl) (by kernel_rfl) (fun _ _ _ h => h) (Or.inr ⟨by rfl, rfl⟩) (by assumption) ?_
        try simp only [Act.put, List.setIfInBounds_toArray, List.set_cons_zero, List.set_cons_succ]
        refine wpAnyH_take (i := 11) (v := ?_) (by simp only [List.getElem?_toArray, List.getElem?_cons_succ, List.getElem?_cons_zero]; rfl) (by kernel_rfl) (by kernel_rfl) (by kernel_rfl) (fun _ _ _ h => h) (Or.inl ⟨by rfl, ?_⟩) (by assumption) ?_
        rotate_left
        · (intro w hSw; (try dsimp only at hSw); go_simp; try with_reducible rfl)
        try simp only [Act.put, List.setIfInBounds_toArray, List.set_cons_zero, List.set_cons_succ]
        refine wpAnyH_done (by kernel_rfl) ?_ _
        refine NoPanic.normal ?_
        go_wp2_with (at_builtin; refine wpList_push rfl _ _ rfl wb.heap.size _ _ rfl ((Mark.Own.drew hown).alloc _) _ _ x rfl (cells2_new _ _ _ _) (by simp; omega) (by simp; omega) ?_; intro v1 w1 o1 k1; have g1 := (balloc (Below.drew hb) _).trans k1)
        go_roundw
        case rel => exact ⟨k + 1, true, out ++ [x], by omega, by go_num, rfl, o1, HS.out, g1⟩
        case measure => simp [intOf]; omega
      | false =>
        rw [putGo] at hs
        cases hl : Op.bytesLess m.p x.p with
        | true =>
          rw [hl, if_pos rfl] at hs
          have HS : Hid ((out ++ [m] ++ [x]) ++ putGo true m (L.drop (k + 1)) = putGo false m L) := Lib.hid (by rw [List.append_assoc, List.append_assoc, putGo_true]; exact hs)
          clear hs
          go_wp2_with fail
          refine wp_region_noPanic ?_
          refine wp_region_held_drew (S := (fun w' => (w'.cell? ⟨B, 0, none⟩ = some (.string ⟨m.p.toArray⟩) ∧ w'.cell? ⟨B, 1, none⟩ = some (.int .u64 (m.n : Int))) ∧ w'.cell? ⟨b, off + k * 2, none⟩ = some (.string ⟨x.p.toArray⟩) ∧ w'.cell? ⟨b, off + k * 2 + 1, none⟩ = some (.int .u64 (x.n : Int)))) (by kernel_rfl) (⟨⟨x1, x2⟩, c1, c2⟩) (fun hHeld => ?_)
          refine wpAnyH_take (i := 0) (v := ?_) (by simp only [List.getElem?_toArray, List.getElem?_cons_zero]; rfl) (by kernel_rfl) (by kernel_rfl) (by kernel_rfl) (fun _ _ _ h => h) (Or.inl ⟨by rfl, ?_⟩) (by assumption) ?_
          rotate_left
          · (intro w hSw; (try dsimp only at hSw); go_simp; try with_reducible rfl)
          try simp only [Act.put, List.setIfInBounds_toArray, List.set_cons_zero, List.set_cons_succ]
          refine wpAnyH_take (i := 1) (v := ?_) (by simp only [List.getElem?_toArray, List.getElem?_cons_succ, List.getElem?_cons_zero]; rfl) (by kernel_rfl) (by kernel_rfl) (by kernel_rfl) (fun _ _ _ h => h) (Or.inl ⟨by rfl, ?_⟩) (by assumption) ?_
          rotate_left
          · (intro w hSw; (try dsimp only at hSw); go_simp; try with_reducible rfl)
          try simp only [Act.put, List.setIfInBounds_toArray, List.set_cons_zero, List.set_cons_succ]
          refine wpAnyH_take (i := 2) (v := ?_) (by simp only [List.getElem?_toArray, List.getElem?_cons_succ, List.getElem?_cons_zero]; rfl) (by kernel_rfl) (by kernel_rfl) (by kernel_rfl) (fun _ _ _ h => h) (Or.inl ⟨by rfl, ?_⟩) (by assumption) ?_
          rotate_left
          · (intro w hSw; (try dsimp only at hSw); go_simp; try with_reducible rfl)
          try simp only [Act.put, List.setIfInBounds_toArray, List.set_cons_zero, List.set_cons_succ]
          refine wpAnyH_take (i := 3) (v := ?_) (by simp only [List.getElem?_toArray, List.getElem?_cons_succ, List.getElem?_cons_zero]; rfl) (by kernel_rfl) (by kernel_rfl) (by kernel_rfl) (fun _ _ _ h => h) (Or.inl ⟨by rfl, ?_⟩) (by assumption) ?_
          rotate_left
          · (intro w hSw; (try dsimp only at hSw); go_simp; try with_reducible rfl)
          try simp only [Act.put, List.setIfInBounds_toArray, List.set_cons_zero, List.set_cons_succ]
          refine wpAnyH_take (i := 4) (v := ?_) (by simp only [List.getElem?_toArray, List.getElem?_cons_succ, List.getElem?_cons_zero]; rfl) (by kernel_rfl) (by kernel_rfl) (by kernel_rfl) (fun _ _ _ h => h) (Or.inl ⟨by rfl, ?_⟩) (by assumption) ?_
          rotate_left
          · (intro w hSw; (try dsimp only at hSw); go_simp; try with_reducible rfl)
          try simp only [Act.put, List.setIfInBounds_toArray, List.set_cons_zero, List.set_cons_succ]
          refine wpAnyH_take (i := 5) (v := ?_) (by simp only [List.getElem?_toArray, List.getElem?_cons_succ, List.getElem?_cons_zero]; rfl) (by kernel_rfl) (by kernel_rfl) (by kernel_rfl) (fun _ _ _ h => h) (Or.inl ⟨by rfl, ?_⟩) (by assumption) ?_
          rotate_left
          · (intro w hSw; (try dsimp only at hSw); go_simp; try with_reducible rfl)
          try simp only [Act.put, List.setIfInBounds_toArray, List.set_cons_zero, List.set_cons_succ]
          refine wpAnyH_take (i := 6) (v := ?_) (by simp only [List.getElem?_toArray, List.getElem?_cons_succ, List.getElem?_cons_zero]; rfl) (by kernel_rfl) (by kernel_rfl) (by kernel_rfl) (fun _ _ _ h => h) (Or.inl ⟨by rfl, ?_⟩) (by assumption) ?_
          rotate_left
          · (intro w hSw; (try dsimp only at hSw); go_simp; try with_reducible rfl)
          try simp only [Act.put, List.setIfInBounds_toArray, List.set_cons_zero, List.set_cons_succ]
          refine wpAnyH_take (i := 7) (v := ?_) (by simp only [List.getElem?_toArray, List.getElem?_cons_succ, List.getElem?_cons_zero]; rfl) (by kernel_rfl) (by kernel_rfl) (by kernel_rfl) (fun _ _ _ h => h) (Or.inl ⟨by rfl, ?_⟩) (by assumption) ?_
          rotate_left
          · (intro w hSw; (try dsimp only at hSw); go_simp; try with_reducible rfl)
          try simp only [Act.put, List.setIfInBounds_toArray, List.set_cons_zero, List.set_cons_succ]
          refine wpAnyH_take (i := 8) (v := ?_) (by simp only [List.getElem?_toArray, List.getElem?_cons_succ, List.getElem?_cons_zero]; rfl) (by kernel_rfl) (by kernel_rfl) (by kernel_rfl) (fun _ _ _ h => h) (Or.inl ⟨by rfl, ?_⟩) (by assumption) ?_
          rotate_left
          · (intro w hSw; (try dsimp only at hSw); go_simp; try with_reducible rfl)
          try simp only [Act.put, List.setIfInBounds_toArray, List.set_cons_zero, List.set_cons_succ]
          refine wpAnyH_take (i := 9) (v := ?_) (by simp only [List.getElem?_toArray, List.getElem?_cons_succ, List.getElem?_cons_zero]; rfl) (by kernel_rfl) (by kernel_rfl) (by kernel_rfl) (fun _ _ _ h => h) (Or.inl ⟨by rfl, ?_⟩) (by assumption) ?_
          rotate_left
          · (intro w hSw; (try dsimp only at hSw); go_simp; try with_reducible rfl)
          try simp only [Act.put, List.setIfInBounds_toArray, List.set_cons_zero, List.set_cons_succ]
          refine wpAnyH_take (i := 10) (v := ?_) (by simp only [List.getElem?_toArray, List.getElem?_cons_succ, List.getElem?_cons_zero]; rfl) (by kernel_rfl) (by kernel_rfl) (by kernel_rfl) (fun _ _ _ h => h) (Or.inl ⟨by rfl, ?_⟩) (by assumption) ?_
          rotate_left
          · (intro w hSw; (try dsimp only at hSw); go_simp; try with_reducible rfl)
          try simp only [Act.put, List.setIfInBounds_toArray, List.set_cons_zero, List.set_cons_succ]
          refine wpAnyH_take (i := 11) (v := ?_) (by simp only [List.getElem?_toArray, List.getElem?_cons_succ, List.getElem?_cons_zero]; rfl) (by kernel_rfl) (by kernel_rfl) (by kernel_rfl) (fun _ _ _ h => h) (Or.inl ⟨by rfl, ?_⟩) (by assumption) ?_
          rotate_left
          · (intro w hSw; (try dsimp only at hSw); go_simp; try with_reducible rfl)
          try simp only [Act.put, List.setIfInBounds_toArray, List.set_cons_zero, List.set_cons_succ]
          refine wpAnyH_done (by kernel_rfl) ?_ _
          refine NoPanic.normal ?_
          go_wp2_with (at_builtin; first | (refine wpList_push rfl _ _ rfl wb.heap.size _ _ rfl (o1.alloc _) _ _ x rfl (cells2_new _ _ _ _) (by simp; omega) (by simp; omega) ?_; intro v2 w2 o2 k2; have g2 := (balloc g1 _).trans k2) | (refine wpList_push rfl _ _ rfl wb.heap.size _ _ rfl ((Mark.Own.drew hown).alloc _) _ _ m rfl (cells2_new _ _ _ _) (by simp; omega) (by simp; omega) ?_; intro v1 w1 o1 k1; have g1 := (balloc (Below.drew hb) _).trans k1; have c3 := (g1.cell (p := ⟨b, off + k * 2, none⟩) q1).trans HD.out.1; have c4 := (g1.cell (p := ⟨b, off + k * 2 + 1, none⟩) q1).trans HD.out.2; clear x1 x2 c1 c2; have z1 := g1.size))
          go_roundw
          case rel => exact ⟨k + 1, true, out ++ [m] ++ [x], by omega, by go_num, rfl, o2, HS.out, g2⟩
          case measure => simp [intOf]; omega
        | false =>
          rw [hl, if_neg (by decide)] at hs
          have HS : Hid ((out ++ [x]) ++ putGo false m (L.drop (k + 1)) = putGo false m L) := Lib.hid (by rw [List.append_assoc]; exact hs)
          clear hs
          go_wp2_with fail
          refine wp_region_noPanic ?_
          refine wp_region_held_drew (S := (fun w' => (w'.cell? ⟨B, 0, none⟩ = some (.string ⟨m.p.toArray⟩) ∧ w'.cell? ⟨B, 1, none⟩ = some (.int .u64 (m.n : Int))) ∧ w'.cell? ⟨b, off + k * 2, none⟩ = some (.string ⟨x.p.toArray⟩) ∧ w'.cell? ⟨b, off + k * 2 + 1, none⟩ = some (.int .u64 (x.n : Int)))) (by kernel_rfl) (⟨⟨x1, x2⟩, c1, c2⟩) (fun hHeld => ?_)
          refine wpAnyH_take (i := 0) (v := ?_) (by simp only [List.getElem?_toArray, List.getElem?_cons_zero]; rfl) (by kernel_rfl) (by kernel_rfl) (by kernel_rfl) (fun _ _ _ h => h) (Or.inl ⟨by rfl, ?_⟩) (by assumption) ?_
          rotate_left
          · (intro w hSw; (try dsimp only at hSw); go_simp; try with_reducible rfl)
          try simp only [Act.put, List.setIfInBounds_toArray, List.set_cons_zero, List.set_cons_succ]
          refine wpAnyH_take (i := 1) (v := ?_) (by simp only [List.getElem?_toArray, List.getElem?_cons_succ, List.getElem?_cons_zero]; rfl) (by kernel_rfl) (by kernel_rfl) (by kernel_rfl) (fun _ _ _ h => h) (Or.inl ⟨by rfl, ?_⟩) (by assumption) ?_
          rotate_left
          · (intro w hSw; (try dsimp only at hSw); go_simp; try with_reducible rfl)
          try simp only [Act.put, List.setIfInBounds_toArray, List.set_cons_zero, List.set_cons_succ]
          refine wpAnyH_take (i := 2) (v := ?_) (by simp only [List.getElem?_toArray, List.getElem?_cons_succ, List.getElem?_cons_zero]; rfl) (by kernel_rfl) (by kernel_rfl) (by kernel_rfl) (fun _ _ _ h => h) (Or.inl ⟨by rfl, ?_⟩) (by assumption) ?_
          rotate_left
          · (intro w hSw; (try dsimp only at hSw); go_simp; try with_reducible rfl)
          try simp only [Act.put, List.setIfInBounds_toArray, List.set_cons_zero, List.set_cons_succ]
          refine wpAnyH_take (i := 3) (v := ?_) (by simp only [List.getElem?_toArray, List.getElem?_cons_succ, List.getElem?_cons_zero]; rfl) (by kernel_rfl) (by kernel_rfl) (by kernel_rfl) (fun _ _ _ h => h) (Or.inl ⟨by rfl, ?_⟩) (by assumption) ?_
          rotate_left
          · (intro w hSw; (try dsimp only at hSw); go_simp; try with_reducible rfl)
          try simp only [Act.put, List.setIfInBounds_toArray, List.set_cons_zero, List.set_cons_succ]
          refine wpAnyH_take (i := 4) (v := ?_) (by simp only [List.getElem?_toArray, List.getElem?_cons_succ, List.getElem?_cons_zero]; rfl) (by kernel_rfl) (by kernel_rfl) (by kernel_rfl) (fun _ _ _ h => h) (Or.inl ⟨by rfl, ?_⟩) (by assumption) ?_
          rotate_left
          · (intro w hSw; (try dsimp only at hSw); go_simp; try with_reducible rfl)
          try simp only [Act.put, List.setIfInBounds_toArray, List.set_cons_zero, List.set_cons_succ]
          refine wpAnyH_take (i := 5) (v := ?_) (by simp only [List.getElem?_toArray, List.getElem?_cons_succ, List.getElem?_cons_zero]; rfl) (by kernel_rfl) (by kernel_rfl) (by kernel_rfl) (fun _ _ _ h => h) (Or.inl ⟨by rfl, ?_⟩) (by assumption) ?_
          rotate_left
          · (intro w hSw; (try dsimp only at hSw); go_simp; try with_reducible rfl)
          try simp only [Act.put, List.setIfInBounds_toArray, List.set_cons_zero, List.set_cons_succ]
          refine wpAnyH_take (i := 6) (v := ?_) (by simp only [List.getElem?_toArray, List.getElem?_cons_succ, List.getElem?_cons_zero]; rfl) (by kernel_rfl) (by kernel_rfl) (by kernel_rfl) (fun _ _ _ h => h) (Or.inl ⟨by rfl, ?_⟩) (by assumption) ?_
          rotate_left
          · (intro w hSw; (try dsimp only at hSw); go_simp; try with_reducible rfl)
          try simp only [Act.put, List.setIfInBounds_toArray, List.set_cons_zero, List.set_cons_succ]
          refine wpAnyH_take (i := 7) (v := ?_) (by simp only [List.getElem?_toArray, List.getElem?_cons_succ, List.getElem?_cons_zero]; rfl) (by kernel_rfl) (by kernel_rfl) (by kernel_rfl) (fun _ _ _ h => h) (Or.inl ⟨by rfl, ?_⟩) (by assumption) ?_
          rotate_left
          · (intro w hSw; (try dsimp only at hSw); go_simp; try with_reducible rfl)
          try simp only [Act.put, List.setIfInBounds_toArray, List.set_cons_zero, List.set_cons_succ]
          refine wpAnyH_take (i := 8) (v := ?_) (by simp only [List.getElem?_toArray, List.getElem?_cons_succ, List.getElem?_cons_zero]; rfl) (by kernel_rfl) (by kernel_rfl) (by kernel_rfl) (fun _ _ _ h => h) (Or.inl ⟨by rfl, ?_⟩) (by assumption) ?_
          rotate_left
          · (intro w hSw; (try dsimp only at hSw); go_simp; try with_reducible rfl)
          try simp only [Act.put, List.setIfInBounds_toArray, List.set_cons_zero, List.set_cons_succ]
          refine wpAnyH_take (i := 9) (v := ?_) (by simp only [List.getElem?_toArray, List.getElem?_cons_succ, List.getElem?_cons_zero]; rfl) (by kernel_rfl) (by kernel_rfl) (by kernel_rfl) (fun _ _ _ h => h) (Or.inl ⟨by rfl, ?_⟩) (by assumption) ?_
          rotate_left
          · (intro w hSw; (try dsimp only at hSw); go_simp; try with_reducible rfl)
          try simp only [Act.put, List.setIfInBounds_toArray, List.set_cons_zero, List.set_cons_succ]
          refine wpAnyH_take (i := 10) (v := ?_) (by simp only [List.getElem?_toArray, List.getElem?_cons_succ, List.getElem?_cons_zero]; rfl) (by kernel_rfl) (by kernel_rfl) (by kernel_rfl) (fun _ _ _ h => h) (Or.inl ⟨by rfl, ?_⟩) (by assumption) ?_
          rotate_left
          · (intro w hSw; (try dsimp only at hSw); go_simp; try with_reducible rfl)
          try simp only [Act.put, List.setIfInBounds_toArray, List.set_cons_zero, List.set_cons_succ]
          refine wpAnyH_take (i := 11) (v := ?_) (by simp only [List.getElem?_toArray, List.getElem?_cons_succ, List.getElem?_cons_zero]; rfl) (by kernel_rfl) (by kernel_rfl) (by kernel_rfl) (fun _ _ _ h => h) (Or.inl ⟨by rfl, ?_⟩) (by assumption) ?_
          rotate_left
          · (intro w hSw; (try dsimp only at hSw); go_simp; try with_reducible rfl)
          try simp only [Act.put, List.setIfInBounds_toArray, List.set_cons_zero, List.set_cons_succ]
          refine wpAnyH_done (by kernel_rfl) ?_ _
          refine NoPanic.normal ?_
          go_wp2_with (at_builtin; refine wpList_push rfl _ _ rfl wb.heap.size _ _ rfl ((Mark.Own.drew hown).alloc _) _ _ x rfl (cells2_new _ _ _ _) (by simp; omega) (by simp; omega) ?_; intro v1 w1 o1 k1; have g1 := (balloc (Below.drew hb) _).trans k1)
          go_roundw
          case rel => exact ⟨k + 1, false, out ++ [x], by omega, by go_num, rfl, o1, HS.out, g1⟩
          case measure => simp [intOf]; omega
    · obtain rfl : k = n := by omega
      rw [List.drop_eq_nil_of_le (by omega)] at hs
      have hd : decide ((k : Int) < (k : Int)) = false := decide_eq_false (by omega)
      clear hln
      cases d with
      | true =>
        have HS : Hid (out = putGo false m L) := Lib.hid (by rw [← hs, putGo, List.append_nil])
        clear hs
        go_wp2
        go_ret
        exact ⟨_, rfl, by rw [← HS.out]; exact hown.base (by have := HB.out; omega), HB0.out.trans (hb.mono (by have := HB.out; omega))⟩
      | false =>
        have HS : Hid (out ++ [m] = putGo false m L) := Lib.hid hs
        clear hs
        go_wp2_with (at_builtin; refine wpList_push rfl _ _ rfl wb.heap.size _ _ rfl (hown.alloc _) _ _ m rfl (cells2_new _ _ _ _) (by simp; omega) (by simp; omega) ?_; intro v1 w1 o1 k1; have g1 := (balloc hb _).trans k1)
        go_ret
        exact ⟨_, rfl, by rw [← HS.out]; exact o1.base (by have := HB.out; omega), HB0.out.trans (g1.mono (by have := HB.out; omega))⟩


end RefDots
end Go.Proofs.Ytcbnkncgacbniaa
