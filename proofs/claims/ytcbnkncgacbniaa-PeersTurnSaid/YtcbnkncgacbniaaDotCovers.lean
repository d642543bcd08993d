
/- package dots: Covers. -/
import Derived.Test.YtcbnkncgacbniaaDotPairs
import Derived.Test.YtcbnkncgacbniaaDotSort
namespace Go.Proofs.Ytcbnkncgacbniaa
namespace Dots
open Go.RowKit Go.Shelf Go.Proofs.Ytcbnkncgacbniaa.Mark
attribute [local go_sem] Oper.semAt_some

theorem pairs_w (a1 a2 : Option Addr) (n1 c1 n2 c2 : Nat) (w : World) :
    Calls Try.prog 37 #[.slice a1 n1 c1, .slice a2 n2 c2] w fun e w' => e = .returned (.func (.func 49) #[] #[.pointer (some ⟨w.heap.size, 0, none⟩), .pointer (some ⟨w.heap.size + 1, 0, none⟩)]) ∧ w' = (w.alloc (.cells #[.slice a1 n1 c1] 25)).alloc (.cells #[.slice a2 n2 c2] 25) := by
  have hmf : ∀ (fn : Fn) (first cap : Array Value) (w : World), (Instr.makeFunc fn first cap).run Try.prog w = .ok (.func fn first cap) w := fun _ _ _ _ => rfl
  go_enter Try.func37, Try.ntmps37
  go_wp2
  go_ret
  exact ⟨rfl, rfl⟩
theorem mid_t {n1 n0 : Nat} {A B C : World} (h : Mid n1 n0 A B) (k : Mid n1 n0 B C) : Mid n1 n0 A C := h.trans k
theorem mid_b {n1 n0 : Nat} {w : World} (hn : n0 ≤ w.heap.size) (W : World) (l : Nat) (o o' : Obj) (hl : w.heap.size ≤ l) (h : W.heap[l]? = some o) (h1 : o.isCells = false) (h2 : o.isWalk = false) : Mid n1 n0 W (W.putObj l o') := mid_below (belowK_b hn W l o o' hl h h1 h2)
/-- Two tidied lists behind one another, and the boxes of the iterator over them. -/
theorem rows_of {w0 w1 w2 : World} {v1 v2 : Value} {R S : List M} {n1 : Nat} (hn : n1 = w0.heap.size) (o1 : Mark.Own w1 w0.heap.size v1 R) (b1 : w0.heap.size ≤ w1.heap.size) (o2 : Mark.Own w2 w1.heap.size v2 S) (b2 : Below w1.heap.size w1 w2) :
    ∃ aA aB cA cB, v1 = .slice aA R.length cA ∧ v2 = .slice aB S.length cB ∧ Rows n1 (w2.heap.size + 1 + 1) ((w2.alloc (.cells #[v1] 25)).alloc (.cells #[v2] 25)) w2.heap.size (w2.heap.size + 1) aA aB cA cB R S := by
  subst hn
  have hs := b2.size
  have o1' := o1.below b2
  obtain ⟨aA, cA, rfl, _, _, l1, i1⟩ := o1'.lies
  obtain ⟨aB, cB, rfl, _, _, l2, i2⟩ := o2.lies
  have k : Below w2.heap.size w2 ((w2.alloc (.cells #[.slice aA R.length cA] 25)).alloc (.cells #[.slice aB S.length cB] 25)) := balloc (balloc (Below.refl _ _) _) _
  have lt : ∀ (v : Value) (B : Nat) (L : List M), Mark.Own w2 B v L → ∀ q n c, v = .slice (some q) n c → q.block < w2.heap.size := by
    intro v B L h q n c e
    exact (World.ownsRow.lt h q.block (by rw [e]; rfl)).2
  refine ⟨aA, aB, cA, cB, rfl, rfl, ⟨⟨by omega, by omega⟩, ⟨by omega, by omega⟩, ?_, ?_, l1.below k, l2.below k, fun q e => ?_, fun q e => ?_⟩⟩
  · exact Lib.cell?_alloc_some _ (by rw [World.cell?_alloc_new]; rfl)
  · have h := World.cell?_alloc_new (w := w2.alloc (.cells #[.slice aA R.length cA] 25)) (c := #[.slice aB S.length cB]) (i := 0) (t := 25)
    rw [World.size_alloc] at h
    exact h
  · have := i1 q e; have := lt _ _ _ o1' q _ _ (by rw [e]); omega
  · have := i2 q e; have := lt _ _ _ o2 q _ _ (by rw [e]); omega

/-- A pair's box. -/
def Box3 (W : World) (B : Nat) (x : P3) : Prop := W.heap[B]? = some (.cells #[.string ⟨x.p.toArray⟩, .int .u64 (x.a : Int), .int .u64 (x.b : Int)] 73 (0, 0))
theorem box3_own (B : Nat) (x : P3) : Go.Own (fun (_ : Unit) W => Box3 W B x) := fun s X Y row hs hg hrow => by
  refine (hg.block B (Array.getElem?_eq_some_iff.1 hs).1 fun e => ?_).trans hs
  obtain ⟨o, ho, hc⟩ := hrow B e.symm
  rw [show X.heap[B]? = _ from hs] at ho; cases ho; cases hc
theorem Box3.cells {W : World} {B : Nat} {x : P3} (h : Box3 W B x) : W.cell? ⟨B, 0, none⟩ = some (.string ⟨x.p.toArray⟩) ∧ W.cell? ⟨B, 1, none⟩ = some (.int .u64 (x.a : Int)) ∧ W.cell? ⟨B, 2, none⟩ = some (.int .u64 (x.b : Int)) := by
  unfold Box3 at h
  refine ⟨?_, ?_, ?_⟩ <;> simp [World.cell?, h]

set_option maxRecDepth 100000 in
set_option maxHeartbeats 1000000 in
theorem covers_in (L K : List M) (a1 a2 : Option Addr) (n1 n2 c1 c2 : Nat) (w : World) (hL : Lies w a1 n1 L) (hK : Lies w a2 n2 K) (hn1 : n1 ≤ 1099511627776) (hn2 : n2 ≤ 1099511627776) :
    CallsIn Fence.wide 10 Try.prog 28 #[.slice a1 n1 c1, .slice a2 n2 c2] w fun e w' => ∃ R S : List M, IsVec R (ofL L) ∧ IsVec S (ofL K) ∧ e = .returned (.bool ((pairsL R S).all fun x => decide (x.b ≤ x.a))) ∧ Below w.heap.size w w' := by
  have C1 := Lib.hid (fun W (k : Below w.heap.size w W) => tidy_any L a1 n1 c1 W (hL.below k) hn1)
  have C2 := Lib.hid (fun W (k : Below w.heap.size w W) => tidy_any K a2 n2 c2 W (hK.below k) hn2)
  have hl1 := hL.1
  have hl2 := hK.1
  have h0 := Below.refl w.heap.size w
  have HL1 := Lib.hid hl1
  have HL2 := Lib.hid hl2
  clear hL hK hl1 hl2
  refine callsIn_of_wp_marks Try.func28 rfl trivial ?_ rfl
  simp only [Try.ntmps28, List.size_toArray, List.length_cons, List.length_nil, Nat.reduceAdd, Nat.reduceSub, Array.replicate_succ, Array.replicate_zero, List.push_toArray, List.append_toArray, List.nil_append, List.cons_append]
  gi_wp2_with fail
  refine ⟨trivial, (callsIn_wide.2 (C1.out _ (balloc h0 _))).mono ?_⟩
  rintro e w1 ⟨v1, R, rfl, hR, hRl, o1, k1⟩
  have h1 := bstep (balloc h0 _) k1
  have s1 := k1.size
  gi_wp2_with fail
  refine ⟨trivial, (callsIn_wide.2 (C2.out _ h1)).mono ?_⟩
  rintro e w2 ⟨v2, S, rfl, hS, hSl, o2, k2⟩
  have h2 := bstep h1 k2
  obtain ⟨aA, aB, cA, cB, rfl, rfl, HRW⟩ := rows_of (n1 := w.heap.size + 1) (by simp) o1 s1 o2 k2
  gi_wp2_with fail
  refine ⟨trivial, (callsIn_wide.2 (pairs_w aA aB R.length cA S.length cB _)).mono ?_⟩
  rintro e w3 ⟨rfl, rfl⟩
  have hD0 := Boxed.new w 4 (.bool false)
  have hD1 : Boxed w1 w.heap.size 4 (.bool false) := hD0.kept (grown_of k1) (by simp)
  have hD2 : Boxed w2 w.heap.size 4 (.bool false) := hD1.kept (grown_of k2) (by simp)
  have s2 := h2.size
  have s3 : w.heap.size + 1 ≤ w2.heap.size := by have := k2.size; simp at s1; omega
  gi_wp2_with fail
  obtain ⟨W0, hW0⟩ : ∃ W0, ((w2.alloc (.cells #[.slice aA R.length cA] 25)).alloc (.cells #[.slice aB S.length cB] 25)) = W0 := ⟨_, rfl⟩
  have hD3 : Boxed W0 w.heap.size 4 (.bool false) := by rw [← hW0]; exact (hD2.alloc _).alloc _
  have hB3 : Below w.heap.size w W0 := by rw [← hW0]; exact balloc (balloc h2 _) _
  have hs3 : W0.heap.size = w2.heap.size + 1 + 1 := by rw [← hW0]; simp
  rw [hW0] at HRW ⊢
  have hrl : R.length ≤ 1099511627776 := by have := HL1.out; omega
  have hsl : S.length ≤ 1099511627776 := by have := HL2.out; omega
  clear hW0 hD0 hD1 hD2 k1 k2 o1 o2 s1 h1 hRl hSl
  refine wpIn_rangeFunc_ownH (α := P3) (encs := fun x => #[x.agg]) (Kp := Mid (w.heap.size + 1) (w2.heap.size + 1 + 1)) rfl (by decide) (gf := 49) (lb := #[.pointer (some ⟨w2.heap.size, 0, none⟩), .pointer (some ⟨w2.heap.size + 1, 0, none⟩)]) rfl trivial (enters_of Try.func49 (by kernel_rfl) rfl)
    (pairs_stops 9 (by decide) (w.heap.size + 1) (w2.heap.size + 1 + 1) w2.heap.size (w2.heap.size + 1) aA aB cA cB R S W0 HRW (by omega) hrl hsl) mid_t (mid_b (by omega)) (Below.refl _ _) (fun _ => rfl)
    (fun pre W => Boxed W w.heap.size 4 (.bool false) ∧ (∀ x ∈ pre, x.b ≤ x.a) ∧ W0.heap.size ≤ W.heap.size ∧ Below w.heap.size w W)
    (fun c pre W => (c = .ret ∧ ∃ x ∈ pre, x.a < x.b) ∧ Boxed W w.heap.size 4 (.bool false) ∧ Below w.heap.size w W)
    (OwnFrom.and ((boxed_own _ _ (fun _ : List P3 => Value.bool false)).from _) (OwnFrom.and (ownFrom_pure _ (fun pre : List P3 => ∀ x ∈ pre, x.b ≤ x.a)) (OwnFrom.and (fun s W W' row hs hg _ => Nat.le_trans hs hg.size) (ownFrom_below (Nat.le_refl _) (by omega)))))
    (fun c => OwnFrom.and (ownFrom_pure _ (fun pre : List P3 => c = .ret ∧ ∃ x ∈ pre, x.a < x.b)) (OwnFrom.and ((boxed_own _ _ (fun _ : List P3 => Value.bool false)).from _) (ownFrom_below (Nat.le_refl _) (by omega))))
    ⟨hD3, fun x h => (by cases h), Nat.le_refl _, hB3⟩
    (fun x a' W => ∃ Bx, W0.heap.size ≤ Bx ∧ Box3 W Bx x ∧ a' = { tmps := #[.slice a1 n1 c1, .slice a2 n2 c2, undef, undef, .pointer (some ⟨w.heap.size, 0, none⟩), .pointer (some ⟨Bx, 0, none⟩), .slice a1 n1 c1, .slice aA R.length cA, .slice a2 n2 c2, .slice aB S.length cB, .func (.func 49) #[] #[.pointer (some ⟨w2.heap.size, 0, none⟩), .pointer (some ⟨w2.heap.size + 1, 0, none⟩)], x.agg, undef, undef, undef, undef, undef], defers := [] })
    (fun x a' s W W' row hs hg hr => by obtain ⟨Bx, h1, h2, h3⟩ := hs; exact ⟨Bx, h1, (box3_own Bx x) s W W' row h2 hg (fun r e => (hr r e).2), h3⟩) ?assign ?body ?done ?stop
  case assign =>
    rintro l pre ⟨xp, xa, xb⟩ W K ⟨hD, hall, hsz, hB⟩ hK
    simp only [P3.agg] at hK ⊢
    have hws := hB.size
    gi_wp2
    exact hK _ _ ((KeepsOthers.alloc _ _).from _) (mid_below ((balloc (Below.refl W.heap.size W) _).mono (by omega))) ⟨hD.alloc _, hall, by simp; omega, balloc hB _⟩ ⟨W.heap.size, hsz, World.alloc_heap_new W _, rfl⟩
  case body =>
    rintro l pre ⟨xp, xa, xb⟩ a' W hl ⟨r, hr⟩ ⟨hD, hall, hsz, hB⟩ ⟨Bx, hBx, hbx, rfl⟩ hlt
    obtain ⟨e1, e2, e3⟩ := hbx.cells
    have q1 := hD.lt
    have q2 := hD.cell
    have q3 := hD.frozen
    simp only at e1 e2 e3
    by_cases hc : xa < xb
    · have hd : decide ((xa : Int) < (xb : Int)) = true := decide_eq_true (by omega)
      gi_wp2
      exact ⟨(KeepsOthers.setCell _ _ _).from _, ⟨rfl, _, List.mem_append.2 (.inr (List.mem_singleton.2 rfl)), hc⟩, hD.set _, bset hB (Nat.le_refl _) _⟩
    · have hd : decide ((xa : Int) < (xb : Int)) = false := decide_eq_false (by omega)
      gi_wp2
      refine ⟨KeepsFrom.refl _ _, mid_below (Below.refl _ _), hD, fun x hx => ?_, hsz, hB⟩
      rcases List.mem_append.1 hx with h | h
      · exact hall x h
      · rw [List.mem_singleton.1 h]; show xb ≤ xa; omega
  case done =>
    rintro D xs W hD hxs ⟨hDb, hall, hsz, hB⟩ hK
    have q1 := hDb.lt
    have q2 := hDb.cell
    have q3 := hDb.frozen
    have hv : ((pairsL R S).all fun x => decide (x.b ≤ x.a)) = true := by
      rw [← hxs, List.all_eq_true]
      exact fun x hx => decide_eq_true (hall x hx)
    have HV := Lib.hid hv
    clear hv hxs hall
    gi_wp2
    have hK2 : (W.setCell ⟨w.heap.size, 0, none⟩ (.bool true)).heap[D]? = some (.deferred (some [])) := (KeepsOthers.setCell _ _ _).same D _ hK rfl
    refine ⟨by simp, .inl ⟨_, _, rfl, run_takeDeferred hK2, ?_⟩⟩
    have r0 := ((hDb.set (.bool true)).kept (grownBy_putObj' _ D (.deferred none)) (by simp; omega)).cell
    refine ⟨_, ?_, R, S, hR, hS, rfl, (bset hB (Nat.le_refl _) _).trans (belowK_b (w := w) (Nat.le_refl _) _ D _ _ (by omega) hK2 rfl rfl)⟩
    rw [HV.out]
    simp [results, Try.f28, go_sem, r0]
  case stop =>
    rintro D c pre W hD hpre ⟨⟨rfl, x, hx, hbad⟩, hDb, hB⟩ hK
    have hv : ((pairsL R S).all fun x => decide (x.b ≤ x.a)) = false := by
      rw [List.all_eq_false]
      exact ⟨x, hpre.2.subset hx, by simp; omega⟩
    have HV := Lib.hid hv
    clear hv
    gi_wp2
    have hK2 : (W).heap[D]? = some (.deferred (some [])) := hK
    refine ⟨by simp, .inl ⟨_, _, rfl, run_takeDeferred hK2, ?_⟩⟩
    have r0 := (hDb.kept (grownBy_putObj' _ D (.deferred none)) (by simp; omega)).cell
    refine ⟨_, ?_, R, S, hR, hS, rfl, hB.trans (belowK_b (w := w) (Nat.le_refl _) _ D _ _ (by omega) hK2 rfl rfl)⟩
    rw [HV.out]
    simp [results, Try.f28, go_sem, r0]
end Dots
end Go.Proofs.Ytcbnkncgacbniaa
