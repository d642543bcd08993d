/- Merged texts: DotCovers, DotJoin, Pairs, DotRest. -/
import Derived.Test.YtnpjkmomllkhpaaGreatTmDotPairs
import Derived.Test.YtnpjkmomllkhpaaGreatTmDotA
import Derived.RangeFuncBox
import Derived.Laws.Cover1
namespace Go.Proofs.YtnpjkmomllkhpaaGreat
namespace Dots
open Go.RowKit Go.Shelf Go.Proofs.YtnpjkmomllkhpaaGreat.Mark
attribute [local go_sem] Oper.semAt_some

theorem pairs_w (a1 a2 : Option Addr) (n1 c1 n2 c2 : Nat) (w : World) :
    Calls Tryz.prog 103 #[.slice a1 n1 c1, .slice a2 n2 c2] w fun e w' => e = .returned (.func (.func 113) #[] #[.pointer (some ⟨w.heap.size, 0, none⟩), .pointer (some ⟨w.heap.size + 1, 0, none⟩)]) ∧ w' = (w.alloc (.cells #[.slice a1 n1 c1] 22)).alloc (.cells #[.slice a2 n2 c2] 22) := by
  have hmf : ∀ (fn : Fn) (first cap : Array Value) (w : World), (Instr.makeFunc fn first cap).run Tryz.prog w = .ok (.func fn first cap) w := fun _ _ _ _ => rfl
  go_enter Tryz.func103, Tryz.ntmps103
  go_wp2
  go_ret
  exact ⟨rfl, rfl⟩
theorem mid_t {n1 n0 : Nat} {A B C : World} (h : Mid n1 n0 A B) (k : Mid n1 n0 B C) : Mid n1 n0 A C := h.trans k
theorem mid_b {n1 n0 : Nat} {w : World} (hn : n0 ≤ w.heap.size) (W : World) (l : Nat) (o o' : Obj) (hl : w.heap.size ≤ l) (h : W.heap[l]? = some o) (h1 : o.isCells = false) (h2 : o.isWalk = false) : Mid n1 n0 W (W.putObj l o') := mid_below (belowK_b hn W l o o' hl h h1 h2)
/-- Two tidied lists behind one another, and the boxes of the iterator over them. -/
theorem rows_of {w0 w1 w2 : World} {v1 v2 : Value} {R S : List M} {n1 : Nat} (hn : n1 = w0.heap.size) (o1 : Mark.Own w1 w0.heap.size v1 R) (b1 : w0.heap.size ≤ w1.heap.size) (o2 : Mark.Own w2 w1.heap.size v2 S) (b2 : Below w1.heap.size w1 w2) :
    ∃ aA aB cA cB, v1 = .slice aA R.length cA ∧ v2 = .slice aB S.length cB ∧ Rows n1 (w2.heap.size + 1 + 1) ((w2.alloc (.cells #[v1] 22)).alloc (.cells #[v2] 22)) w2.heap.size (w2.heap.size + 1) aA aB cA cB R S := by
  subst hn
  have hs := b2.size
  have o1' := o1.below b2
  obtain ⟨aA, cA, rfl, _, _, l1, i1⟩ := o1'.lies
  obtain ⟨aB, cB, rfl, _, _, l2, i2⟩ := o2.lies
  have k : Below w2.heap.size w2 ((w2.alloc (.cells #[.slice aA R.length cA] 22)).alloc (.cells #[.slice aB S.length cB] 22)) := balloc (balloc (Below.refl _ _) _) _
  have lt : ∀ (v : Value) (B : Nat) (L : List M), Mark.Own w2 B v L → ∀ q n c, v = .slice (some q) n c → q.block < w2.heap.size := by
    intro v B L h q n c e
    exact (World.ownsRow.lt h q.block (by rw [e]; rfl)).2
  refine ⟨aA, aB, cA, cB, rfl, rfl, ⟨⟨by omega, by omega⟩, ⟨by omega, by omega⟩, ?_, ?_, l1.below k, l2.below k, fun q e => ?_, fun q e => ?_⟩⟩
  · exact Lib.cell?_alloc_some _ (by rw [World.cell?_alloc_new]; rfl)
  · have h := World.cell?_alloc_new (w := w2.alloc (.cells #[.slice aA R.length cA] 22)) (c := #[.slice aB S.length cB]) (i := 0) (t := 22)
    rw [World.size_alloc] at h
    exact h
  · have := i1 q e; have := lt _ _ _ o1' q _ _ (by rw [e]); omega
  · have := i2 q e; have := lt _ _ _ o2 q _ _ (by rw [e]); omega

/-- A pair's box. -/
def Box3 (W : World) (B : Nat) (x : P3) : Prop := W.heap[B]? = some (.cells #[.string ⟨x.p.toArray⟩, .int .u64 (x.a : Int), .int .u64 (x.b : Int)] 166 (0, 0))
theorem box3_own (B : Nat) (x : P3) : Go.Own (fun (_ : Unit) W => Box3 W B x) := fun s X Y row hs hg hrow => by
  refine (hg.block B (Array.getElem?_eq_some_iff.1 hs).1 fun e => ?_).trans hs
  obtain ⟨o, ho, hc⟩ := hrow B e.symm
  rw [show X.heap[B]? = _ from hs] at ho; cases ho; cases hc
theorem Box3.cells {W : World} {B : Nat} {x : P3} (h : Box3 W B x) : W.cell? ⟨B, 0, none⟩ = some (.string ⟨x.p.toArray⟩) ∧ W.cell? ⟨B, 1, none⟩ = some (.int .u64 (x.a : Int)) ∧ W.cell? ⟨B, 2, none⟩ = some (.int .u64 (x.b : Int)) := by
  unfold Box3 at h
  refine ⟨?_, ?_, ?_⟩ <;> simp [World.cell?, h]

set_option maxRecDepth 100000 in
set_option maxHeartbeats 1000000 in
theorem covers_in (L K : List M) (a1 a2 : Option Addr) (n1 n2 c1 c2 : Nat) (w : World) (hL : Lies w a1 n1 L) (hK : Lies w a2 n2 K) (hn1 : n1 ≤ 1099511627776) (hn2 : n2 ≤ 1099511627776) :
    CallsIn Fence.wide 10 Tryz.prog 83 #[.slice a1 n1 c1, .slice a2 n2 c2] w fun e w' => ∃ R S : List M, IsVec R (ofL L) ∧ IsVec S (ofL K) ∧ e = .returned (.bool ((pairsL R S).all fun x => decide (x.b ≤ x.a))) ∧ Below w.heap.size w w' := by
  have C1 := Lib.hid (fun W (k : Below w.heap.size w W) => tidy_any L a1 n1 c1 W (hL.below k) hn1)
  have C2 := Lib.hid (fun W (k : Below w.heap.size w W) => tidy_any K a2 n2 c2 W (hK.below k) hn2)
  have hl1 := hL.1
  have hl2 := hK.1
  have h0 := Below.refl w.heap.size w
  have HL1 := Lib.hid hl1
  have HL2 := Lib.hid hl2
  clear hL hK hl1 hl2
  refine callsIn_of_wp_marks Tryz.func83 rfl trivial ?_ rfl
  simp only [Tryz.ntmps83, List.size_toArray, List.length_cons, List.length_nil, Nat.reduceAdd, Nat.reduceSub, Array.replicate_succ, Array.replicate_zero, List.push_toArray, List.append_toArray, List.nil_append, List.cons_append]
  gi_wp2_with fail
  refine ⟨trivial, (callsIn_wide.2 (C1.out _ (balloc h0 _))).mono ?_⟩
  rintro e w1 ⟨v1, R, rfl, hR, hRl, o1, k1⟩
  have h1 := bstep (balloc h0 _) k1
  have s1 := k1.size
  gi_wp2_with fail
  refine ⟨trivial, (callsIn_wide.2 (C2.out _ h1)).mono ?_⟩
  rintro e w2 ⟨v2, S, rfl, hS, hSl, o2, k2⟩
  have h2 := bstep h1 k2
  obtain ⟨aA, aB, cA, cB, rfl, rfl, HRW⟩ := rows_of (n1 := w.heap.size + 1) (by simp) o1 s1 o2 k2
  gi_wp2_with fail
  refine ⟨trivial, (callsIn_wide.2 (pairs_w aA aB R.length cA S.length cB _)).mono ?_⟩
  rintro e w3 ⟨rfl, rfl⟩
  have hD0 := Boxed.new w 4 (.bool false)
  have hD1 : Boxed w1 w.heap.size 4 (.bool false) := hD0.kept (grown_of k1) (by simp)
  have hD2 : Boxed w2 w.heap.size 4 (.bool false) := hD1.kept (grown_of k2) (by simp)
  have s2 := h2.size
  have s3 : w.heap.size + 1 ≤ w2.heap.size := by have := k2.size; simp at s1; omega
  gi_wp2_with fail
  obtain ⟨W0, hW0⟩ : ∃ W0, ((w2.alloc (.cells #[.slice aA R.length cA] 22)).alloc (.cells #[.slice aB S.length cB] 22)) = W0 := ⟨_, rfl⟩
  have hD3 : Boxed W0 w.heap.size 4 (.bool false) := by rw [← hW0]; exact (hD2.alloc _).alloc _
  have hB3 : Below w.heap.size w W0 := by rw [← hW0]; exact balloc (balloc h2 _) _
  have hs3 : W0.heap.size = w2.heap.size + 1 + 1 := by rw [← hW0]; simp
  rw [hW0] at HRW ⊢
  have hrl : R.length ≤ 1099511627776 := by have := HL1.out; omega
  have hsl : S.length ≤ 1099511627776 := by have := HL2.out; omega
  clear hW0 hD0 hD1 hD2 k1 k2 o1 o2 s1 h1 hRl hSl
  refine wpIn_rangeFunc_ownH (α := P3) (encs := fun x => #[x.agg]) (Kp := Mid (w.heap.size + 1) (w2.heap.size + 1 + 1)) rfl (by decide) (gf := 113) (lb := #[.pointer (some ⟨w2.heap.size, 0, none⟩), .pointer (some ⟨w2.heap.size + 1, 0, none⟩)]) rfl trivial (enters_of Tryz.func113 (by kernel_rfl) rfl)
    (pairs_stops 9 (by decide) (w.heap.size + 1) (w2.heap.size + 1 + 1) w2.heap.size (w2.heap.size + 1) aA aB cA cB R S W0 HRW (by omega) hrl hsl) mid_t (mid_b (by omega)) (Below.refl _ _) (fun _ => rfl)
    (fun pre W => Boxed W w.heap.size 4 (.bool false) ∧ (∀ x ∈ pre, x.b ≤ x.a) ∧ W0.heap.size ≤ W.heap.size ∧ Below w.heap.size w W)
    (fun c pre W => (c = .ret ∧ ∃ x ∈ pre, x.a < x.b) ∧ Boxed W w.heap.size 4 (.bool false) ∧ Below w.heap.size w W)
    (OwnFrom.and ((boxed_own _ _ (fun _ : List P3 => Value.bool false)).from _) (OwnFrom.and (ownFrom_pure _ (fun pre : List P3 => ∀ x ∈ pre, x.b ≤ x.a)) (OwnFrom.and (fun s W W' row hs hg _ => Nat.le_trans hs hg.size) (ownFrom_below (Nat.le_refl _) (by omega)))))
    (fun c => OwnFrom.and (ownFrom_pure _ (fun pre : List P3 => c = .ret ∧ ∃ x ∈ pre, x.a < x.b)) (OwnFrom.and ((boxed_own _ _ (fun _ : List P3 => Value.bool false)).from _) (ownFrom_below (Nat.le_refl _) (by omega))))
    ⟨hD3, fun x h => (by cases h), Nat.le_refl _, hB3⟩
    (fun x a' W => ∃ Bx, W0.heap.size ≤ Bx ∧ Box3 W Bx x ∧ a' = { tmps := #[.slice a1 n1 c1, .slice a2 n2 c2, undef, undef, .pointer (some ⟨w.heap.size, 0, none⟩), .pointer (some ⟨Bx, 0, none⟩), .slice a1 n1 c1, .slice aA R.length cA, .slice a2 n2 c2, .slice aB S.length cB, .func (.func 113) #[] #[.pointer (some ⟨w2.heap.size, 0, none⟩), .pointer (some ⟨w2.heap.size + 1, 0, none⟩)], x.agg, undef, undef, undef, undef, undef], defers := [] })
    (fun x a' s W W' row hs hg hr => by obtain ⟨Bx, h1, h2, h3⟩ := hs; exact ⟨Bx, h1, (box3_own Bx x) s W W' row h2 hg (fun r e => (hr r e).2), h3⟩) ?assign ?body ?done ?stop
  case assign =>
    rintro l pre ⟨xp, xa, xb⟩ W K ⟨hD, hall, hsz, hB⟩ hK
    simp only [P3.agg] at hK ⊢
    have hws := hB.size
    gi_wp2
    exact hK _ _ ((KeepsOthers.alloc _ _).from _) (mid_below ((balloc (Below.refl W.heap.size W) _).mono (by omega))) ⟨hD.alloc _, hall, by simp; omega, balloc hB _⟩ ⟨W.heap.size, hsz, World.alloc_heap_new W _, rfl⟩
  case body =>
    rintro l pre ⟨xp, xa, xb⟩ a' W hl ⟨r, hr⟩ ⟨hD, hall, hsz, hB⟩ ⟨Bx, hBx, hbx, rfl⟩ hlt
    obtain ⟨e1, e2, e3⟩ := hbx.cells
    have q1 := hD.lt
    have q2 := hD.cell
    have q3 := hD.frozen
    simp only at e1 e2 e3
    by_cases hc : xa < xb
    · have hd : decide ((xa : Int) < (xb : Int)) = true := decide_eq_true (by omega)
      gi_wp2
      exact ⟨(KeepsOthers.setCell _ _ _).from _, ⟨rfl, _, List.mem_append.2 (.inr (List.mem_singleton.2 rfl)), hc⟩, hD.set _, bset hB (Nat.le_refl _) _⟩
    · have hd : decide ((xa : Int) < (xb : Int)) = false := decide_eq_false (by omega)
      gi_wp2
      refine ⟨KeepsFrom.refl _ _, mid_below (Below.refl _ _), hD, fun x hx => ?_, hsz, hB⟩
      rcases List.mem_append.1 hx with h | h
      · exact hall x h
      · rw [List.mem_singleton.1 h]; show xb ≤ xa; omega
  case done =>
    rintro D xs W hD hxs ⟨hDb, hall, hsz, hB⟩ hK
    have q1 := hDb.lt
    have q2 := hDb.cell
    have q3 := hDb.frozen
    have hv : ((pairsL R S).all fun x => decide (x.b ≤ x.a)) = true := by
      rw [← hxs, List.all_eq_true]
      exact fun x hx => decide_eq_true (hall x hx)
    have HV := Lib.hid hv
    clear hv hxs hall
    gi_wp2
    have hK2 : (W.setCell ⟨w.heap.size, 0, none⟩ (.bool true)).heap[D]? = some (.deferred (some [])) := (KeepsOthers.setCell _ _ _).same D _ hK rfl
    refine ⟨by simp, .inl ⟨_, _, rfl, run_takeDeferred hK2, ?_⟩⟩
    have r0 := ((hDb.set (.bool true)).kept (grownBy_putObj' _ D (.deferred none)) (by simp; omega)).cell
    refine ⟨_, ?_, R, S, hR, hS, rfl, (bset hB (Nat.le_refl _) _).trans (belowK_b (w := w) (Nat.le_refl _) _ D _ _ (by omega) hK2 rfl rfl)⟩
    rw [HV.out]
    simp [results, Tryz.f83, go_sem, r0]
  case stop =>
    rintro D c pre W hD hpre ⟨⟨rfl, x, hx, hbad⟩, hDb, hB⟩ hK
    have hv : ((pairsL R S).all fun x => decide (x.b ≤ x.a)) = false := by
      rw [List.all_eq_false]
      exact ⟨x, hpre.2.subset hx, by simp; omega⟩
    have HV := Lib.hid hv
    clear hv
    gi_wp2
    have hK2 : (W).heap[D]? = some (.deferred (some [])) := hK
    refine ⟨by simp, .inl ⟨_, _, rfl, run_takeDeferred hK2, ?_⟩⟩
    have r0 := (hDb.kept (grownBy_putObj' _ D (.deferred none)) (by simp; omega)).cell
    refine ⟨_, ?_, R, S, hR, hS, rfl, hB.trans (belowK_b (w := w) (Nat.le_refl _) _ D _ _ (by omega) hK2 rfl rfl)⟩
    rw [HV.out]
    simp [results, Tryz.f83, go_sem, r0]
end Dots
end Go.Proofs.YtnpjkmomllkhpaaGreat

namespace Go.Proofs.YtnpjkmomllkhpaaGreat
namespace Dots
open Go.RowKit Go.Shelf Go.Proofs.YtnpjkmomllkhpaaGreat.Mark
attribute [local go_sem] Oper.semAt_some

def joinM (x : P3) : M := ⟨x.p, max x.a x.b⟩
theorem rowFrom {β : Type} (B n₀ : Nat) (e : TypeId) (size g cap : Nat) (k : β → Nat) (f : β → List Value) : OwnFrom B (fun (s : β) W => W.ownsRow n₀ e size (.slice (some ⟨g, 0, none⟩) (k s) cap) (k s) (f s)) := fun s X Y row hs hg hr => by
  refine hs.kept hg (.inr fun e' => ?_)
  obtain ⟨_, ob, h1, h2⟩ := hr g e'.symm
  rcases hs.2 with ⟨h, _⟩ | ⟨g', cap', cur, h, _, hgb, _⟩
  · cases h
  · simp only [Value.slice.injEq, Option.some.injEq, Addr.mk.injEq, and_true, true_and] at h
    obtain ⟨rfl, rfl⟩ := h
    rw [hgb] at h1; cases h1; cases h2
theorem pairsF_len : ∀ (k : Nat) (A B : List M), (pairsF k A B).length ≤ A.length + B.length
  | 0, _, _ => by simp [pairsF]
  | _ + 1, [], [] => by simp [pairsF]
  | k + 1, x :: A, [] => by have := pairsF_len k A []; rw [pairsF]; simp at this ⊢; omega
  | k + 1, [], y :: B => by have := pairsF_len k [] B; rw [pairsF]; simp at this ⊢; omega
  | k + 1, x :: A, y :: B => by
    have h1 := pairsF_len k A (y :: B)
    have h2 := pairsF_len k A B
    have h3 := pairsF_len k (x :: A) B
    rw [pairsF]
    simp only [List.length_cons] at h1 h2 h3 ⊢
    split
    · simp only [List.length_cons]; omega
    · split <;> simp only [List.length_cons] <;> omega
theorem pairsL_len (A B : List M) : (pairsL A B).length ≤ A.length + B.length := pairsF_len _ _ _
theorem cells2_new (W : World) (u v : Value) (T : TypeId) : ∀ j z, ([u, v] : List Value)[j]? = some z → (W.alloc (.cells #[u, v] T)).cell? ((⟨W.heap.size, 0, none⟩ : Addr).add j) = some z := by
  intro j z h
  rw [Go.WideShapes.add_plain, World.cell?_alloc_new, Nat.zero_add]
  simpa using h

end Dots
end Go.Proofs.YtnpjkmomllkhpaaGreat

namespace Go.Proofs.YtnpjkmomllkhpaaGreat
namespace Dots
open Go.RowKit Go.Proofs.YtnpjkmomllkhpaaGreat.Mark

theorem ofL_ne {m : M} {q : List UInt8} (h : m.p ≠ q) (A : List M) : ofL (m :: A) q = ofL A q := by
  have : isQ q m = false := by unfold isQ; simp [h]
  unfold ofL mostL
  rw [List.foldl_cons, if_neg (by rw [this]; decide)]
theorem ofL_none (A : List M) (q : List UInt8) (h : ∀ m ∈ A, m.p ≠ q) : ofL A q = 0 := by
  rcases ofL_ex A q with e | ⟨m, hm, e, _⟩
  · exact e
  · exact absurd e (h m hm)
theorem Vec.tail {m : M} {A : List M} (h : Vec (m :: A)) : Vec A := ⟨(List.pairwise_cons.1 h.1).2, fun x hx => h.2 x (List.mem_cons_of_mem _ hx)⟩
theorem Vec.head {m : M} {A : List M} (h : Vec (m :: A)) : ofL (m :: A) m.p = m.n := vec_of h (List.mem_cons_self ..)
theorem less_ne {a b : M} (h : Less a b) : a.p ≠ b.p := fun e => by unfold Less at h; rw [e, Order.cmp_self] at h; omega
def LessP (x y : P3) : Prop := Lib.compareBytes x.p y.p < 0
/-- All that is known of the pairs of two vectors. -/
structure PairLaw (A B : List M) (P : List P3) : Prop where
  from_ : ∀ x ∈ P, (∃ m ∈ A, m.p = x.p) ∨ (∃ m ∈ B, m.p = x.p)
  rise : P.Pairwise LessP
  val : ∀ x ∈ P, x.a = ofL A x.p ∧ x.b = ofL B x.p
  allA : ∀ m ∈ A, ∃ x ∈ P, x.p = m.p
  allB : ∀ m ∈ B, ∃ x ∈ P, x.p = m.p
theorem pair_law : ∀ (k : Nat) (A B : List M), Vec A → Vec B → A.length + B.length ≤ k → PairLaw A B (pairsF k A B)
  | 0, A, B, _, _, h => by
    obtain rfl : A = [] := List.length_eq_zero_iff.1 (by omega)
    obtain rfl : B = [] := List.length_eq_zero_iff.1 (by omega)
    exact ⟨fun x h => (by cases h), List.Pairwise.nil, fun x h => (by cases h), fun x h => (by cases h), fun x h => (by cases h)⟩
  | _ + 1, [], [], _, _, _ => ⟨fun x h => (by cases h), List.Pairwise.nil, fun x h => (by cases h), fun x h => (by cases h), fun x h => (by cases h)⟩
  | k + 1, m :: A, [], hA, hB, h => by
    have r := pair_law k A [] hA.tail hB (by simp at h ⊢; omega)
    have hl := (List.pairwise_cons.1 hA.1).1
    have hgt : ∀ y ∈ pairsF k A [], Lib.compareBytes m.p y.p < 0 := by
      intro y hy
      rcases r.from_ y hy with ⟨z, hz, e⟩ | ⟨z, hz, _⟩
      · rw [← e]; exact hl z hz
      · cases hz
    rw [pairsF]
    refine ⟨fun x hx => ?_, List.pairwise_cons.2 ⟨hgt, r.rise⟩, fun x hx => ?_, fun z hz => ?_, fun z hz => by cases hz⟩
    · rcases List.mem_cons.1 hx with rfl | hx
      · exact .inl ⟨m, List.mem_cons_self .., rfl⟩
      · rcases r.from_ x hx with ⟨z, hz, e⟩ | ⟨z, hz, _⟩
        · exact .inl ⟨z, List.mem_cons_of_mem _ hz, e⟩
        · cases hz
    · rcases List.mem_cons.1 hx with rfl | hx
      · exact ⟨hA.head.symm, rfl⟩
      · have hne : m.p ≠ x.p := fun e => by have := hgt x hx; rw [e, Order.cmp_self] at this; omega
        rw [ofL_ne hne]; exact r.val x hx
    · rcases List.mem_cons.1 hz with rfl | hz
      · exact ⟨_, List.mem_cons_self .., rfl⟩
      · obtain ⟨x, hx, e⟩ := r.allA z hz; exact ⟨x, List.mem_cons_of_mem _ hx, e⟩
  | k + 1, [], m :: B, hA, hB, h => by
    have r := pair_law k [] B hA hB.tail (by simp at h ⊢; omega)
    have hl := (List.pairwise_cons.1 hB.1).1
    have hgt : ∀ y ∈ pairsF k [] B, Lib.compareBytes m.p y.p < 0 := by
      intro y hy
      rcases r.from_ y hy with ⟨z, hz, _⟩ | ⟨z, hz, e⟩
      · cases hz
      · rw [← e]; exact hl z hz
    rw [pairsF]
    refine ⟨fun x hx => ?_, List.pairwise_cons.2 ⟨hgt, r.rise⟩, fun x hx => ?_, fun z hz => (by cases hz), fun z hz => ?_⟩
    · rcases List.mem_cons.1 hx with rfl | hx
      · exact .inr ⟨m, List.mem_cons_self .., rfl⟩
      · rcases r.from_ x hx with ⟨z, hz, _⟩ | ⟨z, hz, e⟩
        · cases hz
        · exact .inr ⟨z, List.mem_cons_of_mem _ hz, e⟩
    · rcases List.mem_cons.1 hx with rfl | hx
      · exact ⟨rfl, hB.head.symm⟩
      · have hne : m.p ≠ x.p := fun e => by have := hgt x hx; rw [e, Order.cmp_self] at this; omega
        rw [ofL_ne hne]; exact r.val x hx
    · rcases List.mem_cons.1 hz with rfl | hz
      · exact ⟨_, List.mem_cons_self .., rfl⟩
      · obtain ⟨x, hx, e⟩ := r.allB z hz; exact ⟨x, List.mem_cons_of_mem _ hx, e⟩
  | k + 1, m :: A, n :: B, hA, hB, h => by
    have hlA := (List.pairwise_cons.1 hA.1).1
    have hlB := (List.pairwise_cons.1 hB.1).1
    rw [pairsF]
    by_cases hc : Lib.compareBytes m.p n.p < 0
    · rw [if_pos hc]
      have r := pair_law k A (n :: B) hA.tail hB (by simp at h ⊢; omega)
      have hlt : ∀ z ∈ n :: B, Less m z := by
        intro z hz
        rcases List.mem_cons.1 hz with rfl | hz
        · exact hc
        · exact less_trans (a := m) (b := n) (c := z) hc (hlB z hz)
      have hgt : ∀ y ∈ pairsF k A (n :: B), Lib.compareBytes m.p y.p < 0 := by
        intro y hy
        rcases r.from_ y hy with ⟨z, hz, e⟩ | ⟨z, hz, e⟩
        · rw [← e]; exact hlA z hz
        · rw [← e]; exact hlt z hz
      refine ⟨fun x hx => ?_, List.pairwise_cons.2 ⟨hgt, r.rise⟩, fun x hx => ?_, fun z hz => ?_, fun z hz => ?_⟩
      · rcases List.mem_cons.1 hx with rfl | hx
        · exact .inl ⟨m, List.mem_cons_self .., rfl⟩
        · rcases r.from_ x hx with ⟨z, hz, e⟩ | h'
          · exact .inl ⟨z, List.mem_cons_of_mem _ hz, e⟩
          · exact .inr h'
      · rcases List.mem_cons.1 hx with rfl | hx
        · exact ⟨hA.head.symm, (ofL_none _ _ fun z hz => (less_ne (hlt z hz)).symm).symm⟩
        · have hne : m.p ≠ x.p := fun e => by have := hgt x hx; rw [e, Order.cmp_self] at this; omega
          rw [ofL_ne hne]; exact r.val x hx
      · rcases List.mem_cons.1 hz with rfl | hz
        · exact ⟨_, List.mem_cons_self .., rfl⟩
        · obtain ⟨x, hx, e⟩ := r.allA z hz; exact ⟨x, List.mem_cons_of_mem _ hx, e⟩
      · obtain ⟨x, hx, e⟩ := r.allB z hz; exact ⟨x, List.mem_cons_of_mem _ hx, e⟩
    · rw [if_neg hc]
      by_cases he : m.p = n.p
      · rw [if_pos he]
        have r := pair_law k A B hA.tail hB.tail (by simp at h; omega)
        have hgt : ∀ y ∈ pairsF k A B, Lib.compareBytes n.p y.p < 0 := by
          intro y hy
          rcases r.from_ y hy with ⟨z, hz, e⟩ | ⟨z, hz, e⟩
          · rw [← e, ← he]; exact hlA z hz
          · rw [← e]; exact hlB z hz
        refine ⟨fun x hx => ?_, List.pairwise_cons.2 ⟨hgt, r.rise⟩, fun x hx => ?_, fun z hz => ?_, fun z hz => ?_⟩
        · rcases List.mem_cons.1 hx with rfl | hx
          · exact .inl ⟨m, List.mem_cons_self .., he⟩
          · rcases r.from_ x hx with ⟨z, hz, e⟩ | ⟨z, hz, e⟩
            · exact .inl ⟨z, List.mem_cons_of_mem _ hz, e⟩
            · exact .inr ⟨z, List.mem_cons_of_mem _ hz, e⟩
        · rcases List.mem_cons.1 hx with rfl | hx
          · exact ⟨by show m.n = _; rw [← he]; exact hA.head.symm, hB.head.symm⟩
          · have hne : n.p ≠ x.p := fun e => by have := hgt x hx; rw [e, Order.cmp_self] at this; omega
            rw [ofL_ne (by rw [he]; exact hne), ofL_ne hne]; exact r.val x hx
        · rcases List.mem_cons.1 hz with rfl | hz
          · exact ⟨_, List.mem_cons_self .., he.symm⟩
          · obtain ⟨x, hx, e⟩ := r.allA z hz; exact ⟨x, List.mem_cons_of_mem _ hx, e⟩
        · rcases List.mem_cons.1 hz with rfl | hz
          · exact ⟨_, List.mem_cons_self .., rfl⟩
          · obtain ⟨x, hx, e⟩ := r.allB z hz; exact ⟨x, List.mem_cons_of_mem _ hx, e⟩
      · rw [if_neg he]
        have r := pair_law k (m :: A) B hA hB.tail (by simp at h ⊢; omega)
        have hnm : Less n m := by
          unfold Less
          rcases Order.cmp_ways m.p n.p with h' | h' | h'
          · omega
          · exact absurd (Order.cmp_zero _ _ h') he
          · rw [Order.cmp_flip]; omega
        have hlt : ∀ z ∈ m :: A, Less n z := by
          intro z hz
          rcases List.mem_cons.1 hz with rfl | hz
          · exact hnm
          · exact less_trans hnm (hlA z hz)
        have hgt : ∀ y ∈ pairsF k (m :: A) B, Lib.compareBytes n.p y.p < 0 := by
          intro y hy
          rcases r.from_ y hy with ⟨z, hz, e⟩ | ⟨z, hz, e⟩
          · rw [← e]; exact hlt z hz
          · rw [← e]; exact hlB z hz
        refine ⟨fun x hx => ?_, List.pairwise_cons.2 ⟨hgt, r.rise⟩, fun x hx => ?_, fun z hz => ?_, fun z hz => ?_⟩
        · rcases List.mem_cons.1 hx with rfl | hx
          · exact .inr ⟨n, List.mem_cons_self .., rfl⟩
          · rcases r.from_ x hx with h' | ⟨z, hz, e⟩
            · exact .inl h'
            · exact .inr ⟨z, List.mem_cons_of_mem _ hz, e⟩
        · rcases List.mem_cons.1 hx with rfl | hx
          · exact ⟨(ofL_none _ _ fun z hz => (less_ne (hlt z hz)).symm).symm, hB.head.symm⟩
          · have hne : n.p ≠ x.p := fun e => by have := hgt x hx; rw [e, Order.cmp_self] at this; omega
            rw [ofL_ne hne]; exact r.val x hx
        · obtain ⟨x, hx, e⟩ := r.allA z hz; exact ⟨x, List.mem_cons_of_mem _ hx, e⟩
        · rcases List.mem_cons.1 hz with rfl | hz
          · exact ⟨_, List.mem_cons_self .., rfl⟩
          · obtain ⟨x, hx, e⟩ := r.allB z hz; exact ⟨x, List.mem_cons_of_mem _ hx, e⟩

/-- Join is the vector of the greater numbers. -/
theorem join_vec {R S : List M} {f g : List UInt8 → Nat} (hR : IsVec R f) (hS : IsVec S g) : IsVec ((pairsL R S).map joinM) (fun q => max (f q) (g q)) := by
  have P := pair_law _ R S hR.1 hS.1 (Nat.le_refl _)
  change PairLaw R S (pairsL R S) at P
  have hmem : ∀ x ∈ pairsL R S, x.p ≠ [] ∧ 1 ≤ max x.a x.b := by
    intro x hx
    obtain ⟨e1, e2⟩ := P.val x hx
    rcases P.from_ x hx with ⟨m, hm, e⟩ | ⟨m, hm, e⟩
    · obtain ⟨h1, h2⟩ := hR.1.2 m hm
      have := vec_of hR.1 hm
      rw [e] at this
      exact ⟨by rw [← e]; exact h1, by omega⟩
    · obtain ⟨h1, h2⟩ := hS.1.2 m hm
      have := vec_of hS.1 hm
      rw [e] at this
      exact ⟨by rw [← e]; exact h1, by omega⟩
  have hV : Vec ((pairsL R S).map joinM) := by
    refine ⟨List.pairwise_map.2 P.rise, fun m hm => ?_⟩
    obtain ⟨x, hx, rfl⟩ := List.mem_map.1 hm
    exact hmem x hx
  refine ⟨hV, fun q => ?_⟩
  by_cases h : ∃ x ∈ pairsL R S, x.p = q
  · obtain ⟨x, hx, rfl⟩ := h
    obtain ⟨e1, e2⟩ := P.val x hx
    have h1 := vec_of hV (List.mem_map.2 ⟨x, hx, rfl⟩)
    change ofL _ x.p = max x.a x.b at h1
    rw [h1, e1, e2, hR.2, hS.2]
  · have hz : ∀ {T : List M} (hT : ∀ m ∈ T, ∃ x ∈ pairsL R S, x.p = m.p), ofL T q = 0 := by
      intro T hT
      refine ofL_none T q fun m hm e => ?_
      obtain ⟨x, hx, e'⟩ := hT m hm
      exact h ⟨x, hx, e'.trans e⟩
    have z1 := hz P.allA
    have z2 := hz P.allB
    rw [hR.2] at z1
    rw [hS.2] at z2
    have z3 : ofL ((pairsL R S).map joinM) q = 0 := ofL_none _ _ fun m hm e => by
      obtain ⟨x, hx, rfl⟩ := List.mem_map.1 hm
      exact h ⟨x, hx, e⟩
    show _ = max (f q) (g q)
    rw [z3, z1, z2]; rfl
/-- Covers, told of all paths. -/
theorem covers_iff {R S : List M} {f g : List UInt8 → Nat} (hR : IsVec R f) (hS : IsVec S g) : ((pairsL R S).all fun x => decide (x.b ≤ x.a)) = true ↔ ∀ q, g q ≤ f q := by
  have P := pair_law _ R S hR.1 hS.1 (Nat.le_refl _)
  change PairLaw R S (pairsL R S) at P
  rw [List.all_eq_true]
  constructor
  · intro h q
    by_cases hx : ∃ x ∈ pairsL R S, x.p = q
    · obtain ⟨x, hx, rfl⟩ := hx
      have := h x hx
      rw [decide_eq_true_eq] at this
      obtain ⟨e1, e2⟩ := P.val x hx
      rw [← hR.2, ← hS.2, ← e1, ← e2]; exact this
    · have : ofL S q = 0 := ofL_none S q fun m hm e => by
        obtain ⟨x, h1, e'⟩ := P.allB m hm
        exact hx ⟨x, h1, e'.trans e⟩
      rw [hS.2] at this
      omega
  · intro h x hx
    obtain ⟨e1, e2⟩ := P.val x hx
    have := h x.p
    rw [← hR.2, ← hS.2, ← e1, ← e2] at this
    exact decide_eq_true this

end Dots
end Go.Proofs.YtnpjkmomllkhpaaGreat

namespace Go.Proofs.YtnpjkmomllkhpaaGreat
namespace Dots
open Go.RowKit Go.Shelf Go.Proofs.YtnpjkmomllkhpaaGreat.Mark

theorem covers_any (L K : List M) (a1 a2 : Option Addr) (n1 n2 c1 c2 : Nat) (w : World) (hL : Lies w a1 n1 L) (hK : Lies w a2 n2 K) (hn1 : n1 ≤ 1099511627776) (hn2 : n2 ≤ 1099511627776) :
    Calls Tryz.prog 83 #[.slice a1 n1 c1, .slice a2 n2 c2] w fun e w' => ∃ r : Bool, e = .returned (.bool r) ∧ (r = true ↔ ∀ q, ofL K q ≤ ofL L q) ∧ Below w.heap.size w w' :=
  (callsIn_wide.1 (covers_in L K a1 a2 n1 n2 c1 c2 w hL hK hn1 hn2)).mono fun _ _ ⟨_, _, hR, hS, he, hb⟩ => ⟨_, he, covers_iff hR hS, hb⟩
theorem filter_vec {R : List M} {f : List UInt8 → Nat} (h : IsVec R f) (q : List UInt8) : IsVec (R.filter fun m => !byQ q m) (fun x => if x = q then 0 else f x) := by
  refine ⟨⟨h.1.1.filter _, fun m hm => h.1.2 m (List.mem_filter.1 hm).1⟩, fun x => ?_⟩
  by_cases e : x = q
  · show _ = if x = q then 0 else f x
    rw [if_pos e]
    refine ofL_none _ _ fun m hm e2 => ?_
    have := (List.mem_filter.1 hm).2
    unfold byQ at this
    simp [e2, e] at this
  · show _ = if x = q then 0 else f x
    rw [if_neg e, ← h.2]
    have mem : ∀ m : M, m.p = x → (m ∈ R.filter (fun m => !byQ q m) ↔ m ∈ R) := fun m hx => by
      have hb : byQ q m = false := by unfold byQ; rw [decide_eq_false_iff_not]; intro h'; exact e (hx.symm.trans h')
      rw [List.mem_filter, hb]; simp
    refine Nat.le_antisymm ?_ ?_
    · rcases ofL_ex (R.filter fun m => !byQ q m) x with e0 | ⟨m, hm, e1, e2, e3⟩
      · rw [e0]; exact Nat.zero_le _
      · have := ofL_le R m ((mem m e1).1 hm) (by rw [e1]; exact e2)
        rw [e1] at this; omega
    · rcases ofL_ex R x with e0 | ⟨m, hm, e1, e2, e3⟩
      · rw [e0]; exact Nat.zero_le _
      · have := ofL_le _ m ((mem m e1).2 hm) (by rw [e1]; exact e2)
        rw [e1] at this; omega

/-- What is known behind Set. -/
def setF (f : List UInt8 → Nat) (q : List UInt8) (n : Nat) (x : List UInt8) : Nat := if x = q then (if q = [] then 0 else n) else f x
theorem one_of (q : List UInt8) (n : Nat) (x : List UInt8) : ofL [⟨q, n⟩] x = if x = q then (if q = [] then 0 else n) else 0 := by
  by_cases e : x = q
  · subst e
    rw [if_pos rfl]
    by_cases h : x = []
    · rw [if_pos h, h, ofL_empty]
    · rw [if_neg h]
      have : isQ x ⟨x, n⟩ = true := (isQ_iff _ _).2 ⟨rfl, h⟩
      unfold ofL mostL
      simp [this]
  · rw [if_neg e, ofL_ne (fun h => e h.symm)]; rfl
end Dots
end Go.Proofs.YtnpjkmomllkhpaaGreat
