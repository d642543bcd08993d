/- The reference of Tree: how one lies; the plain laws of its list; At. -/
import Derived.Test.YtjnlooccddnbkaaGreatDoorTmTreeFns
import Derived.Test.YtjnlooccddnbkaaGreatDoorTmBase2
namespace Go.Proofs.YtjnlooccddnbkaaGreatDoor
namespace RefTree
open Go.RowKit Go.Proofs.YtjnlooccddnbkaaGreatDoor.Mark Go.Proofs.YtjnlooccddnbkaaGreatDoor.Dots Go.Proofs.YtjnlooccddnbkaaGreatDoor.Tree
/-- An item of the reference: its vector lies somewhere. -/
structure RI where
  k : List UInt8
  b : List UInt8
  ms : Option Addr
  mc : Nat
  s : List M
def RI.it (x : RI) : It := ⟨x.k, x.b, x.s⟩
def RI.cells (x : RI) : List Value := [.string ⟨x.k.toArray⟩, .string ⟨x.b.toArray⟩, .slice x.ms x.s.length x.mc]
def enc : Row.Enc RI := ⟨3, by decide, RI.cells, fun _ => rfl, fun x v hv => by
  simp only [RI.cells, List.mem_cons, List.not_mem_nil, or_false] at hv
  rcases hv with rfl | rfl | rfl <;> rfl⟩
theorem typ : Row.Typ Tryz.prog enc 54 59 (.agg #[.string ⟨#[]⟩, .string ⟨#[]⟩, .slice none 0 0]) 56 := ⟨Tryz.underlying54, Row.info_of (by kernel_rfl), rfl, by decide⟩
/-- A reference's tree lies at block rb; w: the world at the law's beginning, x: now. -/
structure Is (w x : World) (rb : Nat) (L : List RI) : Prop where
  box : ∃ v, x.heap[rb]? = some (.cells #[v] 56 (0, 0)) ∧ Row.Own enc 59 x w.heap.size v L
  seen : ∀ y ∈ L, Mark.Lies w y.ms y.s.length y.s
  lo : w.heap.size ≤ rb
/-- What may have turned: blocks of references' trees and items, made by the law. -/
structure Turns (w x y : World) : Prop where
  os : y.os = x.os
  tape : y.tape = x.tape
  output : y.output = x.output
  size : x.heap.size ≤ y.heap.size
  block : ∀ j, j < x.heap.size → y.heap[j]? = x.heap[j]? ∨ (w.heap.size ≤ j ∧ ∃ cs T, x.heap[j]? = some (.cells cs T (0, 0)) ∧ (T = 56 ∨ T = 59))
variable {w x y z : World} {rb : Nat} {L : List RI}
theorem Turns.of (k : Below x.heap.size x y) : Turns w x y := ⟨k.os, k.tape, k.output, k.size, fun j hj => .inl (k.block j hj)⟩
theorem Turns.trans (h : Turns w x y) (k : Turns w y z) : Turns w x z :=
  ⟨k.os.trans h.os, k.tape.trans h.tape, k.output.trans h.output, Nat.le_trans h.size k.size, fun j hj => by
    rcases h.block j hj with h1 | h1
    · rcases k.block j (Nat.lt_of_lt_of_le hj h.size) with k1 | ⟨k1, cs, T, k2, k3⟩
      · exact .inl (k1.trans h1)
      · exact .inr ⟨k1, cs, T, by rw [← h1]; exact k2, k3⟩
    · exact .inr h1⟩
theorem Turns.below (h : Below w.heap.size w x) (k : Turns w x y) : Below w.heap.size w y :=
  h.trans ⟨k.os, k.tape, k.output, k.size, fun j hj => by
    rcases k.block j (Nat.lt_of_lt_of_le hj h.size) with k1 | ⟨k1, _⟩
    · exact k1
    · omega⟩
theorem Is.lt (h : Is w x rb L) : rb < x.heap.size := by
  obtain ⟨v, h1, _⟩ := h.box
  exact (Array.getElem?_eq_some_iff.1 h1).1
theorem Is.below (h : Is w x rb L) (k : Below x.heap.size x y) : Is w y rb L := by
  obtain ⟨v, h1, h2⟩ := h.box
  exact ⟨⟨v, (k.block _ h.lt).trans h1, h2.below k⟩, h.seen, h.lo⟩
theorem own_but {v : Value} {B b : Nat} (h : Row.Own enc 59 x B v L) (k : But b x y) (hb : ∃ es c, x.heap[b]? = some (.map es c)) : Row.Own enc 59 y B v L := by
  refine ⟨h.1, ?_⟩
  rcases h.2 with h' | ⟨g, cap, cur, e, hB, hg, hr⟩
  · exact .inl h'
  · refine .inr ⟨g, cap, cur, e, hB, (k.block g (Array.getElem?_eq_some_iff.1 hg).1 fun e2 => ?_).trans hg, hr⟩
    obtain ⟨es, c, hm⟩ := hb
    rw [← e2, hg] at hm
    cases hm
theorem Is.but (h : Is w x rb L) {b : Nat} (k : But b x y) (hb : ∃ es c, x.heap[b]? = some (.map es c)) : Is w y rb L := by
  obtain ⟨v, h1, h2⟩ := h.box
  refine ⟨⟨v, (k.block _ h.lt fun e => ?_).trans h1, own_but h2 k hb⟩, h.seen, h.lo⟩
  obtain ⟨es, c, hm⟩ := hb
  rw [← e, h1] at hm
  cases hm
/-- The list, set at a place. -/
theorem set_put : ∀ {l : List It}, Up l → ∀ {i : Nat} (hi : i < l.length) (x : It), l[i].k = x.k → l.set i x = put x l
  | [], _, _, hi, _, _ => by cases hi
  | y :: l, h, 0, _, x, hk => by
    have hk : y.k = x.k := hk
    unfold put
    rw [if_neg (by rw [hk]; exact lt_irrefl _), if_pos hk]
    rfl
  | y :: l, h, i + 1, hi, x, hk => by
    unfold Up at h
    rw [List.pairwise_cons] at h
    have hi' : i < l.length := by simpa using hi
    have hk' : l[i].k = x.k := hk
    have hlt : y.k < x.k := by rw [← hk']; exact h.1 _ (List.getElem_mem hi')
    unfold put
    rw [if_pos hlt, List.set_cons_succ, set_put h.2 hi' x hk']
theorem ins_put : ∀ {l : List It}, ∀ {k : Nat}, k ≤ l.length → ∀ (x : It), (∀ y ∈ l.take k, y.k < x.k) → (∀ y ∈ l.drop k, x.k < y.k) → l.take k ++ x :: l.drop k = put x l
  | [], k, _, x, _, _ => by simp [put]
  | y :: l, 0, _, x, _, h2 => by
    have hlt := h2 y (List.mem_cons_self ..)
    unfold put
    rw [if_neg (fun h => lt_irrefl _ (lt_trans h hlt)), if_neg (fun e => by rw [e] at hlt; exact lt_irrefl _ hlt)]
    rfl
  | y :: l, k + 1, hk, x, h1, h2 => by
    have hlt := h1 y (by rw [List.take_succ_cons]; exact List.mem_cons_self ..)
    have ih := ins_put (l := l) (k := k) (by simpa using hk) x (fun z hz => h1 z (by rw [List.take_succ_cons]; exact List.mem_cons_of_mem _ hz)) (fun z hz => h2 z (by rw [List.drop_succ_cons]; exact hz))
    unfold put
    rw [if_pos hlt, ← ih, List.take_succ_cons, List.drop_succ_cons]; rfl
theorem del_drop : ∀ {l : List It}, Up l → ∀ {i : Nat} (hi : i < l.length) (q : List UInt8), l[i].k = q → l.take i ++ l.drop (i + 1) = Tree.drop q l
  | [], _, _, hi, _, _ => by cases hi
  | y :: l, h, 0, _, q, hk => by
    unfold Up at h
    rw [List.pairwise_cons] at h
    have hk : y.k = q := hk
    unfold Tree.drop
    rw [List.filter_cons, if_neg (by simp [hk])]
    show l = _
    symm
    rw [List.filter_eq_self]
    intro z hz
    have := h.1 z hz
    simp only [Bool.not_eq_eq_eq_not, Bool.not_true, beq_eq_false_iff_ne, ne_eq]
    intro e
    rw [hk, e] at this
    exact lt_irrefl _ this
  | y :: l, h, i + 1, hi, q, hk => by
    unfold Up at h
    rw [List.pairwise_cons] at h
    have hi' : i < l.length := by simpa using hi
    have hk' : l[i].k = q := hk
    have hlt : y.k < q := by rw [← hk']; exact h.1 _ (List.getElem_mem hi')
    have ih := del_drop h.2 hi' q hk'
    unfold Tree.drop at ih ⊢
    rw [List.filter_cons, if_pos (by simp; intro e; rw [e] at hlt; exact lt_irrefl _ hlt), ← ih, List.take_succ_cons, List.drop_succ_cons]; rfl
theorem items_at {a : Option Addr} {n : Nat} (h : Row.Lies enc x a n L) (hn : 0 < n) : ∃ b off, a = some ⟨b, off, none⟩ ∧ ∀ j (hj : j < L.length),
    x.cell? ⟨b, off + j * 3, none⟩ = some (.string ⟨L[j].k.toArray⟩) ∧ x.cell? ⟨b, off + j * 3 + 1, none⟩ = some (.string ⟨L[j].b.toArray⟩) ∧ x.cell? ⟨b, off + j * 3 + 2, none⟩ = some (.slice L[j].ms L[j].s.length L[j].mc) := by
  obtain ⟨b, off, e, hc⟩ := h.2 hn
  exact ⟨b, off, e, fun j hj => ⟨hc j hj 0 _ rfl, hc j hj 1 _ rfl, hc j hj 2 _ rfl⟩⟩
/-- A key's place; -1: it is not there. -/
def At (L : List RI) (q : List UInt8) (r : Int) : Prop := (∃ i, ∃ hi : i < L.length, r = (i : Int) ∧ L[i].k = q) ∨ (r = -1 ∧ ∀ y ∈ L, y.k ≠ q)
set_option maxRecDepth 100000 in
set_option maxHeartbeats 1000000 in
theorem at_any (q : List UInt8) (h : Is w x rb L) (hn : L.length ≤ 256) :
    Calls Tryz.prog 32 #[.pointer (some ⟨rb, 0, none⟩), .string ⟨q.toArray⟩] x fun e y => ∃ r, e = .returned (.int .i64 r) ∧ At L q r ∧ x = y := by
  obtain ⟨v, h1, h2⟩ := h.box
  obtain ⟨a, c, rfl, -, -, hl, -⟩ := Row.Own.lies h2
  have cb : x.cell? ⟨rb, 0, none⟩ = some (.slice a L.length c) := by rw [cell_of_row x rb 0 _ _ _ h1]; rfl
  obtain ⟨n, hnn⟩ : ∃ n, n = L.length := ⟨_, rfl⟩
  rw [← hnn] at hl cb hn
  have HL := Lib.hid hl
  have HN := Lib.hid hnn
  clear h h1 h2 hl hnn
  go_enter Tryz.func32, Tryz.ntmps32
  go_wp2_with fail
  go_loop [5] (fun iv => ∃ k : Nat, k ≤ n ∧ iv = .int .i64 k ∧ Hid (∀ j (hj : j < L.length), j < k → L[j].k ≠ q)) (fun iv => n - (intOf iv).toNat)
  case atStart => exact ⟨0, by omega, rfl, Lib.hid (fun j _ hj => by omega)⟩
  case round =>
    obtain ⟨k, hk, rfl, HI⟩ := hrel
    by_cases hlt : k < n
    · have hll : k < L.length := by rw [← HN.out]; exact hlt
      obtain ⟨b, o, rfl, hcell⟩ := items_at HL.out (by omega)
      obtain ⟨x0, -, -⟩ := hcell k hll
      have d1 : decide ((k : Int) < (n : Int)) = true := decide_eq_true (by omega)
      have j1 : (0 : Int) ≤ (k : Int) := by omega
      have j2 : (k : Int) < (n : Int) := by omega
      have HK := Lib.hid hlt
      have HX : Hid (L[k].k ≠ q → ∀ j (hj : j < L.length), j < k + 1 → L[j].k ≠ q) := Lib.hid (fun hne j hj hjk => by
        by_cases e : j = k
        · subst e; exact hne
        · exact HI.out j hj (by omega))
      have HY : Hid (L[k].k = q → At L q (k : Int)) := Lib.hid (fun e => .inl ⟨k, hll, rfl, e⟩)
      obtain ⟨t, ht⟩ : ∃ t, t = L[k].k := ⟨_, rfl⟩
      rw [← ht] at x0 HX HY
      clear hcell ht hll
      by_cases he : t = q
      · have e1 : (t == q) = true := by simp [he]
        have HZ := Lib.hid (HY.out he)
        clear HX HY HI he hlt
        go_wp2
        go_ret
        exact ⟨_, rfl, HZ.out, rfl⟩
      · have e1 : (t == q) = false := by simp [he]
        have HZ := Lib.hid (HX.out he)
        clear HX HY HI hlt
        go_wp2
        go_round
        case rel => exact ⟨k + 1, by have := HK.out; omega, by go_num, HZ⟩
        case measure => have := HK.out; simp [intOf]; omega
    · have d1 : decide ((k : Int) < (n : Int)) = false := decide_eq_false (by omega)
      have HZ : Hid (At L q (-1)) := Lib.hid (.inr ⟨rfl, fun y hy => by
        obtain ⟨j, hj, rfl⟩ := List.getElem_of_mem hy
        exact HI.out j hj (by have := HN.out; omega)⟩)
      clear HI
      go_wp2
      go_ret
      exact ⟨_, rfl, HZ.out, rfl⟩
end RefTree
end Go.Proofs.YtjnlooccddnbkaaGreatDoor
