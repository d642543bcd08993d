
/- package dots: Join, Covers as plain contracts; Drop, Set, Compare, May. -/
import Derived.Test.YtcbnkncgacbniaaPairs
import Derived.Laws.Cover1
namespace Go.Proofs.Ytcbnkncgacbniaa
namespace Dots
open Go.RowKit Go.Shelf Go.Proofs.Ytcbnkncgacbniaa.Mark

theorem covers_any (L K : List M) (a1 a2 : Option Addr) (n1 n2 c1 c2 : Nat) (w : World) (hL : Lies w a1 n1 L) (hK : Lies w a2 n2 K) (hn1 : n1 ≤ 1099511627776) (hn2 : n2 ≤ 1099511627776) :
    Calls Try.prog 28 #[.slice a1 n1 c1, .slice a2 n2 c2] w fun e w' => ∃ r : Bool, e = .returned (.bool r) ∧ (r = true ↔ ∀ q, ofL K q ≤ ofL L q) ∧ Below w.heap.size w w' :=
  (callsIn_wide.1 (covers_in L K a1 a2 n1 n2 c1 c2 w hL hK hn1 hn2)).mono fun _ _ ⟨_, _, hR, hS, he, hb⟩ => ⟨_, he, covers_iff hR hS, hb⟩
theorem join_any (L K : List M) (a1 a2 : Option Addr) (n1 n2 c1 c2 : Nat) (w : World) (hL : Lies w a1 n1 L) (hK : Lies w a2 n2 K) (hn1 : n1 ≤ 1099511627776) (hn2 : n2 ≤ 1099511627776) :
    Calls Try.prog 29 #[.slice a1 n1 c1, .slice a2 n2 c2] w fun e w' => ∃ (v : Value) (J : List M), e = .returned v ∧ IsVec J (fun q => max (ofL L q) (ofL K q)) ∧ J.length ≤ n1 + n2 ∧ Mark.Own w' w.heap.size v J ∧ Below w.heap.size w w' :=
  (callsIn_wide.1 (join_in L K a1 a2 n1 n2 c1 c2 w hL hK hn1 hn2)).mono fun _ _ ⟨_, _, v, hR, hS, he, ho, hl, hb⟩ => ⟨v, _, he, join_vec hR hS, by rw [List.length_map]; exact hl, ho, hb⟩

theorem filter_vec {R : List M} {f : List UInt8 → Nat} (h : IsVec R f) (q : List UInt8) : IsVec (R.filter fun m => !byQ q m) (fun x => if x = q then 0 else f x) := by
  refine ⟨⟨h.1.1.filter _, fun m hm => h.1.2 m (List.mem_filter.1 hm).1⟩, fun x => ?_⟩
  by_cases e : x = q
  · show _ = if x = q then 0 else f x
    rw [if_pos e]
    refine ofL_none _ _ fun m hm e2 => ?_
    have := (List.mem_filter.1 hm).2
    unfold byQ at this
    simp [e2, e] at this
  · show _ = if x = q then 0 else f x
    rw [if_neg e, ← h.2]
    have mem : ∀ m : M, m.p = x → (m ∈ R.filter (fun m => !byQ q m) ↔ m ∈ R) := fun m hx => by
      have hb : byQ q m = false := by unfold byQ; rw [decide_eq_false_iff_not]; intro h'; exact e (hx.symm.trans h')
      rw [List.mem_filter, hb]; simp
    refine Nat.le_antisymm ?_ ?_
    · rcases ofL_ex (R.filter fun m => !byQ q m) x with e0 | ⟨m, hm, e1, e2, e3⟩
      · rw [e0]; exact Nat.zero_le _
      · have := ofL_le R m ((mem m e1).1 hm) (by rw [e1]; exact e2)
        rw [e1] at this; omega
    · rcases ofL_ex R x with e0 | ⟨m, hm, e1, e2, e3⟩
      · rw [e0]; exact Nat.zero_le _
      · have := ofL_le _ m ((mem m e1).2 hm) (by rw [e1]; exact e2)
        rw [e1] at this; omega

set_option maxRecDepth 100000 in
set_option maxHeartbeats 1000000 in
theorem drop_any (L : List M) (q : List UInt8) (a : Option Addr) (n c : Nat) (w : World) (hL : Lies w a n L) (hn : n ≤ 1099511627776) :
    Calls Try.prog 34 #[.slice a n c, .string ⟨q.toArray⟩] w fun e w' => ∃ (v : Value) (J : List M), e = .returned v ∧ IsVec J (fun x => if x = q then 0 else ofL L x) ∧ J.length ≤ n ∧ Mark.Own w' w.heap.size v J ∧ Below w.heap.size w w' := by
  have C := Lib.hid (fun W (k : Below w.heap.size w W) => tidy_any L a n c W (hL.below k) hn)
  have h0 := Below.refl w.heap.size w
  have HN := Lib.hid hL.1
  have hmf : ∀ (fn : Fn) (first cap : Array Value) (w : World), (Instr.makeFunc fn first cap).run Try.prog w = .ok (.func fn first cap) w := fun _ _ _ _ => rfl
  clear hL
  go_enter Try.func34, Try.ntmps34
  go_wp2_with fail
  refine (C.out _ (balloc h0 _)).mono ?_
  rintro e w1 ⟨v1, R, rfl, hR, hRl, o1, k1⟩
  have hc1 := (k1.cell (p := ⟨w.heap.size, 0, none⟩) (by simp)).trans (World.cell?_alloc_new ..)
  simp at hc1
  have hD := delete_any 45 #[.pointer (some ⟨w.heap.size, 0, none⟩)] (byQ q) (w.heap.size + 1) (enters_of Try.func45 (by kernel_rfl) rfl) R v1 w1 (by have := k1.size; simp at this; omega) (byQ_pred q w.heap.size (w.heap.size + 1) w1 (by have := k1.size; simp at this; omega) (by omega) hc1) (by have h := o1; simpa using h) (by have := HN.out; omega)
  have HD := Lib.hid hD
  have h1 := bstep (balloc h0 _) k1
  clear hD k1 hc1 o1
  go_wp2_with fail
  refine HD.out.mono ?_
  rintro e w2 ⟨v2, rfl, o2, k2⟩
  go_wp2
  go_ret
  refine ⟨_, _, rfl, filter_vec hR q, ?_, o2.base (by omega), h1.trans (k2.mono (by omega))⟩
  have := List.length_filter_le (fun m => !byQ q m) R
  have := HN.out
  omega

/-- What is known behind Set. -/
def setF (f : List UInt8 → Nat) (q : List UInt8) (n : Nat) (x : List UInt8) : Nat := if x = q then (if q = [] then 0 else n) else f x
theorem one_of (q : List UInt8) (n : Nat) (x : List UInt8) : ofL [⟨q, n⟩] x = if x = q then (if q = [] then 0 else n) else 0 := by
  by_cases e : x = q
  · subst e
    rw [if_pos rfl]
    by_cases h : x = []
    · rw [if_pos h, h, ofL_empty]
    · rw [if_neg h]
      have : isQ x ⟨x, n⟩ = true := (isQ_iff _ _).2 ⟨rfl, h⟩
      unfold ofL mostL
      simp [this]
  · rw [if_neg e, ofL_ne (fun h => e h.symm)]; rfl
end Dots
end Go.Proofs.Ytcbnkncgacbniaa
