/- Merged texts: DotAlive, DotKnown. -/
import Derived.Test.YtjnlooccddnbkaaGreatDoorTmRefDotB
namespace Go.Proofs.YtjnlooccddnbkaaGreatDoor
namespace Dots
open Go.RowKit Go.Shelf Go.Proofs.YtjnlooccddnbkaaGreatDoor.Mark

section
variable {L K : List M} {a1 a2 : Option Addr} {n1 n2 c1 c2 : Nat} {w : World}
theorem covers_is (r : Bool) (h : (∀ q, ofL K q ≤ ofL L q) ↔ r = true) (hL : Lies w a1 n1 L) (hK : Lies w a2 n2 K) (hn1 : n1 ≤ 1099511627776) (hn2 : n2 ≤ 1099511627776) :
    Calls Tryz.prog 37 #[.slice a1 n1 c1, .slice a2 n2 c2] w fun e w' => e = .returned (.bool r) ∧ Below w.heap.size w w' :=
  (covers_any L K a1 a2 n1 n2 c1 c2 w hL hK hn1 hn2).mono fun e w' ⟨r', he, hr, hb⟩ => ⟨by rw [he]; congr 2; rw [Bool.eq_iff_iff, hr, h], hb⟩
theorem join_is (J : List M) (h : IsVec J (fun q => max (ofL L q) (ofL K q))) (hL : Lies w a1 n1 L) (hK : Lies w a2 n2 K) (hn1 : n1 ≤ 1099511627776) (hn2 : n2 ≤ 1099511627776) :
    Calls Tryz.prog 25 #[.slice a1 n1 c1, .slice a2 n2 c2] w fun e w' => ∃ v : Value, e = .returned v ∧ Mark.Own w' w.heap.size v J ∧ Below w.heap.size w w' :=
  (join_any L K a1 a2 n1 n2 c1 c2 w hL hK hn1 hn2).mono fun e w' ⟨v, J', he, hJ, _, ho, hb⟩ => ⟨v, he, by rw [IsVec.uniq h hJ]; exact ho, hb⟩
end

def tameL (L : List M) : Bool := L.all fun m => decide (m.n ≤ 281474976710656)
theorem tameL_take (L : List M) (k : Nat) (h : k < L.length) : tameL (L.take (k + 1)) = (tameL (L.take k) && decide (L[k].n ≤ 281474976710656)) := by
  unfold tameL; rw [List.take_succ_eq_append_getElem h, List.all_append]; simp
theorem tameL_not (L : List M) (k : Nat) (h : k < L.length) (hk : 281474976710656 < L[k].n) : tameL L = false := by
  unfold tameL
  rw [List.all_eq_false]
  exact ⟨_, List.getElem_mem h, by rw [decide_eq_true_eq]; omega⟩
end Dots
end Go.Proofs.YtjnlooccddnbkaaGreatDoor

namespace Go.Proofs.YtjnlooccddnbkaaGreatDoor
namespace Dots
open Go.RowKit Go.Shelf Go.Proofs.YtjnlooccddnbkaaGreatDoor.Mark

def kA : List M := [⟨[97], 2⟩, ⟨[98], 1⟩]
def kB : List M := [⟨[98], 3⟩]
def kJ : List M := [⟨[97], 2⟩, ⟨[98], 3⟩]
def kS : List M := [⟨[97], 2⟩]
def kD : List M := [⟨[98], 1⟩]
theorem of2 (p1 p2 : List UInt8) (n1 n2 : Nat) (h : p1 ≠ []) (k : p2 ≠ []) (hne : p1 ≠ p2) (q : List UInt8) : ofL [⟨p1, n1⟩, ⟨p2, n2⟩] q = if q = p1 then n1 else if q = p2 then n2 else 0 := by
  by_cases e1 : q = p1
  · subst e1
    rw [if_pos rfl]
    unfold ofL mostL isQ
    simp [h, hne.symm]
  · rw [if_neg e1, ofL_ne (fun e => e1 e.symm)]
    by_cases e2 : q = p2
    · subst e2
      rw [if_pos rfl]
      unfold ofL mostL isQ
      simp [k]
    · rw [if_neg e2, ofL_ne (fun e => e2 e.symm)]; rfl
theorem of1 (p : List UInt8) (n : Nat) (h : p ≠ []) (q : List UInt8) : ofL [⟨p, n⟩] q = if q = p then n else 0 := by
  by_cases e1 : q = p
  · subst e1
    rw [if_pos rfl]
    unfold ofL mostL isQ
    simp [h]
  · rw [if_neg e1, ofL_ne (fun e => e1 e.symm)]; rfl
theorem ofA (q : List UInt8) : ofL kA q = if q = [97] then 2 else if q = [98] then 1 else 0 := of2 _ _ _ _ (by decide) (by decide) (by decide) q
theorem ofJ (q : List UInt8) : ofL kJ q = if q = [97] then 2 else if q = [98] then 3 else 0 := of2 _ _ _ _ (by decide) (by decide) (by decide) q
theorem ofB (q : List UInt8) : ofL kB q = if q = [98] then 3 else 0 := of1 _ _ (by decide) q
theorem ofS (q : List UInt8) : ofL kS q = if q = [97] then 2 else 0 := of1 _ _ (by decide) q
theorem ofD (q : List UInt8) : ofL kD q = if q = [98] then 1 else 0 := of1 _ _ (by decide) q
theorem vec2 (p1 p2 : List UInt8) (n1 n2 : Nat) (h : p1 ≠ [] ∧ 1 ≤ n1) (k : p2 ≠ [] ∧ 1 ≤ n2) (hl : Lib.compareBytes p1 p2 < 0) : Vec [⟨p1, n1⟩, ⟨p2, n2⟩] := by
  refine ⟨List.pairwise_cons.2 ⟨fun y hy => ?_, List.pairwise_singleton _ _⟩, fun m hm => ?_⟩
  · rw [List.mem_singleton] at hy; subst hy; exact hl
  · rcases List.mem_cons.1 hm with rfl | hm
    · exact h
    · rw [List.mem_singleton] at hm; subst hm; exact k
theorem vec1 (p : List UInt8) (n : Nat) (h : p ≠ [] ∧ 1 ≤ n) : Vec [⟨p, n⟩] := ⟨List.pairwise_singleton _ _, fun m hm => by rw [List.mem_singleton] at hm; subst hm; exact h⟩
theorem isJ : IsVec kJ (fun q => max (ofL kA q) (ofL kB q)) := ⟨vec2 _ _ _ _ (by decide) (by decide) (by decide), fun q => by
  simp only
  rw [ofJ, ofA, ofB]
  by_cases h1 : q = [97]
  · subst h1; decide
  · rw [if_neg h1, if_neg h1]
    split <;> decide⟩
theorem isS : IsVec kS (setF (ofL kA) [98] 0) := ⟨vec1 _ _ (by decide), fun q => by
  unfold setF
  rw [ofS, ofA]
  by_cases h1 : q = [97]
  · subst h1; decide
  · rw [if_neg h1, if_neg h1]
    split <;> simp⟩
theorem isD : IsVec kD (fun y => if y = [97] then 0 else ofL kA y) := ⟨vec1 _ _ (by decide), fun q => by
  simp only
  rw [ofD, ofA]
  by_cases h1 : q = [97]
  · subst h1; decide
  · rw [if_neg h1, if_neg h1]⟩
theorem covJB : (∀ q, ofL kB q ≤ ofL kJ q) ↔ true = true := ⟨fun _ => rfl, fun _ q => by
  rw [ofB, ofJ]
  split
  · rename_i h; subst h; decide
  · omega⟩
theorem covAB : (∀ q, ofL kB q ≤ ofL kA q) ↔ false = true := ⟨fun h => by have := h [98]; rw [ofB, ofA] at this; exact absurd this (by decide), fun h => by cases h⟩
theorem lies_lit2 (W : World) (x y : M) (T : TypeId) : Lies (W.alloc (.cells #[.string ⟨x.p.toArray⟩, .int .u64 (x.n : Int), .string ⟨y.p.toArray⟩, .int .u64 (y.n : Int)] T)) (some ⟨W.heap.size, 0, none⟩) 2 [x, y] := by
  refine ⟨rfl, fun _ => ⟨W.heap.size, 0, rfl, fun j hj => ?_⟩⟩
  have hj2 : j = 0 ∨ j = 1 := by simp at hj; omega
  rcases hj2 with rfl | rfl
  · exact ⟨by rw [World.cell?_alloc_new]; rfl, by rw [World.cell?_alloc_new]; rfl⟩
  · exact ⟨by rw [World.cell?_alloc_new]; rfl, by rw [World.cell?_alloc_new]; rfl⟩
theorem lies_lit1 (W : World) (x : M) (T : TypeId) : Lies (W.alloc (.cells #[.string ⟨x.p.toArray⟩, .int .u64 (x.n : Int)] T)) (some ⟨W.heap.size, 0, none⟩) 1 [x] := by
  refine ⟨rfl, fun _ => ⟨W.heap.size, 0, rfl, fun j hj => ?_⟩⟩
  obtain rfl : j = 0 := by simp at hj; exact hj
  exact ⟨by rw [World.cell?_alloc_new]; rfl, by rw [World.cell?_alloc_new]; rfl⟩
theorem lies_fst {W : World} {b off : Nat} {x y : M} (h : Lies W (some ⟨b, off, none⟩) 2 [x, y]) : Lies W (some ⟨b, off, none⟩) 1 [x] := by
  obtain ⟨b', o', e, hc⟩ := h.2 (by decide)
  simp only [Option.some.injEq, Addr.mk.injEq, and_true] at e
  obtain ⟨rfl, rfl⟩ := e
  refine ⟨rfl, fun _ => ⟨b, off, rfl, fun j hj => ?_⟩⟩
  obtain rfl : j = 0 := by simp at hj; exact hj
  exact hc 0 (by simp)
theorem lies_snd {W : World} {b off : Nat} {x y : M} (h : Lies W (some ⟨b, off, none⟩) 2 [x, y]) : Lies W (some ⟨b, off + 2, none⟩) 1 [y] := by
  obtain ⟨b', o', e, hc⟩ := h.2 (by decide)
  simp only [Option.some.injEq, Addr.mk.injEq, and_true] at e
  obtain ⟨rfl, rfl⟩ := e
  refine ⟨rfl, fun _ => ⟨b, off + 2, rfl, fun j hj => ?_⟩⟩
  obtain rfl : j = 0 := by simp at hj; exact hj
  exact hc 1 (by simp)



end Dots
end Go.Proofs.YtjnlooccddnbkaaGreatDoor
