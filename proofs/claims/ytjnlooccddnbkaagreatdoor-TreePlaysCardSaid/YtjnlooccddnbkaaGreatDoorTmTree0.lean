/- Merged texts: TreePlain, TreeIs. -/
import Derived.Test.YtjnlooccddnbkaaGreatDoorTmMark
import Derived.Test.YtjnlooccddnbkaaGreatDoorTmShard
import Derived.Test.YtjnlooccddnbkaaGreatDoorTmWire
import Derived.Test.YtjnlooccddnbkaaGreatDoorTmBase2
import Derived.Test.YtjnlooccddnbkaaGreatDoorTmDotA
namespace Go.Proofs.YtjnlooccddnbkaaGreatDoor
namespace Tree
open Go.RowKit Go.Proofs.YtjnlooccddnbkaaGreatDoor.Mark Go.Proofs.YtjnlooccddnbkaaGreatDoor.Dots
/-- A key, its bytes, its vector. -/
structure It where
  k : List UInt8
  b : List UInt8
  s : List M
def Up (l : List It) : Prop := l.Pairwise (fun x y => x.k < y.k)
def find (l : List It) (q : List UInt8) : Option It := l.find? (fun x => x.k == q)
def put (x : It) : List It → List It
  | [] => [x]
  | y :: l => if y.k < x.k then y :: put x l else if y.k = x.k then x :: l else x :: y :: l
def drop (q : List UInt8) (l : List It) : List It := l.filter (fun x => !(x.k == q))
theorem lt_irrefl (a : List UInt8) : ¬ a < a := List.lt_irrefl a
theorem lt_trans {a b c : List UInt8} (h : a < b) (k : b < c) : a < c := List.lt_trans h k
theorem lt_ways (a b : List UInt8) : a < b ∨ a = b ∨ b < a := by
  rcases List.le_total a b with h | h
  · by_cases e : a = b
    · exact .inr (.inl e)
    · exact .inl (List.not_le.1 fun h2 => e (List.le_antisymm h h2))
  · by_cases e : a = b
    · exact .inr (.inl e)
    · exact .inr (.inr (List.not_le.1 fun h2 => e (List.le_antisymm h2 h)))
theorem find_none (l : List It) (q : List UInt8) : find l q = none ↔ ∀ x ∈ l, x.k ≠ q := by
  unfold find
  rw [List.find?_eq_none]
  constructor
  · intro h x hx e; exact h x hx (by simp [e])
  · intro h x hx e; exact h x hx (by simpa using e)
theorem find_some {l : List It} (h : Up l) (q : List UInt8) (x : It) : find l q = some x ↔ x ∈ l ∧ x.k = q := by
  unfold find
  constructor
  · intro e
    have h1 := List.mem_of_find?_eq_some e
    have h2 := List.find?_some e
    exact ⟨h1, by simpa using h2⟩
  · rintro ⟨hx, hk⟩
    induction l with
    | nil => cases hx
    | cons y l ih =>
      unfold Up at h
      rw [List.pairwise_cons] at h
      rw [List.find?_cons]
      rcases List.mem_cons.1 hx with rfl | hx
      · simp [hk]
      · have hlt := h.1 x hx
        have hne : (y.k == q) = false := by
          simp only [beq_eq_false_iff_ne, ne_eq]
          intro e; rw [e, ← hk] at hlt; exact lt_irrefl _ hlt
        rw [hne]
        exact ih h.2 hx
theorem mem_put (x : It) : ∀ (l : List It) (y : It), y ∈ put x l → y = x ∨ y ∈ l
  | [], y, h => by simp [put] at h; exact .inl h
  | z :: l, y, h => by
    unfold put at h
    split at h
    · rcases List.mem_cons.1 h with rfl | h
      · exact .inr (List.mem_cons_self ..)
      · rcases mem_put x l y h with e | e
        · exact .inl e
        · exact .inr (List.mem_cons_of_mem _ e)
    · split at h
      · rcases List.mem_cons.1 h with rfl | h
        · exact .inl rfl
        · exact .inr (List.mem_cons_of_mem _ h)
      · rcases List.mem_cons.1 h with rfl | h
        · exact .inl rfl
        · exact .inr h
theorem up_put (x : It) : ∀ (l : List It), Up l → Up (put x l)
  | [], _ => List.pairwise_singleton _ _
  | z :: l, h => by
    unfold Up at h
    rw [List.pairwise_cons] at h
    unfold put
    split
    · rename_i hlt
      refine List.pairwise_cons.2 ⟨fun y hy => ?_, up_put x l h.2⟩
      rcases mem_put x l y hy with rfl | hy
      · exact hlt
      · exact h.1 y hy
    · rename_i hnl
      split
      · rename_i he
        exact List.pairwise_cons.2 ⟨fun y hy => by rw [← he]; exact h.1 y hy, h.2⟩
      · rename_i hne
        have hxz : x.k < z.k := by
          rcases lt_ways x.k z.k with e | e | e
          · exact e
          · exact absurd e.symm hne
          · exact absurd e hnl
        refine List.pairwise_cons.2 ⟨fun y hy => ?_, List.pairwise_cons.2 h⟩
        rcases List.mem_cons.1 hy with rfl | hy
        · exact hxz
        · exact lt_trans hxz (h.1 y hy)
theorem find_put (x : It) : ∀ (l : List It), Up l → ∀ q, find (put x l) q = if q = x.k then some x else find l q
  | [], _, q => by
    unfold put find
    by_cases e : q = x.k
    · subst e; simp
    · have : (x.k == q) = false := by simp; exact fun h => e h.symm
      simp [this, e]
  | z :: l, h, q => by
    unfold Up at h
    rw [List.pairwise_cons] at h
    unfold put
    split
    · rename_i hlt
      have ih := find_put x l h.2 q
      unfold find at ih ⊢
      rw [List.find?_cons, List.find?_cons]
      by_cases e : z.k = q
      · have : q ≠ x.k := fun e2 => by rw [e, e2] at hlt; exact lt_irrefl _ hlt
        simp [e, this]
      · have : (z.k == q) = false := by simp [e]
        rw [this]; exact ih
    · rename_i hnl
      split
      · rename_i he
        unfold find
        rw [List.find?_cons, List.find?_cons]
        by_cases e : q = x.k
        · simp [e]
        · have h1 : (x.k == q) = false := by simp; exact fun h => e h.symm
          have h2 : (z.k == q) = false := by rw [he]; exact h1
          rw [h1, h2, if_neg e]
      · unfold find
        rw [List.find?_cons]
        by_cases e : q = x.k
        · simp [e]
        · have h1 : (x.k == q) = false := by simp; exact fun h => e h.symm
          rw [h1, if_neg e]
theorem up_filter (f : It → Bool) {l : List It} (h : Up l) : Up (l.filter f) := List.Pairwise.filter _ h
theorem up_drop (q : List UInt8) {l : List It} (h : Up l) : Up (drop q l) := up_filter _ h
theorem find_drop (p : List UInt8) {l : List It} (h : Up l) (q : List UInt8) : find (drop p l) q = if q = p then none else find l q := by
  by_cases e : q = p
  · rw [if_pos e, find_none]
    intro x hx hk
    have := (List.mem_filter.1 hx).2
    rw [hk, e] at this
    simp at this
  · rw [if_neg e]
    cases hf : find l q with
    | none =>
      rw [find_none] at hf ⊢
      exact fun x hx => hf x (List.mem_filter.1 hx).1
    | some x =>
      obtain ⟨h1, h2⟩ := (find_some h q x).1 hf
      exact (find_some (up_drop p h) q x).2 ⟨List.mem_filter.2 ⟨h1, by simp [h2, e]⟩, h2⟩
theorem up_ext : ∀ (l m : List It), Up l → Up m → (∀ q, find l q = find m q) → l = m
  | [], [], _, _, _ => rfl
  | [], y :: m, _, hm, h => by
    have := (find_some hm y.k y).2 ⟨List.mem_cons_self .., rfl⟩
    rw [← h] at this; cases this
  | x :: l, [], hl, _, h => by
    have := (find_some hl x.k x).2 ⟨List.mem_cons_self .., rfl⟩
    rw [h] at this; cases this
  | x :: l, y :: m, hl, hm, h => by
    have hl' := hl
    have hm' := hm
    unfold Up at hl' hm'
    rw [List.pairwise_cons] at hl' hm'
    have hx : x ∈ y :: m := ((find_some hm x.k x).1 (by rw [← h]; exact (find_some hl x.k x).2 ⟨List.mem_cons_self .., rfl⟩)).1
    have hy : y ∈ x :: l := ((find_some hl y.k y).1 (by rw [h]; exact (find_some hm y.k y).2 ⟨List.mem_cons_self .., rfl⟩)).1
    have hxy : x = y := by
      rcases List.mem_cons.1 hx with e | e
      · exact e
      · rcases List.mem_cons.1 hy with e2 | e2
        · exact e2.symm
        · exact absurd (lt_trans (hm'.1 x e) (hl'.1 y e2)) (lt_irrefl _)
    subst hxy
    congr 1
    refine up_ext l m hl'.2 hm'.2 fun q => ?_
    by_cases e : q = x.k
    · subst e
      rw [(find_none l x.k).2 (fun z hz e => by have := hl'.1 z hz; rw [e] at this; exact lt_irrefl _ this), (find_none m x.k).2 (fun z hz e => by have := hm'.1 z hz; rw [e] at this; exact lt_irrefl _ this)]
    · have := h q
      unfold find at this ⊢
      have hne : (x.k == q) = false := by simp; exact fun h => e h.symm
      rw [List.find?_cons, List.find?_cons, hne] at this
      exact this
theorem length_put (x : It) : ∀ (l : List It), Up l → (put x l).length = if (find l x.k).isSome then l.length else l.length + 1
  | [], _ => rfl
  | z :: l, h => by
    unfold Up at h
    rw [List.pairwise_cons] at h
    unfold put
    split
    · rename_i hlt
      have ih := length_put x l h.2
      have hne : (z.k == x.k) = false := by simp; exact fun e => by rw [e] at hlt; exact lt_irrefl _ hlt
      have hf : find (z :: l) x.k = find l x.k := by unfold find; rw [List.find?_cons, hne]
      rw [hf, List.length_cons, ih]
      split <;> simp
    · rename_i hnl
      split
      · rename_i he
        have hf : find (z :: l) x.k = some z := by unfold find; rw [List.find?_cons]; simp [he]
        rw [hf]; rfl
      · rename_i hne
        have hf : find (z :: l) x.k = none := by
          rw [find_none]
          intro y hy e
          have hxz : x.k < z.k := by
            rcases lt_ways x.k z.k with e | e | e
            · exact e
            · exact absurd e.symm hne
            · exact absurd e hnl
          rcases List.mem_cons.1 hy with rfl | hy
          · exact hne e
          · have := h.1 y hy; rw [e] at this; exact lt_irrefl _ (lt_trans hxz this)
        rw [hf]; rfl
/-- The keys, rising. -/
theorem up_keys {l : List It} (h : Up l) : (l.map It.k).Pairwise (fun x y => x < y) := List.pairwise_map.2 h
theorem mem_keys {l : List It} (h : Up l) (q : List UInt8) : q ∈ l.map It.k ↔ (find l q).isSome = true := by
  constructor
  · intro hq
    obtain ⟨x, hx, rfl⟩ := List.mem_map.1 hq
    rw [(find_some h x.k x).2 ⟨hx, rfl⟩]; rfl
  · intro hq
    cases e : find l q with
    | none => rw [e] at hq; cases hq
    | some x =>
      obtain ⟨h1, h2⟩ := (find_some h q x).1 e
      exact List.mem_map.2 ⟨x, h1, h2⟩
/-- The items of a shard. -/
def items (l : List It) (i : Nat) : List It := l.filter (fun x => Shard.no x.k == i)
theorem part_items (l : List It) (i : Nat) : Shard.part (l.map It.k) i = (items l i).map It.k := by
  unfold Shard.part items
  rw [List.filter_map]
  rfl
def txt (l : List It) : List UInt8 := 0 :: l.flatMap (fun x => Wire.tcat [⟨x.k.toArray⟩, ⟨x.b.toArray⟩])
/-- A node's digest: m generations above the leaves. -/
def dig (l : List It) : Nat → Nat → List UInt8
  | 0, i => Sha.of (txt (items l i))
  | m + 1, i => Sha.of (1 :: (dig l m (2 * i) ++ dig l m (2 * i + 1)))
theorem dig_length (l : List It) : ∀ m i, (dig l m i).length = 32
  | 0, _ => rfl
  | _ + 1, _ => rfl
/-- What is seen in shards. -/
def seen (l : List It) (lo : Nat) : Nat → List M
  | 0 => []
  | n + 1 => seen l lo n ++ (items l (lo + n)).flatMap It.s
theorem seen_add (l : List It) (lo n : Nat) : ∀ m, seen l lo (n + m) = seen l lo n ++ seen l (lo + n) m
  | 0 => by simp [seen]
  | m + 1 => by
    have e : lo + (n + m) = lo + n + m := by omega
    show seen l lo (n + m) ++ (items l (lo + (n + m))).flatMap It.s = seen l lo n ++ (seen l (lo + n) m ++ (items l (lo + n + m)).flatMap It.s)
    rw [seen_add l lo n m, List.append_assoc, e]
end Tree
end Go.Proofs.YtjnlooccddnbkaaGreatDoor

namespace Go.Proofs.YtjnlooccddnbkaaGreatDoor
namespace Tree
open Go.RowKit Go.Proofs.YtjnlooccddnbkaaGreatDoor.Mark Go.Proofs.YtjnlooccddnbkaaGreatDoor.Dots
theorem own_low {w : World} {B m cap : Nat} {a : Option Addr} {L : List M} (h : Mark.Own w B (.slice a m cap) L) : ∀ x, a = some x → x.block < w.heap.size := fun x hx => by
  subst hx
  rcases h.2 with ⟨e, _⟩ | ⟨g, c, cur, e, _, hg, _⟩
  · cases e
  · simp only [Value.slice.injEq, Option.some.injEq] at e
    rw [e.1]
    exact (Array.getElem?_eq_some_iff.1 hg).1
theorem own_typed {w : World} {B m cap : Nat} {a : Option Addr} {L : List M} (h : Mark.Own w B (.slice a m cap) L) : ∀ x, a = some x → ∃ cs, w.heap[x.block]? = some (.cells cs 68 (0, 0)) := fun x hx => by
  subst hx
  rcases h.2 with ⟨e, _⟩ | ⟨g, c, cur, e, _, hg, _⟩
  · cases e
  · simp only [Value.slice.injEq, Option.some.injEq] at e
    rw [e.1]
    exact ⟨cur, hg⟩
/-- No marks were laid in this block. -/
def NoMark (w : World) (j : Nat) : Prop := ∀ cs, w.heap[j]? ≠ some (.cells cs 68 (0, 0))
/-- A key's entry. -/
def Ent (w : World) (tb mb : Nat) (v : Option Value) : Option It → Prop
  | none => v = none
  | some x => ∃ a c, v = some (.agg #[.string ⟨x.b.toArray⟩, .slice a x.s.length c]) ∧ Mark.Lies w a x.s.length x.s ∧ ∀ p, a = some p → p.block ≠ tb ∧ p.block ≠ mb ∧ p.block < w.heap.size ∧ ∃ cs, w.heap[p.block]? = some (.cells cs 68 (0, 0))
/-- A tree lies at block tb, its map at mb; n entries at most came. -/
structure Is (w : World) (tb mb n : Nat) (l : List It) : Prop where
  box : w.heap[tb]? = some (.cells #[.map (some mb)] 71 (0, 0))
  map : ∃ f, TextMap.Is Tryz.prog 9 w mb n f ∧ ∀ q, Ent w tb mb (f q) (find l q)
  up : Up l
  small : l.length ≤ 256
  fine : ∀ x ∈ l, x.k.length ≤ 4294967296 ∧ x.b.length ≤ 4294967296 ∧ mayL x.s = true ∧ Ok x.s
variable {w w' : World} {tb mb n : Nat} {l : List It}
theorem Is.tlt (h : Is w tb mb n l) : tb < w.heap.size := (Array.getElem?_eq_some_iff.1 h.box).1
theorem Is.mlt (h : Is w tb mb n l) : mb < w.heap.size := by
  obtain ⟨f, hf, _⟩ := h.map
  exact hf.lt
theorem Is.isMap (h : Is w tb mb n l) : ∃ es clock, w.heap[mb]? = some (.map es clock) := by
  obtain ⟨f, hf, _⟩ := h.map
  exact hf.isMap
theorem Is.ne (h : Is w tb mb n l) : tb ≠ mb := fun e => by
  obtain ⟨es, c, hm⟩ := h.isMap
  have := h.box
  rw [e, hm] at this
  cases this
theorem Is.cell (h : Is w tb mb n l) : w.cell? ⟨tb, 0, none⟩ = some (.map (some mb)) := by
  rw [cell_of_row w tb 0 _ _ _ h.box]; rfl
theorem Ent.moved {v : Option Value} {x : Option It} (h : Ent w tb mb v x) (hs : w.heap.size ≤ w'.heap.size) (k : ∀ j, j ≠ tb → j ≠ mb → j < w.heap.size → w'.heap[j]? = w.heap[j]? ∨ NoMark w j) : Ent w' tb mb v x := by
  cases x with
  | none => exact h
  | some x =>
    obtain ⟨a, c, e, hl, hp⟩ := h
    refine ⟨a, c, e, ?_, fun p ep => ⟨(hp p ep).1, (hp p ep).2.1, Nat.lt_of_lt_of_le (hp p ep).2.2.1 hs, by
      obtain ⟨h1, h2, h3, cs, h4⟩ := hp p ep
      rcases k p.block h1 h2 h3 with k | k
      · exact ⟨cs, k.trans h4⟩
      · exact absurd h4 (k cs)⟩⟩
    cases a with
    | none => exact ⟨hl.1, fun hn => by obtain ⟨_, _, e, _⟩ := hl.2 hn; cases e⟩
    | some q =>
      refine hl.mono fun p u hu hq => ?_
      obtain ⟨h1, h2, h3, cs, h4⟩ := hp q rfl
      rw [hq q rfl] at h1 h2 h3 h4
      rcases k p.block h1 h2 h3 with k | k
      · exact (World.cell?_of_block (w := w) k).trans hu
      · exact absurd h4 (k cs)
theorem Is.moved (h : Is w tb mb n l) (hs : w.heap.size ≤ w'.heap.size) (ht : w'.heap[tb]? = w.heap[tb]?) (hm : w'.heap[mb]? = w.heap[mb]?)
    (k : ∀ j, j ≠ tb → j ≠ mb → j < w.heap.size → w'.heap[j]? = w.heap[j]? ∨ NoMark w j) : Is w' tb mb n l := by
  obtain ⟨f, hf, he⟩ := h.map
  exact ⟨ht.trans h.box, ⟨f, hf.moved hm, fun q => (he q).moved hs k⟩, h.up, h.small, h.fine⟩
theorem Is.below (h : Is w tb mb n l) (k : Below w.heap.size w w') : Is w' tb mb n l :=
  h.moved k.size (k.block _ h.tlt) (k.block _ h.mlt) fun j _ _ hj => .inl (k.block j hj)
/-- Another map turns. -/
theorem Is.but (h : Is w tb mb n l) {p : Nat} (k : But p w w') (hp : p ≠ mb) (hm : ∃ es c, w.heap[p]? = some (.map es c)) : Is w' tb mb n l := by
  obtain ⟨es, c, hm⟩ := hm
  have hpt : tb ≠ p := fun e => by
    have := h.box
    rw [e, hm] at this
    cases this
  refine h.moved k.size (k.block _ h.tlt hpt) (k.block _ h.mlt (fun e => hp e.symm)) fun j _ _ hj => ?_
  by_cases e : j = p
  · subst e; exact .inr (fun cs e => by rw [hm] at e; cases e)
  · exact .inl (k.block j hj e)
theorem Is.mem (h : Is w tb mb n l) {f : List UInt8 → Option Value} (he : ∀ q, Ent w tb mb (f q) (find l q)) (q : List UInt8) : q ∈ l.map It.k ↔ (f q).isSome = true := by
  rw [mem_keys h.up]
  have := he q
  cases e : find l q with
  | none => rw [e] at this; rw [show f q = none from this]; simp
  | some x => rw [e] at this; obtain ⟨a, c, e2, _⟩ := this; rw [e2]; simp
theorem but_grown {b : Nat} {w x : World} (k : w.grownBy x (some b)) : But b w x := ⟨k.os, k.tape, k.output, k.size, fun j hj hb => k.block j hj (by simpa using hb)⟩
/-- The map turns: the others' entries stand. -/
theorem Ent.turned {v : Option Value} {x : Option It} (h : Ent w tb mb v x) (k : w.grownBy w' (some mb)) : Ent w' tb mb v x :=
  h.moved k.size fun j _ h2 hj => .inl (k.block j hj (by simpa using h2))
theorem Is.put (h : Is w tb mb n l) {f : List UInt8 → Option Value} (he : ∀ q, Ent w tb mb (f q) (find l q)) (x : It) {v : Value} (hx : Ent w tb mb (some v) (some x))
    (S : TextMap.Is Tryz.prog 9 w' mb (n + 1) (TextMap.put f x.k v)) (k : w.grownBy w' (some mb)) (room : (find l x.k).isSome = false → l.length < 256)
    (fx : x.k.length ≤ 4294967296 ∧ x.b.length ≤ 4294967296 ∧ mayL x.s = true ∧ Ok x.s) : Is w' tb mb (n + 1) (Tree.put x l) := by
  refine ⟨(k.block _ h.tlt (by simpa using h.ne)).trans h.box, ⟨_, S, fun q => ?_⟩, up_put x l h.up, ?_, fun y hy => ?_⟩
  · rw [find_put x l h.up]
    unfold TextMap.put
    by_cases e : q = x.k
    · rw [if_pos e, if_pos e]; exact hx.turned k
    · rw [if_neg e, if_neg e]; exact (he q).turned k
  · rw [length_put x l h.up]
    split
    · exact h.small
    · rename_i hn
      exact room (by simpa using hn)
  · rcases mem_put x l y hy with rfl | hy
    · exact fx
    · exact h.fine y hy
theorem Is.drop (h : Is w tb mb n l) {f : List UInt8 → Option Value} (he : ∀ q, Ent w tb mb (f q) (find l q)) (p : List UInt8)
    (S : TextMap.Is Tryz.prog 9 w' mb n (TextMap.without f p)) (k : w.grownBy w' (some mb)) : Is w' tb mb n (Tree.drop p l) := by
  refine ⟨(k.block _ h.tlt (by simpa using h.ne)).trans h.box, ⟨_, S, fun q => ?_⟩, up_drop p h.up, Nat.le_trans (List.length_filter_le _ _) h.small, fun y hy => h.fine y (List.mem_filter.1 hy).1⟩
  rw [find_drop p h.up]
  unfold TextMap.without
  by_cases e : q = p
  · rw [if_pos e, if_pos e]; rfl
  · rw [if_neg e, if_neg e]; exact (he q).turned k
theorem Is.more (h : Is w tb mb n l) {m : Nat} (hm : n ≤ m) : Is w tb mb m l := by
  obtain ⟨f, hf, he⟩ := h.map
  exact ⟨h.box, ⟨f, hf.mono hm, he⟩, h.up, h.small, h.fine⟩
end Tree
end Go.Proofs.YtjnlooccddnbkaaGreatDoor
