/- TreePlays: both trees side by side: each call, in one word. -/
import Derived.Test.YtjnlooccddnbkaaGreatDoorTmTreeOut
import Derived.Test.YtjnlooccddnbkaaGreatDoorTmLaw
import Derived.Test.YtjnlooccddnbkaaGreatDoorTmRefTreeDiff
import Derived.Test.YtjnlooccddnbkaaGreatDoorTmRefTreeDrop
namespace Go.Proofs.YtjnlooccddnbkaaGreatDoor
namespace TreePlay
open Go.RowKit Go.Proofs.YtjnlooccddnbkaaGreatDoor.Mark Go.Proofs.YtjnlooccddnbkaaGreatDoor.Dots Go.Proofs.YtjnlooccddnbkaaGreatDoor.Tree Go.Proofs.YtjnlooccddnbkaaGreatDoor.TreeLaw Go.Proofs.YtjnlooccddnbkaaGreatDoor.RefTree
/-- What a node tells. -/
def Node (l : List It) (d i : Int) (g : List UInt8) (R : List M) : Prop :=
  (In d i → g = dig l (4 - d.toNat) i.toNat ∧ IsVec R (ofL (Tree.seen l (i.toNat * 2 ^ (4 - d.toNat)) (2 ^ (4 - d.toNat))))) ∧ (¬ In d i → g = [] ∧ R = [])
theorem Node.uniq {l : List It} {d i : Int} {g g' : List UInt8} {R R' : List M} (h : Node l d i g R) (k : Node l d i g' R') : g = g' ∧ R = R' := by
  by_cases c : In d i
  · exact ⟨(h.1 c).1.trans (k.1 c).1.symm, IsVec.uniq (h.1 c).2 (k.1 c).2⟩
  · exact ⟨(h.2 c).1.trans (k.2 c).1.symm, (h.2 c).2.trans (k.2 c).2.symm⟩
/-- Light items. -/
def Fine (l : List It) : Prop := ∀ y ∈ l, y.k.length ≤ 1048576 ∧ y.b.length ≤ 1048576 ∧ Ok y.s ∧ y.s.length ≤ 512
theorem Fine.put {l : List It} (h : Fine l) (x : It) (hx : x.k.length ≤ 1048576 ∧ x.b.length ≤ 1048576 ∧ Ok x.s ∧ x.s.length ≤ 512) : Fine (putL l x) := fun y hy => by
  unfold putL at hy
  split at hy
  · rcases mem_put x l y hy with rfl | hy
    · exact hx
    · exact h y hy
  · exact h y hy
theorem Fine.drop {l : List It} (h : Fine l) (q : List UInt8) : Fine (Tree.drop q l) := fun y hy => h y (List.mem_filter.1 hy).1
/-- The program's tree stands while the reference's turns. -/
theorem on_turns {w x y : World} {tb mb n : Nat} {l : List It} (h : On w x tb mb n l) (k : Turns w x y) : On w y tb mb n l := by
  refine ⟨k.below h.hb, h.is.moved k.size ?_ ?_ (fun j _ _ hj => ?_), h.lo⟩
  · rcases k.block tb h.is.tlt with e | ⟨_, cs, T, e, hT⟩
    · exact e
    · rw [h.is.box] at e
      simp only [Option.some.injEq, Obj.cells.injEq] at e
      rcases hT with hT | hT <;> (rw [hT] at e; exact absurd e.2.1 (by decide))
  · rcases k.block mb h.is.mlt with e | ⟨_, cs, T, e, hT⟩
    · exact e
    · obtain ⟨es, c, hm⟩ := h.is.isMap
      rw [hm] at e
      cases e
  · rcases k.block j hj with e | ⟨_, cs, T, e, hT⟩
    · exact .inl e
    · refine .inr fun cs' e' => ?_
      rw [e'] at e
      simp only [Option.some.injEq, Obj.cells.injEq] at e
      rcases hT with hT | hT <;> (rw [hT] at e; exact absurd e.2.1 (by decide))
/-- Both trees; l: the program's list, m: the reference's. -/
structure Both (w x : World) (tb mb rb n : Nat) (l m : List It) : Prop where
  on : On w x tb mb n l
  ref : ∃ L, L.map RI.it = m ∧ RefTree.Is w x rb L
  up : Up m
  small : m.length ≤ 256
  fine : Fine m
variable {w x y : World} {tb mb rb n : Nat} {l m : List It}
theorem Both.hb (h : Both w x tb mb rb n l m) : Below w.heap.size w x := h.on.hb
theorem Both.below (h : Both w x tb mb rb n l m) (k : Below x.heap.size x y) : Both w y tb mb rb n l m := by
  obtain ⟨L, e, hr⟩ := h.ref
  exact ⟨h.on.below k, ⟨L, e, hr.below k⟩, h.up, h.small, h.fine⟩
theorem Both.more (h : Both w x tb mb rb n l m) {n' : Nat} (k : n ≤ n') : Both w x tb mb rb n' l m := ⟨h.on.more k, h.ref, h.up, h.small, h.fine⟩
theorem Both.but (h : Both w x tb mb rb n l m) (k : But mb x y) {n' : Nat} {l' : List It} (i : On w y tb mb n' l') : Both w y tb mb rb n' l' m := by
  obtain ⟨L, e, hr⟩ := h.ref
  exact ⟨i, ⟨L, e, hr.but k h.on.is.isMap⟩, h.up, h.small, h.fine⟩
theorem ref_facts {L : List RI} (e : L.map RI.it = m) (h : Fine m) (hs : m.length ≤ 256) : L.length ≤ 256 ∧ ∀ y ∈ L, y.k.length ≤ 1048576 ∧ y.b.length ≤ 1048576 ∧ Ok y.s ∧ y.s.length ≤ 512 :=
  ⟨by rw [← e, List.length_map] at hs; exact hs, fun y hy => h y.it (by rw [← e]; exact List.mem_map_of_mem hy)⟩
theorem putp (h : Both w x tb mb rb n l m) (key bs : List UInt8) (s : List M) (a : Option Addr) (c : Nat) (hs : Mark.Lies x a s.length s) (hok : Ok s) (hk : key.length ≤ 4294967296) (hbs : bs.length ≤ 4294967296) (hsn : s.length ≤ 1099511627776) (hn : n < 1099511627776) :
    Calls Tryz.prog 13 #[.pointer (some ⟨tb, 0, none⟩), .string ⟨key.toArray⟩, .string ⟨bs.toArray⟩, .slice a s.length c] x fun e y => e = .returned (.int .i64 (putE l ⟨key, bs, s⟩)) ∧ Both w y tb mb rb (n + 1) (putL l ⟨key, bs, s⟩) m ∧ But mb x y :=
  (put_on h.on key bs s a c hs hok hk hbs hsn hn).mono fun _ _ ⟨he, hi, k⟩ => ⟨he, h.but k hi, k⟩
theorem dropp (h : Both w x tb mb rb n l m) (key : List UInt8) (hk : key.length ≤ 1099511627776) :
    Calls Tryz.prog 20 #[.pointer (some ⟨tb, 0, none⟩), .string ⟨key.toArray⟩] x fun e y => e = .returned (.bool (find l key).isSome) ∧ Both w y tb mb rb n (Tree.drop key l) m ∧ But mb x y :=
  (TreeLaw.drop_on h.on key hk).mono fun _ _ ⟨he, hi, k⟩ => ⟨he, h.but k hi, k⟩
theorem dropr (h : Both w x tb mb rb n l m) (q : List UInt8) :
    Calls Tryz.prog 26 #[.pointer (some ⟨rb, 0, none⟩), .string ⟨q.toArray⟩] x fun e y => e = .returned (.bool (find m q).isSome) ∧ Both w y tb mb rb n l (Tree.drop q m) ∧ Turns w x y := by
  obtain ⟨L, rfl, hr⟩ := h.ref
  have f := ref_facts rfl h.fine h.small
  exact (RefTree.drop_any q hr h.up f.1 h.on.hb).mono fun _ _ ⟨he, hi, k⟩ => ⟨he, ⟨on_turns h.on k, hi, up_drop q h.up, Nat.le_trans (List.length_filter_le _ _) h.small, h.fine.drop q⟩, k⟩
theorem small_put {m : List It} (hu : Up m) (h : m.length ≤ 256) (x : It) : (putL m x).length ≤ 256 := by
  unfold putL
  split
  · rename_i hc
    rw [length_put x m hu]
    split
    · exact h
    · rename_i hn
      unfold putE at hc
      split at hc
      · split at hc
        · cases hc
        · rename_i h1
          have : (find m x.k).isSome = false := by simpa using hn
          have h2 : ¬ 256 ≤ m.length := fun h => h1 ⟨this, h⟩
          omega
      · cases hc
  · exact h
theorem putr (h : Both w x tb mb rb n l m) (X : RI) (hX : Mark.Lies w X.ms X.s.length X.s) (hf : X.k.length ≤ 1048576 ∧ X.b.length ≤ 1048576 ∧ Ok X.s ∧ X.s.length ≤ 512) :
    Calls Tryz.prog 27 #[.pointer (some ⟨rb, 0, none⟩), .agg #[.string ⟨X.k.toArray⟩, .string ⟨X.b.toArray⟩, .slice X.ms X.s.length X.mc]] x fun e y => e = .returned (.int .i64 (putE m X.it)) ∧ Both w y tb mb rb n l (putL m X.it) ∧ Turns w x y := by
  obtain ⟨L, rfl, hr⟩ := h.ref
  have f := ref_facts rfl h.fine h.small
  refine (RefTree.put_any X hr h.up f.1 hX h.on.hb hf.2.2.1 (by have := hf.2.2.2; omega)).mono fun _ _ ⟨he, hi, k⟩ => ⟨he, ⟨on_turns h.on k, hi, up_putL h.up _, small_put h.up h.small _, h.fine.put _ hf⟩, k⟩
theorem lenr (h : Both w x tb mb rb n l m) : ∃ a c, x.cell? ⟨rb, 0, none⟩ = some (.slice a m.length c) := by
  obtain ⟨L, e, hr⟩ := h.ref
  obtain ⟨v, p1, p2⟩ := hr.box
  obtain ⟨a, c, rfl, -⟩ := Row.Own.lies p2
  refine ⟨a, c, ?_⟩
  rw [cell_of_row x rb 0 _ _ _ p1, ← e, List.length_map]; rfl
theorem pow_in {d i : Nat} (h : (i : Int) < 2 ^ d) : i < 2 ^ d := by exact_mod_cast h
theorem nodep (h : Both w x tb mb rb n l m) (ht : Sha.Tabs w) (d i : Int) :
    Calls Tryz.prog 19 #[.pointer (some ⟨tb, 0, none⟩), .int .i64 d, .int .i64 i] x fun e y => ∃ g a c R, e = .returned (.tuple #[.string ⟨g.toArray⟩, .slice a R.length c]) ∧ Node l d i g R ∧ R.length ≤ 2097152 ∧ Mark.Lies y a R.length R ∧ Below x.heap.size x y := by
  by_cases c : In d i
  · obtain ⟨c1, c2, c3, c4⟩ := id c
    obtain ⟨dn, rfl⟩ : ∃ k : Nat, d = (k : Int) := ⟨d.toNat, by omega⟩
    obtain ⟨j, rfl⟩ : ∃ k : Nat, i = (k : Int) := ⟨i.toNat, by omega⟩
    rw [Int.toNat_natCast] at c4
    exact (node_on h.on ht (tabs_two ht) dn j (4 - dn) (by omega) (pow_in c4)).mono fun _ _ ⟨a, cc, R, he, hv, hl, hL, k⟩ => ⟨_, a, cc, R, he, ⟨fun _ => by rw [Int.toNat_natCast, Int.toNat_natCast]; exact ⟨rfl, hv⟩, fun hh => absurd c hh⟩, hl, hL, k⟩
  · exact (callsIn_wide.1 (out_p x tb mb n l h.on.is d i c)).mono fun _ y ⟨he, k⟩ => ⟨[], none, 0, [], he, ⟨fun hh => absurd hh c, fun _ => ⟨rfl, rfl⟩⟩, by simp, Mark.Lies.nil _ _, k⟩
theorem noder (h : Both w x tb mb rb n l m) (d i : Int) :
    Calls Tryz.prog 28 #[.pointer (some ⟨rb, 0, none⟩), .int .i64 d, .int .i64 i] x fun e y => ∃ g a c R, e = .returned (.tuple #[.string ⟨g.toArray⟩, .slice a R.length c]) ∧ Node m d i g R ∧ R.length ≤ 2097152 ∧ Mark.Lies y a R.length R ∧ Below x.heap.size x y := by
  obtain ⟨L, rfl, hr⟩ := h.ref
  have f := ref_facts rfl h.fine h.small
  by_cases c : In d i
  · obtain ⟨c1, c2, c3, c4⟩ := id c
    obtain ⟨dn, rfl⟩ : ∃ k : Nat, d = (k : Int) := ⟨d.toNat, by omega⟩
    obtain ⟨j, rfl⟩ : ∃ k : Nat, i = (k : Int) := ⟨i.toNat, by omega⟩
    rw [Int.toNat_natCast] at c4
    exact (RefTree.node_any f.1 f.2 (4 - dn) dn j x (by omega) (pow_in c4) hr h.on.hb).mono fun _ _ ⟨a, cc, R, he, hv, hl, _, hL, k⟩ => ⟨_, a, cc, R, he, ⟨fun _ => by rw [Int.toNat_natCast, Int.toNat_natCast]; exact ⟨rfl, hv⟩, fun hh => absurd c hh⟩, Nat.le_trans hl (by
      have := Nat.pow_le_pow_right (n := 2) (by decide) (show 4 - dn ≤ 4 by omega)
      omega), hL, k⟩
  · exact (out_r x rb d i c).mono fun _ y ⟨he, e⟩ => ⟨[], none, 0, [], he, ⟨fun hh => absurd hh c, fun _ => ⟨rfl, rfl⟩⟩, by simp, Mark.Lies.nil _ _, by rw [e]; exact Below.refl _ _⟩
theorem diffr (h : Both w x tb mb rb n l m) (base : List M) (a : Option Addr) (nb c : Nat) (hb : Mark.Lies x a nb base) (hok : Ok base) (hnb : nb ≤ 549755813888) (cc : Nat → Bool) (hcc : ∀ i, cc i = true ↔ Lacks m base i) :
    Calls Tryz.prog 30 #[.pointer (some ⟨rb, 0, none⟩), .slice a nb c] x fun e y => ∃ a' c', e = .returned (.slice a' (if mayL base then sel cc 16 else []).length c') ∧ Row.Lies (Ones.enc .i64) y a' (if mayL base then sel cc 16 else []).length (if mayL base then sel cc 16 else []) ∧ Below x.heap.size x y := by
  obtain ⟨L, rfl, hr⟩ := h.ref
  have f := ref_facts rfl h.fine h.small
  exact RefTree.diff_any base a nb c hr h.on.hb f.1 f.2 hb hok hnb cc hcc
theorem atr (h : Both w x tb mb rb n l m) (q : List UInt8) (hq : q ∈ m.map It.k) :
    Calls Tryz.prog 32 #[.pointer (some ⟨rb, 0, none⟩), .string ⟨q.toArray⟩] x fun e y => ∃ r : Int, e = .returned (.int .i64 r) ∧ 0 ≤ r ∧ x = y := by
  obtain ⟨L, rfl, hr⟩ := h.ref
  have f := ref_facts rfl h.fine h.small
  refine (RefTree.at_any q hr f.1).mono fun _ _ ⟨r, he, ha, e⟩ => ⟨r, he, ?_, e⟩
  rcases ha with ⟨i, hi, rfl, _⟩ | ⟨_, hno⟩
  · omega
  · rw [List.map_map] at hq
    obtain ⟨y, hy, hk⟩ := List.mem_map.1 hq
    exact absurd hk (hno y hy)
end TreePlay
end Go.Proofs.YtjnlooccddnbkaaGreatDoor
