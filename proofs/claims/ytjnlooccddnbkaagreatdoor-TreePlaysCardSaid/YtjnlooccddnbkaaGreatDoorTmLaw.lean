/- Merged texts: TreeOn, TreeWorks, TreeScript. -/
import Derived.Test.YtjnlooccddnbkaaGreatDoorTmTreeVec
import Derived.Test.YtjnlooccddnbkaaGreatDoorTmTreeDiff
import Derived.Test.YtjnlooccddnbkaaGreatDoorTmStepIn
import Derived.Test.YtjnlooccddnbkaaGreatDoorTmAlive
import Derived.Test.YtjnlooccddnbkaaGreatDoorTmTreeFns
import Derived.Test.YtjnlooccddnbkaaGreatDoorTmRefDotA
namespace Go.Proofs.YtjnlooccddnbkaaGreatDoor
namespace TreeLaw
open Go.RowKit Go.Proofs.YtjnlooccddnbkaaGreatDoor.Mark Go.Proofs.YtjnlooccddnbkaaGreatDoor.Dots Go.Proofs.YtjnlooccddnbkaaGreatDoor.Tree
/-- A tree that the law has made; w: the world at the law's beginning, x: now. -/
structure On (w x : World) (tb mb n : Nat) (l : List It) : Prop where
  hb : Below w.heap.size w x
  is : Is x tb mb n l
  lo : w.heap.size ≤ mb
variable {w x y : World} {tb mb n : Nat} {l : List It}
theorem On.below (h : On w x tb mb n l) (k : Below x.heap.size x y) : On w y tb mb n l := ⟨bstep h.hb k, h.is.below k, h.lo⟩
theorem On.but (h : On w x tb mb n l) (k : But mb x y) {n' : Nat} {l' : List It} (i : Is y tb mb n' l') : On w y tb mb n' l' := ⟨But.below h.hb k h.lo h.hb.size, i, h.lo⟩
theorem On.other (h : On w x tb mb n l) {ta ma n' : Nat} {l' : List It} (g : On w x ta ma n' l') (k : But ma x y) (hne : ma ≠ mb) : On w y tb mb n l :=
  ⟨But.below h.hb k g.lo h.hb.size, h.is.but k hne g.is.isMap, h.lo⟩
theorem On.more (h : On w x tb mb n l) {m : Nat} (hm : n ≤ m) : On w x tb mb m l := ⟨h.hb, h.is.more hm, h.lo⟩
theorem new_on (h : Below w.heap.size w x) : Calls Tryz.prog 12 #[] x fun e y => ∃ tb mb, e = .returned (.pointer (some ⟨tb, 0, none⟩)) ∧ On w y tb mb 0 [] ∧ x.heap.size ≤ tb ∧ x.heap.size ≤ mb ∧ Below x.heap.size x y :=
  (new_any x).mono fun _ _ ⟨tb, mb, he, hi, h1, h2, k⟩ => ⟨tb, mb, he, ⟨bstep h k, hi, Nat.le_trans h.size h2⟩, h1, h2, k⟩
theorem put_on (h : On w x tb mb n l) (key bs : List UInt8) (s : List M) (a : Option Addr) (c : Nat) (hs : Mark.Lies x a s.length s) (hok : Ok s) (hk : key.length ≤ 4294967296) (hbs : bs.length ≤ 4294967296) (hsn : s.length ≤ 1099511627776) (hn : n < 1099511627776) :
    Calls Tryz.prog 13 #[.pointer (some ⟨tb, 0, none⟩), .string ⟨key.toArray⟩, .string ⟨bs.toArray⟩, .slice a s.length c] x fun e y => e = .returned (.int .i64 (putE l ⟨key, bs, s⟩)) ∧ On w y tb mb (n + 1) (putL l ⟨key, bs, s⟩) ∧ But mb x y :=
  (put_any key bs s a c x tb mb n l h.is hs hok hk hbs hsn hn).mono fun _ _ ⟨he, hi, k⟩ => ⟨he, h.but k hi, k⟩
theorem drop_on (h : On w x tb mb n l) (key : List UInt8) (hk : key.length ≤ 1099511627776) :
    Calls Tryz.prog 20 #[.pointer (some ⟨tb, 0, none⟩), .string ⟨key.toArray⟩] x fun e y => e = .returned (.bool (find l key).isSome) ∧ On w y tb mb n (drop key l) ∧ But mb x y :=
  (drop_any key x tb mb n l h.is hk).mono fun _ _ ⟨he, hi, k⟩ => ⟨he, h.but k hi, k⟩
theorem len_on (h : On w x tb mb n l) : Calls Tryz.prog 21 #[.pointer (some ⟨tb, 0, none⟩)] x fun e y => e = .returned (.int .i64 (l.length : Int)) ∧ x = y := len_any x tb mb n l h.is
theorem root_on (h : On w x tb mb n l) (ht : Sha.Tabs w) (h2 : 2 ≤ w.heap.size) : Calls Tryz.prog 18 #[.pointer (some ⟨tb, 0, none⟩)] x fun e y => e = .returned (.string ⟨(dig l 4 0).toArray⟩) ∧ Below x.heap.size x y :=
  root_any x tb mb n l h.is (ht.below h.hb) (Nat.le_trans h2 h.hb.size)
theorem node_on (h : On w x tb mb n l) (ht : Sha.Tabs w) (h2 : 2 ≤ w.heap.size) (deep i m : Nat) (hd : deep + m = 4) (hi : i < 2 ^ deep) :
    Calls Tryz.prog 19 #[.pointer (some ⟨tb, 0, none⟩), .int .i64 (deep : Int), .int .i64 (i : Int)] x fun e y => ∃ (a : Option Addr) (c : Nat) (R : List M), e = .returned (.tuple #[.string ⟨(dig l m i).toArray⟩, .slice a R.length c]) ∧
      IsVec R (ofL (Tree.seen l (i * 2 ^ m) (2 ^ m))) ∧ R.length ≤ 2097152 ∧ Mark.Lies y a R.length R ∧ Below x.heap.size x y :=
  (callsIn_wide.1 (node_in x tb mb n l deep i m h.is (ht.below h.hb) (Nat.le_trans h2 h.hb.size) hd hi)).mono fun _ _ ⟨v, R, he, hv, hl, ho, k⟩ => by
    obtain ⟨a, c, rfl, -, -, h1, -⟩ := ho.lies
    exact ⟨a, c, R, he, hv, hl, h1, k⟩
theorem diff_on (h : On w x tb mb n l) (ht : Sha.Tabs w) (base : List M) (a : Option Addr) (nb c : Nat) (hb : Mark.Lies x a nb base) (hok : Ok base) (hnb : nb ≤ 1099511627776) (cc : Nat → Bool) (hcc : ∀ i, cc i = true ↔ Lacks l base i) :
    Calls Tryz.prog 15 #[.pointer (some ⟨tb, 0, none⟩), .slice a nb c] x fun e y => ∃ a' c', e = .returned (.slice a' (if mayL base then sel cc 16 else []).length c') ∧ Row.Lies (Ones.enc .i64) y a' (if mayL base then sel cc 16 else []).length (if mayL base then sel cc 16 else []) ∧ Below x.heap.size x y :=
  callsIn_wide.1 (diff_in x tb mb n l base a nb c h.is (ht.below h.hb) hb hok hnb cc hcc)
theorem tabs_two (h : Sha.Tabs w) : 2 ≤ w.heap.size := by
  obtain ⟨⟨t1, h1, h3⟩, t, h2⟩ := h
  have := h1.lt
  have := h2.lt
  omega
theorem step_ok {z : St} (h : z.Light 2048) (k : z.Sized) : (Ok z.A ∧ z.A.length ≤ 30) ∧ z.key.length ≤ 2048 ∧ z.bs.length ≤ 2048 :=
  ⟨⟨fun m hm => ⟨(k.2.2.2 m hm).2, Nat.le_trans (k.2.2.2 m hm).1 (by decide)⟩, h.1⟩, h.2.1, h.2.2.1⟩
theorem lies_but {α : Type} {E : Row.Enc α} {a : Option Addr} {k b : Nat} {L : List α} (h : Row.Lies E x a k L) (g : But b x y) (hb : ∀ q, a = some q → q.block ≠ b) : Row.Lies E y a k L :=
  ⟨h.1, fun hn => by
    obtain ⟨b', off, e, hc⟩ := h.2 hn
    exact ⟨b', off, e, fun j hj i u hu => by
      have := hc j hj i u hu
      exact (g.cell (World.block_lt_of_cell? _ _ this) (show b' ≠ b from hb ⟨b', off, none⟩ e)).trans this⟩⟩
/-- The relation of Lacks is told by some function. -/
theorem lacks_fun (l : List It) (base : List M) : ∃ cc : Nat → Bool, ∀ i, cc i = true ↔ Lacks l base i := by
  classical
  exact ⟨fun i => decide (Lacks l base i), fun i => by simp⟩
end TreeLaw
end Go.Proofs.YtjnlooccddnbkaaGreatDoor

namespace Go.Proofs.YtjnlooccddnbkaaGreatDoor
namespace TreeLaw
open Go.RowKit Go.Proofs.YtjnlooccddnbkaaGreatDoor.Mark Go.Proofs.YtjnlooccddnbkaaGreatDoor.Dots Go.Proofs.YtjnlooccddnbkaaGreatDoor.Tree
def kA : List UInt8 := [35, 97]
def kB : List UInt8 := [35, 98]
def m3 : List M := [⟨[1], 3⟩]
def iA : It := ⟨kA, [120], m3⟩
def iB : It := ⟨kB, [121], []⟩
def iZ : It := ⟨kB, [122], []⟩
theorem m3_may : mayL m3 = true := by decide +kernel
theorem nil_may : mayL [] = true := by decide +kernel
theorem m3_ok : Ok m3 := fun m hm => by
  obtain rfl := List.mem_singleton.1 hm
  exact ⟨by decide, by decide⟩
theorem nil_ok : Ok [] := fun m hm => by cases hm
theorem p1 : putL [] iA = [iA] ∧ putE [] iA = 0 := by
  have e : putE [] iA = 0 := by unfold putE; rw [if_pos (show mayL iA.s = true from m3_may)]; rfl
  exact ⟨by unfold putL; rw [if_pos e]; rfl, e⟩
theorem p2 : putL [iA] iB = [iA, iB] ∧ putE [iA] iB = 0 := by
  have e : putE [iA] iB = 0 := by unfold putE; rw [if_pos (show mayL iB.s = true from nil_may)]; decide +kernel
  exact ⟨by unfold putL; rw [if_pos e]; rfl, e⟩
theorem p3 : putL [] iZ = [iZ] ∧ putE [] iZ = 0 := by
  have e : putE [] iZ = 0 := by unfold putE; rw [if_pos (show mayL iZ.s = true from nil_may)]; rfl
  exact ⟨by unfold putL; rw [if_pos e]; rfl, e⟩
theorem p4 : putL [iZ] iB = [iB] ∧ putE [iZ] iB = 0 := by
  have e : putE [iZ] iB = 0 := by unfold putE; rw [if_pos (show mayL iB.s = true from nil_may)]; decide +kernel
  exact ⟨by unfold putL; rw [if_pos e]; rfl, e⟩
theorem p5 : putL [iB] iA = [iA, iB] ∧ putE [iB] iA = 0 := by
  have e : putE [iB] iA = 0 := by unfold putE; rw [if_pos (show mayL iA.s = true from m3_may)]; decide +kernel
  exact ⟨by unfold putL; rw [if_pos e]; rfl, e⟩
theorem of_nil (q : List UInt8) : ofL [] q = 0 := rfl
theorem lacks_nil (i : Nat) : Lacks [iA, iB] [] i ↔ i = Shard.no kA := by
  have hno : ¬ ∀ q, ofL m3 q ≤ ofL [] q := fun h => by
    have := h [1]
    rw [show m3 = [⟨[1], 3⟩] from rfl, of1 [1] 3 (by decide), if_pos rfl, of_nil] at this
    omega
  constructor
  · rintro ⟨x, hx, hn⟩
    obtain ⟨hm, hs⟩ := List.mem_filter.1 hx
    rcases List.mem_cons.1 hm with rfl | hm
    · exact (eq_of_beq hs).symm
    · obtain rfl := List.mem_singleton.1 hm
      exact absurd (fun q => Nat.le_refl _) hn
  · intro hi
    refine ⟨iA, ?_, hno⟩
    unfold items
    rw [List.mem_filter]
    exact ⟨List.mem_cons_self .., beq_iff_eq.2 hi.symm⟩
theorem lacks_m3 (i : Nat) : ¬ Lacks [iA, iB] m3 i := by
  rintro ⟨x, hx, hn⟩
  obtain ⟨hm, hs⟩ := List.mem_filter.1 hx
  rcases List.mem_cons.1 hm with rfl | hm
  · exact hn (fun q => Nat.le_refl _)
  · obtain rfl := List.mem_singleton.1 hm
    exact hn (fun q => by show ofL [] q ≤ _; rw [of_nil]; exact Nat.zero_le _)
theorem one_of : ∀ k, k < 16 → ((List.range 16).filter (fun i => i == k)).length = 1 := by decide
theorem sel_one {cc : Nat → Bool} {k : Nat} (hk : k < 16) (h : ∀ i, cc i = true ↔ i = k) : (sel cc 16).length = 1 := by
  have e : cc = fun i => i == k := funext fun i => by
    cases hc : cc i with
    | true => rw [(h i).1 hc]; simp
    | false =>
      symm
      simp only [beq_eq_false_iff_ne, ne_eq]
      intro e
      rw [(h i).2 e] at hc; cases hc
  unfold sel
  rw [List.length_map, e, one_of k hk]
theorem sel_none {cc : Nat → Bool} (h : ∀ i, ¬ cc i = true) : sel cc 16 = [] := by
  unfold sel
  rw [List.filter_eq_nil_iff.2 (fun i _ => h i)]; rfl
theorem diff_nil {w x : World} {tb mb n : Nat} (h : On w x tb mb n [iA, iB]) (ht : Sha.Tabs w) :
    Calls Tryz.prog 15 #[.pointer (some ⟨tb, 0, none⟩), .slice none 0 0] x fun e y => ∃ a' c', e = .returned (.slice a' 1 c') ∧ Below x.heap.size x y := by
  obtain ⟨cc, hcc⟩ := lacks_fun [iA, iB] []
  refine (diff_on h ht [] none 0 0 (Mark.Lies.nil _ _) nil_ok (by decide) cc hcc).mono ?_
  rintro e y ⟨a', c', he, -, k⟩
  rw [if_pos nil_may, sel_one (Shard.no_lt kA) (fun i => (hcc i).trans (lacks_nil i))] at he
  exact ⟨a', c', he, k⟩
theorem diff_m3 {w x : World} {tb mb n sb : Nat} (h : On w x tb mb n [iA, iB]) (ht : Sha.Tabs w) (hs : Mark.Lies x (some ⟨sb, 0, none⟩) 1 m3) :
    Calls Tryz.prog 15 #[.pointer (some ⟨tb, 0, none⟩), .slice (some ⟨sb, 0, none⟩) 1 1] x fun e y => ∃ a' c', e = .returned (.slice a' 0 c') ∧ Below x.heap.size x y := by
  obtain ⟨cc, hcc⟩ := lacks_fun [iA, iB] m3
  refine (diff_on h ht m3 _ 1 1 hs m3_ok (by decide) cc hcc).mono ?_
  rintro e y ⟨a', c', he, -, k⟩
  rw [if_pos m3_may, sel_none (fun i hi => lacks_m3 i ((hcc i).1 hi))] at he
  exact ⟨a', c', he, k⟩
/-- A vector of one mark lies in a block. -/
def Seen (x : World) (sb : Nat) : Prop := x.heap[sb]? = some (.cells #[.string ⟨#[1]⟩, .int .u64 3] 68 (0, 0))
theorem Seen.lies {x : World} {sb : Nat} (h : Seen x sb) : Mark.Lies x (some ⟨sb, 0, none⟩) 1 m3 := by
  refine ⟨rfl, fun _ => ⟨sb, 0, rfl, fun j hj => ?_⟩⟩
  obtain rfl : j = 0 := by have : j < 1 := hj; omega
  exact ⟨by rw [cell_of_row x sb 0 _ _ _ h]; rfl, by rw [cell_of_row x sb 1 _ _ _ h]; rfl⟩
theorem Seen.lt {x : World} {sb : Nat} (h : Seen x sb) : sb < x.heap.size := (Array.getElem?_eq_some_iff.1 h).1
theorem Seen.below {x y : World} {sb : Nat} (h : Seen x sb) (k : Below x.heap.size x y) : Seen y sb := (k.block _ h.lt).trans h
theorem Seen.but {x y : World} {sb b : Nat} (h : Seen x sb) (k : But b x y) (hm : ∃ es c, x.heap[b]? = some (.map es c)) : Seen y sb := (k.block _ h.lt (fun e => by
  obtain ⟨es, c, hm⟩ := hm
  rw [← e, h] at hm; cases hm)).trans h
theorem put_a {w x : World} {tb mb n sb : Nat} {l l' : List It} {z : Int} (h : On w x tb mb n l) (hs : Seen x sb) (hn : n < 1000) (hp : putL l iA = l' ∧ putE l iA = z) :
    Calls Tryz.prog 13 #[.pointer (some ⟨tb, 0, none⟩), .string ⟨#[35, 97]⟩, .string ⟨#[120]⟩, .slice (some ⟨sb, 0, none⟩) 1 1] x fun e y => e = .returned (.int .i64 z) ∧ On w y tb mb (n + 1) l' ∧ But mb x y := by
  rw [← hp.1, ← hp.2]
  exact put_on h kA [120] m3 _ 1 hs.lies m3_ok (by decide) (by decide) (by decide) (by omega)
theorem put_b {w x : World} {tb mb n : Nat} {l l' : List It} {z : Int} (h : On w x tb mb n l) (hn : n < 1000) (hp : putL l iB = l' ∧ putE l iB = z) :
    Calls Tryz.prog 13 #[.pointer (some ⟨tb, 0, none⟩), .string ⟨#[35, 98]⟩, .string ⟨#[121]⟩, .slice none 0 0] x fun e y => e = .returned (.int .i64 z) ∧ On w y tb mb (n + 1) l' ∧ But mb x y := by
  rw [← hp.1, ← hp.2]
  exact put_on h kB [121] [] none 0 (Mark.Lies.nil _ _) nil_ok (by decide) (by decide) (by decide) (by omega)
theorem put_z {w x : World} {tb mb n : Nat} {l l' : List It} {z : Int} (h : On w x tb mb n l) (hn : n < 1000) (hp : putL l iZ = l' ∧ putE l iZ = z) :
    Calls Tryz.prog 13 #[.pointer (some ⟨tb, 0, none⟩), .string ⟨#[35, 98]⟩, .string ⟨#[122]⟩, .slice none 0 0] x fun e y => e = .returned (.int .i64 z) ∧ On w y tb mb (n + 1) l' ∧ But mb x y := by
  rw [← hp.1, ← hp.2]
  exact put_on h kB [122] [] none 0 (Mark.Lies.nil _ _) nil_ok (by decide) (by decide) (by decide) (by omega)
set_option maxRecDepth 100000 in
set_option maxHeartbeats 8000000 in
theorem works_any (w : World) (ht : Sha.Tabs w) : Calls Tryz.prog 11 #[] w fun e w' => e = .returned (.bool true) ∧ Below w.heap.size w w' := by
  have hb := Below.refl w.heap.size w
  have HT := Lib.hid ht
  clear ht
  obtain ⟨dg, hdg⟩ : ∃ d, d = dig [iA, iB] 4 0 := ⟨_, rfl⟩
  obtain ⟨df, hdf⟩ : ∃ d, d = dig [iB] 4 0 := ⟨_, rfl⟩
  have R1 := Lib.hid (fun x ta ma n (h : On w x ta ma n [iA, iB]) => root_on h HT.out (tabs_two HT.out))
  have R2 := Lib.hid (fun x ta ma n (h : On w x ta ma n [iB]) => root_on h HT.out (tabs_two HT.out))
  rw [← hdg] at R1
  rw [← hdf] at R2
  have hlf : df.length = 32 := by rw [hdf]; exact dig_length _ _ _
  have e1 : (dg == dg) = true := by simp
  have e3 : ¬ df = [] := by intro e; rw [e] at hlf; cases hlf
  have e2 : (df != []) = true := by rw [bne_iff_ne]; exact e3
  have e4 : df.isEmpty = false := by rw [List.isEmpty_eq_false_iff]; exact e3
  clear hdg hdf hlf
  go_enter Tryz.func11, Tryz.ntmps11
  go_wp2_with fail
  refine (new_on hb).mono ?_
  rintro e v1 ⟨ta, ma, rfl, i1, -, -, k1⟩
  have A := Lib.hid i1
  replace hb := bstep hb k1
  clear i1 k1
  go_wp2_with fail
  refine (new_on hb).mono ?_
  rintro e v2 ⟨tb, mb, rfl, i2, -, hmb, k2⟩
  have B := Lib.hid i2
  have HNE : Hid (ma ≠ mb) := Lib.hid (by have := A.out.is.mlt; omega)
  replace A := Lib.hid (A.out.below k2)
  replace hb := bstep hb k2
  clear i2 k2 hmb
  go_upto_region 5 with (fail)
  have S := Lib.hid (show Seen (v2.alloc (.cells #[.string ⟨#[1]⟩, .int .u64 3] 68)) v2.heap.size from heap_alloc_new v2 _)
  have ka := balloc (Below.refl v2.heap.size v2) (.cells #[.string ⟨#[1]⟩, .int .u64 3] 68)
  replace A := Lib.hid (A.out.below ka)
  replace B := Lib.hid (B.out.below ka)
  obtain ⟨sb, hsb⟩ : ∃ s, s = v2.heap.size := ⟨_, rfl⟩
  obtain ⟨v3, hv3⟩ : ∃ v, v = v2.alloc (.cells #[.string ⟨#[1]⟩, .int .u64 3] 68) := ⟨_, rfl⟩
  rw [← hv3] at A B S ⊢
  rw [← hsb] at S ⊢
  clear hsb hv3 ka hb
  go_wp2_with fail
  refine (put_a A.out S.out (by decide) p1).mono ?_
  rintro e v4 ⟨rfl, i4, k4⟩
  replace B := Lib.hid (B.out.other A.out k4 HNE.out)
  replace S := Lib.hid (S.out.but k4 A.out.is.isMap)
  replace A := Lib.hid i4
  clear i4 k4
  go_wp2_with fail
  refine (put_b A.out (by decide) p2).mono ?_
  rintro e v5 ⟨rfl, i5, k5⟩
  replace B := Lib.hid (B.out.other A.out k5 HNE.out)
  replace S := Lib.hid (S.out.but k5 A.out.is.isMap)
  replace A := Lib.hid i5
  clear i5 k5
  go_wp2_with fail
  refine (put_z B.out (by decide) p3).mono ?_
  rintro e v6 ⟨rfl, i6, k6⟩
  replace A := Lib.hid (A.out.other B.out k6 (fun e => HNE.out e.symm))
  replace S := Lib.hid (S.out.but k6 B.out.is.isMap)
  replace B := Lib.hid i6
  clear i6 k6
  go_wp2_with fail
  refine (put_b B.out (by decide) p4).mono ?_
  rintro e v7 ⟨rfl, i7, k7⟩
  replace A := Lib.hid (A.out.other B.out k7 (fun e => HNE.out e.symm))
  replace S := Lib.hid (S.out.but k7 B.out.is.isMap)
  replace B := Lib.hid i7
  clear i7 k7
  go_wp2_with fail
  refine (R2.out _ tb mb _ B.out).mono ?_
  rintro e v8 ⟨rfl, k8⟩
  replace A := Lib.hid (A.out.below k8)
  replace B := Lib.hid (B.out.below k8)
  replace S := Lib.hid (S.out.below k8)
  clear k8
  go_wp2_with fail
  refine (put_a B.out S.out (by decide) p5).mono ?_
  rintro e v9 ⟨rfl, i9, k9⟩
  replace A := Lib.hid (A.out.other B.out k9 (fun e => HNE.out e.symm))
  replace S := Lib.hid (S.out.but k9 B.out.is.isMap)
  replace B := Lib.hid i9
  clear i9 k9
  go_wp2_with fail
  refine (R1.out _ ta ma _ A.out).mono ?_
  rintro e v10 ⟨rfl, k10⟩
  replace A := Lib.hid (A.out.below k10)
  replace B := Lib.hid (B.out.below k10)
  replace S := Lib.hid (S.out.below k10)
  clear k10
  go_wp2_with fail
  refine (R1.out _ tb mb _ B.out).mono ?_
  rintro e v11 ⟨rfl, k11⟩
  replace A := Lib.hid (A.out.below k11)
  replace S := Lib.hid (S.out.below k11)
  clear k11 B
  go_wp2_with fail
  refine (len_on A.out).mono ?_
  rintro e v12 ⟨rfl, rfl⟩
  go_wp2_with fail
  refine (diff_nil A.out HT.out).mono ?_
  rintro e v13 ⟨a13, c13, rfl, k13⟩
  replace A := Lib.hid (A.out.below k13)
  replace S := Lib.hid (S.out.below k13)
  clear k13
  go_wp2_with fail
  refine (diff_m3 A.out HT.out S.out.lies).mono ?_
  rintro e v14 ⟨a14, c14, rfl, k14⟩
  have hb := bstep A.out.hb k14
  go_wp2
  go_ret
  exact ⟨rfl, hb⟩
end TreeLaw
end Go.Proofs.YtjnlooccddnbkaaGreatDoor

namespace Go.Proofs.YtjnlooccddnbkaaGreatDoor
namespace TreeLaw
open Go.RowKit Go.Proofs.YtjnlooccddnbkaaGreatDoor.Mark Go.Proofs.YtjnlooccddnbkaaGreatDoor.Dots Go.Proofs.YtjnlooccddnbkaaGreatDoor.Tree
def puts (Ls : List St) : List It := Ls.foldl (fun l x => putL l x.it) []
theorem puts_succ {Ls : List St} {k : Nat} (h : k < Ls.length) : puts (Ls.take (k + 1)) = putL (puts (Ls.take k)) Ls[k].it := by
  unfold puts
  rw [List.take_succ_eq_append_getElem h, List.foldl_append]; rfl
theorem up_putL {l : List It} (h : Up l) (x : It) : Up (putL l x) := by
  unfold putL
  split
  · exact up_put x l h
  · exact h
theorem len_putL {l : List It} (h : Up l) (x : It) : (putL l x).length ≤ l.length + 1 := by
  unfold putL
  split
  · rw [length_put x l h]; split <;> omega
  · omega
theorem puts_len {Ls : List St} : ∀ k, k ≤ Ls.length → (puts (Ls.take k)).length ≤ k ∧ Up (puts (Ls.take k))
  | 0, _ => by rw [List.take_zero]; exact ⟨Nat.le_refl _, List.Pairwise.nil⟩
  | k + 1, h => by
    obtain ⟨h1, h2⟩ := puts_len k (Nat.le_of_succ_le h)
    rw [puts_succ (by omega)]
    exact ⟨Nat.le_trans (len_putL h2 _) (by omega), up_putL h2 _⟩
theorem putE_light {l : List It} (hl : l.length < 256) (x : It) : putE l x = if mayL x.s then 0 else 2 := by
  unfold putE
  split
  · rw [if_neg (fun h => by omega)]
  · rfl
theorem putL_light {l : List It} (hl : l.length < 256) (x : It) : putL l x = if mayL x.s then put x l else l := by
  unfold putL
  rw [putE_light hl]
  by_cases h : mayL x.s = true
  · rw [if_pos h, if_pos rfl, if_pos h]
  · rw [if_neg h, if_neg (by decide), if_neg h]
/-- The last step, of the first k, that puts a key's bytes. -/
def lastF (Ls : List St) : Nat → List UInt8 → Option Nat
  | 0, _ => none
  | k + 1, q => match Ls[k]? with
    | some x => if q = x.key ∧ mayL x.A = true then some k else lastF Ls k q
    | none => lastF Ls k q
theorem lastF_yes {Ls : List St} {k : Nat} (h : k < Ls.length) (hm : mayL Ls[k].A = true) (q : List UInt8) : lastF Ls (k + 1) q = if q = Ls[k].key then some k else lastF Ls k q := by
  show (match Ls[k]? with | some x => if q = x.key ∧ mayL x.A = true then some k else lastF Ls k q | none => lastF Ls k q) = _
  rw [List.getElem?_eq_getElem h]
  simp only [hm, and_true]
theorem lastF_no {Ls : List St} {k : Nat} (h : k < Ls.length) (hm : mayL Ls[k].A = false) (q : List UInt8) : lastF Ls (k + 1) q = lastF Ls k q := by
  show (match Ls[k]? with | some x => if q = x.key ∧ mayL x.A = true then some k else lastF Ls k q | none => lastF Ls k q) = _
  rw [List.getElem?_eq_getElem h]
  simp [hm]
theorem lastF_at {Ls : List St} : ∀ {k : Nat} {q : List UInt8} {j : Nat}, lastF Ls k q = some j → j < k ∧ ∃ x, Ls[j]? = some x ∧ x.key = q ∧ mayL x.A = true
  | 0, _, _, h => by cases h
  | k + 1, q, j, h => by
    unfold lastF at h
    split at h
    · rename_i x hx
      split at h
      · rename_i hc
        cases h
        exact ⟨Nat.lt_succ_self _, x, hx, hc.1.symm, hc.2⟩
      · obtain ⟨h1, h2⟩ := lastF_at h
        exact ⟨by omega, h2⟩
    · obtain ⟨h1, h2⟩ := lastF_at h
      exact ⟨by omega, h2⟩
theorem find_puts {Ls : List St} (h60 : Ls.length ≤ 60) : ∀ k, k ≤ Ls.length → ∀ q, find (puts (Ls.take k)) q = (lastF Ls k q).bind (fun j => Ls[j]?.map St.it)
  | 0, _, q => by rw [List.take_zero]; rfl
  | k + 1, h, q => by
    have hk : k < Ls.length := h
    have ih := find_puts h60 k (Nat.le_of_succ_le h) q
    obtain ⟨h1, h2⟩ := puts_len (Ls := Ls) k (Nat.le_of_succ_le h)
    rw [puts_succ hk, putL_light (by omega)]
    cases hm : mayL Ls[k].A with
    | true =>
      rw [if_pos (show mayL (Ls[k]).it.s = true from hm), find_put _ _ h2, lastF_yes hk hm]
      by_cases e : q = Ls[k].key
      · rw [if_pos (show q = (Ls[k]).it.k from e), if_pos e]
        simp [hk]
      · rw [if_neg (show ¬ q = (Ls[k]).it.k from e), if_neg e, ih]
    | false =>
      rw [if_neg (by rw [show (Ls[k]).it.s = Ls[k].A from rfl, hm]; decide), lastF_no hk hm, ih]
/-- The map's values. -/
def lastV (Ls : List St) (k : Nat) (q : List UInt8) : Option Value := (lastF Ls k q).map (fun j => .int .i64 (j : Int))
theorem lastV_yes {Ls : List St} {k : Nat} (h : k < Ls.length) (hm : mayL Ls[k].A = true) : lastV Ls (k + 1) = TextMap.put (lastV Ls k) Ls[k].key (.int .i64 (k : Int)) := funext fun q => by
  unfold lastV TextMap.put
  rw [lastF_yes h hm]
  split <;> rfl
theorem lastV_no {Ls : List St} {k : Nat} (h : k < Ls.length) (hm : mayL Ls[k].A = false) : lastV Ls (k + 1) = lastV Ls k := funext fun q => by
  unfold lastV
  rw [lastF_no h hm]
/-- What is put back from the last step to the i-th. -/
def backF (Ls : List St) (i : Nat) (q : List UInt8) : Option It := (lastF Ls Ls.length q).bind (fun j => if i ≤ j then Ls[j]?.map St.it else none)
theorem backF_all {Ls : List St} (h60 : Ls.length ≤ 60) (q : List UInt8) : backF Ls 0 q = find (puts Ls) q := by
  have := find_puts h60 Ls.length (Nat.le_refl _) q
  rw [List.take_length] at this
  rw [this]
  unfold backF
  simp
theorem backF_end {Ls : List St} (q : List UInt8) : backF Ls Ls.length q = none := by
  unfold backF
  cases h : lastF Ls Ls.length q with
  | none => rfl
  | some j =>
    have := (lastF_at h).1
    simp only [Option.bind_some]
    rw [if_neg (by omega)]
theorem backF_yes {Ls : List St} {i : Nat} (hi : i < Ls.length) (h : lastF Ls Ls.length Ls[i].key = some i) (q : List UInt8) : backF Ls i q = if q = Ls[i].key then some Ls[i].it else backF Ls (i + 1) q := by
  by_cases e : q = Ls[i].key
  · rw [if_pos e, e]
    unfold backF
    rw [h]
    simp [hi]
  · rw [if_neg e]
    unfold backF
    cases hl : lastF Ls Ls.length q with
    | none => rfl
    | some j =>
      obtain ⟨_, x, hx, hk, _⟩ := lastF_at hl
      have hne : j ≠ i := fun ej => by
        subst ej
        rw [List.getElem?_eq_getElem hi] at hx
        cases hx
        exact e hk.symm
      simp only [Option.bind_some]
      by_cases h2 : i ≤ j
      · rw [if_pos h2, if_pos (by omega)]
      · rw [if_neg h2, if_neg (by omega)]
theorem backF_no {Ls : List St} {i : Nat} (hi : i < Ls.length) (h : lastF Ls Ls.length Ls[i].key ≠ some i) (q : List UInt8) : backF Ls i q = backF Ls (i + 1) q := by
  unfold backF
  cases hl : lastF Ls Ls.length q with
  | none => rfl
  | some j =>
    obtain ⟨_, x, hx, hk, _⟩ := lastF_at hl
    have hne : j ≠ i := fun ej => by
      subst ej
      rw [List.getElem?_eq_getElem hi] at hx
      cases hx
      rw [hk, hl] at h
      exact h rfl
    simp only [Option.bind_some]
    by_cases h2 : i ≤ j
    · rw [if_pos h2, if_pos (by omega)]
    · rw [if_neg h2, if_neg (by omega)]
end TreeLaw
end Go.Proofs.YtjnlooccddnbkaaGreatDoor
