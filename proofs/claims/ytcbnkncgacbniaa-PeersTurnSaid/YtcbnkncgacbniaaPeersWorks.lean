/- peers: the law's works. -/
import Derived.Test.YtcbnkncgacbniaaPeersUse
import Derived.Test.YtcbnkncgacbniaaDotKnown
namespace Go.Proofs.Ytcbnkncgacbniaa
namespace PeersLaw
open Go.RowKit Go.Proofs.Ytcbnkncgacbniaa.Mark Go.Proofs.Ytcbnkncgacbniaa.Dots Go.Proofs.Ytcbnkncgacbniaa.Peers
def tA : List UInt8 := [97]
def tB : List UInt8 := [98]
def t1 : List UInt8 := [49]
/-- Behind a call on peers: what lay ahead of the law stands. -/
theorem stepS {B : Nat} {w x y : World} {pb mb : Nat} (h : Below B w x) (k : Save pb mb x y) (hp : B ≤ pb ∧ B ≤ mb) (hB : B ≤ w.heap.size) : Below B w y := Save.below h k hp.1 hp.2 (Nat.le_trans hB h.size)
theorem two_words (w : World) (x y : List UInt8) : Words.Lies (w.alloc (.cells #[.string ⟨x.toArray⟩, .string ⟨y.toArray⟩] 9)) (some ⟨w.heap.size, 0, none⟩) 2 [x, y] := by
  refine Words.Lies.of_cells (L := [x, y]) (fun j hj => ?_)
  rw [World.cell?_alloc_at _ _ _ _ rfl]
  match j, hj with
  | 0, _ => rfl
  | 1, _ => rfl
theorem sort_ba : sortU [tB, tA] = [tA, tB] := by decide +kernel
theorem next1 : nextL [tA, tB] [] = tA := by decide +kernel
theorem next2 : nextL [tA, tB] tA = tB := by decide +kernel
theorem next3 : nextL [tA, tB] tB = tA := by decide +kernel
theorem may3 : mayL [⟨t1, 3⟩] = true := by decide +kernel
theorem may2 : mayL [⟨t1, 2⟩] = true := by decide +kernel
theorem ok1 (n : Nat) (hn : n ≤ 18446744073709551615) : Ok [⟨t1, n⟩] := fun m hm => by
  obtain rfl := List.mem_singleton.1 hm
  exact ⟨hn, by show t1.length ≤ _; decide⟩
theorem of_nil (q : List UInt8) : ofL [] q = 0 := rfl
/-- The one way that Learn goes here. -/
theorem learnt_one {V : List UInt8 → List M} (hV : ∀ q, V q = []) {r : Bool} {V' : List UInt8 → List M} (h : Learnt [tA, tB] V tA [⟨t1, 3⟩] r V') :
    r = true ∧ V' tB = [] ∧ (∀ x, ofL (V' tA) x = ofL [⟨t1, 3⟩] x) ∧ (V' tA).length ≤ 1 := by
  rcases h with ⟨_, _, h | h | h⟩ | ⟨hr, _, _, _, J, hJ, hv, hl⟩
  · rw [may3] at h; cases h
  · exact absurd (List.mem_cons_self) h
  · have := h t1
    rw [hV, of_nil, of1 t1 3 (by decide), if_pos rfl] at this
    omega
  · subst hJ
    refine ⟨hr, ?_, fun x => ?_, ?_⟩
    · unfold upd; rw [if_neg (by decide)]; exact hV _
    · unfold upd; rw [if_pos rfl, hv.2 x]; show max (ofL (V tA) x) _ = _; rw [hV, of_nil, Nat.zero_max]
    · unfold upd; rw [if_pos rfl]; rw [hV] at hl; simpa using hl
theorem lack_one {V : List UInt8 → List M} (hB : V tB = []) (hA : ∀ x, ofL (V tA) x = ofL [⟨t1, 3⟩] x) {R : List (List UInt8)} (h : LackIs [tA, tB] V [⟨t1, 2⟩] R) : R.length = 1 := by
  obtain ⟨c, hc, rfl⟩ := h
  have h1 : c tA = true := (hc tA).2 (fun x => by
    unfold val
    rw [if_pos List.mem_cons_self, hA, of1 t1 3 (by decide), of1 t1 2 (by decide)]
    split <;> omega)
  have h2 : c tB = false := by
    cases hb : c tB with
    | false => rfl
    | true =>
      have := (hc tB).1 hb t1
      unfold val at this
      rw [if_pos (List.mem_cons_of_mem _ List.mem_cons_self), hB, of_nil, of1 t1 2 (by decide), if_pos rfl] at this
      omega
  simp [h1, h2]
theorem set_two (w : World) (pb mb a : Nat) (h : Is w pb mb [] (fun _ => []) []) (hl : Words.Lies w (some ⟨a, 0, none⟩) 2 [tB, tA]) :
    Calls Try.prog 10 #[.pointer (some ⟨pb, 0, none⟩), .slice (some ⟨a, 0, none⟩) 2 2] w fun e w' => e = .returned (.tuple #[]) ∧ ∃ g, Is w' pb g [tA, tB] (fun _ => []) [] ∧ w.heap.size ≤ g ∧ Save pb mb w w' := by
  refine (set_any [tB, tA] _ 2 w pb mb [] _ [] h hl (fun q hq => by
    rcases List.mem_cons.1 hq with rfl | hq
    · decide
    · obtain rfl := List.mem_singleton.1 hq; decide) (by decide)).mono ?_
  rintro e w' ⟨he, g, hi, h1, h2⟩
  rw [sort_ba] at hi
  refine ⟨he, g, ?_, h1, h2⟩
  rw [show val [] (fun _ => ([] : List M)) = fun _ => [] from funext fun q => by unfold val; split <;> rfl] at hi
  exact hi
theorem next_two (last nx : List UInt8) (hx : nextL [tA, tB] last = nx) (V : List UInt8 → List M) (w : World) (pb mb : Nat) (h : Is w pb mb [tA, tB] V last) :
    Calls Try.prog 17 #[.pointer (some ⟨pb, 0, none⟩)] w fun e w' => e = .returned (.tuple #[.string ⟨nx.toArray⟩, .bool true]) ∧ Is w' pb mb [tA, tB] V nx ∧ Save pb mb w w' := by
  have := next_any w pb mb [tA, tB] V last h (by decide)
  rw [hx] at this
  exact this.mono fun e w' h => ⟨h.1, h.2.1, h.2.2 mb⟩
theorem learn_two (w : World) (pb mb a : Nat) (last : List UInt8) (h : Is w pb mb [tA, tB] (fun _ => []) last) (hl : Mark.Lies w (some ⟨a, 0, none⟩) 1 [⟨t1, 3⟩]) :
    Calls Try.prog 12 #[.pointer (some ⟨pb, 0, none⟩), .string ⟨#[97]⟩, .slice (some ⟨a, 0, none⟩) 1 1] w fun e w' => e = .returned (.bool true) ∧ ∃ V', (V' tB = [] ∧ (∀ x, ofL (V' tA) x = ofL [⟨t1, 3⟩] x) ∧ (V' tA).length ≤ 1) ∧ Is w' pb mb [tA, tB] V' last ∧ Save pb mb w w' := by
  refine (learn_any tA [⟨t1, 3⟩] _ 1 w pb mb [tA, tB] _ last h hl (ok1 3 (by decide)) (by decide) (by decide) (by unfold val; split <;> simp)).mono ?_
  rintro e w' ⟨r, V', rfl, hL, hi, hs⟩
  obtain ⟨rfl, h1, h2, h3⟩ := learnt_one (fun _ => rfl) hL
  exact ⟨rfl, V', ⟨h1, h2, h3⟩, hi, hs⟩
theorem lacks_two (w : World) (pb mb a : Nat) (V : List UInt8 → List M) (last : List UInt8) (h : Is w pb mb [tA, tB] V last) (hV : V tB = [] ∧ (∀ x, ofL (V tA) x = ofL [⟨t1, 3⟩] x) ∧ (V tA).length ≤ 1) (hl : Mark.Lies w (some ⟨a, 0, none⟩) 1 [⟨t1, 2⟩]) :
    Calls Try.prog 20 #[.pointer (some ⟨pb, 0, none⟩), .slice (some ⟨a, 0, none⟩) 1 1] w fun e w' => ∃ a' c', e = .returned (.slice a' 1 c') ∧ Below w.heap.size w w' := by
  refine (lacks_any [⟨t1, 2⟩] _ 1 w pb mb [tA, tB] V last h hl (ok1 2 (by decide)) (by decide) may2 (fun q hq => ?_) (fun q => ?_)).mono ?_
  · rcases List.mem_cons.1 hq with rfl | hq
    · decide
    · obtain rfl := List.mem_singleton.1 hq; decide
  · unfold val
    split
    · rename_i hq
      rcases List.mem_cons.1 hq with rfl | hq
      · have := hV.2.2; omega
      · obtain rfl := List.mem_singleton.1 hq; rw [hV.1]; decide
    · decide
  · rintro e w' ⟨v, R, rfl, hR, ho, k⟩
    obtain ⟨a', c', rfl, -, -, -, -⟩ := Row.Own.lies ho
    exact ⟨a', c', by rw [lack_one hV.1 hV.2.1 hR], k⟩

set_option maxRecDepth 100000 in
set_option maxHeartbeats 8000000 in
theorem works_any (w : World) : Calls Try.prog 8 #[] w fun e w' => e = .returned (.bool true) ∧ Below w.heap.size w w' := by
  have hb := Below.refl w.heap.size w
  go_enter Try.func8, Try.ntmps8
  go_wp2_with fail
  refine (new_any _).mono ?_
  rintro e v1 ⟨pb, mb, rfl, i1, hp, hm, k1⟩
  have I := Lib.hid i1
  have HP := Lib.hid (And.intro hp hm)
  have HP0 := Lib.hid hp
  replace hb := bstep hb k1
  clear i1 hp hm k1
  go_wp2_with fail
  have W2 := two_words v1 tB tA
  replace I := Lib.hid (I.out.below (balloc (Below.refl _ _) (.cells #[.string ⟨tB.toArray⟩, .string ⟨tA.toArray⟩] 9)))
  replace hb := bstep hb (balloc (Below.refl _ _) (.cells #[.string ⟨tB.toArray⟩, .string ⟨tA.toArray⟩] 9))
  refine (set_two _ pb mb _ I.out W2).mono ?_
  rintro e v2 ⟨rfl, g, i2, hg, k2⟩
  have HG : Hid (w.heap.size ≤ pb ∧ w.heap.size ≤ g) := Lib.hid ⟨HP0.out, Nat.le_trans hb.size hg⟩
  replace I := Lib.hid i2
  replace hb := stepS hb k2 HP.out (Nat.le_refl _)
  clear i2 hg k2 W2
  go_wp2_with fail
  refine (next_two [] tA next1 _ _ pb g I.out).mono ?_
  rintro e v3 ⟨rfl, i3, k3⟩
  replace I := Lib.hid i3
  replace hb := stepS hb k3 HG.out (Nat.le_refl _)
  clear i3 k3
  go_wp2_with fail
  refine (next_two tA tB next2 _ _ pb g I.out).mono ?_
  rintro e v4 ⟨rfl, i4, k4⟩
  replace I := Lib.hid i4
  replace hb := stepS hb k4 HG.out (Nat.le_refl _)
  clear i4 k4
  go_wp2_with fail
  refine (next_two tB tA next3 _ _ pb g I.out).mono ?_
  rintro e v5 ⟨rfl, i5, k5⟩
  replace I := Lib.hid i5
  replace hb := stepS hb k5 HG.out (Nat.le_refl _)
  clear i5 k5
  go_wp2_with fail
  have L6 := lies_lit1 v5 ⟨t1, 3⟩ 55
  replace I := Lib.hid (I.out.below (balloc (Below.refl _ _) (.cells #[.string ⟨t1.toArray⟩, .int .u64 3] 55)))
  replace hb := bstep hb (balloc (Below.refl _ _) (.cells #[.string ⟨t1.toArray⟩, .int .u64 3] 55))
  refine (learn_two _ pb g _ tA I.out L6).mono ?_
  rintro e v6 ⟨rfl, V', hV, i6, k6⟩
  replace I := Lib.hid i6
  have HV := Lib.hid hV
  replace hb := stepS hb k6 HG.out (Nat.le_refl _)
  clear i6 k6 L6 hV
  have e1 : (tA == [97]) = true := by decide
  have e2 : (tB == [98]) = true := by decide
  go_wp2_with fail
  have L7 := lies_lit1 v6 ⟨t1, 2⟩ 55
  replace I := Lib.hid (I.out.below (balloc (Below.refl _ _) (.cells #[.string ⟨t1.toArray⟩, .int .u64 2] 55)))
  replace hb := bstep hb (balloc (Below.refl _ _) (.cells #[.string ⟨t1.toArray⟩, .int .u64 2] 55))
  refine (lacks_two _ pb g _ V' tA I.out HV.out L7).mono ?_
  rintro e v7 ⟨a7, c7, rfl, k7⟩
  replace hb := bstep hb k7
  clear k7 L7
  go_wp2
  go_ret
  exact ⟨rfl, hb⟩
end PeersLaw
end Go.Proofs.Ytcbnkncgacbniaa
