/- peers: what the laws carry along. -/
import Derived.Test.YtcbnkncgacbniaaPeersIn
import Derived.Test.YtcbnkncgacbniaaPeersRound
import Derived.Test.YtcbnkncgacbniaaDotPlain
namespace Go.Proofs.Ytcbnkncgacbniaa
theorem Save.grown {b : Nat} {w w' : World} (h : Save b b w w') : w.grownBy w' (some b) := ⟨h.os, h.tape, h.output, h.size, fun k hk hb => h.block k hk (fun e => hb (by rw [e])) (fun e => hb (by rw [e]))⟩
namespace Row
theorem Own.kept {α : Type} {E : Enc α} {te : TypeId} {w w' : World} {B : Nat} {v : Value} {L : List α} (h : Own E te w B v L) {b : Nat} (k : w.grownBy w' (some b)) (hb : b < B) : Own E te w' B v L :=
  World.ownsRow.kept h k (.inr (fun e => by have := (h.lt b e).1; omega))
theorem Lies.save {α : Type} {E : Enc α} {w w' : World} {a : Option Addr} {n : Nat} {L : List α} {pb mb : Nat} (h : Lies E w a n L) (k : Save pb mb w w') (hp : ∀ x, a = some x → x.block ≠ pb ∧ x.block ≠ mb) : Lies E w' a n L := by
  refine ⟨h.1, fun hn => ?_⟩
  obtain ⟨b, off, rfl, hc⟩ := h.2 hn
  obtain ⟨hbp, hbm⟩ := hp _ rfl
  refine ⟨b, off, rfl, fun j hj i u hu => ?_⟩
  have h1 := hc j hj i u hu
  have hl : b < w.heap.size := World.block_lt_of_cell? _ _ h1
  exact (k.cell (p := ⟨b, off + j * E.k + i, none⟩) hl hbp hbm).trans h1
end Row
namespace Peers
open Go.RowKit Go.Proofs.Ytcbnkncgacbniaa.Mark Go.Proofs.Ytcbnkncgacbniaa.Dots
/-- Vectors as they are kept: proper ones, at most so long. -/
def VOK (V : List UInt8 → List M) (N : Nat) : Prop := ∀ q, Vec (V q) ∧ Ok (V q) ∧ (V q).length ≤ N
theorem vok_nil (N : Nat) : VOK (fun _ => []) N := fun q => ⟨⟨List.Pairwise.nil, (fun m hm => by cases hm)⟩, (fun m hm => by cases hm), Nat.zero_le _⟩
theorem VOK.val {V : List UInt8 → List M} {N : Nat} (h : VOK V N) (T : List (List UInt8)) : VOK (val T V) N := fun q => by
  unfold Peers.val
  split
  · exact h q
  · exact vok_nil N q
theorem VOK.mono {V : List UInt8 → List M} {N K : Nat} (h : VOK V N) (k : N ≤ K) : VOK V K := fun q => ⟨(h q).1, (h q).2.1, Nat.le_trans (h q).2.2 k⟩
theorem val_nil (T : List (List UInt8)) : val T (fun _ => []) = fun _ => [] := funext fun q => by unfold val; split <;> rfl
section
variable {T : List (List UInt8)} {V V' : List UInt8 → List M} {q : List UInt8} {L : List M} {r : Bool}
theorem learnt_ok (h : Learnt T V q L r V') {N : Nat} (hV : VOK V N) (hL : Ok L) (hl : L.length ≤ 30) : VOK V' (N + 30) := by
  rcases h with ⟨_, rfl, _⟩ | ⟨_, _, _, _, J, rfl, hJ, hJl⟩
  · exact hV.mono (by omega)
  · intro x
    unfold upd
    by_cases e : x = q
    · rw [if_pos e]
      exact ⟨hJ.1, join_ok hJ (hV q).2.1 hL, by have := (hV q).2.2; omega⟩
    · rw [if_neg e]
      exact ⟨(hV x).1, (hV x).2.1, by have := (hV x).2.2; omega⟩
theorem learnt_cov (h : Learnt T V q L r V') (x : List UInt8) : ofL (val T V q) x ≤ ofL (val T V' q) x := by
  rcases h with ⟨_, rfl, _⟩ | ⟨_, _, hq, _, J, rfl, hJ, _⟩
  · exact Nat.le_refl _
  · unfold val upd
    rw [if_pos hq, if_pos hq, if_pos rfl, hJ.2 x]
    exact Nat.le_max_left _ _
theorem learnt_more (h : Learnt T V q L r V') : decide (val T V' q = val T V q) = !r := by
  rcases h with ⟨rfl, rfl, _⟩ | ⟨rfl, _, hq, hn, J, rfl, hJ, _⟩
  · exact decide_eq_true rfl
  · refine decide_eq_false fun e => hn fun x => ?_
    unfold val upd at e
    rw [if_pos hq, if_pos hq, if_pos rfl] at e
    have h1 := hJ.2 x
    rw [e] at h1
    have h2 : ofL L x ≤ max (ofL (V q) x) (ofL L x) := Nat.le_max_right _ _
    have h3 : ofL (V q) x = max (ofL (V q) x) (ofL L x) := h1
    omega
end
theorem Is.later {w w' : World} {pb mb : Nat} {T : List (List UInt8)} {V : List UInt8 → List M} {last last' : List UInt8} (h : Is w pb mb T V last) (k : Save pb mb w w')
    (hb : w'.heap[pb]? = some (.cells #[.map (some mb), .string ⟨last'.toArray⟩] 58 (0, 0))) (hm : w'.heap[mb]? = w.heap[mb]?) : Is w' pb mb T V last' := by
  obtain ⟨f, hmm, h1, h2⟩ := h.map
  exact ⟨hb, ⟨f, hmm.moved hm, h1, fun q v e => (h2 q v e).save k hmm.isMap⟩, h.up, h.small⟩
/-- A row of marks, elsewhere, behind a call on peers. -/
theorem marks_save {w w' : World} {a : Option Addr} {n : Nat} {L : List M} {pb mb B : Nat} {T : List (List UInt8)} {V : List UInt8 → List M} {last : List UInt8} (h : Mark.Lies w a n L) (k : Save pb mb w w') (hi : Is w pb mb T V last) (hp : pb < B) (ha : ∀ x, a = some x → B ≤ x.block) : Mark.Lies w' a n L := by
  obtain ⟨f, hm, _⟩ := hi.map
  exact lies_save h k (fun x e => by have := ha x e; omega) hm.isMap
theorem light_ok {x : St} (hx : x.Light 8192) (hz : x.Sized) : Ok x.A ∧ x.A.length ≤ 30 ∧ x.pe.length ≤ 8192 := by
  obtain ⟨_, h2, h3, _⟩ := hx
  obtain ⟨_, _, _, _, z5, _⟩ := hz
  exact ⟨fun m hm => ⟨(z5 m hm).2, by have := (z5 m hm).1; omega⟩, h2, h3⟩
/-- A step of texts alone. -/
def oneL (ls : Option Addr) (lc : Nat) (L : List (List UInt8)) : St := ⟨0, ls, lc, L, [], none, 0, [], [], 0, [], 0⟩
theorem oneL_sized {ls : Option Addr} {lc : Nat} {L : List (List UInt8)} (h : ∀ x ∈ L, x.length ≤ 140737488351232) : (oneL ls lc L).Sized :=
  ⟨by show ([] : List UInt8).length ≤ _; simp, by show ([] : List UInt8).length ≤ _; simp, by show ([] : List UInt8).length ≤ _; simp, h, (fun m hm => by cases hm), by show 0 ≤ _; omega, by show 0 ≤ _; omega⟩
theorem heavy_words (L : List (List UInt8)) (a s : Option Addr) (c n : Nat) (w : World) (hn : n = L.length) (hl : Steps w a 1 [oneL s c L]) (hw : Words.Lies w s n L) (hz : ∀ x ∈ L, x.length ≤ 140737488351232) :
    Calls Try.prog 7 #[.slice a 1 1] w fun e w' => ∃ r, e = .returned (.bool r) ∧ (r = false → L.length ≤ 30 ∧ ∀ x ∈ L, x.length ≤ 8192) ∧ Below w.heap.size w w' := by
  subst hn
  refine (heavy_any [oneL s c L] a 1 w hl (fun x hx => ?_) (fun x hx => ?_)).mono ?_
  · obtain rfl := List.mem_singleton.1 hx
    exact ⟨hw, Mark.Lies.nil _ _⟩
  · obtain rfl := List.mem_singleton.1 hx
    exact oneL_sized hz
  · rintro e w' ⟨r, he, hr, k⟩
    refine ⟨r, he, fun h => ?_, k⟩
    have := (hr h).2 _ List.mem_cons_self
    exact ⟨this.1, this.2.2.2.2.2.1⟩
end Peers
end Go.Proofs.Ytcbnkncgacbniaa
