/- peers: how they lie; New; there. -/
import Derived.Test.YtcbnkncgacbniaaPeersPlain
import Derived.Test.YtcbnkncgacbniaaTextMap
import Derived.Test.YtcbnkncgacbniaaWords
import Derived.Test.YtcbnkncgacbniaaMarkOwn
import Derived.Carry
import Derived.WalkSpells
import Derived.RangeFuncRecord
namespace Go.Proofs.Ytcbnkncgacbniaa
namespace Peers
open Go.RowKit Go.Proofs.Ytcbnkncgacbniaa.Mark Go.ChangeMaps Go.MapKept Go.WideElems
abbrev IsM := TextMap.Is Try.prog 9
/-- A vector that lies somewhere else than in one block. -/
def Slot (pb : Nat) (w : World) (v : Value) (L : List M) : Prop := ∃ a c, v = .slice a L.length c ∧ Mark.Lies w a L.length L ∧ ∀ x, a = some x → x.block ≠ pb
/-- How peers lie: the struct in block pb, the map in block mb; who they are, what each is known to have, who was told last. -/
structure Is (w : World) (pb mb : Nat) (T : List (List UInt8)) (V : List UInt8 → List M) (last : List UInt8) : Prop where
  box : w.heap[pb]? = some (.cells #[.map (some mb), .string ⟨last.toArray⟩] 58 (0, 0))
  map : ∃ f, IsM w mb T.length f ∧ (∀ q, (f q).isSome = decide (q ∈ T)) ∧ ∀ q v, f q = some v → Slot pb w v (V q)
  up : Up T
  small : T.length ≤ 1000000
theorem Is.ne {w : World} {pb mb : Nat} {T : List (List UInt8)} {V : List UInt8 → List M} {last : List UInt8} (h : Is w pb mb T V last) : pb ≠ mb := fun e => by
  obtain ⟨f, hm, _⟩ := h.map
  obtain ⟨es, clock, hb⟩ := hm.isMap
  rw [← e, h.box] at hb
  cases hb
theorem lies_block {w : World} {b off n : Nat} {L : List M} (h : Mark.Lies w (some ⟨b, off, none⟩) n L) (hn : 0 < L.length) : ∃ cs T fz, w.heap[b]? = some (.cells cs T fz) := by
  obtain ⟨b', o', e, hc⟩ := h.2 (by rw [h.1]; exact hn)
  cases e
  have h1 := (hc 0 hn).1
  have hl : b < w.heap.size := World.block_lt_of_cell? _ _ h1
  cases hb : w.heap[b]? with
  | none => rw [Array.getElem?_eq_none_iff] at hb; omega
  | some o =>
    cases o with
    | cells cs T fz => exact ⟨cs, T, fz, rfl⟩
    | _ => simp [World.cell?, hb] at h1
theorem lies_save {w w' : World} {a : Option Addr} {n : Nat} {L : List M} {pb mb : Nat} (h : Mark.Lies w a n L) (k : Save pb mb w w') (hp : ∀ x, a = some x → x.block ≠ pb) (hm : ∃ es clock, w.heap[mb]? = some (.map es clock)) : Mark.Lies w' a n L := by
  refine ⟨h.1, fun hn => ?_⟩
  obtain ⟨b, off, rfl, hc⟩ := h.2 hn
  obtain ⟨cs, T, fz, hb⟩ := lies_block h (by rw [← h.1]; exact hn)
  have hbp : b ≠ pb := hp _ rfl
  have hbm : b ≠ mb := fun e => by
    obtain ⟨es, clock, hm⟩ := hm
    rw [← e, hb] at hm; cases hm
  have hl : b < w.heap.size := (Array.getElem?_eq_some_iff.1 hb).1
  refine ⟨b, off, rfl, fun j hj => ?_⟩
  obtain ⟨h1, h2⟩ := hc j hj
  exact ⟨(k.cell (p := ⟨b, off + j * 2, none⟩) hl hbp hbm).trans h1, (k.cell (p := ⟨b, off + j * 2 + 1, none⟩) hl hbp hbm).trans h2⟩
theorem Slot.save {w w' : World} {v : Value} {L : List M} {pb mb : Nat} (h : Slot pb w v L) (k : Save pb mb w w') (hm : ∃ es clock, w.heap[mb]? = some (.map es clock)) : Slot pb w' v L := by
  obtain ⟨a, c, e, hl, hp⟩ := h
  exact ⟨a, c, e, lies_save hl k hp hm, hp⟩
theorem Slot.below {w w' : World} {v : Value} {L : List M} {pb : Nat} (h : Slot pb w v L) (k : Below w.heap.size w w') : Slot pb w' v L := by
  obtain ⟨a, c, e, hl, hp⟩ := h
  exact ⟨a, c, e, hl.below k, hp⟩
section
variable {w w' : World} {pb mb : Nat} {T : List (List UInt8)} {V : List UInt8 → List M} {last : List UInt8}
theorem Is.lt (h : Is w pb mb T V last) : pb < w.heap.size ∧ mb < w.heap.size := by
  obtain ⟨f, hm, _⟩ := h.map
  exact ⟨(Array.getElem?_eq_some_iff.1 h.box).1, hm.lt⟩
theorem Is.below (h : Is w pb mb T V last) (k : Below w.heap.size w w') : Is w' pb mb T V last := by
  obtain ⟨f, hm, h1, h2⟩ := h.map
  exact ⟨(k.block _ h.lt.1).trans h.box, ⟨f, hm.below k, h1, fun q v e => (h2 q v e).below k⟩, h.up, h.small⟩
theorem Is.cells (h : Is w pb mb T V last) : w.cell? ⟨pb, 0, none⟩ = some (.map (some mb)) ∧ w.cell? ⟨pb, 1, none⟩ = some (.string ⟨last.toArray⟩) ∧ ∀ j, w.frozen? ⟨pb, j, none⟩ = false :=
  ⟨Lib.cell_of_heap h.box 0, Lib.cell_of_heap h.box 1, fun j => Lib.frozen_of_heap h.box j⟩
/-- What one is known to have. -/
def val (T : List (List UInt8)) (V : List UInt8 → List M) (q : List UInt8) : List M := if q ∈ T then V q else []
theorem Is.look (h : Is w pb mb T V last) (q : List UInt8) : ∃ f, IsM w mb T.length f ∧ (f q).isSome = decide (q ∈ T) ∧ ∃ a c, (f q).getD (.slice none 0 0) = .slice a (val T V q).length c ∧ Mark.Lies w a (val T V q).length (val T V q) ∧ ∀ x, a = some x → x.block ≠ pb := by
  obtain ⟨f, hm, h1, h2⟩ := h.map
  refine ⟨f, hm, h1 q, ?_⟩
  have h3 := h1 q
  cases hf : f q with
  | none =>
    rw [hf] at h3
    have hq : ¬ q ∈ T := of_decide_eq_false h3.symm
    refine ⟨none, 0, ?_, ?_, fun x e => by cases e⟩
    · unfold val; rw [if_neg hq]; rfl
    · unfold val; rw [if_neg hq]; exact Mark.Lies.nil _ _
  | some v =>
    rw [hf] at h3
    have hq : q ∈ T := of_decide_eq_true h3.symm
    obtain ⟨a, c, e, hl, hp⟩ := h2 q v hf
    refine ⟨a, c, ?_, ?_, hp⟩
    · unfold val; rw [if_pos hq]; exact e
    · unfold val; rw [if_pos hq]; exact hl
/-- The map is tight: no more entries than keys. -/
theorem tight {n : Nat} {f : List UInt8 → Option Value} (hm : IsM w mb n f) (hT : Up T) (h : ∀ q, (f q).isSome = decide (q ∈ T)) : IsM w mb T.length f := by
  obtain ⟨D, hD, hf⟩ := hm
  obtain ⟨D', hD', hs, _⟩ := TextMap.Is.keys Try.underlying9 ⟨D, hD, hf⟩ hT (fun q => by rw [h q]; simp)
  obtain ⟨es, clock, hb, F, hn, rfl⟩ := hD
  obtain ⟨es', clock', hb', F', hn', rfl⟩ := hD'
  rw [hb] at hb'
  cases hb'
  refine ⟨_, ⟨es, clock, hb, F, ?_, rfl⟩, hf⟩
  rw [← hs]
  simp [Maps.size, length_sorted]
end
set_option maxRecDepth 100000 in
theorem new_any (w : World) : Calls Try.prog 9 #[] w fun e w' => ∃ pb mb, e = .returned (.pointer (some ⟨pb, 0, none⟩)) ∧ Is w' pb mb [] (fun _ => []) [] ∧ w.heap.size ≤ pb ∧ w.heap.size ≤ mb ∧ Below w.heap.size w w' := by
  have hmm := @run_makeMap Try.prog
  go_enter Try.func9, Try.ntmps9
  go_wp2
  go_ret
  have hb : ((w.alloc (.map #[] 0)).alloc (.cells #[.map (some w.heap.size), .string ⟨#[]⟩] 58)).heap[w.heap.size + 1]? = some (.cells #[.map (some w.heap.size), .string ⟨#[]⟩] 58 (0, 0)) := by
    have := World.alloc_heap_new (w.alloc (.map #[] 0)) (.cells #[.map (some w.heap.size), .string ⟨#[]⟩] 58)
    simpa only [World.size_alloc] using this
  refine ⟨w.heap.size + 1, w.heap.size, rfl, ⟨hb, ⟨_, (TextMap.Is.made w).alloc _, fun q => rfl, fun q v e => by cases e⟩, List.Pairwise.nil, by simp⟩, by omega, Nat.le_refl _, ?_⟩
  exact ((Below.refl _ _).alloc (Nat.le_refl _) _).alloc (by simp) _
set_option maxRecDepth 100000 in
theorem there_any (w : World) (pb mb : Nat) (T : List (List UInt8)) (V : List UInt8 → List M) (last : List UInt8) (h : Is w pb mb T V last) : Calls Try.prog 25 #[.pointer (some ⟨pb, 0, none⟩)] w fun e w' => e = .returned (.bool true) ∧ w = w' := by
  obtain ⟨c0, c1, fz⟩ := h.cells
  have qm := fun (w : World) (r : Option Nat) => run_neq_map_nil (P := Try.prog) w 56 _ _ r Try.underlying56
  go_enter Try.func25, Try.ntmps25
  go_wp2
  go_ret
  exact ⟨rfl, rfl⟩
set_option maxRecDepth 100000 in
theorem there_nil (w : World) : Calls Try.prog 25 #[.pointer none] w fun e w' => e = .returned (.bool false) ∧ w = w' := by
  go_enter Try.func25, Try.ntmps25
  go_wp2
  go_ret
  exact ⟨rfl, rfl⟩
end Peers
end Go.Proofs.Ytcbnkncgacbniaa
