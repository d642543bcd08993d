
/- A slice of structs that came in: its cells, field by field. -/
import Derived.Test.YtcbnkncgacbniaaFrame
import Derived.Deep.Slices
import Derived.Deep.Fields
import Derived.ChangeArms
namespace Go.Proofs.Ytcbnkncgacbniaa
open Go.RowKit

/-- The kind of a field of one cell. -/
inductive Fk where
  | int (k : IntKind)
  | str
  | bool
def Fk.ok : Fk → Value → Prop
  | .int k, v => ∃ n, v = .int k n ∧ (Lit.int k n).wf = true
  | .str, v => ∃ s : ByteArray, v = .string s ∧ s.size ≤ maxLen
  | .bool, v => ∃ b, v = .bool b
def Fk.fits (P : Program) : Fk → TypeId → Prop
  | .int k, t => P.underlying t = some (.int k)
  | .str, t => P.underlying t = some .string
  | .bool, t => P.underlying t = some .bool

/-- The elements' fields, each in its cell. -/
def Recs (w : World) (ks : List Fk) (a : Option Addr) (len : Nat) : Prop :=
  len ≤ maxLen ∧ (0 < len → ∃ b off, a = some ⟨b, off, none⟩ ∧ b < w.heap.size ∧ ∀ i, i < len → ∀ (j : Nat) (k : Fk), ks[j]? = some k → ∃ v, w.cell? ⟨b, off + (i * ks.length + j), none⟩ = some v ∧ k.ok v)

theorem Recs.below {w w' : World} {ks : List Fk} {a : Option Addr} {len : Nat} (h : Recs w ks a len) (hb : Below w.heap.size w w') : Recs w' ks a len := by
  refine ⟨h.1, fun hl => ?_⟩
  obtain ⟨b, off, e, hlt, hc⟩ := h.2 hl
  refine ⟨b, off, e, Nat.lt_of_lt_of_le hlt hb.size, fun i hi j k hk => ?_⟩
  obtain ⟨v, hv, ok⟩ := hc i hi j k hk
  exact ⟨v, (hb.cell (p := ⟨b, off + (i * ks.length + j), none⟩) hlt).trans hv, ok⟩

section
variable {H : Type} {enc : TypeId × Value → H} {P : Program} {w : World} {base : Nat} {spare : Nat → Bool} {held : Bool}

theorem Fk.read {k : Fk} {t : TypeId} {fuel : Nat} {v : Value} {x : DataW H × List MemPlace} (hk : k.fits P t) (h : DataW.trod enc P w base spare held fuel t [v] = some x) : k.ok v := by
  cases k with
  | int q =>
    obtain ⟨n, hn, _, hw⟩ := DataW.trod_int hk h
    simp only [List.cons.injEq, and_true] at hn
    exact ⟨n, hn, hw⟩
  | str =>
    obtain ⟨s, hs, _, hw⟩ := DataW.trod_string hk h
    simp only [List.cons.injEq, and_true] at hs
    exact ⟨s, hs, hw⟩
  | bool =>
    obtain ⟨b, hb, _⟩ := DataW.trod_bool hk h
    simp only [List.cons.injEq, and_true] at hb
    exact ⟨b, hb⟩

theorem recs_of {t e : TypeId} {fs : Array Field} {fuel : Nat} {a : Option Addr} {len cap : Nat} {x : DataW H × List MemPlace} (ks : List Fk) (ht : P.underlying t = some (.slice e)) (he : P.underlying e = some (.struct fs))
    (hone : Go.Deep.oneCellFields P fs = true) (hC : P.cellsOf e = ks.length) (hn : 0 < ks.length) (hks : ∀ (j : Nat) (k : Fk), ks[j]? = some k → ∃ f, fs[j]? = some f ∧ k.fits P f.type)
    (h : DataW.trod enc P w base spare held fuel t [.slice a len cap] = some x) : Recs w ks a len := by
  rcases Go.Deep.open_slice ht h with ⟨h0, _⟩ | ⟨y, l, c, m, n, D, Pl, hcs, _, hl, hm, hmm, _, hi⟩
  · simp only [List.cons.injEq, Value.slice.injEq, and_true] at h0
    obtain ⟨_, rfl, _⟩ := h0
    exact ⟨Nat.zero_le _, fun h => absurd h (by omega)⟩
  · simp only [List.cons.injEq, Value.slice.injEq, and_true] at hcs
    obtain ⟨rfl, rfl, rfl⟩ := hcs
    have hlm : len ≤ m := by rw [hmm]; split <;> omega
    rw [hC] at hi
    have hcell : ∀ i, i < len → ∀ (j : Nat) (k : Fk), ks[j]? = some k → ∃ v, w.cell? (y.add (i * ks.length + j)) = some v ∧ k.ok v := by
      intro i hil j k hk
      obtain ⟨cs, hc, hd⟩ := hi i (by omega)
      obtain ⟨f, hf, hfit⟩ := hks j k hk
      obtain ⟨_, hcl, hat⟩ := World.cells?_some hc
      obtain ⟨ys, n', _, _, _, hyl, hfl⟩ := DataW.trod_struct he hd
      obtain ⟨ho, hk1⟩ := Go.Deep.hone_of hone j f hf
      have hj : j < ks.length := (List.getElem?_eq_some_iff.1 hk).1
      have hjf : j < fs.size := (Array.getElem?_eq_some_iff.1 hf).1
      have hfj := hfl j f hf
      rw [ho, hk1, List.drop_eq_getElem_cons (by omega), List.take_succ_cons, List.take_zero, List.getElem?_eq_getElem (show j < ys.length by omega)] at hfj
      refine ⟨cs[j], ?_, Fk.read hfit hfj⟩
      have := hat j hj
      rw [Go.Deep.add_add, List.getElem?_eq_getElem (by omega)] at this
      exact this
    refine ⟨Nat.le_trans hl hm, fun hlen => ?_⟩
    obtain ⟨v0, hv0, _⟩ := hcell 0 hlen 0 _ (List.getElem?_eq_getElem hn)
    obtain ⟨b, off, sp⟩ := y
    have hsp : sp = none := by
      have := World.cell?_spot hv0
      simpa [Addr.add] using this
    subst hsp
    refine ⟨b, off, rfl, ?_, fun i hil j k hk => ?_⟩
    · rw [Go.WideShapes.add_plain] at hv0
      exact World.block_lt_of_cell? _ _ hv0
    · obtain ⟨v, hv, ok⟩ := hcell i hil j k hk
      rw [Go.WideShapes.add_plain] at hv
      exact ⟨v, hv, ok⟩
end
end Go.Proofs.Ytcbnkncgacbniaa
