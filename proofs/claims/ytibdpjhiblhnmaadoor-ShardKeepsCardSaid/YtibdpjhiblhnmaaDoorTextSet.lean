
/- sets of texts (map[string]struct{}) of a call's own: made, a text put in, asked. -/
import Derived.WalkKit
import Derived.Maps.OwnSet
import Derived.Maps.OwnOps
import Derived.Below
import Derived.StringKeys
namespace Go.Proofs.YtibdpjhiblhnmaaDoor
namespace TextSet
open Go.RowKit Go.Maps
section
variable {P : Program} {ts ks es : TypeId}
theorem run_make (ht : P.underlying ts = some (.map ks es)) (k : IntKind) (n : Int) (w : World) : (Instr.makeMap ts (some (.int k n))).run P w = .ok (.map (some w.heap.size)) (w.alloc (.map #[] 0)) := by
  simp [Instr.makeMap, run_underlying ht, asInt, asIntOf, Result.andThen]
def lits (L : List (List UInt8)) : List Lit := L.map Lit.string
def dat (L : List (List UInt8)) : DataW Unit := setOf (.agg []) (lits L)
/-- Block b is a set of at most n texts: those of L. -/
def Is (P : Program) (ks : TypeId) (w : World) (b n : Nat) (L : List (List UInt8)) : Prop := w.ownsMap P ks (unitElem (H := Unit)) b n (dat L)
theorem any_text (q : List UInt8) : ∀ L : List (List UInt8), (lits L).any (fun y => y.sameKey (.string q)) = L.contains q
  | [] => rfl
  | a :: r => by
    rw [lits, List.map_cons, List.any_cons, List.contains_cons]
    have h := any_text q r
    rw [lits] at h
    rw [h]
    congr 1
    show (a == q) = (q == a)
    rw [Bool.eq_iff_iff]
    simp only [beq_iff_eq]
    exact eq_comm
theorem has_dat (L : List (List UInt8)) (q : List UInt8) : Maps.has (dat L) (.string q) = L.contains q := by
  unfold dat
  rw [has_setOf _ _ _ (fun y hy => by unfold lits at hy; obtain ⟨_, _, rfl⟩ := List.mem_map.1 hy; trivial)]
  exact any_text q L
theorem dat_snoc (L : List (List UInt8)) (q : List UInt8) : dat (L ++ [q]) = (dat L).put (.string q) (.agg []) := by
  unfold dat lits
  rw [List.map_append, List.map_singleton, setOf_snoc]
theorem Is.made (w : World) : Is P ks (w.alloc (.map #[] 0)) w.heap.size 0 [] := World.ownsMap_made _ _ _ _
theorem Is.alloc {w : World} {b n : Nat} {L : List (List UInt8)} (h : Is P ks w b n L) (o : Obj) : Is P ks (w.alloc o) b n L := World.ownsMap.alloc h o
theorem Is.kept {w w' : World} {b n : Nat} {L : List (List UInt8)} {row : Option Nat} (h : Is P ks w b n L) (hg : w.grownBy w' row) (hne : some b ≠ row) : Is P ks w' b n L := World.ownsMap.kept h hg hne
theorem Is.lt {w : World} {b n : Nat} {L : List (List UInt8)} (h : Is P ks w b n L) : b < w.heap.size := World.ownsMap.lt h
theorem Is.below {w w' : World} {b n : Nat} {L : List (List UInt8)} (h : Is P ks w b n L) (k : Below w.heap.size w w') : Is P ks w' b n L := by
  have hl := h.lt
  obtain ⟨es, clock, hb, r⟩ := h
  exact ⟨es, clock, (k.block _ hl).trans hb, r⟩
/-- 'm[q] = struct{}{}'. -/
theorem wpList_put (ht : P.underlying ts = some (.map ks es)) (hks : P.underlying ks = some .string) {w : World} {ops : Array Oper} {rest : List Oper} {o : Oper} {a : Act} {Q : Exit → Act → World → Prop}
    (hg : o.guard = none) (m x v : Operand) (hop : o.op = Op.mapUpdate ts m x v) (b n : Nat) (L : List (List UInt8)) (q : List UInt8) (hm : a.eval m = .map (some b)) (hown : Is P ks w b n L) (hn : n < maxLen)
    (hx : a.eval x = .string ⟨q.toArray⟩) (hq : q.length ≤ maxLen) (hv : a.eval v = .agg #[]) (hK : ∀ w', Is P ks w' b (n + 1) (L ++ [q]) → w.grownBy w' (some b) → wpList P ops Q rest (a.put o.dst undef) w') :
    wpList P ops Q (o :: rest) a w := by
  refine wpList_mapUpdate_own w hg m x v ts hop ks es (string_keyed hks) ht (unitElem (H := Unit)) b n _ hm hown hn _ _ _ hx hv (WideMaps.keyOf_string_mk hks (by show (⟨q.toArray⟩ : ByteArray).data.size ≤ maxLen; simpa using hq)) (.agg []) [] unitElem_mk ?_
  intro w' h1 h2
  refine hK w' ?_ h2
  unfold Is
  rw [dat_snoc]
  exact h1
/-- '_, ok := m[q]'. -/
theorem wpList_has (ht : P.underlying ts = some (.map ks es)) (hks : P.underlying ks = some .string) (hz : ∀ w, (zeroValue es).run P w = .ok (.agg #[]) w) {w : World} {ops : Array Oper} {rest : List Oper} {o : Oper} {a : Act} {Q : Exit → Act → World → Prop}
    (hg : o.guard = none) (m x : Operand) (hop : o.op = Op.lookup ts m x true) (b n : Nat) (L : List (List UInt8)) (q : List UInt8) (hm : a.eval m = .map (some b)) (hown : Is P ks w b n L)
    (hx : a.eval x = .string ⟨q.toArray⟩) (hq : q.length ≤ maxLen) (ok : Bool) (hok : L.contains q = ok) (hK : wpList P ops Q rest (a.put o.dst (.tuple #[.agg #[], .bool ok])) w) :
    wpList P ops Q (o :: rest) a w := by
  refine wpList_lookup_own_unit w hg m x ts hop ks es (string_keyed hks) ht (hz w) b n _ hm hown _ (.string q) hx (WideMaps.keyOf_string_mk hks (by show (⟨q.toArray⟩ : ByteArray).data.size ≤ maxLen; simpa using hq)) ?_
  rw [has_dat, hok]
  exact hK
end
end TextSet
end Go.Proofs.YtibdpjhiblhnmaaDoor
