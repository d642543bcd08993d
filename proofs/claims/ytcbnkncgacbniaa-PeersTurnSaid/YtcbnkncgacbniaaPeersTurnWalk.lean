/- merged: TextRange PeersTurned PeersTurnUse PeersTurnLaw. -/
import Derived.Test.YtcbnkncgacbniaaTextMap
import Derived.Maps.RangeWalk
import Derived.Test.YtcbnkncgacbniaaPeersKeep
import Derived.Test.YtcbnkncgacbniaaPathAll
namespace Go.Proofs.Ytcbnkncgacbniaa
namespace TextRange
open Go.RowKit Go.Maps Go.ChangeMaps Go.MapKept Go.WideShapes Go.WideElems
section
variable {H : Type} {P : Program} {k t e : TypeId} {R : Value → Option (DataW H × List MemPlace)} {w : World} {b r n : Nat} {D : DataW H} {left : Lit → Bool} {cnt : Nat}
theorem filter_born (es : List MapEntry) (seen : Array Nat) : (es.filter fun x => !seen.contains x.born).length = ((es.map (·.born)).filter fun i => !seen.contains i).length := by
  induction es with
  | nil => rfl
  | cons x l ih =>
    rw [List.map_cons, List.filter_cons, List.filter_cons]
    split
    · rw [List.length_cons, List.length_cons, ih]
    · exact ih
/-- 'm[k] = v' in the round, at a key that is there. -/
theorem store (h : w.ranges P k R b r n D left cnt) (K : Keyed P k) (ht : P.underlying t = some (.map k e)) (hn : n < maxLen) {key val : Value} {kl : Lit} {d : DataW H} {ps : List MemPlace}
    (hkey : keyOf P k key = some kl) (hin : Maps.has D kl = true) (hv : R val = some (d, ps)) :
    ∃ w', (Instr.mapUpdate t (.map (some b)) key val).run P w = .ok () w' ∧ w'.ranges P k R b r n (D.put kl d) left cnt ∧ w.grownBy w' (some b) := by
  have hne := h.ne
  obtain ⟨es, clock, since, seen, c0, hb, F, hs, rfl, hr, hold, rfl, hl1, hl2, hsc, hsk⟩ := h
  obtain ⟨es', clock', hrun, F', hput, -, -, -⟩ := Maps.fit_store (R' := R) K ht hb F (Nat.lt_of_le_of_lt hs hn) (fun _ _ _ _ hz => hz) hkey hv
  rcases K.find w hkey es.toList F.keys with ⟨h1, h2⟩ | ⟨j, e0, h1, h2, h3⟩
  · exfalso
    obtain ⟨p, hp, hpk⟩ := List.any_eq_true.1 hin
    obtain ⟨x, hx, rfl⟩ := List.mem_map.1 (mem_sorted.1 hp)
    obtain ⟨y, hy⟩ := F.reads x hx
    have e1 := WideAt.sameKey_eq hpk
    rw [rg_of hy] at e1
    exact h2 x hx (K.inj (rd_key hy) (by rw [e1]; exact hkey))
  · have hj : es[j]? = some e0 := by simpa using h2
    have hjl : j < es.toList.length := (List.getElem?_eq_some_iff.1 h2).1
    have hlist : (es.modify j (fun e' => { e' with key := key, val := val })).toList = es.toList.set j { e0 with key := key, val := val } := by rw [Array.toList_modify, modify_eq_set _ _ _ _ h2]
    have hrun2 : (Instr.mapUpdate t (.map (some b)) key val).run P w = .ok () (setBlock w b (.map (es.modify j (fun e' => { e' with key := key, val := val })) clock)) := by
      simp [Instr.mapUpdate, run_underlying ht, MapKept.run_getObj_map hb, K.check w false hkey, h1, hj, h3, K.stays w hkey, MapKept.run_setObj_map _ hb, Result.andThen, setBlock]
    have hw : setBlock w b (.map es' clock') = setBlock w b (.map (es.modify j (fun e' => { e' with key := key, val := val })) clock) := by
      rw [hrun] at hrun2
      injection hrun2
    have ho := heap_setBlock_same hb (.map es' clock')
    rw [hw, heap_setBlock_same hb _] at ho
    simp only [Option.some.injEq, Obj.map.injEq] at ho
    obtain ⟨rfl, rfl⟩ := ho
    have hel : es.toList[j]'hjl = e0 := (List.getElem?_eq_some_iff.1 h2).2
    have who : ∀ x ∈ es.toList.set j { e0 with key := key, val := val }, x = { e0 with key := key, val := val } ∨ x ∈ es.toList := by
      intro x hx
      exact (List.mem_or_eq_of_mem_set hx).symm
    have he0 : e0 ∈ es.toList := List.mem_of_getElem? h2
    have hrg : (rg P k R { e0 with key := key, val := val }).1 = (rg P k R e0).1 := by
      obtain ⟨y, hy⟩ := F.reads e0 he0
      have m1 := rd_key hy
      rw [h3, hkey] at m1
      rw [rg_of (rd_mk (born := e0.born) hkey hv), rg_of hy]
      exact Option.some.inj m1
    refine ⟨_, hrun2, ⟨_, _, since, seen, c0, heap_setBlock_same hb _, F', by simpa using hs, by rw [DataW.put_eq, hput], (heap_setBlock_other hb _ hne).trans hr, fun x hx => ?_, ?_, fun x hx => ?_, fun kl' hk => ?_, hsc, hsk⟩, ⟨rfl, rfl, rfl, by simp [setBlock], fun i _ hi => heap_setBlock_other hb _ (fun e => hi (by rw [e]))⟩⟩
    · rw [hlist] at hx
      rcases who x hx with rfl | hx'
      · exact hold e0 he0
      · exact hold x hx'
    · have e1 : ∀ a : Array MapEntry, (leftOf a seen).size = (a.toList.filter fun e => !seen.contains e.born).length := fun a => by
        unfold leftOf
        rw [← Array.toList_filter, Array.length_toList]
      rw [e1, e1, filter_born, filter_born, hlist, List.map_set]
      congr 2
      have : e0.born = (es.toList.map (·.born))[j]'(by simpa using hjl) := by rw [List.getElem_map, hel]
      show (es.toList.map (·.born)).set j e0.born = _
      rw [this, List.set_getElem_self]
    · rw [hlist] at hx
      rcases who x hx with rfl | hx'
      · rw [hrg]; exact hl1 e0 he0
      · exact hl1 x hx'
    · obtain ⟨x, hx, rfl⟩ := hl2 kl' hk
      rw [hlist]
      obtain ⟨i, hi, rfl⟩ := List.getElem_of_mem hx
      by_cases hij : j = i
      · subst hij
        exact ⟨{ e0 with key := key, val := val }, List.mem_iff_getElem.2 ⟨j, by simpa using hjl, by simp⟩, by rw [hrg, hel]⟩
      · exact ⟨_, List.mem_iff_getElem.2 ⟨i, by simpa using hi, by rw [List.getElem_set_ne hij]⟩, rfl⟩
theorem has_left (h : w.ranges P k R b r n D left cnt) (K : Keyed P k) {kl : Lit} (hk : left kl = true) : Maps.has D kl = true := by
  obtain ⟨es, clock, since, seen, c0, hb, F, hs, rfl, hr, hold, rfl, hl1, hl2, hsc, hsk⟩ := h
  obtain ⟨x, hx, rfl⟩ := hl2 kl hk
  obtain ⟨y, hy⟩ := F.reads x hx
  exact List.any_eq_true.2 ⟨rg P k R x, mem_sorted.2 (List.mem_map.2 ⟨x, hx, rfl⟩), WideAt.sameKey_self (by rw [rg_of hy]; exact K.key (rd_key hy))⟩
theorem moved {w' : World} (h : w.ranges P k R b r n D left cnt) (hb' : w'.heap[b]? = w.heap[b]?) (hr' : w'.heap[r]? = w.heap[r]?) : w'.ranges P k R b r n D left cnt := by
  obtain ⟨es, clock, since, seen, c0, hb, F, hs, hD, hr, rest⟩ := h
  exact ⟨es, clock, since, seen, c0, hb'.trans hb, F, hs, hD, hr'.trans hr, rest⟩
end
open TextMap (RV)
variable {P : Program} {ts ks es : TypeId} {w w' : World} {b r n cnt : Nat} {f : List UInt8 → Option Value} {lf : List UInt8 → Bool}
/-- A range over the map f is under way: lf: who is still to come. -/
def Rng (P : Program) (ks : TypeId) (w : World) (b r n : Nat) (f : List UInt8 → Option Value) (lf : List UInt8 → Bool) (cnt : Nat) : Prop :=
  ∃ D left, w.ranges P ks RV b r n D left cnt ∧ (∀ q, Maps.has D (.string q) = (f q).isSome ∧ ∀ v, f q = some v → ∀ z, D.atKey (.string q) z = .held v) ∧ ∀ q, left (.string q) = lf q
theorem Rng.is (h : Rng P ks w b r n f lf cnt) : TextMap.Is P ks w b n f := by
  obtain ⟨D, left, h1, h2, _⟩ := h
  exact ⟨D, h1.owns, h2⟩
theorem Rng.moved (h : Rng P ks w b r n f lf cnt) (hb : w'.heap[b]? = w.heap[b]?) (hr : w'.heap[r]? = w.heap[r]?) : Rng P ks w' b r n f lf cnt := by
  obtain ⟨D, left, h1, h2, h3⟩ := h
  exact ⟨D, left, TextRange.moved h1 hb hr, h2, h3⟩
theorem Rng.lt (h : Rng P ks w b r n f lf cnt) : r < w.heap.size := by
  obtain ⟨D, left, h1, _⟩ := h
  exact h1.lt
theorem Rng.ne (h : Rng P ks w b r n f lf cnt) : r ≠ b := by
  obtain ⟨D, left, h1, _⟩ := h
  exact h1.ne
theorem Rng.below (h : Rng P ks w b r n f lf cnt) (k : Below w.heap.size w w') : Rng P ks w' b r n f lf cnt := h.moved (k.block _ h.is.lt) (k.block _ h.lt)
theorem Rng.left_eq (h : Rng P ks w b r n f lf cnt) : w.rangeLeft b r = cnt := by
  obtain ⟨D, left, h1, _⟩ := h
  exact h1.left_eq
section
variable {ops : Array Oper} {rest : List Oper} {o : Oper} {a : Act} {Q : Exit → Act → World → Prop}
theorem wpList_range (ht : P.underlying ts = some (.map ks es)) (hks : P.underlying ks = some .string) (hg : o.guard = none) (m : Operand) (hop : o.op = Op.range ts m) (b n : Nat) (f : List UInt8 → Option Value)
    (hm : a.eval m = .map (some b)) (hown : TextMap.Is P ks w b n f)
    (hK : ∀ w' cnt, Rng P ks w' b w.heap.size n f (fun q => (f q).isSome) cnt → Below w.heap.size w w' → wpList P ops Q rest (a.put o.dst (.pointer (some ⟨w.heap.size, 0, none⟩))) w') :
    wpList P ops Q (o :: rest) a w := by
  obtain ⟨D, h1, h2⟩ := hown
  refine wpList_range_own w hg m ts hop ks es (string_keyed hks) ht RV b n D hm h1 ?_
  intro w' r1 r2 r3
  exact hK w' _ ⟨D, _, r1, h2, fun q => (h2 q).1⟩ ⟨r2.os, r2.tape, r2.output, r2.size, fun i hi => r2.block i hi (by simp)⟩
theorem wpList_next (hks : P.underlying ks = some .string) (hg : o.guard = none) (it : Operand) (hop : o.op = Op.next it false) (b r n : Nat) (f : List UInt8 → Option Value) (lf : List UInt8 → Bool) (cnt : Nat)
    (hit : a.eval it = .pointer (some ⟨r, 0, none⟩)) (h : Rng P ks w b r n f lf cnt)
    (hDone : (∀ q, lf q = false) → wpList P ops Q rest (a.put o.dst (.tuple #[.bool false])) w)
    (hMore : ∀ (q : List UInt8) (c : Value) (w' : World) (cnt' : Nat), lf q = true → f q = some c → q.length ≤ maxLen → Rng P ks w' b r n f (fun x => lf x && !(x == q)) cnt' → cnt' < cnt → w.grownBy w' (some r) → w'.heap.size = w.heap.size →
      (Instr.entry (.pointer (some ⟨r, 0, none⟩))).run P w' = .ok (.tuple #[.string ⟨q.toArray⟩, c]) w' → wpList P ops Q rest (a.put o.dst (.tuple #[.bool true, .string ⟨q.toArray⟩, c])) w') :
    wpList P ops Q (o :: rest) a w := by
  obtain ⟨D, left, h1, h2, h3⟩ := h
  refine wpList_next_ranges w hg it hop ks (string_keyed hks) RV (fun q : List UInt8 => .string ⟨q.toArray⟩) (fun c : Value => c)
    (fun key kl hkey => by
      obtain ⟨s, rfl, _, _⟩ := WideMaps.string_of_keyOf hks hkey
      exact ⟨s.data.toList, by simp⟩) (fun v y _ => ⟨v, rfl⟩) b r n D left cnt hit h1 (fun _ hl => hDone fun q => (h3 q).symm.trans (hl _)) ?_
  intro q c kl y w' cnt' hkey hlk hRc hat hrg hlt hgr hsz hen
  obtain ⟨s, es, rfl, hsl⟩ := WideMaps.string_of_keyOf hks hkey
  simp only [Value.string.injEq] at es
  subst es
  have hql : q.length ≤ maxLen := by
    have e : (⟨q.toArray⟩ : ByteArray).size = q.length := by show q.toArray.size = _; simp
    rw [e] at hsl
    exact hsl
  have hin := has_left h1 (string_keyed hks) hlk
  have e2 : (⟨q.toArray⟩ : ByteArray).data.toList = q := by simp
  rw [e2] at hlk hin hat hrg
  cases hRc
  have hf : f q = some c := by
    have h4 := (h2 q).1
    rw [hin] at h4
    cases hq : f q with
    | none => rw [hq] at h4; cases h4
    | some v =>
      have h5 := (h2 q).2 v hq (.held v)
      rw [hat] at h5
      cases h5; rfl
  refine hMore q c w' cnt' ((h3 q).symm.trans hlk) hf hql ⟨D, _, hrg, h2, fun x => ?_⟩ hlt hgr hsz hen
  show (left (.string x) && !(Lit.string x).sameKey (.string q)) = _
  rw [h3 x]
  rfl
theorem wpList_store (ht : P.underlying ts = some (.map ks es)) (hks : P.underlying ks = some .string) (hg : o.guard = none) (m x v : Operand) (hop : o.op = Op.mapUpdate ts m x v) (b r n : Nat) (f : List UInt8 → Option Value) (lf : List UInt8 → Bool) (cnt : Nat) (q : List UInt8) (val : Value)
    (hm : a.eval m = .map (some b)) (h : Rng P ks w b r n f lf cnt) (hn : n < maxLen) (hx : a.eval x = .string ⟨q.toArray⟩) (hq : q.length ≤ maxLen) (hin : (f q).isSome = true) (hv : a.eval v = val)
    (hK : ∀ w', Rng P ks w' b r n (TextMap.put f q val) lf cnt → w.grownBy w' (some b) → wpList P ops Q rest (a.put o.dst undef) w') : wpList P ops Q (o :: rest) a w := by
  refine wpList_plain hg fun K' hK' => ?_
  obtain ⟨D, left, h1, h2, h3⟩ := h
  obtain ⟨w', hrun, r1, r2⟩ := store h1 (string_keyed hks) ht hn (TextMap.key_of hks hq) (val := val) (d := .held val) (ps := []) ((h2 q).1.trans hin) rfl
  unfold Oper.wp
  simp [execOp, hop, hm, hx, hv, hrun, Result.andThen]
  refine hK' _ _ (hK w' ⟨_, left, r1, fun y => ?_, h3⟩ r2)
  have hM := World.ownsMap.isMap h1.owns
  unfold TextMap.put
  by_cases e : y = q
  · subst e
    rw [if_pos rfl]
    refine ⟨has_put_same hM (by trivial) _, fun u hu z => ?_⟩
    cases hu
    exact atKey_put_same hM (by trivial) _ _
  · rw [if_neg e]
    have hne : Lit.string y ≠ Lit.string q := fun h => e (by cases h; rfl)
    refine ⟨(has_put_other hne _).trans (h2 y).1, fun u hu z => ?_⟩
    rw [atKey_put_other hne]
    exact (h2 y).2 u hu z
end
end TextRange
end Go.Proofs.Ytcbnkncgacbniaa

namespace Go.Proofs.Ytcbnkncgacbniaa
namespace Peers
open Go.RowKit Go.Proofs.Ytcbnkncgacbniaa.Mark Go.Proofs.Ytcbnkncgacbniaa.Dots Go.Proofs.Ytcbnkncgacbniaa.PeersLaw
open TextRange (Rng)
/-- A pruning that may be. -/
def MayT (bp ow : List UInt8) (cap bs : Nat) : Prop := 0 < (Path.parse bp).length ∧ 0 < (Path.parse ow).length ∧ bp ≠ ow ∧ cap ≤ 281474976710656 ∧ bs ≤ 281474976710656 - cap
/-- What becomes of a vector. -/
def turnF (f : List UInt8 → Nat) (bp ow : List UInt8) (cap bs : Nat) (p : List UInt8) : Nat := if p = bp then 0 else if p = ow ∧ cap ≤ f bp then max (f ow) (bs + cap) else f p
def Turned (bp ow : List UInt8) (cap bs : Nat) (A J : List M) : Prop := IsVec J (turnF (ofL A) bp ow cap bs) ∧ J.length ≤ A.length + 1
theorem ofL_one (p q : List UInt8) (n : Nat) (hp : p ≠ []) : ofL [⟨p, n⟩] q = if q = p then n else 0 := by
  unfold ofL mostL isQ
  by_cases e : q = p
  · subst e; simp [hp]
  · simp [Ne.symm e, e]
theorem turned_no {A J : List M} {bp ow : List UInt8} {cap bs : Nat} (h : IsVec J (fun y => if y = bp then 0 else ofL A y)) (hl : J.length ≤ A.length) (hc : ¬ cap ≤ ofL A bp) : Turned bp ow cap bs A J :=
  ⟨h.congr fun p => by unfold turnF; by_cases e : p = bp
                       · rw [if_pos e, if_pos e]
                       · rw [if_neg e, if_neg e, if_neg (fun h => hc h.2)], by omega⟩
theorem turned_yes {A J K : List M} {bp ow : List UInt8} {cap bs : Nat} (h : IsVec J (fun y => if y = bp then 0 else ofL A y)) (k : IsVec K (fun q => max (ofL J q) (ofL [⟨ow, bs + cap⟩] q))) (hl : K.length ≤ A.length + 1) (hne : bp ≠ ow) (ho : ow ≠ []) (hc : cap ≤ ofL A bp) : Turned bp ow cap bs A K := by
  refine ⟨k.congr fun p => ?_, hl⟩
  have hp : ofL J p = if p = bp then 0 else ofL A p := h.2 p
  rw [hp, ofL_one _ _ _ ho]
  unfold turnF
  by_cases e : p = bp
  · rw [if_pos e, if_pos e, if_neg (fun e' => hne (e.symm.trans e'))]; rfl
  · rw [if_neg e, if_neg e]
    by_cases e' : p = ow
    · rw [if_pos e', if_pos ⟨e', hc⟩, e']
    · rw [if_neg e', if_neg (fun h => e' h.1)]; exact Nat.max_zero _
theorem one_mark (w : World) (p : List UInt8) (n : Nat) (T : TypeId) {g : Nat} (hg : g = w.heap.size) : Mark.Lies (w.alloc (.cells #[.string ⟨p.toArray⟩, .int .u64 (n : Int)] T)) (some ⟨g, 0, none⟩) 1 [⟨p, n⟩] := by
  subst hg
  refine ⟨rfl, fun _ => ⟨_, _, rfl, fun j hj => ?_⟩⟩
  obtain rfl : j = 0 := by simpa using hj
  refine ⟨?_, ?_⟩ <;> rw [World.cell?_alloc_at _ _ _ _ rfl] <;> rfl
theorem lies_cells {w w' : World} {a : Option Addr} {n : Nat} {L : List M} (h : Mark.Lies w a n L) (k : ∀ (j : Nat) cs T fz, w.heap[j]? = some (Obj.cells cs T fz) → w'.heap[j]? = w.heap[j]?) : Mark.Lies w' a n L := by
  refine ⟨h.1, fun hn => ?_⟩
  obtain ⟨b, off, rfl, hc⟩ := h.2 hn
  obtain ⟨cs, T, fz, hb⟩ := lies_block h (by rw [← h.1]; exact hn)
  have hk := k b cs T fz hb
  refine ⟨b, off, rfl, fun j hj => ?_⟩
  obtain ⟨h1, h2⟩ := hc j hj
  exact ⟨(World.cell?_of_block (w := w) (a := ⟨b, off + j * 2, none⟩) hk).trans h1, (World.cell?_of_block (w := w) (a := ⟨b, off + j * 2 + 1, none⟩) hk).trans h2⟩
theorem Slot.cells {w w' : World} {v : Value} {L : List M} {pb : Nat} (h : Slot pb w v L) (k : ∀ (j : Nat) cs T fz, w.heap[j]? = some (Obj.cells cs T fz) → w'.heap[j]? = w.heap[j]?) : Slot pb w' v L := by
  obtain ⟨a, c, e, hl, hp⟩ := h
  exact ⟨a, c, e, lies_cells hl k, hp⟩
/-- The pruning's box and the peers' box stand. -/
def At (w : World) (pb mb B : Nat) (bp ow : List UInt8) (cap bs : Nat) (last : List UInt8) : Prop :=
  w.heap[pb]? = some (Obj.cells #[.map (some mb), .string ⟨last.toArray⟩] 58 (0, 0)) ∧ w.heap[B]? = some (Obj.cells #[.string ⟨bp.toArray⟩, .int .u64 (cap : Int), .string ⟨ow.toArray⟩, .int .u64 (bs : Int)] 28 (0, 0))
section
variable {w w' : World} {pb mb B r : Nat} {bp ow last : List UInt8} {cap bs : Nat}
theorem At.lt (h : At w pb mb B bp ow cap bs last) : pb < w.heap.size ∧ B < w.heap.size := ⟨(Array.getElem?_eq_some_iff.1 h.1).1, (Array.getElem?_eq_some_iff.1 h.2).1⟩
theorem At.below (h : At w pb mb B bp ow cap bs last) (k : Below w.heap.size w w') : At w' pb mb B bp ow cap bs last := ⟨(k.block _ h.lt.1).trans h.1, (k.block _ h.lt.2).trans h.2⟩
theorem At.save (h : At w pb mb B bp ow cap bs last) {m : Nat} (k : Save r m w w') (h1 : pb ≠ r ∧ pb ≠ m) (h2 : B ≠ r ∧ B ≠ m) : At w' pb mb B bp ow cap bs last := ⟨(k.block _ h.lt.1 h1.1 h1.2).trans h.1, (k.block _ h.lt.2 h2.1 h2.2).trans h.2⟩
theorem At.c (h : At w pb mb B bp ow cap bs last) : w.cell? ⟨pb, 0, none⟩ = some (.map (some mb)) := Lib.cell_of_heap h.1 0
theorem At.q0 (h : At w pb mb B bp ow cap bs last) : w.cell? ⟨B, 0, none⟩ = some (.string ⟨bp.toArray⟩) := Lib.cell_of_heap h.2 0
theorem At.q1 (h : At w pb mb B bp ow cap bs last) : w.cell? ⟨B, 1, none⟩ = some (.int .u64 (cap : Int)) := Lib.cell_of_heap h.2 1
theorem At.q2 (h : At w pb mb B bp ow cap bs last) : w.cell? ⟨B, 2, none⟩ = some (.string ⟨ow.toArray⟩) := Lib.cell_of_heap h.2 2
theorem At.q3 (h : At w pb mb B bp ow cap bs last) : w.cell? ⟨B, 3, none⟩ = some (.int .u64 (bs : Int)) := Lib.cell_of_heap h.2 3
/-- A round's two blocks: the iterator, which is new, and the map. -/
theorem save_round {x y : World} (h : Save pb mb w x) (hr : w.heap.size ≤ r) (k : Save r mb x y) : Save pb mb w y :=
  ⟨k.os.trans h.os, k.tape.trans h.tape, k.output.trans h.output, Nat.le_trans h.size k.size, fun j hj hb hc => (k.block j (Nat.lt_of_lt_of_le hj h.size) (by omega) hc).trans (h.block j hj hb hc)⟩
theorem iter_at {P : Program} {ks : TypeId} {n cnt : Nat} {f : List UInt8 → Option Value} {lf : List UInt8 → Bool} (h : Rng P ks w mb r n f lf cnt) : (∃ s l c, w.heap[r]? = some (.mapIter (some mb) s l c)) ∧ ∃ es clock, w.heap[mb]? = some (.map es clock) := by
  obtain ⟨D, left, ⟨es, clock, since, seen, c0, hb, _, _, _, hr, _⟩, _⟩ := h
  exact ⟨⟨_, _, _, hr⟩, _, _, hb⟩
/-- Cells stand while the iterator and the map turn. -/
theorem cells_stand {P : Program} {ks : TypeId} {n cnt : Nat} {f : List UInt8 → Option Value} {lf : List UInt8 → Bool} (h : Rng P ks w mb r n f lf cnt) (k : Save r mb w w') : ∀ (j : Nat) cs T fz, w.heap[j]? = some (Obj.cells cs T fz) → w'.heap[j]? = w.heap[j]? := by
  intro j cs T fz hj
  obtain ⟨⟨s, l, c, hr⟩, es, clock, hm⟩ := iter_at h
  exact k.block j (Array.getElem?_eq_some_iff.1 hj).1 (fun e => by rw [e, hr] at hj; cases hj) (fun e => by rw [e, hm] at hj; cases hj)
end
/-- What a loop's round keeps. -/
structure Inv (w : World) (pb mb r B : Nat) (T : List (List UInt8)) (V V' : List UInt8 → List M) (bp ow last : List UInt8) (cap bs : Nat) (f : List UInt8 → Option Value) (lf : List UInt8 → Bool) (cnt : Nat) (wr : World) : Prop where
  rng : Rng Try.prog 9 wr mb r T.length f lf cnt
  isS : ∀ q, (f q).isSome = decide (q ∈ T)
  slot : ∀ q v, f q = some v → Slot pb wr v (V' q)
  old : ∀ q, lf q = true → V' q = V q
  new : ∀ q ∈ T, lf q = false → Turned bp ow cap bs (V q) (V' q)
  at_ : At wr pb mb B bp ow cap bs last
  save : Save pb mb w wr
theorem Inv.next {w wr w1 w9 : World} {pb mb r B : Nat} {T : List (List UInt8)} {V V' : List UInt8 → List M} {bp ow last : List UInt8} {cap bs : Nat} {f : List UInt8 → Option Value} {lf : List UInt8 → Bool} {cnt cnt1 : Nat} (h : Inv w pb mb r B T V V' bp ow last cap bs f lf cnt wr)
    (hr : w.heap.size ≤ r) (hne : pb ≠ r ∧ pb ≠ mb) (hB : B ≠ r ∧ B ≠ mb) {q : List UInt8} {v : Value} {J : List M} (hq : q ∈ T) (hJ : Turned bp ow cap bs (V q) J)
    (k1 : Save r mb wr w1) (k : w1.grownBy w9 (Option.some mb)) (hR : Rng Try.prog 9 w9 mb r T.length (TextMap.put f q v) (fun x => lf x && !(x == q)) cnt1) (hs : Slot pb w1 v J) (hmw : ∃ es clock, w1.heap[mb]? = Option.some (.map es clock)) :
    Inv w pb mb r B T V (upd V' q J) bp ow last cap bs (TextMap.put f q v) (fun x => lf x && !(x == q)) cnt1 w9 := by
  have kS : Save r mb w1 w9 := Save.grown2 k
  have kA : Save r mb wr w9 := k1.trans kS
  refine ⟨hR, fun x => ?_, fun x y e => ?_, fun x e => ?_, fun x hx e => ?_, h.at_.save kA hne hB, save_round h.save hr kA⟩
  · unfold TextMap.put
    by_cases e : x = q
    · rw [if_pos e, e, decide_eq_true hq]; rfl
    · rw [if_neg e]; exact h.isS x
  · unfold TextMap.put at e
    unfold upd
    by_cases ex : x = q
    · rw [if_pos ex] at e ⊢
      cases e
      exact hs.save (Save.grown2 k) hmw
    · rw [if_neg ex] at e ⊢
      exact (h.slot x y e).cells (cells_stand h.rng kA)
  · simp only [Bool.and_eq_true, Bool.not_eq_true', beq_eq_false_iff_ne] at e
    unfold upd
    rw [if_neg e.2]
    exact h.old x e.1
  · unfold upd
    by_cases ex : x = q
    · rw [if_pos ex, ex]; exact hJ
    · rw [if_neg ex]
      refine h.new x hx ?_
      simpa [ex] using e
theorem Inv.done {w wr : World} {pb mb r B : Nat} {T : List (List UInt8)} {V V' : List UInt8 → List M} {bp ow last : List UInt8} {cap bs : Nat} {f : List UInt8 → Option Value} {lf : List UInt8 → Bool} {cnt : Nat} (h : Inv w pb mb r B T V V' bp ow last cap bs f lf cnt wr)
    (hU : Up T) (hS : T.length ≤ 1000000) (hl : ∀ q, lf q = false) : Is wr pb mb T V' last ∧ (∀ q ∈ T, Turned bp ow cap bs (V q) (V' q)) ∧ Save pb mb w wr :=
  ⟨⟨h.at_.1, ⟨f, h.rng.is, h.isS, h.slot⟩, hU, hS⟩, fun q hq => h.new q hq (hl q), h.save⟩

set_option maxRecDepth 100000 in
set_option maxHeartbeats 16000000 in
theorem turn_not (bp ow : List UInt8) (cap bs : Nat) (w : World) (pb mb : Nat) (T : List (List UInt8)) (V : List UInt8 → List M) (last : List UInt8) (h : Is w pb mb T V last) (hbp : bp.length ≤ 1099511627776) (how : ow.length ≤ 1099511627776) (_ : cap ≤ 18446744073709551615) (_ : bs ≤ 18446744073709551615) (hm : ¬ MayT bp ow cap bs) :
    Calls Try.prog 21 #[.pointer (some ⟨pb, 0, none⟩), .agg #[.string ⟨bp.toArray⟩, .int .u64 (cap : Int), .string ⟨ow.toArray⟩, .int .u64 (bs : Int)]] w fun e w' => e = .returned (.tuple #[]) ∧ Is w' pb mb T V last ∧ Below w.heap.size w w' := by
  have hb := Below.refl w.heap.size w
  have hlt := h.lt
  have HP := Lib.hid h
  have HZ := Lib.hid (And.intro hbp how)
  have hbn : Below w.heap.size w (w.alloc (.cells #[.string ⟨bp.toArray⟩, .int .u64 (cap : Int), .string ⟨ow.toArray⟩, .int .u64 (bs : Int)] 28)) := balloc (Below.refl _ _) _
  have AT0 : At (w.alloc (.cells #[.string ⟨bp.toArray⟩, .int .u64 (cap : Int), .string ⟨ow.toArray⟩, .int .u64 (bs : Int)] 28)) pb mb w.heap.size bp ow cap bs last := ⟨(hbn.block pb hlt.1).trans h.box, World.alloc_heap_new w _⟩
  have TH := Lib.hid (there_any _ pb mb T V last (h.below hbn))
  obtain ⟨B, hB⟩ : ∃ B, B = w.heap.size := ⟨_, rfl⟩
  have HB : Hid (w.heap.size ≤ B ∧ pb < B ∧ mb < B) := Lib.hid ⟨by omega, by omega, by omega⟩
  have HBW := Lib.hid hB
  clear h hbp how hlt
  go_enter Try.func21, Try.ntmps21
  go_wp2_with fail
  refine TH.out.mono ?_
  rintro e v0 ⟨rfl, rfl⟩
  clear TH
  rw [← hB] at AT0 ⊢
  replace hb := bstep hb hbn
  generalize hW : w.alloc (.cells #[.string ⟨bp.toArray⟩, .int .u64 (cap : Int), .string ⟨ow.toArray⟩, .int .u64 (bs : Int)] 28) = W1 at *
  clear hW hB hbn
  have a0 := AT0.q0
  have a1 := AT0.q1
  have a2 := AT0.q2
  have a3 := AT0.q3
  have AT := Lib.hid AT0
  clear AT0
  by_cases h1 : 0 < (Path.parse bp).length
  rotate_left
  · have H1 := Lib.hid (decide_eq_false h1)
    clear h1 hm
    go_wp2_with fail
    refine (Path.may_any bp _ HZ.out.1).mono ?_
    rintro e v1 ⟨rfl, k1⟩
    replace AT := Lib.hid ((AT.out).below k1)
    replace a0 := (Dots.keepC a0 k1)
    replace a1 := (Dots.keepC a1 k1)
    replace a2 := (Dots.keepC a2 k1)
    replace a3 := (Dots.keepC a3 k1)
    replace hb := bstep hb k1
    clear k1
    rw [H1.out]
    go_wp2
    exact bodyPost_ret (results_none (by kernel_rfl) _ _ _) rfl ⟨rfl, HP.out.below hb, hb⟩
  have H1 := Lib.hid (decide_eq_true h1)
  go_wp2_with fail
  refine (Path.may_any bp _ HZ.out.1).mono ?_
  rintro e v2 ⟨rfl, k2⟩
  replace AT := Lib.hid ((AT.out).below k2)
  replace a0 := (Dots.keepC a0 k2)
  replace a1 := (Dots.keepC a1 k2)
  replace a2 := (Dots.keepC a2 k2)
  replace a3 := (Dots.keepC a3 k2)
  replace hb := bstep hb k2
  clear k2
  rw [H1.out]
  by_cases h2 : 0 < (Path.parse ow).length
  rotate_left
  · have H2 := Lib.hid (decide_eq_false h2)
    clear h2 hm h1
    go_wp2_with fail
    refine (Path.may_any ow _ HZ.out.2).mono ?_
    rintro e v3 ⟨rfl, k3⟩
    replace AT := Lib.hid ((AT.out).below k3)
    replace a0 := (Dots.keepC a0 k3)
    replace a1 := (Dots.keepC a1 k3)
    replace a2 := (Dots.keepC a2 k3)
    replace a3 := (Dots.keepC a3 k3)
    replace hb := bstep hb k3
    clear k3
    rw [H2.out]
    go_wp2
    exact bodyPost_ret (results_none (by kernel_rfl) _ _ _) rfl ⟨rfl, HP.out.below hb, hb⟩
  have H2 := Lib.hid (decide_eq_true h2)
  go_wp2_with fail
  refine (Path.may_any ow _ HZ.out.2).mono ?_
  rintro e v4 ⟨rfl, k4⟩
  replace AT := Lib.hid ((AT.out).below k4)
  replace a0 := (Dots.keepC a0 k4)
  replace a1 := (Dots.keepC a1 k4)
  replace a2 := (Dots.keepC a2 k4)
  replace a3 := (Dots.keepC a3 k4)
  replace hb := bstep hb k4
  clear k4
  rw [H2.out]
  by_cases h3 : bp = ow
  · have e3 : (bp == ow) = true := by simpa using h3
    clear h3 hm h1 h2
    go_wp2
    exact bodyPost_ret (results_none (by kernel_rfl) _ _ _) rfl ⟨rfl, HP.out.below hb, hb⟩
  have e3 : (bp == ow) = false := by simpa using h3
  by_cases h4 : cap ≤ 281474976710656
  rotate_left
  · have e4 : decide ((cap : Int) > (281474976710656 : Int)) = true := decide_eq_true (by omega)
    have e5 : decide ((281474976710656 : Int) < (cap : Int)) = true := decide_eq_true (by omega)
    clear h3 hm h1 h2
    go_wp2
    exact bodyPost_ret (results_none (by kernel_rfl) _ _ _) rfl ⟨rfl, HP.out.below hb, hb⟩
  have e4 : decide ((cap : Int) > (281474976710656 : Int)) = false := decide_eq_false (by omega)
  have e5 : decide ((281474976710656 : Int) < (cap : Int)) = false := decide_eq_false (by omega)
  have h5 : ¬ bs ≤ 281474976710656 - cap := fun h5 => hm ⟨h1, h2, h3, h4, h5⟩
  obtain ⟨m, hmm⟩ : ∃ m, m = 281474976710656 - cap := ⟨_, rfl⟩
  have wm : IntKind.u64.wrap ((281474976710656 : Int) - (cap : Int)) = (m : Int) := by rw [IntKind.wrap_u64]; omega
  have e6 : decide ((bs : Int) > (m : Int)) = true := decide_eq_true (by omega)
  have e7 : decide ((m : Int) < (bs : Int)) = true := decide_eq_true (by omega)
  have e8 : m < bs := by omega
  clear h3 hm h1 h2 h5 hmm
  go_wp2
  exact bodyPost_ret (results_none (by kernel_rfl) _ _ _) rfl ⟨rfl, HP.out.below hb, hb⟩
set_option maxRecDepth 100000 in
set_option maxHeartbeats 16000000 in
theorem turn_may (bp ow : List UInt8) (cap bs : Nat) (w : World) (pb mb : Nat) (T : List (List UInt8)) (V : List UInt8 → List M) (last : List UInt8) (h : Is w pb mb T V last) (hbp : bp.length ≤ 1099511627776) (how : ow.length ≤ 1099511627776) (_ : cap ≤ 18446744073709551615) (_ : bs ≤ 18446744073709551615) (hm : MayT bp ow cap bs) (hok : ∀ q, Ok (V q)) (hln : ∀ q, (V q).length ≤ 1099511627775) :
    Calls Try.prog 21 #[.pointer (some ⟨pb, 0, none⟩), .agg #[.string ⟨bp.toArray⟩, .int .u64 (cap : Int), .string ⟨ow.toArray⟩, .int .u64 (bs : Int)]] w fun e w' => e = .returned (.tuple #[]) ∧ ∃ V', Is w' pb mb T V' last ∧ (∀ q ∈ T, Turned bp ow cap bs (V q) (V' q)) ∧ Save pb mb w w' := by
  obtain ⟨h1, h2, h3, h4, h5⟩ := hm
  have H1 := Lib.hid (decide_eq_true h1)
  have H2 := Lib.hid (decide_eq_true h2)
  have H3 : Hid (bp ≠ ow ∧ ow ≠ []) := Lib.hid ⟨h3, fun e => by rw [e] at h2; exact absurd h2 (by decide +kernel)⟩
  have HV := Lib.hid (And.intro hok hln)
  clear h1 h2 hok hln
  have hb := Below.refl w.heap.size w
  have hlt := h.lt
  have HP := Lib.hid h
  have HZ := Lib.hid (And.intro hbp how)
  have hbn : Below w.heap.size w (w.alloc (.cells #[.string ⟨bp.toArray⟩, .int .u64 (cap : Int), .string ⟨ow.toArray⟩, .int .u64 (bs : Int)] 28)) := balloc (Below.refl _ _) _
  have AT0 : At (w.alloc (.cells #[.string ⟨bp.toArray⟩, .int .u64 (cap : Int), .string ⟨ow.toArray⟩, .int .u64 (bs : Int)] 28)) pb mb w.heap.size bp ow cap bs last := ⟨(hbn.block pb hlt.1).trans h.box, World.alloc_heap_new w _⟩
  have TH := Lib.hid (there_any _ pb mb T V last (h.below hbn))
  obtain ⟨B, hB⟩ : ∃ B, B = w.heap.size := ⟨_, rfl⟩
  have HB : Hid (w.heap.size ≤ B ∧ pb < B ∧ mb < B) := Lib.hid ⟨by omega, by omega, by omega⟩
  have HBW := Lib.hid hB
  clear h hbp how hlt
  go_enter Try.func21, Try.ntmps21
  go_wp2_with fail
  refine TH.out.mono ?_
  rintro e v0 ⟨rfl, rfl⟩
  clear TH
  rw [← hB] at AT0 ⊢
  replace hb := bstep hb hbn
  generalize hW : w.alloc (.cells #[.string ⟨bp.toArray⟩, .int .u64 (cap : Int), .string ⟨ow.toArray⟩, .int .u64 (bs : Int)] 28) = W1 at *
  clear hW hB hbn
  have a0 := AT0.q0
  have a1 := AT0.q1
  have a2 := AT0.q2
  have a3 := AT0.q3
  have AT := Lib.hid AT0
  clear AT0
  go_wp2_with fail
  refine (Path.may_any bp _ HZ.out.1).mono ?_
  rintro e v1 ⟨rfl, k1⟩
  replace AT := Lib.hid ((AT.out).below k1)
  replace a0 := (Dots.keepC a0 k1)
  replace a1 := (Dots.keepC a1 k1)
  replace a2 := (Dots.keepC a2 k1)
  replace a3 := (Dots.keepC a3 k1)
  replace hb := bstep hb k1
  clear k1
  rw [H1.out]
  go_wp2_with fail
  refine (Path.may_any ow _ HZ.out.2).mono ?_
  rintro e v2 ⟨rfl, k2⟩
  replace AT := Lib.hid ((AT.out).below k2)
  replace a0 := (Dots.keepC a0 k2)
  replace a1 := (Dots.keepC a1 k2)
  replace a2 := (Dots.keepC a2 k2)
  replace a3 := (Dots.keepC a3 k2)
  replace hb := bstep hb k2
  clear k2
  rw [H2.out]
  have e3 : (bp == ow) = false := by simpa using h3
  have e4 : decide ((cap : Int) > (281474976710656 : Int)) = false := decide_eq_false (by omega)
  have e5 : decide ((281474976710656 : Int) < (cap : Int)) = false := decide_eq_false (by omega)
  obtain ⟨m, hmm⟩ : ∃ m, m = 281474976710656 - cap := ⟨_, rfl⟩
  have wm : IntKind.u64.wrap ((281474976710656 : Int) - (cap : Int)) = (m : Int) := by rw [IntKind.wrap_u64]; omega
  have e6 : decide ((bs : Int) > (m : Int)) = false := decide_eq_false (by omega)
  have e7 : decide ((m : Int) < (bs : Int)) = false := decide_eq_false (by omega)
  have e8 : ¬ m < bs := by omega
  have e9 : ¬ 281474976710656 < cap := by omega
  have ws : IntKind.u64.wrap ((bs : Int) + (cap : Int)) = ((bs + cap : Nat) : Int) := by rw [IntKind.wrap_u64]; omega
  clear h3 h5 hmm
  obtain ⟨f0, hf0, hd0, hs0⟩ := (HP.out.below hb).map
  have c0 := AT.out.c
  have HF0 := Lib.hid hf0
  have HFS := Lib.hid (And.intro hd0 hs0)
  clear hf0 hd0 hs0
  go_wp2_with (at_range; refine TextRange.wpList_range Try.underlying56 Try.underlying9 rfl _ rfl mb T.length f0 rfl HF0.out ?_; intro w1 cnt0 hr0 hb1)
  go_frame
  obtain ⟨r, hr⟩ : ∃ r, r = v2.heap.size := ⟨_, rfl⟩
  rw [← hr] at hr0 ⊢
  have HR : Hid (w.heap.size ≤ r ∧ (pb ≠ r ∧ pb ≠ mb) ∧ B ≠ r ∧ B ≠ mb) := Lib.hid (by have h1 := hb.size; have h2 := AT.out.lt; have h3 := HP.out.lt; have h4 := HP.out.ne; have h5 := HB.out; exact ⟨by omega, ⟨by omega, h4⟩, by omega, by omega⟩)
  have I0 : Hid (Inv w pb mb r B T V V bp ow last cap bs f0 (fun q => (f0 q).isSome) cnt0 w1) := Lib.hid ⟨hr0, HFS.out.1, fun q v e => (HFS.out.2 q v e).below hb1, fun _ _ => rfl, fun q hq e => (by have := HFS.out.1 q; rw [e, decide_eq_true hq] at this; cases this), AT.out.below hb1, Save.of (bstep hb hb1)⟩
  clear hr0 hb1 hr c0 a0 a1 a2 a3 HFS HF0 AT hb
  go_loopw [6] (fun _ wr => ∃ (V' : List UInt8 → List M) (f : List UInt8 → Option Value) (lf : List UInt8 → Bool) (cnt : Nat), Hid (Inv w pb mb r B T V V' bp ow last cap bs f lf cnt wr)) (fun _ wr => wr.rangeLeft mb r)
  case atStart => exact ⟨_, _, _, _, I0⟩
  case round =>
    clear I0
    obtain ⟨V', f, lf, cnt, I⟩ := hrel
    have RG := Lib.hid I.out.rng
    go_wp2_with (at_next; refine TextRange.wpList_next Try.underlying9 rfl _ rfl mb r T.length f lf cnt rfl RG.out ?_ ?_)
    · intro hl0
      have HD := Lib.hid (I.out.done HP.out.up HP.out.small hl0)
      clear hl0
      go_wp2
      go_end0
      exact ⟨rfl, _, HD.out⟩
    · intro q c w2 cnt1 hlq hfq hql hrg hlt hg hsz hen
      have HQT : Hid (q ∈ T) := Lib.hid (of_decide_eq_true (by rw [← I.out.isS q, hfq]; rfl))
      have HQL := Lib.hid hql
      have HCN := Lib.hid hlt
      have HFQ : Hid ((f q).isSome = true) := Lib.hid (by rw [hfq]; rfl)
      have S1 : Hid (Save r mb wr w2) := Lib.hid (Save.grown1 hg)
      obtain ⟨av, cv, rfl, lv, -⟩ := (I.out.slot q c hfq).cells (cells_stand I.out.rng S1.out)
      rw [I.out.old q hlq] at lv hen ⊢
      have hlen := HV.out.2 q
      obtain ⟨L, hL⟩ : ∃ L, L = V q := ⟨_, rfl⟩
      have OKL : Hid (Ok L) := Lib.hid (by rw [hL]; exact HV.out.1 q)
      rw [← hL] at lv hlen hen ⊢
      have HL := Lib.hid hL
      obtain ⟨n, hn⟩ : ∃ n, n = L.length := ⟨_, rfl⟩
      rw [← hn] at lv hlen hen ⊢
      have HNL := Lib.hid hn
      have LV := Lib.hid lv
      have HRG := Lib.hid hrg
      have A2 := Lib.hid (I.out.at_.save S1.out HR.out.2.1 HR.out.2.2)
      have a0 := A2.out.q0
      clear hlq hfq hql hrg hlt hg hsz hL hn lv
      go_wp2_with fail
      refine (Dots.drop_any L bp av n cv _ LV.out (by omega)).mono ?_
      rintro e w3 ⟨v, J, rfl, hJ, hJl, oJ, k3⟩
      obtain ⟨aj, cj, rfl, -, -, lj, -⟩ := oJ.lies
      have SJ := Lib.hid (slot_new (pb := pb) A2.out.lt.1 oJ)
      have HJ := Lib.hid (And.intro hJ hJl)
      obtain ⟨nj, hnj⟩ : ∃ n, n = J.length := ⟨_, rfl⟩
      rw [← hnj] at lj ⊢
      have HNJ := Lib.hid hnj
      have LJ := Lib.hid lj
      have S3 := Lib.hid (S1.out.trans (Save.of k3))
      have A3 := Lib.hid (A2.out.below k3)
      have R3 := Lib.hid (HRG.out.below k3)
      have LV3 := Lib.hid (LV.out.below k3)
      have q0 := A3.out.q0
      have q1 := A3.out.q1
      obtain ⟨x, hx⟩ : ∃ x, x = ofL L bp := ⟨_, rfl⟩
      have HX := Lib.hid hx
      clear hJ hJl oJ lj hnj k3 a0 hx hen
      by_cases hc : cap ≤ x
      rotate_left
      · have d1 : decide ((x : Int) ≥ (cap : Int)) = false := decide_eq_false (by omega)
        have d2 : decide ((cap : Int) ≤ (x : Int)) = false := decide_eq_false (by omega)
        have HC := Lib.hid hc
        go_wp2_with fail
        refine wp_region_noPanic ?_
        refine wp_region_held_drew (S := (fun w' => w'.cell? ⟨B, 0, none⟩ = some (.string ⟨bp.toArray⟩) ∧ w'.cell? ⟨B, 1, none⟩ = some (.int .u64 (cap : Int)))) (by kernel_rfl) (⟨q0, q1⟩) (fun hHeld => ?_)
        refine wpAnyH_take (i := 0) (v := ?_) (by simp only [List.getElem?_toArray, List.getElem?_cons_zero]; rfl) (by kernel_rfl) (by kernel_rfl) (by kernel_rfl) (fun _ _ _ h => h) (Or.inl ⟨by rfl, ?_⟩) (by assumption) ?_
        rotate_left
        · (intro w hSw; (try dsimp only at hSw); go_simp; try with_reducible rfl)
        try simp only [Act.put, List.setIfInBounds_toArray, List.set_cons_zero, List.set_cons_succ]
        refine wpAnyH_take (i := 1) (v := ?_) (by simp only [List.getElem?_toArray, List.getElem?_cons_succ, List.getElem?_cons_zero]; rfl) (by kernel_rfl) (by kernel_rfl) (by kernel_rfl) (fun _ _ _ h => h) (Or.inl ⟨by rfl, ?_⟩) (by assumption) ?_
        rotate_left
        · (intro w hSw; (try dsimp only at hSw); go_simp; try with_reducible rfl)
        try simp only [Act.put, List.setIfInBounds_toArray, List.set_cons_zero, List.set_cons_succ]
        refine wpAnyH_take (i := 2) (v := ?_) (by simp only [List.getElem?_toArray, List.getElem?_cons_succ, List.getElem?_cons_zero]; rfl) (by kernel_rfl) (by kernel_rfl) (by kernel_rfl) (fun _ _ _ h => h) (Or.inl ⟨by rfl, ?_⟩) (by assumption) ?_
        rotate_left
        · (intro w hSw; (try dsimp only at hSw); go_simp; try with_reducible rfl)
        try simp only [Act.put, List.setIfInBounds_toArray, List.set_cons_zero, List.set_cons_succ]
        refine wpAnyH_take (i := 4) (v := ?_) (by simp only [List.getElem?_toArray, List.getElem?_cons_succ, List.getElem?_cons_zero]; rfl) (by kernel_rfl) (by kernel_rfl) (by kernel_rfl) (fun _ _ _ h => h) (Or.inl ⟨by rfl, ?_⟩) (by assumption) ?_
        rotate_left
        · (intro w hSw; (try dsimp only at hSw); go_simp; try with_reducible rfl)
        try simp only [Act.put, List.setIfInBounds_toArray, List.set_cons_zero, List.set_cons_succ]
        refine wpAnyH_take (i := 5) (v := ?_) (by simp only [List.getElem?_toArray, List.getElem?_cons_succ, List.getElem?_cons_zero]; rfl) (by kernel_rfl) (by kernel_rfl) (by kernel_rfl) (fun _ _ _ h => h) (Or.inl ⟨by rfl, ?_⟩) (by assumption) ?_
        rotate_left
        · (intro w hSw; (try dsimp only at hSw); go_simp; try with_reducible rfl)
        try simp only [Act.put, List.setIfInBounds_toArray, List.set_cons_zero, List.set_cons_succ]
        refine wpAnyH_ready (rs := [3]) (by kernel_rfl) (by simp) ?_
        refine AllReadyH.cons (by simp only [List.getElem?_toArray, List.getElem?_cons_succ, List.getElem?_cons_zero]; rfl) (fun K hK => ?_) AllReadyH.nil
        go_simp
        go_at_call 35
        refine (Dots.of_any bp L av n cv _ (LV3.out.below (Below.drew (Below.refl _ _))) (by omega) OKL.out).mono ?_
        rintro e w4 ⟨rfl, k4⟩
        have k5 : Below w3.heap.size w3 w4 := (Below.drew (Below.refl _ _)).trans k4
        have S4 := Lib.hid (S3.out.trans (Save.of k5))
        have A4 := Lib.hid (A3.out.below k5)
        have R4 := Lib.hid (R3.out.below k5)
        have SJ4 := Lib.hid (SJ.out.below k5)
        have LJ4 := Lib.hid (LJ.out.below k5)
        rw [← HX.out]
        have y0 := A4.out.q0
        have y1 := A4.out.q1
        clear k4 k5
        go_wp2_with fail
        refine hK.out _ _ (⟨y0, y1⟩) (fun hHeld => ?_)
        clear hK K
        try simp only [Act.put, List.setIfInBounds_toArray, List.set_cons_zero, List.set_cons_succ]
        refine wpAnyH_take (i := 6) (v := ?_) (by simp only [List.getElem?_toArray, List.getElem?_cons_succ, List.getElem?_cons_zero]; rfl) (by kernel_rfl) (by kernel_rfl) (by kernel_rfl) (fun _ _ _ h => h) (Or.inl ⟨by rfl, ?_⟩) (by assumption) ?_
        rotate_left
        · (intro w hSw; (try dsimp only at hSw); go_simp; try with_reducible rfl)
        try simp only [Act.put, List.setIfInBounds_toArray, List.set_cons_zero, List.set_cons_succ]
        refine wpAnyH_done (by kernel_rfl) ?_ _
        refine NoPanic.normal ?_
        clear hHeld q0 q1 y0 y1
        have c0 := A4.out.c
        go_wp2_with (at_mapUpdate; refine TextRange.wpList_store Try.underlying56 Try.underlying9 rfl _ _ _ rfl mb r T.length f (fun y => lf y && !(y == q)) cnt1 q (.slice aj nj cj) rfl R4.out (by have := HP.out.small; unfold maxLen; omega) rfl HQL.out HFQ.out rfl ?_; intro w9 R9 k9)
        have IN := Lib.hid (I.out.next (w1 := w4) HR.out.1 HR.out.2.1 HR.out.2.2 HQT.out (by rw [← HL.out]; exact turned_no HJ.out.1 (by have := HJ.out.2; have := HNL.out; omega) (by rw [← HX.out]; exact HC.out)) S4.out k9 R9 (by have := SJ4.out; obtain ⟨a', c', e', z⟩ := this; rw [← HNJ.out] at e'; exact ⟨a', c', by rw [← HNJ.out]; exact e', z⟩) (iter_at R4.out).2)
        go_roundw
        case rel => exact ⟨_, _, _, _, _, _, _, _, _, _, _, _, _, _, _, _, _, _, _, _, _, _, _, _, _, _, _, _, _, _, _, _, _, _, _, _, ⟨_, _, _, _, IN⟩, rfl⟩
        case measure => rw [IN.out.rng.left_eq, I.out.rng.left_eq]; exact HCN.out
      have d1 : decide ((x : Int) ≥ (cap : Int)) = true := decide_eq_true (by omega)
      have d2 : decide ((cap : Int) ≤ (x : Int)) = true := decide_eq_true (by omega)
      have HC := Lib.hid hc
      go_wp2_with fail
      refine wp_region_noPanic ?_
      refine wp_region_held_drew (S := (fun w' => w'.cell? ⟨B, 0, none⟩ = some (.string ⟨bp.toArray⟩) ∧ w'.cell? ⟨B, 1, none⟩ = some (.int .u64 (cap : Int)))) (by kernel_rfl) (⟨q0, q1⟩) (fun hHeld => ?_)
      refine wpAnyH_take (i := 0) (v := ?_) (by simp only [List.getElem?_toArray, List.getElem?_cons_zero]; rfl) (by kernel_rfl) (by kernel_rfl) (by kernel_rfl) (fun _ _ _ h => h) (Or.inl ⟨by rfl, ?_⟩) (by assumption) ?_
      rotate_left
      · (intro w hSw; (try dsimp only at hSw); go_simp; try with_reducible rfl)
      try simp only [Act.put, List.setIfInBounds_toArray, List.set_cons_zero, List.set_cons_succ]
      refine wpAnyH_take (i := 1) (v := ?_) (by simp only [List.getElem?_toArray, List.getElem?_cons_succ, List.getElem?_cons_zero]; rfl) (by kernel_rfl) (by kernel_rfl) (by kernel_rfl) (fun _ _ _ h => h) (Or.inl ⟨by rfl, ?_⟩) (by assumption) ?_
      rotate_left
      · (intro w hSw; (try dsimp only at hSw); go_simp; try with_reducible rfl)
      try simp only [Act.put, List.setIfInBounds_toArray, List.set_cons_zero, List.set_cons_succ]
      refine wpAnyH_take (i := 2) (v := ?_) (by simp only [List.getElem?_toArray, List.getElem?_cons_succ, List.getElem?_cons_zero]; rfl) (by kernel_rfl) (by kernel_rfl) (by kernel_rfl) (fun _ _ _ h => h) (Or.inl ⟨by rfl, ?_⟩) (by assumption) ?_
      rotate_left
      · (intro w hSw; (try dsimp only at hSw); go_simp; try with_reducible rfl)
      try simp only [Act.put, List.setIfInBounds_toArray, List.set_cons_zero, List.set_cons_succ]
      refine wpAnyH_take (i := 4) (v := ?_) (by simp only [List.getElem?_toArray, List.getElem?_cons_succ, List.getElem?_cons_zero]; rfl) (by kernel_rfl) (by kernel_rfl) (by kernel_rfl) (fun _ _ _ h => h) (Or.inl ⟨by rfl, ?_⟩) (by assumption) ?_
      rotate_left
      · (intro w hSw; (try dsimp only at hSw); go_simp; try with_reducible rfl)
      try simp only [Act.put, List.setIfInBounds_toArray, List.set_cons_zero, List.set_cons_succ]
      refine wpAnyH_take (i := 5) (v := ?_) (by simp only [List.getElem?_toArray, List.getElem?_cons_succ, List.getElem?_cons_zero]; rfl) (by kernel_rfl) (by kernel_rfl) (by kernel_rfl) (fun _ _ _ h => h) (Or.inl ⟨by rfl, ?_⟩) (by assumption) ?_
      rotate_left
      · (intro w hSw; (try dsimp only at hSw); go_simp; try with_reducible rfl)
      try simp only [Act.put, List.setIfInBounds_toArray, List.set_cons_zero, List.set_cons_succ]
      refine wpAnyH_ready (rs := [3]) (by kernel_rfl) (by simp) ?_
      refine AllReadyH.cons (by simp only [List.getElem?_toArray, List.getElem?_cons_succ, List.getElem?_cons_zero]; rfl) (fun K hK => ?_) AllReadyH.nil
      go_simp
      go_at_call 35
      refine (Dots.of_any bp L av n cv _ (LV3.out.below (Below.drew (Below.refl _ _))) (by omega) OKL.out).mono ?_
      rintro e w4 ⟨rfl, k4⟩
      have k5 : Below w3.heap.size w3 w4 := (Below.drew (Below.refl _ _)).trans k4
      have S4 := Lib.hid (S3.out.trans (Save.of k5))
      have A4 := Lib.hid (A3.out.below k5)
      have R4 := Lib.hid (R3.out.below k5)
      have SJ4 := Lib.hid (SJ.out.below k5)
      have LJ4 := Lib.hid (LJ.out.below k5)
      rw [← HX.out]
      have y0 := A4.out.q0
      have y1 := A4.out.q1
      clear k4 k5
      go_wp2_with fail
      refine hK.out _ _ (⟨y0, y1⟩) (fun hHeld => ?_)
      clear hK K
      try simp only [Act.put, List.setIfInBounds_toArray, List.set_cons_zero, List.set_cons_succ]
      refine wpAnyH_take (i := 6) (v := ?_) (by simp only [List.getElem?_toArray, List.getElem?_cons_succ, List.getElem?_cons_zero]; rfl) (by kernel_rfl) (by kernel_rfl) (by kernel_rfl) (fun _ _ _ h => h) (Or.inl ⟨by rfl, ?_⟩) (by assumption) ?_
      rotate_left
      · (intro w hSw; (try dsimp only at hSw); go_simp; try with_reducible rfl)
      try simp only [Act.put, List.setIfInBounds_toArray, List.set_cons_zero, List.set_cons_succ]
      refine wpAnyH_done (by kernel_rfl) ?_ _
      refine NoPanic.normal ?_
      clear hHeld q0 q1 y0 y1
      have y1 := A4.out.q1
      have y2 := A4.out.q2
      have y3 := A4.out.q3
      go_wp2_with fail
      have km : Below w4.heap.size w4 (w4.alloc (.cells #[.string ⟨ow.toArray⟩, .int .u64 ((bs + cap : Nat) : Int)] 55)) := balloc (Below.refl _ _) _
      refine (Dots.join_any J [⟨ow, bs + cap⟩] aj _ nj 1 cj 1 _ (LJ4.out.below km) (one_mark w4 ow (bs + cap) _ rfl) (by have := HJ.out.2; have := HNJ.out; omega) (by omega)).mono ?_
      rintro e w5 ⟨v, K, rfl, hK, hKl, oK, k5⟩
      obtain ⟨ak, ck, rfl, -, -, -, -⟩ := oK.lies
      have SK := Lib.hid (slot_new (pb := pb) (A4.out.below km).lt.1 oK)
      have HK := Lib.hid (And.intro hK hKl)
      obtain ⟨nk, hnk⟩ : ∃ n, n = K.length := ⟨_, rfl⟩
      rw [← hnk]
      have HNK := Lib.hid hnk
      have S5 := Lib.hid ((S4.out.trans (Save.of km)).trans (Save.of k5))
      have A5 := Lib.hid ((A4.out.below km).below k5)
      have R5 := Lib.hid ((R4.out.below km).below k5)
      have c0 := A5.out.c
      clear hK hKl oK hnk km k5 y1 y2 y3
      go_wp2_with (at_mapUpdate; refine TextRange.wpList_store Try.underlying56 Try.underlying9 rfl _ _ _ rfl mb r T.length f (fun y => lf y && !(y == q)) cnt1 q (.slice ak nk ck) rfl R5.out (by have := HP.out.small; unfold maxLen; omega) rfl HQL.out HFQ.out rfl ?_; intro w9 R9 k9)
      have IN := Lib.hid (I.out.next (w1 := w5) HR.out.1 HR.out.2.1 HR.out.2.2 HQT.out (by rw [← HL.out]; exact turned_yes HJ.out.1 HK.out.1 (by have h1 := HK.out.2; have h2 := HJ.out.2; have h3 := HNJ.out; have h4 := HNL.out; omega) H3.out.1 H3.out.2 (by rw [← HX.out]; exact HC.out)) S5.out k9 R9 (by have := SK.out; obtain ⟨a', c', e', z⟩ := this; rw [← HNK.out] at e'; exact ⟨a', c', by rw [← HNK.out]; exact e', z⟩) (iter_at R5.out).2)
      go_roundw
      case rel => exact ⟨_, _, _, _, _, _, _, _, _, _, _, _, _, _, _, _, _, _, _, _, _, _, _, _, _, _, _, _, _, _, _, _, _, _, _, _, ⟨_, _, _, _, IN⟩, rfl⟩
      case measure => rw [IN.out.rng.left_eq, I.out.rng.left_eq]; exact HCN.out
end Peers
end Go.Proofs.Ytcbnkncgacbniaa

namespace Go.Proofs.Ytcbnkncgacbniaa
namespace RefPath
open Go.RowKit Go.Proofs.Ytcbnkncgacbniaa.Path
theorem may_any (p : List UInt8) (w : World) (hp : p.length ≤ 1099511627776) :
    Calls Try.prog 22 #[.string ⟨p.toArray⟩] w fun e w' => e = .returned (.bool (decide (parse p ≠ []))) ∧ Below w.heap.size w w' := by
  have C := Lib.hid (fun w => read_any p w hp)
  go_enter Try.func22, Try.ntmps22
  go_wp2_with fail
  refine (C.out _).mono ?_
  rintro e w1 ⟨a, n, c, b, rfl, hbv, hr, hb⟩
  have HB := Lib.hid hbv
  clear hr hbv
  go_wp2
  go_ret
  exact ⟨by rw [← HB.out]; rfl, hb⟩
end RefPath
namespace Peers
open Go.RowKit Go.Proofs.Ytcbnkncgacbniaa.Mark Go.Proofs.Ytcbnkncgacbniaa.Dots Go.Proofs.Ytcbnkncgacbniaa.PeersLaw
section
variable {A J : List M} {bp ow : List UInt8} {cap bs : Nat}
theorem turned_ok (h : Turned bp ow cap bs A J) (hA : Ok A) (ho : ow.length ≤ 8192) (hs : bs + cap ≤ 281474976710656) : Ok J := ok_of h.1 fun q => by
  have a := ofL_bound hA q
  have b := ofL_bound hA ow
  unfold turnF
  by_cases e : q = bp
  · rw [if_pos e]; exact ⟨by omega, fun h => absurd h (by omega)⟩
  · rw [if_neg e]
    by_cases e' : q = ow ∧ cap ≤ ofL A bp
    · rw [if_pos e']
      refine ⟨by omega, fun _ => ?_⟩
      rw [e'.1]; omega
    · rw [if_neg e']; exact a
theorem turned_by (h : Turned bp ow cap bs A J) : ofL J bp = 0 := by rw [h.1.2 bp]; unfold turnF; rw [if_pos rfl]
theorem turned_had (h : Turned bp ow cap bs A J) (hne : bp ≠ ow) (hc : cap ≤ ofL A bp) : ofL J ow = max (ofL A ow) (bs + cap) := by
  rw [h.1.2 ow]; unfold turnF; rw [if_neg (Ne.symm hne), if_pos ⟨rfl, hc⟩]
theorem turned_not (h : Turned bp ow cap bs A J) (hne : bp ≠ ow) (hc : ¬ cap ≤ ofL A bp) : ofL J ow = ofL A ow := by
  rw [h.1.2 ow]; unfold turnF; rw [if_neg (Ne.symm hne), if_neg (fun h => hc h.2)]
end
theorem turn_any (mt : Bool) (bp ow : List UInt8) (cap bs : Nat) (hmt : mt = true ↔ MayT bp ow cap bs) (w : World) (pb mb : Nat) (T : List (List UInt8)) (V : List UInt8 → List M) (last : List UInt8) (h : Is w pb mb T V last) (hbp : bp.length ≤ 1099511627776) (how : ow.length ≤ 1099511627776) (hcap : cap ≤ 18446744073709551615) (hbs : bs ≤ 18446744073709551615) (hok : ∀ q, Ok (V q)) (hln : ∀ q, (V q).length ≤ 1099511627775) :
    Calls Try.prog 21 #[.pointer (some ⟨pb, 0, none⟩), .agg #[.string ⟨bp.toArray⟩, .int .u64 (cap : Int), .string ⟨ow.toArray⟩, .int .u64 (bs : Int)]] w fun e w' => e = .returned (.tuple #[]) ∧ ∃ V', Is w' pb mb T V' last ∧ (mt = true → ∀ q ∈ T, Turned bp ow cap bs (V q) (V' q)) ∧ (mt = false → V' = V) ∧ Save pb mb w w' := by
  cases mt
  · refine (turn_not bp ow cap bs w pb mb T V last h hbp how hcap hbs (fun k => by have := hmt.2 k; cases this)).mono ?_
    rintro e w' ⟨he, i, k⟩
    exact ⟨he, V, i, (fun e => by cases e), fun _ => rfl, Save.of k⟩
  · refine (turn_may bp ow cap bs w pb mb T V last h hbp how hcap hbs (hmt.1 rfl) hok hln).mono ?_
    rintro e w' ⟨he, V', i, k, s⟩
    exact ⟨he, V', i, fun _ => k, (fun e => by cases e), s⟩
/-- Behind Turn: a function on T alone is asked. -/
def OnT (T : List (List UInt8)) (V : List UInt8 → List M) : List UInt8 → List M := fun q => if q ∈ T then V q else []
theorem Is.onT {w : World} {pb mb : Nat} {T : List (List UInt8)} {V : List UInt8 → List M} {last : List UInt8} (h : Is w pb mb T V last) : Is w pb mb T (OnT T V) last := ⟨h.box, by
  obtain ⟨f, hm, h1, h2⟩ := h.map
  refine ⟨f, hm, h1, fun q v e => ?_⟩
  have hq : q ∈ T := of_decide_eq_true (by rw [← h1 q, e]; rfl)
  unfold OnT
  rw [if_pos hq]
  exact h2 q v e, h.up, h.small⟩
/-- Vectors in a row. -/
abbrev Va := Option Addr × Nat × List M
def encV : Row.Enc Va := ⟨1, by decide, fun x => [.slice x.1 x.2.2.length x.2.1], fun _ => rfl, fun x v hv => by
  simp only [List.mem_cons, List.not_mem_nil, or_false] at hv
  rw [hv]; rfl⟩
theorem info_marks : (Try.prog.info? 25).map (fun i => (i.zero, i.size, i.bytes)) = some (some (.slice none 0 0), 1, 24) := by kernel_rfl
theorem typV : Row.Typ Try.prog encV 48 25 (.slice none 0 0) 24 := ⟨Try.underlying48, Row.info_of info_marks, rfl, by decide⟩
theorem vecs_at {w : World} {n : Nat} {L : List Va} {a : Option Addr} (h : Row.Lies encV w a n L) (hn : 0 < n) : ∃ b off, a = some ⟨b, off, none⟩ ∧ ∀ j (hj : j < L.length), w.cell? ⟨b, off + j, none⟩ = some (.slice L[j].1 L[j].2.2.length L[j].2.1) := by
  obtain ⟨b, off, e, hc⟩ := h.2 hn
  exact ⟨b, off, e, fun j hj => by have := hc j hj 0 _ rfl; simpa [encV] using this⟩
set_option maxRecDepth 100000 in
theorem known_own (q : List UInt8) (hq : q.length ≤ 1099511627776) (w : World) (pb mb : Nat) (T : List (List UInt8)) (V : List UInt8 → List M) (last : List UInt8) (h : Is w pb mb T V last) (hV : (val T V q).length ≤ 1099511627776) :
    Calls Try.prog 11 #[.pointer (some ⟨pb, 0, none⟩), .string ⟨q.toArray⟩] w fun e w' => ∃ v, e = .returned v ∧ Mark.Own w' w.heap.size v (val T V q) ∧ Below w.heap.size w w' := by
  obtain ⟨c0, c1, fz⟩ := h.cells
  have TH := Lib.hid (there_any w pb mb T V last h)
  obtain ⟨f, hm, -, a, c, hv, hl, -⟩ := h.look q
  have HM := Lib.hid hm
  have HV := Lib.hid hv
  have CL := Lib.hid (Mark.clone_any (val T V q) a _ c w hl hV)
  have HQ := Lib.hid hq
  clear h hm hv hl hq hV
  obtain ⟨R, hR⟩ : ∃ R, R = val T V q := ⟨_, rfl⟩
  rw [← hR] at HV CL ⊢
  clear hR
  go_enter Try.func11, Try.ntmps11
  go_wp2_with fail
  refine TH.out.mono ?_
  rintro e w1 ⟨rfl, rfl⟩
  go_wp2_with (at_lookup; refine TextMap.wpList_look und Try.underlying9 (zero_marks _) rfl _ _ rfl mb _ f q rfl HM.out rfl (by have := HQ.out; unfold maxLen; omega) _ HV.out ?_)
  go_wp2_with fail
  refine CL.out.mono ?_
  rintro e w2 ⟨v, rfl, ho, k2⟩
  go_wp2
  go_ret
  exact ⟨_, rfl, ho, k2⟩
theorem own_moved {w w' : World} {B : Nat} {v : Value} {L : List M} (h : Mark.Own w B v L) (k : ∀ (g : Nat) cur, B ≤ g → w.heap[g]? = some (Obj.cells cur 55 (0, 0)) → w'.heap[g]? = w.heap[g]?) : Mark.Own w' B v L := by
  refine ⟨h.1, ?_⟩
  rcases h.2 with h' | ⟨g, c, cur, e, hB, hg, hr⟩
  · exact .inl h'
  · exact .inr ⟨g, c, cur, e, hB, (k g cur hB hg).trans hg, hr⟩
/-- What was known: the first ones' vectors, each in a row of its own behind B. -/
def WasRow (T : List (List UInt8)) (V : List UInt8 → List M) (w : World) (B : Nat) (K : List Va) : Prop :=
  K.length ≤ T.length ∧ ∀ i (hi : i < K.length) (ht : i < T.length), K[i].2.2 = V T[i] ∧ Mark.Own w B (.slice K[i].1 K[i].2.2.length K[i].2.1) K[i].2.2
section
variable {T : List (List UInt8)} {V : List UInt8 → List M} {w w' : World} {B : Nat} {K : List Va}
theorem WasRow.nil : WasRow T V w B [] := ⟨Nat.zero_le _, fun i hi => by simp at hi⟩
theorem WasRow.below (h : WasRow T V w B K) (k : Below w.heap.size w w') : WasRow T V w' B K := ⟨h.1, fun i hi ht => ⟨(h.2 i hi ht).1, (h.2 i hi ht).2.below k⟩⟩
theorem WasRow.save (h : WasRow T V w B K) {pb mb : Nat} (k : Save pb mb w w') (hp : pb < B) (hm : ∃ es clock, w.heap[mb]? = some (Obj.map es clock)) : WasRow T V w' B K := ⟨h.1, fun i hi ht => ⟨(h.2 i hi ht).1, own_moved (h.2 i hi ht).2 fun g cur hg hh => by
  obtain ⟨es, clock, hm⟩ := hm
  exact k.block g (Array.getElem?_eq_some_iff.1 hh).1 (by omega) (fun e => by rw [e, hm] at hh; cases hh)⟩⟩
/-- The row of slices grows: the vectors stand. -/
theorem WasRow.app (h : WasRow T V w B K) {B' : Nat} {wv : Value} {K' : List Va} (o : Row.Own encV 25 w B' wv K') (k : w.grownBy w' wv.ownBlock) : WasRow T V w' B K := ⟨h.1, fun i hi ht => ⟨(h.2 i hi ht).1, own_moved (h.2 i hi ht).2 fun g cur hg hh => by
  refine k.block g (Array.getElem?_eq_some_iff.1 hh).1 (fun e => ?_)
  rcases o.2 with ⟨e', _⟩ | ⟨b, c, cur', e', _, hb, _⟩
  · rw [e'] at e; cases e
  · rw [e'] at e
    simp only [Value.ownBlock, Option.some.injEq] at e
    rw [e, hb] at hh
    simp at hh⟩⟩
theorem WasRow.snoc (h : WasRow T V w B K) (hk : K.length < T.length) {a : Option Addr} {c : Nat} {L : List M} (hL : L = V T[K.length]) (hl : Mark.Own w B (.slice a L.length c) L) : WasRow T V w B (K ++ [(a, c, L)]) := by
  refine ⟨by rw [List.length_append, List.length_singleton]; exact hk, fun i hi ht => ?_⟩
  by_cases e : i < K.length
  · rw [List.getElem_append_left e]
    exact h.2 i e ht
  · rw [List.length_append, List.length_singleton] at hi
    obtain rfl : i = K.length := by omega
    rw [List.getElem_append_right (Nat.le_refl _)]
    simp only [Nat.sub_self, List.getElem_cons_zero]
    exact ⟨hL, hl⟩
theorem WasRow.at_ (h : WasRow T V w B K) {i : Nat} (hi : i < K.length) (ht : i < T.length) : K[i].2.2 = V T[i] ∧ Mark.Lies w K[i].1 K[i].2.2.length K[i].2.2 := by
  obtain ⟨h1, h2⟩ := h.2 i hi ht
  obtain ⟨a, c, e, -, -, hl, -⟩ := h2.lies
  simp only [Value.slice.injEq] at e
  rw [e.1]
  exact ⟨h1, hl⟩
end
/-- A step of texts and a pruning. -/
def oneP (ls : Option Addr) (lc : Nat) (L : List (List UInt8)) (bp ow : List UInt8) (cap bs : Nat) : St := ⟨0, ls, lc, L, [], none, 0, [], bp, cap, ow, bs⟩
theorem heavy_turn (L : List (List UInt8)) (a s : Option Addr) (c n : Nat) (bp ow : List UInt8) (cap bs : Nat) (w : World) (hn : n = L.length) (hl : Steps w a 1 [oneP s c L bp ow cap bs]) (hw : Words.Lies w s n L) (hz : ∀ x ∈ L, x.length ≤ 140737488351232) (hbp : bp.length ≤ 140737488351232) (how : ow.length ≤ 140737488351232) (hcap : cap ≤ 18446744073709551615) (hbs : bs ≤ 18446744073709551615) :
    Calls Try.prog 7 #[.slice a 1 1] w fun e w' => ∃ r, e = .returned (.bool r) ∧ (r = false → (L.length ≤ 30 ∧ ∀ x ∈ L, x.length ≤ 8192) ∧ bp.length ≤ 8192 ∧ ow.length ≤ 8192) ∧ Below w.heap.size w w' := by
  subst hn
  refine (heavy_any [oneP s c L bp ow cap bs] a 1 w hl (fun x hx => ?_) (fun x hx => ?_)).mono ?_
  · obtain rfl := List.mem_singleton.1 hx
    exact ⟨hw, Mark.Lies.nil _ _⟩
  · obtain rfl := List.mem_singleton.1 hx
    exact ⟨by show ([] : List UInt8).length ≤ _; simp, hbp, how, hz, (fun m hm => by cases hm), hcap, hbs⟩
  · rintro e w' ⟨r, he, hr, k⟩
    refine ⟨r, he, fun h => ?_, k⟩
    have := (hr h).2 _ List.mem_cons_self
    exact ⟨⟨this.1, this.2.2.2.2.2.1⟩, this.2.2.2.1, this.2.2.2.2.1⟩
end Peers
namespace PeersLaw
open Go.RowKit Go.Proofs.Ytcbnkncgacbniaa.Mark Go.Proofs.Ytcbnkncgacbniaa.Peers
variable {H : Type} {enc' : TypeId × Value → H} {w : World} {base b0 : Nat} {spare : Nat → Bool} {held : Bool} {r : Reach} {v : Value} {d : DataW H} {ps : List MemPlace} {ts : List TypeId} {ds : List (DataW H)} {j : Nat}
set_option maxRecDepth 100000 in
theorem open_pruned (hz : (DataW.weightsEach Try.prog ts ds).all (· ≤ reachBytes) = true) (ht : ts[j]? = some 28) (hd : ds[j]? = some d) (hv : Value.okWide Try.prog w r b0 28 v) (h : DataW.Trod enc' Try.prog w base spare held 28 v d ps) :
    ∃ (bp ow : List UInt8) (cap bs : Nat), v = .agg #[.string ⟨bp.toArray⟩, .int .u64 (cap : Int), .string ⟨ow.toArray⟩, .int .u64 (bs : Int)] ∧ (cap ≤ 18446744073709551615 ∧ bs ≤ 18446744073709551615) ∧ bp.length ≤ 140737488351232 ∧ ow.length ≤ 140737488351232 := by
  obtain ⟨cs, rfl, h4⟩ := open_struct hz ht hd Try.underlying28 hv h
  have hl := (Tr.struct Try.underlying28 h4).1.trans k_prn
  have p0 := Tr.field Try.underlying28 h4 0 _ rfl rfl rfl k_str
  have p1 := Tr.field Try.underlying28 h4 1 _ rfl rfl rfl k_u64
  have p2 := Tr.field Try.underlying28 h4 2 _ rfl rfl rfl k_str
  have p3 := Tr.field Try.underlying28 h4 3 _ rfl rfl rfl k_u64
  obtain ⟨l⟩ := cs
  simp only at hl p0 p1 p2 p3
  match l, hl with
  | [x4, x5, x6, x7], _ =>
    obtain ⟨bp, e4, z4⟩ := Tr.str Try.underlying9 p0
    obtain ⟨cap, e5, z5⟩ := Tr.int Try.underlying26 p1
    obtain ⟨ow, e6, z6⟩ := Tr.str Try.underlying9 p2
    obtain ⟨bs, e7, z7⟩ := Tr.int Try.underlying26 p3
    obtain rfl : x4 = _ := List.head_eq_of_cons_eq e4
    obtain rfl : x5 = _ := List.head_eq_of_cons_eq e5
    obtain rfl : x6 = _ := List.head_eq_of_cons_eq e6
    obtain rfl : x7 = _ := List.head_eq_of_cons_eq e7
    obtain ⟨c0, c1⟩ := bounds_u64 z5
    obtain ⟨b0, b1⟩ := bounds_u64 z7
    obtain ⟨cap, rfl⟩ := Int.eq_ofNat_of_zero_le c0
    obtain ⟨bs, rfl⟩ := Int.eq_ofNat_of_zero_le b0
    exact ⟨bp, ow, cap, bs, rfl, ⟨by omega, by omega⟩, z4, z6⟩
end PeersLaw
end Go.Proofs.Ytcbnkncgacbniaa

namespace Go.Proofs.Ytcbnkncgacbniaa
namespace PeersTurn
open Go.RowKit Go.Proofs.Ytcbnkncgacbniaa.Mark Go.Proofs.Ytcbnkncgacbniaa.Dots Go.Proofs.Ytcbnkncgacbniaa.Peers Go.Proofs.Ytcbnkncgacbniaa.PeersLaw
theorem mt_no {mt : Bool} {Q : Prop} (h : mt = true ↔ Q) (k : ¬ Q) : mt = false := by
  cases mt
  · rfl
  · exact absurd (h.1 rfl) k
theorem path_len {l : List Nat} : decide (l ≠ []) = decide (0 < l.length) := by
  cases l <;> simp

set_option maxRecDepth 100000 in
set_option maxHeartbeats 40000000 in
theorem walk (a0 : List (List UInt8)) (s0 : Option Addr) (c0 : Nat) (a1 : List Peers.St) (s1 : Option Addr) (c1 : Nat) (bp ow : List UInt8) (cap bs : Nat) (u : World) (w0 : ∀ x ∈ a0, x.length ≤ 140737488351232) (l0 : Words.Lies u s0 a0.length a0) (_ : a0.length ≤ 140737488351232) (w1 : ∀ x ∈ a1, x.Sized ∧ x.Deep u) (l1 : Peers.Steps u s1 a1.length a1) (_ : a1.length ≤ 140737488351232) (zow : ow.length ≤ 140737488351232) (zbp : bp.length ≤ 140737488351232) (zn : cap ≤ 18446744073709551615 ∧ bs ≤ 18446744073709551615) :
    Calls Try.prog 5 #[.slice s0 a0.length c0, .slice s1 a1.length c1, .agg #[.string ⟨bp.toArray⟩, .int .u64 (cap : Int), .string ⟨ow.toArray⟩, .int .u64 (bs : Int)]] u fun e w' => e = .returned (.bool true) ∧ Below u.heap.size u w' := by
  obtain ⟨B, hB⟩ : ∃ B, B = u.heap.size := ⟨_, rfl⟩
  have hbn : Below u.heap.size u (u.alloc (.cells #[.string ⟨bp.toArray⟩, .int .u64 (cap : Int), .string ⟨ow.toArray⟩, .int .u64 (bs : Int)] 28)) := balloc (Below.refl _ _) _
  have AT0 : (u.alloc (.cells #[.string ⟨bp.toArray⟩, .int .u64 (cap : Int), .string ⟨ow.toArray⟩, .int .u64 (bs : Int)] 28)).heap[B]? = some (Obj.cells #[.string ⟨bp.toArray⟩, .int .u64 (cap : Int), .string ⟨ow.toArray⟩, .int .u64 (bs : Int)] 28 (0, 0)) := by rw [hB]; exact World.alloc_heap_new u _
  obtain ⟨w, hw⟩ : ∃ w, w = u.alloc (.cells #[.string ⟨bp.toArray⟩, .int .u64 (cap : Int), .string ⟨ow.toArray⟩, .int .u64 (bs : Int)] 28) := ⟨_, rfl⟩
  rw [← hw] at AT0 hbn
  have HW := Lib.hid hw
  have HBE := Lib.hid hB
  have HU := Lib.hid hbn
  have Q0 : Hid (w.cell? ⟨B, 0, none⟩ = some (.string ⟨bp.toArray⟩)) := Lib.hid (Lib.cell_of_heap AT0 0)
  have Q1 : Hid (w.cell? ⟨B, 1, none⟩ = some (.int .u64 (cap : Int))) := Lib.hid (Lib.cell_of_heap AT0 1)
  have Q2 : Hid (w.cell? ⟨B, 2, none⟩ = some (.string ⟨ow.toArray⟩)) := Lib.hid (Lib.cell_of_heap AT0 2)
  have Q3 : Hid (w.cell? ⟨B, 3, none⟩ = some (.int .u64 (bs : Int))) := Lib.hid (Lib.cell_of_heap AT0 3)
  have BL : Hid (B < w.heap.size) := Lib.hid ((Array.getElem?_eq_some_iff.1 AT0).1)
  replace l0 := l0.below hbn
  replace l1 := l1.below hbn
  replace w1 : ∀ x ∈ a1, x.Sized ∧ x.Deep w := fun x hx => ⟨(w1 x hx).1, (w1 x hx).2.below hbn⟩
  have hb := Below.refl w.heap.size w
  have HH := Lib.hid (heavy_any a1 s1 c1 w l1 (fun x hx => (w1 x hx).2) (fun x hx => (w1 x hx).1))
  obtain ⟨n0, hn0⟩ : ∃ n, n = a0.length := ⟨_, rfl⟩
  obtain ⟨n1, hn1⟩ : ∃ n, n = a1.length := ⟨_, rfl⟩
  rw [← hn0] at l0 ⊢
  rw [← hn1] at l1 HH ⊢
  have HN := Lib.hid (And.intro hn0 hn1)
  have W0 := Lib.hid w0
  have W1 := Lib.hid w1
  have ZZ := Lib.hid (And.intro zbp (And.intro zow zn))
  replace l0 := Lib.hid l0
  replace l1 := Lib.hid l1
  clear w0 w1 hn0 hn1 zow zbp zn hbn AT0 hw hB
  go_enter Try.func5, Try.ntmps5
  go_wp2_with fail
  rw [← HW.out, ← HBE.out]
  refine HH.out.mono ?_
  rintro e v1 ⟨r1, rfl, hr1, k1⟩
  replace hb := bstep hb k1
  have HR1 := Lib.hid hr1
  clear k1 hr1
  cases r1
  rotate_left
  · go_wp2_with fail
    refine (works_any _).mono ?_
    rintro e v2 ⟨rfl, k2⟩
    replace hb := bstep hb k2
    go_wp2
    go_ret
    exact ⟨rfl, HU.out.trans (hb.mono HU.out.size)⟩
  have q0 := Dots.keepC Q0.out hb
  have q1 := Dots.keepC Q1.out hb
  have q2 := Dots.keepC Q2.out hb
  have q3 := Dots.keepC Q3.out hb
  have LT := Lib.hid (HR1.out rfl)
  clear HR1
  go_wp2_with fail
  have L0 : Peers.Steps (v1.alloc (.cells #[.int .i64 0, .slice s0 n0 c0, .string ⟨#[]⟩, .slice none 0 0, .string ⟨bp.toArray⟩, .int .u64 (cap : Int), .string ⟨ow.toArray⟩, .int .u64 (bs : Int)] 30)) (some ⟨v1.heap.size, 0, none⟩) 1 [oneP s0 c0 a0 bp ow cap bs] := by
    have := Row.lies_new (E := Peers.encS) v1 (oneP s0 c0 a0 bp ow cap bs) 30
    unfold oneP Peers.encS St.cells at this
    simp only [← HN.out.1] at this
    exact this
  clear q0 q1 q2 q3
  replace hb := bstep hb (balloc (Below.refl _ _) (.cells #[.int .i64 0, .slice s0 n0 c0, .string ⟨#[]⟩, .slice none 0 0, .string ⟨bp.toArray⟩, .int .u64 (cap : Int), .string ⟨ow.toArray⟩, .int .u64 (bs : Int)] 30))
  refine (heavy_turn a0 _ s0 c0 n0 bp ow cap bs _ HN.out.1 L0 (l0.out.below hb) W0.out ZZ.out.1 ZZ.out.2.1 ZZ.out.2.2.1 ZZ.out.2.2.2).mono ?_
  rintro e v2 ⟨r2, rfl, hr2, k2⟩
  replace hb := bstep hb k2
  have HR2 := Lib.hid hr2
  clear k2 hr2 L0
  cases r2
  rotate_left
  · go_wp2_with fail
    refine (works_any _).mono ?_
    rintro e v2 ⟨rfl, k2⟩
    replace hb := bstep hb k2
    go_wp2
    go_ret
    exact ⟨rfl, HU.out.trans (hb.mono HU.out.size)⟩
  have LM := Lib.hid (HR2.out rfl).1
  have LZ := Lib.hid (HR2.out rfl).2
  clear HR2
  go_wp2_with fail
  refine (new_any _).mono ?_
  rintro e v3 ⟨pb, mb, rfl, i3, hp, hm, k3⟩
  have HP : Hid (w.heap.size ≤ pb ∧ w.heap.size ≤ mb) := Lib.hid ⟨Nat.le_trans hb.size hp, Nat.le_trans hb.size hm⟩
  replace hb := bstep hb k3
  have I := Lib.hid i3
  clear i3 hp hm k3
  go_wp2_with (at_builtin; refine Row.wpList_app Words.typ rfl _ _ rfl v3.heap.size _ [] rfl (Row.Own.nil _ _) s0 n0 c0 a0 rfl (l0.out.below hb) (by have := LM.out.1; have := HN.out; simp only [List.length_nil]; omega) (Nat.le_refl _) ?_; intro v4 w4 o4 _ k4)
  rw [List.nil_append] at o4
  obtain ⟨sa, ca, rfl, -, -, la, -⟩ := Row.Own.lies o4
  replace hb := bstep hb k4
  replace I := Lib.hid (I.out.below k4)
  replace la := Lib.hid la
  clear o4 k4
  obtain ⟨T, hT⟩ : ∃ T, T = sortU a0 := ⟨_, rfl⟩
  have HT := Lib.hid hT
  have HTL : Hid (T.length ≤ 30) := Lib.hid (by rw [hT]; exact Nat.le_trans (sortU_len a0) LM.out.1)
  have HTS : Hid (∀ q ∈ T, q.length ≤ 8192) := Lib.hid (fun q hq => LM.out.2 q ((mem_sortU a0 q).1 (by rw [← hT]; exact hq)))
  clear hT
  go_wp2_with fail
  refine (set_any a0 sa ca _ pb mb [] _ [] I.out la.out (fun q hq => by have := LM.out.2 q hq; omega) (by have := LM.out.1; omega)).mono ?_
  rintro e v5 ⟨rfl, g, i5, hg, k5⟩
  rw [val_nil, ← HT.out] at i5
  have HG : Hid (w.heap.size ≤ pb ∧ w.heap.size ≤ g) := Lib.hid ⟨HP.out.1, Nat.le_trans hb.size hg⟩
  replace hb := stepS hb k5 HP.out (Nat.le_refl _)
  replace I := Lib.hid i5
  clear i5 hg k5 la
  go_wp2_with fail
  go_loopw [8] (fun iv wr => ∃ (k : Nat) (V : List UInt8 → List M), k ≤ n1 ∧ iv = .int .i64 k ∧ Hid (Is wr pb g T V []) ∧ Hid (VOK V (30 * k)) ∧ Below w.heap.size w wr) (fun iv _ => n1 - (intOf iv).toNat)
  case atStart => exact ⟨0, _, by omega, rfl, I, Lib.hid (vok_nil _), hb⟩
  case round =>
    clear hb I
    obtain ⟨k, V, hk, rfl, I, HV, hb⟩ := hrel
    have hn1 : n1 ≤ 200 := by have := LT.out.1; have := HN.out; omega
    by_cases hlt : k < n1
    · have hll : k < a1.length := by have := HN.out; omega
      obtain ⟨b, o, rfl, hcell⟩ := steps_at l1.out (by omega)
      obtain ⟨x1, x2, x3, x4, x6⟩ := hcell k hll
      have hmem := List.getElem_mem hll
      have hdk := (W1.out _ hmem).2
      obtain ⟨okA, lenA, lenP⟩ := light_ok (LT.out.2 _ hmem) (W1.out _ hmem).1
      have hbl := World.block_lt_of_cell? _ _ x2
      obtain ⟨x, hx⟩ : ∃ x, x = a1[k] := ⟨_, rfl⟩
      rw [← hx] at x2 x3 hdk okA lenA lenP
      clear hx hmem hcell x1 x4 x6 hll
      obtain ⟨d, ls, lc, L, pe, ms, mc, A, bp, cap, ow, bs⟩ := x
      obtain ⟨dL, dA⟩ := hdk
      simp only at x2 x3 dA okA lenA lenP hbl
      have dA := Lib.hid dA
      have OK := Lib.hid (And.intro okA (And.intro lenA lenP))
      have HK := Lib.hid hlt
      have HBL : Hid (b < w.heap.size) := Lib.hid hbl
      obtain ⟨na, hna⟩ : ∃ n, n = A.length := ⟨_, rfl⟩
      rw [← hna] at x3 dA
      have HNA := Lib.hid hna
      have y2 := Dots.keepC x2 hb
      have y3 := Dots.keepC x3 hb
      have d1 : decide ((k : Int) < (n1 : Int)) = true := decide_eq_true (by omega)
      have j1 : (0 : Int) ≤ (k : Int) := by omega
      have j2 : (k : Int) < (n1 : Int) := by omega
      clear dL okA lenA lenP hlt x2 x3 hbl hna
      have HB6 := Lib.hid hb
      have hpb : b ≠ pb := by have := HBL.out; have := HG.out; omega
      have hpg : b ≠ g := by have := HBL.out; have := HG.out; omega
      go_wp2_with fail
      refine wp_region_noPanic ?_
      refine wp_region_held_drew (S := (fun w' => w'.cell? ⟨b, o + k * 8 + 2, none⟩ = some (.string ⟨pe.toArray⟩) ∧ w'.cell? ⟨b, o + k * 8 + 3, none⟩ = some (.slice ms na mc))) (by kernel_rfl) (⟨y2, y3⟩) (fun hHeld => ?_)
      refine wpAnyH_take (i := 0) (v := ?_) (by simp only [List.getElem?_toArray, List.getElem?_cons_zero]; rfl) (by kernel_rfl) (by kernel_rfl) (by kernel_rfl) (fun _ _ _ h => h) (Or.inl ⟨by rfl, ?_⟩) (by assumption) ?_
      rotate_left
      · (intro w hSw; (try dsimp only at hSw); go_simp; try with_reducible rfl)
      try simp only [Act.put, List.setIfInBounds_toArray, List.set_cons_zero, List.set_cons_succ]
      refine wpAnyH_take (i := 1) (v := ?_) (by simp only [List.getElem?_toArray, List.getElem?_cons_succ, List.getElem?_cons_zero]; rfl) (by kernel_rfl) (by kernel_rfl) (by kernel_rfl) (fun _ _ _ h => h) (Or.inl ⟨by rfl, ?_⟩) (by assumption) ?_
      rotate_left
      · (intro w hSw; (try dsimp only at hSw); go_simp; try with_reducible rfl)
      try simp only [Act.put, List.setIfInBounds_toArray, List.set_cons_zero, List.set_cons_succ]
      refine wpAnyH_take (i := 2) (v := ?_) (by simp only [List.getElem?_toArray, List.getElem?_cons_succ, List.getElem?_cons_zero]; rfl) (by kernel_rfl) (by kernel_rfl) (by kernel_rfl) (fun _ _ _ h => h) (Or.inl ⟨by rfl, ?_⟩) (by assumption) ?_
      rotate_left
      · (intro w hSw; (try dsimp only at hSw); go_simp; try with_reducible rfl)
      try simp only [Act.put, List.setIfInBounds_toArray, List.set_cons_zero, List.set_cons_succ]
      refine wpAnyH_take (i := 3) (v := ?_) (by simp only [List.getElem?_toArray, List.getElem?_cons_succ, List.getElem?_cons_zero]; rfl) (by kernel_rfl) (by kernel_rfl) (by kernel_rfl) (fun _ _ _ h => h) (Or.inl ⟨by rfl, ?_⟩) (by assumption) ?_
      rotate_left
      · (intro w hSw; (try dsimp only at hSw); go_simp; try with_reducible rfl)
      try simp only [Act.put, List.setIfInBounds_toArray, List.set_cons_zero, List.set_cons_succ]
      refine wpAnyH_take (i := 4) (v := ?_) (by simp only [List.getElem?_toArray, List.getElem?_cons_succ, List.getElem?_cons_zero]; rfl) (by kernel_rfl) (by kernel_rfl) (by kernel_rfl) (fun _ _ _ h => h) (Or.inl ⟨by rfl, ?_⟩) (by assumption) ?_
      rotate_left
      · (intro w hSw; (try dsimp only at hSw); go_simp; try with_reducible rfl)
      try simp only [Act.put, List.setIfInBounds_toArray, List.set_cons_zero, List.set_cons_succ]
      refine wpAnyH_take (i := 5) (v := ?_) (by simp only [List.getElem?_toArray, List.getElem?_cons_succ, List.getElem?_cons_zero]; rfl) (by kernel_rfl) (by kernel_rfl) (by kernel_rfl) (fun _ _ _ h => h) (Or.inl ⟨by rfl, ?_⟩) (by assumption) ?_
      rotate_left
      · (intro w hSw; (try dsimp only at hSw); go_simp; try with_reducible rfl)
      try simp only [Act.put, List.setIfInBounds_toArray, List.set_cons_zero, List.set_cons_succ]
      refine wpAnyH_take (i := 6) (v := ?_) (by simp only [List.getElem?_toArray, List.getElem?_cons_succ, List.getElem?_cons_zero]; rfl) (by kernel_rfl) (by kernel_rfl) (by kernel_rfl) (fun _ _ _ h => h) (Or.inl ⟨by rfl, ?_⟩) (by assumption) ?_
      rotate_left
      · (intro w hSw; (try dsimp only at hSw); go_simp; try with_reducible rfl)
      try simp only [Act.put, List.setIfInBounds_toArray, List.set_cons_zero, List.set_cons_succ]
      refine wpAnyH_take (i := 7) (v := ?_) (by simp only [List.getElem?_toArray, List.getElem?_cons_succ, List.getElem?_cons_zero]; rfl) (by kernel_rfl) (by kernel_rfl) (by kernel_rfl) (fun _ _ _ h => h) (Or.inl ⟨by rfl, ?_⟩) (by assumption) ?_
      rotate_left
      · (intro w hSw; (try dsimp only at hSw); go_simp; try with_reducible rfl)
      try simp only [Act.put, List.setIfInBounds_toArray, List.set_cons_zero, List.set_cons_succ]
      refine wpAnyH_take (i := 8) (v := ?_) (by simp only [List.getElem?_toArray, List.getElem?_cons_succ, List.getElem?_cons_zero]; rfl) (by kernel_rfl) (by kernel_rfl) (by kernel_rfl) (fun _ _ _ h => h) (Or.inl ⟨by rfl, ?_⟩) (by assumption) ?_
      rotate_left
      · (intro w hSw; (try dsimp only at hSw); go_simp; try with_reducible rfl)
      try simp only [Act.put, List.setIfInBounds_toArray, List.set_cons_zero, List.set_cons_succ]
      refine wpAnyH_take (i := 9) (v := ?_) (by simp only [List.getElem?_toArray, List.getElem?_cons_succ, List.getElem?_cons_zero]; rfl) (by kernel_rfl) (by kernel_rfl) (by kernel_rfl) (fun _ _ _ h => h) (Or.inl ⟨by rfl, ?_⟩) (by assumption) ?_
      rotate_left
      · (intro w hSw; (try dsimp only at hSw); go_simp; try with_reducible rfl)
      try simp only [Act.put, List.setIfInBounds_toArray, List.set_cons_zero, List.set_cons_succ]
      refine wpAnyH_take (i := 10) (v := ?_) (by simp only [List.getElem?_toArray, List.getElem?_cons_succ, List.getElem?_cons_zero]; rfl) (by kernel_rfl) (by kernel_rfl) (by kernel_rfl) (fun _ _ _ h => h) (Or.inl ⟨by rfl, ?_⟩) (by assumption) ?_
      rotate_left
      · (intro w hSw; (try dsimp only at hSw); go_simp; try with_reducible rfl)
      try simp only [Act.put, List.setIfInBounds_toArray, List.set_cons_zero, List.set_cons_succ]
      refine wpAnyH_ready (rs := [11]) (by kernel_rfl) (by simp) ?_
      refine AllReadyH.cons (by simp only [List.getElem?_toArray, List.getElem?_cons_succ, List.getElem?_cons_zero]; rfl) (fun K hK => ?_) AllReadyH.nil
      go_simp
      go_at_call 13
      refine (copied_any A ms na mc _ ((dA.out.below HB6.out).below (Below.drew (Below.refl _ _))) (by have := OK.out.2.1; have := HNA.out; omega)).mono ?_
      rintro e v7 ⟨z2, q2, rfl, t2, -, k7⟩
      have k8 : Below wr.heap.size wr v7 := (Below.drew (Below.refl _ _)).trans k7
      have I7 := Lib.hid (I.out.below k8)
      have B7 := Lib.hid (bstep HB6.out k8)
      have T2 := Lib.hid t2
      have y4 := Dots.keepC y2 k8
      have y5 := Dots.keepC y3 k8
      clear k7 k8 t2
      go_wp2_with fail
      refine hK.out _ _ (⟨y4, y5⟩) (fun hHeld => ?_)
      clear hK K
      try simp only [Act.put, List.setIfInBounds_toArray, List.set_cons_zero, List.set_cons_succ]
      refine wpAnyH_ready (rs := [12]) (by kernel_rfl) (by simp) ?_
      refine AllReadyH.cons (by simp only [List.getElem?_toArray, List.getElem?_cons_succ, List.getElem?_cons_zero]; rfl) (fun K hK => ?_) AllReadyH.nil
      go_simp
      go_at_call 12
      refine (learn_any pe A z2 q2 _ pb g T V [] I7.out T2.out OK.out.1 (by have := OK.out.2.2; omega) (by have := OK.out.2.1; omega) (by have := ((HV.out.val T) pe).2.2; omega)).mono ?_
      rintro e v8 ⟨r, V', rfl, hL, i8, k8⟩
      have I8 := Lib.hid i8
      have HL := Lib.hid hL
      have SV := Lib.hid k8
      have y6 := (k8.cell (p := ⟨b, o + k * 8 + 2, none⟩) (World.block_lt_of_cell? _ _ y4) hpb hpg).trans y4
      have y7 := (k8.cell (p := ⟨b, o + k * 8 + 3, none⟩) (World.block_lt_of_cell? _ _ y5) hpb hpg).trans y5
      clear i8 hL k8
      go_wp2_with fail
      refine hK.out _ _ (⟨y6, y7⟩) (fun hHeld => ?_)
      clear hK K
      try simp only [Act.put, List.setIfInBounds_toArray, List.set_cons_zero, List.set_cons_succ]
      refine wpAnyH_done (by kernel_rfl) ?_ _
      refine NoPanic.normal ?_
      clear hHeld y2 y3 y4 y5 y6 y7 hb
      have hb := stepS B7.out SV.out HG.out (Nat.le_refl _)
      have HV' := Lib.hid (learnt_ok HL.out HV.out OK.out.1 OK.out.2.1)
      go_wp2_with fail
      go_roundw
      case rel => exact ⟨k + 1, V', by have := HK.out; omega, by go_num, I8, Lib.hid (by have := HV'.out; rw [show 30 * (k + 1) = 30 * k + 30 by omega]; exact this), hb⟩
      case measure => have := HK.out; simp [intOf]; omega
    · obtain rfl : n1 = k := by omega
      have d1 : decide ((n1 : Int) < (n1 : Int)) = false := decide_eq_false (by omega)
      replace HV := Lib.hid (HV.out.mono (show 30 * n1 ≤ 6000 by omega))
      clear hlt hk
      go_wp2_with fail
      refine (all_any _ pb g T V [] I.out).mono ?_
      rintro e v9 ⟨v, rfl, o9, k9⟩
      obtain ⟨al, cl, rfl, -, -, ll, hal, -⟩ := o9.lies'
      obtain ⟨n, hn⟩ : ∃ n, n = T.length := ⟨_, rfl⟩
      rw [← hn] at ll ⊢
      have HNT := Lib.hid hn
      have hn30 : n ≤ 30 := by rw [hn]; exact HTL.out
      have HAL : Hid (∀ x, al = some x → x.block ≠ pb ∧ x.block ≠ g) := Lib.hid (fun x e => by have := hal x e; have := I.out.lt; omega)
      have LL := Lib.hid ll
      replace I := Lib.hid (I.out.below k9)
      replace hb := bstep hb k9
      have HPG : Hid (pb < v9.heap.size ∧ g < v9.heap.size) := Lib.hid I.out.lt
      clear o9 ll hal hn k9
      go_wp2_with fail
      go_loopw [10, 11] (fun wv iv wr => ∃ K : List Va, K.length ≤ n ∧ iv = .int .i64 (K.length : Int) ∧ Hid (Row.Own encV 25 wr v9.heap.size wv K) ∧ Hid (WasRow T V wr v9.heap.size K) ∧ Below v9.heap.size v9 wr) (fun _ iv _ => n - (intOf iv).toNat)
      case atStart => exact ⟨[], by simp, rfl, Lib.hid (Row.Own.nil _ _), Lib.hid WasRow.nil, Below.refl _ _⟩
      case round =>
        obtain ⟨K, hK, rfl, oK, WK, k2⟩ := hrel
        obtain ⟨j, hj⟩ : ∃ j, j = K.length := ⟨_, rfl⟩
        rw [← hj] at hK ⊢
        have HJ := Lib.hid hj
        obtain ⟨aw, cw, rfl, -, -, lw, haw⟩ := Row.Own.lies oK.out
        rw [← hj] at oK lw ⊢
        clear hj
        by_cases hjn : j < n
        · have d2 : decide ((j : Int) < (n : Int)) = true := decide_eq_true (by omega)
          have j1 : (0 : Int) ≤ (j : Int) := by omega
          have j2 : (j : Int) < (n : Int) := by omega
          have hjT : j < T.length := by rw [← HNT.out]; exact hjn
          obtain ⟨bl, ol, rfl, hcell⟩ := Words.words_at LL.out (by omega)
          have hc := hcell j hjT
          obtain ⟨x, hx⟩ : ∃ x, x = T[j] := ⟨_, rfl⟩
          have hxm : x ∈ T := by rw [hx]; exact List.getElem_mem hjT
          rw [← hx] at hc
          have hc2 := Dots.keepC hc k2
          have HXL : Hid (x.length ≤ 8192) := Lib.hid (HTS.out x hxm)
          have HX : Hid (val T V x = V x) := Lib.hid (by unfold Peers.val; rw [if_pos hxm])
          have HXT : Hid (K.length < T.length ∧ ∀ h : K.length < T.length, x = T[K.length]) := Lib.hid (by rw [← HJ.out]; exact ⟨hjT, fun _ => hx⟩)
          have I2 := Lib.hid (I.out.below k2)
          have HK2 := Lib.hid hjn
          clear hc hcell hx hjT hjn hK lw haw hxm
          go_wp2_with fail
          refine (known_own x (by have := HXL.out; omega) _ pb g T V [] I2.out (by rw [HX.out]; have := (HV.out x).2.2; omega)).mono ?_
          rintro e v10 ⟨v, rfl, ho, k10⟩
          rw [HX.out] at ho
          obtain ⟨z, q, rfl, -, -, -, -⟩ := ho.lies
          have k3 := bstep k2 k10
          have W3 := Lib.hid ((WK.out.below k10).snoc (c := q) HXT.out.1 (congrArg V (HXT.out.2 HXT.out.1)) (ho.base k2.size))
          have o3 := Lib.hid (oK.out.below k10)
          clear k10 hc2 ho I2
          go_wp2_with (at_builtin; refine Row.wpList_app typV rfl _ _ rfl v9.heap.size _ _ rfl (o3.out.alloc _) _ 1 1 [(z, q, V x)] rfl (Row.lies_new' _ (z, q, V x) _ rfl) (by have := HJ.out; omega) (by have := k3.size; simp only [World.size_alloc]; omega) ?_; intro v11 w11 o11 g11 k11)
          have kA : Below v10.heap.size v10 (v10.alloc (.cells #[.slice z (V x).length q] 25)) := balloc (Below.refl _ _) _
          have W4 := Lib.hid ((W3.out.below kA).app (o3.out.alloc _) g11)
          have k4 := k3.trans (kA.mono k3.size |>.trans k11)
          go_roundw
          case rel => exact ⟨K ++ [(z, q, V x)], by rw [List.length_append, List.length_singleton, ← HJ.out]; have := HK2.out; omega, by rw [List.length_append, List.length_singleton, ← HJ.out]; go_num, Lib.hid o11, W4, k4⟩
          case measure => have := HK2.out; simp [intOf]; omega
        · obtain rfl : n = j := by omega
          have d2 : decide ((n : Int) < (n : Int)) = false := decide_eq_false (by omega)
          obtain ⟨mt, hmt⟩ : ∃ mt : Bool, mt = true ↔ MayT bp ow cap bs := by
            by_cases h : MayT bp ow cap bs
            · exact ⟨true, by simp [h]⟩
            · exact ⟨false, by simp [h]⟩
          have HMT := Lib.hid hmt
          replace I := Lib.hid (I.out.below k2)
          replace LL := Lib.hid (LL.out.below k2)
          replace hb := bstep hb k2
          have LW := Lib.hid lw
          have HAW : Hid (∀ x, aw = some x → x.block ≠ pb ∧ x.block ≠ g) := Lib.hid (fun x e => by have := haw x e; have := HPG.out; omega)
          clear hjn hK lw haw k2 hmt oK
          have q0 := Dots.keepC Q0.out hb
          have q1 := Dots.keepC Q1.out hb
          have q2 := Dots.keepC Q2.out hb
          have q3 := Dots.keepC Q3.out hb
          go_wp2_with fail
          refine (turn_any mt bp ow cap bs HMT.out _ pb g T V [] I.out (by have := LZ.out.1; omega) (by have := LZ.out.2; omega) ZZ.out.2.2.1 ZZ.out.2.2.2 (fun q => (HV.out q).2.1) (fun q => by have := (HV.out q).2.2; omega)).mono ?_
          rintro e v12 ⟨rfl, V', i12, hy, hn, k12⟩
          have HY := Lib.hid hy
          have HNV := Lib.hid hn
          replace LL := Lib.hid (Row.Lies.save LL.out k12 HAL.out)
          replace LW := Lib.hid (Row.Lies.save LW.out k12 HAW.out)
          replace WK := Lib.hid (WK.out.save k12 HPG.out.1 (by obtain ⟨f, hm, _⟩ := I.out.map; exact hm.isMap))
          replace hb := stepS hb k12 HG.out (Nat.le_refl _)
          replace I := Lib.hid i12
          have HB12 := Lib.hid hb
          clear i12 hy hn k12 q0 q1 q2 q3
          have P0 := Lib.hid (Dots.keepC Q0.out hb)
          have P1 := Lib.hid (Dots.keepC Q1.out hb)
          have P2 := Lib.hid (Dots.keepC Q2.out hb)
          have P3 := Lib.hid (Dots.keepC Q3.out hb)
          replace hb := Below.refl v12.heap.size v12
          go_upto_region 16 with fail
          go_cut [12] (fun mv wx => mv = .bool mt ∧ Below v12.heap.size v12 wx)
          case first =>
            have q0 := Dots.keepC P0.out hb
            have q1 := Dots.keepC P1.out hb
            have q2 := Dots.keepC P2.out hb
            have q3 := Dots.keepC P3.out hb
            by_cases h1 : 0 < (Path.parse bp).length
            rotate_left
            · have H1 := Lib.hid (decide_eq_false h1)
              have HM := Lib.hid (mt_no HMT.out (fun k => h1 k.1))
              clear h1
              go_wp2_with fail
              refine (RefPath.may_any bp _ (by have := LZ.out.1; omega)).mono ?_
              rintro e v21 ⟨rfl, k21⟩
              replace q0 := (Dots.keepC q0 k21)
              replace q1 := (Dots.keepC q1 k21)
              replace q2 := (Dots.keepC q2 k21)
              replace q3 := (Dots.keepC q3 k21)
              replace hb := bstep hb k21
              clear k21
              rw [path_len, H1.out]
              go_wp2_with fail
              go_meet
              exact ⟨(by rw [HM.out]), hb⟩
            have H1 := Lib.hid (decide_eq_true h1)
            go_wp2_with fail
            refine (RefPath.may_any bp _ (by have := LZ.out.1; omega)).mono ?_
            rintro e v22 ⟨rfl, k22⟩
            replace q0 := (Dots.keepC q0 k22)
            replace q1 := (Dots.keepC q1 k22)
            replace q2 := (Dots.keepC q2 k22)
            replace q3 := (Dots.keepC q3 k22)
            replace hb := bstep hb k22
            clear k22
            rw [path_len, H1.out]
            by_cases h2 : 0 < (Path.parse ow).length
            rotate_left
            · have H2 := Lib.hid (decide_eq_false h2)
              have HM := Lib.hid (mt_no HMT.out (fun k => h2 k.2.1))
              clear h2 h1
              go_wp2_with fail
              refine (RefPath.may_any ow _ (by have := LZ.out.2; omega)).mono ?_
              rintro e v23 ⟨rfl, k23⟩
              replace q0 := (Dots.keepC q0 k23)
              replace q1 := (Dots.keepC q1 k23)
              replace q2 := (Dots.keepC q2 k23)
              replace q3 := (Dots.keepC q3 k23)
              replace hb := bstep hb k23
              clear k23
              rw [path_len, H2.out]
              go_wp2_with fail
              go_meet
              exact ⟨(by rw [HM.out]), hb⟩
            have H2 := Lib.hid (decide_eq_true h2)
            go_wp2_with fail
            refine (RefPath.may_any ow _ (by have := LZ.out.2; omega)).mono ?_
            rintro e v24 ⟨rfl, k24⟩
            replace q0 := (Dots.keepC q0 k24)
            replace q1 := (Dots.keepC q1 k24)
            replace q2 := (Dots.keepC q2 k24)
            replace q3 := (Dots.keepC q3 k24)
            replace hb := bstep hb k24
            clear k24
            rw [path_len, H2.out]
            by_cases h3 : bp = ow
            · have e3 : (bp == ow) = true := by simpa using h3
              have e4 : (bp != ow) = false := by simpa using h3
              have HM := Lib.hid (mt_no HMT.out (fun k => k.2.2.1 h3))
              clear h3 h1 h2
              go_wp2_with fail
              go_meet
              exact ⟨(by rw [HM.out]), hb⟩
            have e3 : (bp == ow) = false := by simpa using h3
            have e3b : (bp != ow) = true := by simpa using h3
            by_cases h4 : bs ≤ 281474976710656
            rotate_left
            · have e4 : decide ((bs : Int) ≤ (281474976710656 : Int)) = false := decide_eq_false (by omega)
              have HM := Lib.hid (mt_no HMT.out (fun k => by have := k.2.2.2.2; omega))
              clear h3 h1 h2
              go_wp2_with fail
              go_meet
              exact ⟨(by rw [HM.out]), hb⟩
            have e4 : decide ((bs : Int) ≤ (281474976710656 : Int)) = true := decide_eq_true (by omega)
            obtain ⟨m, hmm⟩ : ∃ m, m = 281474976710656 - bs := ⟨_, rfl⟩
            have wm : IntKind.u64.wrap ((281474976710656 : Int) - (bs : Int)) = (m : Int) := by rw [IntKind.wrap_u64]; omega
            by_cases h5 : cap ≤ m
            rotate_left
            · have e6 : decide ((cap : Int) ≤ (m : Int)) = false := decide_eq_false (by omega)
              have HM := Lib.hid (mt_no HMT.out (fun k => by have h6 := k.2.2.2.1; have h7 := k.2.2.2.2; omega))
              clear h3 h1 h2 hmm
              go_wp2_with fail
              go_meet
              exact ⟨(by rw [HM.out]), hb⟩
            have e6 : decide ((cap : Int) ≤ (m : Int)) = true := decide_eq_true (by omega)
            have HM : Hid (mt = true) := Lib.hid (HMT.out.2 ⟨h1, h2, h3, by omega, by omega⟩)
            clear h3 h1 h2 hmm
            go_wp2_with fail
            go_meet
            exact ⟨(by rw [HM.out]), hb⟩
          clear hb
          obtain ⟨rfl, hb⟩ := hcut
          have HVP : Hid (∀ q ∈ T, (V' q).length ≤ 6001 ∧ Ok (V' q)) := Lib.hid (fun q hq => by
            have hv := HV.out q
            cases hm2 : mt with
            | false => rw [HNV.out hm2]; exact ⟨by have := hv.2.2; omega, hv.2.1⟩
            | true =>
              have h := HY.out hm2 q hq
              have h5 := HMT.out.1 hm2
              exact ⟨by have h3 := h.2; have h4 := hv.2.2; omega, turned_ok h hv.2.1 LZ.out.2 (by have h6 := h5.2.2.2.1; have h7 := h5.2.2.2.2; omega)⟩)
          have HNK : Hid (n = K.length) := Lib.hid HJ.out
          cases hmm : mt
          · have HMM := Lib.hid hmm
            clear hmm
            go_wp2_with fail
            go_loopw [13] (fun iv wr => ∃ i : Nat, i ≤ n ∧ iv = .int .i64 i ∧ Below v12.heap.size v12 wr) (fun iv _ => n - (intOf iv).toNat)
            case atStart => exact ⟨0, by omega, rfl, hb⟩
            case round =>
              clear hb
              obtain ⟨i, hi, rfl, hb⟩ := hrel
              by_cases hin : i < n
              · have d3 : decide ((i : Int) < (n : Int)) = true := decide_eq_true (by omega)
                have j1 : (0 : Int) ≤ (i : Int) := by omega
                have j2 : (i : Int) < (n : Int) := by omega
                have hiT : i < T.length := by rw [← HNT.out]; exact hin
                have hiK : i < K.length := by rw [← HNK.out]; exact hin
                obtain ⟨bl, ol, rfl, hcell⟩ := Words.words_at LL.out (by omega)
                obtain ⟨bw, wo, rfl, hcw⟩ := vecs_at LW.out (by omega)
                have hc := hcell i hiT
                have hw := hcw i hiK
                obtain ⟨hy1, hy2⟩ := WK.out.at_ hiK hiT
                obtain ⟨x, hx⟩ : ∃ x, x = T[i] := ⟨_, rfl⟩
                have hxm : x ∈ T := by rw [hx]; exact List.getElem_mem hiT
                rw [← hx] at hc hy1
                obtain ⟨y, hy⟩ : ∃ y, y = K[i] := ⟨_, rfl⟩
                rw [← hy] at hw hy1 hy2
                clear hy hx hcell hcw
                obtain ⟨ya, yc, yL⟩ := y
                simp only at hw hy1 hy2
                obtain ⟨yn, hyn⟩ : ∃ m, m = yL.length := ⟨_, rfl⟩
                rw [← hyn] at hw hy2
                have HYL : Hid (yL = V x) := Lib.hid hy1
                have HYN : Hid (yn ≤ 6000 ∧ Ok yL) := Lib.hid (by rw [hyn, hy1]; exact ⟨(HV.out x).2.2, (HV.out x).2.1⟩)
                have HXL : Hid (x.length ≤ 8192) := Lib.hid (HTS.out x hxm)
                have HX : Hid (val T V' x = V' x) := Lib.hid (by unfold Peers.val; rw [if_pos hxm])
                have HXM := Lib.hid hxm
                have HK2 := Lib.hid hin
                have hc2 := Dots.keepC hc hb
                have hw2 := Dots.keepC hw hb
                have HW12 := Lib.hid hw
                have LY := Lib.hid (hy2.below hb)
                have I2 := Lib.hid (I.out.below hb)
                clear hc hw hy1 hy2 hyn hxm hiT hiK hin hi
                go_wp2_with fail
                refine (known_any x (by have := HXL.out; omega) _ pb g T V' [] I2.out (by rw [HX.out]; have := (HVP.out x HXM.out).1; omega)).mono ?_
                rintro e v13 ⟨z, q, rfl, t, -, k13⟩
                rw [HX.out] at t ⊢
                obtain ⟨J, hJ⟩ : ∃ J, J = V' x := ⟨_, rfl⟩
                rw [← hJ] at t ⊢
                have HJV := Lib.hid hJ
                obtain ⟨nJ, hnJ⟩ : ∃ m, m = J.length := ⟨_, rfl⟩
                have HJP : Hid (nJ ≤ 6001 ∧ Ok J) := Lib.hid (by rw [hnJ, hJ]; exact HVP.out x HXM.out)
                rw [← hnJ] at t ⊢
                have TJ := Lib.hid t
                replace hb := bstep hb k13
                replace hw2 := Dots.keepC hw2 k13
                replace LY := Lib.hid (LY.out.below k13)
                clear hJ hnJ t hc2 k13 I2
                have HE : Hid (J = yL) := Lib.hid (by rw [HJV.out, HYL.out, HNV.out HMM.out])
                go_wp2_with fail
                refine (marks_any J yL z ya nJ yn q yc _ TJ.out LY.out (by have := HJP.out.1; omega) (by have := HYN.out.1; omega)).mono ?_
                rintro e v14 ⟨rfl, k14⟩
                rw [decide_eq_true HE.out]
                replace hb := bstep hb k14
                go_wp2_with fail
                go_roundw
                case rel => exact ⟨i + 1, by have := HK2.out; omega, by go_num, hb⟩
                case measure => have := HK2.out; simp [intOf]; omega
              · have d3 : decide ((i : Int) < (n : Int)) = false := decide_eq_false (by omega)
                have HVO : Hid (∀ q, (OnT T V' q).length ≤ 6001 ∧ Ok (OnT T V' q)) := Lib.hid (fun q => by
                  unfold OnT
                  by_cases hq : q ∈ T
                  · rw [if_pos hq]; exact HVP.out q hq
                  · rw [if_neg hq]; exact ⟨by simp, fun m hm => by cases hm⟩)
                clear hi
                have q1 := Dots.keepC P1.out hb
                by_cases hc0 : cap = 0
                · have e5 : ((cap : Int) == 0) = true := by simpa using hc0
                  have hx0 := hc0
                  clear hc0
                  go_wp2_with fail
                  refine (works_any _).mono ?_
                  rintro e v20 ⟨rfl, k20⟩
                  replace hb := bstep hb k20
                  replace hb := HB12.out.trans (hb.mono HB12.out.size)
                  go_wp2
                  go_ret
                  exact ⟨rfl, HU.out.trans (hb.mono HU.out.size)⟩
                have e5 : ((cap : Int) == 0) = false := by simpa using hc0
                have q0 := Dots.keepC P0.out hb
                have q2 := Dots.keepC P2.out hb
                have q3 := Dots.keepC P3.out hb
                have I6 := Lib.hid (I.out.onT.below hb)
                replace LL := Lib.hid (LL.out.below hb)
                go_wp2_with fail
                refine (turn_any mt bp ow cap bs HMT.out _ pb g T (OnT T V') [] I6.out (by have := LZ.out.1; omega) (by have := LZ.out.2; omega) ZZ.out.2.2.1 ZZ.out.2.2.2 (fun q => (HVO.out q).2) (fun q => by have := (HVO.out q).1; omega)).mono ?_
                rintro e v16 ⟨rfl, V3, i16, hy3, -, k16⟩
                have HV3 : Hid (mt = true → ∀ q ∈ T, (V3 q).length ≤ 6002 ∧ Ok (V3 q) ∧ ofL (V3 q) bp = 0) := Lib.hid (fun hm q hq => by
                  have h := hy3 hm q hq
                  have h5 := HMT.out.1 hm
                  exact ⟨by have h3 := h.2; have h4 := (HVO.out q).1; omega, turned_ok h (HVO.out q).2 LZ.out.2 (by have h6 := h5.2.2.2.1; have h7 := h5.2.2.2.2; omega), turned_by h⟩)
                replace LL := Lib.hid (Row.Lies.save LL.out k16 HAL.out)
                replace hb := stepS (HB12.out.trans (hb.mono HB12.out.size)) k16 HG.out (Nat.le_refl _)
                have HB16 := Lib.hid hb
                have I7 := Lib.hid i16
                have P6 := Lib.hid (Dots.keepC Q0.out hb)
                clear i16 hy3 k16 q0 q1 q2 q3 I6 LW WK
                replace hb := Below.refl v16.heap.size v16
                go_wp2_with fail
                go_loopw [18] (fun iv wr => ∃ i : Nat, i ≤ n ∧ iv = .int .i64 i ∧ Below v16.heap.size v16 wr) (fun iv _ => n - (intOf iv).toNat)
                case atStart => exact ⟨0, by omega, rfl, hb⟩
                case round =>
                  clear hb
                  obtain ⟨k, hk, rfl, hb⟩ := hrel
                  by_cases hkn : k < n
                  · have d6 : decide ((k : Int) < (n : Int)) = true := decide_eq_true (by omega)
                    have j1 : (0 : Int) ≤ (k : Int) := by omega
                    have j2 : (k : Int) < (n : Int) := by omega
                    have hkT : k < T.length := by rw [← HNT.out]; exact hkn
                    obtain ⟨bl, ol, rfl, hcell⟩ := Words.words_at LL.out (by omega)
                    have hc := hcell k hkT
                    obtain ⟨x, hx⟩ : ∃ x, x = T[k] := ⟨_, rfl⟩
                    have hxm : x ∈ T := by rw [hx]; exact List.getElem_mem hkT
                    rw [← hx] at hc
                    have HXL : Hid (x.length ≤ 8192) := Lib.hid (HTS.out x hxm)
                    have HX : Hid (val T V3 x = V3 x) := Lib.hid (by unfold Peers.val; rw [if_pos hxm])
                    have HXM := Lib.hid hxm
                    have HK6 := Lib.hid hkn
                    have y2 := Dots.keepC hc hb
                    have q0 := Dots.keepC P6.out hb
                    have I8 := Lib.hid (I7.out.below hb)
                    have HBB := Lib.hid hb
                    clear hc hcell hx hxm hkT hkn hk
                    go_wp2_with fail
                    refine wp_region_noPanic ?_
                    refine wp_region_held_drew (S := (fun _ => True)) (by kernel_rfl) (trivial) (fun hHeld => ?_)
                    refine wpAnyH_take (i := 0) (v := ?_) (by simp only [List.getElem?_toArray, List.getElem?_cons_zero]; rfl) (by kernel_rfl) (by kernel_rfl) (by kernel_rfl) (fun _ _ _ h => h) (Or.inl ⟨by rfl, ?_⟩) (by assumption) ?_
                    rotate_left
                    · (intro w hSw; (try dsimp only at hSw); go_simp; try with_reducible rfl)
                    try simp only [Act.put, List.setIfInBounds_toArray, List.set_cons_zero, List.set_cons_succ]
                    refine wpAnyH_take (i := 1) (v := ?_) (by simp only [List.getElem?_toArray, List.getElem?_cons_succ, List.getElem?_cons_zero]; rfl) (by kernel_rfl) (by kernel_rfl) (by kernel_rfl) (fun _ _ _ h => h) (Or.inl ⟨by rfl, ?_⟩) (by assumption) ?_
                    rotate_left
                    · (intro w hSw; (try dsimp only at hSw); go_simp; try with_reducible rfl)
                    try simp only [Act.put, List.setIfInBounds_toArray, List.set_cons_zero, List.set_cons_succ]
                    refine wpAnyH_take (i := 2) (v := undef) (by simp only [List.getElem?_toArray, List.getElem?_cons_succ, List.getElem?_cons_zero]; rfl) (by kernel_rfl) (by kernel_rfl) (by kernel_rfl) (fun _ _ _ h => h) (Or.inr ⟨by rfl, rfl⟩) (by assumption) ?_
                    try simp only [Act.put, List.setIfInBounds_toArray, List.set_cons_zero, List.set_cons_succ]
                    refine wpAnyH_take (i := 3) (v := undef) (by simp only [List.getElem?_toArray, List.getElem?_cons_succ, List.getElem?_cons_zero]; rfl) (by kernel_rfl) (by kernel_rfl) (by kernel_rfl) (fun _ _ _ h => h) (Or.inr ⟨by rfl, rfl⟩) (by assumption) ?_
                    try simp only [Act.put, List.setIfInBounds_toArray, List.set_cons_zero, List.set_cons_succ]
                    refine wpAnyH_take (i := 4) (v := undef) (by simp only [List.getElem?_toArray, List.getElem?_cons_succ, List.getElem?_cons_zero]; rfl) (by kernel_rfl) (by kernel_rfl) (by kernel_rfl) (fun _ _ _ h => h) (Or.inr ⟨by rfl, rfl⟩) (by assumption) ?_
                    try simp only [Act.put, List.setIfInBounds_toArray, List.set_cons_zero, List.set_cons_succ]
                    refine wpAnyH_take (i := 5) (v := undef) (by simp only [List.getElem?_toArray, List.getElem?_cons_succ, List.getElem?_cons_zero]; rfl) (by kernel_rfl) (by kernel_rfl) (by kernel_rfl) (fun _ _ _ h => h) (Or.inr ⟨by rfl, rfl⟩) (by assumption) ?_
                    try simp only [Act.put, List.setIfInBounds_toArray, List.set_cons_zero, List.set_cons_succ]
                    refine wpAnyH_take (i := 6) (v := undef) (by simp only [List.getElem?_toArray, List.getElem?_cons_succ, List.getElem?_cons_zero]; rfl) (by kernel_rfl) (by kernel_rfl) (by kernel_rfl) (fun _ _ _ h => h) (Or.inr ⟨by rfl, rfl⟩) (by assumption) ?_
                    try simp only [Act.put, List.setIfInBounds_toArray, List.set_cons_zero, List.set_cons_succ]
                    refine wpAnyH_take (i := 7) (v := undef) (by simp only [List.getElem?_toArray, List.getElem?_cons_succ, List.getElem?_cons_zero]; rfl) (by kernel_rfl) (by kernel_rfl) (by kernel_rfl) (fun _ _ _ h => h) (Or.inr ⟨by rfl, rfl⟩) (by assumption) ?_
                    try simp only [Act.put, List.setIfInBounds_toArray, List.set_cons_zero, List.set_cons_succ]
                    refine wpAnyH_take (i := 8) (v := undef) (by simp only [List.getElem?_toArray, List.getElem?_cons_succ, List.getElem?_cons_zero]; rfl) (by kernel_rfl) (by kernel_rfl) (by kernel_rfl) (fun _ _ _ h => h) (Or.inr ⟨by rfl, rfl⟩) (by assumption) ?_
                    try simp only [Act.put, List.setIfInBounds_toArray, List.set_cons_zero, List.set_cons_succ]
                    refine wpAnyH_take (i := 9) (v := undef) (by simp only [List.getElem?_toArray, List.getElem?_cons_succ, List.getElem?_cons_zero]; rfl) (by kernel_rfl) (by kernel_rfl) (by kernel_rfl) (fun _ _ _ h => h) (Or.inr ⟨by rfl, rfl⟩) (by assumption) ?_
                    try simp only [Act.put, List.setIfInBounds_toArray, List.set_cons_zero, List.set_cons_succ]
                    refine wpAnyH_take (i := 10) (v := undef) (by simp only [List.getElem?_toArray, List.getElem?_cons_succ, List.getElem?_cons_zero]; rfl) (by kernel_rfl) (by kernel_rfl) (by kernel_rfl) (fun _ _ _ h => h) (Or.inr ⟨by rfl, rfl⟩) (by assumption) ?_
                    try simp only [Act.put, List.setIfInBounds_toArray, List.set_cons_zero, List.set_cons_succ]
                    refine wpAnyH_take (i := 11) (v := undef) (by simp only [List.getElem?_toArray, List.getElem?_cons_succ, List.getElem?_cons_zero]; rfl) (by kernel_rfl) (by kernel_rfl) (by kernel_rfl) (fun _ _ _ h => h) (Or.inr ⟨by rfl, rfl⟩) (by assumption) ?_
                    try simp only [Act.put, List.setIfInBounds_toArray, List.set_cons_zero, List.set_cons_succ]
                    refine wpAnyH_take (i := 12) (v := ?_) (by simp only [List.getElem?_toArray, List.getElem?_cons_succ, List.getElem?_cons_zero]; rfl) (by kernel_rfl) (by kernel_rfl) (by kernel_rfl) (fun _ _ _ h => h) (Or.inl ⟨by rfl, ?_⟩) (by assumption) ?_
                    rotate_left
                    · (intro w hSw; (try dsimp only at hSw); go_simp; try with_reducible rfl)
                    try simp only [Act.put, List.setIfInBounds_toArray, List.set_cons_zero, List.set_cons_succ]
                    refine wpAnyH_done (by kernel_rfl) ?_ _
                    refine NoPanic.normal ?_
                    clear hHeld
                    replace hb := Below.drew hb
                    go_wp2_with fail
                    go_roundw
                    case rel => exact ⟨k + 1, by have := HK6.out; omega, by go_num, hb⟩
                    case measure => have := HK6.out; simp [intOf]; omega
                  · have d6 : decide ((k : Int) < (n : Int)) = false := decide_eq_false (by omega)
                    replace hb := HB16.out.trans (hb.mono HB16.out.size)
                    clear hk
                    go_wp2_with fail
                    refine (works_any _).mono ?_
                    rintro e v20 ⟨rfl, k20⟩
                    replace hb := bstep hb k20
                    go_wp2
                    go_ret
                    exact ⟨rfl, HU.out.trans (hb.mono HU.out.size)⟩
          have HMM := Lib.hid hmm
          clear hmm
          go_wp2_with fail
          go_loopw [13] (fun iv wr => ∃ i : Nat, i ≤ n ∧ iv = .int .i64 i ∧ Below v12.heap.size v12 wr) (fun iv _ => n - (intOf iv).toNat)
          case atStart => exact ⟨0, by omega, rfl, hb⟩
          case round =>
            clear hb
            obtain ⟨i, hi, rfl, hb⟩ := hrel
            by_cases hin : i < n
            · have d3 : decide ((i : Int) < (n : Int)) = true := decide_eq_true (by omega)
              have j1 : (0 : Int) ≤ (i : Int) := by omega
              have j2 : (i : Int) < (n : Int) := by omega
              have hiT : i < T.length := by rw [← HNT.out]; exact hin
              have hiK : i < K.length := by rw [← HNK.out]; exact hin
              obtain ⟨bl, ol, rfl, hcell⟩ := Words.words_at LL.out (by omega)
              obtain ⟨bw, wo, rfl, hcw⟩ := vecs_at LW.out (by omega)
              have hc := hcell i hiT
              have hw := hcw i hiK
              obtain ⟨hy1, hy2⟩ := WK.out.at_ hiK hiT
              obtain ⟨x, hx⟩ : ∃ x, x = T[i] := ⟨_, rfl⟩
              have hxm : x ∈ T := by rw [hx]; exact List.getElem_mem hiT
              rw [← hx] at hc hy1
              obtain ⟨y, hy⟩ : ∃ y, y = K[i] := ⟨_, rfl⟩
              rw [← hy] at hw hy1 hy2
              clear hy hx hcell hcw
              obtain ⟨ya, yc, yL⟩ := y
              simp only at hw hy1 hy2
              obtain ⟨yn, hyn⟩ : ∃ m, m = yL.length := ⟨_, rfl⟩
              rw [← hyn] at hw hy2
              have HYL : Hid (yL = V x) := Lib.hid hy1
              have HYN : Hid (yn ≤ 6000 ∧ Ok yL) := Lib.hid (by rw [hyn, hy1]; exact ⟨(HV.out x).2.2, (HV.out x).2.1⟩)
              have HXL : Hid (x.length ≤ 8192) := Lib.hid (HTS.out x hxm)
              have HX : Hid (val T V' x = V' x) := Lib.hid (by unfold Peers.val; rw [if_pos hxm])
              have HXM := Lib.hid hxm
              have HK2 := Lib.hid hin
              have hc2 := Dots.keepC hc hb
              have hw2 := Dots.keepC hw hb
              have HW12 := Lib.hid hw
              have LY := Lib.hid (hy2.below hb)
              have I2 := Lib.hid (I.out.below hb)
              clear hc hw hy1 hy2 hyn hxm hiT hiK hin hi
              go_wp2_with fail
              refine (known_any x (by have := HXL.out; omega) _ pb g T V' [] I2.out (by rw [HX.out]; have := (HVP.out x HXM.out).1; omega)).mono ?_
              rintro e v13 ⟨z, q, rfl, t, -, k13⟩
              rw [HX.out] at t ⊢
              obtain ⟨J, hJ⟩ : ∃ J, J = V' x := ⟨_, rfl⟩
              rw [← hJ] at t ⊢
              have HJV := Lib.hid hJ
              obtain ⟨nJ, hnJ⟩ : ∃ m, m = J.length := ⟨_, rfl⟩
              have HJP : Hid (nJ ≤ 6001 ∧ Ok J) := Lib.hid (by rw [hnJ, hJ]; exact HVP.out x HXM.out)
              rw [← hnJ] at t ⊢
              have TJ := Lib.hid t
              replace hb := bstep hb k13
              replace hw2 := Dots.keepC hw2 k13
              replace LY := Lib.hid (LY.out.below k13)
              clear hJ hnJ t hc2 k13 I2
              have HTU : Hid (Turned bp ow cap bs yL J) := Lib.hid (by rw [HJV.out, HYL.out]; exact HY.out HMM.out x HXM.out)
              have HMY := Lib.hid (HMT.out.1 HMM.out)
              have HBY := Lib.hid (turned_by HTU.out)
              have ws : IntKind.u64.wrap ((bs : Int) + (cap : Int)) = ((bs + cap : Nat) : Int) := by have h6 := HMY.out.2.2.2.1; have h7 := HMY.out.2.2.2.2; rw [IntKind.wrap_u64]; omega
              obtain ⟨x1, hx1⟩ : ∃ m, m = ofL yL bp := ⟨_, rfl⟩
              obtain ⟨x2, hx2⟩ : ∃ m, m = ofL J ow := ⟨_, rfl⟩
              obtain ⟨x3, hx3⟩ : ∃ m, m = ofL yL ow := ⟨_, rfl⟩
              have HX1 := Lib.hid hx1
              have HX2 := Lib.hid hx2
              have HX3 := Lib.hid hx3
              have HA : cap ≤ x1 → x2 = max x3 (bs + cap) := fun h => by rw [hx2, hx3]; exact turned_had HTU.out HMY.out.2.2.1 (by rw [← hx1]; exact h)
              have HN1 : ¬ cap ≤ x1 → x2 = x3 := fun h => by rw [hx2, hx3]; exact turned_not HTU.out HMY.out.2.2.1 (by rw [← hx1]; exact h)
              clear hx1 hx2 hx3
              have q0 := Dots.keepC P0.out hb
              have q1 := Dots.keepC P1.out hb
              have q2 := Dots.keepC P2.out hb
              have q3 := Dots.keepC P3.out hb
              by_cases hcp : cap ≤ x1
              · have d4 : decide ((x1 : Int) ≥ (cap : Int)) = true := decide_eq_true (by omega)
                have d5 : decide ((cap : Int) ≤ (x1 : Int)) = true := decide_eq_true (by omega)
                have hm := HA hcp
                have d6 : max (x3 : Int) ((bs + cap : Nat) : Int) = (x2 : Int) := by omega
                have HM6 := Lib.hid hm
                clear HA HN1 hm
                go_wp2_with fail
                refine wp_region_noPanic ?_
                refine wp_region_held_drew (S := (fun w' => w'.cell? ⟨bw, wo + i, none⟩ = some (.slice ya yn yc) ∧ w'.cell? ⟨B, 0, none⟩ = some (.string ⟨bp.toArray⟩) ∧ w'.cell? ⟨B, 1, none⟩ = some (.int .u64 (cap : Int)))) (by kernel_rfl) (⟨hw2, q0, q1⟩) (fun hHeld => ?_)
                refine wpAnyH_take (i := 0) (v := ?_) (by simp only [List.getElem?_toArray, List.getElem?_cons_zero]; rfl) (by kernel_rfl) (by kernel_rfl) (by kernel_rfl) (fun _ _ _ h => h) (Or.inl ⟨by rfl, ?_⟩) (by assumption) ?_
                rotate_left
                · (intro w hSw; (try dsimp only at hSw); go_simp; try with_reducible rfl)
                try simp only [Act.put, List.setIfInBounds_toArray, List.set_cons_zero, List.set_cons_succ]
                refine wpAnyH_take (i := 1) (v := ?_) (by simp only [List.getElem?_toArray, List.getElem?_cons_succ, List.getElem?_cons_zero]; rfl) (by kernel_rfl) (by kernel_rfl) (by kernel_rfl) (fun _ _ _ h => h) (Or.inl ⟨by rfl, ?_⟩) (by assumption) ?_
                rotate_left
                · (intro w hSw; (try dsimp only at hSw); go_simp; try with_reducible rfl)
                try simp only [Act.put, List.setIfInBounds_toArray, List.set_cons_zero, List.set_cons_succ]
                refine wpAnyH_take (i := 2) (v := ?_) (by simp only [List.getElem?_toArray, List.getElem?_cons_succ, List.getElem?_cons_zero]; rfl) (by kernel_rfl) (by kernel_rfl) (by kernel_rfl) (fun _ _ _ h => h) (Or.inl ⟨by rfl, ?_⟩) (by assumption) ?_
                rotate_left
                · (intro w hSw; (try dsimp only at hSw); go_simp; try with_reducible rfl)
                try simp only [Act.put, List.setIfInBounds_toArray, List.set_cons_zero, List.set_cons_succ]
                refine wpAnyH_take (i := 3) (v := ?_) (by simp only [List.getElem?_toArray, List.getElem?_cons_succ, List.getElem?_cons_zero]; rfl) (by kernel_rfl) (by kernel_rfl) (by kernel_rfl) (fun _ _ _ h => h) (Or.inl ⟨by rfl, ?_⟩) (by assumption) ?_
                rotate_left
                · (intro w hSw; (try dsimp only at hSw); go_simp; try with_reducible rfl)
                try simp only [Act.put, List.setIfInBounds_toArray, List.set_cons_zero, List.set_cons_succ]
                refine wpAnyH_take (i := 4) (v := ?_) (by simp only [List.getElem?_toArray, List.getElem?_cons_succ, List.getElem?_cons_zero]; rfl) (by kernel_rfl) (by kernel_rfl) (by kernel_rfl) (fun _ _ _ h => h) (Or.inl ⟨by rfl, ?_⟩) (by assumption) ?_
                rotate_left
                · (intro w hSw; (try dsimp only at hSw); go_simp; try with_reducible rfl)
                try simp only [Act.put, List.setIfInBounds_toArray, List.set_cons_zero, List.set_cons_succ]
                refine wpAnyH_take (i := 5) (v := ?_) (by simp only [List.getElem?_toArray, List.getElem?_cons_succ, List.getElem?_cons_zero]; rfl) (by kernel_rfl) (by kernel_rfl) (by kernel_rfl) (fun _ _ _ h => h) (Or.inl ⟨by rfl, ?_⟩) (by assumption) ?_
                rotate_left
                · (intro w hSw; (try dsimp only at hSw); go_simp; try with_reducible rfl)
                try simp only [Act.put, List.setIfInBounds_toArray, List.set_cons_zero, List.set_cons_succ]
                refine wpAnyH_take (i := 7) (v := ?_) (by simp only [List.getElem?_toArray, List.getElem?_cons_succ, List.getElem?_cons_zero]; rfl) (by kernel_rfl) (by kernel_rfl) (by kernel_rfl) (fun _ _ _ h => h) (Or.inl ⟨by rfl, ?_⟩) (by assumption) ?_
                rotate_left
                · (intro w hSw; (try dsimp only at hSw); go_simp; try with_reducible rfl)
                try simp only [Act.put, List.setIfInBounds_toArray, List.set_cons_zero, List.set_cons_succ]
                refine wpAnyH_take (i := 8) (v := ?_) (by simp only [List.getElem?_toArray, List.getElem?_cons_succ, List.getElem?_cons_zero]; rfl) (by kernel_rfl) (by kernel_rfl) (by kernel_rfl) (fun _ _ _ h => h) (Or.inl ⟨by rfl, ?_⟩) (by assumption) ?_
                rotate_left
                · (intro w hSw; (try dsimp only at hSw); go_simp; try with_reducible rfl)
                try simp only [Act.put, List.setIfInBounds_toArray, List.set_cons_zero, List.set_cons_succ]
                refine wpAnyH_ready (rs := [6]) (by kernel_rfl) (by simp) ?_
                refine AllReadyH.cons (by simp only [List.getElem?_toArray, List.getElem?_cons_succ, List.getElem?_cons_zero]; rfl) (fun K hK => ?_) AllReadyH.nil
                go_simp
                go_at_call 23
                refine (RefDots.of_any bp yL ya yn yc _ (LY.out.below (Below.drew (Below.refl _ _))) (by have := HYN.out.1; omega) HYN.out.2).mono ?_
                rintro e w5 ⟨rfl, rfl⟩
                rw [← HX1.out]
                go_wp2_with fail
                refine hK.out _ _ (hHeld) (fun hHeld => ?_)
                clear hK K
                try simp only [Act.put, List.setIfInBounds_toArray, List.set_cons_zero, List.set_cons_succ]
                refine wpAnyH_take (i := 9) (v := ?_) (by simp only [List.getElem?_toArray, List.getElem?_cons_succ, List.getElem?_cons_zero]; rfl) (by kernel_rfl) (by kernel_rfl) (by kernel_rfl) (fun _ _ _ h => h) (Or.inl ⟨by rfl, ?_⟩) (by assumption) ?_
                rotate_left
                · (intro w hSw; (try dsimp only at hSw); go_simp; try with_reducible rfl)
                try simp only [Act.put, List.setIfInBounds_toArray, List.set_cons_zero, List.set_cons_succ]
                refine wpAnyH_take (i := 10) (v := ?_) (by simp only [List.getElem?_toArray, List.getElem?_cons_succ, List.getElem?_cons_zero]; rfl) (by kernel_rfl) (by kernel_rfl) (by kernel_rfl) (fun _ _ _ h => h) (Or.inl ⟨by rfl, ?_⟩) (by assumption) ?_
                rotate_left
                · (intro w hSw; (try dsimp only at hSw); go_simp; try with_reducible rfl)
                try simp only [Act.put, List.setIfInBounds_toArray, List.set_cons_zero, List.set_cons_succ]
                refine wpAnyH_done (by kernel_rfl) ?_ _
                refine NoPanic.normal ?_
                clear hHeld hw2 q0 q1
                have kd : Below v13.heap.size v13 v13.drew := Below.drew (Below.refl _ _)
                replace hb := bstep hb kd
                replace LY := Lib.hid (LY.out.below kd)
                replace TJ := Lib.hid (TJ.out.below kd)
                generalize World.drew _ = v14 at *
                clear kd q2 q3
                have q2 := Dots.keepC P2.out hb
                go_wp2_with fail
                refine (RefDots.of_any ow J z nJ q _ TJ.out (by have := HJP.out.1; omega) HJP.out.2).mono ?_
                rintro e w5 ⟨rfl, rfl⟩
                rw [← HX2.out]
                have hw2 := Dots.keepC HW12.out hb
                go_wp2_with fail
                refine wp_region_noPanic ?_
                refine wp_region_held_drew (S := (fun w' => w'.cell? ⟨bw, wo + i, none⟩ = some (.slice ya yn yc) ∧ w'.cell? ⟨B, 2, none⟩ = some (.string ⟨ow.toArray⟩))) (by kernel_rfl) (⟨hw2, q2⟩) (fun hHeld => ?_)
                refine wpAnyH_take (i := 0) (v := ?_) (by simp only [List.getElem?_toArray, List.getElem?_cons_zero]; rfl) (by kernel_rfl) (by kernel_rfl) (by kernel_rfl) (fun _ _ _ h => h) (Or.inl ⟨by rfl, ?_⟩) (by assumption) ?_
                rotate_left
                · (intro w hSw; (try dsimp only at hSw); go_simp; try with_reducible rfl)
                try simp only [Act.put, List.setIfInBounds_toArray, List.set_cons_zero, List.set_cons_succ]
                refine wpAnyH_take (i := 1) (v := ?_) (by simp only [List.getElem?_toArray, List.getElem?_cons_succ, List.getElem?_cons_zero]; rfl) (by kernel_rfl) (by kernel_rfl) (by kernel_rfl) (fun _ _ _ h => h) (Or.inl ⟨by rfl, ?_⟩) (by assumption) ?_
                rotate_left
                · (intro w hSw; (try dsimp only at hSw); go_simp; try with_reducible rfl)
                try simp only [Act.put, List.setIfInBounds_toArray, List.set_cons_zero, List.set_cons_succ]
                refine wpAnyH_take (i := 2) (v := ?_) (by simp only [List.getElem?_toArray, List.getElem?_cons_succ, List.getElem?_cons_zero]; rfl) (by kernel_rfl) (by kernel_rfl) (by kernel_rfl) (fun _ _ _ h => h) (Or.inl ⟨by rfl, ?_⟩) (by assumption) ?_
                rotate_left
                · (intro w hSw; (try dsimp only at hSw); go_simp; try with_reducible rfl)
                try simp only [Act.put, List.setIfInBounds_toArray, List.set_cons_zero, List.set_cons_succ]
                refine wpAnyH_take (i := 3) (v := ?_) (by simp only [List.getElem?_toArray, List.getElem?_cons_succ, List.getElem?_cons_zero]; rfl) (by kernel_rfl) (by kernel_rfl) (by kernel_rfl) (fun _ _ _ h => h) (Or.inl ⟨by rfl, ?_⟩) (by assumption) ?_
                rotate_left
                · (intro w hSw; (try dsimp only at hSw); go_simp; try with_reducible rfl)
                try simp only [Act.put, List.setIfInBounds_toArray, List.set_cons_zero, List.set_cons_succ]
                refine wpAnyH_take (i := 4) (v := ?_) (by simp only [List.getElem?_toArray, List.getElem?_cons_succ, List.getElem?_cons_zero]; rfl) (by kernel_rfl) (by kernel_rfl) (by kernel_rfl) (fun _ _ _ h => h) (Or.inl ⟨by rfl, ?_⟩) (by assumption) ?_
                rotate_left
                · (intro w hSw; (try dsimp only at hSw); go_simp; try with_reducible rfl)
                try simp only [Act.put, List.setIfInBounds_toArray, List.set_cons_zero, List.set_cons_succ]
                refine wpAnyH_take (i := 5) (v := ?_) (by simp only [List.getElem?_toArray, List.getElem?_cons_succ, List.getElem?_cons_zero]; rfl) (by kernel_rfl) (by kernel_rfl) (by kernel_rfl) (fun _ _ _ h => h) (Or.inl ⟨by rfl, ?_⟩) (by assumption) ?_
                rotate_left
                · (intro w hSw; (try dsimp only at hSw); go_simp; try with_reducible rfl)
                try simp only [Act.put, List.setIfInBounds_toArray, List.set_cons_zero, List.set_cons_succ]
                refine wpAnyH_ready (rs := [6]) (by kernel_rfl) (by simp) ?_
                refine AllReadyH.cons (by simp only [List.getElem?_toArray, List.getElem?_cons_succ, List.getElem?_cons_zero]; rfl) (fun K hK => ?_) AllReadyH.nil
                go_simp
                go_at_call 23
                refine (RefDots.of_any ow yL ya yn yc _ (LY.out.below (Below.drew (Below.refl _ _))) (by have := HYN.out.1; omega) HYN.out.2).mono ?_
                rintro e w5 ⟨rfl, rfl⟩
                rw [← HX3.out]
                go_wp2_with fail
                refine hK.out _ _ (hHeld) (fun hHeld => ?_)
                clear hK K
                try simp only [Act.put, List.setIfInBounds_toArray, List.set_cons_zero, List.set_cons_succ]
                refine wpAnyH_take (i := 7) (v := ?_) (by simp only [List.getElem?_toArray, List.getElem?_cons_succ, List.getElem?_cons_zero]; rfl) (by kernel_rfl) (by kernel_rfl) (by kernel_rfl) (fun _ _ _ h => h) (Or.inl ⟨by rfl, ?_⟩) (by assumption) ?_
                rotate_left
                · (intro w hSw; (try dsimp only at hSw); go_simp; try with_reducible rfl)
                try simp only [Act.put, List.setIfInBounds_toArray, List.set_cons_zero, List.set_cons_succ]
                refine wpAnyH_done (by kernel_rfl) ?_ _
                refine NoPanic.normal ?_
                clear hHeld hw2 q2
                have kd : Below v14.heap.size v14 v14.drew := Below.drew (Below.refl _ _)
                replace hb := bstep hb kd
                replace TJ := Lib.hid (TJ.out.below kd)
                clear LY
                generalize World.drew _ = v15 at *
                clear kd
                have q0 := Dots.keepC P0.out hb
                have q1 := Dots.keepC P1.out hb
                have q3 := Dots.keepC P3.out hb
                go_wp2_with fail
                refine (RefDots.of_any bp J z nJ q _ TJ.out (by have := HJP.out.1; omega) HJP.out.2).mono ?_
                rintro e w5 ⟨rfl, rfl⟩
                rw [HBY.out]
                go_wp2_with fail
                go_roundw
                case rel => exact ⟨i + 1, by have := HK2.out; omega, by go_num, hb⟩
                case measure => have := HK2.out; simp [intOf]; omega
              · have d4 : decide ((x1 : Int) ≥ (cap : Int)) = false := decide_eq_false (by omega)
                have d5 : decide ((cap : Int) ≤ (x1 : Int)) = false := decide_eq_false (by omega)
                have HM6 := Lib.hid (HN1 hcp)
                clear HA HN1
                go_wp2_with fail
                refine wp_region_noPanic ?_
                refine wp_region_held_drew (S := (fun w' => w'.cell? ⟨bw, wo + i, none⟩ = some (.slice ya yn yc) ∧ w'.cell? ⟨B, 0, none⟩ = some (.string ⟨bp.toArray⟩) ∧ w'.cell? ⟨B, 1, none⟩ = some (.int .u64 (cap : Int)))) (by kernel_rfl) (⟨hw2, q0, q1⟩) (fun hHeld => ?_)
                refine wpAnyH_take (i := 0) (v := ?_) (by simp only [List.getElem?_toArray, List.getElem?_cons_zero]; rfl) (by kernel_rfl) (by kernel_rfl) (by kernel_rfl) (fun _ _ _ h => h) (Or.inl ⟨by rfl, ?_⟩) (by assumption) ?_
                rotate_left
                · (intro w hSw; (try dsimp only at hSw); go_simp; try with_reducible rfl)
                try simp only [Act.put, List.setIfInBounds_toArray, List.set_cons_zero, List.set_cons_succ]
                refine wpAnyH_take (i := 1) (v := ?_) (by simp only [List.getElem?_toArray, List.getElem?_cons_succ, List.getElem?_cons_zero]; rfl) (by kernel_rfl) (by kernel_rfl) (by kernel_rfl) (fun _ _ _ h => h) (Or.inl ⟨by rfl, ?_⟩) (by assumption) ?_
                rotate_left
                · (intro w hSw; (try dsimp only at hSw); go_simp; try with_reducible rfl)
                try simp only [Act.put, List.setIfInBounds_toArray, List.set_cons_zero, List.set_cons_succ]
                refine wpAnyH_take (i := 2) (v := ?_) (by simp only [List.getElem?_toArray, List.getElem?_cons_succ, List.getElem?_cons_zero]; rfl) (by kernel_rfl) (by kernel_rfl) (by kernel_rfl) (fun _ _ _ h => h) (Or.inl ⟨by rfl, ?_⟩) (by assumption) ?_
                rotate_left
                · (intro w hSw; (try dsimp only at hSw); go_simp; try with_reducible rfl)
                try simp only [Act.put, List.setIfInBounds_toArray, List.set_cons_zero, List.set_cons_succ]
                refine wpAnyH_take (i := 3) (v := ?_) (by simp only [List.getElem?_toArray, List.getElem?_cons_succ, List.getElem?_cons_zero]; rfl) (by kernel_rfl) (by kernel_rfl) (by kernel_rfl) (fun _ _ _ h => h) (Or.inl ⟨by rfl, ?_⟩) (by assumption) ?_
                rotate_left
                · (intro w hSw; (try dsimp only at hSw); go_simp; try with_reducible rfl)
                try simp only [Act.put, List.setIfInBounds_toArray, List.set_cons_zero, List.set_cons_succ]
                refine wpAnyH_take (i := 4) (v := ?_) (by simp only [List.getElem?_toArray, List.getElem?_cons_succ, List.getElem?_cons_zero]; rfl) (by kernel_rfl) (by kernel_rfl) (by kernel_rfl) (fun _ _ _ h => h) (Or.inl ⟨by rfl, ?_⟩) (by assumption) ?_
                rotate_left
                · (intro w hSw; (try dsimp only at hSw); go_simp; try with_reducible rfl)
                try simp only [Act.put, List.setIfInBounds_toArray, List.set_cons_zero, List.set_cons_succ]
                refine wpAnyH_take (i := 5) (v := ?_) (by simp only [List.getElem?_toArray, List.getElem?_cons_succ, List.getElem?_cons_zero]; rfl) (by kernel_rfl) (by kernel_rfl) (by kernel_rfl) (fun _ _ _ h => h) (Or.inl ⟨by rfl, ?_⟩) (by assumption) ?_
                rotate_left
                · (intro w hSw; (try dsimp only at hSw); go_simp; try with_reducible rfl)
                try simp only [Act.put, List.setIfInBounds_toArray, List.set_cons_zero, List.set_cons_succ]
                refine wpAnyH_take (i := 7) (v := ?_) (by simp only [List.getElem?_toArray, List.getElem?_cons_succ, List.getElem?_cons_zero]; rfl) (by kernel_rfl) (by kernel_rfl) (by kernel_rfl) (fun _ _ _ h => h) (Or.inl ⟨by rfl, ?_⟩) (by assumption) ?_
                rotate_left
                · (intro w hSw; (try dsimp only at hSw); go_simp; try with_reducible rfl)
                try simp only [Act.put, List.setIfInBounds_toArray, List.set_cons_zero, List.set_cons_succ]
                refine wpAnyH_take (i := 8) (v := ?_) (by simp only [List.getElem?_toArray, List.getElem?_cons_succ, List.getElem?_cons_zero]; rfl) (by kernel_rfl) (by kernel_rfl) (by kernel_rfl) (fun _ _ _ h => h) (Or.inl ⟨by rfl, ?_⟩) (by assumption) ?_
                rotate_left
                · (intro w hSw; (try dsimp only at hSw); go_simp; try with_reducible rfl)
                try simp only [Act.put, List.setIfInBounds_toArray, List.set_cons_zero, List.set_cons_succ]
                refine wpAnyH_ready (rs := [6]) (by kernel_rfl) (by simp) ?_
                refine AllReadyH.cons (by simp only [List.getElem?_toArray, List.getElem?_cons_succ, List.getElem?_cons_zero]; rfl) (fun K hK => ?_) AllReadyH.nil
                go_simp
                go_at_call 23
                refine (RefDots.of_any bp yL ya yn yc _ (LY.out.below (Below.drew (Below.refl _ _))) (by have := HYN.out.1; omega) HYN.out.2).mono ?_
                rintro e w5 ⟨rfl, rfl⟩
                rw [← HX1.out]
                go_wp2_with fail
                refine hK.out _ _ (hHeld) (fun hHeld => ?_)
                clear hK K
                try simp only [Act.put, List.setIfInBounds_toArray, List.set_cons_zero, List.set_cons_succ]
                refine wpAnyH_take (i := 9) (v := ?_) (by simp only [List.getElem?_toArray, List.getElem?_cons_succ, List.getElem?_cons_zero]; rfl) (by kernel_rfl) (by kernel_rfl) (by kernel_rfl) (fun _ _ _ h => h) (Or.inl ⟨by rfl, ?_⟩) (by assumption) ?_
                rotate_left
                · (intro w hSw; (try dsimp only at hSw); go_simp; try with_reducible rfl)
                try simp only [Act.put, List.setIfInBounds_toArray, List.set_cons_zero, List.set_cons_succ]
                refine wpAnyH_take (i := 10) (v := ?_) (by simp only [List.getElem?_toArray, List.getElem?_cons_succ, List.getElem?_cons_zero]; rfl) (by kernel_rfl) (by kernel_rfl) (by kernel_rfl) (fun _ _ _ h => h) (Or.inl ⟨by rfl, ?_⟩) (by assumption) ?_
                rotate_left
                · (intro w hSw; (try dsimp only at hSw); go_simp; try with_reducible rfl)
                try simp only [Act.put, List.setIfInBounds_toArray, List.set_cons_zero, List.set_cons_succ]
                refine wpAnyH_done (by kernel_rfl) ?_ _
                refine NoPanic.normal ?_
                clear hHeld hw2 q0 q1
                have kd : Below v13.heap.size v13 v13.drew := Below.drew (Below.refl _ _)
                replace hb := bstep hb kd
                replace LY := Lib.hid (LY.out.below kd)
                replace TJ := Lib.hid (TJ.out.below kd)
                generalize World.drew _ = v14 at *
                clear kd q2 q3
                have q2 := Dots.keepC P2.out hb
                go_wp2_with fail
                refine (RefDots.of_any ow J z nJ q _ TJ.out (by have := HJP.out.1; omega) HJP.out.2).mono ?_
                rintro e w5 ⟨rfl, rfl⟩
                rw [← HX2.out]
                have hw2 := Dots.keepC HW12.out hb
                go_wp2_with fail
                refine wp_region_noPanic ?_
                refine wp_region_held_drew (S := (fun w' => w'.cell? ⟨bw, wo + i, none⟩ = some (.slice ya yn yc) ∧ w'.cell? ⟨B, 2, none⟩ = some (.string ⟨ow.toArray⟩))) (by kernel_rfl) (⟨hw2, q2⟩) (fun hHeld => ?_)
                refine wpAnyH_take (i := 0) (v := ?_) (by simp only [List.getElem?_toArray, List.getElem?_cons_zero]; rfl) (by kernel_rfl) (by kernel_rfl) (by kernel_rfl) (fun _ _ _ h => h) (Or.inl ⟨by rfl, ?_⟩) (by assumption) ?_
                rotate_left
                · (intro w hSw; (try dsimp only at hSw); go_simp; try with_reducible rfl)
                try simp only [Act.put, List.setIfInBounds_toArray, List.set_cons_zero, List.set_cons_succ]
                refine wpAnyH_take (i := 1) (v := ?_) (by simp only [List.getElem?_toArray, List.getElem?_cons_succ, List.getElem?_cons_zero]; rfl) (by kernel_rfl) (by kernel_rfl) (by kernel_rfl) (fun _ _ _ h => h) (Or.inl ⟨by rfl, ?_⟩) (by assumption) ?_
                rotate_left
                · (intro w hSw; (try dsimp only at hSw); go_simp; try with_reducible rfl)
                try simp only [Act.put, List.setIfInBounds_toArray, List.set_cons_zero, List.set_cons_succ]
                refine wpAnyH_take (i := 2) (v := ?_) (by simp only [List.getElem?_toArray, List.getElem?_cons_succ, List.getElem?_cons_zero]; rfl) (by kernel_rfl) (by kernel_rfl) (by kernel_rfl) (fun _ _ _ h => h) (Or.inl ⟨by rfl, ?_⟩) (by assumption) ?_
                rotate_left
                · (intro w hSw; (try dsimp only at hSw); go_simp; try with_reducible rfl)
                try simp only [Act.put, List.setIfInBounds_toArray, List.set_cons_zero, List.set_cons_succ]
                refine wpAnyH_take (i := 3) (v := ?_) (by simp only [List.getElem?_toArray, List.getElem?_cons_succ, List.getElem?_cons_zero]; rfl) (by kernel_rfl) (by kernel_rfl) (by kernel_rfl) (fun _ _ _ h => h) (Or.inl ⟨by rfl, ?_⟩) (by assumption) ?_
                rotate_left
                · (intro w hSw; (try dsimp only at hSw); go_simp; try with_reducible rfl)
                try simp only [Act.put, List.setIfInBounds_toArray, List.set_cons_zero, List.set_cons_succ]
                refine wpAnyH_take (i := 4) (v := ?_) (by simp only [List.getElem?_toArray, List.getElem?_cons_succ, List.getElem?_cons_zero]; rfl) (by kernel_rfl) (by kernel_rfl) (by kernel_rfl) (fun _ _ _ h => h) (Or.inl ⟨by rfl, ?_⟩) (by assumption) ?_
                rotate_left
                · (intro w hSw; (try dsimp only at hSw); go_simp; try with_reducible rfl)
                try simp only [Act.put, List.setIfInBounds_toArray, List.set_cons_zero, List.set_cons_succ]
                refine wpAnyH_take (i := 5) (v := ?_) (by simp only [List.getElem?_toArray, List.getElem?_cons_succ, List.getElem?_cons_zero]; rfl) (by kernel_rfl) (by kernel_rfl) (by kernel_rfl) (fun _ _ _ h => h) (Or.inl ⟨by rfl, ?_⟩) (by assumption) ?_
                rotate_left
                · (intro w hSw; (try dsimp only at hSw); go_simp; try with_reducible rfl)
                try simp only [Act.put, List.setIfInBounds_toArray, List.set_cons_zero, List.set_cons_succ]
                refine wpAnyH_ready (rs := [6]) (by kernel_rfl) (by simp) ?_
                refine AllReadyH.cons (by simp only [List.getElem?_toArray, List.getElem?_cons_succ, List.getElem?_cons_zero]; rfl) (fun K hK => ?_) AllReadyH.nil
                go_simp
                go_at_call 23
                refine (RefDots.of_any ow yL ya yn yc _ (LY.out.below (Below.drew (Below.refl _ _))) (by have := HYN.out.1; omega) HYN.out.2).mono ?_
                rintro e w5 ⟨rfl, rfl⟩
                rw [← HX3.out]
                go_wp2_with fail
                refine hK.out _ _ (hHeld) (fun hHeld => ?_)
                clear hK K
                try simp only [Act.put, List.setIfInBounds_toArray, List.set_cons_zero, List.set_cons_succ]
                refine wpAnyH_take (i := 7) (v := ?_) (by simp only [List.getElem?_toArray, List.getElem?_cons_succ, List.getElem?_cons_zero]; rfl) (by kernel_rfl) (by kernel_rfl) (by kernel_rfl) (fun _ _ _ h => h) (Or.inl ⟨by rfl, ?_⟩) (by assumption) ?_
                rotate_left
                · (intro w hSw; (try dsimp only at hSw); go_simp; try with_reducible rfl)
                try simp only [Act.put, List.setIfInBounds_toArray, List.set_cons_zero, List.set_cons_succ]
                refine wpAnyH_done (by kernel_rfl) ?_ _
                refine NoPanic.normal ?_
                clear hHeld hw2 q2
                have kd : Below v14.heap.size v14 v14.drew := Below.drew (Below.refl _ _)
                replace hb := bstep hb kd
                replace TJ := Lib.hid (TJ.out.below kd)
                clear LY
                generalize World.drew _ = v15 at *
                clear kd
                have q0 := Dots.keepC P0.out hb
                have q1 := Dots.keepC P1.out hb
                have q3 := Dots.keepC P3.out hb
                have d7 : ((x2 : Int) != (x3 : Int)) = false := by rw [HM6.out]; simp
                go_wp2_with fail
                refine (RefDots.of_any bp J z nJ q _ TJ.out (by have := HJP.out.1; omega) HJP.out.2).mono ?_
                rintro e w5 ⟨rfl, rfl⟩
                rw [HBY.out]
                go_wp2_with fail
                go_roundw
                case rel => exact ⟨i + 1, by have := HK2.out; omega, by go_num, hb⟩
                case measure => have := HK2.out; simp [intOf]; omega
            · have d3 : decide ((i : Int) < (n : Int)) = false := decide_eq_false (by omega)
              have HVO : Hid (∀ q, (OnT T V' q).length ≤ 6001 ∧ Ok (OnT T V' q)) := Lib.hid (fun q => by
                unfold OnT
                by_cases hq : q ∈ T
                · rw [if_pos hq]; exact HVP.out q hq
                · rw [if_neg hq]; exact ⟨by simp, fun m hm => by cases hm⟩)
              clear hi
              have q1 := Dots.keepC P1.out hb
              by_cases hc0 : cap = 0
              · have e5 : ((cap : Int) == 0) = true := by simpa using hc0
                have hx0 := hc0
                clear hc0
                go_wp2_with fail
                refine (works_any _).mono ?_
                rintro e v20 ⟨rfl, k20⟩
                replace hb := bstep hb k20
                replace hb := HB12.out.trans (hb.mono HB12.out.size)
                go_wp2
                go_ret
                exact ⟨rfl, HU.out.trans (hb.mono HU.out.size)⟩
              have e5 : ((cap : Int) == 0) = false := by simpa using hc0
              have q0 := Dots.keepC P0.out hb
              have q2 := Dots.keepC P2.out hb
              have q3 := Dots.keepC P3.out hb
              have I6 := Lib.hid (I.out.onT.below hb)
              replace LL := Lib.hid (LL.out.below hb)
              go_wp2_with fail
              refine (turn_any mt bp ow cap bs HMT.out _ pb g T (OnT T V') [] I6.out (by have := LZ.out.1; omega) (by have := LZ.out.2; omega) ZZ.out.2.2.1 ZZ.out.2.2.2 (fun q => (HVO.out q).2) (fun q => by have := (HVO.out q).1; omega)).mono ?_
              rintro e v16 ⟨rfl, V3, i16, hy3, -, k16⟩
              have HV3 : Hid (mt = true → ∀ q ∈ T, (V3 q).length ≤ 6002 ∧ Ok (V3 q) ∧ ofL (V3 q) bp = 0) := Lib.hid (fun hm q hq => by
                have h := hy3 hm q hq
                have h5 := HMT.out.1 hm
                exact ⟨by have h3 := h.2; have h4 := (HVO.out q).1; omega, turned_ok h (HVO.out q).2 LZ.out.2 (by have h6 := h5.2.2.2.1; have h7 := h5.2.2.2.2; omega), turned_by h⟩)
              replace LL := Lib.hid (Row.Lies.save LL.out k16 HAL.out)
              replace hb := stepS (HB12.out.trans (hb.mono HB12.out.size)) k16 HG.out (Nat.le_refl _)
              have HB16 := Lib.hid hb
              have I7 := Lib.hid i16
              have P6 := Lib.hid (Dots.keepC Q0.out hb)
              clear i16 hy3 k16 q0 q1 q2 q3 I6 LW WK
              replace hb := Below.refl v16.heap.size v16
              go_wp2_with fail
              go_loopw [18] (fun iv wr => ∃ i : Nat, i ≤ n ∧ iv = .int .i64 i ∧ Below v16.heap.size v16 wr) (fun iv _ => n - (intOf iv).toNat)
              case atStart => exact ⟨0, by omega, rfl, hb⟩
              case round =>
                clear hb
                obtain ⟨k, hk, rfl, hb⟩ := hrel
                by_cases hkn : k < n
                · have d6 : decide ((k : Int) < (n : Int)) = true := decide_eq_true (by omega)
                  have j1 : (0 : Int) ≤ (k : Int) := by omega
                  have j2 : (k : Int) < (n : Int) := by omega
                  have hkT : k < T.length := by rw [← HNT.out]; exact hkn
                  obtain ⟨bl, ol, rfl, hcell⟩ := Words.words_at LL.out (by omega)
                  have hc := hcell k hkT
                  obtain ⟨x, hx⟩ : ∃ x, x = T[k] := ⟨_, rfl⟩
                  have hxm : x ∈ T := by rw [hx]; exact List.getElem_mem hkT
                  rw [← hx] at hc
                  have HXL : Hid (x.length ≤ 8192) := Lib.hid (HTS.out x hxm)
                  have HX : Hid (val T V3 x = V3 x) := Lib.hid (by unfold Peers.val; rw [if_pos hxm])
                  have HXM := Lib.hid hxm
                  have HK6 := Lib.hid hkn
                  have y2 := Dots.keepC hc hb
                  have q0 := Dots.keepC P6.out hb
                  have I8 := Lib.hid (I7.out.below hb)
                  have HBB := Lib.hid hb
                  clear hc hcell hx hxm hkT hkn hk
                  have H3x := Lib.hid (HV3.out HMM.out x HXM.out)
                  go_wp2_with fail
                  refine wp_region_noPanic ?_
                  refine wp_region_held_drew (S := (fun w' => w'.cell? ⟨bl, ol + k, none⟩ = some (.string ⟨x.toArray⟩) ∧ w'.cell? ⟨B, 0, none⟩ = some (.string ⟨bp.toArray⟩))) (by kernel_rfl) (⟨y2, q0⟩) (fun hHeld => ?_)
                  refine wpAnyH_take (i := 0) (v := ?_) (by simp only [List.getElem?_toArray, List.getElem?_cons_zero]; rfl) (by kernel_rfl) (by kernel_rfl) (by kernel_rfl) (fun _ _ _ h => h) (Or.inl ⟨by rfl, ?_⟩) (by assumption) ?_
                  rotate_left
                  · (intro w hSw; (try dsimp only at hSw); go_simp; try with_reducible rfl)
                  try simp only [Act.put, List.setIfInBounds_toArray, List.set_cons_zero, List.set_cons_succ]
                  refine wpAnyH_take (i := 1) (v := ?_) (by simp only [List.getElem?_toArray, List.getElem?_cons_succ, List.getElem?_cons_zero]; rfl) (by kernel_rfl) (by kernel_rfl) (by kernel_rfl) (fun _ _ _ h => h) (Or.inl ⟨by rfl, ?_⟩) (by assumption) ?_
                  rotate_left
                  · (intro w hSw; (try dsimp only at hSw); go_simp; try with_reducible rfl)
                  try simp only [Act.put, List.setIfInBounds_toArray, List.set_cons_zero, List.set_cons_succ]
                  refine wpAnyH_take (i := 2) (v := ?_) (by simp only [List.getElem?_toArray, List.getElem?_cons_succ, List.getElem?_cons_zero]; rfl) (by kernel_rfl) (by kernel_rfl) (by kernel_rfl) (fun _ _ _ h => h) (Or.inl ⟨by rfl, ?_⟩) (by assumption) ?_
                  rotate_left
                  · (intro w hSw; (try dsimp only at hSw); go_simp; try with_reducible rfl)
                  try simp only [Act.put, List.setIfInBounds_toArray, List.set_cons_zero, List.set_cons_succ]
                  refine wpAnyH_take (i := 3) (v := ?_) (by simp only [List.getElem?_toArray, List.getElem?_cons_succ, List.getElem?_cons_zero]; rfl) (by kernel_rfl) (by kernel_rfl) (by kernel_rfl) (fun _ _ _ h => h) (Or.inl ⟨by rfl, ?_⟩) (by assumption) ?_
                  rotate_left
                  · (intro w hSw; (try dsimp only at hSw); go_simp; try with_reducible rfl)
                  try simp only [Act.put, List.setIfInBounds_toArray, List.set_cons_zero, List.set_cons_succ]
                  refine wpAnyH_take (i := 4) (v := ?_) (by simp only [List.getElem?_toArray, List.getElem?_cons_succ, List.getElem?_cons_zero]; rfl) (by kernel_rfl) (by kernel_rfl) (by kernel_rfl) (fun _ _ _ h => h) (Or.inl ⟨by rfl, ?_⟩) (by assumption) ?_
                  rotate_left
                  · (intro w hSw; (try dsimp only at hSw); go_simp; try with_reducible rfl)
                  try simp only [Act.put, List.setIfInBounds_toArray, List.set_cons_zero, List.set_cons_succ]
                  refine wpAnyH_take (i := 5) (v := ?_) (by simp only [List.getElem?_toArray, List.getElem?_cons_succ, List.getElem?_cons_zero]; rfl) (by kernel_rfl) (by kernel_rfl) (by kernel_rfl) (fun _ _ _ h => h) (Or.inl ⟨by rfl, ?_⟩) (by assumption) ?_
                  rotate_left
                  · (intro w hSw; (try dsimp only at hSw); go_simp; try with_reducible rfl)
                  try simp only [Act.put, List.setIfInBounds_toArray, List.set_cons_zero, List.set_cons_succ]
                  refine wpAnyH_take (i := 6) (v := ?_) (by simp only [List.getElem?_toArray, List.getElem?_cons_succ, List.getElem?_cons_zero]; rfl) (by kernel_rfl) (by kernel_rfl) (by kernel_rfl) (fun _ _ _ h => h) (Or.inl ⟨by rfl, ?_⟩) (by assumption) ?_
                  rotate_left
                  · (intro w hSw; (try dsimp only at hSw); go_simp; try with_reducible rfl)
                  try simp only [Act.put, List.setIfInBounds_toArray, List.set_cons_zero, List.set_cons_succ]
                  refine wpAnyH_take (i := 8) (v := ?_) (by simp only [List.getElem?_toArray, List.getElem?_cons_succ, List.getElem?_cons_zero]; rfl) (by kernel_rfl) (by kernel_rfl) (by kernel_rfl) (fun _ _ _ h => h) (Or.inl ⟨by rfl, ?_⟩) (by assumption) ?_
                  rotate_left
                  · (intro w hSw; (try dsimp only at hSw); go_simp; try with_reducible rfl)
                  try simp only [Act.put, List.setIfInBounds_toArray, List.set_cons_zero, List.set_cons_succ]
                  refine wpAnyH_take (i := 9) (v := ?_) (by simp only [List.getElem?_toArray, List.getElem?_cons_succ, List.getElem?_cons_zero]; rfl) (by kernel_rfl) (by kernel_rfl) (by kernel_rfl) (fun _ _ _ h => h) (Or.inl ⟨by rfl, ?_⟩) (by assumption) ?_
                  rotate_left
                  · (intro w hSw; (try dsimp only at hSw); go_simp; try with_reducible rfl)
                  try simp only [Act.put, List.setIfInBounds_toArray, List.set_cons_zero, List.set_cons_succ]
                  refine wpAnyH_ready (rs := [7]) (by kernel_rfl) (by simp) ?_
                  refine AllReadyH.cons (by simp only [List.getElem?_toArray, List.getElem?_cons_succ, List.getElem?_cons_zero]; rfl) (fun K hK => ?_) AllReadyH.nil
                  go_simp
                  go_at_call 11
                  refine (known_any x (by have := HXL.out; omega) _ pb g T V3 [] (I8.out.below (Below.drew (Below.refl _ _))) (by rw [HX.out]; have := H3x.out.1; omega)).mono ?_
                  rintro e v17 ⟨z, q, rfl, t, -, k17⟩
                  have k18 : Below wr.heap.size wr v17 := (Below.drew (Below.refl _ _)).trans k17
                  rw [HX.out] at t ⊢
                  have T7 := Lib.hid t
                  have B7 := Lib.hid (bstep HBB.out k18)
                  have y3 := Dots.keepC y2 k18
                  have y4 := Dots.keepC q0 k18
                  clear t k17 k18
                  go_wp2_with fail
                  refine hK.out _ _ (⟨y3, y4⟩) (fun hHeld => ?_)
                  clear hK K
                  try simp only [Act.put, List.setIfInBounds_toArray, List.set_cons_zero, List.set_cons_succ]
                  refine wpAnyH_ready (rs := [10]) (by kernel_rfl) (by simp) ?_
                  refine AllReadyH.cons (by simp only [List.getElem?_toArray, List.getElem?_cons_succ, List.getElem?_cons_zero]; rfl) (fun K hK => ?_) AllReadyH.nil
                  go_simp
                  go_at_call 23
                  refine (RefDots.of_any bp (V3 x) z _ q _ T7.out (by have := H3x.out.1; omega) H3x.out.2.1).mono ?_
                  rintro e w5 ⟨rfl, rfl⟩
                  rw [H3x.out.2.2]
                  go_wp2_with fail
                  refine hK.out _ _ (hHeld) (fun hHeld => ?_)
                  clear hK K
                  try simp only [Act.put, List.setIfInBounds_toArray, List.set_cons_zero, List.set_cons_succ]
                  refine wpAnyH_take (i := 11) (v := ?_) (by simp only [List.getElem?_toArray, List.getElem?_cons_succ, List.getElem?_cons_zero]; rfl) (by kernel_rfl) (by kernel_rfl) (by kernel_rfl) (fun _ _ _ h => h) (Or.inl ⟨by rfl, ?_⟩) (by assumption) ?_
                  rotate_left
                  · (intro w hSw; (try dsimp only at hSw); go_simp; try with_reducible rfl)
                  try simp only [Act.put, List.setIfInBounds_toArray, List.set_cons_zero, List.set_cons_succ]
                  refine wpAnyH_take (i := 12) (v := ?_) (by simp only [List.getElem?_toArray, List.getElem?_cons_succ, List.getElem?_cons_zero]; rfl) (by kernel_rfl) (by kernel_rfl) (by kernel_rfl) (fun _ _ _ h => h) (Or.inl ⟨by rfl, ?_⟩) (by assumption) ?_
                  rotate_left
                  · (intro w hSw; (try dsimp only at hSw); go_simp; try with_reducible rfl)
                  try simp only [Act.put, List.setIfInBounds_toArray, List.set_cons_zero, List.set_cons_succ]
                  refine wpAnyH_done (by kernel_rfl) ?_ _
                  refine NoPanic.normal ?_
                  clear hHeld y2 y3 y4 q0 hb
                  have hb := B7.out
                  go_wp2_with fail
                  go_roundw
                  case rel => exact ⟨k + 1, by have := HK6.out; omega, by go_num, hb⟩
                  case measure => have := HK6.out; simp [intOf]; omega
                · have d6 : decide ((k : Int) < (n : Int)) = false := decide_eq_false (by omega)
                  replace hb := HB16.out.trans (hb.mono HB16.out.size)
                  clear hk
                  go_wp2_with fail
                  refine (works_any _).mono ?_
                  rintro e v20 ⟨rfl, k20⟩
                  replace hb := bstep hb k20
                  go_wp2
                  go_ret
                  exact ⟨rfl, HU.out.trans (hb.mono HU.out.size)⟩
end PeersTurn
end Go.Proofs.Ytcbnkncgacbniaa
