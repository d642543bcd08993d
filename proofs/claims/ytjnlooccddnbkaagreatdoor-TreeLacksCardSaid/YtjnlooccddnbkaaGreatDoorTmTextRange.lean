/- a range over a map from texts, whose round stores at a key that is there. -/
import Derived.Test.YtjnlooccddnbkaaGreatDoorTmBase2
import Derived.Maps.RangeWalk
namespace Go.Proofs.YtjnlooccddnbkaaGreatDoor
namespace TextRange
open Go.RowKit Go.Maps Go.ChangeMaps Go.MapKept Go.WideShapes Go.WideElems
section
variable {H : Type} {P : Program} {k t e : TypeId} {R : Value → Option (DataW H × List MemPlace)} {w : World} {b r n : Nat} {D : DataW H} {left : Lit → Bool} {cnt : Nat}
theorem filter_born (es : List MapEntry) (seen : Array Nat) : (es.filter fun x => !seen.contains x.born).length = ((es.map (·.born)).filter fun i => !seen.contains i).length := by
  induction es with
  | nil => rfl
  | cons x l ih =>
    rw [List.map_cons, List.filter_cons, List.filter_cons]
    split
    · rw [List.length_cons, List.length_cons, ih]
    · exact ih
/-- 'm[k] = v' in the round, at a key that is there. -/
theorem store (h : w.ranges P k R b r n D left cnt) (K : Keyed P k) (ht : P.underlying t = some (.map k e)) (hn : n < maxLen) {key val : Value} {kl : Lit} {d : DataW H} {ps : List MemPlace}
    (hkey : keyOf P k key = some kl) (hin : Maps.has D kl = true) (hv : R val = some (d, ps)) :
    ∃ w', (Instr.mapUpdate t (.map (some b)) key val).run P w = .ok () w' ∧ w'.ranges P k R b r n (D.put kl d) left cnt ∧ w.grownBy w' (some b) := by
  have hne := h.ne
  obtain ⟨es, clock, since, seen, c0, hb, F, hs, rfl, hr, hold, rfl, hl1, hl2, hsc, hsk⟩ := h
  obtain ⟨es', clock', hrun, F', hput, -, -, -⟩ := Maps.fit_store (R' := R) K ht hb F (Nat.lt_of_le_of_lt hs hn) (fun _ _ _ _ hz => hz) hkey hv
  rcases K.find w hkey es.toList F.keys with ⟨h1, h2⟩ | ⟨j, e0, h1, h2, h3⟩
  · exfalso
    obtain ⟨p, hp, hpk⟩ := List.any_eq_true.1 hin
    obtain ⟨x, hx, rfl⟩ := List.mem_map.1 (mem_sorted.1 hp)
    obtain ⟨y, hy⟩ := F.reads x hx
    have e1 := WideAt.sameKey_eq hpk
    rw [rg_of hy] at e1
    exact h2 x hx (K.inj (rd_key hy) (by rw [e1]; exact hkey))
  · have hj : es[j]? = some e0 := by simpa using h2
    have hjl : j < es.toList.length := (List.getElem?_eq_some_iff.1 h2).1
    have hlist : (es.modify j (fun e' => { e' with key := key, val := val })).toList = es.toList.set j { e0 with key := key, val := val } := by rw [Array.toList_modify, modify_eq_set _ _ _ _ h2]
    have hrun2 : (Instr.mapUpdate t (.map (some b)) key val).run P w = .ok () (setBlock w b (.map (es.modify j (fun e' => { e' with key := key, val := val })) clock)) := by
      simp [Instr.mapUpdate, run_underlying ht, MapKept.run_getObj_map hb, K.check w false hkey, h1, hj, h3, K.stays w hkey, MapKept.run_setObj_map _ hb, Result.andThen, setBlock]
    have hw : setBlock w b (.map es' clock') = setBlock w b (.map (es.modify j (fun e' => { e' with key := key, val := val })) clock) := by
      rw [hrun] at hrun2
      injection hrun2
    have ho := heap_setBlock_same hb (.map es' clock')
    rw [hw, heap_setBlock_same hb _] at ho
    simp only [Option.some.injEq, Obj.map.injEq] at ho
    obtain ⟨rfl, rfl⟩ := ho
    have hel : es.toList[j]'hjl = e0 := (List.getElem?_eq_some_iff.1 h2).2
    have who : ∀ x ∈ es.toList.set j { e0 with key := key, val := val }, x = { e0 with key := key, val := val } ∨ x ∈ es.toList := by
      intro x hx
      exact (List.mem_or_eq_of_mem_set hx).symm
    have he0 : e0 ∈ es.toList := List.mem_of_getElem? h2
    have hrg : (rg P k R { e0 with key := key, val := val }).1 = (rg P k R e0).1 := by
      obtain ⟨y, hy⟩ := F.reads e0 he0
      have m1 := rd_key hy
      rw [h3, hkey] at m1
      rw [rg_of (rd_mk (born := e0.born) hkey hv), rg_of hy]
      exact Option.some.inj m1
    refine ⟨_, hrun2, ⟨_, _, since, seen, c0, heap_setBlock_same hb _, F', by simpa using hs, by rw [DataW.put_eq, hput], (heap_setBlock_other hb _ hne).trans hr, fun x hx => ?_, ?_, fun x hx => ?_, fun kl' hk => ?_, hsc, hsk⟩, ⟨rfl, rfl, rfl, by simp [setBlock], fun i _ hi => heap_setBlock_other hb _ (fun e => hi (by rw [e]))⟩⟩
    · rw [hlist] at hx
      rcases who x hx with rfl | hx'
      · exact hold e0 he0
      · exact hold x hx'
    · have e1 : ∀ a : Array MapEntry, (leftOf a seen).size = (a.toList.filter fun e => !seen.contains e.born).length := fun a => by
        unfold leftOf
        rw [← Array.toList_filter, Array.length_toList]
      rw [e1, e1, filter_born, filter_born, hlist, List.map_set]
      congr 2
      have : e0.born = (es.toList.map (·.born))[j]'(by simpa using hjl) := by rw [List.getElem_map, hel]
      show (es.toList.map (·.born)).set j e0.born = _
      rw [this, List.set_getElem_self]
    · rw [hlist] at hx
      rcases who x hx with rfl | hx'
      · rw [hrg]; exact hl1 e0 he0
      · exact hl1 x hx'
    · obtain ⟨x, hx, rfl⟩ := hl2 kl' hk
      rw [hlist]
      obtain ⟨i, hi, rfl⟩ := List.getElem_of_mem hx
      by_cases hij : j = i
      · subst hij
        exact ⟨{ e0 with key := key, val := val }, List.mem_iff_getElem.2 ⟨j, by simpa using hjl, by simp⟩, by rw [hrg, hel]⟩
      · exact ⟨_, List.mem_iff_getElem.2 ⟨i, by simpa using hi, by rw [List.getElem_set_ne hij]⟩, rfl⟩
theorem has_left (h : w.ranges P k R b r n D left cnt) (K : Keyed P k) {kl : Lit} (hk : left kl = true) : Maps.has D kl = true := by
  obtain ⟨es, clock, since, seen, c0, hb, F, hs, rfl, hr, hold, rfl, hl1, hl2, hsc, hsk⟩ := h
  obtain ⟨x, hx, rfl⟩ := hl2 kl hk
  obtain ⟨y, hy⟩ := F.reads x hx
  exact List.any_eq_true.2 ⟨rg P k R x, mem_sorted.2 (List.mem_map.2 ⟨x, hx, rfl⟩), WideAt.sameKey_self (by rw [rg_of hy]; exact K.key (rd_key hy))⟩
theorem moved {w' : World} (h : w.ranges P k R b r n D left cnt) (hb' : w'.heap[b]? = w.heap[b]?) (hr' : w'.heap[r]? = w.heap[r]?) : w'.ranges P k R b r n D left cnt := by
  obtain ⟨es, clock, since, seen, c0, hb, F, hs, hD, hr, rest⟩ := h
  exact ⟨es, clock, since, seen, c0, hb'.trans hb, F, hs, hD, hr'.trans hr, rest⟩
end
open TextMap (RV)
variable {P : Program} {ts ks es : TypeId} {w w' : World} {b r n cnt : Nat} {f : List UInt8 → Option Value} {lf : List UInt8 → Bool}
/-- A range over the map f is under way: lf: who is still to come. -/
def Rng (P : Program) (ks : TypeId) (w : World) (b r n : Nat) (f : List UInt8 → Option Value) (lf : List UInt8 → Bool) (cnt : Nat) : Prop :=
  ∃ D left, w.ranges P ks RV b r n D left cnt ∧ (∀ q, Maps.has D (.string q) = (f q).isSome ∧ ∀ v, f q = some v → ∀ z, D.atKey (.string q) z = .held v) ∧ ∀ q, left (.string q) = lf q
theorem Rng.is (h : Rng P ks w b r n f lf cnt) : TextMap.Is P ks w b n f := by
  obtain ⟨D, left, h1, h2, _⟩ := h
  exact ⟨D, h1.owns, h2⟩
theorem Rng.moved (h : Rng P ks w b r n f lf cnt) (hb : w'.heap[b]? = w.heap[b]?) (hr : w'.heap[r]? = w.heap[r]?) : Rng P ks w' b r n f lf cnt := by
  obtain ⟨D, left, h1, h2, h3⟩ := h
  exact ⟨D, left, TextRange.moved h1 hb hr, h2, h3⟩
theorem Rng.lt (h : Rng P ks w b r n f lf cnt) : r < w.heap.size := by
  obtain ⟨D, left, h1, _⟩ := h
  exact h1.lt
theorem Rng.ne (h : Rng P ks w b r n f lf cnt) : r ≠ b := by
  obtain ⟨D, left, h1, _⟩ := h
  exact h1.ne
theorem Rng.below (h : Rng P ks w b r n f lf cnt) (k : Below w.heap.size w w') : Rng P ks w' b r n f lf cnt := h.moved (k.block _ h.is.lt) (k.block _ h.lt)
theorem Rng.left_eq (h : Rng P ks w b r n f lf cnt) : w.rangeLeft b r = cnt := by
  obtain ⟨D, left, h1, _⟩ := h
  exact h1.left_eq
section
variable {ops : Array Oper} {rest : List Oper} {o : Oper} {a : Act} {Q : Exit → Act → World → Prop}
theorem wpList_range (ht : P.underlying ts = some (.map ks es)) (hks : P.underlying ks = some .string) (hg : o.guard = none) (m : Operand) (hop : o.op = Op.range ts m) (b n : Nat) (f : List UInt8 → Option Value)
    (hm : a.eval m = .map (some b)) (hown : TextMap.Is P ks w b n f)
    (hK : ∀ w' cnt, Rng P ks w' b w.heap.size n f (fun q => (f q).isSome) cnt → Below w.heap.size w w' → wpList P ops Q rest (a.put o.dst (.pointer (some ⟨w.heap.size, 0, none⟩))) w') :
    wpList P ops Q (o :: rest) a w := by
  obtain ⟨D, h1, h2⟩ := hown
  refine wpList_range_own w hg m ts hop ks es (string_keyed hks) ht RV b n D hm h1 ?_
  intro w' r1 r2 r3
  exact hK w' _ ⟨D, _, r1, h2, fun q => (h2 q).1⟩ ⟨r2.os, r2.tape, r2.output, r2.size, fun i hi => r2.block i hi (by simp)⟩
theorem wpList_next (hks : P.underlying ks = some .string) (hg : o.guard = none) (it : Operand) (hop : o.op = Op.next it false) (b r n : Nat) (f : List UInt8 → Option Value) (lf : List UInt8 → Bool) (cnt : Nat)
    (hit : a.eval it = .pointer (some ⟨r, 0, none⟩)) (h : Rng P ks w b r n f lf cnt)
    (hDone : (∀ q, lf q = false) → wpList P ops Q rest (a.put o.dst (.tuple #[.bool false])) w)
    (hMore : ∀ (q : List UInt8) (c : Value) (w' : World) (cnt' : Nat), lf q = true → f q = some c → q.length ≤ maxLen → Rng P ks w' b r n f (fun x => lf x && !(x == q)) cnt' → cnt' < cnt → w.grownBy w' (some r) → w'.heap.size = w.heap.size →
      (Instr.entry (.pointer (some ⟨r, 0, none⟩))).run P w' = .ok (.tuple #[.string ⟨q.toArray⟩, c]) w' → wpList P ops Q rest (a.put o.dst (.tuple #[.bool true, .string ⟨q.toArray⟩, c])) w') :
    wpList P ops Q (o :: rest) a w := by
  obtain ⟨D, left, h1, h2, h3⟩ := h
  refine wpList_next_ranges w hg it hop ks (string_keyed hks) RV (fun q : List UInt8 => .string ⟨q.toArray⟩) (fun c : Value => c)
    (fun key kl hkey => by
      obtain ⟨s, rfl, _, _⟩ := WideMaps.string_of_keyOf hks hkey
      exact ⟨s.data.toList, by simp⟩) (fun v y _ => ⟨v, rfl⟩) b r n D left cnt hit h1 (fun _ hl => hDone fun q => (h3 q).symm.trans (hl _)) ?_
  intro q c kl y w' cnt' hkey hlk hRc hat hrg hlt hgr hsz hen
  obtain ⟨s, es, rfl, hsl⟩ := WideMaps.string_of_keyOf hks hkey
  simp only [Value.string.injEq] at es
  subst es
  have hql : q.length ≤ maxLen := by
    have e : (⟨q.toArray⟩ : ByteArray).size = q.length := by show q.toArray.size = _; simp
    rw [e] at hsl
    exact hsl
  have hin := has_left h1 (string_keyed hks) hlk
  have e2 : (⟨q.toArray⟩ : ByteArray).data.toList = q := by simp
  rw [e2] at hlk hin hat hrg
  cases hRc
  have hf : f q = some c := by
    have h4 := (h2 q).1
    rw [hin] at h4
    cases hq : f q with
    | none => rw [hq] at h4; cases h4
    | some v =>
      have h5 := (h2 q).2 v hq (.held v)
      rw [hat] at h5
      cases h5; rfl
  refine hMore q c w' cnt' ((h3 q).symm.trans hlk) hf hql ⟨D, _, hrg, h2, fun x => ?_⟩ hlt hgr hsz hen
  show (left (.string x) && !(Lit.string x).sameKey (.string q)) = _
  rw [h3 x]
  rfl
theorem wpList_store (ht : P.underlying ts = some (.map ks es)) (hks : P.underlying ks = some .string) (hg : o.guard = none) (m x v : Operand) (hop : o.op = Op.mapUpdate ts m x v) (b r n : Nat) (f : List UInt8 → Option Value) (lf : List UInt8 → Bool) (cnt : Nat) (q : List UInt8) (val : Value)
    (hm : a.eval m = .map (some b)) (h : Rng P ks w b r n f lf cnt) (hn : n < maxLen) (hx : a.eval x = .string ⟨q.toArray⟩) (hq : q.length ≤ maxLen) (hin : (f q).isSome = true) (hv : a.eval v = val)
    (hK : ∀ w', Rng P ks w' b r n (TextMap.put f q val) lf cnt → w.grownBy w' (some b) → wpList P ops Q rest (a.put o.dst undef) w') : wpList P ops Q (o :: rest) a w := by
  refine wpList_plain hg fun K' hK' => ?_
  obtain ⟨D, left, h1, h2, h3⟩ := h
  obtain ⟨w', hrun, r1, r2⟩ := store h1 (string_keyed hks) ht hn (TextMap.key_of hks hq) (val := val) (d := .held val) (ps := []) ((h2 q).1.trans hin) rfl
  unfold Oper.wp
  simp [execOp, hop, hm, hx, hv, hrun, Result.andThen]
  refine hK' _ _ (hK w' ⟨_, left, r1, fun y => ?_, h3⟩ r2)
  have hM := World.ownsMap.isMap h1.owns
  unfold TextMap.put
  by_cases e : y = q
  · subst e
    rw [if_pos rfl]
    refine ⟨has_put_same hM (by trivial) _, fun u hu z => ?_⟩
    cases hu
    exact atKey_put_same hM (by trivial) _ _
  · rw [if_neg e]
    have hne : Lit.string y ≠ Lit.string q := fun h => e (by cases h; rfl)
    refine ⟨(has_put_other hne _).trans (h2 y).1, fun u hu z => ?_⟩
    rw [atKey_put_other hne]
    exact (h2 y).2 u hu z
end
end TextRange
end Go.Proofs.YtjnlooccddnbkaaGreatDoor
