/- beats that came in; contracts in the law's own words; plain facts behind Health's laws. -/
import Derived.Test.YtfdcmmafdgagoaaBeatWorks
import Derived.Test.YtfdcmmafdgagoaaBeatOf
namespace Go.Proofs.Ytfdcmmafdgagoaa
namespace Beat
open Go.RowKit Go.Proofs.Ytfdcmmafdgagoaa.Order
/-- What came in. -/
def Came (w : World) (s : Option Addr) (c : Nat) (L : List B) : Prop := Lies w s L.length L ∧ L.length ≤ 140737488351232 ∧ L.length ≤ c ∧ c ≤ maxLen ∧ (s = none → c = 0)
set_option maxRecDepth 100000 in
theorem open_came {H : Type} {enc' : TypeId × Value → H} {w : World} {base b0 : Nat} {spare : Nat → Bool} {held : Bool} {r : Reach} {v : Value} {d : DataW H} {ps : List MemPlace} {ts : List TypeId} {ds : List (DataW H)} {j : Nat}
    (hz : (DataW.weightsEach Try.prog ts ds).all (· ≤ reachBytes) = true) (ht : ts[j]? = some 22) (hd : ds[j]? = some d) (hv : Value.okWide Try.prog w r b0 22 v)
    (h : DataW.Trod enc' Try.prog w base spare held 22 v d ps) : ∃ (L : List B) (a : Option Addr) (c : Nat), v = .slice a L.length c ∧ Came w a c L ∧ ∀ x ∈ L, x.Was := by
  obtain ⟨a0, n0, c0, rfl⟩ := Go.WideShapes.okWide_slice Try.underlying22 hv
  have hT := Tr.of hz ht hd h
  obtain ⟨a, c, L, e, h1, h2, h3, h4⟩ := Row.rows_in (E := enc) Try.underlying22 c_beat (by kernel_rfl) (fun cs h => beat_in h) hT
  obtain ⟨a', n', c', e', _, h5, h6, _⟩ := Tr.slice Try.underlying22 hT
  rw [e] at e'
  simp only [Value.cells, List.cons.injEq, and_true, Value.slice.injEq] at e e'
  obtain ⟨rfl, rfl, rfl⟩ := e
  obtain ⟨rfl, rfl, rfl⟩ := e'
  exact ⟨L, _, _, rfl, ⟨h1, h3, h5, h6, h4⟩, h2⟩
theorem mem_sum : ∀ (L : List B) (x : B), x ∈ L → x.p.length ≤ sumB L
  | y :: L, x, h => by
    have e : sumB (y :: L) = y.p.length + sumB L := by unfold sumB; simp
    rcases List.mem_cons.1 h with rfl | h
    · omega
    · have := mem_sum L x h; omega
theorem light {L : List B} (h : heavyB L = false) : L.length ≤ 40 ∧ Small L := by
  unfold heavyB at h
  rw [Bool.or_eq_false_iff, decide_eq_false_iff_not, decide_eq_false_iff_not] at h
  refine ⟨by omega, fun x hx => ?_⟩
  have h1 := mem_sum L x hx
  omega
/-- An answer that is a slice: these beats. -/
def Got (R : List B) (w : World) (e : Ending) (w' : World) : Prop := ∃ s c, e = .returned (.slice s R.length c) ∧ Came w' s c R ∧ Below w.heap.size w w'
theorem got_of {R : List B} {w w' : World} {v : Value} (h : Mine w' w.heap.size v R) (hn : R.length ≤ 140737488351232) (k : Below w.heap.size w w') : Got R w (.returned v) w' := by
  obtain ⟨a, c, rfl, h1, h2, h3, _, h4⟩ := Row.Own.lies' h
  exact ⟨a, c, rfl, ⟨h3, hn, h1, h2, h4⟩, k⟩
theorem Came.below {w w' : World} {s : Option Addr} {c : Nat} {L : List B} (h : Came w s c L) (k : Below w.heap.size w w') : Came w' s c L := ⟨Row.Lies.below h.1 k, h.2⟩
section
variable {L K R : List B} {q : List UInt8} {s s2 : Option Addr} {c c2 : Nat} {w : World}
theorem copied_got (h : Came w s c L) (hn : L.length ≤ 1000) : Calls Try.prog 9 #[.slice s L.length c] w (Got L w) := by
  refine (copied_any L s c w h.1 (by omega)).mono ?_
  rintro e w' ⟨v, rfl, o, k⟩
  exact got_of o (by omega) k
theorem join_got (hR : joinB L K = R) (h : Came w s c L) (h2 : Came w s2 c2 K) (hs : Small L) (hs2 : Small K) (hn : R.length ≤ 1000) :
    Calls Try.prog 12 #[.slice s L.length c, .slice s2 K.length c2] w (Got R w) := by
  have hx := h.2.2.2.1
  have hy := h2.2.2.2.1
  unfold maxLen at hx hy
  refine (join_any L K s s2 c c2 w h.1 h2.1 hs hs2 h.2.2.1 h2.2.2.1 hx hy).mono ?_
  rintro e w' ⟨v, rfl, o, k⟩
  rw [hR] at o
  exact got_of o (by omega) k
theorem sus_got (hR : susB L q = R) (h : Came w s c L) (hs : Small L) (hq : q.length ≤ 1099511627776) (hn : R.length ≤ 1000) :
    Calls Try.prog 13 #[.slice s L.length c, .string ⟨q.toArray⟩] w (Got R w) := by
  refine (suspect_any L q s c w h.1 hs hq).mono ?_
  rintro e w' ⟨v, rfl, o, k⟩
  rw [hR] at o
  exact got_of o (by omega) k
theorem ref_got (hR : refB L q = R) (h : Came w s c L) (hs : Small L) (hq : q.length ≤ 1099511627776) (hn : R.length ≤ 1000) :
    Calls Try.prog 14 #[.slice s L.length c, .string ⟨q.toArray⟩] w (Got R w) := by
  refine (refute_any L q s c w h.1 hs hq).mono ?_
  rintro e w' ⟨v, rfl, o, k⟩
  rw [hR] at o
  exact got_of o (by omega) k
theorem of_is {x : B} {is : Bool} (hx : ofB L q = x) (hi : isB L q = is) (h : Came w s c L) (hs : Small L) (hq : q.length ≤ 1099511627776) :
    Calls Try.prog 10 #[.slice s L.length c, .string ⟨q.toArray⟩] w fun e w' => e = .returned (.tuple #[.agg #[.string ⟨x.p.toArray⟩, .int .u64 (x.n : Int), .bool x.bad], .bool is]) ∧ Below w.heap.size w w' := by
  have := of_any L q s c w h.1 hs hq
  rw [hx, hi] at this
  exact this
theorem drop_got {ps : List (List UInt8)} (hR : dropB L ps = R) (h : Came w s c L) (h2 : Words.Lies w s2 ps.length ps) (hs : Small L) (hq : ∀ p ∈ ps, p.length ≤ 1099511627776) (hm : ps.length ≤ 1000) (hn : R.length ≤ 1000) :
    Calls Try.prog 15 #[.slice s L.length c, .slice s2 ps.length c2] w (Got R w) := by
  refine (drop_any L ps s s2 c c2 w h.1 h2 hs hq (by omega)).mono ?_
  rintro e w' ⟨v, rfl, o, k⟩
  rw [hR] at o
  exact got_of o (by omega) k
theorem put_got {x : B} (hR : putL L x = R) (h : Came w s c L) (hl : L.length ≤ 1000) :
    Calls Try.prog 20 #[.slice s L.length c, .agg #[.string ⟨x.p.toArray⟩, .int .u64 (x.n : Int), .bool x.bad]] w (Got R w) := by
  have hx := h.2.2.2.1
  unfold maxLen at hx
  refine (rput_any L x s c w h.1 (by omega) h.2.2.1 hx h.2.2.2.2).mono ?_
  rintro e w' ⟨v, rfl, o, k⟩
  have := put_length L x
  rw [hR] at o this
  exact got_of o (by omega) k
theorem rjoin_got (hR : joinR L K = R) (h : Came w s c L) (h2 : Came w s2 c2 K) (hn : L.length + K.length ≤ 1000) :
    Calls Try.prog 18 #[.slice s L.length c, .slice s2 K.length c2] w (Got R w) := by
  refine (rjoin_any L K s s2 c c2 w h.1 h2.1 (by omega)).mono ?_
  rintro e w' ⟨v, rfl, o, k⟩
  have := joinR_length L K
  rw [hR] at o this
  exact got_of o (by omega) k
end
-- plain
theorem may_go : ∀ (L : List B) (o : Option (List UInt8)), (∀ x ∈ L, x.n ≤ 281474976710656 ∧ pathB x.p = true) → Rise L → (∀ l, o = some l → ∀ x ∈ L, lt l x.p) → mayGo o L = true
  | [], _, _, _, _ => rfl
  | x :: L, o, h, hr, ho => by
    have hx := h x List.mem_cons_self
    have hp := List.pairwise_cons.1 hr
    rw [mayGo]
    have hb : badB o x = false := by
      unfold badB
      rw [hx.2, decide_eq_false (by omega : ¬ 281474976710656 < x.n)]
      cases o with
      | none => rfl
      | some l =>
        have hl := ho l rfl x List.mem_cons_self
        unfold lt at hl
        have hf := cmp_flip l x.p
        simp only [Bool.not_true, Bool.or_false, decide_eq_false_iff_not]
        omega
    rw [hb]
    exact may_go L _ (fun y hy => h y (List.mem_cons_of_mem _ hy)) hp.2 (fun l e y hy => by cases e; exact hp.1 y hy)
theorem may_of {L : List B} (hl : L.length ≤ 24) (h : ∀ x ∈ L, x.n ≤ 281474976710656 ∧ pathB x.p = true) (hr : Rise L) : mayB L = true := by
  unfold mayB
  rw [decide_eq_true hl, may_go L none h hr (fun l e => by cases e)]; rfl
theorem put_len_has : ∀ (L : List B) (b : B) (y : B), Rise L → look L b.p = some y → (putL L b).length = L.length
  | [], b, y, _, h => by cases h
  | x :: L, b, y, hr, h => by
    rw [putL]
    have hp := List.pairwise_cons.1 hr
    by_cases h1 : lt x.p b.p
    · rw [if_pos h1]
      rw [look_cons, if_neg (lt_ne h1)] at h
      simp only [List.length_cons, put_len_has L b y hp.2 h]
    · rw [if_neg h1]
      by_cases h2 : x.p = b.p
      · rw [if_pos h2]; rfl
      · exfalso
        have h3 : lt b.p x.p := by rcases lt_ways x.p b.p with h | h | h; exact absurd h h1; exact absurd h h2; exact h
        rw [look_cons, if_neg h2, look_above hr (.inr h3)] at h
        cases h
theorem small_put {L : List B} {b : B} (h : Small L) (hb : b.p.length ≤ 1099511627776) : Small (putL L b) := fun x hx => by
  rcases put_mem L b x hx with rfl | hx
  · exact hb
  · exact h x hx
theorem small_merge {L K : List B} (h : Small L) (h2 : Small K) : Small (mergeL L K) := fun x hx => by
  obtain ⟨y, hy, e⟩ := merge_mem L K x hx
  rw [e]
  rcases hy with hy | hy
  · exact h y hy
  · exact h2 y hy
theorem merge_n : ∀ (a b : List B) (z : B), z ∈ mergeL a b → z ∈ a ∨ z ∈ b
  | [], b, z, h => by rw [mergeL] at h; exact .inr h
  | x :: a, [], z, h => by rw [mergeL] at h; exact .inl h
  | x :: a, y :: b, z, h => by
    rw [mergeL] at h
    split at h
    · rcases List.mem_cons.1 h with rfl | h
      · exact .inl List.mem_cons_self
      · exact (merge_n a (y :: b) z h).imp (List.mem_cons_of_mem _) id
    split at h
    · rcases List.mem_cons.1 h with rfl | h
      · exact .inr List.mem_cons_self
      · exact (merge_n (x :: a) b z h).imp id (List.mem_cons_of_mem _)
    · rcases List.mem_cons.1 h with rfl | h
      · unfold greater; split
        · exact .inr List.mem_cons_self
        · exact .inl List.mem_cons_self
      · exact (merge_n a b z h).imp (List.mem_cons_of_mem _) (List.mem_cons_of_mem _)
  termination_by a b => a.length + b.length
theorem may_merge {L K : List B} (h : mayB L = true) (h2 : mayB K = true) (hn : (mergeL L K).length ≤ 24) : mayB (mergeL L K) = true := by
  obtain ⟨_, f, r⟩ := may_facts h
  obtain ⟨_, f2, r2⟩ := may_facts h2
  exact may_of hn (fun x hx => (merge_n L K x hx).elim (f x) (f2 x)) (merge_rise L K r r2)
theorem may_put {L : List B} {b : B} (h : mayB L = true) (hb : b.n ≤ 281474976710656 ∧ pathB b.p = true) (hn : (putL L b).length ≤ 24) : mayB (putL L b) = true := by
  obtain ⟨_, f, r⟩ := may_facts h
  refine may_of hn (fun x hx => ?_) (put_rise L b r)
  rcases put_mem L b x hx with rfl | hx
  · exact hb
  · exact f x hx
theorem look_put {L : List B} {b : B} (h : mayB L = true) : look (putL L b) b.p = some b := by
  rw [put_look L b (may_facts h).2.2, if_pos rfl]
theorem of_put {L : List B} {b : B} (h : mayB L = true) (hp : mayB (putL L b) = true) (hq : pathB b.p = true) : ofB (putL L b) b.p = b := by
  unfold ofB
  rw [hp, hq, look_put h]; rfl
theorem HealthPlain_clears {L K : List B} {q : List UInt8} (hL : mayB L = true) (hK : mayB K = true) (hq : pathB q = true) (hn : L.length + K.length + 1 ≤ 24) (sL : Small L) (sK : Small K) (sq : q.length ≤ 1099511627776) :
    ∃ (all bad : List B) (n : Nat), joinB L K = all ∧ (all.length ≤ 1000 ∧ Small all) ∧ susB all q = bad ∧ (bad.length ≤ 1000 ∧ Small bad) ∧ ofB bad q = ⟨q, n, true⟩ ∧ n ≤ 281474976710656 ∧
      (n < 281474976710656 → ∃ fine again : List B, refB bad q = fine ∧ (fine.length ≤ 1000 ∧ Small fine) ∧ joinB fine bad = fine ∧ ofB fine q = ⟨q, n + 1, false⟩ ∧ susB fine q = again ∧ (again.length ≤ 1000 ∧ Small again) ∧ ofB again q = ⟨q, n + 1, true⟩) := by
  have lm := merge_length L K
  have mA := may_merge hL hK (by omega)
  have sA := small_merge sL sK
  have hj : joinB L K = mergeL L K := by unfold joinB; rw [hL, hK]; rfl
  generalize mergeL L K = all at *
  obtain ⟨n, hnn⟩ : ∃ n, n = ((look all q).map (·.n)).getD 0 := ⟨_, rfl⟩
  have hn0 : n ≤ 281474976710656 := by
    cases h : look all q with
    | none => rw [h] at hnn; rw [hnn]; exact Nat.zero_le _
    | some x => rw [h] at hnn; rw [hnn]; exact ((may_facts mA).2.1 x (look_some h).2).1
  have hs : susB all q = putL all ⟨q, n, true⟩ := by unfold susB; rw [mA, hq, ← hnn]; rfl
  have lB := put_length all ⟨q, n, true⟩
  have mB := may_put (b := ⟨q, n, true⟩) mA ⟨hn0, hq⟩ (by omega)
  have sB := small_put (b := ⟨q, n, true⟩) sA sq
  have kB := look_put (b := ⟨q, n, true⟩) mA
  have oB := of_put (b := ⟨q, n, true⟩) mA mB hq
  generalize putL all ⟨q, n, true⟩ = bad at *
  refine ⟨all, bad, n, hj, ⟨by omega, sA⟩, hs, ⟨by omega, sB⟩, oB, hn0, fun hlt => ?_⟩
  have hr : refB bad q = putL bad ⟨q, n + 1, false⟩ := by
    unfold refB
    rw [mB, hq]
    simp only [Bool.and_self, if_true, kB, decide_eq_true hlt]
  have lF := put_len_has bad ⟨q, n + 1, false⟩ _ (may_facts mB).2.2 kB
  have mF := may_put (b := ⟨q, n + 1, false⟩) mB ⟨by show n + 1 ≤ _; omega, hq⟩ (by omega)
  have sF := small_put (b := ⟨q, n + 1, false⟩) sB sq
  have kF := look_put (b := ⟨q, n + 1, false⟩) mB
  have oF := of_put (b := ⟨q, n + 1, false⟩) mB mF hq
  have pF := put_look bad ⟨q, n + 1, false⟩ (may_facts mB).2.2
  generalize putL bad ⟨q, n + 1, false⟩ = fine at *
  have rF := (may_facts mF).2.2
  have rB := (may_facts mB).2.2
  have hjf : joinB fine bad = fine := by
    unfold joinB
    rw [mF, mB, Bool.and_self, if_pos rfl]
    refine rise_ext _ _ (merge_rise _ _ rF rB) rF (fun r => ?_)
    rw [merge_look _ _ rF rB, pF r]
    by_cases e : r = q
    · rw [if_pos e, e, kB]
      show some (greater _ _) = _
      unfold greater
      rw [if_neg (by simp)]
    · rw [if_neg e]
      cases look bad r with
      | none => rfl
      | some x => show some (greater x x) = _; unfold greater; split <;> rfl
  have hs2 : susB fine q = putL fine ⟨q, n + 1, true⟩ := by unfold susB; rw [mF, hq, kF]; rfl
  have lG := put_len_has fine ⟨q, n + 1, true⟩ _ rF kF
  have mG := may_put (b := ⟨q, n + 1, true⟩) mF ⟨by show n + 1 ≤ _; omega, hq⟩ (by omega)
  exact ⟨fine, putL fine ⟨q, n + 1, true⟩, hr, ⟨by omega, sF⟩, hjf, oF, hs2, ⟨by omega, small_put sF sq⟩, of_put mF mG hq⟩
end Beat
end Go.Proofs.Ytfdcmmafdgagoaa
