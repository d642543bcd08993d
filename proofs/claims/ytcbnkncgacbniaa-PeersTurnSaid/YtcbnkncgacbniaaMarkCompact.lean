
/- package slices at marks: CompactFunc. -/
import Derived.Test.YtcbnkncgacbniaaMarkFn
namespace Go.Proofs.Ytcbnkncgacbniaa
namespace Mark
open Go.RowKit

/-- The first of each run of ones that are alike. -/
def dgo (p : M → M → Bool) : M → List M → List M
  | _, [] => []
  | x, y :: r => if p y x then dgo p y r else y :: dgo p y r
def dedup (p : M → M → Bool) : List M → List M
  | [] => []
  | x :: r => x :: dgo p x r
theorem dgo_snoc (p : M → M → Bool) : ∀ (r : List M) (x y : M), dgo p x (r ++ [y]) = dgo p x r ++ (if p y ((x :: r).getLast (by simp)) then [] else [y])
  | [], x, y => by
    simp only [List.nil_append, dgo, List.getLast_singleton]
    rfl
  | z :: r, x, y => by
    have e : (x :: z :: r).getLast (by simp) = (z :: r).getLast (by simp) := List.getLast_cons (by simp)
    rw [List.cons_append, dgo, dgo, dgo_snoc p r z y, e]
    split <;> simp
theorem dedup_snoc (p : M → M → Bool) (L : List M) (hL : L ≠ []) (y : M) : dedup p (L ++ [y]) = dedup p L ++ (if p y (L.getLast hL) then [] else [y]) := by
  cases L with
  | nil => exact absurd rfl hL
  | cons x r => rw [List.cons_append, dedup, dedup, dgo_snoc]; rfl
theorem dedup_step (p : M → M → Bool) (L : List M) (j : Nat) (h : j + 1 < L.length) : dedup p (L.take (j + 1 + 1)) = dedup p (L.take (j + 1)) ++ (if p L[j + 1] L[j] then [] else [L[j + 1]]) := by
  rw [List.take_succ_eq_append_getElem h, dedup_snoc p _ (by intro e; have := congrArg List.length e; rw [List.length_take, List.length_nil] at this; omega)]
  congr 2
  rw [List.getLast_eq_getElem]
  simp
  have : min (j + 1) L.length - 1 = j := by omega
  simp [this]
/-- What the row holds while ones alike are left out. -/
structure Com (p : M → M → Bool) (L K : List M) (i j : Nat) : Prop where
  len : K.length = L.length
  lt : i < j
  le : j ≤ L.length
  head : K.take i = dedup p (L.take j)
  tail : K.drop (j - 1) = L.drop (j - 1)
theorem Com.get {p : M → M → Bool} {L K : List M} {i j : Nat} (h : Com p L K i j) {k : Nat} (h1 : j - 1 ≤ k) (hk : k < L.length) : K[k]'(by rw [h.len]; exact hk) = L[k] := by
  have := congrArg (fun l => l[k - (j - 1)]?) h.tail
  simp only [List.getElem?_drop] at this
  rw [show j - 1 + (k - (j - 1)) = k by omega, List.getElem?_eq_getElem (by rw [h.len]; exact hk), List.getElem?_eq_getElem hk] at this
  exact Option.some.inj this
theorem Com.tl {p : M → M → Bool} {L K : List M} {i j : Nat} (h : Com p L K i j) : K.drop j = L.drop j := by
  have hlt := h.lt
  have := congrArg List.tail h.tail
  rwa [List.tail_drop, List.tail_drop, show j - 1 + 1 = j by omega] at this
theorem Com.keep {p : M → M → Bool} {L K : List M} {i j : Nat} (h : Com p L K i (j + 1)) (hj : j + 1 < L.length) (m : M) (hm : L[j + 1] = m) (hp : p L[j + 1] L[j] = false) : Com p L (K.set i m) (i + 1) (j + 1 + 1) := by
  have hlt := h.lt
  have hlen := h.len
  refine ⟨by rw [List.length_set]; exact h.len, by omega, by omega, ?_, ?_⟩
  · rw [dedup_step p L j hj, hp, ← h.head, List.take_succ_eq_append_getElem (by rw [List.length_set]; omega), List.getElem_set_self, List.take_set_of_le (Nat.le_refl _), hm]
    rfl
  · show (K.set i m).drop (j + 1) = L.drop (j + 1)
    rw [List.drop_set_of_lt (by omega)]
    exact h.tl
theorem Com.skip {p : M → M → Bool} {L K : List M} {i j : Nat} (h : Com p L K i (j + 1)) (hj : j + 1 < L.length) (hp : p L[j + 1] L[j] = true) : Com p L K i (j + 1 + 1) := by
  have hlt := h.lt
  refine ⟨h.len, by omega, by omega, ?_, ?_⟩
  · rw [dedup_step p L j hj, hp, ← h.head]; simp
  · exact h.tl
theorem Com.fin {p : M → M → Bool} {L K : List M} {i j : Nat} (h : Com p L K i j) (hj : j = L.length) : (flat K).take (i * 2) = flat (dedup p L) ∧ i = (dedup p L).length := by
  have h1 : K.take i = dedup p L := by rw [h.head, hj, List.take_length]
  refine ⟨by rw [← flat_take, h1], ?_⟩
  have := h.lt
  have := h.len
  rw [← h1, List.length_take]; omega


theorem dedup_step' (p : M → M → Bool) (L : List M) (f j : Nat) (e : f = j + 1) (h : f < L.length) (hj : j < L.length) : dedup p (L.take (f + 1)) = dedup p (L.take f) ++ (if p L[f] L[j] then [] else [L[f]]) := by
  subst e; exact dedup_step p L j h
theorem Com.keep' {p : M → M → Bool} {L K : List M} {i e j : Nat} (h : Com p L K i e) (he : e = j + 1) (hl : e < L.length) (hj : j < L.length) (m k : M) (hm : L[e] = m) (hk : L[j] = k) (hp : p m k = false) : Com p L (K.set i m) (i + 1) (e + 1) := by
  subst he
  exact h.keep hl m hm (by rw [hm, hk]; exact hp)
theorem Com.skip' {p : M → M → Bool} {L K : List M} {i e j : Nat} (h : Com p L K i e) (he : e = j + 1) (hl : e < L.length) (hj : j < L.length) (m k : M) (hm : L[e] = m) (hk : L[j] = k) (hp : p m k = true) : Com p L K i (e + 1) := by
  subst he
  exact h.skip hl (by rw [hm, hk]; exact hp)

set_option maxRecDepth 100000 in
set_option maxHeartbeats 4000000 in
theorem compact_any (g : Nat) (lb : Array Value) (p : M → M → Bool) (B : Nat) (eg : Enters g) (L : List M) (v : Value) (w : World) (hB : B ≤ w.heap.size) (hp : Pred2 g lb p B w) (hO : Own w B v L) (hn : L.length ≤ 1099511627776) :
    Calls Try.prog 56 #[v, .func (.func g) #[] lb] w fun e w' => ∃ v', e = .returned v' ∧ Own w' B v' (dedup p L) ∧ Below B w w' := by
  have eg' : ∀ args w, (callFunc g args).run Try.prog w = .ok (.enter g args) w := eg
  by_cases h2 : L.length < 2
  · have hd : dedup p L = L := by
      match L, h2 with
      | [], _ => rfl
      | [x], _ => rfl
    obtain ⟨a, c, rfl, _, _, _, _⟩ := hO.lies
    have d : decide ((L.length : Int) < 2) = true := decide_eq_true (by omega)
    have HD := Lib.hid hd
    have HO := Lib.hid hO
    clear hp eg hd hO
    go_enter Try.func56, Try.ntmps56
    go_wp2
    go_ret
    exact ⟨_, rfl, by rw [HD.out]; exact HO.out, Below.refl _ _⟩
  obtain ⟨q, c, rfl, hnc, hcm, hBq⟩ := hO.some (by intro e; rw [e] at h2; simp at h2)
  have HP := Lib.hid hp
  have HO : Hid (w.ownsRow B 55 2 (.slice (some ⟨q, 0, none⟩) L.length c) L.length (flat L)) := Lib.hid hO
  obtain ⟨n, hn'⟩ : ∃ n, n = L.length := ⟨_, rfl⟩
  have HN := Lib.hid hn'
  rw [← hn'] at HO hnc hn h2 ⊢
  have d : decide ((n : Int) < 2) = false := decide_eq_false (by omega)
  have hc9 : c ≤ 9223372036854775807 := hcm
  clear hp eg hO hn'
  go_enter Try.func56, Try.ntmps56
  go_wp2_with fail
  go_loopw [5] (fun kv wr => ∃ f j : Nat, Hid (f = j + 1) ∧ j < f ∧ f ≤ n ∧ kv = .int .i64 (f : Int) ∧ Hid (dedup p (L.take f) = L.take f) ∧ Hid (wr.ownsRow B 55 2 (.slice (some ⟨q, 0, none⟩) n c) n (flat L)) ∧ Below B w wr) (fun kv _ => n - (intOf kv).toNat)
  case atStart => exact ⟨1, 0, Lib.hid rfl, by omega, by omega, rfl, Lib.hid (by cases L with | nil => rfl | cons x r => rfl), HO, Below.refl _ _⟩
  case round =>
    obtain ⟨f, j, HF, hjf, hf, rfl, HI, HW, hb⟩ := hrel
    have hln := HN.out
    have hbs : B ≤ wr.heap.size := Nat.le_trans hB hb.size
    by_cases hlt : f < n
    · have d1 : decide ((f : Int) < (n : Int)) = true := decide_eq_true (by omega)
      have hfl : f < L.length := by omega
      have hjl : j < L.length := by omega
      have hf1 := flat_get L f hfl
      have hf0 := flat_get L j hjl
      have c1 := (HW.out.cellAt (f * 2) (by omega)).trans hf1.1
      have c2 := (HW.out.cellAt (f * 2 + 1) (by omega)).trans hf1.2
      have c3 := (HW.out.cellAt (j * 2) (by omega)).trans hf0.1
      have c4 := (HW.out.cellAt (j * 2 + 1) (by omega)).trans hf0.2
      obtain ⟨m, hm⟩ : ∃ m, m = L[f]'hfl := ⟨_, rfl⟩
      obtain ⟨k, hk⟩ : ∃ k, k = L[j]'hjl := ⟨_, rfl⟩
      rw [← hm] at c1 c2
      rw [← hk] at c3 c4
      have hst := dedup_step' p L f j HF.out hfl hjl
      rw [HI.out] at hst
      rw [← hm, ← hk] at hst
      have htk := List.take_succ_eq_append_getElem hfl
      rw [← hm] at htk
      have CALL := Lib.hid (fun W (k1 : Below B w W) => HP.out W m k k1)
      simp only [get_agg] at CALL
      obtain ⟨r, hr⟩ : ∃ r, r = p m k := ⟨_, rfl⟩
      rw [← hr] at CALL hst
      have hw : IntKind.i64.wrap ((f : Int) - 1) = (j : Int) := by rw [IntKind.wrap_i64]; have := HF.out; omega
      have hj0 : (0 : Int) ≤ (j : Int) := by omega
      have hjn : (j : Int) < (n : Int) := by omega
      have hj1 : (0 : Int) ≤ (f : Int) := by omega
      have hjn1 : (f : Int) < (n : Int) := by omega
      have HR := Lib.hid hr
      have HS := Lib.hid hst
      have HT := Lib.hid htk
      clear hf1 hf0 hm hk hr hst htk hln
      cases r with
      | false =>
        go_wp2_with fail
        refine wp_region_noPanic ?_
        refine wp_region_held_drew (S := (fun w' => (w'.cell? ⟨q, f * 2, none⟩ = some (.string ⟨m.p.toArray⟩) ∧ w'.cell? ⟨q, f * 2 + 1, none⟩ = some (.int .u64 (m.n : Int))) ∧ w'.cell? ⟨q, j * 2, none⟩ = some (.string ⟨k.p.toArray⟩) ∧ w'.cell? ⟨q, j * 2 + 1, none⟩ = some (.int .u64 (k.n : Int)))) (by kernel_rfl) (⟨⟨c1, c2⟩, c3, c4⟩) (fun hHeld => ?_)
        refine wpAnyH_take (i := 0) (v := ?_) (by simp only [List.getElem?_toArray, List.getElem?_cons_zero]; rfl) (by kernel_rfl) (by kernel_rfl) (by kernel_rfl) (fun _ _ _ h => h) (Or.inl ⟨by rfl, ?_⟩) (by assumption) ?_
        rotate_left
        · (intro w hSw; (try dsimp only at hSw); go_simp; try with_reducible rfl)
        try simp only [Act.put, List.setIfInBounds_toArray, List.set_cons_zero, List.set_cons_succ]
        refine wpAnyH_take (i := 1) (v := ?_) (by simp only [List.getElem?_toArray, List.getElem?_cons_succ, List.getElem?_cons_zero]; rfl) (by kernel_rfl) (by kernel_rfl) (by kernel_rfl) (fun _ _ _ h => h) (Or.inl ⟨by rfl, ?_⟩) (by assumption) ?_
        rotate_left
        · (intro w hSw; (try dsimp only at hSw); go_simp; try with_reducible rfl)
        try simp only [Act.put, List.setIfInBounds_toArray, List.set_cons_zero, List.set_cons_succ]
        refine wpAnyH_take (i := 2) (v := ?_) (by simp only [List.getElem?_toArray, List.getElem?_cons_succ, List.getElem?_cons_zero]; rfl) (by kernel_rfl) (by kernel_rfl) (by kernel_rfl) (fun _ _ _ h => h) (Or.inl ⟨by rfl, ?_⟩) (by assumption) ?_
        rotate_left
        · (intro w hSw; (try dsimp only at hSw); go_simp; try with_reducible rfl)
        try simp only [Act.put, List.setIfInBounds_toArray, List.set_cons_zero, List.set_cons_succ]
        refine wpAnyH_take (i := 3) (v := ?_) (by simp only [List.getElem?_toArray, List.getElem?_cons_succ, List.getElem?_cons_zero]; rfl) (by kernel_rfl) (by kernel_rfl) (by kernel_rfl) (fun _ _ _ h => h) (Or.inl ⟨by rfl, ?_⟩) (by assumption) ?_
        rotate_left
        · (intro w hSw; (try dsimp only at hSw); go_simp; try with_reducible rfl)
        try simp only [Act.put, List.setIfInBounds_toArray, List.set_cons_zero, List.set_cons_succ]
        refine wpAnyH_take (i := 4) (v := ?_) (by simp only [List.getElem?_toArray, List.getElem?_cons_succ, List.getElem?_cons_zero]; rfl) (by kernel_rfl) (by kernel_rfl) (by kernel_rfl) (fun _ _ _ h => h) (Or.inl ⟨by rfl, ?_⟩) (by assumption) ?_
        rotate_left
        · (intro w hSw; (try dsimp only at hSw); go_simp; try with_reducible rfl)
        try simp only [Act.put, List.setIfInBounds_toArray, List.set_cons_zero, List.set_cons_succ]
        refine wpAnyH_take (i := 5) (v := ?_) (by simp only [List.getElem?_toArray, List.getElem?_cons_succ, List.getElem?_cons_zero]; rfl) (by kernel_rfl) (by kernel_rfl) (by kernel_rfl) (fun _ _ _ h => h) (Or.inl ⟨by rfl, ?_⟩) (by assumption) ?_
        rotate_left
        · (intro w hSw; (try dsimp only at hSw); go_simp; try with_reducible rfl)
        try simp only [Act.put, List.setIfInBounds_toArray, List.set_cons_zero, List.set_cons_succ]
        refine wpAnyH_take (i := 6) (v := ?_) (by simp only [List.getElem?_toArray, List.getElem?_cons_succ, List.getElem?_cons_zero]; rfl) (by kernel_rfl) (by kernel_rfl) (by kernel_rfl) (fun _ _ _ h => h) (Or.inl ⟨by rfl, ?_⟩) (by assumption) ?_
        rotate_left
        · (intro w hSw; (try dsimp only at hSw); go_simp; try with_reducible rfl)
        try simp only [Act.put, List.setIfInBounds_toArray, List.set_cons_zero, List.set_cons_succ]
        refine wpAnyH_take (i := 7) (v := ?_) (by simp only [List.getElem?_toArray, List.getElem?_cons_succ, List.getElem?_cons_zero]; rfl) (by kernel_rfl) (by kernel_rfl) (by kernel_rfl) (fun _ _ _ h => h) (Or.inl ⟨by rfl, ?_⟩) (by assumption) ?_
        rotate_left
        · (intro w hSw; (try dsimp only at hSw); go_simp; try with_reducible rfl)
        try simp only [Act.put, List.setIfInBounds_toArray, List.set_cons_zero, List.set_cons_succ]
        refine wpAnyH_take (i := 8) (v := ?_) (by simp only [List.getElem?_toArray, List.getElem?_cons_succ, List.getElem?_cons_zero]; rfl) (by kernel_rfl) (by kernel_rfl) (by kernel_rfl) (fun _ _ _ h => h) (Or.inl ⟨by rfl, ?_⟩) (by assumption) ?_
        rotate_left
        · (intro w hSw; (try dsimp only at hSw); go_simp; try with_reducible rfl)
        try simp only [Act.put, List.setIfInBounds_toArray, List.set_cons_zero, List.set_cons_succ]
        refine wpAnyH_take (i := 9) (v := ?_) (by simp only [List.getElem?_toArray, List.getElem?_cons_succ, List.getElem?_cons_zero]; rfl) (by kernel_rfl) (by kernel_rfl) (by kernel_rfl) (fun _ _ _ h => h) (Or.inl ⟨by rfl, ?_⟩) (by assumption) ?_
        rotate_left
        · (intro w hSw; (try dsimp only at hSw); go_simp; try with_reducible rfl)
        try simp only [Act.put, List.setIfInBounds_toArray, List.set_cons_zero, List.set_cons_succ]
        refine wpAnyH_ready (rs := [10]) (by kernel_rfl) (by simp) ?_
        refine AllReadyH.cons (by simp only [List.getElem?_toArray, List.getElem?_cons_succ, List.getElem?_cons_zero]; rfl) (fun K hK => ?_) AllReadyH.nil
        go_simp
        skip
        refine (CALL.out _ (by first | exact hb | exact Below.drew hb)).mono ?_
        rintro e v1 ⟨rfl, k1⟩
        have h1 := bstepB hB (by first | exact hb | exact Below.drew hb) k1
        have HWN := Lib.hid (World.ownsRow.kept (World.ownsRow.kept HW.out (grown_of (Below.drew (Below.refl _ _))) (Classical.em _)) (grown_of k1) (Classical.em _))
        go_wp2_with fail
        refine hK.out _ _ (⟨⟨keepC hHeld.1.1 k1, keepC hHeld.1.2 k1⟩, keepC hHeld.2.1 k1, keepC hHeld.2.2 k1⟩) (fun hHeld => ?_)
        clear hK K
        try simp only [Act.put, List.setIfInBounds_toArray, List.set_cons_zero, List.set_cons_succ]
        refine wpAnyH_done (by kernel_rfl) ?_ _
        refine NoPanic.normal ?_
        clear hHeld c1 c2 c3 c4
        go_wp2
        go_roundw
        case rel => exact ⟨f + 1, f, Lib.hid rfl, by omega, by omega, by go_num, Lib.hid (by rw [HS.out, HT.out]; rfl), HWN, h1⟩
        case measure => simp [intOf]; omega
      | true =>
        have hC0 : Com p L L f (f + 1) := ⟨rfl, by omega, by omega, by rw [HS.out]; simp, rfl⟩
        have HC0 := Lib.hid hC0
        clear hC0
        have hjc2 : (f : Int) ≤ (c : Int) := by omega
        have hjn2 : (f : Int) ≤ (n : Int) := by omega
        have hjc3 : f < c := by omega
        go_wp2_with fail
        refine wp_region_noPanic ?_
        refine wp_region_held_drew (S := (fun w' => (w'.cell? ⟨q, f * 2, none⟩ = some (.string ⟨m.p.toArray⟩) ∧ w'.cell? ⟨q, f * 2 + 1, none⟩ = some (.int .u64 (m.n : Int))) ∧ w'.cell? ⟨q, j * 2, none⟩ = some (.string ⟨k.p.toArray⟩) ∧ w'.cell? ⟨q, j * 2 + 1, none⟩ = some (.int .u64 (k.n : Int)))) (by kernel_rfl) (⟨⟨c1, c2⟩, c3, c4⟩) (fun hHeld => ?_)
        refine wpAnyH_take (i := 0) (v := ?_) (by simp only [List.getElem?_toArray, List.getElem?_cons_zero]; rfl) (by kernel_rfl) (by kernel_rfl) (by kernel_rfl) (fun _ _ _ h => h) (Or.inl ⟨by rfl, ?_⟩) (by assumption) ?_
        rotate_left
        · (intro w hSw; (try dsimp only at hSw); go_simp; try with_reducible rfl)
        try simp only [Act.put, List.setIfInBounds_toArray, List.set_cons_zero, List.set_cons_succ]
        refine wpAnyH_take (i := 1) (v := ?_) (by simp only [List.getElem?_toArray, List.getElem?_cons_succ, List.getElem?_cons_zero]; rfl) (by kernel_rfl) (by kernel_rfl) (by kernel_rfl) (fun _ _ _ h => h) (Or.inl ⟨by rfl, ?_⟩) (by assumption) ?_
        rotate_left
        · (intro w hSw; (try dsimp only at hSw); go_simp; try with_reducible rfl)
        try simp only [Act.put, List.setIfInBounds_toArray, List.set_cons_zero, List.set_cons_succ]
        refine wpAnyH_take (i := 2) (v := ?_) (by simp only [List.getElem?_toArray, List.getElem?_cons_succ, List.getElem?_cons_zero]; rfl) (by kernel_rfl) (by kernel_rfl) (by kernel_rfl) (fun _ _ _ h => h) (Or.inl ⟨by rfl, ?_⟩) (by assumption) ?_
        rotate_left
        · (intro w hSw; (try dsimp only at hSw); go_simp; try with_reducible rfl)
        try simp only [Act.put, List.setIfInBounds_toArray, List.set_cons_zero, List.set_cons_succ]
        refine wpAnyH_take (i := 3) (v := ?_) (by simp only [List.getElem?_toArray, List.getElem?_cons_succ, List.getElem?_cons_zero]; rfl) (by kernel_rfl) (by kernel_rfl) (by kernel_rfl) (fun _ _ _ h => h) (Or.inl ⟨by rfl, ?_⟩) (by assumption) ?_
        rotate_left
        · (intro w hSw; (try dsimp only at hSw); go_simp; try with_reducible rfl)
        try simp only [Act.put, List.setIfInBounds_toArray, List.set_cons_zero, List.set_cons_succ]
        refine wpAnyH_take (i := 4) (v := ?_) (by simp only [List.getElem?_toArray, List.getElem?_cons_succ, List.getElem?_cons_zero]; rfl) (by kernel_rfl) (by kernel_rfl) (by kernel_rfl) (fun _ _ _ h => h) (Or.inl ⟨by rfl, ?_⟩) (by assumption) ?_
        rotate_left
        · (intro w hSw; (try dsimp only at hSw); go_simp; try with_reducible rfl)
        try simp only [Act.put, List.setIfInBounds_toArray, List.set_cons_zero, List.set_cons_succ]
        refine wpAnyH_take (i := 5) (v := ?_) (by simp only [List.getElem?_toArray, List.getElem?_cons_succ, List.getElem?_cons_zero]; rfl) (by kernel_rfl) (by kernel_rfl) (by kernel_rfl) (fun _ _ _ h => h) (Or.inl ⟨by rfl, ?_⟩) (by assumption) ?_
        rotate_left
        · (intro w hSw; (try dsimp only at hSw); go_simp; try with_reducible rfl)
        try simp only [Act.put, List.setIfInBounds_toArray, List.set_cons_zero, List.set_cons_succ]
        refine wpAnyH_take (i := 6) (v := ?_) (by simp only [List.getElem?_toArray, List.getElem?_cons_succ, List.getElem?_cons_zero]; rfl) (by kernel_rfl) (by kernel_rfl) (by kernel_rfl) (fun _ _ _ h => h) (Or.inl ⟨by rfl, ?_⟩) (by assumption) ?_
        rotate_left
        · (intro w hSw; (try dsimp only at hSw); go_simp; try with_reducible rfl)
        try simp only [Act.put, List.setIfInBounds_toArray, List.set_cons_zero, List.set_cons_succ]
        refine wpAnyH_take (i := 7) (v := ?_) (by simp only [List.getElem?_toArray, List.getElem?_cons_succ, List.getElem?_cons_zero]; rfl) (by kernel_rfl) (by kernel_rfl) (by kernel_rfl) (fun _ _ _ h => h) (Or.inl ⟨by rfl, ?_⟩) (by assumption) ?_
        rotate_left
        · (intro w hSw; (try dsimp only at hSw); go_simp; try with_reducible rfl)
        try simp only [Act.put, List.setIfInBounds_toArray, List.set_cons_zero, List.set_cons_succ]
        refine wpAnyH_take (i := 8) (v := ?_) (by simp only [List.getElem?_toArray, List.getElem?_cons_succ, List.getElem?_cons_zero]; rfl) (by kernel_rfl) (by kernel_rfl) (by kernel_rfl) (fun _ _ _ h => h) (Or.inl ⟨by rfl, ?_⟩) (by assumption) ?_
        rotate_left
        · (intro w hSw; (try dsimp only at hSw); go_simp; try with_reducible rfl)
        try simp only [Act.put, List.setIfInBounds_toArray, List.set_cons_zero, List.set_cons_succ]
        refine wpAnyH_take (i := 9) (v := ?_) (by simp only [List.getElem?_toArray, List.getElem?_cons_succ, List.getElem?_cons_zero]; rfl) (by kernel_rfl) (by kernel_rfl) (by kernel_rfl) (fun _ _ _ h => h) (Or.inl ⟨by rfl, ?_⟩) (by assumption) ?_
        rotate_left
        · (intro w hSw; (try dsimp only at hSw); go_simp; try with_reducible rfl)
        try simp only [Act.put, List.setIfInBounds_toArray, List.set_cons_zero, List.set_cons_succ]
        refine wpAnyH_ready (rs := [10]) (by kernel_rfl) (by simp) ?_
        refine AllReadyH.cons (by simp only [List.getElem?_toArray, List.getElem?_cons_succ, List.getElem?_cons_zero]; rfl) (fun K hK => ?_) AllReadyH.nil
        go_simp
        skip
        refine (CALL.out _ (by first | exact hb | exact Below.drew hb)).mono ?_
        rintro e v2 ⟨rfl, k2⟩
        have h2 := bstepB hB (by first | exact hb | exact Below.drew hb) k2
        have HWN := Lib.hid (World.ownsRow.kept (World.ownsRow.kept HW.out (grown_of (Below.drew (Below.refl _ _))) (Classical.em _)) (grown_of k2) (Classical.em _))
        go_wp2_with fail
        refine hK.out _ _ (⟨⟨keepC hHeld.1.1 k2, keepC hHeld.1.2 k2⟩, keepC hHeld.2.1 k2, keepC hHeld.2.2 k2⟩) (fun hHeld => ?_)
        clear hK K
        try simp only [Act.put, List.setIfInBounds_toArray, List.set_cons_zero, List.set_cons_succ]
        refine wpAnyH_done (by kernel_rfl) ?_ _
        refine NoPanic.normal ?_
        clear hHeld c1 c2 c3 c4 CALL HT HS hw
        go_wp2_with fail
        obtain ⟨n2, hn2⟩ : ∃ n2, n2 = n - f := ⟨_, rfl⟩
        obtain ⟨c2, hc2⟩ : ∃ c2, c2 = c - f := ⟨_, rfl⟩
        rw [← hn2, ← hc2]
        have hfn : f + n2 ≤ n ∧ n ≤ f + n2 := by omega
        obtain ⟨hfn1, hfn2⟩ := hfn
        clear hn2 hc2
        go_loopw [5, 7] (fun iv tv wr => ∃ (i t u : Nat) (K : List M), Hid (t = u + 1) ∧ u < t ∧ t ≤ n2 ∧ i < f + t ∧ iv = .int .i64 (i : Int) ∧ tv = .int .i64 (t : Int) ∧ Hid (Com p L K i (f + t)) ∧ Hid (wr.ownsRow B 55 2 (.slice (some ⟨q, 0, none⟩) n c) n (flat K)) ∧ Below B w wr) (fun _ tv _ => n - (intOf tv).toNat)
        case atStart => exact ⟨f, 1, 0, L, Lib.hid rfl, by omega, by omega, by omega, rfl, rfl, HC0, HWN, h2⟩
        case round =>
          clear HWN HC0 h2
          obtain ⟨i, t, u, K, HTU, hut, htn, hit, rfl, rfl, HC, HV, hb2⟩ := hrel
          have hln := HN.out
          have hbs2 : B ≤ wr.heap.size := Nat.le_trans hB hb2.size
          by_cases hlt2 : t < n2
          · have d5 : decide ((t : Int) < (n2 : Int)) = true := decide_eq_true (by omega)
            have hel : f + t < L.length := by omega
            have hul : f + u < L.length := by omega
            have hel2 : f + t < K.length := by rw [HC.out.len]; exact hel
            have hul2 : f + u < K.length := by rw [HC.out.len]; exact hul
            have hf1 := flat_get K (f + t) hel2
            have hf0 := flat_get K (f + u) hul2
            rw [HC.out.get (by omega) hel] at hf1
            rw [HC.out.get (by have := HTU.out; omega) hul] at hf0
            rw [Nat.add_mul] at hf1 hf0
            have c1 := (HV.out.cellAt (f * 2 + t * 2) (by omega)).trans hf1.1
            have c2 := (HV.out.cellAt (f * 2 + t * 2 + 1) (by omega)).trans hf1.2
            have c3 := (HV.out.cellAt (f * 2 + u * 2) (by omega)).trans hf0.1
            have c4 := (HV.out.cellAt (f * 2 + u * 2 + 1) (by omega)).trans hf0.2
            obtain ⟨m2, hm⟩ : ∃ m, m = L[f + t]'hel := ⟨_, rfl⟩
            obtain ⟨k2, hk⟩ : ∃ k, k = L[f + u]'hul := ⟨_, rfl⟩
            rw [← hm] at c1 c2
            rw [← hk] at c3 c4
            have CALL := Lib.hid (fun W (k1 : Below B w W) => HP.out W m2 k2 k1)
            simp only [get_agg] at CALL
            obtain ⟨r, hr⟩ : ∃ r, r = p m2 k2 := ⟨_, rfl⟩
            rw [← hr] at CALL
            have hw : IntKind.i64.wrap ((t : Int) - 1) = (u : Int) := by rw [IntKind.wrap_i64]; have := HTU.out; omega
            have hu0 : (0 : Int) ≤ (u : Int) := by omega
            have hun : (u : Int) < (n2 : Int) := by omega
            have ht0 : (0 : Int) ≤ (t : Int) := by omega
            have htn1 : (t : Int) < (n2 : Int) := by omega
            have HR := Lib.hid hr
            have HM := Lib.hid hm
            have HK := Lib.hid hk
            have htu1 : u + 1 ≤ t ∧ t ≤ u + 1 := by have := HTU.out; omega
            clear hf1 hf0 hm hk hr hln
            cases r with
            | true =>
              go_wp2_with fail
              refine wp_region_noPanic ?_
              refine wp_region_held_drew (S := (fun w' => (w'.cell? ⟨q, f * 2 + t * 2, none⟩ = some (.string ⟨m2.p.toArray⟩) ∧ w'.cell? ⟨q, f * 2 + t * 2 + 1, none⟩ = some (.int .u64 (m2.n : Int))) ∧ w'.cell? ⟨q, f * 2 + u * 2, none⟩ = some (.string ⟨k2.p.toArray⟩) ∧ w'.cell? ⟨q, f * 2 + u * 2 + 1, none⟩ = some (.int .u64 (k2.n : Int)))) (by kernel_rfl) (⟨⟨c1, c2⟩, c3, c4⟩) (fun hHeld => ?_)
              refine wpAnyH_take (i := 0) (v := ?_) (by simp only [List.getElem?_toArray, List.getElem?_cons_zero]; rfl) (by kernel_rfl) (by kernel_rfl) (by kernel_rfl) (fun _ _ _ h => h) (Or.inl ⟨by rfl, ?_⟩) (by assumption) ?_
              rotate_left
              · (intro w hSw; (try dsimp only at hSw); go_simp; try with_reducible rfl)
              try simp only [Act.put, List.setIfInBounds_toArray, List.set_cons_zero, List.set_cons_succ]
              refine wpAnyH_take (i := 1) (v := ?_) (by simp only [List.getElem?_toArray, List.getElem?_cons_succ, List.getElem?_cons_zero]; rfl) (by kernel_rfl) (by kernel_rfl) (by kernel_rfl) (fun _ _ _ h => h) (Or.inl ⟨by rfl, ?_⟩) (by assumption) ?_
              rotate_left
              · (intro w hSw; (try dsimp only at hSw); go_simp; try with_reducible rfl)
              try simp only [Act.put, List.setIfInBounds_toArray, List.set_cons_zero, List.set_cons_succ]
              refine wpAnyH_take (i := 2) (v := ?_) (by simp only [List.getElem?_toArray, List.getElem?_cons_succ, List.getElem?_cons_zero]; rfl) (by kernel_rfl) (by kernel_rfl) (by kernel_rfl) (fun _ _ _ h => h) (Or.inl ⟨by rfl, ?_⟩) (by assumption) ?_
              rotate_left
              · (intro w hSw; (try dsimp only at hSw); go_simp; try with_reducible rfl)
              try simp only [Act.put, List.setIfInBounds_toArray, List.set_cons_zero, List.set_cons_succ]
              refine wpAnyH_take (i := 3) (v := ?_) (by simp only [List.getElem?_toArray, List.getElem?_cons_succ, List.getElem?_cons_zero]; rfl) (by kernel_rfl) (by kernel_rfl) (by kernel_rfl) (fun _ _ _ h => h) (Or.inl ⟨by rfl, ?_⟩) (by assumption) ?_
              rotate_left
              · (intro w hSw; (try dsimp only at hSw); go_simp; try with_reducible rfl)
              try simp only [Act.put, List.setIfInBounds_toArray, List.set_cons_zero, List.set_cons_succ]
              refine wpAnyH_take (i := 4) (v := ?_) (by simp only [List.getElem?_toArray, List.getElem?_cons_succ, List.getElem?_cons_zero]; rfl) (by kernel_rfl) (by kernel_rfl) (by kernel_rfl) (fun _ _ _ h => h) (Or.inl ⟨by rfl, ?_⟩) (by assumption) ?_
              rotate_left
              · (intro w hSw; (try dsimp only at hSw); go_simp; try with_reducible rfl)
              try simp only [Act.put, List.setIfInBounds_toArray, List.set_cons_zero, List.set_cons_succ]
              refine wpAnyH_take (i := 5) (v := ?_) (by simp only [List.getElem?_toArray, List.getElem?_cons_succ, List.getElem?_cons_zero]; rfl) (by kernel_rfl) (by kernel_rfl) (by kernel_rfl) (fun _ _ _ h => h) (Or.inl ⟨by rfl, ?_⟩) (by assumption) ?_
              rotate_left
              · (intro w hSw; (try dsimp only at hSw); go_simp; try with_reducible rfl)
              try simp only [Act.put, List.setIfInBounds_toArray, List.set_cons_zero, List.set_cons_succ]
              refine wpAnyH_take (i := 6) (v := ?_) (by simp only [List.getElem?_toArray, List.getElem?_cons_succ, List.getElem?_cons_zero]; rfl) (by kernel_rfl) (by kernel_rfl) (by kernel_rfl) (fun _ _ _ h => h) (Or.inl ⟨by rfl, ?_⟩) (by assumption) ?_
              rotate_left
              · (intro w hSw; (try dsimp only at hSw); go_simp; try with_reducible rfl)
              try simp only [Act.put, List.setIfInBounds_toArray, List.set_cons_zero, List.set_cons_succ]
              refine wpAnyH_take (i := 7) (v := ?_) (by simp only [List.getElem?_toArray, List.getElem?_cons_succ, List.getElem?_cons_zero]; rfl) (by kernel_rfl) (by kernel_rfl) (by kernel_rfl) (fun _ _ _ h => h) (Or.inl ⟨by rfl, ?_⟩) (by assumption) ?_
              rotate_left
              · (intro w hSw; (try dsimp only at hSw); go_simp; try with_reducible rfl)
              try simp only [Act.put, List.setIfInBounds_toArray, List.set_cons_zero, List.set_cons_succ]
              refine wpAnyH_take (i := 8) (v := ?_) (by simp only [List.getElem?_toArray, List.getElem?_cons_succ, List.getElem?_cons_zero]; rfl) (by kernel_rfl) (by kernel_rfl) (by kernel_rfl) (fun _ _ _ h => h) (Or.inl ⟨by rfl, ?_⟩) (by assumption) ?_
              rotate_left
              · (intro w hSw; (try dsimp only at hSw); go_simp; try with_reducible rfl)
              try simp only [Act.put, List.setIfInBounds_toArray, List.set_cons_zero, List.set_cons_succ]
              refine wpAnyH_take (i := 9) (v := ?_) (by simp only [List.getElem?_toArray, List.getElem?_cons_succ, List.getElem?_cons_zero]; rfl) (by kernel_rfl) (by kernel_rfl) (by kernel_rfl) (fun _ _ _ h => h) (Or.inl ⟨by rfl, ?_⟩) (by assumption) ?_
              rotate_left
              · (intro w hSw; (try dsimp only at hSw); go_simp; try with_reducible rfl)
              try simp only [Act.put, List.setIfInBounds_toArray, List.set_cons_zero, List.set_cons_succ]
              refine wpAnyH_ready (rs := [10]) (by kernel_rfl) (by simp) ?_
              refine AllReadyH.cons (by simp only [List.getElem?_toArray, List.getElem?_cons_succ, List.getElem?_cons_zero]; rfl) (fun K hK => ?_) AllReadyH.nil
              go_simp
              skip
              refine (CALL.out _ (by first | exact hb2 | exact Below.drew hb2)).mono ?_
              rintro e v3 ⟨rfl, k3⟩
              have h3 := bstepB hB (by first | exact hb2 | exact Below.drew hb2) k3
              have HWN := Lib.hid (World.ownsRow.kept (World.ownsRow.kept HV.out (grown_of (Below.drew (Below.refl _ _))) (Classical.em _)) (grown_of k3) (Classical.em _))
              go_wp2_with fail
              refine hK.out _ _ (⟨⟨keepC hHeld.1.1 k3, keepC hHeld.1.2 k3⟩, keepC hHeld.2.1 k3, keepC hHeld.2.2 k3⟩) (fun hHeld => ?_)
              clear hK K
              try simp only [Act.put, List.setIfInBounds_toArray, List.set_cons_zero, List.set_cons_succ]
              refine wpAnyH_take (i := 11) (v := ?_) (by simp only [List.getElem?_toArray, List.getElem?_cons_succ, List.getElem?_cons_zero]; rfl) (by kernel_rfl) (by kernel_rfl) (by kernel_rfl) (fun _ _ _ h => h) (Or.inl ⟨by rfl, ?_⟩) (by assumption) ?_
              rotate_left
              · (intro w hSw; (try dsimp only at hSw); go_simp; try with_reducible rfl)
              try simp only [Act.put, List.setIfInBounds_toArray, List.set_cons_zero, List.set_cons_succ]
              refine wpAnyH_done (by kernel_rfl) ?_ _
              refine NoPanic.normal ?_
              clear hHeld c1 c2 c3 c4
              go_wp2
              go_roundw
              case rel => exact ⟨i, t + 1, t, K, Lib.hid rfl, by omega, by omega, by omega, rfl, by go_num, Lib.hid (HC.out.skip' (e := f + t) (j := f + u) (by have := HTU.out; omega) hel hul m2 k2 HM.out.symm HK.out.symm HR.out.symm), HWN, h3⟩
              case measure => simp [intOf]; omega
            | false =>
              go_wp2_with fail
              refine wp_region_noPanic ?_
              refine wp_region_held_drew (S := (fun w' => (w'.cell? ⟨q, f * 2 + t * 2, none⟩ = some (.string ⟨m2.p.toArray⟩) ∧ w'.cell? ⟨q, f * 2 + t * 2 + 1, none⟩ = some (.int .u64 (m2.n : Int))) ∧ w'.cell? ⟨q, f * 2 + u * 2, none⟩ = some (.string ⟨k2.p.toArray⟩) ∧ w'.cell? ⟨q, f * 2 + u * 2 + 1, none⟩ = some (.int .u64 (k2.n : Int)))) (by kernel_rfl) (⟨⟨c1, c2⟩, c3, c4⟩) (fun hHeld => ?_)
              refine wpAnyH_take (i := 0) (v := ?_) (by simp only [List.getElem?_toArray, List.getElem?_cons_zero]; rfl) (by kernel_rfl) (by kernel_rfl) (by kernel_rfl) (fun _ _ _ h => h) (Or.inl ⟨by rfl, ?_⟩) (by assumption) ?_
              rotate_left
              · (intro w hSw; (try dsimp only at hSw); go_simp; try with_reducible rfl)
              try simp only [Act.put, List.setIfInBounds_toArray, List.set_cons_zero, List.set_cons_succ]
              refine wpAnyH_take (i := 1) (v := ?_) (by simp only [List.getElem?_toArray, List.getElem?_cons_succ, List.getElem?_cons_zero]; rfl) (by kernel_rfl) (by kernel_rfl) (by kernel_rfl) (fun _ _ _ h => h) (Or.inl ⟨by rfl, ?_⟩) (by assumption) ?_
              rotate_left
              · (intro w hSw; (try dsimp only at hSw); go_simp; try with_reducible rfl)
              try simp only [Act.put, List.setIfInBounds_toArray, List.set_cons_zero, List.set_cons_succ]
              refine wpAnyH_take (i := 2) (v := ?_) (by simp only [List.getElem?_toArray, List.getElem?_cons_succ, List.getElem?_cons_zero]; rfl) (by kernel_rfl) (by kernel_rfl) (by kernel_rfl) (fun _ _ _ h => h) (Or.inl ⟨by rfl, ?_⟩) (by assumption) ?_
              rotate_left
              · (intro w hSw; (try dsimp only at hSw); go_simp; try with_reducible rfl)
              try simp only [Act.put, List.setIfInBounds_toArray, List.set_cons_zero, List.set_cons_succ]
              refine wpAnyH_take (i := 3) (v := ?_) (by simp only [List.getElem?_toArray, List.getElem?_cons_succ, List.getElem?_cons_zero]; rfl) (by kernel_rfl) (by kernel_rfl) (by kernel_rfl) (fun _ _ _ h => h) (Or.inl ⟨by rfl, ?_⟩) (by assumption) ?_
              rotate_left
              · (intro w hSw; (try dsimp only at hSw); go_simp; try with_reducible rfl)
              try simp only [Act.put, List.setIfInBounds_toArray, List.set_cons_zero, List.set_cons_succ]
              refine wpAnyH_take (i := 4) (v := ?_) (by simp only [List.getElem?_toArray, List.getElem?_cons_succ, List.getElem?_cons_zero]; rfl) (by kernel_rfl) (by kernel_rfl) (by kernel_rfl) (fun _ _ _ h => h) (Or.inl ⟨by rfl, ?_⟩) (by assumption) ?_
              rotate_left
              · (intro w hSw; (try dsimp only at hSw); go_simp; try with_reducible rfl)
              try simp only [Act.put, List.setIfInBounds_toArray, List.set_cons_zero, List.set_cons_succ]
              refine wpAnyH_take (i := 5) (v := ?_) (by simp only [List.getElem?_toArray, List.getElem?_cons_succ, List.getElem?_cons_zero]; rfl) (by kernel_rfl) (by kernel_rfl) (by kernel_rfl) (fun _ _ _ h => h) (Or.inl ⟨by rfl, ?_⟩) (by assumption) ?_
              rotate_left
              · (intro w hSw; (try dsimp only at hSw); go_simp; try with_reducible rfl)
              try simp only [Act.put, List.setIfInBounds_toArray, List.set_cons_zero, List.set_cons_succ]
              refine wpAnyH_take (i := 6) (v := ?_) (by simp only [List.getElem?_toArray, List.getElem?_cons_succ, List.getElem?_cons_zero]; rfl) (by kernel_rfl) (by kernel_rfl) (by kernel_rfl) (fun _ _ _ h => h) (Or.inl ⟨by rfl, ?_⟩) (by assumption) ?_
              rotate_left
              · (intro w hSw; (try dsimp only at hSw); go_simp; try with_reducible rfl)
              try simp only [Act.put, List.setIfInBounds_toArray, List.set_cons_zero, List.set_cons_succ]
              refine wpAnyH_take (i := 7) (v := ?_) (by simp only [List.getElem?_toArray, List.getElem?_cons_succ, List.getElem?_cons_zero]; rfl) (by kernel_rfl) (by kernel_rfl) (by kernel_rfl) (fun _ _ _ h => h) (Or.inl ⟨by rfl, ?_⟩) (by assumption) ?_
              rotate_left
              · (intro w hSw; (try dsimp only at hSw); go_simp; try with_reducible rfl)
              try simp only [Act.put, List.setIfInBounds_toArray, List.set_cons_zero, List.set_cons_succ]
              refine wpAnyH_take (i := 8) (v := ?_) (by simp only [List.getElem?_toArray, List.getElem?_cons_succ, List.getElem?_cons_zero]; rfl) (by kernel_rfl) (by kernel_rfl) (by kernel_rfl) (fun _ _ _ h => h) (Or.inl ⟨by rfl, ?_⟩) (by assumption) ?_
              rotate_left
              · (intro w hSw; (try dsimp only at hSw); go_simp; try with_reducible rfl)
              try simp only [Act.put, List.setIfInBounds_toArray, List.set_cons_zero, List.set_cons_succ]
              refine wpAnyH_take (i := 9) (v := ?_) (by simp only [List.getElem?_toArray, List.getElem?_cons_succ, List.getElem?_cons_zero]; rfl) (by kernel_rfl) (by kernel_rfl) (by kernel_rfl) (fun _ _ _ h => h) (Or.inl ⟨by rfl, ?_⟩) (by assumption) ?_
              rotate_left
              · (intro w hSw; (try dsimp only at hSw); go_simp; try with_reducible rfl)
              try simp only [Act.put, List.setIfInBounds_toArray, List.set_cons_zero, List.set_cons_succ]
              refine wpAnyH_ready (rs := [10]) (by kernel_rfl) (by simp) ?_
              refine AllReadyH.cons (by simp only [List.getElem?_toArray, List.getElem?_cons_succ, List.getElem?_cons_zero]; rfl) (fun K hK => ?_) AllReadyH.nil
              go_simp
              skip
              refine (CALL.out _ (by first | exact hb2 | exact Below.drew hb2)).mono ?_
              rintro e v4 ⟨rfl, k4⟩
              have h4 := bstepB hB (by first | exact hb2 | exact Below.drew hb2) k4
              have HWN := Lib.hid (World.ownsRow.kept (World.ownsRow.kept HV.out (grown_of (Below.drew (Below.refl _ _))) (Classical.em _)) (grown_of k4) (Classical.em _))
              go_wp2_with fail
              refine hK.out _ _ (⟨⟨keepC hHeld.1.1 k4, keepC hHeld.1.2 k4⟩, keepC hHeld.2.1 k4, keepC hHeld.2.2 k4⟩) (fun hHeld => ?_)
              clear hK K
              try simp only [Act.put, List.setIfInBounds_toArray, List.set_cons_zero, List.set_cons_succ]
              refine wpAnyH_take (i := 11) (v := ?_) (by simp only [List.getElem?_toArray, List.getElem?_cons_succ, List.getElem?_cons_zero]; rfl) (by kernel_rfl) (by kernel_rfl) (by kernel_rfl) (fun _ _ _ h => h) (Or.inl ⟨by rfl, ?_⟩) (by assumption) ?_
              rotate_left
              · (intro w hSw; (try dsimp only at hSw); go_simp; try with_reducible rfl)
              try simp only [Act.put, List.setIfInBounds_toArray, List.set_cons_zero, List.set_cons_succ]
              refine wpAnyH_done (by kernel_rfl) ?_ _
              refine NoPanic.normal ?_
              obtain ⟨⟨c1, c2⟩, c3, c4⟩ := hHeld
              obtain ⟨f1, f2⟩ := own_isSome HWN.out (i * 2) (by omega)
              obtain ⟨f3, f4⟩ := own_isSome HWN.out (i * 2 + 1) (by omega)
              obtain ⟨x1, e1⟩ := Option.isSome_iff_exists.1 f1
              obtain ⟨x2, e2⟩ := Option.isSome_iff_exists.1 f3
              clear f1 f3 c3 c4
              go_wp2
              go_roundw
              case rel =>
                obtain ⟨o1, g1⟩ := own_set m2 HWN.out (by have := HC.out.len; have := HN.out; omega) (show i < n by omega)
                exact ⟨i + 1, t + 1, t, K.set i m2, Lib.hid rfl, by omega, by omega, by omega, by go_num, by go_num, Lib.hid (HC.out.keep' (e := f + t) (j := f + u) (by have := HTU.out; omega) hel hul m2 k2 HM.out.symm HK.out.symm HR.out.symm), Lib.hid o1, Below.grown h4 g1 (Nat.le_trans hB h4.size) (fun k hk => by cases hk; exact hBq)⟩
              case measure => simp [intOf]; omega
          · have d5 : decide ((t : Int) < (n2 : Int)) = false := decide_eq_false (by omega)
            obtain ⟨vs, hclr⟩ := run_clear HV.out (i := i) (m := n - i) (c := c - i) (by omega) rfl 0
            obtain ⟨ys, o2, hys, g2⟩ := own_cells vs (i * 2) wr _ HV.out
            have o3 := own_cut o2 (i := i) (by omega)
            have hfin := HC.out.fin (by omega)
            rw [hys, hfin.1] at o3
            have ho : Own (wr.setCells q (i * 2) vs) B (.slice (some ⟨q, 0, none⟩) i c) (dedup p L) := by
              unfold Own; rw [← hfin.2]; exact o3
            have hb3 : Below B w (wr.setCells q (i * 2) vs) := Below.grown hb2 g2 hbs2 (fun k hk => by cases hk; exact hBq)
            have hic : i < c := by omega
            have hin : i < n := by omega
            have HOO := Lib.hid ho
            clear hfin o2 hys g2 o3 ho hln
            go_wp2
            go_ret
            exact ⟨_, rfl, HOO.out, hb3⟩
    · obtain rfl : f = n := by omega
      have hv : dedup p L = L := by have h := HI.out; rwa [List.take_of_length_le (by omega)] at h
      have HVV := Lib.hid hv
      have d1 : decide ((f : Int) < (f : Int)) = false := decide_eq_false (by omega)
      have HOW : Hid (Own wr B (.slice (some ⟨q, 0, none⟩) f c) L) := Lib.hid (by unfold Own; rw [← hln]; exact HW.out)
      clear hln hv
      go_wp2
      go_ret
      exact ⟨_, rfl, by rw [HVV.out]; exact HOW.out, hb⟩

end Mark
end Go.Proofs.Ytcbnkncgacbniaa
