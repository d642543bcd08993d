/- TreeLacks: the walk. -/
import Derived.Test.YtjnlooccddnbkaaGreatDoorTmLaw
import Derived.Test.YtjnlooccddnbkaaGreatDoorTmStepIn
import Derived.Test.YtjnlooccddnbkaaGreatDoorTmTextRange
import Derived.Test.YtjnlooccddnbkaaGreatDoorTmRefDotMay
namespace Go.Proofs.YtjnlooccddnbkaaGreatDoor
namespace TreeLacks
open Go.RowKit Go.Proofs.YtjnlooccddnbkaaGreatDoor.Mark Go.Proofs.YtjnlooccddnbkaaGreatDoor.Dots Go.Proofs.YtjnlooccddnbkaaGreatDoor.Tree Go.Proofs.YtjnlooccddnbkaaGreatDoor.TreeLaw
/-- A key that was visited lacks something, in a shard. -/
def Bad (Ls : List St) (base : List M) (lf : List UInt8 → Bool) (i : Nat) : Prop :=
  ∃ q j x, lastF Ls Ls.length q = some j ∧ lf q = false ∧ Ls[j]? = some x ∧ Shard.no q = i ∧ ¬ ∀ p, ofL x.A p ≤ ofL base p
theorem bad_all {Ls : List St} (h60 : Ls.length ≤ 60) (base : List M) {lf : List UInt8 → Bool} (hlf : ∀ q, lf q = false) (i : Nat) : Bad Ls base lf i ↔ Lacks (puts Ls) base i := by
  have hf := find_puts h60 Ls.length (Nat.le_refl _)
  have hu := (puts_len (Ls := Ls) Ls.length (Nat.le_refl _)).2
  rw [List.take_length] at hf hu
  constructor
  · rintro ⟨q, j, x, h1, _, h2, h3, h4⟩
    have := hf q
    rw [h1, Option.bind_some, h2] at this
    obtain ⟨hm, hk⟩ := (find_some hu q x.it).1 this
    exact ⟨x.it, List.mem_filter.2 ⟨hm, by rw [hk, h3]; simp⟩, h4⟩
  · rintro ⟨y, hy, hn⟩
    obtain ⟨hm, hs⟩ := List.mem_filter.1 hy
    have e := (find_some hu y.k y).2 ⟨hm, rfl⟩
    rw [hf] at e
    cases hl : lastF Ls Ls.length y.k with
    | none => rw [hl] at e; cases e
    | some j =>
      rw [hl, Option.bind_some] at e
      cases hx : Ls[j]? with
      | none => rw [hx] at e; cases e
      | some x =>
        rw [hx] at e
        simp only [Option.map_some, Option.some.injEq] at e
        exact ⟨y.k, j, x, hl, hlf _, hx, by simpa using hs, by rw [← e] at hn; exact hn⟩
theorem bad_none {Ls : List St} {base : List M} {lf : List UInt8 → Bool} (hlf : ∀ q, lf q = (lastV Ls Ls.length q).isSome) (i : Nat) : ¬ Bad Ls base lf i := by
  rintro ⟨q, j, x, h1, h2, _⟩
  rw [hlf] at h2
  unfold lastV at h2
  rw [h1] at h2
  cases h2
theorem bad_more {Ls : List St} {base : List M} {lf : List UInt8 → Bool} {q : List UInt8} {j : Nat} {x : St} (hq : lastF Ls Ls.length q = some j) (hx : Ls[j]? = some x) (hl : lf q = true) (i : Nat) :
    Bad Ls base (fun y => lf y && !(y == q)) i ↔ Bad Ls base lf i ∨ (Shard.no q = i ∧ ¬ ∀ p, ofL x.A p ≤ ofL base p) := by
  constructor
  · rintro ⟨q', j', x', h1, h2, h3, h4, h5⟩
    by_cases e : q' = q
    · subst e
      rw [hq] at h1; cases h1
      rw [hx] at h3; cases h3
      exact .inr ⟨h4, h5⟩
    · refine .inl ⟨q', j', x', h1, ?_, h3, h4, h5⟩
      have : (q' == q) = false := by simpa using e
      simp only [this, Bool.not_false, Bool.and_true] at h2
      exact h2
  · rintro (⟨q', j', x', h1, h2, h3, h4, h5⟩ | ⟨h4, h5⟩)
    · exact ⟨q', j', x', h1, by show (lf q' && !(q' == q)) = false; rw [h2]; rfl, h3, h4, h5⟩
    · exact ⟨q, j, x, hq, by simp, hx, h4, h5⟩
theorem cell_set (W : World) (a c : Addr) (v u : Value) (h : W.cell? c = some u) : (W.setCell a v).cell? c = if a = c then some v else some u := by
  split
  · rename_i e; subst e; exact World.cell?_setCell_same _ _ _ h
  · rename_i e; rw [World.cell?_setCell_other _ _ _ _ e]; exact h
/-- The flags of the shards lie in a block. -/
def Flags (W : World) (b : Nat) (m : Nat → Bool) : Prop := ∀ i, i < 16 → W.cell? ⟨b, i, none⟩ = some (.int .i64 (if m i then 1 else 0)) ∧ W.frozen? ⟨b, i, none⟩ = false
theorem Flags.moved {W W' : World} {b : Nat} {m : Nat → Bool} (h : Flags W b m) (k : W'.heap[b]? = W.heap[b]?) : Flags W' b m := fun i hi =>
  ⟨(World.cell?_of_block (w := W) k).trans (h i hi).1, (World.frozen?_of_block (w := W) k).trans (h i hi).2⟩
theorem Flags.lt {W : World} {b : Nat} {m : Nat → Bool} (h : Flags W b m) : b < W.heap.size := World.block_lt_of_cell? W ⟨b, 0, none⟩ (h 0 (by decide)).1
theorem Flags.below {W W' : World} {b : Nat} {m : Nat → Bool} (h : Flags W b m) (k : Below W.heap.size W W') : Flags W' b m := h.moved (k.block b h.lt)
theorem Flags.set {W : World} {b : Nat} {m : Nat → Bool} (h : Flags W b m) (j : Nat) : Flags (W.setCell ⟨b, j, none⟩ (.int .i64 1)) b (fun i => m i || i == j) := fun i hi => by
  obtain ⟨h1, h2⟩ := h i hi
  refine ⟨?_, by rw [World.frozen?_setCell]; exact h2⟩
  rw [cell_set _ _ _ _ _ h1]
  by_cases e : j = i
  · subst e; simp
  · have hb : (i == j) = false := by simpa using fun h => e h.symm
    rw [if_neg (fun h => e (by injection h))]
    simp only [hb, Bool.or_false]
theorem sel_split (c : Nat → Bool) (i : Nat) : ∀ m, ∃ tl, sel c (i + m) = sel c i ++ tl ∧ ∀ x ∈ tl, (i : Int) ≤ x
  | 0 => ⟨[], by simp, fun x hx => by cases hx⟩
  | m + 1 => by
    obtain ⟨tl, h1, h2⟩ := sel_split c i m
    cases hc : c (i + m) with
    | true => exact ⟨tl ++ [((i + m : Nat) : Int)], by rw [show i + (m + 1) = i + m + 1 from rfl, sel_yes hc, h1, List.append_assoc], fun x hx => by
        rcases List.mem_append.1 hx with hx | hx
        · exact h2 x hx
        · rw [List.mem_singleton.1 hx]; omega⟩
    | false => exact ⟨tl, by rw [show i + (m + 1) = i + m + 1 from rfl, sel_no hc, h1], h2⟩
theorem sel_head (c : Nat → Bool) {i : Nat} (hi : i < 16) (h : c i = true) : (sel c i).length < (sel c 16).length ∧ (sel c 16).getD (sel c i).length 0 = (i : Int) := by
  obtain ⟨tl, h1, -⟩ := sel_split c (i + 1) (16 - (i + 1))
  rw [show i + 1 + (16 - (i + 1)) = 16 by omega, sel_yes h, List.append_assoc] at h1
  rw [h1]
  exact ⟨by simp, by simp⟩
theorem sel_miss (c : Nat → Bool) {i : Nat} (hi : i < 16) (h : c i = false) (hl : (sel c i).length < (sel c 16).length) : (sel c 16).getD (sel c i).length 0 ≠ (i : Int) := by
  obtain ⟨tl, h1, h2⟩ := sel_split c (i + 1) (16 - (i + 1))
  rw [show i + 1 + (16 - (i + 1)) = 16 by omega, sel_no h] at h1
  rw [h1] at hl ⊢
  rw [List.length_append] at hl
  cases tl with
  | nil => simp at hl
  | cons y tl =>
    have := h2 y (List.mem_cons_self ..)
    rw [show (sel c i ++ y :: tl).getD (sel c i).length 0 = y by simp]
    omega
def zeros : Array Value := #[.int .i64 0, .int .i64 0, .int .i64 0, .int .i64 0, .int .i64 0, .int .i64 0, .int .i64 0, .int .i64 0, .int .i64 0, .int .i64 0, .int .i64 0, .int .i64 0, .int .i64 0, .int .i64 0, .int .i64 0, .int .i64 0]
theorem flags_new (w : World) (t : TypeId) : Flags (w.alloc (.cells zeros t)) w.heap.size (fun _ => false) := fun i hi => by
  refine ⟨?_, World.frozen?_alloc_at _ _ _ _ (by simp)⟩
  rw [World.cell?_alloc_new]
  match i, hi with
  | 0, _ | 1, _ | 2, _ | 3, _ | 4, _ | 5, _ | 6, _ | 7, _ | 8, _ | 9, _ | 10, _ | 11, _ | 12, _ | 13, _ | 14, _ | 15, _ => rfl
  | k + 16, h => exact absurd h (by omega)
theorem lies_old {α : Type} {E : Row.Enc α} {x0 x y : World} {a : Option Addr} {k b : Nat} {L : List α} (h0 : Row.Lies E x0 a k L) (h : Row.Lies E x a k L) (g : But b x y) (hb : x0.heap.size ≤ b) : Row.Lies E y a k L :=
  ⟨h.1, fun hn => by
    obtain ⟨b', off, e, hc⟩ := h.2 hn
    obtain ⟨b2, off2, e2, hc2⟩ := h0.2 hn
    rw [e] at e2
    cases e2
    refine ⟨b', off, e, fun j hj i u hu => ?_⟩
    have h1 : b' < x0.heap.size := World.block_lt_of_cell? _ _ (hc2 j hj i u hu)
    exact (g.cell (World.block_lt_of_cell? _ _ (hc j hj i u hu)) (show b' ≠ b by omega)).trans (hc j hj i u hu)⟩
theorem mapped {w x y : World} {tb mb n p : Nat} {l : List It} (h : On w x tb mb n l) (k : x.grownBy y (some p)) (hp : p ≠ mb) (lo : w.heap.size ≤ p) (hm : ∃ es c, x.heap[p]? = some (.map es c)) : On w y tb mb n l :=
  ⟨But.below h.hb (but_grown k) lo h.hb.size, h.is.but (but_grown k) hp hm, h.lo⟩
def oneA (s : Option Addr) (c : Nat) (A : List M) : St := ⟨0, [], [], s, c, A⟩

set_option maxRecDepth 100000 in
set_option maxHeartbeats 16000000 in
theorem walk (a0 : List St) (s0 : Option Addr) (c0 : Nat) (a1 : List M) (s1 : Option Addr) (c1 : Nat) (w : World) (w0 : ∀ x ∈ a0, x.Sized ∧ x.Deep w) (l0 : TreeLaw.Steps w s0 a0.length a0) (_ : a0.length ≤ 140737488351232) (w1 : ∀ x ∈ a1, x.Was) (l1 : Mark.Lies w s1 a1.length a1) (r1 : a1.length ≤ 140737488351232) (ht : Sha.Tabs w) :
    Calls Tryz.prog 3 #[.slice s0 a0.length c0, .slice s1 a1.length c1] w fun e w' => e = .returned (.bool true) ∧ Below w.heap.size w w' := by
  have hb := Below.refl w.heap.size w
  have HT := Lib.hid ht
  clear ht
  have hmm := @run_makeMap Tryz.prog
  have HH0 := Lib.hid (fun x (k : Below w.heap.size w x) => heavy_any a0 s0 c0 x (l0.below k) (fun y hy => (w0 y hy).2.below k) (fun y hy => (w0 y hy).1))
  obtain ⟨n0, hn0⟩ : ∃ n, n = a0.length := ⟨_, rfl⟩
  rw [← hn0] at l0 HH0 ⊢
  have HN0 := Lib.hid hn0
  have W0 := Lib.hid w0
  have L0 := Lib.hid l0
  clear w0 l0 hn0
  obtain ⟨n1, hn1⟩ : ∃ n, n = a1.length := ⟨_, rfl⟩
  rw [← hn1] at l1 ⊢
  have HN1 := Lib.hid hn1
  have W1 := Lib.hid w1
  have R1 := Lib.hid r1
  have L1 := Lib.hid l1
  clear w1 l1 hn1 r1
  go_enter Tryz.func3, Tryz.ntmps3
  go_wp2_with fail
  refine (HH0.out _ hb).mono ?_
  rintro e vh0 ⟨r0, rfl, hr0, kh⟩
  replace hb := bstep hb kh
  have HR0 := Lib.hid hr0
  clear kh hr0 HH0
  cases r0
  rotate_left
  · skip
    go_wp2_with fail
    refine (works_any _ (HT.out.below hb)).mono ?_
    rintro e vw ⟨rfl, kw⟩
    replace hb := bstep hb kw
    go_wp2
    go_ret
    exact ⟨rfl, hb⟩
  have LT0 := Lib.hid (HR0.out rfl)
  clear HR0
  go_wp2_with fail
  have LB   : TreeLaw.Steps (vh0.alloc (.cells #[.int .i64 0, .string ⟨#[]⟩, .string ⟨#[]⟩, .slice s1 n1 c1] 26)) (some ⟨vh0.heap.size, 0, none⟩) 1 [oneA s1 c1 a1] := by
    have := Row.lies_new (E := TreeLaw.encS) vh0 (oneA s1 c1 a1) 26
    unfold oneA TreeLaw.encS St.cells at this
    simp only [← HN1.out] at this
    exact this
  replace hb := bstep hb (balloc (Below.refl _ _) (.cells #[.int .i64 0, .string ⟨#[]⟩, .string ⟨#[]⟩, .slice s1 n1 c1] 26))
  have HV1 := Lib.hid (heavy_any [oneA s1 c1 a1] _ 1 _ LB (fun x hx => by
    obtain rfl := List.mem_singleton.1 hx
    show Mark.Lies _ s1 a1.length a1
    rw [← HN1.out]
    exact L1.out.below hb) (fun x hx => by
    obtain rfl := List.mem_singleton.1 hx
    exact ⟨Nat.zero_le _, Nat.zero_le _, R1.out, fun m hm => ⟨(W1.out m hm).2, (W1.out m hm).1⟩⟩))
  clear LB
  refine HV1.out.mono ?_
  rintro e v1 ⟨r1, rfl, hr1, k1⟩
  replace hb := bstep hb k1
  have HR1 := Lib.hid hr1
  clear k1 hr1 HV1
  cases r1
  rotate_left
  · skip
    go_wp2_with fail
    refine (works_any _ (HT.out.below hb)).mono ?_
    rintro e vw ⟨rfl, kw⟩
    replace hb := bstep hb kw
    go_wp2
    go_ret
    exact ⟨rfl, hb⟩
  have LT1 : Hid (a1.length ≤ 30 ∧ ∀ m ∈ a1, m.p.length ≤ 2048) := Lib.hid (by
    have := (HR1.out rfl).2 (oneA s1 c1 a1) (List.mem_cons_self ..)
    exact ⟨this.1, this.2.2.2⟩)
  have OK1 : Hid (Ok a1) := Lib.hid (fun m hm => ⟨(W1.out m hm).1, Nat.le_trans (W1.out m hm).2 (by decide)⟩)
  clear HR1
  have MA := Lib.hid (RefDots.may_any a1 s1 n1 c1 _ (L1.out.below hb) (by have := LT1.out.1; have := HN1.out; omega) OK1.out)
  obtain ⟨mb1, hmb1⟩ : ∃ b, b = mayL a1 := ⟨_, rfl⟩
  rw [← hmb1] at MA
  have HMB := Lib.hid hmb1
  clear hmb1
  go_wp2_with fail
  refine MA.out.mono ?_
  rintro e v2 ⟨rfl, k2⟩
  replace hb := bstep hb k2
  clear k2 MA
  cases mb1
  · skip
    go_wp2_with fail
    refine (works_any _ (HT.out.below hb)).mono ?_
    rintro e vw ⟨rfl, kw⟩
    replace hb := bstep hb kw
    go_wp2
    go_ret
    exact ⟨rfl, hb⟩
  go_wp2_with fail
  refine (new_on hb).mono ?_
  rintro e vn ⟨tb, mb, rfl, i, htb, hmb, kn⟩
  have I := Lib.hid i
  have HB : Hid (w.heap.size ≤ tb ∧ w.heap.size ≤ mb) := Lib.hid ⟨Nat.le_trans hb.size htb, Nat.le_trans hb.size hmb⟩
  replace hb := bstep hb kn
  clear i htb hmb kn
  have HMB0 : Hid (mb < vn.heap.size) := Lib.hid I.out.is.mlt
  go_upto_region 5 with (fail)
  have hmN := TextMap.Is.made (P := Tryz.prog) (ks := 9) vn
  have kM := balloc (Below.refl vn.heap.size vn) (.map #[] 0)
  replace I := Lib.hid (I.out.below kM)
  obtain ⟨mm, hm0⟩ : ∃ m, m = vn.heap.size := ⟨_, rfl⟩
  have HMN : Hid (mb ≠ mm ∧ w.heap.size ≤ mm) := Lib.hid (by have h2 := hb.size; have h3 := HMB0.out; omega)
  obtain ⟨vm, hvm⟩ : ∃ v, v = vn.alloc (.map #[] 0) := ⟨_, rfl⟩
  rw [← hvm] at I hmN ⊢
  rw [← hm0] at hmN ⊢
  have MP : Hid (TextMap.Is Tryz.prog 9 vm mm 0 (lastV a0 0)) := Lib.hid hmN
  replace I : Hid (On w vm tb mb 0 (puts (a0.take 0))) := Lib.hid (by rw [List.take_zero]; exact I.out)
  clear hmN kM hm0 hvm HMB0
  go_wp2_with fail
  go_loopw [7] (fun iv wr => ∃ k : Nat, k ≤ n0 ∧ iv = .int .i64 k ∧ Hid (On w wr tb mb k (puts (a0.take k))) ∧ Hid (TextMap.Is Tryz.prog 9 wr mm k (lastV a0 k))) (fun iv _ => n0 - (intOf iv).toNat)
  case atStart => exact ⟨0, by omega, rfl, I, MP⟩
  case round =>
    clear hb I
    obtain ⟨k, hk, rfl, I, MP⟩ := hrel
    have hn60 : n0 ≤ 60 := by have := LT0.out.1; have := HN0.out; omega
    by_cases hlt : k < n0
    · skip
      have hll : k < a0.length := by have := HN0.out; omega
      obtain ⟨b, o, rfl, hcell⟩ := steps_at L0.out (by omega)
      obtain ⟨x0, x1, x2, x3⟩ := hcell k hll
      have hmem := List.getElem_mem hll
      have hdk := (W0.out _ hmem).2
      have hok := step_ok (LT0.out.2 _ hmem) (W0.out _ hmem).1
      have hbl := World.block_lt_of_cell? _ _ x0
      have hps := puts_succ hll
      have hly := fun h => lastV_yes hll h
      have hln := fun h => lastV_no hll h
      have hlen := (puts_len (Ls := a0) k (by omega)).1
      obtain ⟨x, hx⟩ : ∃ x, x = a0[k] := ⟨_, rfl⟩
      rw [← hx] at x0 x1 x2 x3 hdk hok hps hly hln
      clear hx hmem hcell
      obtain ⟨d, key, bs, ms, mc, A⟩ := x
      unfold St.Deep at hdk
      simp only at x0 x1 x2 x3 hdk hok
      have dA := Lib.hid (hdk.below I.out.hb)
      have OK := Lib.hid hok
      have HK := Lib.hid hlt
      have HBL : Hid (b < w.heap.size) := Lib.hid hbl
      obtain ⟨na, hna⟩ : ∃ n, n = A.length := ⟨_, rfl⟩
      rw [← hna] at x3 dA
      have HNA := Lib.hid hna
      have y0 := Dots.keepC x0 I.out.hb
      have y1 := Dots.keepC x1 I.out.hb
      have y2 := Dots.keepC x2 I.out.hb
      have y3 := Dots.keepC x3 I.out.hb
      have d1 : decide ((k : Int) < (n0 : Int)) = true := decide_eq_true (by omega)
      have j1 : (0 : Int) ≤ (k : Int) := by omega
      have j2 : (k : Int) < (n0 : Int) := by omega
      clear hok hlt x0 x1 x2 x3 hbl hna hdk hll
      have HLY := Lib.hid hly
      have HLN := Lib.hid hln
      obtain ⟨l, hl⟩ : ∃ l, l = puts (a0.take k) := ⟨_, rfl⟩
      rw [← hl] at I hps hlen
      have hpl := putL_light (l := l) (by omega) ⟨key, bs, A⟩
      have hpe := putE_light (l := l) (by omega) ⟨key, bs, A⟩
      have HPS : Hid (puts (a0.take (k + 1)) = putL l ⟨key, bs, A⟩) := Lib.hid hps
      clear hps hly hln hl hlen hpl
      cases hA : mayL A with
      | true =>
        have hpe0 : putE l ⟨key, bs, A⟩ = 0 := by rw [hpe, if_pos (show mayL (⟨key, bs, A⟩ : It).s = true from hA)]
        have HLK : Hid (lastV a0 (k + 1) = TextMap.put (lastV a0 k) key (.int .i64 (k : Int))) := Lib.hid (HLY.out hA)
        clear hpe hA HLY HLN
        go_wp2_with fail
        refine wp_region_noPanic ?_
        refine wp_region_held_drew (S := (fun w' => w'.cell? ⟨b, o + k * 4 + 1, none⟩ = some (.string ⟨key.toArray⟩) ∧ w'.cell? ⟨b, o + k * 4 + 2, none⟩ = some (.string ⟨bs.toArray⟩) ∧ w'.cell? ⟨b, o + k * 4 + 3, none⟩ = some (.slice ms na mc))) (by kernel_rfl) (⟨y1, y2, y3⟩) (fun hHeld => ?_)
        refine wpAnyH_take (i := 0) (v := ?_) (by simp only [List.getElem?_toArray, List.getElem?_cons_zero]; rfl) (by kernel_rfl) (by kernel_rfl) (by kernel_rfl) (fun _ _ _ h => h) (Or.inl ⟨by rfl, ?_⟩) (by assumption) ?_
        rotate_left
        · (intro w hSw; (try dsimp only at hSw); go_simp; try with_reducible rfl)
        try simp only [Act.put, List.setIfInBounds_toArray, List.set_cons_zero, List.set_cons_succ]
        refine wpAnyH_take (i := 1) (v := ?_) (by simp only [List.getElem?_toArray, List.getElem?_cons_succ, List.getElem?_cons_zero]; rfl) (by kernel_rfl) (by kernel_rfl) (by kernel_rfl) (fun _ _ _ h => h) (Or.inl ⟨by rfl, ?_⟩) (by assumption) ?_
        rotate_left
        · (intro w hSw; (try dsimp only at hSw); go_simp; try with_reducible rfl)
        try simp only [Act.put, List.setIfInBounds_toArray, List.set_cons_zero, List.set_cons_succ]
        refine wpAnyH_take (i := 2) (v := ?_) (by simp only [List.getElem?_toArray, List.getElem?_cons_succ, List.getElem?_cons_zero]; rfl) (by kernel_rfl) (by kernel_rfl) (by kernel_rfl) (fun _ _ _ h => h) (Or.inl ⟨by rfl, ?_⟩) (by assumption) ?_
        rotate_left
        · (intro w hSw; (try dsimp only at hSw); go_simp; try with_reducible rfl)
        try simp only [Act.put, List.setIfInBounds_toArray, List.set_cons_zero, List.set_cons_succ]
        refine wpAnyH_take (i := 3) (v := ?_) (by simp only [List.getElem?_toArray, List.getElem?_cons_succ, List.getElem?_cons_zero]; rfl) (by kernel_rfl) (by kernel_rfl) (by kernel_rfl) (fun _ _ _ h => h) (Or.inl ⟨by rfl, ?_⟩) (by assumption) ?_
        rotate_left
        · (intro w hSw; (try dsimp only at hSw); go_simp; try with_reducible rfl)
        try simp only [Act.put, List.setIfInBounds_toArray, List.set_cons_zero, List.set_cons_succ]
        refine wpAnyH_take (i := 4) (v := ?_) (by simp only [List.getElem?_toArray, List.getElem?_cons_succ, List.getElem?_cons_zero]; rfl) (by kernel_rfl) (by kernel_rfl) (by kernel_rfl) (fun _ _ _ h => h) (Or.inl ⟨by rfl, ?_⟩) (by assumption) ?_
        rotate_left
        · (intro w hSw; (try dsimp only at hSw); go_simp; try with_reducible rfl)
        try simp only [Act.put, List.setIfInBounds_toArray, List.set_cons_zero, List.set_cons_succ]
        refine wpAnyH_take (i := 5) (v := ?_) (by simp only [List.getElem?_toArray, List.getElem?_cons_succ, List.getElem?_cons_zero]; rfl) (by kernel_rfl) (by kernel_rfl) (by kernel_rfl) (fun _ _ _ h => h) (Or.inl ⟨by rfl, ?_⟩) (by assumption) ?_
        rotate_left
        · (intro w hSw; (try dsimp only at hSw); go_simp; try with_reducible rfl)
        try simp only [Act.put, List.setIfInBounds_toArray, List.set_cons_zero, List.set_cons_succ]
        refine wpAnyH_take (i := 6) (v := ?_) (by simp only [List.getElem?_toArray, List.getElem?_cons_succ, List.getElem?_cons_zero]; rfl) (by kernel_rfl) (by kernel_rfl) (by kernel_rfl) (fun _ _ _ h => h) (Or.inl ⟨by rfl, ?_⟩) (by assumption) ?_
        rotate_left
        · (intro w hSw; (try dsimp only at hSw); go_simp; try with_reducible rfl)
        try simp only [Act.put, List.setIfInBounds_toArray, List.set_cons_zero, List.set_cons_succ]
        refine wpAnyH_take (i := 7) (v := ?_) (by simp only [List.getElem?_toArray, List.getElem?_cons_succ, List.getElem?_cons_zero]; rfl) (by kernel_rfl) (by kernel_rfl) (by kernel_rfl) (fun _ _ _ h => h) (Or.inl ⟨by rfl, ?_⟩) (by assumption) ?_
        rotate_left
        · (intro w hSw; (try dsimp only at hSw); go_simp; try with_reducible rfl)
        try simp only [Act.put, List.setIfInBounds_toArray, List.set_cons_zero, List.set_cons_succ]
        refine wpAnyH_take (i := 8) (v := ?_) (by simp only [List.getElem?_toArray, List.getElem?_cons_succ, List.getElem?_cons_zero]; rfl) (by kernel_rfl) (by kernel_rfl) (by kernel_rfl) (fun _ _ _ h => h) (Or.inl ⟨by rfl, ?_⟩) (by assumption) ?_
        rotate_left
        · (intro w hSw; (try dsimp only at hSw); go_simp; try with_reducible rfl)
        try simp only [Act.put, List.setIfInBounds_toArray, List.set_cons_zero, List.set_cons_succ]
        refine wpAnyH_take (i := 9) (v := ?_) (by simp only [List.getElem?_toArray, List.getElem?_cons_succ, List.getElem?_cons_zero]; rfl) (by kernel_rfl) (by kernel_rfl) (by kernel_rfl) (fun _ _ _ h => h) (Or.inl ⟨by rfl, ?_⟩) (by assumption) ?_
        rotate_left
        · (intro w hSw; (try dsimp only at hSw); go_simp; try with_reducible rfl)
        try simp only [Act.put, List.setIfInBounds_toArray, List.set_cons_zero, List.set_cons_succ]
        refine wpAnyH_take (i := 10) (v := ?_) (by simp only [List.getElem?_toArray, List.getElem?_cons_succ, List.getElem?_cons_zero]; rfl) (by kernel_rfl) (by kernel_rfl) (by kernel_rfl) (fun _ _ _ h => h) (Or.inl ⟨by rfl, ?_⟩) (by assumption) ?_
        rotate_left
        · (intro w hSw; (try dsimp only at hSw); go_simp; try with_reducible rfl)
        try simp only [Act.put, List.setIfInBounds_toArray, List.set_cons_zero, List.set_cons_succ]
        refine wpAnyH_take (i := 11) (v := ?_) (by simp only [List.getElem?_toArray, List.getElem?_cons_succ, List.getElem?_cons_zero]; rfl) (by kernel_rfl) (by kernel_rfl) (by kernel_rfl) (fun _ _ _ h => h) (Or.inl ⟨by rfl, ?_⟩) (by assumption) ?_
        rotate_left
        · (intro w hSw; (try dsimp only at hSw); go_simp; try with_reducible rfl)
        try simp only [Act.put, List.setIfInBounds_toArray, List.set_cons_zero, List.set_cons_succ]
        refine wpAnyH_take (i := 12) (v := ?_) (by simp only [List.getElem?_toArray, List.getElem?_cons_succ, List.getElem?_cons_zero]; rfl) (by kernel_rfl) (by kernel_rfl) (by kernel_rfl) (fun _ _ _ h => h) (Or.inl ⟨by rfl, ?_⟩) (by assumption) ?_
        rotate_left
        · (intro w hSw; (try dsimp only at hSw); go_simp; try with_reducible rfl)
        try simp only [Act.put, List.setIfInBounds_toArray, List.set_cons_zero, List.set_cons_succ]
        refine wpAnyH_take (i := 13) (v := ?_) (by simp only [List.getElem?_toArray, List.getElem?_cons_succ, List.getElem?_cons_zero]; rfl) (by kernel_rfl) (by kernel_rfl) (by kernel_rfl) (fun _ _ _ h => h) (Or.inl ⟨by rfl, ?_⟩) (by assumption) ?_
        rotate_left
        · (intro w hSw; (try dsimp only at hSw); go_simp; try with_reducible rfl)
        try simp only [Act.put, List.setIfInBounds_toArray, List.set_cons_zero, List.set_cons_succ]
        refine wpAnyH_take (i := 14) (v := ?_) (by simp only [List.getElem?_toArray, List.getElem?_cons_succ, List.getElem?_cons_zero]; rfl) (by kernel_rfl) (by kernel_rfl) (by kernel_rfl) (fun _ _ _ h => h) (Or.inl ⟨by rfl, ?_⟩) (by assumption) ?_
        rotate_left
        · (intro w hSw; (try dsimp only at hSw); go_simp; try with_reducible rfl)
        try simp only [Act.put, List.setIfInBounds_toArray, List.set_cons_zero, List.set_cons_succ]
        refine wpAnyH_take (i := 15) (v := ?_) (by simp only [List.getElem?_toArray, List.getElem?_cons_succ, List.getElem?_cons_zero]; rfl) (by kernel_rfl) (by kernel_rfl) (by kernel_rfl) (fun _ _ _ h => h) (Or.inl ⟨by rfl, ?_⟩) (by assumption) ?_
        rotate_left
        · (intro w hSw; (try dsimp only at hSw); go_simp; try with_reducible rfl)
        try simp only [Act.put, List.setIfInBounds_toArray, List.set_cons_zero, List.set_cons_succ]
        refine wpAnyH_ready (rs := [16]) (by kernel_rfl) (by simp) ?_
        refine AllReadyH.cons (by simp only [List.getElem?_toArray, List.getElem?_cons_succ, List.getElem?_cons_zero]; rfl) (fun K hK => ?_) AllReadyH.nil
        go_simp
        go_at_call 14
        refine (copied_any A ms na mc _ (dA.out.below (Below.drew (Below.refl _ _))) (by have := OK.out.1.2; have := HNA.out; omega)).mono ?_
        rintro e v7 ⟨z2, q2, rfl, t2, -, k7⟩
        have k8 : Below wr.heap.size wr v7 := (Below.drew (Below.refl _ _)).trans k7
        have I7 := Lib.hid (I.out.below k8)
        have MP7 := Lib.hid (MP.out.below k8)
        have T2 := Lib.hid t2
        have y4 := Dots.keepC y1 k8
        have y5 := Dots.keepC y2 k8
        have y6 := Dots.keepC y3 k8
        clear k7 k8 t2
        go_wp2_with fail
        refine hK.out _ _ (⟨y4, y5, y6⟩) (fun hHeld => ?_)
        clear hK K
        try simp only [Act.put, List.setIfInBounds_toArray, List.set_cons_zero, List.set_cons_succ]
        refine wpAnyH_ready (rs := [17]) (by kernel_rfl) (by simp) ?_
        refine AllReadyH.cons (by simp only [List.getElem?_toArray, List.getElem?_cons_succ, List.getElem?_cons_zero]; rfl) (fun K hK => ?_) AllReadyH.nil
        go_simp
        go_at_call 13
        refine (put_on I7.out key bs A z2 q2 T2.out OK.out.1.1 (by have := OK.out.2.1; omega) (by have := OK.out.2.2; omega) (by have := OK.out.1.2; omega) (by omega)).mono ?_
        rintro e v8 ⟨rfl, i8, k8⟩
        have I8 := Lib.hid i8
        have MP8 := Lib.hid (MP7.out.moved (k8.block _ MP7.out.lt (fun e => HMN.out.1 e.symm)))
        have hbm : b < v7.heap.size ∧ b ≠ mb := by have := HBL.out; have := I7.out.lo; have := I7.out.hb.size; omega
        have y7 := (k8.cell (p := ⟨b, o + k * 4 + 1, none⟩) hbm.1 hbm.2).trans y4
        have y8 := (k8.cell (p := ⟨b, o + k * 4 + 2, none⟩) hbm.1 hbm.2).trans y5
        have y9 := (k8.cell (p := ⟨b, o + k * 4 + 3, none⟩) hbm.1 hbm.2).trans y6
        clear i8 k8
        go_wp2_with fail
        refine hK.out _ _ (⟨y7, y8, y9⟩) (fun hHeld => ?_)
        clear hK K
        try simp only [Act.put, List.setIfInBounds_toArray, List.set_cons_zero, List.set_cons_succ]
        refine wpAnyH_take (i := 18) (v := ?_) (by simp only [List.getElem?_toArray, List.getElem?_cons_succ, List.getElem?_cons_zero]; rfl) (by kernel_rfl) (by kernel_rfl) (by kernel_rfl) (fun _ _ _ h => h) (Or.inl ⟨by rfl, ?_⟩) (by assumption) ?_
        rotate_left
        · (intro w hSw; (try dsimp only at hSw); go_simp; try with_reducible rfl)
        try simp only [Act.put, List.setIfInBounds_toArray, List.set_cons_zero, List.set_cons_succ]
        refine wpAnyH_done (by kernel_rfl) ?_ _
        refine NoPanic.normal ?_
        clear hHeld y1 y2 y3 y4 y5 y6 y8 y9
        go_wp2_with (at_mapUpdate; refine TextMap.wpList_put Tryz.underlying31 Tryz.underlying9 rfl _ _ _ rfl mm k (lastV a0 k) key (.int .i64 (k : Int)) rfl MP8.out (by have := HK.out; unfold maxLen; omega) rfl (by have := OK.out.2.1; unfold maxLen; omega) rfl ?_; intro w9 S9 k9)
        have I9 : Hid (On w w9 tb mb (k + 1) (puts (a0.take (k + 1)))) := Lib.hid (by rw [HPS.out]; exact mapped I8.out k9 (fun e => HMN.out.1 e.symm) HMN.out.2 MP8.out.isMap)
        have MP9 : Hid (TextMap.Is Tryz.prog 9 w9 mm (k + 1) (lastV a0 (k + 1))) := Lib.hid (by rw [HLK.out]; exact S9)
        clear S9 k9
        go_roundw
        case rel => exact ⟨k + 1, by have := HK.out; omega, by go_num, I9, MP9⟩
        case measure => have := HK.out; simp [intOf]; omega
      | false =>
        have hpe0 : putE l ⟨key, bs, A⟩ = 2 := by rw [hpe, if_neg (by rw [show (⟨key, bs, A⟩ : It).s = A from rfl, hA]; decide)]
        have HLK : Hid (lastV a0 (k + 1) = lastV a0 k) := Lib.hid (HLN.out hA)
        clear hpe hA HLY HLN
        go_wp2_with fail
        refine wp_region_noPanic ?_
        refine wp_region_held_drew (S := (fun w' => w'.cell? ⟨b, o + k * 4 + 1, none⟩ = some (.string ⟨key.toArray⟩) ∧ w'.cell? ⟨b, o + k * 4 + 2, none⟩ = some (.string ⟨bs.toArray⟩) ∧ w'.cell? ⟨b, o + k * 4 + 3, none⟩ = some (.slice ms na mc))) (by kernel_rfl) (⟨y1, y2, y3⟩) (fun hHeld => ?_)
        refine wpAnyH_take (i := 0) (v := ?_) (by simp only [List.getElem?_toArray, List.getElem?_cons_zero]; rfl) (by kernel_rfl) (by kernel_rfl) (by kernel_rfl) (fun _ _ _ h => h) (Or.inl ⟨by rfl, ?_⟩) (by assumption) ?_
        rotate_left
        · (intro w hSw; (try dsimp only at hSw); go_simp; try with_reducible rfl)
        try simp only [Act.put, List.setIfInBounds_toArray, List.set_cons_zero, List.set_cons_succ]
        refine wpAnyH_take (i := 1) (v := ?_) (by simp only [List.getElem?_toArray, List.getElem?_cons_succ, List.getElem?_cons_zero]; rfl) (by kernel_rfl) (by kernel_rfl) (by kernel_rfl) (fun _ _ _ h => h) (Or.inl ⟨by rfl, ?_⟩) (by assumption) ?_
        rotate_left
        · (intro w hSw; (try dsimp only at hSw); go_simp; try with_reducible rfl)
        try simp only [Act.put, List.setIfInBounds_toArray, List.set_cons_zero, List.set_cons_succ]
        refine wpAnyH_take (i := 2) (v := ?_) (by simp only [List.getElem?_toArray, List.getElem?_cons_succ, List.getElem?_cons_zero]; rfl) (by kernel_rfl) (by kernel_rfl) (by kernel_rfl) (fun _ _ _ h => h) (Or.inl ⟨by rfl, ?_⟩) (by assumption) ?_
        rotate_left
        · (intro w hSw; (try dsimp only at hSw); go_simp; try with_reducible rfl)
        try simp only [Act.put, List.setIfInBounds_toArray, List.set_cons_zero, List.set_cons_succ]
        refine wpAnyH_take (i := 3) (v := ?_) (by simp only [List.getElem?_toArray, List.getElem?_cons_succ, List.getElem?_cons_zero]; rfl) (by kernel_rfl) (by kernel_rfl) (by kernel_rfl) (fun _ _ _ h => h) (Or.inl ⟨by rfl, ?_⟩) (by assumption) ?_
        rotate_left
        · (intro w hSw; (try dsimp only at hSw); go_simp; try with_reducible rfl)
        try simp only [Act.put, List.setIfInBounds_toArray, List.set_cons_zero, List.set_cons_succ]
        refine wpAnyH_take (i := 4) (v := ?_) (by simp only [List.getElem?_toArray, List.getElem?_cons_succ, List.getElem?_cons_zero]; rfl) (by kernel_rfl) (by kernel_rfl) (by kernel_rfl) (fun _ _ _ h => h) (Or.inl ⟨by rfl, ?_⟩) (by assumption) ?_
        rotate_left
        · (intro w hSw; (try dsimp only at hSw); go_simp; try with_reducible rfl)
        try simp only [Act.put, List.setIfInBounds_toArray, List.set_cons_zero, List.set_cons_succ]
        refine wpAnyH_take (i := 5) (v := ?_) (by simp only [List.getElem?_toArray, List.getElem?_cons_succ, List.getElem?_cons_zero]; rfl) (by kernel_rfl) (by kernel_rfl) (by kernel_rfl) (fun _ _ _ h => h) (Or.inl ⟨by rfl, ?_⟩) (by assumption) ?_
        rotate_left
        · (intro w hSw; (try dsimp only at hSw); go_simp; try with_reducible rfl)
        try simp only [Act.put, List.setIfInBounds_toArray, List.set_cons_zero, List.set_cons_succ]
        refine wpAnyH_take (i := 6) (v := ?_) (by simp only [List.getElem?_toArray, List.getElem?_cons_succ, List.getElem?_cons_zero]; rfl) (by kernel_rfl) (by kernel_rfl) (by kernel_rfl) (fun _ _ _ h => h) (Or.inl ⟨by rfl, ?_⟩) (by assumption) ?_
        rotate_left
        · (intro w hSw; (try dsimp only at hSw); go_simp; try with_reducible rfl)
        try simp only [Act.put, List.setIfInBounds_toArray, List.set_cons_zero, List.set_cons_succ]
        refine wpAnyH_take (i := 7) (v := ?_) (by simp only [List.getElem?_toArray, List.getElem?_cons_succ, List.getElem?_cons_zero]; rfl) (by kernel_rfl) (by kernel_rfl) (by kernel_rfl) (fun _ _ _ h => h) (Or.inl ⟨by rfl, ?_⟩) (by assumption) ?_
        rotate_left
        · (intro w hSw; (try dsimp only at hSw); go_simp; try with_reducible rfl)
        try simp only [Act.put, List.setIfInBounds_toArray, List.set_cons_zero, List.set_cons_succ]
        refine wpAnyH_take (i := 8) (v := ?_) (by simp only [List.getElem?_toArray, List.getElem?_cons_succ, List.getElem?_cons_zero]; rfl) (by kernel_rfl) (by kernel_rfl) (by kernel_rfl) (fun _ _ _ h => h) (Or.inl ⟨by rfl, ?_⟩) (by assumption) ?_
        rotate_left
        · (intro w hSw; (try dsimp only at hSw); go_simp; try with_reducible rfl)
        try simp only [Act.put, List.setIfInBounds_toArray, List.set_cons_zero, List.set_cons_succ]
        refine wpAnyH_take (i := 9) (v := ?_) (by simp only [List.getElem?_toArray, List.getElem?_cons_succ, List.getElem?_cons_zero]; rfl) (by kernel_rfl) (by kernel_rfl) (by kernel_rfl) (fun _ _ _ h => h) (Or.inl ⟨by rfl, ?_⟩) (by assumption) ?_
        rotate_left
        · (intro w hSw; (try dsimp only at hSw); go_simp; try with_reducible rfl)
        try simp only [Act.put, List.setIfInBounds_toArray, List.set_cons_zero, List.set_cons_succ]
        refine wpAnyH_take (i := 10) (v := ?_) (by simp only [List.getElem?_toArray, List.getElem?_cons_succ, List.getElem?_cons_zero]; rfl) (by kernel_rfl) (by kernel_rfl) (by kernel_rfl) (fun _ _ _ h => h) (Or.inl ⟨by rfl, ?_⟩) (by assumption) ?_
        rotate_left
        · (intro w hSw; (try dsimp only at hSw); go_simp; try with_reducible rfl)
        try simp only [Act.put, List.setIfInBounds_toArray, List.set_cons_zero, List.set_cons_succ]
        refine wpAnyH_take (i := 11) (v := ?_) (by simp only [List.getElem?_toArray, List.getElem?_cons_succ, List.getElem?_cons_zero]; rfl) (by kernel_rfl) (by kernel_rfl) (by kernel_rfl) (fun _ _ _ h => h) (Or.inl ⟨by rfl, ?_⟩) (by assumption) ?_
        rotate_left
        · (intro w hSw; (try dsimp only at hSw); go_simp; try with_reducible rfl)
        try simp only [Act.put, List.setIfInBounds_toArray, List.set_cons_zero, List.set_cons_succ]
        refine wpAnyH_take (i := 12) (v := ?_) (by simp only [List.getElem?_toArray, List.getElem?_cons_succ, List.getElem?_cons_zero]; rfl) (by kernel_rfl) (by kernel_rfl) (by kernel_rfl) (fun _ _ _ h => h) (Or.inl ⟨by rfl, ?_⟩) (by assumption) ?_
        rotate_left
        · (intro w hSw; (try dsimp only at hSw); go_simp; try with_reducible rfl)
        try simp only [Act.put, List.setIfInBounds_toArray, List.set_cons_zero, List.set_cons_succ]
        refine wpAnyH_take (i := 13) (v := ?_) (by simp only [List.getElem?_toArray, List.getElem?_cons_succ, List.getElem?_cons_zero]; rfl) (by kernel_rfl) (by kernel_rfl) (by kernel_rfl) (fun _ _ _ h => h) (Or.inl ⟨by rfl, ?_⟩) (by assumption) ?_
        rotate_left
        · (intro w hSw; (try dsimp only at hSw); go_simp; try with_reducible rfl)
        try simp only [Act.put, List.setIfInBounds_toArray, List.set_cons_zero, List.set_cons_succ]
        refine wpAnyH_take (i := 14) (v := ?_) (by simp only [List.getElem?_toArray, List.getElem?_cons_succ, List.getElem?_cons_zero]; rfl) (by kernel_rfl) (by kernel_rfl) (by kernel_rfl) (fun _ _ _ h => h) (Or.inl ⟨by rfl, ?_⟩) (by assumption) ?_
        rotate_left
        · (intro w hSw; (try dsimp only at hSw); go_simp; try with_reducible rfl)
        try simp only [Act.put, List.setIfInBounds_toArray, List.set_cons_zero, List.set_cons_succ]
        refine wpAnyH_take (i := 15) (v := ?_) (by simp only [List.getElem?_toArray, List.getElem?_cons_succ, List.getElem?_cons_zero]; rfl) (by kernel_rfl) (by kernel_rfl) (by kernel_rfl) (fun _ _ _ h => h) (Or.inl ⟨by rfl, ?_⟩) (by assumption) ?_
        rotate_left
        · (intro w hSw; (try dsimp only at hSw); go_simp; try with_reducible rfl)
        try simp only [Act.put, List.setIfInBounds_toArray, List.set_cons_zero, List.set_cons_succ]
        refine wpAnyH_ready (rs := [16]) (by kernel_rfl) (by simp) ?_
        refine AllReadyH.cons (by simp only [List.getElem?_toArray, List.getElem?_cons_succ, List.getElem?_cons_zero]; rfl) (fun K hK => ?_) AllReadyH.nil
        go_simp
        go_at_call 14
        refine (copied_any A ms na mc _ (dA.out.below (Below.drew (Below.refl _ _))) (by have := OK.out.1.2; have := HNA.out; omega)).mono ?_
        rintro e v7 ⟨z2, q2, rfl, t2, -, k7⟩
        have k8 : Below wr.heap.size wr v7 := (Below.drew (Below.refl _ _)).trans k7
        have I7 := Lib.hid (I.out.below k8)
        have MP7 := Lib.hid (MP.out.below k8)
        have T2 := Lib.hid t2
        have y4 := Dots.keepC y1 k8
        have y5 := Dots.keepC y2 k8
        have y6 := Dots.keepC y3 k8
        clear k7 k8 t2
        go_wp2_with fail
        refine hK.out _ _ (⟨y4, y5, y6⟩) (fun hHeld => ?_)
        clear hK K
        try simp only [Act.put, List.setIfInBounds_toArray, List.set_cons_zero, List.set_cons_succ]
        refine wpAnyH_ready (rs := [17]) (by kernel_rfl) (by simp) ?_
        refine AllReadyH.cons (by simp only [List.getElem?_toArray, List.getElem?_cons_succ, List.getElem?_cons_zero]; rfl) (fun K hK => ?_) AllReadyH.nil
        go_simp
        go_at_call 13
        refine (put_on I7.out key bs A z2 q2 T2.out OK.out.1.1 (by have := OK.out.2.1; omega) (by have := OK.out.2.2; omega) (by have := OK.out.1.2; omega) (by omega)).mono ?_
        rintro e v8 ⟨rfl, i8, k8⟩
        have I8 := Lib.hid i8
        have MP8 := Lib.hid (MP7.out.moved (k8.block _ MP7.out.lt (fun e => HMN.out.1 e.symm)))
        have hbm : b < v7.heap.size ∧ b ≠ mb := by have := HBL.out; have := I7.out.lo; have := I7.out.hb.size; omega
        have y7 := (k8.cell (p := ⟨b, o + k * 4 + 1, none⟩) hbm.1 hbm.2).trans y4
        have y8 := (k8.cell (p := ⟨b, o + k * 4 + 2, none⟩) hbm.1 hbm.2).trans y5
        have y9 := (k8.cell (p := ⟨b, o + k * 4 + 3, none⟩) hbm.1 hbm.2).trans y6
        clear i8 k8
        go_wp2_with fail
        refine hK.out _ _ (⟨y7, y8, y9⟩) (fun hHeld => ?_)
        clear hK K
        try simp only [Act.put, List.setIfInBounds_toArray, List.set_cons_zero, List.set_cons_succ]
        refine wpAnyH_take (i := 18) (v := ?_) (by simp only [List.getElem?_toArray, List.getElem?_cons_succ, List.getElem?_cons_zero]; rfl) (by kernel_rfl) (by kernel_rfl) (by kernel_rfl) (fun _ _ _ h => h) (Or.inl ⟨by rfl, ?_⟩) (by assumption) ?_
        rotate_left
        · (intro w hSw; (try dsimp only at hSw); go_simp; try with_reducible rfl)
        try simp only [Act.put, List.setIfInBounds_toArray, List.set_cons_zero, List.set_cons_succ]
        refine wpAnyH_done (by kernel_rfl) ?_ _
        refine NoPanic.normal ?_
        clear hHeld y1 y2 y3 y4 y5 y6 y7 y8 y9 hbm
        have I9 : Hid (On w v8 tb mb (k + 1) (puts (a0.take (k + 1)))) := Lib.hid (by rw [HPS.out]; exact I8.out)
        have MP9 : Hid (TextMap.Is Tryz.prog 9 v8 mm (k + 1) (lastV a0 (k + 1))) := Lib.hid (by rw [HLK.out]; exact MP8.out.mono (Nat.le_succ k))
        go_wp2
        go_roundw
        case rel => exact ⟨k + 1, by have := HK.out; omega, by go_num, I9, MP9⟩
        case measure => have := HK.out; simp [intOf]; omega
    obtain rfl : k = n0 := by omega
    have I0 : Hid (On w wr tb mb k (puts a0)) := Lib.hid (by
      have e : a0.take k = a0 := List.take_of_length_le (by have := HN0.out; omega)
      rw [e] at I; exact I.out)
    have MP0 : Hid (TextMap.Is Tryz.prog 9 wr mm k (lastV a0 a0.length)) := Lib.hid (by rw [← HN0.out]; exact MP.out)
    have H60 : Hid (a0.length ≤ 60) := Lib.hid (by have := HN0.out; omega)
    obtain ⟨cc, hcc⟩ := lacks_fun (puts a0) a1
    have HCC := Lib.hid hcc
    clear hk hn60 hcc I MP
    go_wp2_with fail
    refine (copied_any a1 s1 n1 c1 _ (L1.out.below I0.out.hb) (by have := LT1.out.1; have := HN1.out; omega)).mono ?_
    rintro e v3 ⟨z3, q3, rfl, t3, -, k3⟩
    have I3 := Lib.hid (I0.out.below k3)
    have MP3 := Lib.hid (MP0.out.below k3)
    have DI := Lib.hid (diff_on I3.out HT.out a1 z3 a1.length q3 t3 OK1.out (by have := LT1.out.1; omega) cc HCC.out)
    rw [← HMB.out, if_pos rfl] at DI
    obtain ⟨R, hR⟩ : ∃ R, R = sel cc 16 := ⟨_, rfl⟩
    rw [← hR] at DI
    have HR := Lib.hid hR
    clear t3 k3 I0 MP0 hR
    go_wp2_with fail
    refine DI.out.mono ?_
    rintro e v4 ⟨ad, cd, rfl, ld, k4⟩
    have MP4 := Lib.hid (MP3.out.below k4)
    have hb := bstep I3.out.hb k4
    obtain ⟨nd, hnd⟩ : ∃ n, n = R.length := ⟨_, rfl⟩
    rw [← hnd] at ld ⊢
    have LD := Lib.hid ld
    have HND := Lib.hid hnd
    clear ld k4 hnd DI I3 MP3
    go_upto_region 12 with (fail)
    have ka := balloc (Below.refl v4.heap.size v4) (.cells #[.int .i64 0, .int .i64 0, .int .i64 0, .int .i64 0, .int .i64 0, .int .i64 0, .int .i64 0, .int .i64 0, .int .i64 0, .int .i64 0, .int .i64 0, .int .i64 0, .int .i64 0, .int .i64 0, .int .i64 0, .int .i64 0] 37)
    have fl : Flags (v4.alloc (.cells #[.int .i64 0, .int .i64 0, .int .i64 0, .int .i64 0, .int .i64 0, .int .i64 0, .int .i64 0, .int .i64 0, .int .i64 0, .int .i64 0, .int .i64 0, .int .i64 0, .int .i64 0, .int .i64 0, .int .i64 0, .int .i64 0] 37)) v4.heap.size (fun _ => false) := flags_new v4 _
    obtain ⟨fb, hfb⟩ : ∃ b, b = v4.heap.size := ⟨_, rfl⟩
    obtain ⟨v5, hv5⟩ : ∃ v, v = v4.alloc (.cells #[.int .i64 0, .int .i64 0, .int .i64 0, .int .i64 0, .int .i64 0, .int .i64 0, .int .i64 0, .int .i64 0, .int .i64 0, .int .i64 0, .int .i64 0, .int .i64 0, .int .i64 0, .int .i64 0, .int .i64 0, .int .i64 0] 37) := ⟨_, rfl⟩
    rw [← hv5] at ka fl ⊢
    rw [← hfb] at fl ⊢
    have FL := Lib.hid fl
    have MP5 := Lib.hid (MP4.out.below ka)
    have LD5 := Lib.hid (LD.out.below ka)
    have HFB : Hid (w.heap.size ≤ fb ∧ fb = v4.heap.size ∧ mm < fb) := Lib.hid ⟨by rw [hfb]; exact hb.size, hfb, by rw [hfb]; exact MP4.out.lt⟩
    replace hb := bstep hb ka
    clear ka fl hfb hv5
    go_wp2_with (at_range; refine TextRange.wpList_range Tryz.underlying31 Tryz.underlying9 rfl _ rfl mm k (lastV a0 a0.length) rfl MP5.out ?_; intro w6 cnt0 hr0 hb6)
    go_frame
    obtain ⟨r, hr⟩ : ∃ r, r = v5.heap.size := ⟨_, rfl⟩
    rw [← hr] at hr0 ⊢
    have HRR : Hid (fb < r) := Lib.hid (by rw [hr]; exact FL.out.lt)
    have R0 := Lib.hid hr0
    have F0 := Lib.hid (FL.out.below hb6)
    have D0 := Lib.hid (LD5.out.below hb6)
    have B0 := bstep hb hb6
    have BD0 : Hid (∀ i, i < 16 → ((fun _ : Nat => false) i = true ↔ Bad a0 a1 (fun q => (lastV a0 a0.length q).isSome) i)) := Lib.hid (fun i _ => ⟨fun h => (by cases h), fun h => absurd h (bad_none (fun _ => rfl) i)⟩)
    clear hr0 hb6 hr hb FL LD5 MP5 MP4
    go_loopw [10] (fun _ wr => ∃ (lf : List UInt8 → Bool) (cnt : Nat) (m : Nat → Bool), Hid (TextRange.Rng Tryz.prog 9 wr mm r k (lastV a0 a0.length) lf cnt) ∧ Hid (Flags wr fb m) ∧ Hid (∀ i, i < 16 → (m i = true ↔ Bad a0 a1 lf i)) ∧ Hid (Row.Lies (Ones.enc .i64) wr ad nd R) ∧ Below w.heap.size w wr) (fun _ wr => wr.rangeLeft mm r)
    case atStart => exact ⟨_, _, _, R0, F0, BD0, D0, B0⟩
    case round =>
      clear R0 F0 BD0 D0 B0
      obtain ⟨lf, cnt, m, RG, FL, BD, LR, hb⟩ := hrel
      go_wp2_with (at_next; refine TextRange.wpList_next Tryz.underlying9 rfl _ rfl mm r k (lastV a0 a0.length) lf cnt rfl RG.out ?_ ?_)
      · intro hl0
        have HM : Hid (∀ i, i < 16 → m i = cc i) := Lib.hid (fun i hi => Bool.eq_iff_iff.2 ((BD.out i hi).trans ((bad_all H60.out a1 hl0 i).trans (HCC.out i).symm)))
        clear hl0 BD RG
        go_wp2_with fail
        go_loopw [12, 13] (fun kv iv wr => ∃ i : Nat, i ≤ 16 ∧ iv = .int .i64 i ∧ kv = .int .i64 ((sel cc i).length : Int) ∧ Hid (Flags wr fb m) ∧ Hid (Row.Lies (Ones.enc .i64) wr ad nd R) ∧ Below w.heap.size w wr) (fun _ iv _ => 16 - (intOf iv).toNat)
        case atStart => exact ⟨0, by omega, rfl, by simp [sel], FL, LR, hb⟩
        case round =>
          clear FL LR hb
          obtain ⟨i, hi, rfl, rfl, FL, LR, hb⟩ := hrel
          have hnd : nd = (sel cc 16).length := by rw [HND.out, HR.out]
          by_cases hlt : i < 16
          · have e3 : decide ((i : Int) < 16) = true := decide_eq_true (by omega)
            have hfl := (FL.out i hlt).1
            have hmi := HM.out i hlt
            have HI := Lib.hid hlt
            have i1 : (0 : Int) ≤ (i : Int) := by omega
            have i2 : (i : Int) < 16 := by omega
            cases hc : cc i with
            | true =>
              obtain ⟨g1, g2⟩ := sel_head cc hlt hc
              have HZ : Hid ((sel cc (i + 1)).length = (sel cc i).length + 1) := Lib.hid (by rw [sel_yes hc, List.length_append]; rfl)
              obtain ⟨z, hz⟩ : ∃ z, z = (sel cc i).length := ⟨_, rfl⟩
              rw [← hz] at g1 g2 HZ ⊢
              rw [← hnd] at g1
              rw [← HR.out] at g2
              obtain ⟨b2, o2, rfl, hcl⟩ := Ones.Lies.at LR.out (by omega)
              have hx := hcl z (by rw [← HND.out]; exact g1)
              rw [g2] at hx
              rw [hmi, hc, if_pos rfl] at hfl
              have z1 : (0 : Int) ≤ (z : Int) := by omega
              have z2 : (z : Int) < (nd : Int) := by omega
              have z3 : decide ((z : Int) < (nd : Int)) = true := decide_eq_true z2
              have hzn : z ≤ 16 := by rw [hz]; exact Nat.le_trans (sel_len cc i) hi
              clear hz hcl g2 hnd hlt hc hmi hi
              go_wp2
              go_roundw
              case rel => exact ⟨i + 1, by have := HI.out; omega, by go_num, by rw [HZ.out]; go_num, FL, LR, hb⟩
              case measure => have := HI.out; simp [intOf]; omega
            | false =>
              have HZ : Hid ((sel cc (i + 1)).length = (sel cc i).length) := Lib.hid (by rw [sel_no hc])
              rw [hmi, hc, if_neg (by decide)] at hfl
              by_cases hzn : (sel cc i).length < nd
              · have g2 := sel_miss cc hlt hc (by rw [← hnd]; exact hzn)
                obtain ⟨z, hz⟩ : ∃ z, z = (sel cc i).length := ⟨_, rfl⟩
                rw [← hz] at hzn g2 HZ ⊢
                rw [← HR.out] at g2
                obtain ⟨b2, o2, rfl, hcl⟩ := Ones.Lies.at LR.out (by omega)
                have hx := hcl z (by rw [← HND.out]; exact hzn)
                obtain ⟨y, hy⟩ : ∃ y, y = R.getD z 0 := ⟨_, rfl⟩
                rw [← hy] at hx g2
                have e5 : (y == (i : Int)) = false := by simpa using g2
                have e6 : decide (y = (i : Int)) = false := decide_eq_false g2
                have z1 : (0 : Int) ≤ (z : Int) := by omega
                have z2 : (z : Int) < (nd : Int) := by omega
                have z3 : decide ((z : Int) < (nd : Int)) = true := decide_eq_true z2
                clear hz hcl hnd hlt hc hmi hi hy
                go_wp2
                go_roundw
                case rel => exact ⟨i + 1, by have := HI.out; omega, by go_num, by rw [HZ.out], FL, LR, hb⟩
                case measure => have := HI.out; simp [intOf]; omega
              · obtain ⟨z, hz⟩ : ∃ z, z = (sel cc i).length := ⟨_, rfl⟩
                rw [← hz] at hzn HZ ⊢
                have z3 : decide ((z : Int) < (nd : Int)) = false := decide_eq_false (by omega)
                clear hz hnd hlt hc hmi hi
                go_wp2
                go_roundw
                case rel => exact ⟨i + 1, by have := HI.out; omega, by go_num, by rw [HZ.out], FL, LR, hb⟩
                case measure => have := HI.out; simp [intOf]; omega
          obtain rfl : i = 16 := by omega
          have e3 : decide (((16 : Nat) : Int) < 16) = false := by decide
          rw [← hnd]
          have e4 : ((nd : Int) == (nd : Int)) = true := by simp
          clear hnd hlt hi LR FL
          go_wp2_with fail
          refine (works_any _ (HT.out.below hb)).mono ?_
          rintro e vw ⟨rfl, kw⟩
          replace hb := bstep hb kw
          go_wp2
          go_ret
          exact ⟨rfl, hb⟩
      · intro q c w7 cnt1 hlq hfq hql hrg hlt7 hg hsz hen
        obtain ⟨j, hj, rfl⟩ : ∃ j, lastF a0 a0.length q = some j ∧ c = .int .i64 (j : Int) := by
          unfold lastV at hfq
          cases hh : lastF a0 a0.length q with
          | none => rw [hh] at hfq; cases hfq
          | some j =>
            rw [hh] at hfq
            exact ⟨j, rfl, (Option.some.inj hfq).symm⟩
        obtain ⟨-, x, hx, hxk, -⟩ := lastF_at hj
        obtain ⟨hjl, hxe⟩ := List.getElem?_eq_some_iff.1 hx
        have HBAD := Lib.hid (fun i => bad_more (base := a1) hj hx hlq i)
        have hjk : j < k := by have := HN0.out; omega
        obtain ⟨b, o, rfl, hcell⟩ := steps_at L0.out (by omega)
        obtain ⟨-, -, -, x3⟩ := hcell j hjl
        have hmem := List.getElem_mem hjl
        rw [hxe] at x3 hmem
        have hdk := (W0.out x hmem).2
        have hok := step_ok (LT0.out.2 x hmem) (W0.out x hmem).1
        have HQL : Hid (q.length ≤ 2048) := Lib.hid (by rw [← hxk]; exact hok.2.1)
        have BR : But r wr w7 := but_grown hg
        have RG7 := Lib.hid hrg
        have FL7 := Lib.hid (FL.out.moved (BR.block fb FL.out.lt (by have := HRR.out; omega)))
        have LR7 := Lib.hid (lies_old LD.out LR.out BR (by have := HRR.out; have := HFB.out; omega))
        have hb7 := But.below hb BR (by have := HRR.out; have := HFB.out; omega) hb.size
        have HCN : Hid (cnt1 < cnt) := Lib.hid hlt7
        have HLE : Hid (wr.rangeLeft mm r = cnt) := Lib.hid RG.out.left_eq
        obtain ⟨d, key, bs, ms, mc, A⟩ := x
        unfold St.Deep at hdk
        simp only at x3 hdk hok
        try simp only at HBAD
        have dA := Lib.hid (hdk.below hb7)
        have OK := Lib.hid hok
        obtain ⟨na, hna⟩ : ∃ n, n = A.length := ⟨_, rfl⟩
        rw [← hna] at x3 dA
        have HNA := Lib.hid hna
        have y3 := Dots.keepC x3 hb7
        have j1 : (0 : Int) ≤ (j : Int) := by omega
        have j2 : (j : Int) < (k : Int) := by omega
        have CV := Lib.hid (RefDots.covers_any a1 A s1 ms n1 na c1 mc _ (L1.out.below hb7) dA.out (by have := LT1.out.1; have := HN1.out; omega) (by have := OK.out.1.2; have := HNA.out; omega) OK1.out OK.out.1.1)
        clear hj hx hxk hxe hjl hcell hmem hdk hok hlq hfq hql hrg hlt7 hg hsz BR FL LR RG x3 hna hb hjk
        go_wp2_with fail
        refine CV.out.mono ?_
        rintro e w8 ⟨rr, rfl, hrr, k8⟩
        have RG8 := Lib.hid (RG7.out.below k8)
        have FL8 := Lib.hid (FL7.out.below k8)
        have LR8 := Lib.hid (LR7.out.below k8)
        have hb8 := bstep hb7 k8
        have HRR8 := Lib.hid hrr
        clear k8 hrr CV RG7 FL7 LR7 hb7 hen y3
        cases rr
        rotate_left
        · have BD8 : Hid (∀ i, i < 16 → (m i = true ↔ Bad a0 a1 (fun y => lf y && !(y == q)) i)) := Lib.hid (fun i hi => (BD.out i hi).trans ⟨fun h => (HBAD.out i).2 (.inl h), fun h => ((HBAD.out i).1 h).elim id (fun h2 => absurd (HRR8.out.1 rfl) h2.2)⟩)
          go_wp2
          go_roundw
          case rel => exact ⟨_, _, _, RG8, FL8, BD8, LR8, hb8⟩
          case measure => have h1 := RG8.out.left_eq; have h2 := HLE.out; have h3 := HCN.out; omega
        go_wp2_with fail
        refine (Shard.refOf_any q _ (by have := HQL.out; omega)).mono ?_
        rintro e w9 ⟨rfl, k9⟩
        have RG9 := Lib.hid (RG8.out.below k9)
        have FL9 := Lib.hid (FL8.out.below k9)
        have LR9 := Lib.hid (LR8.out.below k9)
        have hb9 := bstep hb8 k9
        have hs16 := Shard.no_lt q
        obtain ⟨sh, hsh⟩ : ∃ s, s = Shard.no q := ⟨_, rfl⟩
        rw [← hsh] at hs16 ⊢
        have HSH := Lib.hid hsh
        obtain ⟨f1, f2⟩ := FL9.out sh hs16
        have s1' : (0 : Int) ≤ (sh : Int) := by omega
        have s2' : (sh : Int) < 16 := by omega
        have BF : But fb w9 (w9.setCell ⟨fb, sh, none⟩ (.int .i64 1)) := (But.refl fb w9).set _ rfl _
        have RGA := Lib.hid (RG9.out.moved (BF.block mm RG9.out.is.lt (by have := HFB.out; omega)) (BF.block r RG9.out.lt (by have := HRR.out; omega)))
        have FLA := Lib.hid (FL9.out.set sh)
        have LRA := Lib.hid (lies_old LD.out LR9.out BF (by have := HFB.out; omega))
        have HBA := Lib.hid (But.below hb9 BF (by have := HFB.out; omega) hb9.size)
        have BDA : Hid (∀ i, i < 16 → ((fun i => m i || i == sh) i = true ↔ Bad a0 a1 (fun y => lf y && !(y == q)) i)) := Lib.hid (fun i hi => by
          rw [HBAD.out i]
          simp only [Bool.or_eq_true, beq_iff_eq]
          constructor
          · rintro (h | h)
            · exact .inl ((BD.out i hi).1 h)
            · exact .inr ⟨by rw [h, HSH.out], fun h2 => by cases HRR8.out.2 h2⟩
          · rintro (h | h)
            · exact .inl ((BD.out i hi).2 h)
            · exact .inr (by rw [← h.1, HSH.out]))
        clear k9 hsh BF RG8 FL8 LR8 hb8 RG9 FL9 LR9
        go_wp2
        go_roundw
        case rel => exact ⟨_, _, _, RGA, FLA, BDA, LRA, HBA.out⟩
        case measure => have h1 := RGA.out.left_eq; have h2 := HLE.out; have h3 := HCN.out; omega
end TreeLacks
end Go.Proofs.YtjnlooccddnbkaaGreatDoor
