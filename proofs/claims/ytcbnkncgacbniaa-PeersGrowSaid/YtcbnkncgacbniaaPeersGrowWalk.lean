/- PeersGrow: the walk. -/
import Derived.Test.YtcbnkncgacbniaaPeersKeep
namespace Go.Proofs.Ytcbnkncgacbniaa
namespace PeersGrow
open Go.RowKit Go.Proofs.Ytcbnkncgacbniaa.Mark Go.Proofs.Ytcbnkncgacbniaa.Dots Go.Proofs.Ytcbnkncgacbniaa.Peers Go.Proofs.Ytcbnkncgacbniaa.PeersLaw
theorem save_on {b c B : Nat} {w x y : World} (h : Save b c w x) (k : Below B x y) (hB : w.heap.size ≤ B) : Save b c w y :=
  ⟨k.os.trans h.os, k.tape.trans h.tape, k.output.trans h.output, Nat.le_trans h.size k.size, fun j hj hb hc => (k.block j (by omega)).trans (h.block j hj hb hc)⟩
/-- A round's end: what stands behind the told one's row. -/
theorem round_end {w v12 v13 w4 w9 : World} {pb g sb n : Nat} {f' : List UInt8 → Option Value} {bx : Obj} {o : Obj} (h0 : v12.heap.size ≤ sb ∧ sb < v12.heap.size + 1 ∧ pb < v12.heap.size ∧ g < v12.heap.size) (hw : w.heap.size ≤ v12.heap.size)
    (BX1 : v13.heap[pb]? = some bx) (BG1 : v13.heap[g]? = v12.heap[g]?) (SV1 : Save pb g v12 v13) (SZ1 : v12.heap.size + 1 ≤ v13.heap.size) (hb : Below w.heap.size w v13)
    (S4 : TextMap.Is Try.prog 9 w4 sb n f') (k4 : v13.grownBy w4 (some sb)) (k9 : Below (v12.heap.size + 1) (w4.alloc o) w9) :
    w9.heap[pb]? = some bx ∧ w9.heap[g]? = v12.heap[g]? ∧ Save pb g v12 w9 ∧ v12.heap.size + 1 ≤ w9.heap.size ∧ TextMap.Is Try.prog 9 w9 sb n f' ∧ Below w.heap.size w w9 := by
  have ka : Below w4.heap.size w4 (w4.alloc o) := balloc (Below.refl _ _) _
  have s4 : Save pb sb v13 w4 := Save.grown2 k4
  have s4' : Save sb sb v13 w4 := Save.grown2 k4
  have z4 := s4.size
  have z9 := k9.size
  have za := ka.size
  have at9 : ∀ j, j < v12.heap.size + 1 → w9.heap[j]? = w4.heap[j]? := fun j hj => (k9.block j hj).trans (ka.block j (by omega))
  have kb : Below w.heap.size w w4 := Below.grown hb k4 hb.size (fun j e => by cases e; omega)
  refine ⟨?_, ?_, ?_, by omega, S4.moved (at9 sb (by omega)), ?_⟩
  · exact ((at9 pb (by omega)).trans (s4'.block pb (by omega) (by omega) (by omega))).trans BX1
  · exact ((at9 g (by omega)).trans (s4'.block g (by omega) (by omega) (by omega))).trans BG1
  · exact save_on ((SV1.new (by omega) s4).alloc o) k9 (by omega)
  · exact (kb.trans (ka.mono (by omega))).trans (k9.mono (by omega))
theorem told_step (T : List (List UInt8)) (k : Nat) : (List.range (k + 1)).map (seqL T) = (List.range k).map (seqL T) ++ [seqL T k] := by
  rw [List.range_succ, List.map_append]; rfl
theorem seen_step {T : List (List UInt8)} {k : Nat} {f : List UInt8 → Option Value} (h : ∀ q, f q = if cnt T q k = 0 then none else some (.int .i64 (cnt T q k : Int))) {x : List UInt8} (hx : x = seqL T k) {cx : Nat} (hc : cx = cnt T x k) (q : List UInt8) :
    TextMap.put f x (.int .i64 ((cx : Int) + 1)) q = if cnt T q (k + 1) = 0 then none else some (.int .i64 (cnt T q (k + 1) : Int)) := by
  unfold TextMap.put
  by_cases e : q = x
  · rw [if_pos e, cnt, e, ← hc, if_pos hx.symm, if_neg (by omega)]
    congr 2
  · have e1 : cnt T q (k + 1) = cnt T q k := by rw [cnt, if_neg (fun e' => e (by rw [hx, e']))]; rfl
    rw [if_neg e, h q, e1]
theorem told_cell {w : World} {B k m bt ot ct : Nat} {T : List (List UInt8)} (h : Words.Mine w B (.slice (some ⟨bt, ot, none⟩) k ct) ((List.range k).map (seqL T))) (hm : m < k) : w.cell? ⟨bt, ot + m, none⟩ = some (.string ⟨(seqL T m).toArray⟩) := by
  obtain ⟨a, c, e, -, -, hl, -⟩ := Row.Own.lies h
  simp only [Value.slice.injEq] at e
  obtain ⟨rfl, -, -⟩ := e
  obtain ⟨b, o, e', hc⟩ := Words.words_at hl (by simp only [List.length_map, List.length_range]; omega)
  simp only [Option.some.injEq, Addr.mk.injEq] at e'
  obtain ⟨rfl, rfl, -⟩ := e'
  have := hc m (by simpa using hm)
  simpa using this
theorem in_step {L : List (List UInt8)} {j : Nat} (hj : j < L.length) {f : List UInt8 → Option Value} {v : Value} (h : ∀ q, q ∈ L.take j ↔ (f q).isSome = true) {x : List UInt8} (hx : x = L[j]) (q : List UInt8) :
    q ∈ L.take (j + 1) ↔ (TextMap.put f x v q).isSome = true := by
  rw [List.take_succ_eq_append_getElem hj, List.mem_append, List.mem_singleton, h q, ← hx]
  unfold TextMap.put
  by_cases e : q = x
  · rw [if_pos e]; simp [e]
  · rw [if_neg e]; simp [e]
theorem same_self (R : List (List UInt8)) (a a2 : Option Addr) (c c2 n : Nat) (w : World) (hn : n = R.length) (hL : Words.Lies w a R.length R) (hK : Words.Lies w a2 n R) (hl : R.length ≤ 1099511627776) :
    Calls Try.prog 18 #[.slice a n c, .slice a2 n c2] w fun e w' => e = .returned (.bool true) ∧ Below w.heap.size w w' := by
  subst hn
  refine (same_any R R a a2 c c2 w hL hK hl).mono ?_
  rintro e w' ⟨rfl, k⟩
  exact ⟨by rw [decide_eq_true rfl], k⟩
theorem put_same {f : List UInt8 → Option Value} {x : List UInt8} {v z : Value} : ((TextMap.put f x v) x).getD z = v := by unfold TextMap.put; rw [if_pos rfl]; rfl
theorem zero_int {w : World} : (zeroValue 3).run Try.prog w = .ok (.int .i64 0) w := by kernel_rfl

set_option maxRecDepth 100000 in
set_option maxHeartbeats 40000000 in
theorem walk (a0 : List (List UInt8)) (s0 : Option Addr) (c0 : Nat) (a1 : List Peers.St) (s1 : Option Addr) (c1 : Nat) (w : World) (w0 : ∀ x ∈ a0, x.length ≤ 140737488351232) (l0 : Words.Lies w s0 a0.length a0) (_ : a0.length ≤ 140737488351232) (w1 : ∀ x ∈ a1, x.Sized ∧ x.Deep w) (l1 : Peers.Steps w s1 a1.length a1) (_ : a1.length ≤ 140737488351232) :
    Calls Try.prog 3 #[.slice s0 a0.length c0, .slice s1 a1.length c1] w fun e w' => e = .returned (.bool true) ∧ Below w.heap.size w w' := by
  have hb := Below.refl w.heap.size w
  have hmm := @run_makeMap Try.prog
  have HH := Lib.hid (heavy_any a1 s1 c1 w l1 (fun x hx => (w1 x hx).2) (fun x hx => (w1 x hx).1))
  obtain ⟨n0, hn0⟩ : ∃ n, n = a0.length := ⟨_, rfl⟩
  obtain ⟨n1, hn1⟩ : ∃ n, n = a1.length := ⟨_, rfl⟩
  rw [← hn0] at l0 ⊢
  rw [← hn1] at l1 HH ⊢
  have HN := Lib.hid (And.intro hn0 hn1)
  have W0 := Lib.hid w0
  have W1 := Lib.hid w1
  replace l0 := Lib.hid l0
  replace l1 := Lib.hid l1
  clear w0 w1 hn0 hn1
  go_enter Try.func3, Try.ntmps3
  go_wp2_with fail
  refine HH.out.mono ?_
  rintro e v1 ⟨r1, rfl, hr1, k1⟩
  replace hb := bstep hb k1
  have HR1 := Lib.hid hr1
  clear k1 hr1
  cases r1
  rotate_left
  · go_wp2_with fail
    refine (works_any _).mono ?_
    rintro e v2 ⟨rfl, k2⟩
    replace hb := bstep hb k2
    go_wp2
    go_ret
    exact ⟨rfl, hb⟩
  have LT := Lib.hid (HR1.out rfl)
  clear HR1
  go_wp2_with fail
  have L0 : Peers.Steps (v1.alloc (.cells #[.int .i64 0, .slice s0 n0 c0, .string ⟨#[]⟩, .slice none 0 0, .string ⟨#[]⟩, .int .u64 0, .string ⟨#[]⟩, .int .u64 0] 30)) (some ⟨v1.heap.size, 0, none⟩) 1 [oneL s0 c0 a0] := by
    have := Row.lies_new (E := Peers.encS) v1 (oneL s0 c0 a0) 30
    unfold oneL Peers.encS St.cells at this
    simp only [← HN.out.1] at this
    exact this
  replace hb := bstep hb (balloc (Below.refl _ _) (.cells #[.int .i64 0, .slice s0 n0 c0, .string ⟨#[]⟩, .slice none 0 0, .string ⟨#[]⟩, .int .u64 0, .string ⟨#[]⟩, .int .u64 0] 30))
  refine (heavy_words a0 _ s0 c0 n0 _ HN.out.1 L0 (l0.out.below hb) W0.out).mono ?_
  rintro e v2 ⟨r2, rfl, hr2, k2⟩
  replace hb := bstep hb k2
  have HR2 := Lib.hid hr2
  clear k2 hr2 L0
  cases r2
  rotate_left
  · go_wp2_with fail
    refine (works_any _).mono ?_
    rintro e v3 ⟨rfl, k3⟩
    replace hb := bstep hb k3
    go_wp2
    go_ret
    exact ⟨rfl, hb⟩
  have LM := Lib.hid (HR2.out rfl)
  clear HR2
  go_wp2_with fail
  refine (new_any _).mono ?_
  rintro e v3 ⟨pb, mb, rfl, i3, hp, hm, k3⟩
  have HP : Hid (w.heap.size ≤ pb ∧ w.heap.size ≤ mb) := Lib.hid ⟨Nat.le_trans hb.size hp, Nat.le_trans hb.size hm⟩
  replace hb := bstep hb k3
  have I := Lib.hid i3
  clear i3 hp hm k3
  go_wp2_with (at_builtin; refine Row.wpList_app Words.typ rfl _ _ rfl v3.heap.size _ [] rfl (Row.Own.nil _ _) s0 n0 c0 a0 rfl (l0.out.below hb) (by have := LM.out.1; have := HN.out; simp only [List.length_nil]; omega) (Nat.le_refl _) ?_; intro v4 w4 o4 _ k4)
  rw [List.nil_append] at o4
  obtain ⟨sa, ca, rfl, -, -, la, -⟩ := Row.Own.lies o4
  replace hb := bstep hb k4
  replace I := Lib.hid (I.out.below k4)
  replace la := Lib.hid la
  clear o4 k4
  obtain ⟨T, hT⟩ : ∃ T, T = sortU a0 := ⟨_, rfl⟩
  have HT := Lib.hid hT
  have HTL : Hid (T.length ≤ 30) := Lib.hid (by rw [hT]; exact Nat.le_trans (sortU_len a0) LM.out.1)
  clear hT
  go_wp2_with fail
  refine (set_any a0 sa ca _ pb mb [] _ [] I.out la.out (fun q hq => by have := LM.out.2 q hq; omega) (by have := LM.out.1; omega)).mono ?_
  rintro e v5 ⟨rfl, g, i5, hg, k5⟩
  rw [val_nil, ← HT.out] at i5
  have HG : Hid (w.heap.size ≤ pb ∧ w.heap.size ≤ g) := Lib.hid ⟨HP.out.1, Nat.le_trans hb.size hg⟩
  replace hb := stepS hb k5 HP.out (Nat.le_refl _)
  replace I := Lib.hid i5
  clear i5 hg k5 la
  go_wp2_with fail
  go_loopw [6] (fun iv wr => ∃ (k : Nat) (V : List UInt8 → List M), k ≤ n1 ∧ iv = .int .i64 k ∧ Hid (Is wr pb g T V []) ∧ Hid (VOK V (30 * k)) ∧ Below w.heap.size w wr) (fun iv _ => n1 - (intOf iv).toNat)
  case atStart => exact ⟨0, _, by omega, rfl, I, Lib.hid (vok_nil _), hb⟩
  case round =>
    clear hb I
    obtain ⟨k, V, hk, rfl, I, HV, hb⟩ := hrel
    have hn1 : n1 ≤ 200 := by have := LT.out.1; have := HN.out; omega
    by_cases hlt : k < n1
    · have hll : k < a1.length := by have := HN.out; omega
      obtain ⟨b, o, rfl, hcell⟩ := steps_at l1.out (by omega)
      obtain ⟨x1, x2, x3, x4, x6⟩ := hcell k hll
      have hmem := List.getElem_mem hll
      have hdk := (W1.out _ hmem).2
      obtain ⟨okA, lenA, lenP⟩ := light_ok (LT.out.2 _ hmem) (W1.out _ hmem).1
      have hbl := World.block_lt_of_cell? _ _ x2
      obtain ⟨x, hx⟩ : ∃ x, x = a1[k] := ⟨_, rfl⟩
      rw [← hx] at x2 x3 hdk okA lenA lenP
      clear hx hmem hcell x1 x4 x6 hll
      obtain ⟨d, ls, lc, L, pe, ms, mc, A, bp, cap, ow, bs⟩ := x
      obtain ⟨dL, dA⟩ := hdk
      simp only at x2 x3 dA okA lenA lenP hbl
      have dA := Lib.hid dA
      have OK := Lib.hid (And.intro okA (And.intro lenA lenP))
      have HK := Lib.hid hlt
      have HBL : Hid (b < w.heap.size) := Lib.hid hbl
      obtain ⟨na, hna⟩ : ∃ n, n = A.length := ⟨_, rfl⟩
      rw [← hna] at x3 dA
      have HNA := Lib.hid hna
      have X2 := Lib.hid x2
      have X3 := Lib.hid x3
      have y2 := Dots.keepC x2 hb
      have y3 := Dots.keepC x3 hb
      have d1 : decide ((k : Int) < (n1 : Int)) = true := decide_eq_true (by omega)
      have j1 : (0 : Int) ≤ (k : Int) := by omega
      have j2 : (k : Int) < (n1 : Int) := by omega
      clear dL okA lenA lenP hlt x2 x3 hbl hna
      go_wp2_with fail
      refine (known_any pe (by have := OK.out.2.2; omega) _ pb g T V [] I.out (by have := ((HV.out.val T) pe).2.2; omega)).mono ?_
      rintro e v6 ⟨z1, q1, rfl, t1, hz1, k6⟩
      have HZ1 : Hid (∀ x, z1 = some x → pb < x.block) := Lib.hid (fun x e => by have := hz1 x e; have := I.out.lt.1; omega)
      replace I := Lib.hid (I.out.below k6)
      replace hb := bstep hb k6
      replace y2 := Dots.keepC y2 k6
      replace y3 := Dots.keepC y3 k6
      obtain ⟨was, hwas⟩ : ∃ l, l = val T V pe := ⟨_, rfl⟩
      rw [← hwas] at t1 ⊢
      have HWAS := Lib.hid hwas
      replace t1 := Lib.hid t1
      clear k6 hz1 hwas
      have HB6 := Lib.hid hb
      have hpb : b ≠ pb := by have := HBL.out; have := HG.out; omega
      have hpg : b ≠ g := by have := HBL.out; have := HG.out; omega
      go_wp2_with fail
      refine wp_region_noPanic ?_
      refine wp_region_held_drew (S := (fun w' => w'.cell? ⟨b, o + k * 8 + 2, none⟩ = some (.string ⟨pe.toArray⟩) ∧ w'.cell? ⟨b, o + k * 8 + 3, none⟩ = some (.slice ms na mc))) (by kernel_rfl) (⟨y2, y3⟩) (fun hHeld => ?_)
      refine wpAnyH_take (i := 0) (v := ?_) (by simp only [List.getElem?_toArray, List.getElem?_cons_zero]; rfl) (by kernel_rfl) (by kernel_rfl) (by kernel_rfl) (fun _ _ _ h => h) (Or.inl ⟨by rfl, ?_⟩) (by assumption) ?_
      rotate_left
      · (intro w hSw; (try dsimp only at hSw); go_simp; try with_reducible rfl)
      try simp only [Act.put, List.setIfInBounds_toArray, List.set_cons_zero, List.set_cons_succ]
      refine wpAnyH_take (i := 1) (v := ?_) (by simp only [List.getElem?_toArray, List.getElem?_cons_succ, List.getElem?_cons_zero]; rfl) (by kernel_rfl) (by kernel_rfl) (by kernel_rfl) (fun _ _ _ h => h) (Or.inl ⟨by rfl, ?_⟩) (by assumption) ?_
      rotate_left
      · (intro w hSw; (try dsimp only at hSw); go_simp; try with_reducible rfl)
      try simp only [Act.put, List.setIfInBounds_toArray, List.set_cons_zero, List.set_cons_succ]
      refine wpAnyH_take (i := 2) (v := ?_) (by simp only [List.getElem?_toArray, List.getElem?_cons_succ, List.getElem?_cons_zero]; rfl) (by kernel_rfl) (by kernel_rfl) (by kernel_rfl) (fun _ _ _ h => h) (Or.inl ⟨by rfl, ?_⟩) (by assumption) ?_
      rotate_left
      · (intro w hSw; (try dsimp only at hSw); go_simp; try with_reducible rfl)
      try simp only [Act.put, List.setIfInBounds_toArray, List.set_cons_zero, List.set_cons_succ]
      refine wpAnyH_take (i := 3) (v := ?_) (by simp only [List.getElem?_toArray, List.getElem?_cons_succ, List.getElem?_cons_zero]; rfl) (by kernel_rfl) (by kernel_rfl) (by kernel_rfl) (fun _ _ _ h => h) (Or.inl ⟨by rfl, ?_⟩) (by assumption) ?_
      rotate_left
      · (intro w hSw; (try dsimp only at hSw); go_simp; try with_reducible rfl)
      try simp only [Act.put, List.setIfInBounds_toArray, List.set_cons_zero, List.set_cons_succ]
      refine wpAnyH_take (i := 4) (v := ?_) (by simp only [List.getElem?_toArray, List.getElem?_cons_succ, List.getElem?_cons_zero]; rfl) (by kernel_rfl) (by kernel_rfl) (by kernel_rfl) (fun _ _ _ h => h) (Or.inl ⟨by rfl, ?_⟩) (by assumption) ?_
      rotate_left
      · (intro w hSw; (try dsimp only at hSw); go_simp; try with_reducible rfl)
      try simp only [Act.put, List.setIfInBounds_toArray, List.set_cons_zero, List.set_cons_succ]
      refine wpAnyH_take (i := 5) (v := ?_) (by simp only [List.getElem?_toArray, List.getElem?_cons_succ, List.getElem?_cons_zero]; rfl) (by kernel_rfl) (by kernel_rfl) (by kernel_rfl) (fun _ _ _ h => h) (Or.inl ⟨by rfl, ?_⟩) (by assumption) ?_
      rotate_left
      · (intro w hSw; (try dsimp only at hSw); go_simp; try with_reducible rfl)
      try simp only [Act.put, List.setIfInBounds_toArray, List.set_cons_zero, List.set_cons_succ]
      refine wpAnyH_take (i := 6) (v := ?_) (by simp only [List.getElem?_toArray, List.getElem?_cons_succ, List.getElem?_cons_zero]; rfl) (by kernel_rfl) (by kernel_rfl) (by kernel_rfl) (fun _ _ _ h => h) (Or.inl ⟨by rfl, ?_⟩) (by assumption) ?_
      rotate_left
      · (intro w hSw; (try dsimp only at hSw); go_simp; try with_reducible rfl)
      try simp only [Act.put, List.setIfInBounds_toArray, List.set_cons_zero, List.set_cons_succ]
      refine wpAnyH_take (i := 7) (v := ?_) (by simp only [List.getElem?_toArray, List.getElem?_cons_succ, List.getElem?_cons_zero]; rfl) (by kernel_rfl) (by kernel_rfl) (by kernel_rfl) (fun _ _ _ h => h) (Or.inl ⟨by rfl, ?_⟩) (by assumption) ?_
      rotate_left
      · (intro w hSw; (try dsimp only at hSw); go_simp; try with_reducible rfl)
      try simp only [Act.put, List.setIfInBounds_toArray, List.set_cons_zero, List.set_cons_succ]
      refine wpAnyH_take (i := 8) (v := ?_) (by simp only [List.getElem?_toArray, List.getElem?_cons_succ, List.getElem?_cons_zero]; rfl) (by kernel_rfl) (by kernel_rfl) (by kernel_rfl) (fun _ _ _ h => h) (Or.inl ⟨by rfl, ?_⟩) (by assumption) ?_
      rotate_left
      · (intro w hSw; (try dsimp only at hSw); go_simp; try with_reducible rfl)
      try simp only [Act.put, List.setIfInBounds_toArray, List.set_cons_zero, List.set_cons_succ]
      refine wpAnyH_take (i := 9) (v := ?_) (by simp only [List.getElem?_toArray, List.getElem?_cons_succ, List.getElem?_cons_zero]; rfl) (by kernel_rfl) (by kernel_rfl) (by kernel_rfl) (fun _ _ _ h => h) (Or.inl ⟨by rfl, ?_⟩) (by assumption) ?_
      rotate_left
      · (intro w hSw; (try dsimp only at hSw); go_simp; try with_reducible rfl)
      try simp only [Act.put, List.setIfInBounds_toArray, List.set_cons_zero, List.set_cons_succ]
      refine wpAnyH_take (i := 10) (v := ?_) (by simp only [List.getElem?_toArray, List.getElem?_cons_succ, List.getElem?_cons_zero]; rfl) (by kernel_rfl) (by kernel_rfl) (by kernel_rfl) (fun _ _ _ h => h) (Or.inl ⟨by rfl, ?_⟩) (by assumption) ?_
      rotate_left
      · (intro w hSw; (try dsimp only at hSw); go_simp; try with_reducible rfl)
      try simp only [Act.put, List.setIfInBounds_toArray, List.set_cons_zero, List.set_cons_succ]
      refine wpAnyH_ready (rs := [11]) (by kernel_rfl) (by simp) ?_
      refine AllReadyH.cons (by simp only [List.getElem?_toArray, List.getElem?_cons_succ, List.getElem?_cons_zero]; rfl) (fun K hK => ?_) AllReadyH.nil
      go_simp
      go_at_call 13
      refine (copied_any A ms na mc _ ((dA.out.below HB6.out).below (Below.drew (Below.refl _ _))) (by have := OK.out.2.1; have := HNA.out; omega)).mono ?_
      rintro e v7 ⟨z2, q2, rfl, t2, -, k7⟩
      have k8 : Below v6.heap.size v6 v7 := (Below.drew (Below.refl _ _)).trans k7
      have I7 := Lib.hid (I.out.below k8)
      have B7 := Lib.hid (bstep HB6.out k8)
      have T1 := Lib.hid (t1.out.below k8)
      have T2 := Lib.hid t2
      have y4 := Dots.keepC y2 k8
      have y5 := Dots.keepC y3 k8
      clear k7 k8 t2
      go_wp2_with fail
      refine hK.out _ _ (⟨y4, y5⟩) (fun hHeld => ?_)
      clear hK K
      try simp only [Act.put, List.setIfInBounds_toArray, List.set_cons_zero, List.set_cons_succ]
      refine wpAnyH_ready (rs := [12]) (by kernel_rfl) (by simp) ?_
      refine AllReadyH.cons (by simp only [List.getElem?_toArray, List.getElem?_cons_succ, List.getElem?_cons_zero]; rfl) (fun K hK => ?_) AllReadyH.nil
      go_simp
      go_at_call 12
      refine (learn_any pe A z2 q2 _ pb g T V [] I7.out T2.out OK.out.1 (by have := OK.out.2.2; omega) (by have := OK.out.2.1; omega) (by have := ((HV.out.val T) pe).2.2; omega)).mono ?_
      rintro e v8 ⟨r, V', rfl, hL, i8, k8⟩
      have I8 := Lib.hid i8
      have HL := Lib.hid hL
      have SV := Lib.hid k8
      have y6 := (k8.cell (p := ⟨b, o + k * 8 + 2, none⟩) (World.block_lt_of_cell? _ _ y4) hpb hpg).trans y4
      have y7 := (k8.cell (p := ⟨b, o + k * 8 + 3, none⟩) (World.block_lt_of_cell? _ _ y5) hpb hpg).trans y5
      clear i8 hL k8
      go_wp2_with fail
      refine hK.out _ _ (⟨y6, y7⟩) (fun hHeld => ?_)
      clear hK K
      try simp only [Act.put, List.setIfInBounds_toArray, List.set_cons_zero, List.set_cons_succ]
      refine wpAnyH_take (i := 13) (v := ?_) (by simp only [List.getElem?_toArray, List.getElem?_cons_succ, List.getElem?_cons_zero]; rfl) (by kernel_rfl) (by kernel_rfl) (by kernel_rfl) (fun _ _ _ h => h) (Or.inl ⟨by rfl, ?_⟩) (by assumption) ?_
      rotate_left
      · (intro w hSw; (try dsimp only at hSw); go_simp; try with_reducible rfl)
      try simp only [Act.put, List.setIfInBounds_toArray, List.set_cons_zero, List.set_cons_succ]
      refine wpAnyH_done (by kernel_rfl) ?_ _
      refine NoPanic.normal ?_
      clear hHeld y2 y3 y4 y5 hb t1
      have hb := stepS B7.out SV.out HG.out (Nat.le_refl _)
      have t1 := Lib.hid (marks_save T1.out SV.out I7.out (Nat.lt_succ_self pb) (fun x e => by have := HZ1.out x e; omega))
      have HV' := Lib.hid (learnt_ok HL.out HV.out OK.out.1 OK.out.2.1)
      have hcov := learnt_cov HL.out
      have hmore := learnt_more HL.out
      rw [← HWAS.out] at hcov hmore
      have okw : Ok was := by rw [HWAS.out]; exact ((HV.out.val T) pe).2.1
      have lenw : was.length ≤ 6000 := by have := ((HV.out.val T) pe).2.2; rw [← HWAS.out] at this; omega
      have HCV := Lib.hid hcov
      have HMR := Lib.hid hmore
      have HOW := Lib.hid (And.intro okw lenw)
      clear hcov hmore okw lenw I I7 B7 T1 T2
      go_wp2_with fail
      refine (known_any pe (by have := OK.out.2.2; omega) _ pb g T V' [] I8.out (by have := ((HV'.out.val T) pe).2.2; omega)).mono ?_
      rintro e v9 ⟨z3, q3, rfl, t3, -, k9⟩
      have I := Lib.hid (I8.out.below k9)
      replace hb := bstep hb k9
      replace t1 := Lib.hid (t1.out.below k9)
      obtain ⟨now, hnow⟩ : ∃ l, l = val T V' pe := ⟨_, rfl⟩
      rw [← hnow] at t3 HCV HMR ⊢
      have HON : Hid (Ok now ∧ now.length ≤ 6030) := Lib.hid (by have := (HV'.out.val T) pe; rw [← hnow] at this; exact ⟨this.2.1, by have := this.2.2; omega⟩)
      replace t3 := Lib.hid t3
      clear k9 hnow I8 y6 y7
      go_wp2_with fail
      refine (RefDots.covers_any now was z3 z1 now.length was.length q3 q1 _ t3.out t1.out (by have := HON.out.2; omega) (by have := HOW.out.2; omega) HON.out.1 HOW.out.1).mono ?_
      rintro e v10 ⟨rc, rfl, hrc, k10⟩
      have hrt : rc = true := hrc.2 HCV.out
      rw [hrt]
      clear hrc hrt
      replace I := Lib.hid (I.out.below k10)
      replace hb := bstep hb k10
      replace t1 := Lib.hid (t1.out.below k10)
      replace t3 := Lib.hid (t3.out.below k10)
      clear k10
      go_wp2_with fail
      refine (marks_any now was z3 z1 now.length was.length q3 q1 _ t3.out t1.out (by have := HON.out.2; omega) (by have := HOW.out.2; omega)).mono ?_
      rintro e v11 ⟨rfl, k11⟩
      rw [HMR.out]
      replace I := Lib.hid (I.out.below k11)
      replace hb := bstep hb k11
      clear k11
      have HRES : Hid (Is v11 pb g T V' [] ∧ VOK V' (30 * (k + 1))) := Lib.hid ⟨I.out, by have := HV'.out; rw [show 30 * (k + 1) = 30 * k + 30 by omega]; exact this⟩
      cases r
      · go_wp2_with fail
        go_roundw
        case rel => exact ⟨k + 1, V', by have := HK.out; omega, by go_num, Lib.hid HRES.out.1, Lib.hid HRES.out.2, hb⟩
        case measure => have := HK.out; simp [intOf]; omega
      · go_wp2_with fail
        go_roundw
        case rel => exact ⟨k + 1, V', by have := HK.out; omega, by go_num, Lib.hid HRES.out.1, Lib.hid HRES.out.2, hb⟩
        case measure => have := HK.out; simp [intOf]; omega
    · obtain rfl : n1 = k := by omega
      have d1 : decide ((n1 : Int) < (n1 : Int)) = false := decide_eq_false (by omega)
      clear hlt hk
      go_wp2_with fail
      refine (all_any _ pb g T V [] I.out).mono ?_
      rintro e v12 ⟨v, rfl, o12, k12⟩
      obtain ⟨al, cl, rfl, -, -, ll, hal, -⟩ := o12.lies'
      obtain ⟨n, hn⟩ : ∃ n, n = T.length := ⟨_, rfl⟩
      rw [← hn] at ll ⊢
      have HNT := Lib.hid hn
      have hn30 : n ≤ 30 := by rw [hn]; exact HTL.out
      have HLT := Lib.hid ll
      have HAL : Hid (∀ x, al = some x → x.block ≠ pb ∧ x.block ≠ g) := Lib.hid (fun x e => by have := hal x e; have := I.out.lt; omega)
      replace I := Lib.hid (I.out.below k12)
      replace hb := bstep hb k12
      have HUP := Lib.hid I.out.up
      clear o12 ll hal k12 hn
      go_wp2_with fail
      have hnew := TextMap.Is.made (P := Try.prog) (ks := 9) v12
      have hbn : Below v12.heap.size v12 (v12.alloc (.map #[] 0)) := balloc (Below.refl _ _) _
      have bx := (hbn.block pb I.out.lt.1).trans I.out.box
      have bg := hbn.block g I.out.lt.2
      obtain ⟨sb, hsb⟩ : ∃ s, s = v12.heap.size := ⟨_, rfl⟩
      have HSB : Hid (v12.heap.size ≤ sb ∧ sb < v12.heap.size + 1 ∧ pb < v12.heap.size ∧ g < v12.heap.size) := Lib.hid ⟨by omega, by omega, I.out.lt.1, I.out.lt.2⟩
      rw [← hsb] at hnew ⊢
      have HW12 : Hid (w.heap.size ≤ v12.heap.size) := Lib.hid hb.size
      replace hb := bstep hb hbn
      have hsv := Save.of (b := pb) (c := g) hbn
      have hsz : v12.heap.size + 1 ≤ (v12.alloc (.map #[] 0)).heap.size := by simp
      generalize hw0 : v12.alloc _ = W2 at *
      clear hw0 hsb hbn
      go_loopw [11, 13] (fun tv kv wr => ∃ k : Nat, k ≤ 3 * n ∧ kv = .int .i64 k ∧ Hid (Words.Mine wr (v12.heap.size + 1) tv ((List.range k).map (seqL T))) ∧ Hid (∃ f, TextMap.Is Try.prog 9 wr sb k f ∧ ∀ q, f q = if cnt T q k = 0 then none else some (.int .i64 (cnt T q k : Int))) ∧
          Hid (wr.heap[pb]? = some (.cells #[.map (some g), .string ⟨(lastL T k).toArray⟩] 58 (0, 0))) ∧ Hid (wr.heap[g]? = v12.heap[g]?) ∧ Hid (Save pb g v12 wr) ∧ Hid (v12.heap.size + 1 ≤ wr.heap.size) ∧ Below w.heap.size w wr) (fun _ kv _ => 3 * n - (intOf kv).toNat)
      case atStart => exact ⟨0, by omega, rfl, Lib.hid (Row.Own.nil _ _), Lib.hid ⟨_, hnew, fun q => rfl⟩, Lib.hid bx, Lib.hid bg, Lib.hid hsv, Lib.hid hsz, hb⟩
      case round =>
        clear hnew bx bg hsv hsz hb
        obtain ⟨k, hk, rfl, oT, SE, BX, BG, SV, SZ, hb⟩ := hrel
        have IR := Lib.hid (I.out.later SV.out BX.out BG.out)
        obtain ⟨tat, tct, htv, -, -, -, -⟩ := Row.Own.lies oT.out
        rw [List.length_map, List.length_range] at htv
        subst htv
        by_cases hlt : k < 3 * n
        · have d1 : decide ((k : Int) < 3 * (n : Int)) = true := decide_eq_true (by omega)
          have hT : 0 < T.length := by rw [← HNT.out]; omega
          have NX := Lib.hid (next_any _ pb g T V (lastL T k) IR.out hT)
          have HNS := Lib.hid (next_seq HUP.out hT k)
          have HSM := Lib.hid (seq_mem hT k)
          obtain ⟨x, hx⟩ : ∃ x, x = seqL T k := ⟨_, rfl⟩
          have HX := Lib.hid hx
          rw [← hx] at HNS HSM
          rw [HNS.out] at NX
          have HXL : Hid (x.length ≤ 8192) := Lib.hid (LM.out.2 x ((mem_sortU a0 x).1 (by rw [← HT.out]; exact HSM.out)))
          have HK := Lib.hid hlt
          clear hx hlt hT
          go_wp2_with fail
          refine NX.out.mono ?_
          rintro e v13 ⟨rfl, i13, k13⟩
          have BX1 := Lib.hid i13.box
          have hgp : pb ≠ g := I.out.ne
          have BG1 : Hid (v13.heap[g]? = v12.heap[g]?) := Lib.hid (((k13 pb).block g IR.out.lt.2 hgp.symm hgp.symm).trans BG.out)
          have SV1 := Lib.hid (SV.out.trans (k13 g))
          have SZ1 : Hid (v12.heap.size + 1 ≤ v13.heap.size) := Lib.hid (Nat.le_trans SZ.out (k13 g).size)
          have hgr := (k13 pb).grown
          have oT1 := Lib.hid (oT.out.kept hgr (by have := HSB.out; omega))
          obtain ⟨f, hf, hfv⟩ := SE.out
          have HF1 := Lib.hid (hf.moved ((k13 pb).block sb hf.lt (by have := HSB.out; omega) (by have := HSB.out; omega)))
          have HFV := Lib.hid hfv
          replace hb := stepS hb (k13 g) HG.out (Nat.le_refl _)
          have hc1 := cnt_le T x k
          obtain ⟨cx, hcx⟩ : ∃ c, c = cnt T x k := ⟨_, rfl⟩
          rw [← hcx] at hc1
          have HCX := Lib.hid hcx
          have HGV : Hid ((f x).getD (.int .i64 0) = .int .i64 (cx : Int)) := Lib.hid (by
            rw [hfv x, ← hcx]
            split
            · rename_i h; rw [h]; rfl
            · rfl)
          have wrc : IntKind.i64.wrap ((cx : Int) + 1) = ((cx + 1 : Nat) : Int) := by rw [IntWalk.i64_in _ (by omega)]; omega
          clear i13 k13 hgr hf hfv hcx oT SE BX BG SV SZ IR hgp
          by_cases hkn : k < n
          · have e1 : decide ((k : Int) ≥ (n : Int)) = false := decide_eq_false (by omega)
            have e2 : decide ((n : Int) ≤ (k : Int)) = false := decide_eq_false (by omega)
            have e3 : decide (n ≤ k) = false := decide_eq_false (by omega)
            have e4 : decide ((k : Int) < (n : Int)) = true := decide_eq_true (by omega)
            have e5 : decide (k < n) = true := decide_eq_true (by omega)
            have hc0 : cx = 0 := by rw [HCX.out, HX.out]; exact cnt_first HUP.out (by rw [← HNT.out]; exact hkn)
            have e6 : decide ((cx : Int) + 1 > 1) = false := decide_eq_false (by omega)
            have e7 : decide ((1 : Int) < (cx : Int) + 1) = false := decide_eq_false (by omega)
            have e8 : decide ((0 : Int) < (cx : Int)) = false := decide_eq_false (by omega)
            clear hkn hc0
            go_wp2_with (first | (at_lookup; refine TextMap.wpList_look Try.underlying40 Try.underlying9 zero_int rfl _ _ rfl sb k f x rfl HF1.out rfl (by have := HXL.out; unfold maxLen; omega) _ HGV.out ?_) | (at_mapUpdate; refine TextMap.wpList_put Try.underlying40 Try.underlying9 rfl _ _ _ rfl sb k f x (.int .i64 ((cx : Int) + 1)) rfl HF1.out (by unfold maxLen; omega) rfl (by have := HXL.out; unfold maxLen; omega) rfl ?_; intro w4 S4 k4; have HS4 := Lib.hid S4; have K4 := Lib.hid k4; have oT4 := Lib.hid (oT1.out.kept k4 (by have := HSB.out; omega)); have Z4 := Lib.hid (Nat.le_trans SZ1.out k4.size); have HL := TextMap.run_look Try.underlying40 Try.underlying9 (z := .int .i64 0) zero_int S4 (q := x) (by have := HXL.out; unfold maxLen; omega); rw [put_same] at HL; clear S4 k4) | (at_builtin; refine Row.wpList_app Words.typ rfl _ _ rfl (v12.heap.size + 1) _ _ rfl (oT4.out.alloc _) _ 1 1 [x] rfl (Row.lies_new' _ x _ rfl) (by simp only [List.length_map, List.length_range]; omega) (by have := Z4.out; simp only [World.size_alloc]; omega) ?_; intro v9 w9 o9 _ k9))
            have RE := Lib.hid (round_end (bx := Obj.cells #[.map (some g), .string ⟨x.toArray⟩] 58 (0, 0)) HSB.out HW12.out BX1.out BG1.out SV1.out SZ1.out hb HS4.out K4.out k9)
            go_roundw
            case rel => exact ⟨k + 1, by have := HK.out; omega, by go_num, Lib.hid (by rw [told_step, ← HX.out]; exact o9), Lib.hid ⟨_, RE.out.2.2.2.2.1, seen_step HFV.out HX.out HCX.out⟩, Lib.hid (by rw [lastL, ← HX.out]; exact RE.out.1), Lib.hid RE.out.2.1, Lib.hid RE.out.2.2.1, Lib.hid RE.out.2.2.2.1, RE.out.2.2.2.2.2⟩
            case measure => have := HK.out; simp [intOf]; omega
          · have e1 : decide ((k : Int) ≥ (n : Int)) = true := decide_eq_true (by omega)
            have e2 : decide ((n : Int) ≤ (k : Int)) = true := decide_eq_true (by omega)
            have e3 : decide (n ≤ k) = true := decide_eq_true (by omega)
            have e4 : decide ((k : Int) < (n : Int)) = false := decide_eq_false (by omega)
            have e5 : decide (k < n) = false := decide_eq_false (by omega)
            have hn0 : 0 < n := by have := HK.out; omega
            obtain ⟨m, hm⟩ : ∃ m, m = k - n := ⟨_, rfl⟩
            have wm1 : IntKind.i64.wrap ((k : Int) - (n : Int)) = (m : Int) := by rw [IntWalk.i64_in _ (by omega)]; omega
            have wm2 : (k : Int) - (n : Int) = (m : Int) := by omega
            have HMK : Hid (m < k) := Lib.hid (by omega)
            have j1 : (0 : Int) ≤ (m : Int) := by omega
            have j2 : (m : Int) < (k : Int) := by omega
            have HXM : Hid (x = seqL T m) := Lib.hid (by rw [HX.out, show k = m + T.length by rw [← HNT.out]; omega, seq_period])
            obtain ⟨a', c', e', -, -, hl', -⟩ := Row.Own.lies oT1.out
            rw [List.length_map, List.length_range] at e'
            simp only [Value.slice.injEq, true_and] at e'
            obtain ⟨rfl, rfl⟩ := e'
            obtain ⟨bt, ot, rfl, -⟩ := Words.words_at hl' (by simp only [List.length_map, List.length_range]; omega)
            clear hkn hm hl' hn0
            go_wp2_with (first | (at_lookup; refine TextMap.wpList_look Try.underlying40 Try.underlying9 zero_int rfl _ _ rfl sb k f x rfl HF1.out rfl (by have := HXL.out; unfold maxLen; omega) _ HGV.out ?_) | (at_mapUpdate; refine TextMap.wpList_put Try.underlying40 Try.underlying9 rfl _ _ _ rfl sb k f x (.int .i64 ((cx : Int) + 1)) rfl HF1.out (by unfold maxLen; omega) rfl (by have := HXL.out; unfold maxLen; omega) rfl ?_; intro w4 S4 k4; have HS4 := Lib.hid S4; have K4 := Lib.hid k4; have oT4 := Lib.hid (oT1.out.kept k4 (by have := HSB.out; omega)); have Z4 := Lib.hid (Nat.le_trans SZ1.out k4.size); have TC := told_cell oT4.out HMK.out; rw [← HXM.out] at TC; have HL := TextMap.run_look Try.underlying40 Try.underlying9 (z := .int .i64 0) zero_int S4 (q := x) (by have := HXL.out; unfold maxLen; omega); rw [put_same] at HL; clear S4 k4) | (at_builtin; refine Row.wpList_app Words.typ rfl _ _ rfl (v12.heap.size + 1) _ _ rfl (oT4.out.alloc _) _ 1 1 [x] rfl (Row.lies_new' _ x _ rfl) (by simp only [List.length_map, List.length_range]; omega) (by have := Z4.out; simp only [World.size_alloc]; omega) ?_; intro v9 w9 o9 _ k9))
            have RE := Lib.hid (round_end (bx := Obj.cells #[.map (some g), .string ⟨x.toArray⟩] 58 (0, 0)) HSB.out HW12.out BX1.out BG1.out SV1.out SZ1.out hb HS4.out K4.out k9)
            go_roundw
            case rel => exact ⟨k + 1, by have := HK.out; omega, by go_num, Lib.hid (by rw [told_step, ← HX.out]; exact o9), Lib.hid ⟨_, RE.out.2.2.2.2.1, seen_step HFV.out HX.out HCX.out⟩, Lib.hid (by rw [lastL, ← HX.out]; exact RE.out.1), Lib.hid RE.out.2.1, Lib.hid RE.out.2.2.1, Lib.hid RE.out.2.2.2.1, RE.out.2.2.2.2.2⟩
            case measure => have := HK.out; simp [intOf]; omega
        · have d1 : decide ((k : Int) < 3 * (n : Int)) = false := decide_eq_false (by omega)
          obtain ⟨f, hf, hfv⟩ := SE.out
          have HF := Lib.hid hf
          have H3 : Hid (∀ q ∈ T, (f q).getD (.int .i64 0) = .int .i64 3) := Lib.hid (fun q hq => by rw [hfv q, show k = 3 * T.length by rw [← HNT.out]; omega, cnt_three HUP.out hq]; rfl)
          have LL := Lib.hid (Row.Lies.save HLT.out SV.out HAL.out)
          clear hf hfv SE oT BX BG SV SZ hlt hk
          go_wp2_with fail
          go_loopw [16] (fun iv wq => ∃ j : Nat, j ≤ n ∧ iv = .int .i64 j ∧ Below wr.heap.size wr wq) (fun iv _ => n - (intOf iv).toNat)
          case atStart => exact ⟨0, by omega, rfl, Below.refl _ _⟩
          case round =>
            obtain ⟨j, hj, rfl, k2⟩ := hrel
            by_cases hjn : j < n
            · have d2 : decide ((j : Int) < (n : Int)) = true := decide_eq_true (by omega)
              have j1 : (0 : Int) ≤ (j : Int) := by omega
              have j2 : (j : Int) < (n : Int) := by omega
              have hjT : j < T.length := by rw [← HNT.out]; exact hjn
              obtain ⟨bl, ol, rfl, hcell⟩ := Words.words_at LL.out (by omega)
              have hc := hcell j hjT
              obtain ⟨x, hx⟩ : ∃ x, x = T[j] := ⟨_, rfl⟩
              have hxm : x ∈ T := by rw [hx]; exact List.getElem_mem hjT
              rw [← hx] at hc
              have hc2 := Dots.keepC hc k2
              have HGV := Lib.hid (H3.out x hxm)
              have HXL : Hid (x.length ≤ 8192) := Lib.hid (LM.out.2 x ((mem_sortU a0 x).1 (by rw [← HT.out]; exact hxm)))
              have HF2 := Lib.hid (HF.out.below k2)
              have HK2 := Lib.hid hjn
              clear hc hcell hx hxm hjT hjn hj
              go_wp2_with (at_lookup; refine TextMap.wpList_look Try.underlying40 Try.underlying9 zero_int rfl _ _ rfl sb k f x rfl HF2.out rfl (by have := HXL.out; unfold maxLen; omega) _ HGV.out ?_)
              go_roundw
              case rel => exact ⟨j + 1, by have := HK2.out; omega, by go_num, k2⟩
              case measure => have := HK2.out; simp [intOf]; omega
            · have d2 : decide ((j : Int) < (n : Int)) = false := decide_eq_false (by omega)
              have IQ := Lib.hid (IR.out.below k2)
              have LQ := Lib.hid (LL.out.below k2)
              replace hb := bstep hb k2
              clear hj k2 IR LL HF H3
              go_wp2_with (at_builtin; refine Row.wpList_app Words.typ rfl _ _ rfl wr.heap.size _ [] rfl (Row.Own.nil _ _) s0 n0 c0 a0 rfl (l0.out.below hb) (by have := LM.out.1; have := HN.out; simp only [List.length_nil]; omega) (Nat.le_refl _) ?_; intro v14 w14 o14 _ k14)
              rw [List.nil_append] at o14
              obtain ⟨sd, cd, rfl, -, -, ld, -⟩ := Row.Own.lies o14
              replace hb := bstep hb k14
              replace IQ := Lib.hid (IQ.out.below k14)
              replace LQ := Lib.hid (LQ.out.below k14)
              replace ld := Lib.hid ld
              clear o14 k14
              go_wp2_with fail
              refine (set_any a0 sd cd _ pb g T V _ IQ.out ld.out (fun q hq => by have := LM.out.2 q hq; omega) (by have := LM.out.1; omega)).mono ?_
              rintro e v15 ⟨rfl, g2, i15, hg2, k15⟩
              rw [← HT.out] at i15
              replace LQ := Lib.hid (Row.Lies.save LQ.out k15 HAL.out)
              replace hb := stepS hb k15 HG.out (Nat.le_refl _)
              replace IQ := Lib.hid i15
              clear i15 hg2 k15 ld
              go_wp2_with fail
              refine (all_any _ pb g2 T _ _ IQ.out).mono ?_
              rintro e v16 ⟨v, rfl, o16, k16⟩
              obtain ⟨ae, ce, rfl, -, -, le, -⟩ := o16.lies'
              have LE := Lib.hid le
              replace LQ := Lib.hid (LQ.out.below k16)
              replace hb := bstep hb k16
              have SM := Lib.hid (same_self T ae al ce cl n v16 HNT.out LE.out LQ.out (by have := HTL.out; omega))
              rw [← HNT.out]
              clear o16 k16 le
              go_wp2_with fail
              refine SM.out.mono ?_
              rintro e v17 ⟨rfl, k17⟩
              replace hb := bstep hb k17
              clear k17 SM LE LQ IQ
              go_wp2_with fail
              have hnew := TextMap.Is.made (P := Try.prog) (ks := 9) v17
              have hbn : Below v17.heap.size v17 (v17.alloc (.map #[] 0)) := balloc (Below.refl _ _) _
              obtain ⟨ib, hib⟩ : ∃ s, s = v17.heap.size := ⟨_, rfl⟩
              have HIB : Hid (w.heap.size ≤ ib) := Lib.hid (by rw [hib]; exact hb.size)
              rw [← hib] at hnew ⊢
              replace hb := bstep hb hbn
              generalize hw1 : v17.alloc _ = W3 at *
              clear hw1 hib hbn
              go_loopw [18] (fun iv wq => ∃ j : Nat, j ≤ n0 ∧ iv = .int .i64 j ∧ Hid (∃ f, TextMap.Is Try.prog 9 wq ib j f ∧ ∀ q, q ∈ a0.take j ↔ (f q).isSome = true) ∧ Below w.heap.size w wq) (fun iv _ => n0 - (intOf iv).toNat)
              case atStart => exact ⟨0, by omega, rfl, Lib.hid ⟨_, hnew, fun q => by simp⟩, hb⟩
              case round =>
                clear hnew hb
                obtain ⟨j, hj, rfl, SI, hb⟩ := hrel
                obtain ⟨f2, hf2, hm2⟩ := SI.out
                have hn0 : n0 ≤ 30 := by have := LM.out.1; have := HN.out; omega
                by_cases hjn : j < n0
                · have d2 : decide ((j : Int) < (n0 : Int)) = true := decide_eq_true (by omega)
                  have j1 : (0 : Int) ≤ (j : Int) := by omega
                  have j2 : (j : Int) < (n0 : Int) := by omega
                  have hj0 : j < a0.length := by rw [← HN.out.1]; exact hjn
                  obtain ⟨b0, o0, rfl, hcell⟩ := Words.words_at l0.out (by omega)
                  have hc := hcell j hj0
                  obtain ⟨x, hx⟩ : ∃ x, x = a0[j] := ⟨_, rfl⟩
                  have hxm : x ∈ a0 := by rw [hx]; exact List.getElem_mem hj0
                  rw [← hx] at hc
                  have hc2 := Dots.keepC hc hb
                  have HXL : Hid (x.length ≤ 8192) := Lib.hid (LM.out.2 x hxm)
                  have HST := Lib.hid (in_step (v := .int .i64 1) hj0 hm2 hx)
                  have HF2 := Lib.hid hf2
                  have HK2 := Lib.hid hjn
                  have HJ : Hid (j < maxLen) := Lib.hid (by have := LM.out.1; unfold maxLen; omega)
                  clear hc hcell hx hxm hj0 hjn hj SI hf2 hm2
                  go_wp2_with (at_mapUpdate; refine TextMap.wpList_put Try.underlying40 Try.underlying9 rfl _ _ _ rfl ib j f2 x (.int .i64 1) rfl HF2.out HJ.out rfl (by have := HXL.out; unfold maxLen; omega) rfl ?_; intro w4 S4 k4)
                  have hb4 := Below.grown hb k4 hb.size (fun q e => by cases e; exact HIB.out)
                  go_roundw
                  case rel => exact ⟨j + 1, by have := HK2.out; omega, by go_num, Lib.hid ⟨_, S4, HST.out⟩, hb4⟩
                  case measure => have := HK2.out; simp [intOf]; omega
                · have d2 : decide ((j : Int) < (n0 : Int)) = false := decide_eq_false (by omega)
                  have HM : Hid (∀ q, q ∈ T ↔ (f2 q).isSome = true) := Lib.hid (fun q => by rw [← hm2 q, List.take_of_length_le (by have := HN.out.1; omega), HT.out]; exact mem_sortU a0 q)
                  have HF2 := Lib.hid hf2
                  have HNT2 : Hid (T.length = n) := Lib.hid HNT.out.symm
                  clear hj SI hf2 hm2
                  go_wp2_with (at_len; refine TextMap.wpList_len Try.underlying40 Try.underlying9 rfl _ rfl ib j f2 rfl HF2.out HUP.out HM.out n HNT2.out ?_)
                  refine (works_any _).mono ?_
                  rintro e v20 ⟨rfl, k20⟩
                  replace hb := bstep hb k20
      
                  go_wp2
                  go_ret
                  exact ⟨rfl, hb⟩
end PeersGrow
end Go.Proofs.Ytcbnkncgacbniaa
