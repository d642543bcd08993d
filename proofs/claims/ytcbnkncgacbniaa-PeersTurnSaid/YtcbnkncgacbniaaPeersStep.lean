/- steps of a script: how they lie, what came in; the law's heavy. -/
import Derived.Test.YtcbnkncgacbniaaWords
import Derived.Test.YtcbnkncgacbniaaMarkIn
import Derived.Test.YtcbnkncgacbniaaDotOf
import Derived.Test.YtcbnkncgacbniaaNum
import Derived.IntWalk
namespace Go.Proofs.Ytcbnkncgacbniaa
namespace Peers
open Go.RowKit Go.Proofs.Ytcbnkncgacbniaa.Mark
/-- A step. -/
structure St where
  d : Int
  ls : Option Addr
  lc : Nat
  L : List (List UInt8)
  pe : List UInt8
  ms : Option Addr
  mc : Nat
  A : List M
  bp : List UInt8
  cap : Nat
  ow : List UInt8
  base : Nat
def St.cells (x : St) : List Value := [.int .i64 x.d, .slice x.ls x.L.length x.lc, .string ⟨x.pe.toArray⟩, .slice x.ms x.A.length x.mc, .string ⟨x.bp.toArray⟩, .int .u64 (x.cap : Int), .string ⟨x.ow.toArray⟩, .int .u64 (x.base : Int)]
def encS : Row.Enc St := ⟨8, by decide, St.cells, fun _ => rfl, fun x v hv => by
  simp only [St.cells, List.mem_cons, List.not_mem_nil, or_false] at hv
  rcases hv with rfl | rfl | rfl | rfl | rfl | rfl | rfl | rfl <;> rfl⟩
/-- What a step's slices hold. -/
def St.Deep (w : World) (x : St) : Prop := Words.Lies w x.ls x.L.length x.L ∧ Mark.Lies w x.ms x.A.length x.A
def St.Sized (x : St) : Prop := x.pe.length ≤ 140737488351232 ∧ x.bp.length ≤ 140737488351232 ∧ x.ow.length ≤ 140737488351232 ∧ (∀ t ∈ x.L, t.length ≤ 140737488351232) ∧ (∀ m ∈ x.A, m.p.length ≤ 140737488351232 ∧ m.n ≤ 18446744073709551615) ∧ x.cap ≤ 18446744073709551615 ∧ x.base ≤ 18446744073709551615
def St.Light (s : Nat) (x : St) : Prop := x.L.length ≤ 30 ∧ x.A.length ≤ 30 ∧ x.pe.length ≤ s ∧ x.bp.length ≤ s ∧ x.ow.length ≤ s ∧ (∀ t ∈ x.L, t.length ≤ s) ∧ ∀ m ∈ x.A, m.p.length ≤ s
theorem St.Light.mono {s t : Nat} {x : St} (h : x.Light s) (k : s ≤ t) : x.Light t := by
  obtain ⟨h1, h2, h3, h4, h5, h6, h7⟩ := h
  exact ⟨h1, h2, by omega, by omega, by omega, fun y hy => Nat.le_trans (h6 y hy) k, fun y hy => Nat.le_trans (h7 y hy) k⟩
theorem St.Deep.below {w w' : World} {x : St} (h : x.Deep w) (k : Below w.heap.size w w') : x.Deep w' := ⟨Row.Lies.below h.1 k, Mark.Lies.below h.2 k⟩
abbrev Steps := Row.Lies encS
/-- Few steps, and light ones. -/
def Lights (Ls : List St) : Prop := Ls.length ≤ 200 ∧ ∀ x ∈ Ls, x.Light 8192
theorem steps_at {w : World} {n : Nat} {Ls : List St} {a : Option Addr} (h : Steps w a n Ls) (hn : 0 < n) : ∃ b off, a = some ⟨b, off, none⟩ ∧ ∀ j (hj : j < Ls.length),
    w.cell? ⟨b, off + j * 8 + 1, none⟩ = some (.slice Ls[j].ls Ls[j].L.length Ls[j].lc) ∧ w.cell? ⟨b, off + j * 8 + 2, none⟩ = some (.string ⟨Ls[j].pe.toArray⟩) ∧
    w.cell? ⟨b, off + j * 8 + 3, none⟩ = some (.slice Ls[j].ms Ls[j].A.length Ls[j].mc) ∧ w.cell? ⟨b, off + j * 8 + 4, none⟩ = some (.string ⟨Ls[j].bp.toArray⟩) ∧ w.cell? ⟨b, off + j * 8 + 6, none⟩ = some (.string ⟨Ls[j].ow.toArray⟩) := by
  obtain ⟨b, off, e, hc⟩ := h.2 hn
  exact ⟨b, off, e, fun j hj => ⟨hc j hj 1 _ rfl, hc j hj 2 _ rfl, hc j hj 3 _ rfl, hc j hj 4 _ rfl, hc j hj 6 _ rfl⟩⟩
theorem marks_at {w : World} {n : Nat} {L : List M} {a : Option Addr} (h : Mark.Lies w a n L) (hn : 0 < n) : ∃ b off, a = some ⟨b, off, none⟩ ∧ ∀ j (hj : j < L.length), w.cell? ⟨b, off + j * 2, none⟩ = some (.string ⟨(L[j]).p.toArray⟩) ∧ w.cell? ⟨b, off + j * 2 + 1, none⟩ = some (.int .u64 ((L[j]).n : Int)) := h.2 hn
theorem take_len {α : Type} {P : α → Prop} {L : List α} {j : Nat} (h : ∀ i (hi : i < L.length), i < j → P L[i]) (hj : L.length ≤ j) : ∀ x ∈ L, P x := fun x hx => by
  obtain ⟨i, hi, rfl⟩ := List.getElem_of_mem hx
  exact h i hi (by omega)
set_option maxRecDepth 100000 in
set_option maxHeartbeats 16000000 in
theorem heavy_any (Ls : List St) (a : Option Addr) (c : Nat) (w : World) (hL : Steps w a Ls.length Ls) (hd : ∀ x ∈ Ls, x.Deep w) (hz : ∀ x ∈ Ls, x.Sized) :
    Calls Try.prog 7 #[.slice a Ls.length c] w fun e w' => ∃ r, e = .returned (.bool r) ∧ (r = false → Lights Ls) ∧ Below w.heap.size w w' := by
  have hb := Below.refl w.heap.size w
  obtain ⟨n, hnn⟩ : ∃ n, n = Ls.length := ⟨_, rfl⟩
  have HL := Lib.hid hL
  have HD := Lib.hid hd
  have HZ := Lib.hid hz
  have HN := Lib.hid hnn
  rw [← hnn] at HL ⊢
  clear hL hd hz hnn
  go_enter Try.func7, Try.ntmps7
  go_wp2_with fail
  go_loopw [3, 4] (fun nv iv wr => ∃ k s : Nat, k ≤ n ∧ k ≤ 500 ∧ iv = .int .i64 k ∧ nv = .int .i64 s ∧ s ≤ k * 9007199254740992 ∧ Hid (∀ j (hj : j < Ls.length), j < k → Ls[j].Light s) ∧ Below w.heap.size w wr) (fun _ iv _ => n - (intOf iv).toNat)
  case atStart => exact ⟨0, 0, by omega, by omega, rfl, rfl, by omega, Lib.hid (fun j _ hj => by omega), hb⟩
  case round =>
    clear hb
    obtain ⟨k, s, hk, hk5, rfl, rfl, hs, HLi, hb⟩ := hrel
    by_cases hlt : k < n
    rotate_left
    · obtain rfl : n = k := by omega
      have d1 : decide ((n : Int) < (n : Int)) = false := decide_eq_false (by omega)
      have HX : Hid (∀ x ∈ Ls, x.Light s) := Lib.hid (take_len HLi.out (by rw [HN.out]; exact Nat.le_refl _))
      by_cases h200 : n > 200
      · have d3 : decide ((n : Int) > 200) = true := decide_eq_true (by omega)
        have d4 : decide ((200 : Int) < (n : Int)) = true := decide_eq_true (by omega)
        clear h200
        go_wp2
        go_ret
        exact ⟨true, rfl, (fun h => by cases h), hb⟩
      · have d3 : decide ((n : Int) > 200) = false := decide_eq_false (by omega)
        have d4 : decide ((200 : Int) < (n : Int)) = false := decide_eq_false (by omega)
        by_cases hs8 : s > 8192
        · have d5 : decide ((s : Int) > 8192) = true := decide_eq_true (by omega)
          have d6 : decide ((8192 : Int) < (s : Int)) = true := decide_eq_true (by omega)
          clear h200 hs8
          go_wp2
          go_ret
          exact ⟨true, rfl, (fun h => by cases h), hb⟩
        · have d5 : decide ((s : Int) > 8192) = false := decide_eq_false (by omega)
          have d6 : decide ((8192 : Int) < (s : Int)) = false := decide_eq_false (by omega)
          have HY : Hid (Lights Ls) := Lib.hid ⟨by rw [← HN.out]; omega, fun x hx => (HX.out x hx).mono (by omega)⟩
          clear h200 hs8
          go_wp2
          go_ret
          exact ⟨false, rfl, fun _ => HY.out, hb⟩
    by_cases hlt5 : k < 500
    rotate_left
    · have d1 : decide ((k : Int) < (n : Int)) = true := decide_eq_true (by omega)
      have d2 : decide ((k : Int) < 500) = false := decide_eq_false (by omega)
      have d3 : decide ((n : Int) > 200) = true := decide_eq_true (by omega)
      have d4 : decide ((200 : Int) < (n : Int)) = true := decide_eq_true (by omega)
      go_wp2
      go_ret
      exact ⟨true, rfl, (fun h => by cases h), hb⟩
    have d1 : decide ((k : Int) < (n : Int)) = true := decide_eq_true (by omega)
    have d2 : decide ((k : Int) < 500) = true := decide_eq_true (by omega)
    obtain ⟨b, o, rfl, hcell⟩ := steps_at (HL.out.below hb) (by omega)
    have hll : k < Ls.length := by rw [← HN.out]; exact hlt
    obtain ⟨x1, x2, x3, x4, x6⟩ := hcell k hll
    have hmem := List.getElem_mem hll
    have hdk := (HD.out _ hmem).below hb
    have hzk := HZ.out _ hmem
    have HX : Hid (∀ (s' : Nat), s ≤ s' → Ls[k].Light s' → ∀ j (hj : j < Ls.length), j < k + 1 → Ls[j].Light s') := Lib.hid (fun s' hss hx j hj hjk => by
      by_cases e : j = k
      · subst e; exact hx
      · exact (HLi.out j hj (by omega)).mono hss)
    obtain ⟨x, hx⟩ : ∃ x, x = Ls[k] := ⟨_, rfl⟩
    rw [← hx] at x1 x2 x3 x4 x6 hdk hzk HX
    clear hx hmem hcell HLi
    obtain ⟨d, ls, lc, L, pe, ms, mc, A, bp, cap, ow, base⟩ := x
    obtain ⟨dL, dA⟩ := hdk
    obtain ⟨z1, z2, z3, z4, z5, -, -⟩ := hzk
    simp only at x1 x2 x3 x4 x6 dL dA z1 z2 z3 z4 z5
    by_cases hbL : L.length > 30
    · have e3 : decide ((L.length : Int) > 30) = true := decide_eq_true (by omega)
      have e4 : decide ((30 : Int) < (L.length : Int)) = true := decide_eq_true (by omega)
      clear HX hbL
      go_wp2
      go_ret
      exact ⟨true, rfl, (fun h => by cases h), hb⟩
    have e3 : decide ((L.length : Int) > 30) = false := decide_eq_false (by omega)
    have e4 : decide ((30 : Int) < (L.length : Int)) = false := decide_eq_false (by omega)
    by_cases hbA : A.length > 30
    · have e5 : decide ((A.length : Int) > 30) = true := decide_eq_true (by omega)
      have e6 : decide ((30 : Int) < (A.length : Int)) = true := decide_eq_true (by omega)
      clear HX hbL hbA
      go_wp2
      go_ret
      exact ⟨true, rfl, (fun h => by cases h), hb⟩
    have e5 : decide ((A.length : Int) > 30) = false := decide_eq_false (by omega)
    have e6 : decide ((30 : Int) < (A.length : Int)) = false := decide_eq_false (by omega)
    obtain ⟨nl, hnl⟩ : ∃ n, n = L.length := ⟨_, rfl⟩
    obtain ⟨na, hna⟩ : ∃ n, n = A.length := ⟨_, rfl⟩
    obtain ⟨np, hnp⟩ : ∃ n, n = pe.length := ⟨_, rfl⟩
    obtain ⟨nb, hnb⟩ : ∃ n, n = bp.length := ⟨_, rfl⟩
    obtain ⟨no, hno⟩ : ∃ n, n = ow.length := ⟨_, rfl⟩
    have HLL := Lib.hid hnl
    have HAA := Lib.hid hna
    have HPB := Lib.hid (And.intro hnp (And.intro hnb hno))
    have HZL := Lib.hid z4
    have HZA := Lib.hid z5
    have b1 : nl ≤ 30 := by omega
    have b2 : na ≤ 30 := by omega
    have b3 : np ≤ 140737488351232 := by omega
    have b4 : nb ≤ 140737488351232 := by omega
    have b5 : no ≤ 140737488351232 := by omega
    rw [← hnl] at x1 dL e3 e4
    rw [← hna] at x3 dA e5 e6
    have HK := Lib.hid (And.intro hlt hlt5)
    have j1 : (0 : Int) ≤ (k : Int) := by omega
    have j2 : (k : Int) < (n : Int) := by omega
    replace dL := Lib.hid dL
    replace dA := Lib.hid dA
    have sp : (pe.length : Int) = (np : Int) := by rw [hnp]
    have sb : (bp.length : Int) = (nb : Int) := by rw [hnb]
    have so : (ow.length : Int) = (no : Int) := by rw [hno]
    have hs2 : s ≤ 4503599627370496000 := by omega
    clear hnl hna hnp hnb hno z1 z2 z3 z4 z5 hbL hbA hlt hlt5 hll
    have w1 : IntKind.i64.wrap ((s : Int) + (np : Int)) = (s : Int) + (np : Int) := IntWalk.i64_in _ (by omega)
    have w2 : IntKind.i64.wrap ((s : Int) + (np : Int) + (nb : Int)) = (s : Int) + (np : Int) + (nb : Int) := IntWalk.i64_in _ (by omega)
    have w3 : IntKind.i64.wrap ((s : Int) + (np : Int) + (nb : Int) + (no : Int)) = (s : Int) + (np : Int) + (nb : Int) + (no : Int) := IntWalk.i64_in _ (by omega)
    go_wp2_with fail
    refine wp_region_noPanic ?_
    refine wp_region_held_drew (S := (fun w' => Below w.heap.size w w' ∧ w'.cell? ⟨b, o + k * 8 + 1, none⟩ = some (.slice ls nl lc) ∧ w'.cell? ⟨b, o + k * 8 + 3, none⟩ = some (.slice ms na mc) ∧ w'.cell? ⟨b, o + k * 8 + 2, none⟩ = some (.string ⟨pe.toArray⟩) ∧ w'.cell? ⟨b, o + k * 8 + 4, none⟩ = some (.string ⟨bp.toArray⟩) ∧ w'.cell? ⟨b, o + k * 8 + 6, none⟩ = some (.string ⟨ow.toArray⟩) ∧ Words.Lies w' ls nl L ∧ Mark.Lies w' ms na A)) (by kernel_rfl) (⟨Below.drew hb, Dots.keepC x1 (Below.drew (Below.refl _ _)), Dots.keepC x3 (Below.drew (Below.refl _ _)), Dots.keepC x2 (Below.drew (Below.refl _ _)), Dots.keepC x4 (Below.drew (Below.refl _ _)), Dots.keepC x6 (Below.drew (Below.refl _ _)), (dL.out).below (Below.drew (Below.refl _ _)), (dA.out).below (Below.drew (Below.refl _ _))⟩) (fun hHeld => ?_)
    refine wpAnyH_take (i := 0) (v := ?_) (by simp only [List.getElem?_toArray, List.getElem?_cons_zero]; rfl) (by kernel_rfl) (by kernel_rfl) (by kernel_rfl) (fun _ _ _ h => h) (Or.inl ⟨by rfl, ?_⟩) (by assumption) ?_
    rotate_left
    · (intro w hSw; (try dsimp only at hSw); go_simp; try with_reducible rfl)
    try simp only [Act.put, List.setIfInBounds_toArray, List.set_cons_zero, List.set_cons_succ]
    refine wpAnyH_take (i := 1) (v := ?_) (by simp only [List.getElem?_toArray, List.getElem?_cons_succ, List.getElem?_cons_zero]; rfl) (by kernel_rfl) (by kernel_rfl) (by kernel_rfl) (fun _ _ _ h => h) (Or.inl ⟨by rfl, ?_⟩) (by assumption) ?_
    rotate_left
    · (intro w hSw; (try dsimp only at hSw); go_simp; try with_reducible rfl)
    try simp only [Act.put, List.setIfInBounds_toArray, List.set_cons_zero, List.set_cons_succ]
    refine wpAnyH_take (i := 2) (v := ?_) (by simp only [List.getElem?_toArray, List.getElem?_cons_succ, List.getElem?_cons_zero]; rfl) (by kernel_rfl) (by kernel_rfl) (by kernel_rfl) (fun _ _ _ h => h) (Or.inl ⟨by rfl, ?_⟩) (by assumption) ?_
    rotate_left
    · (intro w hSw; (try dsimp only at hSw); go_simp; try with_reducible rfl)
    try simp only [Act.put, List.setIfInBounds_toArray, List.set_cons_zero, List.set_cons_succ]
    refine wpAnyH_take (i := 3) (v := ?_) (by simp only [List.getElem?_toArray, List.getElem?_cons_succ, List.getElem?_cons_zero]; rfl) (by kernel_rfl) (by kernel_rfl) (by kernel_rfl) (fun _ _ _ h => h) (Or.inl ⟨by rfl, ?_⟩) (by assumption) ?_
    rotate_left
    · (intro w hSw; (try dsimp only at hSw); go_simp; try with_reducible rfl)
    try simp only [Act.put, List.setIfInBounds_toArray, List.set_cons_zero, List.set_cons_succ]
    refine wpAnyH_take (i := 4) (v := ?_) (by simp only [List.getElem?_toArray, List.getElem?_cons_succ, List.getElem?_cons_zero]; rfl) (by kernel_rfl) (by kernel_rfl) (by kernel_rfl) (fun _ _ _ h => h) (Or.inl ⟨by rfl, ?_⟩) (by assumption) ?_
    rotate_left
    · (intro w hSw; (try dsimp only at hSw); go_simp; try with_reducible rfl)
    try simp only [Act.put, List.setIfInBounds_toArray, List.set_cons_zero, List.set_cons_succ]
    refine wpAnyH_take (i := 5) (v := ?_) (by simp only [List.getElem?_toArray, List.getElem?_cons_succ, List.getElem?_cons_zero]; rfl) (by kernel_rfl) (by kernel_rfl) (by kernel_rfl) (fun _ _ _ h => h) (Or.inl ⟨by rfl, ?_⟩) (by assumption) ?_
    rotate_left
    · (intro w hSw; (try dsimp only at hSw); go_simp; try with_reducible rfl)
    try simp only [Act.put, List.setIfInBounds_toArray, List.set_cons_zero, List.set_cons_succ]
    refine wpAnyH_take (i := 6) (v := ?_) (by simp only [List.getElem?_toArray, List.getElem?_cons_succ, List.getElem?_cons_zero]; rfl) (by kernel_rfl) (by kernel_rfl) (by kernel_rfl) (fun _ _ _ h => h) (Or.inl ⟨by rfl, ?_⟩) (by assumption) ?_
    rotate_left
    · (intro w hSw; (try dsimp only at hSw); go_simp; try with_reducible rfl)
    try simp only [Act.put, List.setIfInBounds_toArray, List.set_cons_zero, List.set_cons_succ]
    refine wpAnyH_take (i := 7) (v := ?_) (by simp only [List.getElem?_toArray, List.getElem?_cons_succ, List.getElem?_cons_zero]; rfl) (by kernel_rfl) (by kernel_rfl) (by kernel_rfl) (fun _ _ _ h => h) (Or.inl ⟨by rfl, ?_⟩) (by assumption) ?_
    rotate_left
    · (intro w hSw; (try dsimp only at hSw); go_simp; try with_reducible rfl)
    try simp only [Act.put, List.setIfInBounds_toArray, List.set_cons_zero, List.set_cons_succ]
    refine wpAnyH_take (i := 8) (v := ?_) (by simp only [List.getElem?_toArray, List.getElem?_cons_succ, List.getElem?_cons_zero]; rfl) (by kernel_rfl) (by kernel_rfl) (by kernel_rfl) (fun _ _ _ h => h) (Or.inl ⟨by rfl, ?_⟩) (by assumption) ?_
    rotate_left
    · (intro w hSw; (try dsimp only at hSw); go_simp; try with_reducible rfl)
    try simp only [Act.put, List.setIfInBounds_toArray, List.set_cons_zero, List.set_cons_succ]
    refine wpAnyH_take (i := 9) (v := ?_) (by simp only [List.getElem?_toArray, List.getElem?_cons_succ, List.getElem?_cons_zero]; rfl) (by kernel_rfl) (by kernel_rfl) (by kernel_rfl) (fun _ _ _ h => h) (Or.inl ⟨by rfl, ?_⟩) (by assumption) ?_
    rotate_left
    · (intro w hSw; (try dsimp only at hSw); go_simp; try with_reducible rfl)
    try simp only [Act.put, List.setIfInBounds_toArray, List.set_cons_zero, List.set_cons_succ]
    refine wpAnyH_take (i := 10) (v := ?_) (by simp only [List.getElem?_toArray, List.getElem?_cons_succ, List.getElem?_cons_zero]; rfl) (by kernel_rfl) (by kernel_rfl) (by kernel_rfl) (fun _ _ _ h => h) (Or.inl ⟨by rfl, ?_⟩) (by assumption) ?_
    rotate_left
    · (intro w hSw; (try dsimp only at hSw); go_simp; try with_reducible rfl)
    try simp only [Act.put, List.setIfInBounds_toArray, List.set_cons_zero, List.set_cons_succ]
    refine wpAnyH_take (i := 11) (v := ?_) (by simp only [List.getElem?_toArray, List.getElem?_cons_succ, List.getElem?_cons_zero]; rfl) (by kernel_rfl) (by kernel_rfl) (by kernel_rfl) (fun _ _ _ h => h) (Or.inl ⟨by rfl, ?_⟩) (by assumption) ?_
    rotate_left
    · (intro w hSw; (try dsimp only at hSw); go_simp; try with_reducible rfl)
    try simp only [Act.put, List.setIfInBounds_toArray, List.set_cons_zero, List.set_cons_succ]
    refine wpAnyH_take (i := 12) (v := ?_) (by simp only [List.getElem?_toArray, List.getElem?_cons_succ, List.getElem?_cons_zero]; rfl) (by kernel_rfl) (by kernel_rfl) (by kernel_rfl) (fun _ _ _ h => h) (Or.inl ⟨by rfl, ?_⟩) (by assumption) ?_
    rotate_left
    · (intro w hSw; (try dsimp only at hSw); go_simp; try with_reducible rfl)
    try simp only [Act.put, List.setIfInBounds_toArray, List.set_cons_zero, List.set_cons_succ]
    refine wpAnyH_take (i := 13) (v := ?_) (by simp only [List.getElem?_toArray, List.getElem?_cons_succ, List.getElem?_cons_zero]; rfl) (by kernel_rfl) (by kernel_rfl) (by kernel_rfl) (fun _ _ _ h => h) (Or.inl ⟨by rfl, ?_⟩) (by assumption) ?_
    rotate_left
    · (intro w hSw; (try dsimp only at hSw); go_simp; try with_reducible rfl)
    try simp only [Act.put, List.setIfInBounds_toArray, List.set_cons_zero, List.set_cons_succ]
    refine wpAnyH_take (i := 14) (v := ?_) (by simp only [List.getElem?_toArray, List.getElem?_cons_succ, List.getElem?_cons_zero]; rfl) (by kernel_rfl) (by kernel_rfl) (by kernel_rfl) (fun _ _ _ h => h) (Or.inl ⟨by rfl, ?_⟩) (by assumption) ?_
    rotate_left
    · (intro w hSw; (try dsimp only at hSw); go_simp; try with_reducible rfl)
    try simp only [Act.put, List.setIfInBounds_toArray, List.set_cons_zero, List.set_cons_succ]
    refine wpAnyH_take (i := 15) (v := ?_) (by simp only [List.getElem?_toArray, List.getElem?_cons_succ, List.getElem?_cons_zero]; rfl) (by kernel_rfl) (by kernel_rfl) (by kernel_rfl) (fun _ _ _ h => h) (Or.inl ⟨by rfl, ?_⟩) (by assumption) ?_
    rotate_left
    · (intro w hSw; (try dsimp only at hSw); go_simp; try with_reducible rfl)
    try simp only [Act.put, List.setIfInBounds_toArray, List.set_cons_zero, List.set_cons_succ]
    refine wpAnyH_take (i := 16) (v := ?_) (by simp only [List.getElem?_toArray, List.getElem?_cons_succ, List.getElem?_cons_zero]; rfl) (by kernel_rfl) (by kernel_rfl) (by kernel_rfl) (fun _ _ _ h => h) (Or.inl ⟨by rfl, ?_⟩) (by assumption) ?_
    rotate_left
    · (intro w hSw; (try dsimp only at hSw); go_simp; try with_reducible rfl)
    try simp only [Act.put, List.setIfInBounds_toArray, List.set_cons_zero, List.set_cons_succ]
    refine wpAnyH_take (i := 17) (v := ?_) (by simp only [List.getElem?_toArray, List.getElem?_cons_succ, List.getElem?_cons_zero]; rfl) (by kernel_rfl) (by kernel_rfl) (by kernel_rfl) (fun _ _ _ h => h) (Or.inl ⟨by rfl, ?_⟩) (by assumption) ?_
    rotate_left
    · (intro w hSw; (try dsimp only at hSw); go_simp; try with_reducible rfl)
    try simp only [Act.put, List.setIfInBounds_toArray, List.set_cons_zero, List.set_cons_succ]
    refine wpAnyH_take (i := 18) (v := ?_) (by simp only [List.getElem?_toArray, List.getElem?_cons_succ, List.getElem?_cons_zero]; rfl) (by kernel_rfl) (by kernel_rfl) (by kernel_rfl) (fun _ _ _ h => h) (Or.inl ⟨by rfl, ?_⟩) (by assumption) ?_
    rotate_left
    · (intro w hSw; (try dsimp only at hSw); go_simp; try with_reducible rfl)
    try simp only [Act.put, List.setIfInBounds_toArray, List.set_cons_zero, List.set_cons_succ]
    refine wpAnyH_take (i := 19) (v := ?_) (by simp only [List.getElem?_toArray, List.getElem?_cons_succ, List.getElem?_cons_zero]; rfl) (by kernel_rfl) (by kernel_rfl) (by kernel_rfl) (fun _ _ _ h => h) (Or.inl ⟨by rfl, ?_⟩) (by assumption) ?_
    rotate_left
    · (intro w hSw; (try dsimp only at hSw); go_simp; try with_reducible rfl)
    try simp only [Act.put, List.setIfInBounds_toArray, List.set_cons_zero, List.set_cons_succ]
    refine wpAnyH_take (i := 20) (v := ?_) (by simp only [List.getElem?_toArray, List.getElem?_cons_succ, List.getElem?_cons_zero]; rfl) (by kernel_rfl) (by kernel_rfl) (by kernel_rfl) (fun _ _ _ h => h) (Or.inl ⟨by rfl, ?_⟩) (by assumption) ?_
    rotate_left
    · (intro w hSw; (try dsimp only at hSw); go_simp; try with_reducible rfl)
    try simp only [Act.put, List.setIfInBounds_toArray, List.set_cons_zero, List.set_cons_succ]
    refine wpAnyH_take (i := 21) (v := ?_) (by simp only [List.getElem?_toArray, List.getElem?_cons_succ, List.getElem?_cons_zero]; rfl) (by kernel_rfl) (by kernel_rfl) (by kernel_rfl) (fun _ _ _ h => h) (Or.inl ⟨by rfl, ?_⟩) (by assumption) ?_
    rotate_left
    · (intro w hSw; (try dsimp only at hSw); go_simp; try with_reducible rfl)
    try simp only [Act.put, List.setIfInBounds_toArray, List.set_cons_zero, List.set_cons_succ]
    refine wpAnyH_take (i := 22) (v := ?_) (by simp only [List.getElem?_toArray, List.getElem?_cons_succ, List.getElem?_cons_zero]; rfl) (by kernel_rfl) (by kernel_rfl) (by kernel_rfl) (fun _ _ _ h => h) (Or.inl ⟨by rfl, ?_⟩) (by assumption) ?_
    rotate_left
    · (intro w hSw; (try dsimp only at hSw); go_simp; try with_reducible rfl)
    try simp only [Act.put, List.setIfInBounds_toArray, List.set_cons_zero, List.set_cons_succ]
    refine wpAnyH_take (i := 23) (v := ?_) (by simp only [List.getElem?_toArray, List.getElem?_cons_succ, List.getElem?_cons_zero]; rfl) (by kernel_rfl) (by kernel_rfl) (by kernel_rfl) (fun _ _ _ h => h) (Or.inl ⟨by rfl, ?_⟩) (by assumption) ?_
    rotate_left
    · (intro w hSw; (try dsimp only at hSw); go_simp; try with_reducible rfl)
    try simp only [Act.put, List.setIfInBounds_toArray, List.set_cons_zero, List.set_cons_succ]
    refine wpAnyH_take (i := 24) (v := ?_) (by simp only [List.getElem?_toArray, List.getElem?_cons_succ, List.getElem?_cons_zero]; rfl) (by kernel_rfl) (by kernel_rfl) (by kernel_rfl) (fun _ _ _ h => h) (Or.inl ⟨by rfl, ?_⟩) (by assumption) ?_
    rotate_left
    · (intro w hSw; (try dsimp only at hSw); go_simp; try with_reducible rfl)
    try simp only [Act.put, List.setIfInBounds_toArray, List.set_cons_zero, List.set_cons_succ]
    refine wpAnyH_done (by kernel_rfl) ?_ _
    refine NoPanic.normal ?_
    clear hb x1 x3 x2 x4 x6 dL dA
    obtain ⟨hb, x1, x3, x2, x4, x6, dL, dA⟩ := hHeld
    replace dL := Lib.hid dL
    replace dA := Lib.hid dA
    clear w1 w2 w3 sp sb so x2 x4 x6 d1 d2 e3 e4 e5 e6
    generalize World.drew _ = v at *
    obtain ⟨s1, hs1⟩ : ∃ t, t = s + np + nb + no := ⟨_, rfl⟩
    have hsi : (s : Int) + (np : Int) + (nb : Int) + (no : Int) = (s1 : Int) := by omega
    rw [hsi]
    have b6 : s1 ≤ s + 422212465053696 := by omega
    have HS1 := Lib.hid hs1
    clear hs1 hsi
    go_wp2_with fail
    go_loop [3, 5] (fun nv jv => ∃ j t : Nat, j ≤ nl ∧ jv = .int .i64 j ∧ nv = .int .i64 t ∧ s1 ≤ t ∧ t ≤ s1 + j * 140737488351233 ∧ Hid (∀ i (hi : i < L.length), i < j → L[i].length ≤ t)) (fun _ jv => nl - (intOf jv).toNat)
    case atStart => exact ⟨0, s1, by omega, rfl, rfl, Nat.le_refl _, by omega, Lib.hid (fun i _ hi => by omega)⟩
    case round =>
      obtain ⟨j, t, hj, rfl, rfl, ht1, ht2, HI⟩ := hrel
      by_cases hlj : j < nl
      · obtain ⟨b8, o8, rfl, hw8⟩ := Words.words_at dL.out (by omega)
        have hjl : j < L.length := by rw [← HLL.out]; exact hlj
        have c8 := hw8 j hjl
        have hz8 := HZL.out _ (List.getElem_mem hjl)
        have d8 : decide ((j : Int) < (nl : Int)) = true := decide_eq_true (by omega)
        have j8 : (0 : Int) ≤ (j : Int) := by omega
        have j9 : (j : Int) < (nl : Int) := by omega
        have HI2 : Hid (∀ t' : Nat, t + 1 + L[j].length ≤ t' → ∀ i (hi : i < L.length), i < j + 1 → L[i].length ≤ t') := Lib.hid (fun t' ht' i hi hij => by
          by_cases e : i = j
          · subst e; omega
          · have := HI.out i hi (by omega); omega)
        obtain ⟨tx, htx⟩ : ∃ x, x = L[j] := ⟨_, rfl⟩
        rw [← htx] at c8 hz8 HI2
        obtain ⟨q, hq⟩ : ∃ m, m = tx.length := ⟨_, rfl⟩
        rw [← hq] at hz8 HI2
        have sq : (tx.length : Int) = (q : Int) := by rw [hq]
        have HJ := Lib.hid hlj
        clear htx hw8 hq hlj hjl HI
        go_wp2
        go_round
        case rel => exact ⟨j + 1, t + 1 + q, by have := HJ.out; omega, by go_num, by go_num, by omega, by omega, Lib.hid (HI2.out _ (Nat.le_refl _))⟩
        case measure => have := HJ.out; simp [intOf]; omega
      · obtain rfl : nl = j := by omega
        have d8 : decide ((nl : Int) < (nl : Int)) = false := decide_eq_false (by omega)
        have HLT : Hid (∀ x ∈ L, x.length ≤ t) := Lib.hid (take_len HI.out (by rw [HLL.out]; exact Nat.le_refl _))
        have b7 : t ≤ s1 + 4222124650536990 := by omega
        clear HI hlj ht2
        go_wp2_with fail
        go_loop [3, 6] (fun nv jv => ∃ j u : Nat, j ≤ na ∧ jv = .int .i64 j ∧ nv = .int .i64 u ∧ t ≤ u ∧ u ≤ t + j * 140737488351233 ∧ Hid (∀ i (hi : i < A.length), i < j → A[i].p.length ≤ u)) (fun _ jv => na - (intOf jv).toNat)
        case atStart => exact ⟨0, t, by omega, rfl, rfl, Nat.le_refl _, by omega, Lib.hid (fun i _ hi => by omega)⟩
        case round =>
          obtain ⟨j, u, hj, rfl, rfl, hu1, hu2, HI⟩ := hrel
          by_cases hlj : j < na
          · obtain ⟨b8, o8, rfl, hw8⟩ := marks_at dA.out (by omega)
            have hjl : j < A.length := by rw [← HAA.out]; exact hlj
            obtain ⟨c8, -⟩ := hw8 j hjl
            have hz8 := (HZA.out _ (List.getElem_mem hjl)).1
            have d9 : decide ((j : Int) < (na : Int)) = true := decide_eq_true (by omega)
            have j8 : (0 : Int) ≤ (j : Int) := by omega
            have j9 : (j : Int) < (na : Int) := by omega
            have HI2 : Hid (∀ t' : Nat, u + 1 + A[j].p.length ≤ t' → ∀ i (hi : i < A.length), i < j + 1 → A[i].p.length ≤ t') := Lib.hid (fun t' ht' i hi hij => by
              by_cases e : i = j
              · subst e; omega
              · have := HI.out i hi (by omega); omega)
            obtain ⟨tx, htx⟩ : ∃ x, x = A[j].p := ⟨_, rfl⟩
            rw [← htx] at c8 hz8 HI2
            obtain ⟨q, hq⟩ : ∃ m, m = tx.length := ⟨_, rfl⟩
            rw [← hq] at hz8 HI2
            have sq : (tx.length : Int) = (q : Int) := by rw [hq]
            have HJ := Lib.hid hlj
            clear htx hw8 hq hlj hjl HI
            go_wp2
            go_round
            case rel => exact ⟨j + 1, u + 1 + q, by have := HJ.out; omega, by go_num, by go_num, by omega, by omega, Lib.hid (HI2.out _ (Nat.le_refl _))⟩
            case measure => have := HJ.out; simp [intOf]; omega
          · obtain rfl : na = j := by omega
            have d9 : decide ((na : Int) < (na : Int)) = false := decide_eq_false (by omega)
            have HAT : Hid (∀ x ∈ A, x.p.length ≤ u) := Lib.hid (take_len (P := fun m : M => m.p.length ≤ u) HI.out (by rw [HAA.out]; exact Nat.le_refl _))
            have HFin : Hid (∀ j (hj : j < Ls.length), j < k + 1 → Ls[j].Light u) := Lib.hid (HX.out u (by have := HS1.out; omega) ⟨by show L.length ≤ 30; rw [← HLL.out]; exact b1, by show A.length ≤ 30; rw [← HAA.out]; exact b2, by show pe.length ≤ u; have := HS1.out; have := HPB.out.1; omega, by show bp.length ≤ u; have := HS1.out; have := HPB.out.2.1; omega, by show ow.length ≤ u; have := HS1.out; have := HPB.out.2.2; omega, fun x hx => Nat.le_trans (HLT.out x hx) hu1, HAT.out⟩)
            have b9 : u ≤ (k + 1) * 9007199254740992 := by omega
            clear HI hlj hu2
            go_wp2
            go_roundw
            case rel => exact ⟨k + 1, u, by have := HK.out; omega, by have := HK.out; omega, by go_num, rfl, b9, HFin, hb⟩
            case measure => have := HK.out; simp [intOf]; omega
end Peers
end Go.Proofs.Ytcbnkncgacbniaa
