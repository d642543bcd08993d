/- Merged texts: MarkFn, MarkCompact, DotTidy, Vec. -/
import Derived.Test.YtnpjkmomllkhpaaGreatTake
import Derived.Test.YtnpjkmomllkhpaaGreatTmMarkA
import Derived.WalkKit
import Derived.WalkSpells
import Derived.Deep.RegionHeld3
import Derived.Deep.DeepCutAuto
import Derived.Shelf.Abstract
import Derived.Test.YtnpjkmomllkhpaaGreatTmOrder
import Derived.Test.YtnpjkmomllkhpaaGreatShelf
import Derived.Laws.IdiomStrings
import Derived.Test.YtnpjkmomllkhpaaGreatTmDotOf
namespace Go.Proofs.YtnpjkmomllkhpaaGreat
namespace Mark
open Go.RowKit

theorem keepC {w w' : World} {b o : Nat} {v : Value} (h : w.cell? ⟨b, o, none⟩ = some v) (k : Below w.heap.size w w') : w'.cell? ⟨b, o, none⟩ = some v :=
  (k.cell (p := ⟨b, o, none⟩) (World.block_lt_of_cell? _ _ h)).trans h
theorem bstepB {B : Nat} {w a b : World} (hB : B ≤ w.heap.size) (h : Below B w a) (k : Below a.heap.size a b) : Below B w b := h.trans (k.mono (Nat.le_trans hB h.size))
/-- A predicate on marks that makes memory alone, in each world in which all below B stands. -/
def Pred (g : Nat) (lb : Array Value) (p : M → Bool) (B : Nat) (w : World) : Prop :=
  ∀ (W : World) (m : M), Below B w W → Calls Tryz.prog g (#[m.agg] ++ lb) W fun e w' => e = .returned (.bool (p m)) ∧ Below W.heap.size W w'
def Pred2 (g : Nat) (lb : Array Value) (p : M → M → Bool) (B : Nat) (w : World) : Prop :=
  ∀ (W : World) (m k : M), Below B w W → Calls Tryz.prog g (#[m.agg, k.agg] ++ lb) W fun e w' => e = .returned (.bool (p m k)) ∧ Below W.heap.size W w'
def idxL (p : M → Bool) (L : List M) : Int := match L.findIdx? p with | some i => (i : Int) | none => -1
def Enters (g : Nat) : Prop := ∀ args w, (callFunc g args).run Tryz.prog w = .ok (.enter g args) w

theorem get_agg (m : M) : m.agg = .agg #[.string ⟨m.p.toArray⟩, .int .u64 (m.n : Int)] := rfl

set_option maxRecDepth 100000 in
set_option maxHeartbeats 1000000 in
theorem index_any (g : Nat) (lb : Array Value) (p : M → Bool) (B : Nat) (eg : Enters g) (L : List M) (a : Option Addr) (n c : Nat) (w : World) (hB : B ≤ w.heap.size) (hp : Pred g lb p B w) (hL : Lies w a n L) (hn : n ≤ 1099511627776) :
    Calls Tryz.prog 122 #[.slice a n c, .func (.func g) #[] lb] w fun e w' => e = .returned (.int .i64 (idxL p L)) ∧ Below w.heap.size w w' := by
  have HL := Lib.hid hL
  have HP := Lib.hid hp
  have eg' : ∀ args w, (callFunc g args).run Tryz.prog w = .ok (.enter g args) w := eg
  clear hL hp eg
  go_enter Tryz.func122, Tryz.ntmps122
  go_wp2_with fail
  go_loopw [5, 8] (fun _ iv wr => ∃ k : Nat, k ≤ n ∧ iv = .int .i64 k ∧ Hid (∀ j (h : j < L.length), j < k → p L[j] = false) ∧ Below w.heap.size w wr) (fun _ iv _ => n - (intOf iv).toNat)
  case atStart => exact ⟨0, by omega, rfl, Lib.hid (fun j _ h => absurd h (by omega)), Below.refl _ _⟩
  case round =>
    obtain ⟨k, hk, rfl, HI, hb⟩ := hrel
    have hln := HL.out.1
    by_cases hlt : k < n
    · obtain ⟨b, off, rfl, hcell⟩ := (HL.out.below hb).2 (by omega)
      have hkl : k < L.length := by omega
      obtain ⟨c1, c2⟩ := hcell k hkl
      obtain ⟨m, hm⟩ : ∃ m, m = L[k]'hkl := ⟨_, rfl⟩
      rw [← hm] at c1 c2
      have hcall := HP.out wr m (hb.mono hB)
      rw [get_agg] at hcall
      have q1 := World.block_lt_of_cell? _ _ c2
      have HM := Lib.hid hm
      obtain ⟨r, hr⟩ : ∃ r, r = p m := ⟨_, rfl⟩
      rw [← hr] at hcall
      have HR := Lib.hid hr
      clear hm hcell hln hr
      cases r with
      | false =>
        have CL := Lib.hid hcall
        clear hcall
        go_wp2_with (go_at_fn g; refine CL.out.mono ?_; rintro e v1 ⟨rfl, k1⟩)
        go_roundw
        case rel =>
          refine ⟨k + 1, by omega, by go_num, Lib.hid (fun j hj hjk => ?_), bstep hb k1⟩
          rcases Nat.lt_or_ge j k with h | h
          · exact HI.out j hj h
          · obtain rfl : j = k := by omega
            rw [← HM.out]; exact HR.out.symm
        case measure => simp [intOf]; omega
      | true =>
        have hv : idxL p L = (k : Int) := by
          have : L.findIdx? p = some k := by
            rw [List.findIdx?_eq_some_iff_getElem]
            exact ⟨hkl, by rw [← HM.out]; exact HR.out.symm, fun j hj => by simp [HI.out j (by omega) hj]⟩
          rw [idxL, this]
        have HV := Lib.hid hv
        have CL := Lib.hid hcall
        clear hv hcall
        go_wp2_with (go_at_fn g; refine CL.out.mono ?_; rintro e v1 ⟨rfl, k1⟩)
        go_ret
        exact ⟨by rw [HV.out]; rfl, bstep hb k1⟩
    · obtain rfl : k = n := by omega
      have hv : idxL p L = -1 := by
        have : L.findIdx? p = none := by
          rw [List.findIdx?_eq_none_iff]
          intro x hx
          obtain ⟨j, hj, rfl⟩ := List.mem_iff_getElem.1 hx
          exact HI.out j hj (by omega)
        rw [idxL, this]
      have HV := Lib.hid hv
      have hd : decide ((k : Int) < (k : Int)) = false := decide_eq_false (by omega)
      clear hln hv
      go_wp2
      go_ret
      exact ⟨by rw [HV.out]; rfl, hb⟩


theorem filter_all {p : M → Bool} {L : List M} (h : idxL p L = -1) : L.filter (fun m => !p m) = L := by
  unfold idxL at h
  split at h
  · omega
  · rename_i h2
    rw [List.findIdx?_eq_none_iff] at h2
    exact List.filter_eq_self.2 fun x hx => by simp [h2 x hx]
theorem idx_some {p : M → Bool} {L : List M} (h : idxL p L ≠ -1) : ∃ i : Nat, idxL p L = (i : Int) ∧ ∃ hi : i < L.length, p L[i] = true ∧ (L.take (i + 1)).filter (fun m => !p m) = L.take i := by
  unfold idxL at h ⊢
  split at h
  · rename_i i h2
    rw [List.findIdx?_eq_some_iff_getElem] at h2
    obtain ⟨hi, hp, hn⟩ := h2
    refine ⟨i, rfl, hi, hp, ?_⟩
    rw [List.take_succ_eq_append_getElem hi, List.filter_append]
    have e1 : (L.take i).filter (fun m => !p m) = L.take i := List.filter_eq_self.2 fun x hx => by
      obtain ⟨j, hj, rfl⟩ := List.mem_iff_getElem.1 hx
      rw [List.length_take] at hj
      have := hn j (by omega)
      simpa using this
    rw [e1]; simp [hp]
  · exact absurd rfl h
/-- What the row holds while the kept ones are moved ahead. -/
structure Del (p : M → Bool) (L K : List M) (i j : Nat) : Prop where
  len : K.length = L.length
  lt : i < j
  le : j ≤ L.length
  head : K.take i = (L.take j).filter (fun m => !p m)
  tail : K.drop j = L.drop j
theorem Del.get {p : M → Bool} {L K : List M} {i j : Nat} (h : Del p L K i j) (hj : j < L.length) : K[j]'(by rw [h.len]; exact hj) = L[j] := by
  have := congrArg List.head? h.tail
  rw [List.head?_drop, List.head?_drop, List.getElem?_eq_getElem (by rw [h.len]; exact hj), List.getElem?_eq_getElem hj] at this
  exact Option.some.inj this
theorem Del.keep {p : M → Bool} {L K : List M} {i j : Nat} (h : Del p L K i j) (hj : j < L.length) (m : M) (hm : L[j] = m) (hp : p m = false) : Del p L (K.set i m) (i + 1) (j + 1) := by
  have hlt := h.lt
  have hlen := h.len
  refine ⟨by rw [List.length_set]; exact h.len, by omega, by omega, ?_, ?_⟩
  · rw [List.take_succ_eq_append_getElem hj, List.filter_append, ← h.head, List.take_succ_eq_append_getElem (by rw [List.length_set]; omega), List.getElem_set_self, List.take_set_of_le (Nat.le_refl _), hm]
    simp [hp]
  · rw [List.drop_set_of_lt (by omega)]
    have := congrArg List.tail h.tail
    rwa [List.tail_drop, List.tail_drop] at this
theorem Del.fin {p : M → Bool} {L K : List M} {i j : Nat} (h : Del p L K i j) (hj : j = L.length) : (flat K).take (i * 2) = flat (L.filter fun m => !p m) ∧ i = (L.filter fun m => !p m).length := by
  have h1 : K.take i = L.filter fun m => !p m := by rw [h.head, hj, List.take_length]
  refine ⟨by rw [← flat_take, h1], ?_⟩
  have := h.lt
  have := h.len
  rw [← h1, List.length_take]; omega
theorem Del.skip {p : M → Bool} {L K : List M} {i j : Nat} (h : Del p L K i j) (hj : j < L.length) (hp : p L[j] = true) : Del p L K i (j + 1) := by
  have hlt := h.lt
  refine ⟨h.len, by omega, by omega, ?_, ?_⟩
  · rw [List.take_succ_eq_append_getElem hj, List.filter_append, ← h.head]; simp [hp]
  · have := congrArg List.tail h.tail
    rwa [List.tail_drop, List.tail_drop] at this

set_option maxRecDepth 100000 in
set_option maxHeartbeats 4000000 in
theorem delete_any (g : Nat) (lb : Array Value) (p : M → Bool) (B : Nat) (eg : Enters g) (L : List M) (v : Value) (w : World) (hB : B ≤ w.heap.size) (hp : Pred g lb p B w) (hO : Own w B v L) (hn : L.length ≤ 1099511627776) :
    Calls Tryz.prog 114 #[v, .func (.func g) #[] lb] w fun e w' => ∃ v', e = .returned v' ∧ Own w' B v' (L.filter fun m => !p m) ∧ Below B w w' := by
  obtain ⟨a, c, rfl, hlc, hcm, hl, hq⟩ := hO.lies
  have I := Lib.hid (index_any g lb p B eg L a L.length c w hB hp hl hn)
  have HP := Lib.hid hp
  have eg' : ∀ args w, (callFunc g args).run Tryz.prog w = .ok (.enter g args) w := eg
  by_cases hi : idxL p L = -1
  · have HF := Lib.hid (filter_all hi)
    have HI := Lib.hid hi
    have HO := Lib.hid hO
    clear hp eg hi hl hq hO
    go_enter Tryz.func114, Tryz.ntmps114
    go_wp2_with fail
    refine I.out.mono ?_
    rintro e v1 ⟨rfl, k1⟩
    rw [HI.out]
    go_wp2
    go_ret
    exact ⟨_, rfl, by rw [HF.out]; exact HO.out.below k1, k1.mono hB⟩
  obtain ⟨i0, hi0, hil, hpi, hfi⟩ := idx_some hi
  obtain ⟨q, cap, hv, hnc, hcm2, hBq⟩ := hO.some (by intro e; rw [e] at hil; simp at hil)
  simp only [Value.slice.injEq, true_and] at hv
  obtain ⟨rfl, rfl⟩ := hv
  have HI := Lib.hid hi0
  have hD0 : Del p L L i0 (i0 + 1) := ⟨rfl, by omega, by omega, hfi.symm, rfl⟩
  have HD0 := Lib.hid hD0
  have HO : Hid (w.ownsRow B 54 2 (.slice (some ⟨q, 0, none⟩) L.length c) L.length (flat L)) := Lib.hid hO
  obtain ⟨n, hn'⟩ : ∃ n, n = L.length := ⟨_, rfl⟩
  have HN := Lib.hid hn'
  rw [← hn'] at I HO hil hnc hn hlc ⊢
  have y0 : ((i0 : Int) == -1) = false := by rw [beq_eq_false_iff_ne]; omega
  clear hp eg hi hl hq hO hi0 hfi hpi hn' hD0
  go_enter Tryz.func114, Tryz.ntmps114
  go_wp2_with fail
  refine I.out.mono ?_
  rintro e v1 ⟨rfl, k1⟩
  rw [HI.out]
  have hb1 : Below B w v1 := k1.mono hB
  have HO1 := Lib.hid (World.ownsRow.kept HO.out (grown_of k1) (Classical.em _))
  clear HI k1
  go_wp2_with fail
  go_loopw [5, 6] (fun iv jv wr => ∃ (i j : Nat) (K : List M), iv = .int .i64 i ∧ jv = .int .i64 j ∧ i < j ∧ j ≤ n ∧ Hid (Del p L K i j) ∧ Hid (wr.ownsRow B 54 2 (.slice (some ⟨q, 0, none⟩) n c) n (flat K)) ∧ Below B w wr) (fun _ jv _ => n - (intOf jv).toNat)
  case atStart => exact ⟨i0, i0 + 1, L, rfl, by go_num, by omega, by omega, HD0, HO1, hb1⟩
  case round =>
    obtain ⟨i, j, K, rfl, rfl, hij, hjn, HD, HW, hb⟩ := hrel
    clear HO1 hb1
    have hln := HN.out
    have hbs : B ≤ wr.heap.size := Nat.le_trans hB hb.size
    by_cases hlt : j < n
    · have hkl : j < K.length := by rw [HD.out.len]; omega
      have hf := flat_get K j hkl
      have c1 := (HW.out.cellAt (j * 2) (by omega)).trans hf.1
      have c2 := (HW.out.cellAt (j * 2 + 1) (by omega)).trans hf.2
      have hjl : j < L.length := by omega
      rw [HD.out.get hjl] at c1 c2
      obtain ⟨m, hm⟩ : ∃ m, m = L[j]'hjl := ⟨_, rfl⟩
      rw [← hm] at c1 c2
      have q1 : q < wr.heap.size := World.block_lt_of_cell? _ _ c2
      have hcall := HP.out (wr.alloc (.cells #[.string ⟨m.p.toArray⟩, .int .u64 (m.n : Int)] 54)) m (hb.alloc hbs _)
      rw [get_agg] at hcall
      obtain ⟨r, hr⟩ : ∃ r, r = p m := ⟨_, rfl⟩
      rw [← hr] at hcall
      have HM := Lib.hid hm
      have HR := Lib.hid hr
      clear hm hf hln hr hkl
      cases r with
      | true =>
        have CL := Lib.hid hcall
        clear hcall
        go_wp2_with (go_at_fn g; refine CL.out.mono ?_; rintro e v2 ⟨rfl, k2⟩)
        go_roundw
        case rel => exact ⟨i, j + 1, K, rfl, by go_num, by omega, by omega, Lib.hid (HD.out.skip hjl (by rw [← HM.out]; exact HR.out.symm)), Lib.hid (World.ownsRow.kept (HW.out.alloc _) (grown_of k2) (Classical.em _)), (hb.alloc hbs _).trans (k2.mono (by simp; omega))⟩
        case measure => simp [intOf]; omega
      | false =>
        have CL := Lib.hid hcall
        clear hcall
        go_wp2_with fail
        refine CL.out.mono ?_
        rintro e v2 ⟨rfl, k2⟩
        have d1 := (k2.cell (p := ⟨wr.heap.size, 0, none⟩) (by simp)).trans (World.cell?_alloc_new ..)
        have d2 := (k2.cell (p := ⟨wr.heap.size, 1, none⟩) (by simp)).trans (World.cell?_alloc_new ..)
        simp at d1 d2
        have hb2 : Below B w v2 := (hb.alloc hbs _).trans (k2.mono (by simp; omega))
        have HW2 := Lib.hid (World.ownsRow.kept (HW.out.alloc (.cells #[.string ⟨m.p.toArray⟩, .int .u64 (m.n : Int)] 54)) (grown_of k2) (Classical.em _))
        obtain ⟨f1, f2⟩ := own_isSome HW2.out (i * 2) (by omega)
        obtain ⟨f3, f4⟩ := own_isSome HW2.out (i * 2 + 1) (by omega)
        obtain ⟨x1, e1⟩ := Option.isSome_iff_exists.1 f1
        obtain ⟨x2, e2⟩ := Option.isSome_iff_exists.1 f3
        clear k2 f1 f3
        go_wp2
        go_roundw
        case rel =>
          obtain ⟨o1, g1⟩ := own_set m HW2.out (by have := HD.out.len; have := HN.out; omega) (show i < n by omega)
          exact ⟨i + 1, j + 1, K.set i m, by go_num, by go_num, by omega, by omega, Lib.hid (HD.out.keep hjl m HM.out.symm HR.out.symm), Lib.hid o1, Below.grown hb2 g1 (Nat.le_trans hB hb2.size) (fun k hk => by cases hk; exact hBq)⟩
        case measure => simp [intOf]; omega
    · obtain rfl : j = n := by omega
      have hd : decide ((j : Int) < (j : Int)) = false := decide_eq_false (by omega)
      have hfin := HD.out.fin HN.out
      obtain ⟨vs, hclr⟩ := run_clear HW.out (i := i) (m := j - i) (c := c - i) (by omega) rfl 0
      obtain ⟨ys, o2, hys, g2⟩ := own_cells vs (i * 2) wr _ HW.out
      have o3 := own_cut o2 (i := i) (by omega)
      rw [hys, hfin.1] at o3
      have ho : Own (wr.setCells q (i * 2) vs) B (.slice (some ⟨q, 0, none⟩) i c) (L.filter fun m => !p m) := by
        unfold Own; rw [← hfin.2]; exact o3
      have hb3 : Below B w (wr.setCells q (i * 2) vs) := Below.grown hb g2 hbs (fun k hk => by cases hk; exact hBq)
      have hic : i < c := by omega
      have HOO := Lib.hid ho
      clear hfin o2 hys g2 o3 ho hln
      go_wp2
      go_ret
      exact ⟨_, rfl, HOO.out, hb3⟩


end Mark
end Go.Proofs.YtnpjkmomllkhpaaGreat

namespace Go.Proofs.YtnpjkmomllkhpaaGreat
namespace Mark
open Go.RowKit

/-- The first of each run of ones that are alike. -/
def dgo (p : M → M → Bool) : M → List M → List M
  | _, [] => []
  | x, y :: r => if p y x then dgo p y r else y :: dgo p y r
def dedup (p : M → M → Bool) : List M → List M
  | [] => []
  | x :: r => x :: dgo p x r
theorem dgo_snoc (p : M → M → Bool) : ∀ (r : List M) (x y : M), dgo p x (r ++ [y]) = dgo p x r ++ (if p y ((x :: r).getLast (by simp)) then [] else [y])
  | [], x, y => by
    simp only [List.nil_append, dgo, List.getLast_singleton]
    rfl
  | z :: r, x, y => by
    have e : (x :: z :: r).getLast (by simp) = (z :: r).getLast (by simp) := List.getLast_cons (by simp)
    rw [List.cons_append, dgo, dgo, dgo_snoc p r z y, e]
    split <;> simp
theorem dedup_snoc (p : M → M → Bool) (L : List M) (hL : L ≠ []) (y : M) : dedup p (L ++ [y]) = dedup p L ++ (if p y (L.getLast hL) then [] else [y]) := by
  cases L with
  | nil => exact absurd rfl hL
  | cons x r => rw [List.cons_append, dedup, dedup, dgo_snoc]; rfl
theorem dedup_step (p : M → M → Bool) (L : List M) (j : Nat) (h : j + 1 < L.length) : dedup p (L.take (j + 1 + 1)) = dedup p (L.take (j + 1)) ++ (if p L[j + 1] L[j] then [] else [L[j + 1]]) := by
  rw [List.take_succ_eq_append_getElem h, dedup_snoc p _ (by intro e; have := congrArg List.length e; rw [List.length_take, List.length_nil] at this; omega)]
  congr 2
  rw [List.getLast_eq_getElem]
  simp
  have : min (j + 1) L.length - 1 = j := by omega
  simp [this]
/-- What the row holds while ones alike are left out. -/
structure Com (p : M → M → Bool) (L K : List M) (i j : Nat) : Prop where
  len : K.length = L.length
  lt : i < j
  le : j ≤ L.length
  head : K.take i = dedup p (L.take j)
  tail : K.drop (j - 1) = L.drop (j - 1)
theorem Com.get {p : M → M → Bool} {L K : List M} {i j : Nat} (h : Com p L K i j) {k : Nat} (h1 : j - 1 ≤ k) (hk : k < L.length) : K[k]'(by rw [h.len]; exact hk) = L[k] := by
  have := congrArg (fun l => l[k - (j - 1)]?) h.tail
  simp only [List.getElem?_drop] at this
  rw [show j - 1 + (k - (j - 1)) = k by omega, List.getElem?_eq_getElem (by rw [h.len]; exact hk), List.getElem?_eq_getElem hk] at this
  exact Option.some.inj this
theorem Com.tl {p : M → M → Bool} {L K : List M} {i j : Nat} (h : Com p L K i j) : K.drop j = L.drop j := by
  have hlt := h.lt
  have := congrArg List.tail h.tail
  rwa [List.tail_drop, List.tail_drop, show j - 1 + 1 = j by omega] at this
theorem Com.keep {p : M → M → Bool} {L K : List M} {i j : Nat} (h : Com p L K i (j + 1)) (hj : j + 1 < L.length) (m : M) (hm : L[j + 1] = m) (hp : p L[j + 1] L[j] = false) : Com p L (K.set i m) (i + 1) (j + 1 + 1) := by
  have hlt := h.lt
  have hlen := h.len
  refine ⟨by rw [List.length_set]; exact h.len, by omega, by omega, ?_, ?_⟩
  · rw [dedup_step p L j hj, hp, ← h.head, List.take_succ_eq_append_getElem (by rw [List.length_set]; omega), List.getElem_set_self, List.take_set_of_le (Nat.le_refl _), hm]
    rfl
  · show (K.set i m).drop (j + 1) = L.drop (j + 1)
    rw [List.drop_set_of_lt (by omega)]
    exact h.tl
theorem Com.skip {p : M → M → Bool} {L K : List M} {i j : Nat} (h : Com p L K i (j + 1)) (hj : j + 1 < L.length) (hp : p L[j + 1] L[j] = true) : Com p L K i (j + 1 + 1) := by
  have hlt := h.lt
  refine ⟨h.len, by omega, by omega, ?_, ?_⟩
  · rw [dedup_step p L j hj, hp, ← h.head]; simp
  · exact h.tl
theorem Com.fin {p : M → M → Bool} {L K : List M} {i j : Nat} (h : Com p L K i j) (hj : j = L.length) : (flat K).take (i * 2) = flat (dedup p L) ∧ i = (dedup p L).length := by
  have h1 : K.take i = dedup p L := by rw [h.head, hj, List.take_length]
  refine ⟨by rw [← flat_take, h1], ?_⟩
  have := h.lt
  have := h.len
  rw [← h1, List.length_take]; omega


theorem dedup_step' (p : M → M → Bool) (L : List M) (f j : Nat) (e : f = j + 1) (h : f < L.length) (hj : j < L.length) : dedup p (L.take (f + 1)) = dedup p (L.take f) ++ (if p L[f] L[j] then [] else [L[f]]) := by
  subst e; exact dedup_step p L j h
theorem Com.keep' {p : M → M → Bool} {L K : List M} {i e j : Nat} (h : Com p L K i e) (he : e = j + 1) (hl : e < L.length) (hj : j < L.length) (m k : M) (hm : L[e] = m) (hk : L[j] = k) (hp : p m k = false) : Com p L (K.set i m) (i + 1) (e + 1) := by
  subst he
  exact h.keep hl m hm (by rw [hm, hk]; exact hp)
theorem Com.skip' {p : M → M → Bool} {L K : List M} {i e j : Nat} (h : Com p L K i e) (he : e = j + 1) (hl : e < L.length) (hj : j < L.length) (m k : M) (hm : L[e] = m) (hk : L[j] = k) (hp : p m k = true) : Com p L K i (e + 1) := by
  subst he
  exact h.skip hl (by rw [hm, hk]; exact hp)

set_option maxRecDepth 100000 in
set_option maxHeartbeats 4000000 in
theorem compact_any (g : Nat) (lb : Array Value) (p : M → M → Bool) (B : Nat) (eg : Enters g) (L : List M) (v : Value) (w : World) (hB : B ≤ w.heap.size) (hp : Pred2 g lb p B w) (hO : Own w B v L) (hn : L.length ≤ 1099511627776) :
    Calls Tryz.prog 119 #[v, .func (.func g) #[] lb] w fun e w' => ∃ v', e = .returned v' ∧ Own w' B v' (dedup p L) ∧ Below B w w' := by
  have eg' : ∀ args w, (callFunc g args).run Tryz.prog w = .ok (.enter g args) w := eg
  by_cases h2 : L.length < 2
  · have hd : dedup p L = L := by
      match L, h2 with
      | [], _ => rfl
      | [x], _ => rfl
    obtain ⟨a, c, rfl, _, _, _, _⟩ := hO.lies
    have d : decide ((L.length : Int) < 2) = true := decide_eq_true (by omega)
    have HD := Lib.hid hd
    have HO := Lib.hid hO
    clear hp eg hd hO
    go_enter Tryz.func119, Tryz.ntmps119
    go_wp2
    go_ret
    exact ⟨_, rfl, by rw [HD.out]; exact HO.out, Below.refl _ _⟩
  obtain ⟨q, c, rfl, hnc, hcm, hBq⟩ := hO.some (by intro e; rw [e] at h2; simp at h2)
  have HP := Lib.hid hp
  have HO : Hid (w.ownsRow B 54 2 (.slice (some ⟨q, 0, none⟩) L.length c) L.length (flat L)) := Lib.hid hO
  obtain ⟨n, hn'⟩ : ∃ n, n = L.length := ⟨_, rfl⟩
  have HN := Lib.hid hn'
  rw [← hn'] at HO hnc hn h2 ⊢
  have d : decide ((n : Int) < 2) = false := decide_eq_false (by omega)
  have hc9 : c ≤ 9223372036854775807 := hcm
  clear hp eg hO hn'
  go_enter Tryz.func119, Tryz.ntmps119
  go_wp2_with fail
  go_loopw [5] (fun kv wr => ∃ f j : Nat, Hid (f = j + 1) ∧ j < f ∧ f ≤ n ∧ kv = .int .i64 (f : Int) ∧ Hid (dedup p (L.take f) = L.take f) ∧ Hid (wr.ownsRow B 54 2 (.slice (some ⟨q, 0, none⟩) n c) n (flat L)) ∧ Below B w wr) (fun kv _ => n - (intOf kv).toNat)
  case atStart => exact ⟨1, 0, Lib.hid rfl, by omega, by omega, rfl, Lib.hid (by cases L with | nil => rfl | cons x r => rfl), HO, Below.refl _ _⟩
  case round =>
    obtain ⟨f, j, HF, hjf, hf, rfl, HI, HW, hb⟩ := hrel
    have hln := HN.out
    have hbs : B ≤ wr.heap.size := Nat.le_trans hB hb.size
    by_cases hlt : f < n
    · have d1 : decide ((f : Int) < (n : Int)) = true := decide_eq_true (by omega)
      have hfl : f < L.length := by omega
      have hjl : j < L.length := by omega
      have hf1 := flat_get L f hfl
      have hf0 := flat_get L j hjl
      have c1 := (HW.out.cellAt (f * 2) (by omega)).trans hf1.1
      have c2 := (HW.out.cellAt (f * 2 + 1) (by omega)).trans hf1.2
      have c3 := (HW.out.cellAt (j * 2) (by omega)).trans hf0.1
      have c4 := (HW.out.cellAt (j * 2 + 1) (by omega)).trans hf0.2
      obtain ⟨m, hm⟩ : ∃ m, m = L[f]'hfl := ⟨_, rfl⟩
      obtain ⟨k, hk⟩ : ∃ k, k = L[j]'hjl := ⟨_, rfl⟩
      rw [← hm] at c1 c2
      rw [← hk] at c3 c4
      have hst := dedup_step' p L f j HF.out hfl hjl
      rw [HI.out] at hst
      rw [← hm, ← hk] at hst
      have htk := List.take_succ_eq_append_getElem hfl
      rw [← hm] at htk
      have CALL := Lib.hid (fun W (k1 : Below B w W) => HP.out W m k k1)
      simp only [get_agg] at CALL
      obtain ⟨r, hr⟩ : ∃ r, r = p m k := ⟨_, rfl⟩
      rw [← hr] at CALL hst
      have hw : IntKind.i64.wrap ((f : Int) - 1) = (j : Int) := by rw [IntKind.wrap_i64]; have := HF.out; omega
      have hj0 : (0 : Int) ≤ (j : Int) := by omega
      have hjn : (j : Int) < (n : Int) := by omega
      have hj1 : (0 : Int) ≤ (f : Int) := by omega
      have hjn1 : (f : Int) < (n : Int) := by omega
      have HR := Lib.hid hr
      have HS := Lib.hid hst
      have HT := Lib.hid htk
      clear hf1 hf0 hm hk hr hst htk hln
      cases r with
      | false =>
        go_wp2_with fail
        refine wp_region_noPanic ?_
        refine wp_region_held_drew (S := (fun w' => (w'.cell? ⟨q, f * 2, none⟩ = some (.string ⟨m.p.toArray⟩) ∧ w'.cell? ⟨q, f * 2 + 1, none⟩ = some (.int .u64 (m.n : Int))) ∧ w'.cell? ⟨q, j * 2, none⟩ = some (.string ⟨k.p.toArray⟩) ∧ w'.cell? ⟨q, j * 2 + 1, none⟩ = some (.int .u64 (k.n : Int)))) (by kernel_rfl) (⟨⟨c1, c2⟩, c3, c4⟩) (fun hHeld => ?_)
        refine tk 0 ?_
        try simp only [Act.put, List.setIfInBounds_toArray, List.set_cons_zero, List.set_cons_succ]
        refine tk 1 ?_
        try simp only [Act.put, List.setIfInBounds_toArray, List.set_cons_zero, List.set_cons_succ]
        refine tk 2 ?_
        try simp only [Act.put, List.setIfInBounds_toArray, List.set_cons_zero, List.set_cons_succ]
        refine tk 3 ?_
        try simp only [Act.put, List.setIfInBounds_toArray, List.set_cons_zero, List.set_cons_succ]
        refine tk 4 ?_
        try simp only [Act.put, List.setIfInBounds_toArray, List.set_cons_zero, List.set_cons_succ]
        refine tk 5 ?_
        try simp only [Act.put, List.setIfInBounds_toArray, List.set_cons_zero, List.set_cons_succ]
        refine tk 6 ?_
        try simp only [Act.put, List.setIfInBounds_toArray, List.set_cons_zero, List.set_cons_succ]
        refine tk 7 ?_
        try simp only [Act.put, List.setIfInBounds_toArray, List.set_cons_zero, List.set_cons_succ]
        refine tk 8 ?_
        try simp only [Act.put, List.setIfInBounds_toArray, List.set_cons_zero, List.set_cons_succ]
        refine tk 9 ?_
        try simp only [Act.put, List.setIfInBounds_toArray, List.set_cons_zero, List.set_cons_succ]
        refine wpAnyH_ready (rs := [10]) (by kernel_rfl) (by simp) ?_
        refine AllReadyH.cons (by simp only [List.getElem?_toArray, List.getElem?_cons_succ, List.getElem?_cons_zero]; rfl) (fun K hK => ?_) AllReadyH.nil
        go_simp
        skip
        refine (CALL.out _ (by first | exact hb | exact Below.drew hb)).mono ?_
        rintro e v1 ⟨rfl, k1⟩
        have h1 := bstepB hB (by first | exact hb | exact Below.drew hb) k1
        have HWN := Lib.hid (World.ownsRow.kept (World.ownsRow.kept HW.out (grown_of (Below.drew (Below.refl _ _))) (Classical.em _)) (grown_of k1) (Classical.em _))
        go_wp2_with fail
        refine hK.out _ _ (⟨⟨keepC hHeld.1.1 k1, keepC hHeld.1.2 k1⟩, keepC hHeld.2.1 k1, keepC hHeld.2.2 k1⟩) (fun hHeld => ?_)
        clear hK K
        try simp only [Act.put, List.setIfInBounds_toArray, List.set_cons_zero, List.set_cons_succ]
        refine wpAnyH_done (by kernel_rfl) ?_ _
        refine NoPanic.normal ?_
        clear hHeld c1 c2 c3 c4
        go_wp2
        go_roundw
        case rel => exact ⟨f + 1, f, Lib.hid rfl, by omega, by omega, by go_num, Lib.hid (by rw [HS.out, HT.out]; rfl), HWN, h1⟩
        case measure => simp [intOf]; omega
      | true =>
        have hC0 : Com p L L f (f + 1) := ⟨rfl, by omega, by omega, by rw [HS.out]; simp, rfl⟩
        have HC0 := Lib.hid hC0
        clear hC0
        have hjc2 : (f : Int) ≤ (c : Int) := by omega
        have hjn2 : (f : Int) ≤ (n : Int) := by omega
        have hjc3 : f < c := by omega
        go_wp2_with fail
        refine wp_region_noPanic ?_
        refine wp_region_held_drew (S := (fun w' => (w'.cell? ⟨q, f * 2, none⟩ = some (.string ⟨m.p.toArray⟩) ∧ w'.cell? ⟨q, f * 2 + 1, none⟩ = some (.int .u64 (m.n : Int))) ∧ w'.cell? ⟨q, j * 2, none⟩ = some (.string ⟨k.p.toArray⟩) ∧ w'.cell? ⟨q, j * 2 + 1, none⟩ = some (.int .u64 (k.n : Int)))) (by kernel_rfl) (⟨⟨c1, c2⟩, c3, c4⟩) (fun hHeld => ?_)
        refine tk 0 ?_
        try simp only [Act.put, List.setIfInBounds_toArray, List.set_cons_zero, List.set_cons_succ]
        refine tk 1 ?_
        try simp only [Act.put, List.setIfInBounds_toArray, List.set_cons_zero, List.set_cons_succ]
        refine tk 2 ?_
        try simp only [Act.put, List.setIfInBounds_toArray, List.set_cons_zero, List.set_cons_succ]
        refine tk 3 ?_
        try simp only [Act.put, List.setIfInBounds_toArray, List.set_cons_zero, List.set_cons_succ]
        refine tk 4 ?_
        try simp only [Act.put, List.setIfInBounds_toArray, List.set_cons_zero, List.set_cons_succ]
        refine tk 5 ?_
        try simp only [Act.put, List.setIfInBounds_toArray, List.set_cons_zero, List.set_cons_succ]
        refine tk 6 ?_
        try simp only [Act.put, List.setIfInBounds_toArray, List.set_cons_zero, List.set_cons_succ]
        refine tk 7 ?_
        try simp only [Act.put, List.setIfInBounds_toArray, List.set_cons_zero, List.set_cons_succ]
        refine tk 8 ?_
        try simp only [Act.put, List.setIfInBounds_toArray, List.set_cons_zero, List.set_cons_succ]
        refine tk 9 ?_
        try simp only [Act.put, List.setIfInBounds_toArray, List.set_cons_zero, List.set_cons_succ]
        refine wpAnyH_ready (rs := [10]) (by kernel_rfl) (by simp) ?_
        refine AllReadyH.cons (by simp only [List.getElem?_toArray, List.getElem?_cons_succ, List.getElem?_cons_zero]; rfl) (fun K hK => ?_) AllReadyH.nil
        go_simp
        skip
        refine (CALL.out _ (by first | exact hb | exact Below.drew hb)).mono ?_
        rintro e v2 ⟨rfl, k2⟩
        have h2 := bstepB hB (by first | exact hb | exact Below.drew hb) k2
        have HWN := Lib.hid (World.ownsRow.kept (World.ownsRow.kept HW.out (grown_of (Below.drew (Below.refl _ _))) (Classical.em _)) (grown_of k2) (Classical.em _))
        go_wp2_with fail
        refine hK.out _ _ (⟨⟨keepC hHeld.1.1 k2, keepC hHeld.1.2 k2⟩, keepC hHeld.2.1 k2, keepC hHeld.2.2 k2⟩) (fun hHeld => ?_)
        clear hK K
        try simp only [Act.put, List.setIfInBounds_toArray, List.set_cons_zero, List.set_cons_succ]
        refine wpAnyH_done (by kernel_rfl) ?_ _
        refine NoPanic.normal ?_
        clear hHeld c1 c2 c3 c4 CALL HT HS hw
        go_wp2_with fail
        obtain ⟨n2, hn2⟩ : ∃ n2, n2 = n - f := ⟨_, rfl⟩
        obtain ⟨c2, hc2⟩ : ∃ c2, c2 = c - f := ⟨_, rfl⟩
        rw [← hn2, ← hc2]
        have hfn : f + n2 ≤ n ∧ n ≤ f + n2 := by omega
        obtain ⟨hfn1, hfn2⟩ := hfn
        clear hn2 hc2
        go_loopw [5, 7] (fun iv tv wr => ∃ (i t u : Nat) (K : List M), Hid (t = u + 1) ∧ u < t ∧ t ≤ n2 ∧ i < f + t ∧ iv = .int .i64 (i : Int) ∧ tv = .int .i64 (t : Int) ∧ Hid (Com p L K i (f + t)) ∧ Hid (wr.ownsRow B 54 2 (.slice (some ⟨q, 0, none⟩) n c) n (flat K)) ∧ Below B w wr) (fun _ tv _ => n - (intOf tv).toNat)
        case atStart => exact ⟨f, 1, 0, L, Lib.hid rfl, by omega, by omega, by omega, rfl, rfl, HC0, HWN, h2⟩
        case round =>
          clear HWN HC0 h2
          obtain ⟨i, t, u, K, HTU, hut, htn, hit, rfl, rfl, HC, HV, hb2⟩ := hrel
          have hln := HN.out
          have hbs2 : B ≤ wr.heap.size := Nat.le_trans hB hb2.size
          by_cases hlt2 : t < n2
          · have d5 : decide ((t : Int) < (n2 : Int)) = true := decide_eq_true (by omega)
            have hel : f + t < L.length := by omega
            have hul : f + u < L.length := by omega
            have hel2 : f + t < K.length := by rw [HC.out.len]; exact hel
            have hul2 : f + u < K.length := by rw [HC.out.len]; exact hul
            have hf1 := flat_get K (f + t) hel2
            have hf0 := flat_get K (f + u) hul2
            rw [HC.out.get (by omega) hel] at hf1
            rw [HC.out.get (by have := HTU.out; omega) hul] at hf0
            rw [Nat.add_mul] at hf1 hf0
            have c1 := (HV.out.cellAt (f * 2 + t * 2) (by omega)).trans hf1.1
            have c2 := (HV.out.cellAt (f * 2 + t * 2 + 1) (by omega)).trans hf1.2
            have c3 := (HV.out.cellAt (f * 2 + u * 2) (by omega)).trans hf0.1
            have c4 := (HV.out.cellAt (f * 2 + u * 2 + 1) (by omega)).trans hf0.2
            obtain ⟨m2, hm⟩ : ∃ m, m = L[f + t]'hel := ⟨_, rfl⟩
            obtain ⟨k2, hk⟩ : ∃ k, k = L[f + u]'hul := ⟨_, rfl⟩
            rw [← hm] at c1 c2
            rw [← hk] at c3 c4
            have CALL := Lib.hid (fun W (k1 : Below B w W) => HP.out W m2 k2 k1)
            simp only [get_agg] at CALL
            obtain ⟨r, hr⟩ : ∃ r, r = p m2 k2 := ⟨_, rfl⟩
            rw [← hr] at CALL
            have hw : IntKind.i64.wrap ((t : Int) - 1) = (u : Int) := by rw [IntKind.wrap_i64]; have := HTU.out; omega
            have hu0 : (0 : Int) ≤ (u : Int) := by omega
            have hun : (u : Int) < (n2 : Int) := by omega
            have ht0 : (0 : Int) ≤ (t : Int) := by omega
            have htn1 : (t : Int) < (n2 : Int) := by omega
            have HR := Lib.hid hr
            have HM := Lib.hid hm
            have HK := Lib.hid hk
            have htu1 : u + 1 ≤ t ∧ t ≤ u + 1 := by have := HTU.out; omega
            clear hf1 hf0 hm hk hr hln
            cases r with
            | true =>
              go_wp2_with fail
              refine wp_region_noPanic ?_
              refine wp_region_held_drew (S := (fun w' => (w'.cell? ⟨q, f * 2 + t * 2, none⟩ = some (.string ⟨m2.p.toArray⟩) ∧ w'.cell? ⟨q, f * 2 + t * 2 + 1, none⟩ = some (.int .u64 (m2.n : Int))) ∧ w'.cell? ⟨q, f * 2 + u * 2, none⟩ = some (.string ⟨k2.p.toArray⟩) ∧ w'.cell? ⟨q, f * 2 + u * 2 + 1, none⟩ = some (.int .u64 (k2.n : Int)))) (by kernel_rfl) (⟨⟨c1, c2⟩, c3, c4⟩) (fun hHeld => ?_)
              refine tk 0 ?_
              try simp only [Act.put, List.setIfInBounds_toArray, List.set_cons_zero, List.set_cons_succ]
              refine tk 1 ?_
              try simp only [Act.put, List.setIfInBounds_toArray, List.set_cons_zero, List.set_cons_succ]
              refine tk 2 ?_
              try simp only [Act.put, List.setIfInBounds_toArray, List.set_cons_zero, List.set_cons_succ]
              refine tk 3 ?_
              try simp only [Act.put, List.setIfInBounds_toArray, List.set_cons_zero, List.set_cons_succ]
              refine tk 4 ?_
              try simp only [Act.put, List.setIfInBounds_toArray, List.set_cons_zero, List.set_cons_succ]
              refine tk 5 ?_
              try simp only [Act.put, List.setIfInBounds_toArray, List.set_cons_zero, List.set_cons_succ]
              refine tk 6 ?_
              try simp only [Act.put, List.setIfInBounds_toArray, List.set_cons_zero, List.set_cons_succ]
              refine tk 7 ?_
              try simp only [Act.put, List.setIfInBounds_toArray, List.set_cons_zero, List.set_cons_succ]
              refine tk 8 ?_
              try simp only [Act.put, List.setIfInBounds_toArray, List.set_cons_zero, List.set_cons_succ]
              refine tk 9 ?_
              try simp only [Act.put, List.setIfInBounds_toArray, List.set_cons_zero, List.set_cons_succ]
              refine wpAnyH_ready (rs := [10]) (by kernel_rfl) (by simp) ?_
              refine AllReadyH.cons (by simp only [List.getElem?_toArray, List.getElem?_cons_succ, List.getElem?_cons_zero]; rfl) (fun K hK => ?_) AllReadyH.nil
              go_simp
              skip
              refine (CALL.out _ (by first | exact hb2 | exact Below.drew hb2)).mono ?_
              rintro e v3 ⟨rfl, k3⟩
              have h3 := bstepB hB (by first | exact hb2 | exact Below.drew hb2) k3
              have HWN := Lib.hid (World.ownsRow.kept (World.ownsRow.kept HV.out (grown_of (Below.drew (Below.refl _ _))) (Classical.em _)) (grown_of k3) (Classical.em _))
              go_wp2_with fail
              refine hK.out _ _ (⟨⟨keepC hHeld.1.1 k3, keepC hHeld.1.2 k3⟩, keepC hHeld.2.1 k3, keepC hHeld.2.2 k3⟩) (fun hHeld => ?_)
              clear hK K
              try simp only [Act.put, List.setIfInBounds_toArray, List.set_cons_zero, List.set_cons_succ]
              refine tk 11 ?_
              try simp only [Act.put, List.setIfInBounds_toArray, List.set_cons_zero, List.set_cons_succ]
              refine wpAnyH_done (by kernel_rfl) ?_ _
              refine NoPanic.normal ?_
              clear hHeld c1 c2 c3 c4
              go_wp2
              go_roundw
              case rel => exact ⟨i, t + 1, t, K, Lib.hid rfl, by omega, by omega, by omega, rfl, by go_num, Lib.hid (HC.out.skip' (e := f + t) (j := f + u) (by have := HTU.out; omega) hel hul m2 k2 HM.out.symm HK.out.symm HR.out.symm), HWN, h3⟩
              case measure => simp [intOf]; omega
            | false =>
              go_wp2_with fail
              refine wp_region_noPanic ?_
              refine wp_region_held_drew (S := (fun w' => (w'.cell? ⟨q, f * 2 + t * 2, none⟩ = some (.string ⟨m2.p.toArray⟩) ∧ w'.cell? ⟨q, f * 2 + t * 2 + 1, none⟩ = some (.int .u64 (m2.n : Int))) ∧ w'.cell? ⟨q, f * 2 + u * 2, none⟩ = some (.string ⟨k2.p.toArray⟩) ∧ w'.cell? ⟨q, f * 2 + u * 2 + 1, none⟩ = some (.int .u64 (k2.n : Int)))) (by kernel_rfl) (⟨⟨c1, c2⟩, c3, c4⟩) (fun hHeld => ?_)
              refine tk 0 ?_
              try simp only [Act.put, List.setIfInBounds_toArray, List.set_cons_zero, List.set_cons_succ]
              refine tk 1 ?_
              try simp only [Act.put, List.setIfInBounds_toArray, List.set_cons_zero, List.set_cons_succ]
              refine tk 2 ?_
              try simp only [Act.put, List.setIfInBounds_toArray, List.set_cons_zero, List.set_cons_succ]
              refine tk 3 ?_
              try simp only [Act.put, List.setIfInBounds_toArray, List.set_cons_zero, List.set_cons_succ]
              refine tk 4 ?_
              try simp only [Act.put, List.setIfInBounds_toArray, List.set_cons_zero, List.set_cons_succ]
              refine tk 5 ?_
              try simp only [Act.put, List.setIfInBounds_toArray, List.set_cons_zero, List.set_cons_succ]
              refine tk 6 ?_
              try simp only [Act.put, List.setIfInBounds_toArray, List.set_cons_zero, List.set_cons_succ]
              refine tk 7 ?_
              try simp only [Act.put, List.setIfInBounds_toArray, List.set_cons_zero, List.set_cons_succ]
              refine tk 8 ?_
              try simp only [Act.put, List.setIfInBounds_toArray, List.set_cons_zero, List.set_cons_succ]
              refine tk 9 ?_
              try simp only [Act.put, List.setIfInBounds_toArray, List.set_cons_zero, List.set_cons_succ]
              refine wpAnyH_ready (rs := [10]) (by kernel_rfl) (by simp) ?_
              refine AllReadyH.cons (by simp only [List.getElem?_toArray, List.getElem?_cons_succ, List.getElem?_cons_zero]; rfl) (fun K hK => ?_) AllReadyH.nil
              go_simp
              skip
              refine (CALL.out _ (by first | exact hb2 | exact Below.drew hb2)).mono ?_
              rintro e v4 ⟨rfl, k4⟩
              have h4 := bstepB hB (by first | exact hb2 | exact Below.drew hb2) k4
              have HWN := Lib.hid (World.ownsRow.kept (World.ownsRow.kept HV.out (grown_of (Below.drew (Below.refl _ _))) (Classical.em _)) (grown_of k4) (Classical.em _))
              go_wp2_with fail
              refine hK.out _ _ (⟨⟨keepC hHeld.1.1 k4, keepC hHeld.1.2 k4⟩, keepC hHeld.2.1 k4, keepC hHeld.2.2 k4⟩) (fun hHeld => ?_)
              clear hK K
              try simp only [Act.put, List.setIfInBounds_toArray, List.set_cons_zero, List.set_cons_succ]
              refine tk 11 ?_
              try simp only [Act.put, List.setIfInBounds_toArray, List.set_cons_zero, List.set_cons_succ]
              refine wpAnyH_done (by kernel_rfl) ?_ _
              refine NoPanic.normal ?_
              obtain ⟨⟨c1, c2⟩, c3, c4⟩ := hHeld
              obtain ⟨f1, f2⟩ := own_isSome HWN.out (i * 2) (by omega)
              obtain ⟨f3, f4⟩ := own_isSome HWN.out (i * 2 + 1) (by omega)
              obtain ⟨x1, e1⟩ := Option.isSome_iff_exists.1 f1
              obtain ⟨x2, e2⟩ := Option.isSome_iff_exists.1 f3
              clear f1 f3 c3 c4
              go_wp2
              go_roundw
              case rel =>
                obtain ⟨o1, g1⟩ := own_set m2 HWN.out (by have := HC.out.len; have := HN.out; omega) (show i < n by omega)
                exact ⟨i + 1, t + 1, t, K.set i m2, Lib.hid rfl, by omega, by omega, by omega, by go_num, by go_num, Lib.hid (HC.out.keep' (e := f + t) (j := f + u) (by have := HTU.out; omega) hel hul m2 k2 HM.out.symm HK.out.symm HR.out.symm), Lib.hid o1, Below.grown h4 g1 (Nat.le_trans hB h4.size) (fun k hk => by cases hk; exact hBq)⟩
              case measure => simp [intOf]; omega
          · have d5 : decide ((t : Int) < (n2 : Int)) = false := decide_eq_false (by omega)
            obtain ⟨vs, hclr⟩ := run_clear HV.out (i := i) (m := n - i) (c := c - i) (by omega) rfl 0
            obtain ⟨ys, o2, hys, g2⟩ := own_cells vs (i * 2) wr _ HV.out
            have o3 := own_cut o2 (i := i) (by omega)
            have hfin := HC.out.fin (by omega)
            rw [hys, hfin.1] at o3
            have ho : Own (wr.setCells q (i * 2) vs) B (.slice (some ⟨q, 0, none⟩) i c) (dedup p L) := by
              unfold Own; rw [← hfin.2]; exact o3
            have hb3 : Below B w (wr.setCells q (i * 2) vs) := Below.grown hb2 g2 hbs2 (fun k hk => by cases hk; exact hBq)
            have hic : i < c := by omega
            have hin : i < n := by omega
            have HOO := Lib.hid ho
            clear hfin o2 hys g2 o3 ho hln
            go_wp2
            go_ret
            exact ⟨_, rfl, HOO.out, hb3⟩
    · obtain rfl : f = n := by omega
      have hv : dedup p L = L := by have h := HI.out; rwa [List.take_of_length_le (by omega)] at h
      have HVV := Lib.hid hv
      have d1 : decide ((f : Int) < (f : Int)) = false := decide_eq_false (by omega)
      have HOW : Hid (Own wr B (.slice (some ⟨q, 0, none⟩) f c) L) := Lib.hid (by unfold Own; rw [← hln]; exact HW.out)
      clear hln hv
      go_wp2
      go_ret
      exact ⟨_, rfl, by rw [HVV.out]; exact HOW.out, hb⟩

end Mark
end Go.Proofs.YtnpjkmomllkhpaaGreat

namespace Go.Proofs.YtnpjkmomllkhpaaGreat
namespace Mark
open Go.RowKit

theorem Lies.at {w : World} {b off n : Nat} {L : List M} (h : Lies w (some ⟨b, off, none⟩) n L) : ∀ j u, (flat L)[j]? = some u → w.cell? ((⟨b, off, none⟩ : Addr).add j) = some u := by
  intro j u hu
  have hj : j < L.length * 2 := by rw [← flat_length]; exact (List.getElem?_eq_some_iff.1 hu).1
  obtain ⟨b', off', e, hc⟩ := h.2 (by rw [h.1]; omega)
  simp only [Option.some.injEq, Addr.mk.injEq, and_true] at e
  obtain ⟨rfl, rfl⟩ := e
  rw [Go.WideShapes.add_plain]
  have hg := flat_get L (j / 2) (by omega)
  obtain ⟨c1, c2⟩ := hc (j / 2) (by omega)
  have h2 : j % 2 = 0 ∨ j % 2 = 1 := by omega
  rcases h2 with h2 | h2
  · rw [show j / 2 * 2 = j by omega, hu] at hg
    rw [show off + j / 2 * 2 = off + j by omega] at c1
    rw [c1, hg.1]
  · rw [show j / 2 * 2 + 1 = j by omega, hu] at hg
    rw [show off + j / 2 * 2 + 1 = off + j by omega] at c2
    rw [c2, hg.2]

set_option maxRecDepth 100000 in
set_option maxHeartbeats 1000000 in
theorem clone_any (L : List M) (a : Option Addr) (n c : Nat) (w : World) (hL : Lies w a n L) (hn : n ≤ 1099511627776) :
    Calls Tryz.prog 115 #[.slice a n c] w fun e w' => ∃ v', e = .returned v' ∧ Own w' w.heap.size v' L ∧ Below w.heap.size w w' := by
  obtain ⟨i0, hi, hz0, hz1, hz2⟩ := info_parts info_mark
  have h0 := Below.refl w.heap.size w
  cases a with
  | none =>
    have heq : ∀ w, (binOp .eql 22 (.slice none n c) (.slice none 0 0)).run Tryz.prog w = .ok (.bool true) w := fun w => Lib.run_eql_slice_nil (P := Tryz.prog) w 22 54 none n c 0 0 Tryz.underlying22
    have hn0 : n = 0 := by
      rcases Nat.eq_zero_or_pos n with h | h
      · exact h
      · obtain ⟨_, _, e, _⟩ := hL.2 h; cases e
    have hl0 : L = [] := List.length_eq_zero_iff.1 (by rw [← hL.1]; exact hn0)
    subst hl0
    subst hn0
    clear hL
    go_enter Tryz.func115, Tryz.ntmps115
    go_wp2
    go_ret
    exact ⟨_, rfl, Own.nil _ _, h0⟩
  | some q =>
    have heq : ∀ w, (binOp .eql 22 (.slice (some q) n c) (.slice none 0 0)).run Tryz.prog w = .ok (.bool false) w := fun w => Lib.run_eql_slice_nil (P := Tryz.prog) w 22 54 (some q) n c 0 0 Tryz.underlying22
    have hnl := hL.1
    have hown : ∀ o, o = Obj.cells #[] 54 → (w.alloc o).ownsRow w.heap.size 54 2 (.slice (some ⟨w.heap.size, 0, none⟩) 0 0) 0 [] := fun o ho => by
      rw [ho]; exact World.ownsRow_lit w #[] 0 (Nat.le_refl _) (by decide) rfl
    have hnews : ∀ o j u, (flat L)[j]? = some u → (w.alloc o).cell? (q.add j) = some u := fun o j u hu => by
      have hj : j < L.length * 2 := by rw [← flat_length]; exact (List.getElem?_eq_some_iff.1 hu).1
      obtain ⟨b, off, e, _⟩ := hL.2 (by omega)
      obtain rfl : q = ⟨b, off, none⟩ := Option.some.inj e
      exact Lib.cell?_alloc_some o (hL.at j u hu)
    have HN := Lib.hid hnews
    have HO := Lib.hid hown
    have HNL := Lib.hid hnl
    have hfl := flat_length L
    rw [← hnl] at hfl
    have HF := Lib.hid hfl
    clear hL hnl hnews hown hfl
    go_enter Tryz.func115, Tryz.ntmps115
    go_wp2_with (at_builtin; refine wpList_append_own _ rfl _ _ 22 rfl w.heap.size 54 i0 (.agg #[.string ⟨#[]⟩, .int .u64 0]) 2 24 Tryz.underlying22 hi hz0 hz1 hz2 rfl (by decide) _ _ _ rfl (HO.out _ rfl) q n c (flat L) rfl HF.out (HN.out _) (flat_one L) (by unfold maxLen; omega) (by omega) (by simp) ?_; intro v' w1 hown' hgrow _)
    go_ret
    refine ⟨_, rfl, ?_, Below.grown (balloc h0 _) hgrow (by simp) (fun k hk => by cases hk; exact Nat.le_refl _)⟩
    rw [Nat.zero_add, List.nil_append, HNL.out] at hown'
    exact hown'

end Mark
namespace Dots
open Go.RowKit Go.Proofs.YtnpjkmomllkhpaaGreat.Mark

def nought (m : M) : Bool := decide (m.p = [] ∨ m.n = 0)
def alike (a b : M) : Bool := decide (a.p = b.p)
def byQ (q : List UInt8) (m : M) : Bool := decide (m.p = q)
def cmpI (x y : Nat) : Int := if x < y then -1 else if y < x then 1 else 0
/-- The order in which tidy lays marks: by paths, greater numbers first. -/
def cf (a b : M) : Int := if Lib.compareBytes a.p b.p ≠ 0 then Lib.compareBytes a.p b.p else cmpI b.n a.n

set_option maxRecDepth 100000 in
theorem nought_pred (B : Nat) (w : World) : Pred 116 #[] nought B w := by
  intro W m _
  obtain ⟨p, n⟩ := m
  have h0 := Below.refl W.heap.size W
  rw [get_agg]
  simp only
  by_cases h1 : p = []
  · have HV := Lib.hid (show nought ⟨p, n⟩ = true by unfold nought; simp [h1])
    subst h1
    go_enter Tryz.func116, Tryz.ntmps116
    go_wp2
    go_ret
    exact ⟨by rw [HV.out]; rfl, balloc h0 _⟩
  have y1 : p.isEmpty = false := by cases p with | nil => exact absurd rfl h1 | cons _ _ => rfl
  have y1' : (!p.isEmpty) = true := by rw [y1]; rfl
  by_cases h2 : n = 0
  · have HV := Lib.hid (show nought ⟨p, n⟩ = true by unfold nought; simp [h2])
    have z : ((n : Int) == 0) = true := by rw [beq_iff_eq]; omega
    clear h1 h2
    go_enter Tryz.func116, Tryz.ntmps116
    go_wp2
    go_ret
    exact ⟨by rw [HV.out]; rfl, balloc h0 _⟩
  · have HV := Lib.hid (show nought ⟨p, n⟩ = false by unfold nought; simp [h1, h2])
    have z : ((n : Int) == 0) = false := by rw [beq_eq_false_iff_ne]; omega
    clear h1 h2
    go_enter Tryz.func116, Tryz.ntmps116
    go_wp2
    go_ret
    exact ⟨by rw [HV.out]; rfl, balloc h0 _⟩

set_option maxRecDepth 100000 in
theorem alike_pred (B : Nat) (w : World) : Pred2 120 #[] alike B w := by
  intro W m k _
  obtain ⟨p, n⟩ := m
  obtain ⟨q, x⟩ := k
  have h0 := Below.refl W.heap.size W
  rw [get_agg, get_agg]
  simp only
  by_cases h1 : p = q
  · have HV := Lib.hid (show alike ⟨p, n⟩ ⟨q, x⟩ = true by unfold alike; simp [h1])
    subst h1
    go_enter Tryz.func120, Tryz.ntmps120
    go_wp2
    go_ret
    exact ⟨by rw [HV.out]; rfl, balloc (balloc h0 _) _⟩
  · have HV := Lib.hid (show alike ⟨p, n⟩ ⟨q, x⟩ = false by unfold alike; simp [h1])
    have y : (p == q) = false := by rw [beq_eq_false_iff_ne]; exact h1
    clear h1
    go_enter Tryz.func120, Tryz.ntmps120
    go_wp2
    go_ret
    exact ⟨by rw [HV.out]; rfl, balloc (balloc h0 _) _⟩

theorem nan_any (x : Nat) (w : World) : Calls Tryz.prog 110 #[.int .u64 (x : Nat)] w fun e w' => e = .returned (.bool false) ∧ w = w' := by
  have y : ((x : Int) != (x : Int)) = false := by simp
  go_enter Tryz.func110, Tryz.ntmps110
  go_wp2
  go_ret
  exact ⟨rfl, rfl⟩
set_option maxRecDepth 100000 in
theorem cmpU_any (x y : Nat) (w : World) : Calls Tryz.prog 100 #[.int .u64 (x : Nat), .int .u64 (y : Nat)] w fun e w' => e = .returned (.int .i64 (cmpI x y)) ∧ w = w' := by
  have N := Lib.hid nan_any
  by_cases h1 : x < y
  · have HV := Lib.hid (show cmpI x y = -1 by rw [cmpI, if_pos h1])
    go_enter Tryz.func100, Tryz.ntmps100
    go_wp2_with (go_at_call 110; refine (N.out _ _).mono ?_; rintro e w' ⟨rfl, rfl⟩)
    go_ret
    exact ⟨by rw [HV.out]; rfl, rfl⟩
  by_cases h2 : y < x
  · have HV := Lib.hid (show cmpI x y = 1 by rw [cmpI, if_neg h1, if_pos h2])
    go_enter Tryz.func100, Tryz.ntmps100
    go_wp2_with (go_at_call 110; refine (N.out _ _).mono ?_; rintro e w' ⟨rfl, rfl⟩)
    go_ret
    exact ⟨by rw [HV.out]; rfl, rfl⟩
  · have HV := Lib.hid (show cmpI x y = 0 by rw [cmpI, if_neg h1, if_neg h2])
    go_enter Tryz.func100, Tryz.ntmps100
    go_wp2_with (go_at_call 110; refine (N.out _ _).mono ?_; rintro e w' ⟨rfl, rfl⟩)
    go_ret
    exact ⟨by rw [HV.out]; rfl, rfl⟩
def orV (x y : Int) : Int := if x ≠ 0 then x else y
set_option maxRecDepth 100000 in
theorem or_any (x y : Int) (b : Nat) (w : World) (c0 : w.cell? ⟨b, 0, none⟩ = some (.int .i64 x)) (c1 : w.cell? ⟨b, 1, none⟩ = some (.int .i64 y)) : Calls Tryz.prog 98 #[.slice (some ⟨b, 0, none⟩) 2 2] w fun e w' => e = .returned (.int .i64 (orV x y)) ∧ w = w' := by
  by_cases h1 : x = 0
  · have z1 : (x != 0) = false := by rw [bne_eq_false_iff_eq]; exact h1
    have z1' : (x == 0) = true := by rw [beq_iff_eq]; exact h1
    have HV := Lib.hid (show orV x y = y by rw [orV, if_neg (by simpa using h1)])
    by_cases h2 : y = 0
    · have z2 : (y != 0) = false := by rw [bne_eq_false_iff_eq]; exact h2
      have z2' : (y == 0) = true := by rw [beq_iff_eq]; exact h2
      have HY := Lib.hid h2
      clear h1 h2
      go_enter Tryz.func98, Tryz.ntmps98
      go_wp2_with fail
      go_loop [5, 8] (fun _ iv => ∃ k : Nat, k ≤ 2 ∧ iv = .int .i64 k) (fun _ iv => 2 - (intOf iv).toNat)
      case atStart => exact ⟨0, by omega, rfl⟩
      case round =>
        obtain ⟨k, hk, rfl⟩ := hrel
        have : k = 0 ∨ k = 1 ∨ k = 2 := by omega
        rcases this with rfl | rfl | rfl
        · go_wp2
          go_round
          case rel => exact ⟨1, by omega, rfl⟩
          case measure => simp [intOf]
        · go_wp2
          go_round
          case rel => exact ⟨2, by omega, rfl⟩
          case measure => simp [intOf]
        · go_wp2
          go_ret
          exact ⟨by rw [HV.out, HY.out]; rfl, rfl⟩
    · have z2 : (y != 0) = true := by rw [bne_iff_ne]; exact h2
      have z2' : (y == 0) = false := by rw [beq_eq_false_iff_ne]; exact h2
      clear h1 h2
      go_enter Tryz.func98, Tryz.ntmps98
      go_wp2_with fail
      go_loop [5, 8] (fun _ iv => ∃ k : Nat, k ≤ 1 ∧ iv = .int .i64 k) (fun _ iv => 2 - (intOf iv).toNat)
      case atStart => exact ⟨0, by omega, rfl⟩
      case round =>
        obtain ⟨k, hk, rfl⟩ := hrel
        have : k = 0 ∨ k = 1 := by omega
        rcases this with rfl | rfl
        · go_wp2
          go_round
          case rel => exact ⟨1, by omega, rfl⟩
          case measure => simp [intOf]
        · go_wp2
          go_ret
          exact ⟨by rw [HV.out]; rfl, rfl⟩
  · have z1 : (x != 0) = true := by rw [bne_iff_ne]; exact h1
    have z1' : (x == 0) = false := by rw [beq_eq_false_iff_ne]; exact h1
    have HV := Lib.hid (show orV x y = x by rw [orV, if_pos h1])
    clear h1
    go_enter Tryz.func98, Tryz.ntmps98
    go_wp2_with fail
    go_loop [5, 8] (fun _ iv => iv = .int .i64 0) (fun _ iv => 2 - (intOf iv).toNat)
    case atStart => exact rfl
    case round =>
      obtain rfl := hrel
      go_wp2
      go_ret
      exact ⟨by rw [HV.out]; rfl, rfl⟩

theorem new_cell (W : World) (C : Array Value) (T : TypeId) (i b : Nat) (hb : b = W.heap.size) : (W.alloc (.cells C T)).drew.cell? ⟨b, i, none⟩ = C[i]? := by
  subst hb
  exact World.cell?_alloc_new ..

set_option maxRecDepth 100000 in
set_option maxHeartbeats 2000000 in
theorem cf_any (a b : M) (w : World) : Calls Tryz.prog 118 #[.agg (a.cells).toArray, .agg (b.cells).toArray] w fun e w' => e = .returned (.int .i64 (cf a b)) ∧ ∃ q os', w' = Sort.grow (w.drewN q) os' := by
  obtain ⟨p, n⟩ := a
  obtain ⟨q, x⟩ := b
  have S := Lib.hid (fun w => Tryz.strings_Compare ⟨p.toArray⟩ ⟨q.toArray⟩ w)
  have C := Lib.hid (fun w => cmpU_any x n w)
  have HV : Hid (cf ⟨p, n⟩ ⟨q, x⟩ = orV (Lib.compareBytes p q) (cmpI x n)) := Lib.hid rfl
  have c0 : ∀ T, ((w.alloc (.cells #[.string ⟨p.toArray⟩, .int .u64 (n : Int)] T)).alloc (.cells #[.string ⟨q.toArray⟩, .int .u64 (x : Int)] T)).cell? ⟨w.heap.size, 0, none⟩ = some (.string ⟨p.toArray⟩) := fun T => Lib.cell?_alloc_some _ (by rw [World.cell?_alloc_new]; rfl)
  have c1 : ∀ T, ((w.alloc (.cells #[.string ⟨p.toArray⟩, .int .u64 (n : Int)] T)).alloc (.cells #[.string ⟨q.toArray⟩, .int .u64 (x : Int)] T)).cell? ⟨w.heap.size, 1, none⟩ = some (.int .u64 (n : Int)) := fun T => Lib.cell?_alloc_some _ (by rw [World.cell?_alloc_new]; rfl)
  have c2 : ∀ T, ((w.alloc (.cells #[.string ⟨p.toArray⟩, .int .u64 (n : Int)] T)).alloc (.cells #[.string ⟨q.toArray⟩, .int .u64 (x : Int)] T)).cell? ⟨w.heap.size + 1, 0, none⟩ = some (.string ⟨q.toArray⟩) := fun T => by
    simp
  have c3 : ∀ T, ((w.alloc (.cells #[.string ⟨p.toArray⟩, .int .u64 (n : Int)] T)).alloc (.cells #[.string ⟨q.toArray⟩, .int .u64 (x : Int)] T)).cell? ⟨w.heap.size + 1, 1, none⟩ = some (.int .u64 (x : Int)) := fun T => by
    simp
  have HC := Lib.hid (And.intro c0 (And.intro c1 (And.intro c2 c3)))
  clear c0 c1 c2 c3
  obtain ⟨v, hv⟩ : ∃ u, u = cmpI x n := ⟨_, rfl⟩
  rw [← hv] at C HV
  clear hv
  have OR := Lib.hid (or_any (Lib.compareBytes p q) v)
  unfold M.cells
  simp only
  go_enter Tryz.func118, Tryz.ntmps118
  go_wp2_with fail
  obtain ⟨c0, c1, c2, c3⟩ := HC.out
  have c0 := c0 54
  have c1 := c1 54
  have c2 := c2 54
  have c3 := c3 54
  refine wp_region_noPanic ?_
  refine wp_region_held_drew (S := (fun w' => (w'.cell? ⟨w.heap.size, 0, none⟩ = some (.string ⟨p.toArray⟩) ∧ w'.cell? ⟨w.heap.size, 1, none⟩ = some (.int .u64 (n : Int))) ∧ w'.cell? ⟨w.heap.size + 1, 0, none⟩ = some (.string ⟨q.toArray⟩) ∧ w'.cell? ⟨w.heap.size + 1, 1, none⟩ = some (.int .u64 (x : Int)))) (by kernel_rfl) (⟨⟨c0, c1⟩, c2, c3⟩) (fun hHeld => ?_)
  refine tk 0 ?_
  try simp only [Act.put, List.setIfInBounds_toArray, List.set_cons_zero, List.set_cons_succ]
  refine tk 1 ?_
  try simp only [Act.put, List.setIfInBounds_toArray, List.set_cons_zero, List.set_cons_succ]
  refine tk 2 ?_
  try simp only [Act.put, List.setIfInBounds_toArray, List.set_cons_zero, List.set_cons_succ]
  refine tk 3 ?_
  try simp only [Act.put, List.setIfInBounds_toArray, List.set_cons_zero, List.set_cons_succ]
  refine tk 5 ?_
  try simp only [Act.put, List.setIfInBounds_toArray, List.set_cons_zero, List.set_cons_succ]
  refine tk 6 ?_
  try simp only [Act.put, List.setIfInBounds_toArray, List.set_cons_zero, List.set_cons_succ]
  refine tk 7 ?_
  try simp only [Act.put, List.setIfInBounds_toArray, List.set_cons_zero, List.set_cons_succ]
  refine tk 8 ?_
  try simp only [Act.put, List.setIfInBounds_toArray, List.set_cons_zero, List.set_cons_succ]
  refine wpAnyH_ready (rs := [4]) (by kernel_rfl) (by simp) ?_
  refine AllReadyH.cons (by simp only [List.getElem?_toArray, List.getElem?_cons_succ, List.getElem?_cons_zero]; rfl) (fun K hK => ?_) AllReadyH.nil
  go_simp
  go_at_call 99
  refine (S.out _).mono ?_
  rintro e w' ⟨rfl, rfl⟩
  go_wp2_with fail
  refine hK.out _ _ (hHeld) (fun hHeld => ?_)
  clear hK K
  try simp only [Act.put, List.setIfInBounds_toArray, List.set_cons_zero, List.set_cons_succ]
  refine wpAnyH_ready (rs := [9]) (by kernel_rfl) (by simp) ?_
  refine AllReadyH.cons (by simp only [List.getElem?_toArray, List.getElem?_cons_succ, List.getElem?_cons_zero]; rfl) (fun K hK => ?_) AllReadyH.nil
  go_simp
  go_at_call 100
  refine (C.out _).mono ?_
  rintro e w' ⟨rfl, rfl⟩
  go_wp2_with fail
  refine hK.out _ _ (hHeld) (fun hHeld => ?_)
  clear hK K
  try simp only [Act.put, List.setIfInBounds_toArray, List.set_cons_zero, List.set_cons_succ]
  refine wpAnyH_ready (rs := [10]) (by kernel_rfl) (by simp) ?_
  refine AllReadyH.cons (by simp only [List.getElem?_toArray, List.getElem?_cons_succ, List.getElem?_cons_zero]; rfl) (fun K hK => ?_) AllReadyH.nil
  go_simp
  refine hK.out _ _ (⟨⟨Lib.cell?_alloc_some _ hHeld.1.1, Lib.cell?_alloc_some _ hHeld.1.2⟩, Lib.cell?_alloc_some _ hHeld.2.1, Lib.cell?_alloc_some _ hHeld.2.2⟩) (fun hHeld => ?_)
  clear hK K
  try simp only [Act.put, List.setIfInBounds_toArray, List.set_cons_zero, List.set_cons_succ]
  refine wpAnyH_ready (rs := [11]) (by kernel_rfl) (by simp) ?_
  refine AllReadyH.cons (by simp only [List.getElem?_toArray, List.getElem?_cons_succ, List.getElem?_cons_zero]; rfl) (fun K hK => ?_) AllReadyH.nil
  go_simp
  go_at_call 98
  refine (OR.out _ _ (new_cell _ _ _ 0 _ (by simp)) (new_cell _ _ _ 1 _ (by simp))).mono ?_
  rintro e w' ⟨rfl, rfl⟩
  go_wp2_with fail
  refine hK.out _ _ (hHeld) (fun hHeld => ?_)
  clear hK K
  try simp only [Act.put, List.setIfInBounds_toArray, List.set_cons_zero, List.set_cons_succ]
  refine tk 12 ?_
  try simp only [Act.put, List.setIfInBounds_toArray, List.set_cons_zero, List.set_cons_succ]
  refine wpAnyH_done (by kernel_rfl) ?_ _
  refine NoPanic.normal ?_
  go_wp2
  go_ret
  exact ⟨by rw [HV.out]; rfl, 1, _, by rw [Sort.alloc_eq_grow, Sort.alloc_eq_grow, Sort.alloc_eq_grow, Sort.grow_grow, Sort.grow_grow]; rfl⟩

end Dots
end Go.Proofs.YtnpjkmomllkhpaaGreat

namespace Go.Proofs.YtnpjkmomllkhpaaGreat
namespace Dots
open Go.RowKit Go.Proofs.YtnpjkmomllkhpaaGreat.Mark

def Less (a b : M) : Prop := Lib.compareBytes a.p b.p < 0
/-- A vector. -/
def Vec (R : List M) : Prop := R.Pairwise Less ∧ ∀ m ∈ R, m.p ≠ [] ∧ 1 ≤ m.n
theorem less_irrefl (a : M) : ¬ Less a a := by unfold Less; rw [Order.cmp_self]; decide
theorem less_trans {a b c : M} (h : Less a b) (k : Less b c) : Less a c := by
  unfold Less at *
  have h1 := Order.cmp_trans a.p b.p c.p (by omega) (by omega)
  rcases Order.cmp_ways a.p c.p with h2 | h2 | h2
  · omega
  · have e := Order.cmp_zero _ _ h2
    rw [e, Order.cmp_flip] at h
    omega
  · omega

theorem fold_ge (f : M → Bool) : ∀ (L : List M) (a : Nat), a ≤ L.foldl (fun n m => if f m then max n m.n else n) a
  | [], a => Nat.le_refl _
  | m :: L, a => by
    rw [List.foldl_cons]
    refine Nat.le_trans ?_ (fold_ge f L _)
    split
    · exact Nat.le_max_left _ _
    · exact Nat.le_refl _
theorem fold_mem (f : M → Bool) : ∀ (L : List M) (a : Nat) (m : M), m ∈ L → f m = true → m.n ≤ L.foldl (fun n m => if f m then max n m.n else n) a
  | [], a, m, h, _ => by cases h
  | x :: L, a, m, h, hf => by
    rw [List.foldl_cons]
    rcases List.mem_cons.1 h with rfl | h
    · refine Nat.le_trans ?_ (fold_ge f L _)
      rw [if_pos hf]; exact Nat.le_max_right _ _
    · exact fold_mem f L _ m h hf
theorem fold_ex (f : M → Bool) : ∀ (L : List M) (a : Nat), L.foldl (fun n m => if f m then max n m.n else n) a = a ∨ ∃ m ∈ L, f m = true ∧ m.n = L.foldl (fun n m => if f m then max n m.n else n) a
  | [], a => .inl rfl
  | x :: L, a => by
    rw [List.foldl_cons]
    rcases fold_ex f L (if f x then max a x.n else a) with h | ⟨m, hm, h1, h2⟩
    · rw [h]
      split
      · rename_i hf
        rcases Nat.le_total a x.n with h' | h'
        · exact .inr ⟨x, List.mem_cons_self .., hf, (Nat.max_eq_right h').symm⟩
        · exact .inl (Nat.max_eq_left h')
      · exact .inl rfl
    · exact .inr ⟨m, List.mem_cons_of_mem _ hm, h1, h2⟩
theorem isQ_iff (q : List UInt8) (m : M) : isQ q m = true ↔ m.p = q ∧ q ≠ [] := by unfold isQ; rw [decide_eq_true_eq]
/-- Of is the greatest number of that path's marks. -/
theorem ofL_le (L : List M) (m : M) (h : m ∈ L) (hp : m.p ≠ []) : m.n ≤ ofL L m.p := fold_mem _ L 0 m h ((isQ_iff _ _).2 ⟨rfl, hp⟩)
theorem ofL_ex (L : List M) (q : List UInt8) : ofL L q = 0 ∨ ∃ m ∈ L, m.p = q ∧ q ≠ [] ∧ m.n = ofL L q := by
  rcases fold_ex (isQ q) L 0 with h | ⟨m, hm, h1, h2⟩
  · exact .inl h
  · obtain ⟨e1, e2⟩ := (isQ_iff _ _).1 h1
    exact .inr ⟨m, hm, e1, e2, h2⟩
theorem ofL_empty (L : List M) : ofL L [] = 0 := by
  rcases ofL_ex L [] with h | ⟨m, _, _, h, _⟩
  · exact h
  · exact absurd rfl h
/-- Whatever is at least each of these numbers is at least Of; and Of is at most what one of them is. -/
theorem ofL_eq {L K : List M} (h1 : ∀ m ∈ L, m.p ≠ [] → 1 ≤ m.n → ∃ k ∈ K, k.p = m.p ∧ m.n ≤ k.n) (h2 : ∀ k ∈ K, k.p ≠ [] → 1 ≤ k.n → ∃ m ∈ L, m.p = k.p ∧ k.n ≤ m.n) (q : List UInt8) : ofL L q = ofL K q := by
  have key : ∀ {L K : List M}, (∀ m ∈ L, m.p ≠ [] → 1 ≤ m.n → ∃ k ∈ K, k.p = m.p ∧ m.n ≤ k.n) → ofL L q ≤ ofL K q := by
    intro L K h
    rcases ofL_ex L q with e | ⟨m, hm, rfl, hp, he⟩
    · omega
    · rcases Nat.eq_zero_or_pos m.n with h0 | h0
      · omega
      · obtain ⟨k, hk, ek, hle⟩ := h m hm hp h0
        have := ofL_le K k hk (by rw [ek]; exact hp)
        rw [ek] at this
        omega
  exact Nat.le_antisymm (key h1) (key h2)
theorem vec_of {R : List M} (h : Vec R) {m : M} (hm : m ∈ R) : ofL R m.p = m.n := by
  obtain ⟨hp, hn⟩ := h.2 m hm
  rcases ofL_ex R m.p with e | ⟨k, hk, e1, _, e2⟩
  · have := ofL_le R m hm hp; omega
  · have : k = m := by
      obtain ⟨i, hi, rfl⟩ := List.mem_iff_getElem.1 hk
      obtain ⟨j, hj, rfl⟩ := List.mem_iff_getElem.1 hm
      have hs := List.pairwise_iff_getElem.1 h.1
      rcases Nat.lt_trichotomy i j with h' | h' | h'
      · have := hs i j hi hj h'
        unfold Less at this; rw [e1, Order.cmp_self] at this; omega
      · subst h'; rfl
      · have := hs j i hj hi h'
        unfold Less at this; rw [e1, Order.cmp_self] at this; omega
    rw [this] at e2; exact e2.symm
theorem sorted_ext : ∀ (R S : List M), R.Pairwise Less → S.Pairwise Less → (∀ m, m ∈ R ↔ m ∈ S) → R = S
  | [], [], _, _, _ => rfl
  | [], b :: S, _, _, h => by have := (h b).2 (List.mem_cons_self ..); cases this
  | a :: R, [], _, _, h => by have := (h a).1 (List.mem_cons_self ..); cases this
  | a :: R, b :: S, hR, hS, h => by
    rw [List.pairwise_cons] at hR hS
    have hab : a = b := by
      rcases List.mem_cons.1 ((h a).1 (List.mem_cons_self ..)) with e | e
      · exact e
      · rcases List.mem_cons.1 ((h b).2 (List.mem_cons_self ..)) with e' | e'
        · exact e'.symm
        · exact absurd (less_trans (hS.1 a e) (hR.1 b e')) (less_irrefl b)
    subst hab
    rw [sorted_ext R S hR.2 hS.2 (fun m => ?_)]
    constructor
    · intro hm
      rcases List.mem_cons.1 ((h m).1 (List.mem_cons_of_mem _ hm)) with e | e
      · subst e; exact absurd (hR.1 m hm) (less_irrefl m)
      · exact e
    · intro hm
      rcases List.mem_cons.1 ((h m).2 (List.mem_cons_of_mem _ hm)) with e | e
      · subst e; exact absurd (hS.1 m hm) (less_irrefl m)
      · exact e
/-- Two vectors that have the same of each path are the same. -/
theorem vec_ext {R S : List M} (hR : Vec R) (hS : Vec S) (h : ∀ q, ofL R q = ofL S q) : R = S := by
  have key : ∀ {R S : List M}, Vec R → Vec S → (∀ q, ofL R q = ofL S q) → ∀ m ∈ R, m ∈ S := by
    intro R S hR hS h m hm
    have e := h m.p
    rw [vec_of hR hm] at e
    obtain ⟨hp, hn⟩ := hR.2 m hm
    rcases ofL_ex S m.p with e0 | ⟨k, hk, e1, _, e2⟩
    · omega
    · have : k = m := M.ext' e1 (by omega)
      rw [← this]; exact hk
  exact sorted_ext R S hR.1 hS.1 fun m => ⟨key hR hS h m, key hS hR (fun q => (h q).symm) m⟩

/-- What tidy leaves behind the sort: rising, of each path the greatest first. -/
def Le (a b : M) : Prop := Lib.compareBytes a.p b.p < 0 ∨ (a.p = b.p ∧ b.n ≤ a.n)
theorem le_trans {a b c : M} (h : Le a b) (k : Le b c) : Le a c := by
  rcases h with h | ⟨h, h'⟩
  · rcases k with k | ⟨k, k'⟩
    · exact .inl (less_trans (a := a) (b := b) (c := c) h k)
    · rw [k] at h; exact .inl h
  · rcases k with k | ⟨k, k'⟩
    · rw [← h] at k; exact .inl k
    · exact .inr ⟨h.trans k, by omega⟩
theorem cf_le {a b : M} (h : ¬ cf b a < 0) : Le a b := by
  unfold cf at h
  rcases Order.cmp_ways b.p a.p with e | e | e
  · rw [if_pos (by omega)] at h; omega
  · have e2 := Order.cmp_zero _ _ e
    rw [if_neg (by omega)] at h
    refine .inr ⟨e2.symm, ?_⟩
    unfold cmpI at h
    split at h
    · omega
    · omega
  · refine .inl ?_
    rw [Order.cmp_flip]; omega
theorem dgo_law : ∀ (r : List M) (x : M), (x :: r).Pairwise Le → (∀ y ∈ dgo alike x r, y ∈ r ∧ Less x y) ∧ (dgo alike x r).Pairwise Less ∧ ∀ m ∈ r, (m.p = x.p ∧ m.n ≤ x.n) ∨ ∃ y ∈ dgo alike x r, y.p = m.p ∧ m.n ≤ y.n
  | [], x, _ => ⟨fun y h => (by cases h), List.Pairwise.nil, fun m h => (by cases h)⟩
  | y :: r, x, h => by
    rw [List.pairwise_cons] at h
    obtain ⟨i1, i2, i3⟩ := dgo_law r y h.2
    have hxy := h.1 y (List.mem_cons_self ..)
    rw [dgo]
    by_cases ha : alike y x = true
    · rw [if_pos ha]
      have e : y.p = x.p := by unfold alike at ha; simpa using ha
      refine ⟨fun z hz => ⟨List.mem_cons_of_mem _ (i1 z hz).1, ?_⟩, i2, fun m hm => ?_⟩
      · have := (i1 z hz).2; unfold Less at *; rw [← e]; exact this
      · have hyx : y.n ≤ x.n := by
          rcases hxy with h' | h'
          · rw [e, Order.cmp_self] at h'; omega
          · exact h'.2
        rcases List.mem_cons.1 hm with rfl | hm
        · exact .inl ⟨e, hyx⟩
        · rcases i3 m hm with ⟨e1, e2⟩ | h'
          · exact .inl ⟨e1.trans e, by omega⟩
          · exact .inr h'
    · rw [if_neg ha]
      have ne : y.p ≠ x.p := fun e => ha (by unfold alike; simpa using e)
      have hl : Less x y := by
        rcases hxy with h' | h'
        · exact h'
        · exact absurd h'.1.symm ne
      refine ⟨fun z hz => ?_, ?_, fun m hm => ?_⟩
      · rcases List.mem_cons.1 hz with rfl | hz
        · exact ⟨List.mem_cons_self .., hl⟩
        · exact ⟨List.mem_cons_of_mem _ (i1 z hz).1, less_trans hl (i1 z hz).2⟩
      · exact List.pairwise_cons.2 ⟨fun z hz => (i1 z hz).2, i2⟩
      · rcases List.mem_cons.1 hm with rfl | hm
        · exact .inr ⟨m, List.mem_cons_self .., rfl, Nat.le_refl _⟩
        · rcases i3 m hm with ⟨e1, e2⟩ | ⟨z, hz, e⟩
          · exact .inr ⟨y, List.mem_cons_self .., e1.symm, e2⟩
          · exact .inr ⟨z, List.mem_cons_of_mem _ hz, e⟩
theorem dedup_law (S : List M) (h : S.Pairwise Le) : (∀ y ∈ dedup alike S, y ∈ S) ∧ (dedup alike S).Pairwise Less ∧ ∀ m ∈ S, ∃ y ∈ dedup alike S, y.p = m.p ∧ m.n ≤ y.n := by
  cases S with
  | nil => exact ⟨fun y h => (by cases h), List.Pairwise.nil, fun m h => (by cases h)⟩
  | cons x r =>
    obtain ⟨i1, i2, i3⟩ := dgo_law r x h
    rw [dedup]
    refine ⟨fun y hy => ?_, List.pairwise_cons.2 ⟨fun z hz => (i1 z hz).2, i2⟩, fun m hm => ?_⟩
    · rcases List.mem_cons.1 hy with rfl | hy
      · exact List.mem_cons_self ..
      · exact List.mem_cons_of_mem _ (i1 y hy).1
    · rcases List.mem_cons.1 hm with rfl | hm
      · exact ⟨m, List.mem_cons_self .., rfl, Nat.le_refl _⟩
      · rcases i3 m hm with ⟨e1, e2⟩ | ⟨z, hz, e⟩
        · exact ⟨x, List.mem_cons_self .., e1.symm, e2⟩
        · exact ⟨z, List.mem_cons_of_mem _ hz, e⟩
theorem dgo_len : ∀ (r : List M) (x : M), (dgo alike x r).length ≤ r.length
  | [], _ => Nat.le_refl _
  | y :: r, x => by
    have := dgo_len r y
    rw [dgo]; split <;> simp only [List.length_cons] <;> omega
theorem dedup_len (S : List M) : (dedup alike S).length ≤ S.length := by
  cases S with
  | nil => exact Nat.le_refl _
  | cons x r => have := dgo_len r x; rw [dedup, List.length_cons, List.length_cons]; omega
/-- A list is the vector of what a function tells of each path. -/
def IsVec (R : List M) (f : List UInt8 → Nat) : Prop := Vec R ∧ ∀ q, ofL R q = f q
theorem IsVec.uniq {R S : List M} {f : List UInt8 → Nat} (h : IsVec R f) (k : IsVec S f) : R = S := vec_ext h.1 k.1 fun q => (h.2 q).trans (k.2 q).symm
theorem nought_iff (m : M) : nought m = false ↔ m.p ≠ [] ∧ 1 ≤ m.n := by
  unfold nought
  rw [decide_eq_false_iff_not]
  constructor
  · intro h; exact ⟨fun e => h (.inl e), by rcases Nat.eq_zero_or_pos m.n with e | e; exact absurd (.inr e) h; exact e⟩
  · rintro ⟨h1, h2⟩ (e | e)
    · exact h1 e
    · omega
/-- What tidy makes. -/
theorem tidy_vec {L S : List M} (hp : S.Perm (L.filter fun m => !nought m)) (hs : S.Pairwise Le) : IsVec (dedup alike S) (ofL L) := by
  obtain ⟨h1, h2, h3⟩ := dedup_law S hs
  have hmem : ∀ m, m ∈ S ↔ m ∈ L ∧ m.p ≠ [] ∧ 1 ≤ m.n := by
    intro m
    rw [hp.mem_iff, List.mem_filter]
    constructor
    · rintro ⟨a, b⟩; exact ⟨a, (nought_iff m).1 (by simpa using b)⟩
    · rintro ⟨a, b⟩; exact ⟨a, by rw [(nought_iff m).2 b]; rfl⟩
  refine ⟨⟨h2, fun m hm => ((hmem m).1 (h1 m hm)).2⟩, fun q => ofL_eq ?_ ?_ q⟩
  · intro m hm _ _
    exact ⟨m, ((hmem m).1 (h1 m hm)).1, rfl, Nat.le_refl _⟩
  · intro k hk hp1 hn
    exact h3 k ((hmem k).2 ⟨hk, hp1, hn⟩)

end Dots
end Go.Proofs.YtnpjkmomllkhpaaGreat
