
/- package slices at marks: Clone, IndexFunc, DeleteFunc, CompactFunc. -/
import Derived.Test.YtcbnkncgacbniaaMarkOwn
import Derived.WalkKit
import Derived.WalkSpells
import Derived.Deep.RegionHeld3
import Derived.Deep.DeepCutAuto
import Derived.Shelf.Abstract
namespace Go.Proofs.Ytcbnkncgacbniaa
namespace Mark
open Go.RowKit

theorem keepC {w w' : World} {b o : Nat} {v : Value} (h : w.cell? ⟨b, o, none⟩ = some v) (k : Below w.heap.size w w') : w'.cell? ⟨b, o, none⟩ = some v :=
  (k.cell (p := ⟨b, o, none⟩) (World.block_lt_of_cell? _ _ h)).trans h
theorem bstepB {B : Nat} {w a b : World} (hB : B ≤ w.heap.size) (h : Below B w a) (k : Below a.heap.size a b) : Below B w b := h.trans (k.mono (Nat.le_trans hB h.size))
/-- A predicate on marks that makes memory alone, in each world in which all below B stands. -/
def Pred (g : Nat) (lb : Array Value) (p : M → Bool) (B : Nat) (w : World) : Prop :=
  ∀ (W : World) (m : M), Below B w W → Calls Try.prog g (#[m.agg] ++ lb) W fun e w' => e = .returned (.bool (p m)) ∧ Below W.heap.size W w'
def Pred2 (g : Nat) (lb : Array Value) (p : M → M → Bool) (B : Nat) (w : World) : Prop :=
  ∀ (W : World) (m k : M), Below B w W → Calls Try.prog g (#[m.agg, k.agg] ++ lb) W fun e w' => e = .returned (.bool (p m k)) ∧ Below W.heap.size W w'
def idxL (p : M → Bool) (L : List M) : Int := match L.findIdx? p with | some i => (i : Int) | none => -1
def Enters (g : Nat) : Prop := ∀ args w, (callFunc g args).run Try.prog w = .ok (.enter g args) w

theorem get_agg (m : M) : m.agg = .agg #[.string ⟨m.p.toArray⟩, .int .u64 (m.n : Int)] := rfl

set_option maxRecDepth 100000 in
set_option maxHeartbeats 1000000 in
theorem index_any (g : Nat) (lb : Array Value) (p : M → Bool) (B : Nat) (eg : Enters g) (L : List M) (a : Option Addr) (n c : Nat) (w : World) (hB : B ≤ w.heap.size) (hp : Pred g lb p B w) (hL : Lies w a n L) (hn : n ≤ 1099511627776) :
    Calls Try.prog 62 #[.slice a n c, .func (.func g) #[] lb] w fun e w' => e = .returned (.int .i64 (idxL p L)) ∧ Below w.heap.size w w' := by
  have HL := Lib.hid hL
  have HP := Lib.hid hp
  have eg' : ∀ args w, (callFunc g args).run Try.prog w = .ok (.enter g args) w := eg
  clear hL hp eg
  go_enter Try.func62, Try.ntmps62
  go_wp2_with fail
  go_loopw [5, 8] (fun _ iv wr => ∃ k : Nat, k ≤ n ∧ iv = .int .i64 k ∧ Hid (∀ j (h : j < L.length), j < k → p L[j] = false) ∧ Below w.heap.size w wr) (fun _ iv _ => n - (intOf iv).toNat)
  case atStart => exact ⟨0, by omega, rfl, Lib.hid (fun j _ h => absurd h (by omega)), Below.refl _ _⟩
  case round =>
    obtain ⟨k, hk, rfl, HI, hb⟩ := hrel
    have hln := HL.out.1
    by_cases hlt : k < n
    · obtain ⟨b, off, rfl, hcell⟩ := (HL.out.below hb).2 (by omega)
      have hkl : k < L.length := by omega
      obtain ⟨c1, c2⟩ := hcell k hkl
      obtain ⟨m, hm⟩ : ∃ m, m = L[k]'hkl := ⟨_, rfl⟩
      rw [← hm] at c1 c2
      have hcall := HP.out wr m (hb.mono hB)
      rw [get_agg] at hcall
      have q1 := World.block_lt_of_cell? _ _ c2
      have HM := Lib.hid hm
      obtain ⟨r, hr⟩ : ∃ r, r = p m := ⟨_, rfl⟩
      rw [← hr] at hcall
      have HR := Lib.hid hr
      clear hm hcell hln hr
      cases r with
      | false =>
        have CL := Lib.hid hcall
        clear hcall
        go_wp2_with (go_at_fn g; refine CL.out.mono ?_; rintro e v1 ⟨rfl, k1⟩)
        go_roundw
        case rel =>
          refine ⟨k + 1, by omega, by go_num, Lib.hid (fun j hj hjk => ?_), bstep hb k1⟩
          rcases Nat.lt_or_ge j k with h | h
          · exact HI.out j hj h
          · obtain rfl : j = k := by omega
            rw [← HM.out]; exact HR.out.symm
        case measure => simp [intOf]; omega
      | true =>
        have hv : idxL p L = (k : Int) := by
          have : L.findIdx? p = some k := by
            rw [List.findIdx?_eq_some_iff_getElem]
            exact ⟨hkl, by rw [← HM.out]; exact HR.out.symm, fun j hj => by simp [HI.out j (by omega) hj]⟩
          rw [idxL, this]
        have HV := Lib.hid hv
        have CL := Lib.hid hcall
        clear hv hcall
        go_wp2_with (go_at_fn g; refine CL.out.mono ?_; rintro e v1 ⟨rfl, k1⟩)
        go_ret
        exact ⟨by rw [HV.out]; rfl, bstep hb k1⟩
    · obtain rfl : k = n := by omega
      have hv : idxL p L = -1 := by
        have : L.findIdx? p = none := by
          rw [List.findIdx?_eq_none_iff]
          intro x hx
          obtain ⟨j, hj, rfl⟩ := List.mem_iff_getElem.1 hx
          exact HI.out j hj (by omega)
        rw [idxL, this]
      have HV := Lib.hid hv
      have hd : decide ((k : Int) < (k : Int)) = false := decide_eq_false (by omega)
      clear hln hv
      go_wp2
      go_ret
      exact ⟨by rw [HV.out]; rfl, hb⟩


theorem filter_all {p : M → Bool} {L : List M} (h : idxL p L = -1) : L.filter (fun m => !p m) = L := by
  unfold idxL at h
  split at h
  · omega
  · rename_i h2
    rw [List.findIdx?_eq_none_iff] at h2
    exact List.filter_eq_self.2 fun x hx => by simp [h2 x hx]
theorem idx_some {p : M → Bool} {L : List M} (h : idxL p L ≠ -1) : ∃ i : Nat, idxL p L = (i : Int) ∧ ∃ hi : i < L.length, p L[i] = true ∧ (L.take (i + 1)).filter (fun m => !p m) = L.take i := by
  unfold idxL at h ⊢
  split at h
  · rename_i i h2
    rw [List.findIdx?_eq_some_iff_getElem] at h2
    obtain ⟨hi, hp, hn⟩ := h2
    refine ⟨i, rfl, hi, hp, ?_⟩
    rw [List.take_succ_eq_append_getElem hi, List.filter_append]
    have e1 : (L.take i).filter (fun m => !p m) = L.take i := List.filter_eq_self.2 fun x hx => by
      obtain ⟨j, hj, rfl⟩ := List.mem_iff_getElem.1 hx
      rw [List.length_take] at hj
      have := hn j (by omega)
      simpa using this
    rw [e1]; simp [hp]
  · exact absurd rfl h
/-- What the row holds while the kept ones are moved ahead. -/
structure Del (p : M → Bool) (L K : List M) (i j : Nat) : Prop where
  len : K.length = L.length
  lt : i < j
  le : j ≤ L.length
  head : K.take i = (L.take j).filter (fun m => !p m)
  tail : K.drop j = L.drop j
theorem Del.get {p : M → Bool} {L K : List M} {i j : Nat} (h : Del p L K i j) (hj : j < L.length) : K[j]'(by rw [h.len]; exact hj) = L[j] := by
  have := congrArg List.head? h.tail
  rw [List.head?_drop, List.head?_drop, List.getElem?_eq_getElem (by rw [h.len]; exact hj), List.getElem?_eq_getElem hj] at this
  exact Option.some.inj this
theorem Del.keep {p : M → Bool} {L K : List M} {i j : Nat} (h : Del p L K i j) (hj : j < L.length) (m : M) (hm : L[j] = m) (hp : p m = false) : Del p L (K.set i m) (i + 1) (j + 1) := by
  have hlt := h.lt
  have hlen := h.len
  refine ⟨by rw [List.length_set]; exact h.len, by omega, by omega, ?_, ?_⟩
  · rw [List.take_succ_eq_append_getElem hj, List.filter_append, ← h.head, List.take_succ_eq_append_getElem (by rw [List.length_set]; omega), List.getElem_set_self, List.take_set_of_le (Nat.le_refl _), hm]
    simp [hp]
  · rw [List.drop_set_of_lt (by omega)]
    have := congrArg List.tail h.tail
    rwa [List.tail_drop, List.tail_drop] at this
theorem Del.fin {p : M → Bool} {L K : List M} {i j : Nat} (h : Del p L K i j) (hj : j = L.length) : (flat K).take (i * 2) = flat (L.filter fun m => !p m) ∧ i = (L.filter fun m => !p m).length := by
  have h1 : K.take i = L.filter fun m => !p m := by rw [h.head, hj, List.take_length]
  refine ⟨by rw [← flat_take, h1], ?_⟩
  have := h.lt
  have := h.len
  rw [← h1, List.length_take]; omega
theorem Del.skip {p : M → Bool} {L K : List M} {i j : Nat} (h : Del p L K i j) (hj : j < L.length) (hp : p L[j] = true) : Del p L K i (j + 1) := by
  have hlt := h.lt
  refine ⟨h.len, by omega, by omega, ?_, ?_⟩
  · rw [List.take_succ_eq_append_getElem hj, List.filter_append, ← h.head]; simp [hp]
  · have := congrArg List.tail h.tail
    rwa [List.tail_drop, List.tail_drop] at this

set_option maxRecDepth 100000 in
set_option maxHeartbeats 4000000 in
theorem delete_any (g : Nat) (lb : Array Value) (p : M → Bool) (B : Nat) (eg : Enters g) (L : List M) (v : Value) (w : World) (hB : B ≤ w.heap.size) (hp : Pred g lb p B w) (hO : Own w B v L) (hn : L.length ≤ 1099511627776) :
    Calls Try.prog 44 #[v, .func (.func g) #[] lb] w fun e w' => ∃ v', e = .returned v' ∧ Own w' B v' (L.filter fun m => !p m) ∧ Below B w w' := by
  obtain ⟨a, c, rfl, hlc, hcm, hl, hq⟩ := hO.lies
  have I := Lib.hid (index_any g lb p B eg L a L.length c w hB hp hl hn)
  have HP := Lib.hid hp
  have eg' : ∀ args w, (callFunc g args).run Try.prog w = .ok (.enter g args) w := eg
  by_cases hi : idxL p L = -1
  · have HF := Lib.hid (filter_all hi)
    have HI := Lib.hid hi
    have HO := Lib.hid hO
    clear hp eg hi hl hq hO
    go_enter Try.func44, Try.ntmps44
    go_wp2_with fail
    refine I.out.mono ?_
    rintro e v1 ⟨rfl, k1⟩
    rw [HI.out]
    go_wp2
    go_ret
    exact ⟨_, rfl, by rw [HF.out]; exact HO.out.below k1, k1.mono hB⟩
  obtain ⟨i0, hi0, hil, hpi, hfi⟩ := idx_some hi
  obtain ⟨q, cap, hv, hnc, hcm2, hBq⟩ := hO.some (by intro e; rw [e] at hil; simp at hil)
  simp only [Value.slice.injEq, true_and] at hv
  obtain ⟨rfl, rfl⟩ := hv
  have HI := Lib.hid hi0
  have hD0 : Del p L L i0 (i0 + 1) := ⟨rfl, by omega, by omega, hfi.symm, rfl⟩
  have HD0 := Lib.hid hD0
  have HO : Hid (w.ownsRow B 55 2 (.slice (some ⟨q, 0, none⟩) L.length c) L.length (flat L)) := Lib.hid hO
  obtain ⟨n, hn'⟩ : ∃ n, n = L.length := ⟨_, rfl⟩
  have HN := Lib.hid hn'
  rw [← hn'] at I HO hil hnc hn hlc ⊢
  have y0 : ((i0 : Int) == -1) = false := by rw [beq_eq_false_iff_ne]; omega
  clear hp eg hi hl hq hO hi0 hfi hpi hn' hD0
  go_enter Try.func44, Try.ntmps44
  go_wp2_with fail
  refine I.out.mono ?_
  rintro e v1 ⟨rfl, k1⟩
  rw [HI.out]
  have hb1 : Below B w v1 := k1.mono hB
  have HO1 := Lib.hid (World.ownsRow.kept HO.out (grown_of k1) (Classical.em _))
  clear HI k1
  go_wp2_with fail
  go_loopw [5, 6] (fun iv jv wr => ∃ (i j : Nat) (K : List M), iv = .int .i64 i ∧ jv = .int .i64 j ∧ i < j ∧ j ≤ n ∧ Hid (Del p L K i j) ∧ Hid (wr.ownsRow B 55 2 (.slice (some ⟨q, 0, none⟩) n c) n (flat K)) ∧ Below B w wr) (fun _ jv _ => n - (intOf jv).toNat)
  case atStart => exact ⟨i0, i0 + 1, L, rfl, by go_num, by omega, by omega, HD0, HO1, hb1⟩
  case round =>
    obtain ⟨i, j, K, rfl, rfl, hij, hjn, HD, HW, hb⟩ := hrel
    clear HO1 hb1
    have hln := HN.out
    have hbs : B ≤ wr.heap.size := Nat.le_trans hB hb.size
    by_cases hlt : j < n
    · have hkl : j < K.length := by rw [HD.out.len]; omega
      have hf := flat_get K j hkl
      have c1 := (HW.out.cellAt (j * 2) (by omega)).trans hf.1
      have c2 := (HW.out.cellAt (j * 2 + 1) (by omega)).trans hf.2
      have hjl : j < L.length := by omega
      rw [HD.out.get hjl] at c1 c2
      obtain ⟨m, hm⟩ : ∃ m, m = L[j]'hjl := ⟨_, rfl⟩
      rw [← hm] at c1 c2
      have q1 : q < wr.heap.size := World.block_lt_of_cell? _ _ c2
      have hcall := HP.out (wr.alloc (.cells #[.string ⟨m.p.toArray⟩, .int .u64 (m.n : Int)] 55)) m (hb.alloc hbs _)
      rw [get_agg] at hcall
      obtain ⟨r, hr⟩ : ∃ r, r = p m := ⟨_, rfl⟩
      rw [← hr] at hcall
      have HM := Lib.hid hm
      have HR := Lib.hid hr
      clear hm hf hln hr hkl
      cases r with
      | true =>
        have CL := Lib.hid hcall
        clear hcall
        go_wp2_with (go_at_fn g; refine CL.out.mono ?_; rintro e v2 ⟨rfl, k2⟩)
        go_roundw
        case rel => exact ⟨i, j + 1, K, rfl, by go_num, by omega, by omega, Lib.hid (HD.out.skip hjl (by rw [← HM.out]; exact HR.out.symm)), Lib.hid (World.ownsRow.kept (HW.out.alloc _) (grown_of k2) (Classical.em _)), (hb.alloc hbs _).trans (k2.mono (by simp; omega))⟩
        case measure => simp [intOf]; omega
      | false =>
        have CL := Lib.hid hcall
        clear hcall
        go_wp2_with fail
        refine CL.out.mono ?_
        rintro e v2 ⟨rfl, k2⟩
        have d1 := (k2.cell (p := ⟨wr.heap.size, 0, none⟩) (by simp)).trans (World.cell?_alloc_new ..)
        have d2 := (k2.cell (p := ⟨wr.heap.size, 1, none⟩) (by simp)).trans (World.cell?_alloc_new ..)
        simp at d1 d2
        have hb2 : Below B w v2 := (hb.alloc hbs _).trans (k2.mono (by simp; omega))
        have HW2 := Lib.hid (World.ownsRow.kept (HW.out.alloc (.cells #[.string ⟨m.p.toArray⟩, .int .u64 (m.n : Int)] 55)) (grown_of k2) (Classical.em _))
        obtain ⟨f1, f2⟩ := own_isSome HW2.out (i * 2) (by omega)
        obtain ⟨f3, f4⟩ := own_isSome HW2.out (i * 2 + 1) (by omega)
        obtain ⟨x1, e1⟩ := Option.isSome_iff_exists.1 f1
        obtain ⟨x2, e2⟩ := Option.isSome_iff_exists.1 f3
        clear k2 f1 f3
        go_wp2
        go_roundw
        case rel =>
          obtain ⟨o1, g1⟩ := own_set m HW2.out (by have := HD.out.len; have := HN.out; omega) (show i < n by omega)
          exact ⟨i + 1, j + 1, K.set i m, by go_num, by go_num, by omega, by omega, Lib.hid (HD.out.keep hjl m HM.out.symm HR.out.symm), Lib.hid o1, Below.grown hb2 g1 (Nat.le_trans hB hb2.size) (fun k hk => by cases hk; exact hBq)⟩
        case measure => simp [intOf]; omega
    · obtain rfl : j = n := by omega
      have hd : decide ((j : Int) < (j : Int)) = false := decide_eq_false (by omega)
      have hfin := HD.out.fin HN.out
      obtain ⟨vs, hclr⟩ := run_clear HW.out (i := i) (m := j - i) (c := c - i) (by omega) rfl 0
      obtain ⟨ys, o2, hys, g2⟩ := own_cells vs (i * 2) wr _ HW.out
      have o3 := own_cut o2 (i := i) (by omega)
      rw [hys, hfin.1] at o3
      have ho : Own (wr.setCells q (i * 2) vs) B (.slice (some ⟨q, 0, none⟩) i c) (L.filter fun m => !p m) := by
        unfold Own; rw [← hfin.2]; exact o3
      have hb3 : Below B w (wr.setCells q (i * 2) vs) := Below.grown hb g2 hbs (fun k hk => by cases hk; exact hBq)
      have hic : i < c := by omega
      have HOO := Lib.hid ho
      clear hfin o2 hys g2 o3 ho hln
      go_wp2
      go_ret
      exact ⟨_, rfl, HOO.out, hb3⟩


end Mark
end Go.Proofs.Ytcbnkncgacbniaa
