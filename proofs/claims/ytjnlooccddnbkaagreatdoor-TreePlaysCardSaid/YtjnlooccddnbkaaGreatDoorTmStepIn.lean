/- Merged texts: TreeStep, TreeIn. -/
import Derived.Test.YtjnlooccddnbkaaGreatDoorTmBase
import Derived.Test.YtjnlooccddnbkaaGreatDoorTmMark
import Derived.Test.YtjnlooccddnbkaaGreatDoorTmWire
import Derived.Test.YtjnlooccddnbkaaGreatDoorTmRefDotA
import Derived.Test.YtjnlooccddnbkaaGreatDoorTmRefDotB
import Derived.Test.YtjnlooccddnbkaaGreatDoorTmTree0
import Derived.IntWalk
import Derived.Test.YtjnlooccddnbkaaGreatDoorTmSha
namespace Go.Proofs.YtjnlooccddnbkaaGreatDoor
namespace TreeLaw
open Go.RowKit Go.Proofs.YtjnlooccddnbkaaGreatDoor.Mark Go.Proofs.YtjnlooccddnbkaaGreatDoor.Dots Go.Proofs.YtjnlooccddnbkaaGreatDoor.RefDots
/-- A step. -/
structure St where
  d : Int
  key : List UInt8
  bs : List UInt8
  ms : Option Addr
  mc : Nat
  A : List M
def St.it (x : St) : Tree.It := ⟨x.key, x.bs, x.A⟩
def St.cells (x : St) : List Value := [.int .i64 x.d, .string ⟨x.key.toArray⟩, .string ⟨x.bs.toArray⟩, .slice x.ms x.A.length x.mc]
def encS : Row.Enc St := ⟨4, by decide, St.cells, fun _ => rfl, fun x v hv => by
  simp only [St.cells, List.mem_cons, List.not_mem_nil, or_false] at hv
  rcases hv with rfl | rfl | rfl | rfl <;> rfl⟩
/-- What a step's slice holds. -/
def St.Deep (w : World) (x : St) : Prop := Mark.Lies w x.ms x.A.length x.A
def St.Sized (x : St) : Prop := x.key.length ≤ 140737488351232 ∧ x.bs.length ≤ 140737488351232 ∧ x.A.length ≤ 140737488351232 ∧ ∀ m ∈ x.A, m.p.length ≤ 140737488351232 ∧ m.n ≤ 18446744073709551615
def St.Light (s : Nat) (x : St) : Prop := x.A.length ≤ 30 ∧ x.key.length ≤ s ∧ x.bs.length ≤ s ∧ ∀ m ∈ x.A, m.p.length ≤ s
theorem St.Light.mono {s t : Nat} {x : St} (h : x.Light s) (k : s ≤ t) : x.Light t := by
  obtain ⟨h1, h2, h3, h4⟩ := h
  exact ⟨h1, by omega, by omega, fun y hy => Nat.le_trans (h4 y hy) k⟩
theorem St.Deep.below {w w' : World} {x : St} (h : x.Deep w) (k : Below w.heap.size w w') : x.Deep w' := Mark.Lies.below h k
abbrev Steps := Row.Lies encS
/-- Few steps, and light ones. -/
def Lights (Ls : List St) : Prop := Ls.length ≤ 60 ∧ ∀ x ∈ Ls, x.Light 2048
theorem steps_at {w : World} {n : Nat} {Ls : List St} {a : Option Addr} (h : Steps w a n Ls) (hn : 0 < n) : ∃ b off, a = some ⟨b, off, none⟩ ∧ ∀ j (hj : j < Ls.length),
    w.cell? ⟨b, off + j * 4, none⟩ = some (.int .i64 Ls[j].d) ∧ w.cell? ⟨b, off + j * 4 + 1, none⟩ = some (.string ⟨Ls[j].key.toArray⟩) ∧ w.cell? ⟨b, off + j * 4 + 2, none⟩ = some (.string ⟨Ls[j].bs.toArray⟩) ∧
    w.cell? ⟨b, off + j * 4 + 3, none⟩ = some (.slice Ls[j].ms Ls[j].A.length Ls[j].mc) := by
  obtain ⟨b, off, e, hc⟩ := h.2 hn
  exact ⟨b, off, e, fun j hj => ⟨hc j hj 0 _ rfl, hc j hj 1 _ rfl, hc j hj 2 _ rfl, hc j hj 3 _ rfl⟩⟩
theorem marks_at {w : World} {n : Nat} {L : List M} {a : Option Addr} (h : Mark.Lies w a n L) (hn : 0 < n) : ∃ b off, a = some ⟨b, off, none⟩ ∧ ∀ j (hj : j < L.length), w.cell? ⟨b, off + j * 2, none⟩ = some (.string ⟨(L[j]).p.toArray⟩) ∧ w.cell? ⟨b, off + j * 2 + 1, none⟩ = some (.int .u64 ((L[j]).n : Int)) := h.2 hn
theorem take_len {α : Type} {P : α → Prop} {L : List α} {j : Nat} (h : ∀ i (hi : i < L.length), i < j → P L[i]) (hj : L.length ≤ j) : ∀ x ∈ L, P x := fun x hx => by
  obtain ⟨i, hi, rfl⟩ := List.getElem_of_mem hx
  exact h i hi (by omega)
/-- A slice of marks that was made. -/
def GotM (L : List M) (w : World) (e : Ending) (w' : World) : Prop := ∃ a c, e = .returned (.slice a L.length c) ∧ Mark.Lies w' a L.length L ∧ (∀ p, a = some p → w.heap.size ≤ p.block) ∧ Below w.heap.size w w'
set_option maxRecDepth 100000 in
set_option maxHeartbeats 1000000 in
theorem marks_any (L K : List M) (a1 a2 : Option Addr) (n1 n2 c1 c2 : Nat) (w : World) (hL : Mark.Lies w a1 n1 L) (hK : Mark.Lies w a2 n2 K) (hn1 : n1 ≤ 1099511627776) (hn2 : n2 ≤ 1099511627776) :
    Calls Tryz.prog 23 #[.slice a1 n1 c1, .slice a2 n2 c2] w fun e w' => e = .returned (.bool (decide (L = K))) ∧ Below w.heap.size w w' := by
  have h0 := Below.refl w.heap.size w
  by_cases hne : n1 = n2
  · subst hne
    have HL := Lib.hid hL
    have HK := Lib.hid hK
    have hneq : ((n1 : Int) != (n1 : Int)) = false := by simp
    clear hL hK
    go_enter Tryz.func23, Tryz.ntmps23
    go_wp2_with fail
    go_loopw [5] (fun iv wr => ∃ k : Nat, k ≤ n1 ∧ iv = .int .i64 k ∧ L.take k = K.take k ∧ Below w.heap.size w wr) (fun iv _ => n1 - (intOf iv).toNat)
    case atStart => exact ⟨0, by omega, rfl, rfl, h0⟩
    case round =>
      obtain ⟨k, hk, rfl, hs, hb⟩ := hrel
      have hln := HL.out.1
      have hkn := HK.out.1
      by_cases hlt : k < n1
      · obtain ⟨b1, o1, rfl, hcell1⟩ := (HL.out.below hb).2 (by omega)
        obtain ⟨b2, o2, rfl, hcell2⟩ := (HK.out.below hb).2 (by omega)
        obtain ⟨d1, d2⟩ := hcell1 k (by omega)
        obtain ⟨d3, d4⟩ := hcell2 k (by omega)
        have hs1 : L.take (k + 1) = L.take k ++ [L[k]'(by omega)] := List.take_succ_eq_append_getElem (by omega)
        have hs2 : K.take (k + 1) = K.take k ++ [K[k]'(by omega)] := List.take_succ_eq_append_getElem (by omega)
        obtain ⟨m, hm⟩ : ∃ m, m = L[k]'(by omega) := ⟨_, rfl⟩
        obtain ⟨x, hx⟩ : ∃ x, x = K[k]'(by omega) := ⟨_, rfl⟩
        rw [← hm] at d1 d2 hs1
        rw [← hx] at d3 d4 hs2
        have hE := neq_mark m x
        by_cases he : m = x
        · rw [decide_eq_true he] at hE
          have HS : Hid (L.take (k + 1) = K.take (k + 1)) := Lib.hid (by rw [hs1, hs2, hs, he])
          clear hs hs1 hs2 hm hx hcell1 hcell2 hln hkn he
          go_wp2_with fail
          refine wp_region_noPanic ?_
          refine wp_region_held_drew (S := (fun w' => (w'.cell? ⟨b1, o1 + k * 2, none⟩ = some (.string ⟨m.p.toArray⟩) ∧ w'.cell? ⟨b1, o1 + k * 2 + 1, none⟩ = some (.int .u64 (m.n : Int))) ∧ w'.cell? ⟨b2, o2 + k * 2, none⟩ = some (.string ⟨x.p.toArray⟩) ∧ w'.cell? ⟨b2, o2 + k * 2 + 1, none⟩ = some (.int .u64 (x.n : Int)))) (by kernel_rfl) (⟨⟨d1, d2⟩, d3, d4⟩) (fun hHeld => ?_)
          refine wpAnyH_take (i := 0) (v := ?_) (by simp only [List.getElem?_toArray, List.getElem?_cons_zero]; rfl) (by kernel_rfl) (by kernel_rfl) (by kernel_rfl) (fun _ _ _ h => h) (Or.inl ⟨by rfl, ?_⟩) (by assumption) ?_
          rotate_left
          · (intro w hSw; (try dsimp only at hSw); go_simp; try with_reducible rfl)
          try simp only [Act.put, List.setIfInBounds_toArray, List.set_cons_zero, List.set_cons_succ]
          refine wpAnyH_take (i := 1) (v := ?_) (by simp only [List.getElem?_toArray, List.getElem?_cons_succ, List.getElem?_cons_zero]; rfl) (by kernel_rfl) (by kernel_rfl) (by kernel_rfl) (fun _ _ _ h => h) (Or.inl ⟨by rfl, ?_⟩) (by assumption) ?_
          rotate_left
          · (intro w hSw; (try dsimp only at hSw); go_simp; try with_reducible rfl)
          try simp only [Act.put, List.setIfInBounds_toArray, List.set_cons_zero, List.set_cons_succ]
          refine wpAnyH_take (i := 2) (v := ?_) (by simp only [List.getElem?_toArray, List.getElem?_cons_succ, List.getElem?_cons_zero]; rfl) (by kernel_rfl) (by kernel_rfl) (by kernel_rfl) (fun _ _ _ h => h) (Or.inl ⟨by rfl, ?_⟩) (by assumption) ?_
          rotate_left
          · (intro w hSw; (try dsimp only at hSw); go_simp; try with_reducible rfl)
          try simp only [Act.put, List.setIfInBounds_toArray, List.set_cons_zero, List.set_cons_succ]
          refine wpAnyH_take (i := 3) (v := ?_) (by simp only [List.getElem?_toArray, List.getElem?_cons_succ, List.getElem?_cons_zero]; rfl) (by kernel_rfl) (by kernel_rfl) (by kernel_rfl) (fun _ _ _ h => h) (Or.inl ⟨by rfl, ?_⟩) (by assumption) ?_
          rotate_left
          · (intro w hSw; (try dsimp only at hSw); go_simp; try with_reducible rfl)
          try simp only [Act.put, List.setIfInBounds_toArray, List.set_cons_zero, List.set_cons_succ]
          refine wpAnyH_take (i := 4) (v := ?_) (by simp only [List.getElem?_toArray, List.getElem?_cons_succ, List.getElem?_cons_zero]; rfl) (by kernel_rfl) (by kernel_rfl) (by kernel_rfl) (fun _ _ _ h => h) (Or.inl ⟨by rfl, ?_⟩) (by assumption) ?_
          rotate_left
          · (intro w hSw; (try dsimp only at hSw); go_simp; try with_reducible rfl)
          try simp only [Act.put, List.setIfInBounds_toArray, List.set_cons_zero, List.set_cons_succ]
          refine wpAnyH_take (i := 5) (v := ?_) (by simp only [List.getElem?_toArray, List.getElem?_cons_succ, List.getElem?_cons_zero]; rfl) (by kernel_rfl) (by kernel_rfl) (by kernel_rfl) (fun _ _ _ h => h) (Or.inl ⟨by rfl, ?_⟩) (by assumption) ?_
          rotate_left
          · (intro w hSw; (try dsimp only at hSw); go_simp; try with_reducible rfl)
          try simp only [Act.put, List.setIfInBounds_toArray, List.set_cons_zero, List.set_cons_succ]
          refine wpAnyH_take (i := 6) (v := ?_) (by simp only [List.getElem?_toArray, List.getElem?_cons_succ, List.getElem?_cons_zero]; rfl) (by kernel_rfl) (by kernel_rfl) (by kernel_rfl) (fun _ _ _ h => h) (Or.inl ⟨by rfl, ?_⟩) (by assumption) ?_
          rotate_left
          · (intro w hSw; (try dsimp only at hSw); go_simp; try with_reducible rfl)
          try simp only [Act.put, List.setIfInBounds_toArray, List.set_cons_zero, List.set_cons_succ]
          refine wpAnyH_take (i := 7) (v := ?_) (by simp only [List.getElem?_toArray, List.getElem?_cons_succ, List.getElem?_cons_zero]; rfl) (by kernel_rfl) (by kernel_rfl) (by kernel_rfl) (fun _ _ _ h => h) (Or.inl ⟨by rfl, ?_⟩) (by assumption) ?_
          rotate_left
          · (intro w hSw; (try dsimp only at hSw); go_simp; try with_reducible rfl)
          try simp only [Act.put, List.setIfInBounds_toArray, List.set_cons_zero, List.set_cons_succ]
          refine wpAnyH_take (i := 8) (v := ?_) (by simp only [List.getElem?_toArray, List.getElem?_cons_succ, List.getElem?_cons_zero]; rfl) (by kernel_rfl) (by kernel_rfl) (by kernel_rfl) (fun _ _ _ h => h) (Or.inl ⟨by rfl, ?_⟩) (by assumption) ?_
          rotate_left
          · (intro w hSw; (try dsimp only at hSw); go_simp; try with_reducible rfl)
          try simp only [Act.put, List.setIfInBounds_toArray, List.set_cons_zero, List.set_cons_succ]
          refine wpAnyH_done (by kernel_rfl) ?_ _
          refine NoPanic.normal ?_
          go_wp2
          go_roundw
          case rel => exact ⟨k + 1, by omega, by go_num, HS.out, Below.drew hb⟩
          case measure => simp [intOf]; omega
        · rw [decide_eq_false he] at hE
          have HV : Hid (decide (L = K) = false) := Lib.hid (decide_eq_false fun e => he (by rw [hm, hx]; simp only [e]))
          clear hs hs1 hs2 hm hx hcell1 hcell2 hln hkn he
          go_wp2_with fail
          refine wp_region_noPanic ?_
          refine wp_region_held_drew (S := (fun w' => (w'.cell? ⟨b1, o1 + k * 2, none⟩ = some (.string ⟨m.p.toArray⟩) ∧ w'.cell? ⟨b1, o1 + k * 2 + 1, none⟩ = some (.int .u64 (m.n : Int))) ∧ w'.cell? ⟨b2, o2 + k * 2, none⟩ = some (.string ⟨x.p.toArray⟩) ∧ w'.cell? ⟨b2, o2 + k * 2 + 1, none⟩ = some (.int .u64 (x.n : Int)))) (by kernel_rfl) (⟨⟨d1, d2⟩, d3, d4⟩) (fun hHeld => ?_)
          refine wpAnyH_take (i := 0) (v := ?_) (by simp only [List.getElem?_toArray, List.getElem?_cons_zero]; rfl) (by kernel_rfl) (by kernel_rfl) (by kernel_rfl) (fun _ _ _ h => h) (Or.inl ⟨by rfl, ?_⟩) (by assumption) ?_
          rotate_left
          · (intro w hSw; (try dsimp only at hSw); go_simp; try with_reducible rfl)
          try simp only [Act.put, List.setIfInBounds_toArray, List.set_cons_zero, List.set_cons_succ]
          refine wpAnyH_take (i := 1) (v := ?_) (by simp only [List.getElem?_toArray, List.getElem?_cons_succ, List.getElem?_cons_zero]; rfl) (by kernel_rfl) (by kernel_rfl) (by kernel_rfl) (fun _ _ _ h => h) (Or.inl ⟨by rfl, ?_⟩) (by assumption) ?_
          rotate_left
          · (intro w hSw; (try dsimp only at hSw); go_simp; try with_reducible rfl)
          try simp only [Act.put, List.setIfInBounds_toArray, List.set_cons_zero, List.set_cons_succ]
          refine wpAnyH_take (i := 2) (v := ?_) (by simp only [List.getElem?_toArray, List.getElem?_cons_succ, List.getElem?_cons_zero]; rfl) (by kernel_rfl) (by kernel_rfl) (by kernel_rfl) (fun _ _ _ h => h) (Or.inl ⟨by rfl, ?_⟩) (by assumption) ?_
          rotate_left
          · (intro w hSw; (try dsimp only at hSw); go_simp; try with_reducible rfl)
          try simp only [Act.put, List.setIfInBounds_toArray, List.set_cons_zero, List.set_cons_succ]
          refine wpAnyH_take (i := 3) (v := ?_) (by simp only [List.getElem?_toArray, List.getElem?_cons_succ, List.getElem?_cons_zero]; rfl) (by kernel_rfl) (by kernel_rfl) (by kernel_rfl) (fun _ _ _ h => h) (Or.inl ⟨by rfl, ?_⟩) (by assumption) ?_
          rotate_left
          · (intro w hSw; (try dsimp only at hSw); go_simp; try with_reducible rfl)
          try simp only [Act.put, List.setIfInBounds_toArray, List.set_cons_zero, List.set_cons_succ]
          refine wpAnyH_take (i := 4) (v := ?_) (by simp only [List.getElem?_toArray, List.getElem?_cons_succ, List.getElem?_cons_zero]; rfl) (by kernel_rfl) (by kernel_rfl) (by kernel_rfl) (fun _ _ _ h => h) (Or.inl ⟨by rfl, ?_⟩) (by assumption) ?_
          rotate_left
          · (intro w hSw; (try dsimp only at hSw); go_simp; try with_reducible rfl)
          try simp only [Act.put, List.setIfInBounds_toArray, List.set_cons_zero, List.set_cons_succ]
          refine wpAnyH_take (i := 5) (v := ?_) (by simp only [List.getElem?_toArray, List.getElem?_cons_succ, List.getElem?_cons_zero]; rfl) (by kernel_rfl) (by kernel_rfl) (by kernel_rfl) (fun _ _ _ h => h) (Or.inl ⟨by rfl, ?_⟩) (by assumption) ?_
          rotate_left
          · (intro w hSw; (try dsimp only at hSw); go_simp; try with_reducible rfl)
          try simp only [Act.put, List.setIfInBounds_toArray, List.set_cons_zero, List.set_cons_succ]
          refine wpAnyH_take (i := 6) (v := ?_) (by simp only [List.getElem?_toArray, List.getElem?_cons_succ, List.getElem?_cons_zero]; rfl) (by kernel_rfl) (by kernel_rfl) (by kernel_rfl) (fun _ _ _ h => h) (Or.inl ⟨by rfl, ?_⟩) (by assumption) ?_
          rotate_left
          · (intro w hSw; (try dsimp only at hSw); go_simp; try with_reducible rfl)
          try simp only [Act.put, List.setIfInBounds_toArray, List.set_cons_zero, List.set_cons_succ]
          refine wpAnyH_take (i := 7) (v := ?_) (by simp only [List.getElem?_toArray, List.getElem?_cons_succ, List.getElem?_cons_zero]; rfl) (by kernel_rfl) (by kernel_rfl) (by kernel_rfl) (fun _ _ _ h => h) (Or.inl ⟨by rfl, ?_⟩) (by assumption) ?_
          rotate_left
          · (intro w hSw; (try dsimp only at hSw); go_simp; try with_reducible rfl)
          try simp only [Act.put, List.setIfInBounds_toArray, List.set_cons_zero, List.set_cons_succ]
          refine wpAnyH_take (i := 8) (v := ?_) (by simp only [List.getElem?_toArray, List.getElem?_cons_succ, List.getElem?_cons_zero]; rfl) (by kernel_rfl) (by kernel_rfl) (by kernel_rfl) (fun _ _ _ h => h) (Or.inl ⟨by rfl, ?_⟩) (by assumption) ?_
          rotate_left
          · (intro w hSw; (try dsimp only at hSw); go_simp; try with_reducible rfl)
          try simp only [Act.put, List.setIfInBounds_toArray, List.set_cons_zero, List.set_cons_succ]
          refine wpAnyH_done (by kernel_rfl) ?_ _
          refine NoPanic.normal ?_
          go_wp2
          go_ret
          exact ⟨by rw [HV.out]; rfl, Below.drew hb⟩
      · obtain rfl : k = n1 := by omega
        have hv : L = K := by
          rw [← List.take_of_length_le (l := L) (i := k) (by omega), hs, List.take_of_length_le (by omega)]
        have HV : Hid (decide (L = K) = true) := Lib.hid (decide_eq_true hv)
        have hd : decide ((k : Int) < (k : Int)) = false := decide_eq_false (by omega)
        clear hln hkn hv hs
        go_wp2
        go_ret
        exact ⟨by rw [HV.out]; rfl, hb⟩
  · have HV : Hid (decide (L = K) = false) := Lib.hid (decide_eq_false fun e => hne (by rw [hL.1, hK.1, e]))
    have hneq : ((n1 : Int) != (n2 : Int)) = true := by rw [bne_iff_ne]; omega
    clear hL hK
    go_enter Tryz.func23, Tryz.ntmps23
    go_wp2
    go_ret
    exact ⟨by rw [HV.out]; rfl, h0⟩



set_option maxRecDepth 100000 in
theorem copied_any (L : List M) (a : Option Addr) (n c : Nat) (w : World) (hL : Mark.Lies w a n L) (hn : n ≤ 1099511627776) :
    Calls Tryz.prog 14 #[.slice a n c] w (GotM L w) := by
  have HL := Lib.hid hL
  clear hL
  go_enter Tryz.func14, Tryz.ntmps14
  go_wp2_with (at_builtin; refine RefDots.wpList_app rfl _ _ rfl w.heap.size _ [] rfl (Mark.Own.nil _ _) a n c L rfl HL.out (by simp only [List.length_nil]; omega) (Nat.le_refl _) ?_; intro v1 w1 o1 k1)
  go_ret
  rw [List.nil_append] at o1
  obtain ⟨a', c', rfl, -, -, h3, h4⟩ := o1.lies
  exact ⟨a', c', rfl, h3, h4, k1⟩
set_option maxRecDepth 100000 in
set_option maxHeartbeats 16000000 in
theorem heavy_any (Ls : List St) (a : Option Addr) (c : Nat) (w : World) (hL : Steps w a Ls.length Ls) (hd : ∀ x ∈ Ls, x.Deep w) (hz : ∀ x ∈ Ls, x.Sized) :
    Calls Tryz.prog 9 #[.slice a Ls.length c] w fun e w' => ∃ r, e = .returned (.bool r) ∧ (r = false → Lights Ls) ∧ Below w.heap.size w w' := by
  have hb := Below.refl w.heap.size w
  obtain ⟨n, hnn⟩ : ∃ n, n = Ls.length := ⟨_, rfl⟩
  have HL := Lib.hid hL
  have HD := Lib.hid hd
  have HZ := Lib.hid hz
  have HN := Lib.hid hnn
  rw [← hnn] at HL ⊢
  clear hL hd hz hnn
  go_enter Tryz.func9, Tryz.ntmps9
  go_wp2_with fail
  go_loopw [3, 4] (fun nv iv wr => ∃ k s : Nat, k ≤ n ∧ k ≤ 500 ∧ iv = .int .i64 k ∧ nv = .int .i64 s ∧ s ≤ k * 9007199254740992 ∧ Hid (∀ j (hj : j < Ls.length), j < k → Ls[j].Light s) ∧ Below w.heap.size w wr) (fun _ iv _ => n - (intOf iv).toNat)
  case atStart => exact ⟨0, 0, by omega, by omega, rfl, rfl, by omega, Lib.hid (fun j _ hj => by omega), hb⟩
  case round =>
    clear hb
    obtain ⟨k, s, hk, hk5, rfl, rfl, hs, HLi, hb⟩ := hrel
    by_cases hlt : k < n
    rotate_left
    · obtain rfl : n = k := by omega
      have d1 : decide ((n : Int) < (n : Int)) = false := decide_eq_false (by omega)
      have HX : Hid (∀ x ∈ Ls, x.Light s) := Lib.hid (take_len HLi.out (by rw [HN.out]; exact Nat.le_refl _))
      by_cases h200 : n > 60
      · have d3 : decide ((n : Int) > 60) = true := decide_eq_true (by omega)
        have d4 : decide ((60 : Int) < (n : Int)) = true := decide_eq_true (by omega)
        clear h200
        go_wp2
        go_ret
        exact ⟨true, rfl, (fun h => by cases h), hb⟩
      · have d3 : decide ((n : Int) > 60) = false := decide_eq_false (by omega)
        have d4 : decide ((60 : Int) < (n : Int)) = false := decide_eq_false (by omega)
        by_cases hs8 : s > 2048
        · have d5 : decide ((s : Int) > 2048) = true := decide_eq_true (by omega)
          have d6 : decide ((2048 : Int) < (s : Int)) = true := decide_eq_true (by omega)
          clear h200 hs8
          go_wp2
          go_ret
          exact ⟨true, rfl, (fun h => by cases h), hb⟩
        · have d5 : decide ((s : Int) > 2048) = false := decide_eq_false (by omega)
          have d6 : decide ((2048 : Int) < (s : Int)) = false := decide_eq_false (by omega)
          have HY : Hid (Lights Ls) := Lib.hid ⟨by rw [← HN.out]; omega, fun x hx => (HX.out x hx).mono (by omega)⟩
          clear h200 hs8
          go_wp2
          go_ret
          exact ⟨false, rfl, fun _ => HY.out, hb⟩
    by_cases hlt5 : k < 500
    rotate_left
    · have d1 : decide ((k : Int) < (n : Int)) = true := decide_eq_true (by omega)
      have d2 : decide ((k : Int) < 500) = false := decide_eq_false (by omega)
      have d3 : decide ((n : Int) > 60) = true := decide_eq_true (by omega)
      have d4 : decide ((60 : Int) < (n : Int)) = true := decide_eq_true (by omega)
      go_wp2
      go_ret
      exact ⟨true, rfl, (fun h => by cases h), hb⟩
    have d1 : decide ((k : Int) < (n : Int)) = true := decide_eq_true (by omega)
    have d2 : decide ((k : Int) < 500) = true := decide_eq_true (by omega)
    obtain ⟨b, o, rfl, hcell⟩ := steps_at (HL.out.below hb) (by omega)
    have hll : k < Ls.length := by rw [← HN.out]; exact hlt
    obtain ⟨-, x1, x2, x3⟩ := hcell k hll
    have hmem := List.getElem_mem hll
    have dA := (HD.out _ hmem).below hb
    have hzk := HZ.out _ hmem
    have HX : Hid (∀ (s' : Nat), s ≤ s' → Ls[k].Light s' → ∀ j (hj : j < Ls.length), j < k + 1 → Ls[j].Light s') := Lib.hid (fun s' hss hx j hj hjk => by
      by_cases e : j = k
      · subst e; exact hx
      · exact (HLi.out j hj (by omega)).mono hss)
    obtain ⟨x, hx⟩ : ∃ x, x = Ls[k] := ⟨_, rfl⟩
    rw [← hx] at x1 x2 x3 dA hzk HX
    clear hx hmem hcell HLi
    obtain ⟨d, pe, bp, ms, mc, A⟩ := x
    obtain ⟨z1, z2, z4, z5⟩ := hzk
    unfold St.Deep at dA
    simp only at x1 x2 x3 dA z1 z2 z4 z5
    obtain ⟨na, hna⟩ : ∃ n, n = A.length := ⟨_, rfl⟩
    obtain ⟨np, hnp⟩ : ∃ n, n = pe.length := ⟨_, rfl⟩
    obtain ⟨nb, hnb⟩ : ∃ n, n = bp.length := ⟨_, rfl⟩
    have HAA := Lib.hid hna
    have HPB := Lib.hid (And.intro hnp hnb)
    have HZA := Lib.hid z5
    have b3 : np ≤ 140737488351232 := by omega
    have b4 : nb ≤ 140737488351232 := by omega
    have b2 : na ≤ 140737488351232 := by omega
    rw [← hna] at x3 dA
    have HK := Lib.hid (And.intro hlt hlt5)
    have j1 : (0 : Int) ≤ (k : Int) := by omega
    have j2 : (k : Int) < (n : Int) := by omega
    replace dA := Lib.hid dA
    have sp : (pe.length : Int) = (np : Int) := by rw [hnp]
    have sb : (bp.length : Int) = (nb : Int) := by rw [hnb]
    have hs2 : s ≤ 4503599627370496000 := by omega
    clear hna hnp hnb z1 z2 z4 z5 hlt hlt5 hll
    have w1 : IntKind.i64.wrap ((s : Int) + (np : Int)) = (s : Int) + (np : Int) := IntWalk.i64_in _ (by omega)
    have w2 : IntKind.i64.wrap ((s : Int) + (np : Int) + (nb : Int)) = (s : Int) + (np : Int) + (nb : Int) := IntWalk.i64_in _ (by omega)
    have w3 : IntKind.i64.wrap ((s : Int) + (np : Int) + (nb : Int) + (na : Int)) = (s : Int) + (np : Int) + (nb : Int) + (na : Int) := IntWalk.i64_in _ (by omega)
    go_wp2_with fail
    refine wp_region_noPanic ?_
    refine wp_region_held_drew (S := (fun w' => Below w.heap.size w w' ∧ w'.cell? ⟨b, o + k * 4 + 3, none⟩ = some (.slice ms na mc) ∧ w'.cell? ⟨b, o + k * 4 + 1, none⟩ = some (.string ⟨pe.toArray⟩) ∧ w'.cell? ⟨b, o + k * 4 + 2, none⟩ = some (.string ⟨bp.toArray⟩) ∧ Mark.Lies w' ms na A)) (by kernel_rfl) (⟨Below.drew hb, Dots.keepC x3 (Below.drew (Below.refl _ _)), Dots.keepC x1 (Below.drew (Below.refl _ _)), Dots.keepC x2 (Below.drew (Below.refl _ _)), (dA.out).below (Below.drew (Below.refl _ _))⟩) (fun hHeld => ?_)
    refine wpAnyH_take (i := 0) (v := ?_) (by simp only [List.getElem?_toArray, List.getElem?_cons_zero]; rfl) (by kernel_rfl) (by kernel_rfl) (by kernel_rfl) (fun _ _ _ h => h) (Or.inl ⟨by rfl, ?_⟩) (by assumption) ?_
    rotate_left
    · (intro w hSw; (try dsimp only at hSw); go_simp; try with_reducible rfl)
    try simp only [Act.put, List.setIfInBounds_toArray, List.set_cons_zero, List.set_cons_succ]
    refine wpAnyH_take (i := 1) (v := ?_) (by simp only [List.getElem?_toArray, List.getElem?_cons_succ, List.getElem?_cons_zero]; rfl) (by kernel_rfl) (by kernel_rfl) (by kernel_rfl) (fun _ _ _ h => h) (Or.inl ⟨by rfl, ?_⟩) (by assumption) ?_
    rotate_left
    · (intro w hSw; (try dsimp only at hSw); go_simp; try with_reducible rfl)
    try simp only [Act.put, List.setIfInBounds_toArray, List.set_cons_zero, List.set_cons_succ]
    refine wpAnyH_take (i := 2) (v := ?_) (by simp only [List.getElem?_toArray, List.getElem?_cons_succ, List.getElem?_cons_zero]; rfl) (by kernel_rfl) (by kernel_rfl) (by kernel_rfl) (fun _ _ _ h => h) (Or.inl ⟨by rfl, ?_⟩) (by assumption) ?_
    rotate_left
    · (intro w hSw; (try dsimp only at hSw); go_simp; try with_reducible rfl)
    try simp only [Act.put, List.setIfInBounds_toArray, List.set_cons_zero, List.set_cons_succ]
    refine wpAnyH_take (i := 3) (v := ?_) (by simp only [List.getElem?_toArray, List.getElem?_cons_succ, List.getElem?_cons_zero]; rfl) (by kernel_rfl) (by kernel_rfl) (by kernel_rfl) (fun _ _ _ h => h) (Or.inl ⟨by rfl, ?_⟩) (by assumption) ?_
    rotate_left
    · (intro w hSw; (try dsimp only at hSw); go_simp; try with_reducible rfl)
    try simp only [Act.put, List.setIfInBounds_toArray, List.set_cons_zero, List.set_cons_succ]
    refine wpAnyH_take (i := 4) (v := ?_) (by simp only [List.getElem?_toArray, List.getElem?_cons_succ, List.getElem?_cons_zero]; rfl) (by kernel_rfl) (by kernel_rfl) (by kernel_rfl) (fun _ _ _ h => h) (Or.inl ⟨by rfl, ?_⟩) (by assumption) ?_
    rotate_left
    · (intro w hSw; (try dsimp only at hSw); go_simp; try with_reducible rfl)
    try simp only [Act.put, List.setIfInBounds_toArray, List.set_cons_zero, List.set_cons_succ]
    refine wpAnyH_take (i := 5) (v := ?_) (by simp only [List.getElem?_toArray, List.getElem?_cons_succ, List.getElem?_cons_zero]; rfl) (by kernel_rfl) (by kernel_rfl) (by kernel_rfl) (fun _ _ _ h => h) (Or.inl ⟨by rfl, ?_⟩) (by assumption) ?_
    rotate_left
    · (intro w hSw; (try dsimp only at hSw); go_simp; try with_reducible rfl)
    try simp only [Act.put, List.setIfInBounds_toArray, List.set_cons_zero, List.set_cons_succ]
    refine wpAnyH_take (i := 6) (v := ?_) (by simp only [List.getElem?_toArray, List.getElem?_cons_succ, List.getElem?_cons_zero]; rfl) (by kernel_rfl) (by kernel_rfl) (by kernel_rfl) (fun _ _ _ h => h) (Or.inl ⟨by rfl, ?_⟩) (by assumption) ?_
    rotate_left
    · (intro w hSw; (try dsimp only at hSw); go_simp; try with_reducible rfl)
    try simp only [Act.put, List.setIfInBounds_toArray, List.set_cons_zero, List.set_cons_succ]
    refine wpAnyH_take (i := 7) (v := ?_) (by simp only [List.getElem?_toArray, List.getElem?_cons_succ, List.getElem?_cons_zero]; rfl) (by kernel_rfl) (by kernel_rfl) (by kernel_rfl) (fun _ _ _ h => h) (Or.inl ⟨by rfl, ?_⟩) (by assumption) ?_
    rotate_left
    · (intro w hSw; (try dsimp only at hSw); go_simp; try with_reducible rfl)
    try simp only [Act.put, List.setIfInBounds_toArray, List.set_cons_zero, List.set_cons_succ]
    refine wpAnyH_take (i := 8) (v := ?_) (by simp only [List.getElem?_toArray, List.getElem?_cons_succ, List.getElem?_cons_zero]; rfl) (by kernel_rfl) (by kernel_rfl) (by kernel_rfl) (fun _ _ _ h => h) (Or.inl ⟨by rfl, ?_⟩) (by assumption) ?_
    rotate_left
    · (intro w hSw; (try dsimp only at hSw); go_simp; try with_reducible rfl)
    try simp only [Act.put, List.setIfInBounds_toArray, List.set_cons_zero, List.set_cons_succ]
    refine wpAnyH_take (i := 9) (v := ?_) (by simp only [List.getElem?_toArray, List.getElem?_cons_succ, List.getElem?_cons_zero]; rfl) (by kernel_rfl) (by kernel_rfl) (by kernel_rfl) (fun _ _ _ h => h) (Or.inl ⟨by rfl, ?_⟩) (by assumption) ?_
    rotate_left
    · (intro w hSw; (try dsimp only at hSw); go_simp; try with_reducible rfl)
    try simp only [Act.put, List.setIfInBounds_toArray, List.set_cons_zero, List.set_cons_succ]
    refine wpAnyH_take (i := 10) (v := ?_) (by simp only [List.getElem?_toArray, List.getElem?_cons_succ, List.getElem?_cons_zero]; rfl) (by kernel_rfl) (by kernel_rfl) (by kernel_rfl) (fun _ _ _ h => h) (Or.inl ⟨by rfl, ?_⟩) (by assumption) ?_
    rotate_left
    · (intro w hSw; (try dsimp only at hSw); go_simp; try with_reducible rfl)
    try simp only [Act.put, List.setIfInBounds_toArray, List.set_cons_zero, List.set_cons_succ]
    refine wpAnyH_take (i := 11) (v := ?_) (by simp only [List.getElem?_toArray, List.getElem?_cons_succ, List.getElem?_cons_zero]; rfl) (by kernel_rfl) (by kernel_rfl) (by kernel_rfl) (fun _ _ _ h => h) (Or.inl ⟨by rfl, ?_⟩) (by assumption) ?_
    rotate_left
    · (intro w hSw; (try dsimp only at hSw); go_simp; try with_reducible rfl)
    try simp only [Act.put, List.setIfInBounds_toArray, List.set_cons_zero, List.set_cons_succ]
    refine wpAnyH_take (i := 12) (v := ?_) (by simp only [List.getElem?_toArray, List.getElem?_cons_succ, List.getElem?_cons_zero]; rfl) (by kernel_rfl) (by kernel_rfl) (by kernel_rfl) (fun _ _ _ h => h) (Or.inl ⟨by rfl, ?_⟩) (by assumption) ?_
    rotate_left
    · (intro w hSw; (try dsimp only at hSw); go_simp; try with_reducible rfl)
    try simp only [Act.put, List.setIfInBounds_toArray, List.set_cons_zero, List.set_cons_succ]
    refine wpAnyH_take (i := 13) (v := ?_) (by simp only [List.getElem?_toArray, List.getElem?_cons_succ, List.getElem?_cons_zero]; rfl) (by kernel_rfl) (by kernel_rfl) (by kernel_rfl) (fun _ _ _ h => h) (Or.inl ⟨by rfl, ?_⟩) (by assumption) ?_
    rotate_left
    · (intro w hSw; (try dsimp only at hSw); go_simp; try with_reducible rfl)
    try simp only [Act.put, List.setIfInBounds_toArray, List.set_cons_zero, List.set_cons_succ]
    refine wpAnyH_take (i := 14) (v := ?_) (by simp only [List.getElem?_toArray, List.getElem?_cons_succ, List.getElem?_cons_zero]; rfl) (by kernel_rfl) (by kernel_rfl) (by kernel_rfl) (fun _ _ _ h => h) (Or.inl ⟨by rfl, ?_⟩) (by assumption) ?_
    rotate_left
    · (intro w hSw; (try dsimp only at hSw); go_simp; try with_reducible rfl)
    try simp only [Act.put, List.setIfInBounds_toArray, List.set_cons_zero, List.set_cons_succ]
    refine wpAnyH_take (i := 15) (v := ?_) (by simp only [List.getElem?_toArray, List.getElem?_cons_succ, List.getElem?_cons_zero]; rfl) (by kernel_rfl) (by kernel_rfl) (by kernel_rfl) (fun _ _ _ h => h) (Or.inl ⟨by rfl, ?_⟩) (by assumption) ?_
    rotate_left
    · (intro w hSw; (try dsimp only at hSw); go_simp; try with_reducible rfl)
    try simp only [Act.put, List.setIfInBounds_toArray, List.set_cons_zero, List.set_cons_succ]
    refine wpAnyH_take (i := 16) (v := ?_) (by simp only [List.getElem?_toArray, List.getElem?_cons_succ, List.getElem?_cons_zero]; rfl) (by kernel_rfl) (by kernel_rfl) (by kernel_rfl) (fun _ _ _ h => h) (Or.inl ⟨by rfl, ?_⟩) (by assumption) ?_
    rotate_left
    · (intro w hSw; (try dsimp only at hSw); go_simp; try with_reducible rfl)
    try simp only [Act.put, List.setIfInBounds_toArray, List.set_cons_zero, List.set_cons_succ]
    refine wpAnyH_take (i := 17) (v := ?_) (by simp only [List.getElem?_toArray, List.getElem?_cons_succ, List.getElem?_cons_zero]; rfl) (by kernel_rfl) (by kernel_rfl) (by kernel_rfl) (fun _ _ _ h => h) (Or.inl ⟨by rfl, ?_⟩) (by assumption) ?_
    rotate_left
    · (intro w hSw; (try dsimp only at hSw); go_simp; try with_reducible rfl)
    try simp only [Act.put, List.setIfInBounds_toArray, List.set_cons_zero, List.set_cons_succ]
    refine wpAnyH_take (i := 18) (v := ?_) (by simp only [List.getElem?_toArray, List.getElem?_cons_succ, List.getElem?_cons_zero]; rfl) (by kernel_rfl) (by kernel_rfl) (by kernel_rfl) (fun _ _ _ h => h) (Or.inl ⟨by rfl, ?_⟩) (by assumption) ?_
    rotate_left
    · (intro w hSw; (try dsimp only at hSw); go_simp; try with_reducible rfl)
    try simp only [Act.put, List.setIfInBounds_toArray, List.set_cons_zero, List.set_cons_succ]
    refine wpAnyH_take (i := 19) (v := ?_) (by simp only [List.getElem?_toArray, List.getElem?_cons_succ, List.getElem?_cons_zero]; rfl) (by kernel_rfl) (by kernel_rfl) (by kernel_rfl) (fun _ _ _ h => h) (Or.inl ⟨by rfl, ?_⟩) (by assumption) ?_
    rotate_left
    · (intro w hSw; (try dsimp only at hSw); go_simp; try with_reducible rfl)
    try simp only [Act.put, List.setIfInBounds_toArray, List.set_cons_zero, List.set_cons_succ]
    refine wpAnyH_take (i := 20) (v := ?_) (by simp only [List.getElem?_toArray, List.getElem?_cons_succ, List.getElem?_cons_zero]; rfl) (by kernel_rfl) (by kernel_rfl) (by kernel_rfl) (fun _ _ _ h => h) (Or.inl ⟨by rfl, ?_⟩) (by assumption) ?_
    rotate_left
    · (intro w hSw; (try dsimp only at hSw); go_simp; try with_reducible rfl)
    try simp only [Act.put, List.setIfInBounds_toArray, List.set_cons_zero, List.set_cons_succ]
    refine wpAnyH_take (i := 21) (v := ?_) (by simp only [List.getElem?_toArray, List.getElem?_cons_succ, List.getElem?_cons_zero]; rfl) (by kernel_rfl) (by kernel_rfl) (by kernel_rfl) (fun _ _ _ h => h) (Or.inl ⟨by rfl, ?_⟩) (by assumption) ?_
    rotate_left
    · (intro w hSw; (try dsimp only at hSw); go_simp; try with_reducible rfl)
    try simp only [Act.put, List.setIfInBounds_toArray, List.set_cons_zero, List.set_cons_succ]
    refine wpAnyH_take (i := 22) (v := ?_) (by simp only [List.getElem?_toArray, List.getElem?_cons_succ, List.getElem?_cons_zero]; rfl) (by kernel_rfl) (by kernel_rfl) (by kernel_rfl) (fun _ _ _ h => h) (Or.inl ⟨by rfl, ?_⟩) (by assumption) ?_
    rotate_left
    · (intro w hSw; (try dsimp only at hSw); go_simp; try with_reducible rfl)
    try simp only [Act.put, List.setIfInBounds_toArray, List.set_cons_zero, List.set_cons_succ]
    refine wpAnyH_done (by kernel_rfl) ?_ _
    refine NoPanic.normal ?_
    clear hb x3 x1 x2 dA
    obtain ⟨hb, x3, x1, x2, dA⟩ := hHeld
    replace dA := Lib.hid dA
    clear w1 w2 w3 sp sb x1 x2 d1 d2
    generalize World.drew _ = v at *
    obtain ⟨s1, hs1⟩ : ∃ t, t = s + np + nb + na := ⟨_, rfl⟩
    have hsi : (s : Int) + (np : Int) + (nb : Int) + (na : Int) = (s1 : Int) := by omega
    rw [hsi]
    have HS1 := Lib.hid hs1
    clear hsi
    by_cases hbA : na > 30
    · have e5 : decide ((na : Int) > 30) = true := decide_eq_true (by omega)
      have e6 : decide ((30 : Int) < (na : Int)) = true := decide_eq_true (by omega)
      clear HX hbA hs1
      go_wp2
      go_ret
      exact ⟨true, rfl, (fun h => by cases h), hb⟩
    have e5 : decide ((na : Int) > 30) = false := decide_eq_false (by omega)
    have e6 : decide ((30 : Int) < (na : Int)) = false := decide_eq_false (by omega)
    have b1 : na ≤ 30 := by omega
    have b6 : s1 ≤ s + 422212465053696 := by omega
    clear hs1 hbA
    go_wp2_with fail
    go_loop [3, 5] (fun nv jv => ∃ j u : Nat, j ≤ na ∧ jv = .int .i64 j ∧ nv = .int .i64 u ∧ s1 ≤ u ∧ u ≤ s1 + j * 140737488351233 ∧ Hid (∀ i (hi : i < A.length), i < j → A[i].p.length ≤ u)) (fun _ jv => na - (intOf jv).toNat)
    case atStart => exact ⟨0, s1, by omega, rfl, rfl, Nat.le_refl _, by omega, Lib.hid (fun i _ hi => by omega)⟩
    case round =>
      obtain ⟨j, u, hj, rfl, rfl, hu1, hu2, HI⟩ := hrel
      by_cases hlj : j < na
      · obtain ⟨b8, o8, rfl, hw8⟩ := marks_at dA.out (by omega)
        have hjl : j < A.length := by rw [← HAA.out]; exact hlj
        obtain ⟨c8, -⟩ := hw8 j hjl
        have hz8 := (HZA.out _ (List.getElem_mem hjl)).1
        have d9 : decide ((j : Int) < (na : Int)) = true := decide_eq_true (by omega)
        have j8 : (0 : Int) ≤ (j : Int) := by omega
        have j9 : (j : Int) < (na : Int) := by omega
        have HI2 : Hid (∀ t' : Nat, u + A[j].p.length ≤ t' → ∀ i (hi : i < A.length), i < j + 1 → A[i].p.length ≤ t') := Lib.hid (fun t' ht' i hi hij => by
          by_cases e : i = j
          · subst e; omega
          · have := HI.out i hi (by omega); omega)
        obtain ⟨tx, htx⟩ : ∃ x, x = A[j].p := ⟨_, rfl⟩
        rw [← htx] at c8 hz8 HI2
        obtain ⟨q, hq⟩ : ∃ m, m = tx.length := ⟨_, rfl⟩
        rw [← hq] at hz8 HI2
        have sq : (tx.length : Int) = (q : Int) := by rw [hq]
        have HJ := Lib.hid hlj
        clear htx hw8 hq hlj hjl HI
        go_wp2
        go_round
        case rel => exact ⟨j + 1, u + q, by have := HJ.out; omega, by go_num, by go_num, by omega, by omega, Lib.hid (HI2.out _ (Nat.le_refl _))⟩
        case measure => have := HJ.out; simp [intOf]; omega
      · obtain rfl : na = j := by omega
        have d9 : decide ((na : Int) < (na : Int)) = false := decide_eq_false (by omega)
        have HAT : Hid (∀ x ∈ A, x.p.length ≤ u) := Lib.hid (take_len (P := fun m : M => m.p.length ≤ u) HI.out (by rw [HAA.out]; exact Nat.le_refl _))
        have HFin : Hid (∀ j (hj : j < Ls.length), j < k + 1 → Ls[j].Light u) := Lib.hid (HX.out u (by have := HS1.out; omega) ⟨by show A.length ≤ 30; rw [← HAA.out]; exact b1, by show pe.length ≤ u; have := HS1.out; have := HPB.out.1; omega, by show bp.length ≤ u; have := HS1.out; have := HPB.out.2; omega, HAT.out⟩)
        have b9 : u ≤ (k + 1) * 9007199254740992 := by omega
        clear HI hlj hu2
        go_wp2
        go_roundw
        case rel => exact ⟨k + 1, u, by have := HK.out; omega, by have := HK.out; omega, by go_num, rfl, b9, HFin, hb⟩
        case measure => have := HK.out; simp [intOf]; omega
end TreeLaw
end Go.Proofs.YtjnlooccddnbkaaGreatDoor

namespace Go.Proofs.YtjnlooccddnbkaaGreatDoor
namespace TreeLaw
open Go.RowKit Go.Proofs.YtjnlooccddnbkaaGreatDoor.Mark
theorem k_int : Tryz.prog.cellsOf 3 = 1 := by kernel_rfl
theorem k_str : Tryz.prog.cellsOf 9 = 1 := by kernel_rfl
theorem k_marks : Tryz.prog.cellsOf 23 = 1 := by kernel_rfl
theorem k_step : Tryz.prog.cellsOf 26 = 4 := by kernel_rfl
section
variable {H : Type} {enc' : TypeId × Value → H} {w : World} {base : Nat} {spare : Nat → Bool} {held : Bool} {cs : List Value}
set_option maxRecDepth 100000 in
theorem step_in (cs : List Value) (h : Tr enc' Tryz.prog w base spare held 26 cs) : ∃ x : St, cs = encS.cells x ∧ (x.Sized ∧ x.Deep w) := by
  have hl := (Tr.struct Tryz.underlying26 h).1.trans k_step
  have h0 := Tr.field Tryz.underlying26 h 0 _ rfl rfl rfl k_int
  have h1 := Tr.field Tryz.underlying26 h 1 _ rfl rfl rfl k_str
  have h2 := Tr.field Tryz.underlying26 h 2 _ rfl rfl rfl k_str
  have h3 := Tr.field Tryz.underlying26 h 3 _ rfl rfl rfl k_marks
  match cs, hl with
  | [x0, x1, x2, x3], _ =>
    obtain ⟨d, e0, _⟩ := Tr.int Tryz.underlying3 h0
    obtain ⟨key, e1, z1⟩ := Tr.str Tryz.underlying9 h1
    obtain ⟨bs, e2, z2⟩ := Tr.str Tryz.underlying9 h2
    obtain ⟨ms, mc, A, e3, hA, zA, zl⟩ := marks_in h3
    obtain rfl : x0 = _ := List.head_eq_of_cons_eq e0
    obtain rfl : x1 = _ := List.head_eq_of_cons_eq e1
    obtain rfl : x2 = _ := List.head_eq_of_cons_eq e2
    obtain rfl : x3 = _ := List.head_eq_of_cons_eq e3
    exact ⟨⟨d, key, bs, ms, mc, A⟩, rfl, ⟨z1, z2, zl, fun m hm => ⟨(zA m hm).2, (zA m hm).1⟩⟩, hA⟩
end
section
variable {H : Type} {enc' : TypeId × Value → H} {w : World} {base b0 : Nat} {spare : Nat → Bool} {held : Bool} {r : Reach} {v : Value} {d : DataW H} {ps : List MemPlace} {ts : List TypeId} {ds : List (DataW H)} {j : Nat}
set_option maxRecDepth 100000 in
theorem slice_is {t e : TypeId} (ht : Tryz.prog.underlying t = some (.slice e)) (hv : Value.okWide Tryz.prog w r b0 t v) {a : Option Addr} {n c : Nat} (h : v.cells.toList = [.slice a n c]) : v = .slice a n c := by
  obtain ⟨a0, n0, c0, rfl⟩ := Go.WideShapes.okWide_slice ht hv
  simpa [Value.cells] using h
set_option maxRecDepth 100000 in
theorem open_marks (hz : (DataW.weightsEach Tryz.prog ts ds).all (· ≤ reachBytes) = true) (ht : ts[j]? = some 23) (hd : ds[j]? = some d) (hv : Value.okWide Tryz.prog w r b0 23 v) (h : DataW.Trod enc' Tryz.prog w base spare held 23 v d ps) :
    ∃ (L : List M) (a : Option Addr) (c : Nat), v = .slice a L.length c ∧ L.length ≤ 140737488351232 ∧ Mark.Lies w a L.length L ∧ ∀ x ∈ L, x.Was := by
  obtain ⟨a, c, L, e, h1, h2, h3⟩ := marks_in (Tr.of hz ht hd h)
  exact ⟨L, a, c, slice_is Tryz.underlying23 hv e, h3, h1, h2⟩
set_option maxRecDepth 100000 in
theorem open_steps (hz : (DataW.weightsEach Tryz.prog ts ds).all (· ≤ reachBytes) = true) (ht : ts[j]? = some 22) (hd : ds[j]? = some d) (hv : Value.okWide Tryz.prog w r b0 22 v) (h : DataW.Trod enc' Tryz.prog w base spare held 22 v d ps) :
    ∃ (L : List St) (a : Option Addr) (c : Nat), v = .slice a L.length c ∧ L.length ≤ 140737488351232 ∧ Steps w a L.length L ∧ ∀ x ∈ L, x.Sized ∧ x.Deep w := by
  obtain ⟨a, c, L, e, h1, h2, h3, _⟩ := Row.rows_in (E := encS) Tryz.underlying22 k_step (by kernel_rfl) step_in (Tr.of hz ht hd h)
  exact ⟨L, a, c, slice_is Tryz.underlying22 hv e, h3, h1, h2⟩
end
end TreeLaw
end Go.Proofs.YtjnlooccddnbkaaGreatDoor
