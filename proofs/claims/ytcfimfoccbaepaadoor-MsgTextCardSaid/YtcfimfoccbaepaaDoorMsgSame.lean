/- the laws' same. -/
import Derived.Test.YtcfimfoccbaepaaDoorMsgHeavy
namespace Go.Proofs.YtcfimfoccbaepaaDoor
namespace Msg
open Go.RowKit Go.Proofs.YtcfimfoccbaepaaDoor.Mark Go.Proofs.YtcfimfoccbaepaaDoor.Num Go.Proofs.YtcfimfoccbaepaaDoor.Wire

theorem eql_of (T : TypeId) (h : Tryd.prog.underlying T = Tryd.prog.underlying 47) (hp : Tryd.prog.stoodInHeld T = false) (m k : M) (w : World) : (Op.equalIn 10000 T (.agg (m.cells).toArray) (.agg (k.cells).toArray)).run Tryd.prog w = .ok (m.p == k.p && (m.n : Int) == (k.n : Int)) w := by
  have hS : Tryd.prog.underlying T = some (.struct (Tryd.prog.fieldsOf T)) := by rw [Program.fieldsOf, h]; kernel_rfl
  rw [show (10000 : Nat) = 9999 + 1 from rfl, run_equalIn_agg w 9999 T _ _ hS hp]
  simp only [Program.fieldsOf, h, Tryd.underlying47, M.cells]
  have u1 := Tryd.underlying9
  have u2 := Tryd.underlying22
  go_simp
  by_cases h1 : m.p = k.p <;> by_cases h2 : (m.n : Int) = (k.n : Int) <;> simp [h1, h2]
theorem eqM_iff (m k : M) : (m.p == k.p && (m.n : Int) == (k.n : Int)) = decide (m = k) := by
  by_cases h : m = k
  · subst h; simp
  · rw [decide_eq_false h]
    cases h1 : (m.p == k.p) with
    | false => rfl
    | true =>
      have e1 : m.p = k.p := by simpa using h1
      have : m.n ≠ k.n := fun e => h (M.ext' e1 e)
      simp; omega
theorem neq_mark (m k : M) (w : World) : (binOp .neq 47 (.agg #[.string ⟨m.p.toArray⟩, .int .u64 (m.n : Int)]) (.agg #[.string ⟨k.p.toArray⟩, .int .u64 (k.n : Int)])).run Tryd.prog w = .ok (.bool (!decide (m = k))) w := by
  rw [run_neq_struct]
  have h := eql_of 47 rfl (by kernel_rfl) m k w
  rw [eqM_iff] at h
  unfold M.cells at h
  rw [h]; rfl
theorem eql_parts (id : Nat) (i n : Int) (tx : List UInt8) (id2 : Nat) (i2 n2 : Int) (tx2 : List UInt8) (w : World) :
    (binOp .eql 25 (.agg #[.int .u64 (id : Int), .int .i64 i, .int .i64 n, .string ⟨tx.toArray⟩]) (.agg #[.int .u64 (id2 : Int), .int .i64 i2, .int .i64 n2, .string ⟨tx2.toArray⟩])).run Tryd.prog w = .ok (.bool (decide (id = id2 ∧ i = i2 ∧ n = n2 ∧ tx = tx2))) w := by
  rw [run_eql_struct]
  have hS : Tryd.prog.underlying 25 = some (.struct (Tryd.prog.fieldsOf 25)) := by rw [Program.fieldsOf]; kernel_rfl
  rw [show (10000 : Nat) = 9999 + 1 from rfl, run_equalIn_agg w 9999 25 _ _ hS (by kernel_rfl)]
  simp only [Program.fieldsOf, Tryd.underlying25]
  have u1 := Tryd.underlying9
  have u2 := Tryd.underlying22
  have u3 := Tryd.underlying3
  go_simp
  by_cases h1 : id = id2 <;> by_cases h2 : i = i2 <;> by_cases h3 : n = n2 <;> by_cases h4 : tx = tx2 <;> simp [h1, h2, h3, h4] <;> omega

set_option maxRecDepth 100000 in
set_option maxHeartbeats 8000000 in
theorem same_any (k : Nat) (src dst fr : List UInt8) (sq : Nat) (R : List M) (id : Nat) (ii nn : Int) (tx : List UInt8) (a : Option Addr) (c : Nat)
    (k2 : Nat) (src2 dst2 fr2 : List UInt8) (sq2 : Nat) (R2 : List M) (id2 : Nat) (ii2 nn2 : Int) (tx2 : List UInt8) (a2 : Option Addr) (c2 : Nat) (w : World) (hL : Lies w a R.length R) (hK : Lies w a2 R2.length R2) (hn : R.length ≤ 1099511627776) :
    Calls Tryd.prog 16 #[.agg #[.int .u8 (k : Int), .string ⟨src.toArray⟩, .string ⟨dst.toArray⟩, .string ⟨fr.toArray⟩, .int .u64 (sq : Int), .slice a R.length c, .int .u64 (id : Int), .int .i64 ii, .int .i64 nn, .string ⟨tx.toArray⟩], .agg #[.int .u8 (k2 : Int), .string ⟨src2.toArray⟩, .string ⟨dst2.toArray⟩, .string ⟨fr2.toArray⟩, .int .u64 (sq2 : Int), .slice a2 R2.length c2, .int .u64 (id2 : Int), .int .i64 ii2, .int .i64 nn2, .string ⟨tx2.toArray⟩]] w fun e w' => e = .returned (.bool (decide ((G.mk k src dst fr sq R id ii nn tx) = (G.mk k2 src2 dst2 fr2 sq2 R2 id2 ii2 nn2 tx2)))) ∧ Below w.heap.size w w' := by
  have hb := balloc (balloc (Below.refl w.heap.size w) (.cells #[.int .u8 (k : Int), .string ⟨src.toArray⟩, .string ⟨dst.toArray⟩, .string ⟨fr.toArray⟩, .int .u64 (sq : Int), .slice a R.length c, .int .u64 (id : Int), .int .i64 ii, .int .i64 nn, .string ⟨tx.toArray⟩] 27)) (.cells #[.int .u8 (k2 : Int), .string ⟨src2.toArray⟩, .string ⟨dst2.toArray⟩, .string ⟨fr2.toArray⟩, .int .u64 (sq2 : Int), .slice a2 R2.length c2, .int .u64 (id2 : Int), .int .i64 ii2, .int .i64 nn2, .string ⟨tx2.toArray⟩] 27)
  have bx : Box ((w.alloc (.cells #[.int .u8 (k : Int), .string ⟨src.toArray⟩, .string ⟨dst.toArray⟩, .string ⟨fr.toArray⟩, .int .u64 (sq : Int), .slice a R.length c, .int .u64 (id : Int), .int .i64 ii, .int .i64 nn, .string ⟨tx.toArray⟩] 27)).alloc (.cells #[.int .u8 (k2 : Int), .string ⟨src2.toArray⟩, .string ⟨dst2.toArray⟩, .string ⟨fr2.toArray⟩, .int .u64 (sq2 : Int), .slice a2 R2.length c2, .int .u64 (id2 : Int), .int .i64 ii2, .int .i64 nn2, .string ⟨tx2.toArray⟩] 27)) w.heap.size #[.int .u8 (k : Int), .string ⟨src.toArray⟩, .string ⟨dst.toArray⟩, .string ⟨fr.toArray⟩, .int .u64 (sq : Int), .slice a R.length c, .int .u64 (id : Int), .int .i64 ii, .int .i64 nn, .string ⟨tx.toArray⟩] := (Box.new w _ _).below (balloc (Below.refl _ _) _)
  have by2 : Box ((w.alloc (.cells #[.int .u8 (k : Int), .string ⟨src.toArray⟩, .string ⟨dst.toArray⟩, .string ⟨fr.toArray⟩, .int .u64 (sq : Int), .slice a R.length c, .int .u64 (id : Int), .int .i64 ii, .int .i64 nn, .string ⟨tx.toArray⟩] 27)).alloc (.cells #[.int .u8 (k2 : Int), .string ⟨src2.toArray⟩, .string ⟨dst2.toArray⟩, .string ⟨fr2.toArray⟩, .int .u64 (sq2 : Int), .slice a2 R2.length c2, .int .u64 (id2 : Int), .int .i64 ii2, .int .i64 nn2, .string ⟨tx2.toArray⟩] 27)) (w.heap.size + 1) #[.int .u8 (k2 : Int), .string ⟨src2.toArray⟩, .string ⟨dst2.toArray⟩, .string ⟨fr2.toArray⟩, .int .u64 (sq2 : Int), .slice a2 R2.length c2, .int .u64 (id2 : Int), .int .i64 ii2, .int .i64 nn2, .string ⟨tx2.toArray⟩] := by have h := Box.new (w.alloc (.cells #[.int .u8 (k : Int), .string ⟨src.toArray⟩, .string ⟨dst.toArray⟩, .string ⟨fr.toArray⟩, .int .u64 (sq : Int), .slice a R.length c, .int .u64 (id : Int), .int .i64 ii, .int .i64 nn, .string ⟨tx.toArray⟩] 27)) #[.int .u8 (k2 : Int), .string ⟨src2.toArray⟩, .string ⟨dst2.toArray⟩, .string ⟨fr2.toArray⟩, .int .u64 (sq2 : Int), .slice a2 R2.length c2, .int .u64 (id2 : Int), .int .i64 ii2, .int .i64 nn2, .string ⟨tx2.toArray⟩] 27; rw [World.size_alloc] at h; exact h
  have lL := Lib.hid (hL.below (balloc (balloc (Below.refl w.heap.size w) (.cells #[.int .u8 (k : Int), .string ⟨src.toArray⟩, .string ⟨dst.toArray⟩, .string ⟨fr.toArray⟩, .int .u64 (sq : Int), .slice a R.length c, .int .u64 (id : Int), .int .i64 ii, .int .i64 nn, .string ⟨tx.toArray⟩] 27)) (.cells #[.int .u8 (k2 : Int), .string ⟨src2.toArray⟩, .string ⟨dst2.toArray⟩, .string ⟨fr2.toArray⟩, .int .u64 (sq2 : Int), .slice a2 R2.length c2, .int .u64 (id2 : Int), .int .i64 ii2, .int .i64 nn2, .string ⟨tx2.toArray⟩] 27)))
  have lK := Lib.hid (hK.below (balloc (balloc (Below.refl w.heap.size w) (.cells #[.int .u8 (k : Int), .string ⟨src.toArray⟩, .string ⟨dst.toArray⟩, .string ⟨fr.toArray⟩, .int .u64 (sq : Int), .slice a R.length c, .int .u64 (id : Int), .int .i64 ii, .int .i64 nn, .string ⟨tx.toArray⟩] 27)) (.cells #[.int .u8 (k2 : Int), .string ⟨src2.toArray⟩, .string ⟨dst2.toArray⟩, .string ⟨fr2.toArray⟩, .int .u64 (sq2 : Int), .slice a2 R2.length c2, .int .u64 (id2 : Int), .int .i64 ii2, .int .i64 nn2, .string ⟨tx2.toArray⟩] 27)))
  clear hL hK
  by_cases hne : R.length = R2.length
  rotate_left
  · have HV : Hid (decide ((G.mk k src dst fr sq R id ii nn tx) = (G.mk k2 src2 dst2 fr2 sq2 R2 id2 ii2 nn2 tx2)) = false) := Lib.hid (decide_eq_false fun e => hne (by rw [show R = R2 from congrArg G.all e]))
    have hneq : ((R.length : Int) != (R2.length : Int)) = true := by rw [bne_iff_ne]; omega
    have x5 := bx 5 _ rfl
    have y5 := by2 5 _ rfl
    clear bx by2
    go_enter Tryd.func16, Tryd.ntmps16
    go_wp2
    go_ret
    exact ⟨by rw [HV.out]; rfl, hb⟩
  have hneq : ((R.length : Int) != (R2.length : Int)) = false := by rw [bne_eq_false_iff_eq]; omega
  have HN := Lib.hid hne
  have hnR2 : R2.length ≤ 1099511627776 := by omega
  clear hne
  have x5 := bx 5 _ rfl
  have y5 := by2 5 _ rfl
  replace bx := Lib.hid bx
  replace by2 := Lib.hid by2
  go_enter Tryd.func16, Tryd.ntmps16
  go_wp2_with fail
  go_loopw [5] (fun iv wr => ∃ q : Nat, q ≤ R.length ∧ iv = .int .i64 q ∧ R.take q = R2.take q ∧ Below w.heap.size w wr ∧ Lies wr a R.length R ∧ Lies wr a2 R2.length R2 ∧ Box wr w.heap.size #[.int .u8 (k : Int), .string ⟨src.toArray⟩, .string ⟨dst.toArray⟩, .string ⟨fr.toArray⟩, .int .u64 (sq : Int), .slice a R.length c, .int .u64 (id : Int), .int .i64 ii, .int .i64 nn, .string ⟨tx.toArray⟩] ∧ Box wr (w.heap.size + 1) #[.int .u8 (k2 : Int), .string ⟨src2.toArray⟩, .string ⟨dst2.toArray⟩, .string ⟨fr2.toArray⟩, .int .u64 (sq2 : Int), .slice a2 R2.length c2, .int .u64 (id2 : Int), .int .i64 ii2, .int .i64 nn2, .string ⟨tx2.toArray⟩]) (fun iv _ => R.length - (intOf iv).toNat)
  case atStart => exact ⟨0, by omega, rfl, rfl, hb, lL.out, lK.out, bx.out, by2.out⟩
  case round =>
    clear x5 y5 hb lL lK bx by2
    obtain ⟨q, hq, rfl, hs, hb, lL, lK, bx, by2⟩ := hrel
    have hne := HN.out
    by_cases hlt : q < R.length
    · obtain ⟨b1, o1, rfl, hcell1⟩ := lL.2 (by omega)
      obtain ⟨b2, o2, rfl, hcell2⟩ := lK.2 (by omega)
      obtain ⟨d1, d2⟩ := hcell1 q (by omega)
      obtain ⟨d3, d4⟩ := hcell2 q (by omega)
      have hs1 : R.take (q + 1) = R.take q ++ [R[q]'(by omega)] := List.take_succ_eq_append_getElem (by omega)
      have hs2 : R2.take (q + 1) = R2.take q ++ [R2[q]'(by omega)] := List.take_succ_eq_append_getElem (by omega)
      obtain ⟨m, hm⟩ : ∃ m, m = R[q]'(by omega) := ⟨_, rfl⟩
      obtain ⟨x, hx⟩ : ∃ x, x = R2[q]'(by omega) := ⟨_, rfl⟩
      rw [← hm] at d1 d2 hs1
      rw [← hx] at d3 d4 hs2
      have hE := neq_mark m x
      have x5 := bx 5 _ rfl
      have y5 := by2 5 _ rfl
      have j0 : decide ((q : Int) < (R.length : Int)) = true := decide_eq_true (by omega)
      have j1 : (0 : Int) ≤ (q : Int) := by omega
      have j2 : (q : Int) < (R.length : Int) := by omega
      have j3 : (q : Int) < (R2.length : Int) := by omega
      replace lL := Lib.hid lL
      replace lK := Lib.hid lK
      replace bx := Lib.hid bx
      replace by2 := Lib.hid by2
      by_cases he : m = x
      · rw [decide_eq_true he] at hE
        have HS : Hid (R.take (q + 1) = R2.take (q + 1)) := Lib.hid (by rw [hs1, hs2, hs, he])
        have HQ := Lib.hid hlt
        clear hs hs1 hs2 hm hx hcell1 hcell2 he hlt
        go_wp2_with fail
        refine wp_region_noPanic ?_
        refine wp_region_held_drew (S := (fun w' => Below w.heap.size w w' ∧ w'.cell? ⟨b1, o1 + q * 2, none⟩ = some (.string ⟨m.p.toArray⟩) ∧ w'.cell? ⟨b1, o1 + q * 2 + 1, none⟩ = some (.int .u64 (m.n : Int)) ∧ w'.cell? ⟨b2, o2 + q * 2, none⟩ = some (.string ⟨x.p.toArray⟩) ∧ w'.cell? ⟨b2, o2 + q * 2 + 1, none⟩ = some (.int .u64 (x.n : Int)) ∧ w'.cell? ⟨w.heap.size, 5, none⟩ = some (.slice (some ⟨b1, o1, none⟩) R.length c) ∧ w'.cell? ⟨w.heap.size + 1, 5, none⟩ = some (.slice (some ⟨b2, o2, none⟩) R2.length c2) ∧ Lies w' (some ⟨b1, o1, none⟩) R.length R ∧ Lies w' (some ⟨b2, o2, none⟩) R2.length R2 ∧ Box w' w.heap.size #[.int .u8 (k : Int), .string ⟨src.toArray⟩, .string ⟨dst.toArray⟩, .string ⟨fr.toArray⟩, .int .u64 (sq : Int), .slice (some ⟨b1, o1, none⟩) R.length c, .int .u64 (id : Int), .int .i64 ii, .int .i64 nn, .string ⟨tx.toArray⟩] ∧ Box w' (w.heap.size + 1) #[.int .u8 (k2 : Int), .string ⟨src2.toArray⟩, .string ⟨dst2.toArray⟩, .string ⟨fr2.toArray⟩, .int .u64 (sq2 : Int), .slice (some ⟨b2, o2, none⟩) R2.length c2, .int .u64 (id2 : Int), .int .i64 ii2, .int .i64 nn2, .string ⟨tx2.toArray⟩])) (by kernel_rfl) (⟨Below.drew hb, keepC d1 (Below.drew (Below.refl _ _)), keepC d2 (Below.drew (Below.refl _ _)), keepC d3 (Below.drew (Below.refl _ _)), keepC d4 (Below.drew (Below.refl _ _)), keepC x5 (Below.drew (Below.refl _ _)), keepC y5 (Below.drew (Below.refl _ _)), (lL.out).below (Below.drew (Below.refl _ _)), (lK.out).below (Below.drew (Below.refl _ _)), (bx.out).below (Below.drew (Below.refl _ _)), (by2.out).below (Below.drew (Below.refl _ _))⟩) (fun hHeld => ?_)
        refine wpAnyH_take (i := 0) (v := ?_) (by simp only [List.getElem?_toArray, List.getElem?_cons_zero]; rfl) (by kernel_rfl) (by kernel_rfl) (by kernel_rfl) (fun _ _ _ h => h) (Or.inl ⟨by rfl, ?_⟩) (by assumption) ?_
        rotate_left
        · (intro w hSw; (try dsimp only at hSw); go_simp; try with_reducible rfl)
        try simp only [Act.put, List.setIfInBounds_toArray, List.set_cons_zero, List.set_cons_succ]
        refine wpAnyH_take (i := 1) (v := ?_) (by simp only [List.getElem?_toArray, List.getElem?_cons_succ, List.getElem?_cons_zero]; rfl) (by kernel_rfl) (by kernel_rfl) (by kernel_rfl) (fun _ _ _ h => h) (Or.inl ⟨by rfl, ?_⟩) (by assumption) ?_
        rotate_left
        · (intro w hSw; (try dsimp only at hSw); go_simp; try with_reducible rfl)
        try simp only [Act.put, List.setIfInBounds_toArray, List.set_cons_zero, List.set_cons_succ]
        refine wpAnyH_take (i := 2) (v := ?_) (by simp only [List.getElem?_toArray, List.getElem?_cons_succ, List.getElem?_cons_zero]; rfl) (by kernel_rfl) (by kernel_rfl) (by kernel_rfl) (fun _ _ _ h => h) (Or.inl ⟨by rfl, ?_⟩) (by assumption) ?_
        rotate_left
        · (intro w hSw; (try dsimp only at hSw); go_simp; try with_reducible rfl)
        try simp only [Act.put, List.setIfInBounds_toArray, List.set_cons_zero, List.set_cons_succ]
        refine wpAnyH_take (i := 3) (v := ?_) (by simp only [List.getElem?_toArray, List.getElem?_cons_succ, List.getElem?_cons_zero]; rfl) (by kernel_rfl) (by kernel_rfl) (by kernel_rfl) (fun _ _ _ h => h) (Or.inl ⟨by rfl, ?_⟩) (by assumption) ?_
        rotate_left
        · (intro w hSw; (try dsimp only at hSw); go_simp; try with_reducible rfl)
        try simp only [Act.put, List.setIfInBounds_toArray, List.set_cons_zero, List.set_cons_succ]
        refine wpAnyH_take (i := 4) (v := ?_) (by simp only [List.getElem?_toArray, List.getElem?_cons_succ, List.getElem?_cons_zero]; rfl) (by kernel_rfl) (by kernel_rfl) (by kernel_rfl) (fun _ _ _ h => h) (Or.inl ⟨by rfl, ?_⟩) (by assumption) ?_
        rotate_left
        · (intro w hSw; (try dsimp only at hSw); go_simp; try with_reducible rfl)
        try simp only [Act.put, List.setIfInBounds_toArray, List.set_cons_zero, List.set_cons_succ]
        refine wpAnyH_take (i := 5) (v := ?_) (by simp only [List.getElem?_toArray, List.getElem?_cons_succ, List.getElem?_cons_zero]; rfl) (by kernel_rfl) (by kernel_rfl) (by kernel_rfl) (fun _ _ _ h => h) (Or.inl ⟨by rfl, ?_⟩) (by assumption) ?_
        rotate_left
        · (intro w hSw; (try dsimp only at hSw); go_simp; try with_reducible rfl)
        try simp only [Act.put, List.setIfInBounds_toArray, List.set_cons_zero, List.set_cons_succ]
        refine wpAnyH_take (i := 6) (v := ?_) (by simp only [List.getElem?_toArray, List.getElem?_cons_succ, List.getElem?_cons_zero]; rfl) (by kernel_rfl) (by kernel_rfl) (by kernel_rfl) (fun _ _ _ h => h) (Or.inl ⟨by rfl, ?_⟩) (by assumption) ?_
        rotate_left
        · (intro w hSw; (try dsimp only at hSw); go_simp; try with_reducible rfl)
        try simp only [Act.put, List.setIfInBounds_toArray, List.set_cons_zero, List.set_cons_succ]
        refine wpAnyH_take (i := 7) (v := ?_) (by simp only [List.getElem?_toArray, List.getElem?_cons_succ, List.getElem?_cons_zero]; rfl) (by kernel_rfl) (by kernel_rfl) (by kernel_rfl) (fun _ _ _ h => h) (Or.inl ⟨by rfl, ?_⟩) (by assumption) ?_
        rotate_left
        · (intro w hSw; (try dsimp only at hSw); go_simp; try with_reducible rfl)
        try simp only [Act.put, List.setIfInBounds_toArray, List.set_cons_zero, List.set_cons_succ]
        refine wpAnyH_take (i := 8) (v := ?_) (by simp only [List.getElem?_toArray, List.getElem?_cons_succ, List.getElem?_cons_zero]; rfl) (by kernel_rfl) (by kernel_rfl) (by kernel_rfl) (fun _ _ _ h => h) (Or.inl ⟨by rfl, ?_⟩) (by assumption) ?_
        rotate_left
        · (intro w hSw; (try dsimp only at hSw); go_simp; try with_reducible rfl)
        try simp only [Act.put, List.setIfInBounds_toArray, List.set_cons_zero, List.set_cons_succ]
        refine wpAnyH_take (i := 9) (v := ?_) (by simp only [List.getElem?_toArray, List.getElem?_cons_succ, List.getElem?_cons_zero]; rfl) (by kernel_rfl) (by kernel_rfl) (by kernel_rfl) (fun _ _ _ h => h) (Or.inl ⟨by rfl, ?_⟩) (by assumption) ?_
        rotate_left
        · (intro w hSw; (try dsimp only at hSw); go_simp; try with_reducible rfl)
        try simp only [Act.put, List.setIfInBounds_toArray, List.set_cons_zero, List.set_cons_succ]
        refine wpAnyH_take (i := 10) (v := ?_) (by simp only [List.getElem?_toArray, List.getElem?_cons_succ, List.getElem?_cons_zero]; rfl) (by kernel_rfl) (by kernel_rfl) (by kernel_rfl) (fun _ _ _ h => h) (Or.inl ⟨by rfl, ?_⟩) (by assumption) ?_
        rotate_left
        · (intro w hSw; (try dsimp only at hSw); go_simp; try with_reducible rfl)
        try simp only [Act.put, List.setIfInBounds_toArray, List.set_cons_zero, List.set_cons_succ]
        refine wpAnyH_done (by kernel_rfl) ?_ _
        refine NoPanic.normal ?_
        clear hb d1 d2 d3 d4 x5 y5 lL lK bx by2
        obtain ⟨hb, d1, d2, d3, d4, x5, y5, lL, lK, bx, by2⟩ := hHeld
        replace lL := Lib.hid lL
        replace lK := Lib.hid lK
        replace bx := Lib.hid bx
        replace by2 := Lib.hid by2
        go_wp2
        go_roundw
        case rel => exact ⟨q + 1, by have := HQ.out; omega, by go_num, HS.out, hb, lL.out, lK.out, bx.out, by2.out⟩
        case measure => have := HQ.out; simp [intOf]; omega
      · rw [decide_eq_false he] at hE
        have HV : Hid (decide ((G.mk k src dst fr sq R id ii nn tx) = (G.mk k2 src2 dst2 fr2 sq2 R2 id2 ii2 nn2 tx2)) = false) := Lib.hid (decide_eq_false fun e => he (by have e2 : R = R2 := congrArg G.all e; rw [hm, hx]; simp only [e2]))
        clear hs hs1 hs2 hm hx hcell1 hcell2 he hlt
        go_wp2_with fail
        refine wp_region_noPanic ?_
        refine wp_region_held_drew (S := (fun w' => Below w.heap.size w w' ∧ w'.cell? ⟨b1, o1 + q * 2, none⟩ = some (.string ⟨m.p.toArray⟩) ∧ w'.cell? ⟨b1, o1 + q * 2 + 1, none⟩ = some (.int .u64 (m.n : Int)) ∧ w'.cell? ⟨b2, o2 + q * 2, none⟩ = some (.string ⟨x.p.toArray⟩) ∧ w'.cell? ⟨b2, o2 + q * 2 + 1, none⟩ = some (.int .u64 (x.n : Int)) ∧ w'.cell? ⟨w.heap.size, 5, none⟩ = some (.slice (some ⟨b1, o1, none⟩) R.length c) ∧ w'.cell? ⟨w.heap.size + 1, 5, none⟩ = some (.slice (some ⟨b2, o2, none⟩) R2.length c2) ∧ Lies w' (some ⟨b1, o1, none⟩) R.length R ∧ Lies w' (some ⟨b2, o2, none⟩) R2.length R2 ∧ Box w' w.heap.size #[.int .u8 (k : Int), .string ⟨src.toArray⟩, .string ⟨dst.toArray⟩, .string ⟨fr.toArray⟩, .int .u64 (sq : Int), .slice (some ⟨b1, o1, none⟩) R.length c, .int .u64 (id : Int), .int .i64 ii, .int .i64 nn, .string ⟨tx.toArray⟩] ∧ Box w' (w.heap.size + 1) #[.int .u8 (k2 : Int), .string ⟨src2.toArray⟩, .string ⟨dst2.toArray⟩, .string ⟨fr2.toArray⟩, .int .u64 (sq2 : Int), .slice (some ⟨b2, o2, none⟩) R2.length c2, .int .u64 (id2 : Int), .int .i64 ii2, .int .i64 nn2, .string ⟨tx2.toArray⟩])) (by kernel_rfl) (⟨Below.drew hb, keepC d1 (Below.drew (Below.refl _ _)), keepC d2 (Below.drew (Below.refl _ _)), keepC d3 (Below.drew (Below.refl _ _)), keepC d4 (Below.drew (Below.refl _ _)), keepC x5 (Below.drew (Below.refl _ _)), keepC y5 (Below.drew (Below.refl _ _)), (lL.out).below (Below.drew (Below.refl _ _)), (lK.out).below (Below.drew (Below.refl _ _)), (bx.out).below (Below.drew (Below.refl _ _)), (by2.out).below (Below.drew (Below.refl _ _))⟩) (fun hHeld => ?_)
        refine wpAnyH_take (i := 0) (v := ?_) (by simp only [List.getElem?_toArray, List.getElem?_cons_zero]; rfl) (by kernel_rfl) (by kernel_rfl) (by kernel_rfl) (fun _ _ _ h => h) (Or.inl ⟨by rfl, ?_⟩) (by assumption) ?_
        rotate_left
        · (intro w hSw; (try dsimp only at hSw); go_simp; try with_reducible rfl)
        try simp only [Act.put, List.setIfInBounds_toArray, List.set_cons_zero, List.set_cons_succ]
        refine wpAnyH_take (i := 1) (v := ?_) (by simp only [List.getElem?_toArray, List.getElem?_cons_succ, List.getElem?_cons_zero]; rfl) (by kernel_rfl) (by kernel_rfl) (by kernel_rfl) (fun _ _ _ h => h) (Or.inl ⟨by rfl, ?_⟩) (by assumption) ?_
        rotate_left
        · (intro w hSw; (try dsimp only at hSw); go_simp; try with_reducible rfl)
        try simp only [Act.put, List.setIfInBounds_toArray, List.set_cons_zero, List.set_cons_succ]
        refine wpAnyH_take (i := 2) (v := ?_) (by simp only [List.getElem?_toArray, List.getElem?_cons_succ, List.getElem?_cons_zero]; rfl) (by kernel_rfl) (by kernel_rfl) (by kernel_rfl) (fun _ _ _ h => h) (Or.inl ⟨by rfl, ?_⟩) (by assumption) ?_
        rotate_left
        · (intro w hSw; (try dsimp only at hSw); go_simp; try with_reducible rfl)
        try simp only [Act.put, List.setIfInBounds_toArray, List.set_cons_zero, List.set_cons_succ]
        refine wpAnyH_take (i := 3) (v := ?_) (by simp only [List.getElem?_toArray, List.getElem?_cons_succ, List.getElem?_cons_zero]; rfl) (by kernel_rfl) (by kernel_rfl) (by kernel_rfl) (fun _ _ _ h => h) (Or.inl ⟨by rfl, ?_⟩) (by assumption) ?_
        rotate_left
        · (intro w hSw; (try dsimp only at hSw); go_simp; try with_reducible rfl)
        try simp only [Act.put, List.setIfInBounds_toArray, List.set_cons_zero, List.set_cons_succ]
        refine wpAnyH_take (i := 4) (v := ?_) (by simp only [List.getElem?_toArray, List.getElem?_cons_succ, List.getElem?_cons_zero]; rfl) (by kernel_rfl) (by kernel_rfl) (by kernel_rfl) (fun _ _ _ h => h) (Or.inl ⟨by rfl, ?_⟩) (by assumption) ?_
        rotate_left
        · (intro w hSw; (try dsimp only at hSw); go_simp; try with_reducible rfl)
        try simp only [Act.put, List.setIfInBounds_toArray, List.set_cons_zero, List.set_cons_succ]
        refine wpAnyH_take (i := 5) (v := ?_) (by simp only [List.getElem?_toArray, List.getElem?_cons_succ, List.getElem?_cons_zero]; rfl) (by kernel_rfl) (by kernel_rfl) (by kernel_rfl) (fun _ _ _ h => h) (Or.inl ⟨by rfl, ?_⟩) (by assumption) ?_
        rotate_left
        · (intro w hSw; (try dsimp only at hSw); go_simp; try with_reducible rfl)
        try simp only [Act.put, List.setIfInBounds_toArray, List.set_cons_zero, List.set_cons_succ]
        refine wpAnyH_take (i := 6) (v := ?_) (by simp only [List.getElem?_toArray, List.getElem?_cons_succ, List.getElem?_cons_zero]; rfl) (by kernel_rfl) (by kernel_rfl) (by kernel_rfl) (fun _ _ _ h => h) (Or.inl ⟨by rfl, ?_⟩) (by assumption) ?_
        rotate_left
        · (intro w hSw; (try dsimp only at hSw); go_simp; try with_reducible rfl)
        try simp only [Act.put, List.setIfInBounds_toArray, List.set_cons_zero, List.set_cons_succ]
        refine wpAnyH_take (i := 7) (v := ?_) (by simp only [List.getElem?_toArray, List.getElem?_cons_succ, List.getElem?_cons_zero]; rfl) (by kernel_rfl) (by kernel_rfl) (by kernel_rfl) (fun _ _ _ h => h) (Or.inl ⟨by rfl, ?_⟩) (by assumption) ?_
        rotate_left
        · (intro w hSw; (try dsimp only at hSw); go_simp; try with_reducible rfl)
        try simp only [Act.put, List.setIfInBounds_toArray, List.set_cons_zero, List.set_cons_succ]
        refine wpAnyH_take (i := 8) (v := ?_) (by simp only [List.getElem?_toArray, List.getElem?_cons_succ, List.getElem?_cons_zero]; rfl) (by kernel_rfl) (by kernel_rfl) (by kernel_rfl) (fun _ _ _ h => h) (Or.inl ⟨by rfl, ?_⟩) (by assumption) ?_
        rotate_left
        · (intro w hSw; (try dsimp only at hSw); go_simp; try with_reducible rfl)
        try simp only [Act.put, List.setIfInBounds_toArray, List.set_cons_zero, List.set_cons_succ]
        refine wpAnyH_take (i := 9) (v := ?_) (by simp only [List.getElem?_toArray, List.getElem?_cons_succ, List.getElem?_cons_zero]; rfl) (by kernel_rfl) (by kernel_rfl) (by kernel_rfl) (fun _ _ _ h => h) (Or.inl ⟨by rfl, ?_⟩) (by assumption) ?_
        rotate_left
        · (intro w hSw; (try dsimp only at hSw); go_simp; try with_reducible rfl)
        try simp only [Act.put, List.setIfInBounds_toArray, List.set_cons_zero, List.set_cons_succ]
        refine wpAnyH_take (i := 10) (v := ?_) (by simp only [List.getElem?_toArray, List.getElem?_cons_succ, List.getElem?_cons_zero]; rfl) (by kernel_rfl) (by kernel_rfl) (by kernel_rfl) (fun _ _ _ h => h) (Or.inl ⟨by rfl, ?_⟩) (by assumption) ?_
        rotate_left
        · (intro w hSw; (try dsimp only at hSw); go_simp; try with_reducible rfl)
        try simp only [Act.put, List.setIfInBounds_toArray, List.set_cons_zero, List.set_cons_succ]
        refine wpAnyH_done (by kernel_rfl) ?_ _
        refine NoPanic.normal ?_
        clear hb d1 d2 d3 d4 x5 y5 lL lK bx by2
        obtain ⟨hb, d1, d2, d3, d4, x5, y5, lL, lK, bx, by2⟩ := hHeld
        replace lL := Lib.hid lL
        replace lK := Lib.hid lK
        replace bx := Lib.hid bx
        replace by2 := Lib.hid by2
        go_wp2
        go_ret
        exact ⟨by rw [HV.out]; rfl, hb⟩
    · obtain rfl : q = R.length := by omega
      have hv : R = R2 := by
        rw [← List.take_of_length_le (l := R) (i := R.length) (by omega), hs, List.take_of_length_le (by omega)]
      have hd : decide ((R.length : Int) < (R.length : Int)) = false := decide_eq_false (by omega)
      have x0 := bx 0 (.int .u8 (k : Int)) rfl
      have y0 := by2 0 (.int .u8 (k2 : Int)) rfl
      have x1 := bx 1 (.string ⟨src.toArray⟩) rfl
      have y1 := by2 1 (.string ⟨src2.toArray⟩) rfl
      have x2 := bx 2 (.string ⟨dst.toArray⟩) rfl
      have y2 := by2 2 (.string ⟨dst2.toArray⟩) rfl
      have x3 := bx 3 (.string ⟨fr.toArray⟩) rfl
      have y3 := by2 3 (.string ⟨fr2.toArray⟩) rfl
      have x4 := bx 4 (.int .u64 (sq : Int)) rfl
      have y4 := by2 4 (.int .u64 (sq2 : Int)) rfl
      have x5 := bx 5 (.slice a R.length c) rfl
      have y5 := by2 5 (.slice a2 R2.length c2) rfl
      have x6 := bx 6 (.int .u64 (id : Int)) rfl
      have y6 := by2 6 (.int .u64 (id2 : Int)) rfl
      have x7 := bx 7 (.int .i64 ii) rfl
      have y7 := by2 7 (.int .i64 ii2) rfl
      have x8 := bx 8 (.int .i64 nn) rfl
      have y8 := by2 8 (.int .i64 nn2) rfl
      have x9 := bx 9 (.string ⟨tx.toArray⟩) rfl
      have y9 := by2 9 (.string ⟨tx2.toArray⟩) rfl
      replace hv := Lib.hid hv
      clear hs hne hlt bx by2 lL lK
      by_cases g0 : k = k2
      rotate_left
      · have t0 : ((k : Int) == (k2 : Int)) = false := by rw [beq_eq_false_iff_ne]; omega
        have HV : Hid (decide ((G.mk k src dst fr sq R id ii nn tx) = (G.mk k2 src2 dst2 fr2 sq2 R2 id2 ii2 nn2 tx2)) = false) := Lib.hid (decide_eq_false fun e => g0 (congrArg G.kind e))
        clear g0
        go_wp2
        go_ret
        exact ⟨by rw [HV.out]; rfl, hb⟩
      have t0 : ((k : Int) == (k2 : Int)) = true := by rw [beq_iff_eq]; omega
      replace g0 := Lib.hid g0
      by_cases g1 : src = src2
      rotate_left
      · have t1 : (src == src2) = false := by rw [beq_eq_false_iff_ne]; exact g1
        have HV : Hid (decide ((G.mk k src dst fr sq R id ii nn tx) = (G.mk k2 src2 dst2 fr2 sq2 R2 id2 ii2 nn2 tx2)) = false) := Lib.hid (decide_eq_false fun e => g1 (congrArg G.src e))
        clear g1
        go_wp2
        go_ret
        exact ⟨by rw [HV.out]; rfl, hb⟩
      have t1 : (src == src2) = true := by rw [beq_iff_eq]; exact g1
      replace g1 := Lib.hid g1
      by_cases g2 : dst = dst2
      rotate_left
      · have t2 : (dst == dst2) = false := by rw [beq_eq_false_iff_ne]; exact g2
        have HV : Hid (decide ((G.mk k src dst fr sq R id ii nn tx) = (G.mk k2 src2 dst2 fr2 sq2 R2 id2 ii2 nn2 tx2)) = false) := Lib.hid (decide_eq_false fun e => g2 (congrArg G.dst e))
        clear g2
        go_wp2
        go_ret
        exact ⟨by rw [HV.out]; rfl, hb⟩
      have t2 : (dst == dst2) = true := by rw [beq_iff_eq]; exact g2
      replace g2 := Lib.hid g2
      by_cases g3 : fr = fr2
      rotate_left
      · have t3 : (fr == fr2) = false := by rw [beq_eq_false_iff_ne]; exact g3
        have HV : Hid (decide ((G.mk k src dst fr sq R id ii nn tx) = (G.mk k2 src2 dst2 fr2 sq2 R2 id2 ii2 nn2 tx2)) = false) := Lib.hid (decide_eq_false fun e => g3 (congrArg G.fr e))
        clear g3
        go_wp2
        go_ret
        exact ⟨by rw [HV.out]; rfl, hb⟩
      have t3 : (fr == fr2) = true := by rw [beq_iff_eq]; exact g3
      replace g3 := Lib.hid g3
      by_cases g4 : sq = sq2
      rotate_left
      · have t4 : ((sq : Int) == (sq2 : Int)) = false := by rw [beq_eq_false_iff_ne]; omega
        have HV : Hid (decide ((G.mk k src dst fr sq R id ii nn tx) = (G.mk k2 src2 dst2 fr2 sq2 R2 id2 ii2 nn2 tx2)) = false) := Lib.hid (decide_eq_false fun e => g4 (congrArg G.seq e))
        clear g4
        go_wp2
        go_ret
        exact ⟨by rw [HV.out]; rfl, hb⟩
      have t4 : ((sq : Int) == (sq2 : Int)) = true := by rw [beq_iff_eq]; omega
      replace g4 := Lib.hid g4
      have HV : Hid (decide ((G.mk k src dst fr sq R id ii nn tx) = (G.mk k2 src2 dst2 fr2 sq2 R2 id2 ii2 nn2 tx2)) = decide (id = id2 ∧ ii = ii2 ∧ nn = nn2 ∧ tx = tx2)) := Lib.hid (by
        rw [decide_eq_decide, G.mk.injEq]
        constructor
        · rintro ⟨_, _, _, _, _, _, e1, e2, e3, e4⟩; exact ⟨e1, e2, e3, e4⟩
        · rintro ⟨e1, e2, e3, e4⟩; exact ⟨g0.out, g1.out, g2.out, g3.out, g4.out, hv.out, e1, e2, e3, e4⟩)
      have hE := eql_parts id ii nn tx id2 ii2 nn2 tx2
      obtain ⟨r, hr⟩ : ∃ r, decide (id = id2 ∧ ii = ii2 ∧ nn = nn2 ∧ tx = tx2) = r := ⟨_, rfl⟩
      rw [hr] at HV hE
      clear hr
      go_wp2
      go_ret
      exact ⟨by rw [HV.out]; rfl, hb⟩

end Msg
end Go.Proofs.YtcfimfoccbaepaaDoor
