/- msg.body: a message's text. -/
import Derived.Test.YtcfimfoccbaepaaDoorMsgVec
import Derived.Deep.DeepCutAuto
namespace Go.Proofs.YtcfimfoccbaepaaDoor
namespace Msg
open Go.RowKit Go.Proofs.YtcfimfoccbaepaaDoor.Mark Go.Proofs.YtcfimfoccbaepaaDoor.Num Go.Proofs.YtcfimfoccbaepaaDoor.Wire

theorem nats_here (l : List Nat) (hn : ∀ n ∈ l, n ≤ 18446744073709551615) {C : Array Value} (hC : C = (l.map fun n => Value.int .u64 ((n : Nat) : Int)).toArray) {t : TypeId} (len : Nat) (hl : l.length = len) {B : Nat} {w W : World} (_h : Below B w (W.alloc (.cells C t))) :
    Nats (W.alloc (.cells C t)) (some ⟨W.heap.size, 0, none⟩) len l := nats_of W l hn C hC t len hl
theorem txts_here (l : List (List UInt8)) (hn : ∀ n ∈ l, n.length ≤ 9223372036854775807) {C : Array Value} (hC : C = (l.map fun n => Value.string ⟨n.toArray⟩).toArray) {t : TypeId} (len : Nat) (hl : l.length = len) {B : Nat} {w W : World} (_h : Below B w (W.alloc (.cells C t))) :
    Txts (W.alloc (.cells C t)) (some ⟨W.heap.size, 0, none⟩) len (l.map fun n => ⟨n.toArray⟩) := txts_of W l hn C hC t len hl
theorem nats_move {W : World} {a : Option Addr} {len : Nat} {l : List Nat} (h : Nats W a len l) {o : Obj} {B : Nat} {w : World} (_h : Below B w (W.alloc o)) : Nats (W.alloc o) a len l := h.below rfl (balloc (Below.refl _ _) _)
theorem txts_move {W : World} {a : Option Addr} {len : Nat} {l : List ByteArray} (h : Txts W a len l) {o : Obj} {B : Nat} {w : World} (_h : Below B w (W.alloc o)) : Txts (W.alloc o) a len l := h.below rfl (balloc (Below.refl _ _) _)
theorem nums_w {a : Option Addr} {len c : Nat} {l : List Nat} {w : World} (h : Nats w a len l) (hl : len ≤ 1048576) (r : List UInt8) (hr : cat l = r) :
    Calls Tryd.prog 54 #[.slice a len c] w fun e w' => e = .returned (.string ⟨r.toArray⟩) ∧ Below w.heap.size w w' := by rw [← hr]; exact nums_any a len c l w h hl
theorem texts_w {a : Option Addr} {len c : Nat} {l : List (List UInt8)} {w : World} (h : Txts w a len (l.map fun n => ⟨n.toArray⟩)) (r : List UInt8) (hr : l.flatMap txtL = r) (hrl : r.length ≤ 1099511627776) (hlen : len ≤ 1099511627776) :
    Calls Tryd.prog 55 #[.slice a len c] w fun e w' => e = .returned (.string ⟨r.toArray⟩) ∧ Below w.heap.size w w' := by
  have e : tcat (l.map fun n => (⟨n.toArray⟩ : ByteArray)) = r := by
    rw [← hr]; unfold tcat; rw [List.flatMap_map]
    exact congrArg (fun f => l.flatMap f) (funext one_mk)
  rw [← e]
  exact texts_any a len c _ w h (by rw [e]; exact hrl) hlen

def headL (m : G) : List UInt8 := upL m.kind ++ (txtL m.src ++ txtL m.dst)
/-- A message's text. -/
def bodyL (m : G) : List UInt8 :=
  if m.kind = 1 then headL m ++ vecL m.all ++ (upL m.id ++ (upL m.i.toNat ++ upL m.n.toNat)) ++ txtL m.tx
  else if m.kind = 2 then headL m ++ upL m.seq
  else if m.kind = 3 then headL m ++ upL m.seq ++ txtL m.fr
  else if m.kind = 4 then headL m ++ upL m.seq ++ txtL m.fr ++ vecL m.all
  else headL m
theorem head_le (m : G) : (headL m).length ≤ (bodyL m).length := by
  unfold bodyL
  split
  · simp only [List.length_append]; omega
  split
  · simp only [List.length_append]; omega
  split
  · simp only [List.length_append]; omega
  split
  · simp only [List.length_append]; omega
  · omega

set_option maxRecDepth 100000 in
set_option maxHeartbeats 40000000 in
theorem body_any (k : Nat) (src dst fr : List UInt8) (seq : Nat) (all : List M) (id i n : Nat) (tx : List UInt8) (a : Option Addr) (c : Nat) (w : World) (hok : (G.mk k src dst fr seq all id i n tx).Ok) (hL : Lies w a all.length all)
    (hbl : (bodyL ⟨k, src, dst, fr, seq, all, id, (i : Int), (n : Int), tx⟩).length ≤ 1099511627776) (hal : all.length ≤ 1048576) :
    Calls Tryd.prog 37 #[.agg #[.int .u8 (k : Int), .string ⟨src.toArray⟩, .string ⟨dst.toArray⟩, .string ⟨fr.toArray⟩, .int .u64 (seq : Int), .slice a all.length c, .int .u64 (id : Int), .int .i64 (i : Int), .int .i64 (n : Int), .string ⟨tx.toArray⟩]] w fun e w' => e = .returned (.string ⟨(bodyL ⟨k, src, dst, fr, seq, all, id, (i : Int), (n : Int), tx⟩).toArray⟩) ∧ Below w.heap.size w w' := by
  obtain ⟨ok0, ok1, ok2, ok3, ok4, ok5, ok6, ok7, ok8, ok9, ok10⟩ := hok
  simp only at ok0 ok1 ok2 ok3 ok4 ok5 ok6 ok7 ok8 ok9 ok10
  have hb := Below.refl w.heap.size w
  have lA := Lib.hid hL
  have oA := Lib.hid ok5
  have hhd := Nat.le_trans (head_le ⟨k, src, dst, fr, seq, all, id, (i : Int), (n : Int), tx⟩) hbl
  clear hL ok5
  obtain ⟨p1, hp1⟩ : ∃ p, p = upL k := ⟨_, rfl⟩
  obtain ⟨p2, hp2⟩ : ∃ p, p = txtL src ++ txtL dst := ⟨_, rfl⟩
  obtain ⟨H, hH⟩ : ∃ p, p = p1 ++ p2 := ⟨_, rfl⟩
  have hHv : headL ⟨k, src, dst, fr, seq, all, id, (i : Int), (n : Int), tx⟩ = H := by rw [hH, hp1, hp2]; rfl
  rw [hHv] at hhd
  have hHl : H.length = p1.length + p2.length := by rw [hH, List.length_append]
  have a1 : ({ data := p1.toArray } : ByteArray) ++ { data := p2.toArray } = { data := H.toArray } := by rw [hH]; exact Str.mk_append_mk p1 p2
  have s1 := Str.size_mk p1
  have s2 := Str.size_mk p2
  have n1 : ¬ (9223372036854775807 < p1.length + p2.length) := by omega
  have n1b : ¬ (p1.length + p2.length > 9223372036854775807) := by omega
  have r1 : cat [k] = p1 := by rw [hp1]; simp [cat]
  have r2 : [src, dst].flatMap txtL = p2 := by rw [hp2]; simp
  have R1 := Lib.hid r1
  have R2 := Lib.hid r2
  have HHv := Lib.hid hHv
  have w8 : IntKind.u64.wrap (k : Int) = (k : Int) := by rw [IntKind.wrap_u64]; omega
  have wk : (k : Int) % 18446744073709551616 = (k : Int) := by omega
  have XB := fun j v h => box_cells w #[.int .u8 (k : Int), .string ⟨src.toArray⟩, .string ⟨dst.toArray⟩, .string ⟨fr.toArray⟩, .int .u64 (seq : Int), .slice a all.length c, .int .u64 (id : Int), .int .i64 (i : Int), .int .i64 (n : Int), .string ⟨tx.toArray⟩] 27 j v h
  have X0 := Lib.hid (XB 0 (.int .u8 (k : Int)) rfl)
  have X1 := Lib.hid (XB 1 (.string ⟨src.toArray⟩) rfl)
  have X2 := Lib.hid (XB 2 (.string ⟨dst.toArray⟩) rfl)
  have X3 := Lib.hid (XB 3 (.string ⟨fr.toArray⟩) rfl)
  have X4 := Lib.hid (XB 4 (.int .u64 (seq : Int)) rfl)
  have X5 := Lib.hid (XB 5 (.slice a all.length c) rfl)
  have X6 := Lib.hid (XB 6 (.int .u64 (id : Int)) rfl)
  have X7 := Lib.hid (XB 7 (.int .i64 (i : Int)) rfl)
  have X8 := Lib.hid (XB 8 (.int .i64 (n : Int)) rfl)
  have X9 := Lib.hid (XB 9 (.string ⟨tx.toArray⟩) rfl)
  clear XB r1 r2 hp1 hp2 hH hHv
  go_enter Tryd.func37, Tryd.ntmps37
  go_wp2_with fail
  replace lA := Lib.hid ((lA.out).below (balloc (Below.refl _ _) (.cells #[.int .u8 (k : Int), .string ⟨src.toArray⟩, .string ⟨dst.toArray⟩, .string ⟨fr.toArray⟩, .int .u64 (seq : Int), .slice a all.length c, .int .u64 (id : Int), .int .i64 (i : Int), .int .i64 (n : Int), .string ⟨tx.toArray⟩] 27)))
  replace hb := bstep hb (balloc (Below.refl _ _) (.cells #[.int .u8 (k : Int), .string ⟨src.toArray⟩, .string ⟨dst.toArray⟩, .string ⟨fr.toArray⟩, .int .u64 (seq : Int), .slice a all.length c, .int .u64 (id : Int), .int .i64 (i : Int), .int .i64 (n : Int), .string ⟨tx.toArray⟩] 27))
  have x0 := X0.out
  have x1 := X1.out
  have x2 := X2.out
  have x3 := X3.out
  have x4 := X4.out
  have x5 := X5.out
  have x6 := X6.out
  have x7 := X7.out
  have x8 := X8.out
  have x9 := X9.out
  clear X0 X1 X2 X3 X4 X5 X6 X7 X8 X9
  go_upto_region 1 with fail
  go_cut [3] (fun s wx => s = .string ⟨H.toArray⟩ ∧ Below w.heap.size w wx ∧ Lies wx a all.length all ∧ wx.cell? ⟨w.heap.size, 0, none⟩ = some (.int .u8 (k : Int)) ∧ wx.cell? ⟨w.heap.size, 1, none⟩ = some (.string ⟨src.toArray⟩) ∧ wx.cell? ⟨w.heap.size, 2, none⟩ = some (.string ⟨dst.toArray⟩) ∧ wx.cell? ⟨w.heap.size, 3, none⟩ = some (.string ⟨fr.toArray⟩) ∧ wx.cell? ⟨w.heap.size, 4, none⟩ = some (.int .u64 (seq : Int)) ∧ wx.cell? ⟨w.heap.size, 5, none⟩ = some (.slice a all.length c) ∧ wx.cell? ⟨w.heap.size, 6, none⟩ = some (.int .u64 (id : Int)) ∧ wx.cell? ⟨w.heap.size, 7, none⟩ = some (.int .i64 (i : Int)) ∧ wx.cell? ⟨w.heap.size, 8, none⟩ = some (.int .i64 (n : Int)) ∧ wx.cell? ⟨w.heap.size, 9, none⟩ = some (.string ⟨tx.toArray⟩))
  case first =>
    refine wp_region_noPanic ?_
    refine wp_region_held_drew (S := (fun w' => Below w.heap.size w w' ∧ Lies w' a all.length all ∧ w'.cell? ⟨w.heap.size, 0, none⟩ = some (.int .u8 (k : Int)) ∧ w'.cell? ⟨w.heap.size, 1, none⟩ = some (.string ⟨src.toArray⟩) ∧ w'.cell? ⟨w.heap.size, 2, none⟩ = some (.string ⟨dst.toArray⟩) ∧ w'.cell? ⟨w.heap.size, 3, none⟩ = some (.string ⟨fr.toArray⟩) ∧ w'.cell? ⟨w.heap.size, 4, none⟩ = some (.int .u64 (seq : Int)) ∧ w'.cell? ⟨w.heap.size, 5, none⟩ = some (.slice a all.length c) ∧ w'.cell? ⟨w.heap.size, 6, none⟩ = some (.int .u64 (id : Int)) ∧ w'.cell? ⟨w.heap.size, 7, none⟩ = some (.int .i64 (i : Int)) ∧ w'.cell? ⟨w.heap.size, 8, none⟩ = some (.int .i64 (n : Int)) ∧ w'.cell? ⟨w.heap.size, 9, none⟩ = some (.string ⟨tx.toArray⟩))) (by kernel_rfl) (⟨Below.drew hb, (lA.out).below (Below.drew (Below.refl _ _)), Msg.keepC x0 (Below.drew (Below.refl _ _)), Msg.keepC x1 (Below.drew (Below.refl _ _)), Msg.keepC x2 (Below.drew (Below.refl _ _)), Msg.keepC x3 (Below.drew (Below.refl _ _)), Msg.keepC x4 (Below.drew (Below.refl _ _)), Msg.keepC x5 (Below.drew (Below.refl _ _)), Msg.keepC x6 (Below.drew (Below.refl _ _)), Msg.keepC x7 (Below.drew (Below.refl _ _)), Msg.keepC x8 (Below.drew (Below.refl _ _)), Msg.keepC x9 (Below.drew (Below.refl _ _))⟩) (fun hHeld => ?_)
    revert hHeld
    generalize World.drew _ = wd
    intro hHeld
    refine wpAnyH_take (i := 0) (v := ?_) (by simp only [List.getElem?_toArray, List.getElem?_cons_zero]; rfl) (by kernel_rfl) (by kernel_rfl) (by kernel_rfl) (fun _ _ _ h => h) (Or.inl ⟨by rfl, ?_⟩) (by assumption) ?_
    rotate_left
    · (intro w hSw; (try dsimp only at hSw); go_simp; try with_reducible rfl)
    try simp only [Act.put, List.setIfInBounds_toArray, List.set_cons_zero, List.set_cons_succ]
    refine wpAnyH_take (i := 1) (v := ?_) (by simp only [List.getElem?_toArray, List.getElem?_cons_succ, List.getElem?_cons_zero]; rfl) (by kernel_rfl) (by kernel_rfl) (by kernel_rfl) (fun _ _ _ h => h) (Or.inl ⟨by rfl, ?_⟩) (by assumption) ?_
    rotate_left
    · (intro w hSw; (try dsimp only at hSw); go_simp; try with_reducible rfl)
    try simp only [Act.put, List.setIfInBounds_toArray, List.set_cons_zero, List.set_cons_succ]
    refine wpAnyH_take (i := 2) (v := ?_) (by simp only [List.getElem?_toArray, List.getElem?_cons_succ, List.getElem?_cons_zero]; rfl) (by kernel_rfl) (by kernel_rfl) (by kernel_rfl) (fun _ _ _ h => h) (Or.inl ⟨by rfl, ?_⟩) (by assumption) ?_
    rotate_left
    · (intro w hSw; (try dsimp only at hSw); go_simp; try with_reducible rfl)
    try simp only [Act.put, List.setIfInBounds_toArray, List.set_cons_zero, List.set_cons_succ]
    refine wpAnyH_take (i := 5) (v := ?_) (by simp only [List.getElem?_toArray, List.getElem?_cons_succ, List.getElem?_cons_zero]; rfl) (by kernel_rfl) (by kernel_rfl) (by kernel_rfl) (fun _ _ _ h => h) (Or.inl ⟨by rfl, ?_⟩) (by assumption) ?_
    rotate_left
    · (intro w hSw; (try dsimp only at hSw); go_simp; try with_reducible rfl)
    try simp only [Act.put, List.setIfInBounds_toArray, List.set_cons_zero, List.set_cons_succ]
    refine wpAnyH_take (i := 6) (v := ?_) (by simp only [List.getElem?_toArray, List.getElem?_cons_succ, List.getElem?_cons_zero]; rfl) (by kernel_rfl) (by kernel_rfl) (by kernel_rfl) (fun _ _ _ h => h) (Or.inl ⟨by rfl, ?_⟩) (by assumption) ?_
    rotate_left
    · (intro w hSw; (try dsimp only at hSw); go_simp; try with_reducible rfl)
    try simp only [Act.put, List.setIfInBounds_toArray, List.set_cons_zero, List.set_cons_succ]
    refine wpAnyH_take (i := 7) (v := ?_) (by simp only [List.getElem?_toArray, List.getElem?_cons_succ, List.getElem?_cons_zero]; rfl) (by kernel_rfl) (by kernel_rfl) (by kernel_rfl) (fun _ _ _ h => h) (Or.inl ⟨by rfl, ?_⟩) (by assumption) ?_
    rotate_left
    · (intro w hSw; (try dsimp only at hSw); go_simp; try with_reducible rfl)
    try simp only [Act.put, List.setIfInBounds_toArray, List.set_cons_zero, List.set_cons_succ]
    refine wpAnyH_take (i := 8) (v := ?_) (by simp only [List.getElem?_toArray, List.getElem?_cons_succ, List.getElem?_cons_zero]; rfl) (by kernel_rfl) (by kernel_rfl) (by kernel_rfl) (fun _ _ _ h => h) (Or.inl ⟨by rfl, ?_⟩) (by assumption) ?_
    rotate_left
    · (intro w hSw; (try dsimp only at hSw); go_simp; try with_reducible rfl)
    try simp only [Act.put, List.setIfInBounds_toArray, List.set_cons_zero, List.set_cons_succ]
    refine wpAnyH_ready (rs := [3, 9]) (by kernel_rfl) (by simp) ?_
    refine AllReadyH.cons (by simp only [List.getElem?_toArray, List.getElem?_cons_succ, List.getElem?_cons_zero]; rfl) (fun K hK => ?_) (AllReadyH.cons (by simp only [List.getElem?_toArray, List.getElem?_cons_succ, List.getElem?_cons_zero]; rfl) (fun K hK => ?_) (AllReadyH.nil))
    · skip
      go_simp
      refine hK.out _ _ (⟨bstep hHeld.1 (balloc (Below.refl _ _) _), (hHeld.2.1).below (balloc (Below.refl _ _) _), Msg.keepC hHeld.2.2.1 (balloc (Below.refl _ _) _), Msg.keepC hHeld.2.2.2.1 (balloc (Below.refl _ _) _), Msg.keepC hHeld.2.2.2.2.1 (balloc (Below.refl _ _) _), Msg.keepC hHeld.2.2.2.2.2.1 (balloc (Below.refl _ _) _), Msg.keepC hHeld.2.2.2.2.2.2.1 (balloc (Below.refl _ _) _), Msg.keepC hHeld.2.2.2.2.2.2.2.1 (balloc (Below.refl _ _) _), Msg.keepC hHeld.2.2.2.2.2.2.2.2.1 (balloc (Below.refl _ _) _), Msg.keepC hHeld.2.2.2.2.2.2.2.2.2.1 (balloc (Below.refl _ _) _), Msg.keepC hHeld.2.2.2.2.2.2.2.2.2.2.1 (balloc (Below.refl _ _) _), Msg.keepC hHeld.2.2.2.2.2.2.2.2.2.2.2 (balloc (Below.refl _ _) _)⟩) (fun hHeld => ?_)
      clear hK K
      try simp only [Act.put, List.setIfInBounds_toArray, List.set_cons_zero, List.set_cons_succ]
      have N3 := nats_here [k] (by intro y hy; simp at hy; omega) rfl 1 rfl hHeld.1
      try simp only [World.size_alloc] at N3
      refine wpAnyH_ready (rs := [4, 9]) (by kernel_rfl) (by simp) ?_
      refine AllReadyH.cons (by simp only [List.getElem?_toArray, List.getElem?_cons_succ, List.getElem?_cons_zero]; rfl) (fun K hK => ?_) (AllReadyH.cons (by simp only [List.getElem?_toArray, List.getElem?_cons_succ, List.getElem?_cons_zero]; rfl) (fun K hK => ?_) (AllReadyH.nil))
      · skip
        go_simp
        go_at_call 54
        refine (nums_w N3 (by omega) p1 R1.out).mono ?_
        rintro e v1 ⟨rfl, k1⟩
        replace N3 := (N3).below rfl k1
        go_wp2_with fail
        refine hK.out _ _ (⟨bstep hHeld.1 k1, (hHeld.2.1).below k1, Msg.keepC hHeld.2.2.1 k1, Msg.keepC hHeld.2.2.2.1 k1, Msg.keepC hHeld.2.2.2.2.1 k1, Msg.keepC hHeld.2.2.2.2.2.1 k1, Msg.keepC hHeld.2.2.2.2.2.2.1 k1, Msg.keepC hHeld.2.2.2.2.2.2.2.1 k1, Msg.keepC hHeld.2.2.2.2.2.2.2.2.1 k1, Msg.keepC hHeld.2.2.2.2.2.2.2.2.2.1 k1, Msg.keepC hHeld.2.2.2.2.2.2.2.2.2.2.1 k1, Msg.keepC hHeld.2.2.2.2.2.2.2.2.2.2.2 k1⟩) (fun hHeld => ?_)
        clear hK K k1
        try simp only [Act.put, List.setIfInBounds_toArray, List.set_cons_zero, List.set_cons_succ]
        refine wpAnyH_ready (rs := [9]) (by kernel_rfl) (by simp) ?_
        refine AllReadyH.cons (by simp only [List.getElem?_toArray, List.getElem?_cons_succ, List.getElem?_cons_zero]; rfl) (fun K hK => ?_) AllReadyH.nil
        go_simp
        refine hK.out _ _ (⟨bstep hHeld.1 (balloc (Below.refl _ _) _), (hHeld.2.1).below (balloc (Below.refl _ _) _), Msg.keepC hHeld.2.2.1 (balloc (Below.refl _ _) _), Msg.keepC hHeld.2.2.2.1 (balloc (Below.refl _ _) _), Msg.keepC hHeld.2.2.2.2.1 (balloc (Below.refl _ _) _), Msg.keepC hHeld.2.2.2.2.2.1 (balloc (Below.refl _ _) _), Msg.keepC hHeld.2.2.2.2.2.2.1 (balloc (Below.refl _ _) _), Msg.keepC hHeld.2.2.2.2.2.2.2.1 (balloc (Below.refl _ _) _), Msg.keepC hHeld.2.2.2.2.2.2.2.2.1 (balloc (Below.refl _ _) _), Msg.keepC hHeld.2.2.2.2.2.2.2.2.2.1 (balloc (Below.refl _ _) _), Msg.keepC hHeld.2.2.2.2.2.2.2.2.2.2.1 (balloc (Below.refl _ _) _), Msg.keepC hHeld.2.2.2.2.2.2.2.2.2.2.2 (balloc (Below.refl _ _) _)⟩) (fun hHeld => ?_)
        clear hK K
        try simp only [Act.put, List.setIfInBounds_toArray, List.set_cons_zero, List.set_cons_succ]
        replace N3 := nats_move N3 hHeld.1
        have N9 := txts_here [src, dst] (by intro y hy; simp at hy; rcases hy with rfl | rfl <;> omega) rfl 2 rfl hHeld.1
        try simp only [World.size_alloc] at N9
        refine wpAnyH_ready (rs := [10]) (by kernel_rfl) (by simp) ?_
        refine AllReadyH.cons (by simp only [List.getElem?_toArray, List.getElem?_cons_succ, List.getElem?_cons_zero]; rfl) (fun K hK => ?_) AllReadyH.nil
        go_simp
        go_at_call 55
        refine (texts_w N9 p2 R2.out (by omega) (by omega)).mono ?_
        rintro e v2 ⟨rfl, k2⟩
        replace N3 := (N3).below rfl k2
        replace N9 := (N9).below rfl k2
        go_wp2_with fail
        refine hK.out _ _ (⟨bstep hHeld.1 k2, (hHeld.2.1).below k2, Msg.keepC hHeld.2.2.1 k2, Msg.keepC hHeld.2.2.2.1 k2, Msg.keepC hHeld.2.2.2.2.1 k2, Msg.keepC hHeld.2.2.2.2.2.1 k2, Msg.keepC hHeld.2.2.2.2.2.2.1 k2, Msg.keepC hHeld.2.2.2.2.2.2.2.1 k2, Msg.keepC hHeld.2.2.2.2.2.2.2.2.1 k2, Msg.keepC hHeld.2.2.2.2.2.2.2.2.2.1 k2, Msg.keepC hHeld.2.2.2.2.2.2.2.2.2.2.1 k2, Msg.keepC hHeld.2.2.2.2.2.2.2.2.2.2.2 k2⟩) (fun hHeld => ?_)
        clear hK K k2
        try simp only [Act.put, List.setIfInBounds_toArray, List.set_cons_zero, List.set_cons_succ]
        refine wpAnyH_take (i := 11) (v := ?_) (by simp only [List.getElem?_toArray, List.getElem?_cons_succ, List.getElem?_cons_zero]; rfl) (by kernel_rfl) (by kernel_rfl) (by kernel_rfl) (fun _ _ _ h => h) (Or.inl ⟨by rfl, ?_⟩) (by assumption) ?_
        rotate_left
        · (intro w hSw; (try dsimp only at hSw); go_simp; try with_reducible rfl)
        try simp only [Act.put, List.setIfInBounds_toArray, List.set_cons_zero, List.set_cons_succ]
        refine wpAnyH_take (i := 12) (v := ?_) (by simp only [List.getElem?_toArray, List.getElem?_cons_succ, List.getElem?_cons_zero]; rfl) (by kernel_rfl) (by kernel_rfl) (by kernel_rfl) (fun _ _ _ h => h) (Or.inl ⟨by rfl, ?_⟩) (by assumption) ?_
        rotate_left
        · (intro w hSw; (try dsimp only at hSw); go_simp; try with_reducible rfl)
        try simp only [Act.put, List.setIfInBounds_toArray, List.set_cons_zero, List.set_cons_succ]
        refine wpAnyH_done (by kernel_rfl) ?_ _
        refine NoPanic.normal ?_
        clear hb lA x0 x1 x2 x3 x4 x5 x6 x7 x8 x9
        obtain ⟨hb, lA, x0, x1, x2, x3, x4, x5, x6, x7, x8, x9⟩ := hHeld
        replace lA := Lib.hid lA
        go_wp2_with fail
        go_meet
        exact ⟨rfl, hb, lA.out, x0, x1, x2, x3, x4, x5, x6, x7, x8, x9⟩
      · skip
        go_simp
        refine hK.out _ _ (⟨bstep hHeld.1 (balloc (Below.refl _ _) _), (hHeld.2.1).below (balloc (Below.refl _ _) _), Msg.keepC hHeld.2.2.1 (balloc (Below.refl _ _) _), Msg.keepC hHeld.2.2.2.1 (balloc (Below.refl _ _) _), Msg.keepC hHeld.2.2.2.2.1 (balloc (Below.refl _ _) _), Msg.keepC hHeld.2.2.2.2.2.1 (balloc (Below.refl _ _) _), Msg.keepC hHeld.2.2.2.2.2.2.1 (balloc (Below.refl _ _) _), Msg.keepC hHeld.2.2.2.2.2.2.2.1 (balloc (Below.refl _ _) _), Msg.keepC hHeld.2.2.2.2.2.2.2.2.1 (balloc (Below.refl _ _) _), Msg.keepC hHeld.2.2.2.2.2.2.2.2.2.1 (balloc (Below.refl _ _) _), Msg.keepC hHeld.2.2.2.2.2.2.2.2.2.2.1 (balloc (Below.refl _ _) _), Msg.keepC hHeld.2.2.2.2.2.2.2.2.2.2.2 (balloc (Below.refl _ _) _)⟩) (fun hHeld => ?_)
        clear hK K
        try simp only [Act.put, List.setIfInBounds_toArray, List.set_cons_zero, List.set_cons_succ]
        replace N3 := nats_move N3 hHeld.1
        have N9 := txts_here [src, dst] (by intro y hy; simp at hy; rcases hy with rfl | rfl <;> omega) rfl 2 rfl hHeld.1
        try simp only [World.size_alloc] at N9
        refine wpAnyH_ready (rs := [4]) (by kernel_rfl) (by simp) ?_
        refine AllReadyH.cons (by simp only [List.getElem?_toArray, List.getElem?_cons_succ, List.getElem?_cons_zero]; rfl) (fun K hK => ?_) AllReadyH.nil
        go_simp
        go_at_call 54
        refine (nums_w N3 (by omega) p1 R1.out).mono ?_
        rintro e v3 ⟨rfl, k3⟩
        replace N3 := (N3).below rfl k3
        replace N9 := (N9).below rfl k3
        go_wp2_with fail
        refine hK.out _ _ (⟨bstep hHeld.1 k3, (hHeld.2.1).below k3, Msg.keepC hHeld.2.2.1 k3, Msg.keepC hHeld.2.2.2.1 k3, Msg.keepC hHeld.2.2.2.2.1 k3, Msg.keepC hHeld.2.2.2.2.2.1 k3, Msg.keepC hHeld.2.2.2.2.2.2.1 k3, Msg.keepC hHeld.2.2.2.2.2.2.2.1 k3, Msg.keepC hHeld.2.2.2.2.2.2.2.2.1 k3, Msg.keepC hHeld.2.2.2.2.2.2.2.2.2.1 k3, Msg.keepC hHeld.2.2.2.2.2.2.2.2.2.2.1 k3, Msg.keepC hHeld.2.2.2.2.2.2.2.2.2.2.2 k3⟩) (fun hHeld => ?_)
        clear hK K k3
        try simp only [Act.put, List.setIfInBounds_toArray, List.set_cons_zero, List.set_cons_succ]
        refine wpAnyH_ready (rs := [10]) (by kernel_rfl) (by simp) ?_
        refine AllReadyH.cons (by simp only [List.getElem?_toArray, List.getElem?_cons_succ, List.getElem?_cons_zero]; rfl) (fun K hK => ?_) AllReadyH.nil
        go_simp
        go_at_call 55
        refine (texts_w N9 p2 R2.out (by omega) (by omega)).mono ?_
        rintro e v4 ⟨rfl, k4⟩
        replace N3 := (N3).below rfl k4
        replace N9 := (N9).below rfl k4
        go_wp2_with fail
        refine hK.out _ _ (⟨bstep hHeld.1 k4, (hHeld.2.1).below k4, Msg.keepC hHeld.2.2.1 k4, Msg.keepC hHeld.2.2.2.1 k4, Msg.keepC hHeld.2.2.2.2.1 k4, Msg.keepC hHeld.2.2.2.2.2.1 k4, Msg.keepC hHeld.2.2.2.2.2.2.1 k4, Msg.keepC hHeld.2.2.2.2.2.2.2.1 k4, Msg.keepC hHeld.2.2.2.2.2.2.2.2.1 k4, Msg.keepC hHeld.2.2.2.2.2.2.2.2.2.1 k4, Msg.keepC hHeld.2.2.2.2.2.2.2.2.2.2.1 k4, Msg.keepC hHeld.2.2.2.2.2.2.2.2.2.2.2 k4⟩) (fun hHeld => ?_)
        clear hK K k4
        try simp only [Act.put, List.setIfInBounds_toArray, List.set_cons_zero, List.set_cons_succ]
        refine wpAnyH_take (i := 11) (v := ?_) (by simp only [List.getElem?_toArray, List.getElem?_cons_succ, List.getElem?_cons_zero]; rfl) (by kernel_rfl) (by kernel_rfl) (by kernel_rfl) (fun _ _ _ h => h) (Or.inl ⟨by rfl, ?_⟩) (by assumption) ?_
        rotate_left
        · (intro w hSw; (try dsimp only at hSw); go_simp; try with_reducible rfl)
        try simp only [Act.put, List.setIfInBounds_toArray, List.set_cons_zero, List.set_cons_succ]
        refine wpAnyH_take (i := 12) (v := ?_) (by simp only [List.getElem?_toArray, List.getElem?_cons_succ, List.getElem?_cons_zero]; rfl) (by kernel_rfl) (by kernel_rfl) (by kernel_rfl) (fun _ _ _ h => h) (Or.inl ⟨by rfl, ?_⟩) (by assumption) ?_
        rotate_left
        · (intro w hSw; (try dsimp only at hSw); go_simp; try with_reducible rfl)
        try simp only [Act.put, List.setIfInBounds_toArray, List.set_cons_zero, List.set_cons_succ]
        refine wpAnyH_done (by kernel_rfl) ?_ _
        refine NoPanic.normal ?_
        clear hb lA x0 x1 x2 x3 x4 x5 x6 x7 x8 x9
        obtain ⟨hb, lA, x0, x1, x2, x3, x4, x5, x6, x7, x8, x9⟩ := hHeld
        replace lA := Lib.hid lA
        go_wp2_with fail
        go_meet
        exact ⟨rfl, hb, lA.out, x0, x1, x2, x3, x4, x5, x6, x7, x8, x9⟩
    · skip
      go_simp
      refine hK.out _ _ (⟨bstep hHeld.1 (balloc (Below.refl _ _) _), (hHeld.2.1).below (balloc (Below.refl _ _) _), Msg.keepC hHeld.2.2.1 (balloc (Below.refl _ _) _), Msg.keepC hHeld.2.2.2.1 (balloc (Below.refl _ _) _), Msg.keepC hHeld.2.2.2.2.1 (balloc (Below.refl _ _) _), Msg.keepC hHeld.2.2.2.2.2.1 (balloc (Below.refl _ _) _), Msg.keepC hHeld.2.2.2.2.2.2.1 (balloc (Below.refl _ _) _), Msg.keepC hHeld.2.2.2.2.2.2.2.1 (balloc (Below.refl _ _) _), Msg.keepC hHeld.2.2.2.2.2.2.2.2.1 (balloc (Below.refl _ _) _), Msg.keepC hHeld.2.2.2.2.2.2.2.2.2.1 (balloc (Below.refl _ _) _), Msg.keepC hHeld.2.2.2.2.2.2.2.2.2.2.1 (balloc (Below.refl _ _) _), Msg.keepC hHeld.2.2.2.2.2.2.2.2.2.2.2 (balloc (Below.refl _ _) _)⟩) (fun hHeld => ?_)
      clear hK K
      try simp only [Act.put, List.setIfInBounds_toArray, List.set_cons_zero, List.set_cons_succ]
      have N9 := txts_here [src, dst] (by intro y hy; simp at hy; rcases hy with rfl | rfl <;> omega) rfl 2 rfl hHeld.1
      try simp only [World.size_alloc] at N9
      refine wpAnyH_ready (rs := [3]) (by kernel_rfl) (by simp) ?_
      refine AllReadyH.cons (by simp only [List.getElem?_toArray, List.getElem?_cons_succ, List.getElem?_cons_zero]; rfl) (fun K hK => ?_) AllReadyH.nil
      go_simp
      refine hK.out _ _ (⟨bstep hHeld.1 (balloc (Below.refl _ _) _), (hHeld.2.1).below (balloc (Below.refl _ _) _), Msg.keepC hHeld.2.2.1 (balloc (Below.refl _ _) _), Msg.keepC hHeld.2.2.2.1 (balloc (Below.refl _ _) _), Msg.keepC hHeld.2.2.2.2.1 (balloc (Below.refl _ _) _), Msg.keepC hHeld.2.2.2.2.2.1 (balloc (Below.refl _ _) _), Msg.keepC hHeld.2.2.2.2.2.2.1 (balloc (Below.refl _ _) _), Msg.keepC hHeld.2.2.2.2.2.2.2.1 (balloc (Below.refl _ _) _), Msg.keepC hHeld.2.2.2.2.2.2.2.2.1 (balloc (Below.refl _ _) _), Msg.keepC hHeld.2.2.2.2.2.2.2.2.2.1 (balloc (Below.refl _ _) _), Msg.keepC hHeld.2.2.2.2.2.2.2.2.2.2.1 (balloc (Below.refl _ _) _), Msg.keepC hHeld.2.2.2.2.2.2.2.2.2.2.2 (balloc (Below.refl _ _) _)⟩) (fun hHeld => ?_)
      clear hK K
      try simp only [Act.put, List.setIfInBounds_toArray, List.set_cons_zero, List.set_cons_succ]
      replace N9 := txts_move N9 hHeld.1
      have N3 := nats_here [k] (by intro y hy; simp at hy; omega) rfl 1 rfl hHeld.1
      try simp only [World.size_alloc] at N3
      refine wpAnyH_ready (rs := [4]) (by kernel_rfl) (by simp) ?_
      refine AllReadyH.cons (by simp only [List.getElem?_toArray, List.getElem?_cons_succ, List.getElem?_cons_zero]; rfl) (fun K hK => ?_) AllReadyH.nil
      go_simp
      go_at_call 54
      refine (nums_w N3 (by omega) p1 R1.out).mono ?_
      rintro e v5 ⟨rfl, k5⟩
      replace N9 := (N9).below rfl k5
      replace N3 := (N3).below rfl k5
      go_wp2_with fail
      refine hK.out _ _ (⟨bstep hHeld.1 k5, (hHeld.2.1).below k5, Msg.keepC hHeld.2.2.1 k5, Msg.keepC hHeld.2.2.2.1 k5, Msg.keepC hHeld.2.2.2.2.1 k5, Msg.keepC hHeld.2.2.2.2.2.1 k5, Msg.keepC hHeld.2.2.2.2.2.2.1 k5, Msg.keepC hHeld.2.2.2.2.2.2.2.1 k5, Msg.keepC hHeld.2.2.2.2.2.2.2.2.1 k5, Msg.keepC hHeld.2.2.2.2.2.2.2.2.2.1 k5, Msg.keepC hHeld.2.2.2.2.2.2.2.2.2.2.1 k5, Msg.keepC hHeld.2.2.2.2.2.2.2.2.2.2.2 k5⟩) (fun hHeld => ?_)
      clear hK K k5
      try simp only [Act.put, List.setIfInBounds_toArray, List.set_cons_zero, List.set_cons_succ]
      refine wpAnyH_ready (rs := [10]) (by kernel_rfl) (by simp) ?_
      refine AllReadyH.cons (by simp only [List.getElem?_toArray, List.getElem?_cons_succ, List.getElem?_cons_zero]; rfl) (fun K hK => ?_) AllReadyH.nil
      go_simp
      go_at_call 55
      refine (texts_w N9 p2 R2.out (by omega) (by omega)).mono ?_
      rintro e v6 ⟨rfl, k6⟩
      replace N9 := (N9).below rfl k6
      replace N3 := (N3).below rfl k6
      go_wp2_with fail
      refine hK.out _ _ (⟨bstep hHeld.1 k6, (hHeld.2.1).below k6, Msg.keepC hHeld.2.2.1 k6, Msg.keepC hHeld.2.2.2.1 k6, Msg.keepC hHeld.2.2.2.2.1 k6, Msg.keepC hHeld.2.2.2.2.2.1 k6, Msg.keepC hHeld.2.2.2.2.2.2.1 k6, Msg.keepC hHeld.2.2.2.2.2.2.2.1 k6, Msg.keepC hHeld.2.2.2.2.2.2.2.2.1 k6, Msg.keepC hHeld.2.2.2.2.2.2.2.2.2.1 k6, Msg.keepC hHeld.2.2.2.2.2.2.2.2.2.2.1 k6, Msg.keepC hHeld.2.2.2.2.2.2.2.2.2.2.2 k6⟩) (fun hHeld => ?_)
      clear hK K k6
      try simp only [Act.put, List.setIfInBounds_toArray, List.set_cons_zero, List.set_cons_succ]
      refine wpAnyH_take (i := 11) (v := ?_) (by simp only [List.getElem?_toArray, List.getElem?_cons_succ, List.getElem?_cons_zero]; rfl) (by kernel_rfl) (by kernel_rfl) (by kernel_rfl) (fun _ _ _ h => h) (Or.inl ⟨by rfl, ?_⟩) (by assumption) ?_
      rotate_left
      · (intro w hSw; (try dsimp only at hSw); go_simp; try with_reducible rfl)
      try simp only [Act.put, List.setIfInBounds_toArray, List.set_cons_zero, List.set_cons_succ]
      refine wpAnyH_take (i := 12) (v := ?_) (by simp only [List.getElem?_toArray, List.getElem?_cons_succ, List.getElem?_cons_zero]; rfl) (by kernel_rfl) (by kernel_rfl) (by kernel_rfl) (fun _ _ _ h => h) (Or.inl ⟨by rfl, ?_⟩) (by assumption) ?_
      rotate_left
      · (intro w hSw; (try dsimp only at hSw); go_simp; try with_reducible rfl)
      try simp only [Act.put, List.setIfInBounds_toArray, List.set_cons_zero, List.set_cons_succ]
      refine wpAnyH_done (by kernel_rfl) ?_ _
      refine NoPanic.normal ?_
      clear hb lA x0 x1 x2 x3 x4 x5 x6 x7 x8 x9
      obtain ⟨hb, lA, x0, x1, x2, x3, x4, x5, x6, x7, x8, x9⟩ := hHeld
      replace lA := Lib.hid lA
      go_wp2_with fail
      go_meet
      exact ⟨rfl, hb, lA.out, x0, x1, x2, x3, x4, x5, x6, x7, x8, x9⟩
  clear hb lA x0 x1 x2 x3 x4 x5 x6 x7 x8 x9
  obtain ⟨rfl, hb, lA, x0, x1, x2, x3, x4, x5, x6, x7, x8, x9⟩ := hcut
  replace lA := Lib.hid lA
  by_cases k1 : k = 1
  · skip
    have zz1 : ((k : Int) == 1) = true := by rw [beq_iff_eq]; omega
    have zH := Str.size_mk H
    obtain ⟨V, hV⟩ : ∃ p, p = vecL all := ⟨_, rfl⟩
    have zV := Str.size_mk V
    obtain ⟨N, hN⟩ : ∃ p, p = upL id ++ (upL i ++ upL n) := ⟨_, rfl⟩
    have zN := Str.size_mk N
    obtain ⟨X, hX⟩ : ∃ p, p = txtL tx := ⟨_, rfl⟩
    have zX := Str.size_mk X
    obtain ⟨C0, hC0⟩ : ∃ p, p = H ++ V := ⟨_, rfl⟩
    have lC0 : C0.length = H.length + V.length := by rw [hC0, List.length_append]
    have aC0 : (({ data := H.toArray } : ByteArray)) ++ { data := V.toArray } = { data := C0.toArray } := by rw [hC0]; exact Str.mk_append_mk H V
    have zC0 := Str.size_mk C0
    obtain ⟨C1, hC1⟩ : ∃ p, p = C0 ++ N := ⟨_, rfl⟩
    have lC1 : C1.length = C0.length + N.length := by rw [hC1, List.length_append]
    have aC1 : (({ data := C0.toArray } : ByteArray)) ++ { data := N.toArray } = { data := C1.toArray } := by rw [hC1]; exact Str.mk_append_mk C0 N
    have zC1 := Str.size_mk C1
    obtain ⟨C2, hC2⟩ : ∃ p, p = C1 ++ X := ⟨_, rfl⟩
    have lC2 : C2.length = C1.length + X.length := by rw [hC2, List.length_append]
    have aC2 : (({ data := C1.toArray } : ByteArray)) ++ { data := X.toArray } = { data := C2.toArray } := by rw [hC2]; exact Str.mk_append_mk C1 X
    have zC2 := Str.size_mk C2
    have HV : bodyL ⟨k, src, dst, fr, seq, all, id, (i : Int), (n : Int), tx⟩ = C2 := by
      unfold bodyL
      simp only [Int.toNat_natCast]
      rw [if_pos k1, HHv.out, ← hV, ← hC0, ← hN, ← hC1, ← hX, ← hC2]
    rw [HV] at hbl
    replace HV := Lib.hid HV
    have nC0 : ¬ (9223372036854775807 < H.length + V.length) := by omega
    have mC0 : ¬ (H.length + V.length > 9223372036854775807) := by omega
    have nC1 : ¬ (9223372036854775807 < C0.length + N.length) := by omega
    have mC1 : ¬ (C0.length + N.length > 9223372036854775807) := by omega
    have nC2 : ¬ (9223372036854775807 < C1.length + X.length) := by omega
    have mC2 : ¬ (C1.length + X.length > 9223372036854775807) := by omega
    have u1 : IntKind.u64.wrap (i : Int) = (i : Int) := by rw [IntKind.wrap_u64]; omega
    have u2 : IntKind.u64.wrap (n : Int) = (n : Int) := by rw [IntKind.wrap_u64]; omega
    have u3 : (i : Int) % 18446744073709551616 = (i : Int) := by omega
    have u4 : (n : Int) % 18446744073709551616 = (n : Int) := by omega
    have D1 : Hid (cat [id, i, n] = N) := Lib.hid (by rw [hN]; simp [cat])
    have D2 : Hid ([tx].flatMap txtL = X) := Lib.hid (by rw [hX]; simp)
    have D3 : Hid (∀ W : World, Lies W a all.length all → Calls Tryd.prog 56 #[.slice a all.length c] W fun e w' => e = .returned (.string ⟨V.toArray⟩) ∧ Below W.heap.size W w') := Lib.hid (fun W h => by rw [hV]; exact vector_any all a _ c W h hal oA.out (by rw [← hV]; omega))
    have jX : X.length ≤ 1099511627776 := by omega
    replace hV := Lib.hid hV
    replace hN := Lib.hid hN
    replace hX := Lib.hid hX
    replace hC0 := Lib.hid hC0
    replace hC1 := Lib.hid hC1
    replace hC2 := Lib.hid hC2
    replace lC0 := Lib.hid lC0
    replace lC1 := Lib.hid lC1
    replace lC2 := Lib.hid lC2
    clear hHl
    replace k1 := Lib.hid k1
    go_upto_region 5 with fail
    replace lA := Lib.hid ((lA.out).below (balloc (Below.refl _ _) (.cells #[.int .u64 (id : Int), .int .i64 (i : Int), .int .i64 (n : Int), .string ⟨tx.toArray⟩] 25)))
    replace x0 := (Msg.keepC x0 (balloc (Below.refl _ _) (.cells #[.int .u64 (id : Int), .int .i64 (i : Int), .int .i64 (n : Int), .string ⟨tx.toArray⟩] 25)))
    replace x1 := (Msg.keepC x1 (balloc (Below.refl _ _) (.cells #[.int .u64 (id : Int), .int .i64 (i : Int), .int .i64 (n : Int), .string ⟨tx.toArray⟩] 25)))
    replace x2 := (Msg.keepC x2 (balloc (Below.refl _ _) (.cells #[.int .u64 (id : Int), .int .i64 (i : Int), .int .i64 (n : Int), .string ⟨tx.toArray⟩] 25)))
    replace x3 := (Msg.keepC x3 (balloc (Below.refl _ _) (.cells #[.int .u64 (id : Int), .int .i64 (i : Int), .int .i64 (n : Int), .string ⟨tx.toArray⟩] 25)))
    replace x4 := (Msg.keepC x4 (balloc (Below.refl _ _) (.cells #[.int .u64 (id : Int), .int .i64 (i : Int), .int .i64 (n : Int), .string ⟨tx.toArray⟩] 25)))
    replace x5 := (Msg.keepC x5 (balloc (Below.refl _ _) (.cells #[.int .u64 (id : Int), .int .i64 (i : Int), .int .i64 (n : Int), .string ⟨tx.toArray⟩] 25)))
    replace x6 := (Msg.keepC x6 (balloc (Below.refl _ _) (.cells #[.int .u64 (id : Int), .int .i64 (i : Int), .int .i64 (n : Int), .string ⟨tx.toArray⟩] 25)))
    replace x7 := (Msg.keepC x7 (balloc (Below.refl _ _) (.cells #[.int .u64 (id : Int), .int .i64 (i : Int), .int .i64 (n : Int), .string ⟨tx.toArray⟩] 25)))
    replace x8 := (Msg.keepC x8 (balloc (Below.refl _ _) (.cells #[.int .u64 (id : Int), .int .i64 (i : Int), .int .i64 (n : Int), .string ⟨tx.toArray⟩] 25)))
    replace x9 := (Msg.keepC x9 (balloc (Below.refl _ _) (.cells #[.int .u64 (id : Int), .int .i64 (i : Int), .int .i64 (n : Int), .string ⟨tx.toArray⟩] 25)))
    replace hb := bstep hb (balloc (Below.refl _ _) (.cells #[.int .u64 (id : Int), .int .i64 (i : Int), .int .i64 (n : Int), .string ⟨tx.toArray⟩] 25))
    have y0 := box_cells wc #[.int .u64 (id : Int), .int .i64 (i : Int), .int .i64 (n : Int), .string ⟨tx.toArray⟩] 25 0 (.int .u64 (id : Int)) rfl
    have y1 := box_cells wc #[.int .u64 (id : Int), .int .i64 (i : Int), .int .i64 (n : Int), .string ⟨tx.toArray⟩] 25 1 (.int .i64 (i : Int)) rfl
    have y2 := box_cells wc #[.int .u64 (id : Int), .int .i64 (i : Int), .int .i64 (n : Int), .string ⟨tx.toArray⟩] 25 2 (.int .i64 (n : Int)) rfl
    have y3 := box_cells wc #[.int .u64 (id : Int), .int .i64 (i : Int), .int .i64 (n : Int), .string ⟨tx.toArray⟩] 25 3 (.string ⟨tx.toArray⟩) rfl
    go_cut [2] (fun s wx => s = .string ⟨C2.toArray⟩ ∧ Below w.heap.size w wx ∧ Lies wx a all.length all ∧ wx.cell? ⟨w.heap.size, 5, none⟩ = some (.slice a all.length c) ∧ wx.cell? ⟨wc.heap.size, 0, none⟩ = some (.int .u64 (id : Int)) ∧ wx.cell? ⟨wc.heap.size, 1, none⟩ = some (.int .i64 (i : Int)) ∧ wx.cell? ⟨wc.heap.size, 2, none⟩ = some (.int .i64 (n : Int)) ∧ wx.cell? ⟨wc.heap.size, 3, none⟩ = some (.string ⟨tx.toArray⟩))
    case first =>
      refine wp_region_noPanic ?_
      refine wp_region_held_drew (S := (fun w' => Below w.heap.size w w' ∧ Lies w' a all.length all ∧ w'.cell? ⟨w.heap.size, 5, none⟩ = some (.slice a all.length c) ∧ w'.cell? ⟨wc.heap.size, 0, none⟩ = some (.int .u64 (id : Int)) ∧ w'.cell? ⟨wc.heap.size, 1, none⟩ = some (.int .i64 (i : Int)) ∧ w'.cell? ⟨wc.heap.size, 2, none⟩ = some (.int .i64 (n : Int)) ∧ w'.cell? ⟨wc.heap.size, 3, none⟩ = some (.string ⟨tx.toArray⟩))) (by kernel_rfl) (⟨Below.drew hb, (lA.out).below (Below.drew (Below.refl _ _)), Msg.keepC x5 (Below.drew (Below.refl _ _)), Msg.keepC y0 (Below.drew (Below.refl _ _)), Msg.keepC y1 (Below.drew (Below.refl _ _)), Msg.keepC y2 (Below.drew (Below.refl _ _)), Msg.keepC y3 (Below.drew (Below.refl _ _))⟩) (fun hHeld => ?_)
      revert hHeld
      generalize World.drew _ = wd
      intro hHeld
      refine wpAnyH_take (i := 0) (v := ?_) (by simp only [List.getElem?_toArray, List.getElem?_cons_zero]; rfl) (by kernel_rfl) (by kernel_rfl) (by kernel_rfl) (fun _ _ _ h => h) (Or.inl ⟨by rfl, ?_⟩) (by assumption) ?_
      rotate_left
      · (intro w hSw; (try dsimp only at hSw); go_simp; try with_reducible rfl)
      try simp only [Act.put, List.setIfInBounds_toArray, List.set_cons_zero, List.set_cons_succ]
      refine wpAnyH_take (i := 1) (v := ?_) (by simp only [List.getElem?_toArray, List.getElem?_cons_succ, List.getElem?_cons_zero]; rfl) (by kernel_rfl) (by kernel_rfl) (by kernel_rfl) (fun _ _ _ h => h) (Or.inl ⟨by rfl, ?_⟩) (by assumption) ?_
      rotate_left
      · (intro w hSw; (try dsimp only at hSw); go_simp; try with_reducible rfl)
      try simp only [Act.put, List.setIfInBounds_toArray, List.set_cons_zero, List.set_cons_succ]
      refine wpAnyH_take (i := 2) (v := ?_) (by simp only [List.getElem?_toArray, List.getElem?_cons_succ, List.getElem?_cons_zero]; rfl) (by kernel_rfl) (by kernel_rfl) (by kernel_rfl) (fun _ _ _ h => h) (Or.inl ⟨by rfl, ?_⟩) (by assumption) ?_
      rotate_left
      · (intro w hSw; (try dsimp only at hSw); go_simp; try with_reducible rfl)
      try simp only [Act.put, List.setIfInBounds_toArray, List.set_cons_zero, List.set_cons_succ]
      refine wpAnyH_take (i := 5) (v := ?_) (by simp only [List.getElem?_toArray, List.getElem?_cons_succ, List.getElem?_cons_zero]; rfl) (by kernel_rfl) (by kernel_rfl) (by kernel_rfl) (fun _ _ _ h => h) (Or.inl ⟨by rfl, ?_⟩) (by assumption) ?_
      rotate_left
      · (intro w hSw; (try dsimp only at hSw); go_simp; try with_reducible rfl)
      try simp only [Act.put, List.setIfInBounds_toArray, List.set_cons_zero, List.set_cons_succ]
      refine wpAnyH_take (i := 6) (v := ?_) (by simp only [List.getElem?_toArray, List.getElem?_cons_succ, List.getElem?_cons_zero]; rfl) (by kernel_rfl) (by kernel_rfl) (by kernel_rfl) (fun _ _ _ h => h) (Or.inl ⟨by rfl, ?_⟩) (by assumption) ?_
      rotate_left
      · (intro w hSw; (try dsimp only at hSw); go_simp; try with_reducible rfl)
      try simp only [Act.put, List.setIfInBounds_toArray, List.set_cons_zero, List.set_cons_succ]
      refine wpAnyH_take (i := 7) (v := ?_) (by simp only [List.getElem?_toArray, List.getElem?_cons_succ, List.getElem?_cons_zero]; rfl) (by kernel_rfl) (by kernel_rfl) (by kernel_rfl) (fun _ _ _ h => h) (Or.inl ⟨by rfl, ?_⟩) (by assumption) ?_
      rotate_left
      · (intro w hSw; (try dsimp only at hSw); go_simp; try with_reducible rfl)
      try simp only [Act.put, List.setIfInBounds_toArray, List.set_cons_zero, List.set_cons_succ]
      refine wpAnyH_take (i := 8) (v := ?_) (by simp only [List.getElem?_toArray, List.getElem?_cons_succ, List.getElem?_cons_zero]; rfl) (by kernel_rfl) (by kernel_rfl) (by kernel_rfl) (fun _ _ _ h => h) (Or.inl ⟨by rfl, ?_⟩) (by assumption) ?_
      rotate_left
      · (intro w hSw; (try dsimp only at hSw); go_simp; try with_reducible rfl)
      try simp only [Act.put, List.setIfInBounds_toArray, List.set_cons_zero, List.set_cons_succ]
      refine wpAnyH_take (i := 9) (v := ?_) (by simp only [List.getElem?_toArray, List.getElem?_cons_succ, List.getElem?_cons_zero]; rfl) (by kernel_rfl) (by kernel_rfl) (by kernel_rfl) (fun _ _ _ h => h) (Or.inl ⟨by rfl, ?_⟩) (by assumption) ?_
      rotate_left
      · (intro w hSw; (try dsimp only at hSw); go_simp; try with_reducible rfl)
      try simp only [Act.put, List.setIfInBounds_toArray, List.set_cons_zero, List.set_cons_succ]
      refine wpAnyH_take (i := 10) (v := ?_) (by simp only [List.getElem?_toArray, List.getElem?_cons_succ, List.getElem?_cons_zero]; rfl) (by kernel_rfl) (by kernel_rfl) (by kernel_rfl) (fun _ _ _ h => h) (Or.inl ⟨by rfl, ?_⟩) (by assumption) ?_
      rotate_left
      · (intro w hSw; (try dsimp only at hSw); go_simp; try with_reducible rfl)
      try simp only [Act.put, List.setIfInBounds_toArray, List.set_cons_zero, List.set_cons_succ]
      refine wpAnyH_take (i := 11) (v := ?_) (by simp only [List.getElem?_toArray, List.getElem?_cons_succ, List.getElem?_cons_zero]; rfl) (by kernel_rfl) (by kernel_rfl) (by kernel_rfl) (fun _ _ _ h => h) (Or.inl ⟨by rfl, ?_⟩) (by assumption) ?_
      rotate_left
      · (intro w hSw; (try dsimp only at hSw); go_simp; try with_reducible rfl)
      try simp only [Act.put, List.setIfInBounds_toArray, List.set_cons_zero, List.set_cons_succ]
      refine wpAnyH_take (i := 12) (v := ?_) (by simp only [List.getElem?_toArray, List.getElem?_cons_succ, List.getElem?_cons_zero]; rfl) (by kernel_rfl) (by kernel_rfl) (by kernel_rfl) (fun _ _ _ h => h) (Or.inl ⟨by rfl, ?_⟩) (by assumption) ?_
      rotate_left
      · (intro w hSw; (try dsimp only at hSw); go_simp; try with_reducible rfl)
      try simp only [Act.put, List.setIfInBounds_toArray, List.set_cons_zero, List.set_cons_succ]
      refine wpAnyH_take (i := 16) (v := ?_) (by simp only [List.getElem?_toArray, List.getElem?_cons_succ, List.getElem?_cons_zero]; rfl) (by kernel_rfl) (by kernel_rfl) (by kernel_rfl) (fun _ _ _ h => h) (Or.inl ⟨by rfl, ?_⟩) (by assumption) ?_
      rotate_left
      · (intro w hSw; (try dsimp only at hSw); go_simp; try with_reducible rfl)
      try simp only [Act.put, List.setIfInBounds_toArray, List.set_cons_zero, List.set_cons_succ]
      refine wpAnyH_take (i := 17) (v := ?_) (by simp only [List.getElem?_toArray, List.getElem?_cons_succ, List.getElem?_cons_zero]; rfl) (by kernel_rfl) (by kernel_rfl) (by kernel_rfl) (fun _ _ _ h => h) (Or.inl ⟨by rfl, ?_⟩) (by assumption) ?_
      rotate_left
      · (intro w hSw; (try dsimp only at hSw); go_simp; try with_reducible rfl)
      try simp only [Act.put, List.setIfInBounds_toArray, List.set_cons_zero, List.set_cons_succ]
      refine wpAnyH_ready (rs := [3, 13, 18]) (by kernel_rfl) (by simp) ?_
      refine AllReadyH.cons (by simp only [List.getElem?_toArray, List.getElem?_cons_succ, List.getElem?_cons_zero]; rfl) (fun K hK => ?_) (AllReadyH.cons (by simp only [List.getElem?_toArray, List.getElem?_cons_succ, List.getElem?_cons_zero]; rfl) (fun K hK => ?_) (AllReadyH.cons (by simp only [List.getElem?_toArray, List.getElem?_cons_succ, List.getElem?_cons_zero]; rfl) (fun K hK => ?_) (AllReadyH.nil)))
      · skip
        go_simp
        go_at_call 56
        refine (D3.out _ hHeld.2.1).mono ?_
        rintro e v7 ⟨rfl, k7⟩
        go_wp2_with fail
        refine hK.out _ _ (⟨bstep hHeld.1 k7, (hHeld.2.1).below k7, Msg.keepC hHeld.2.2.1 k7, Msg.keepC hHeld.2.2.2.1 k7, Msg.keepC hHeld.2.2.2.2.1 k7, Msg.keepC hHeld.2.2.2.2.2.1 k7, Msg.keepC hHeld.2.2.2.2.2.2 k7⟩) (fun hHeld => ?_)
        clear hK K k7
        try simp only [Act.put, List.setIfInBounds_toArray, List.set_cons_zero, List.set_cons_succ]
        refine wpAnyH_take (i := 4) (v := ?_) (by simp only [List.getElem?_toArray, List.getElem?_cons_succ, List.getElem?_cons_zero]; rfl) (by kernel_rfl) (by kernel_rfl) (by kernel_rfl) (fun _ _ _ h => h) (Or.inl ⟨by rfl, ?_⟩) (by assumption) ?_
        rotate_left
        · (intro w hSw; (try dsimp only at hSw); go_simp; try with_reducible rfl)
        try simp only [Act.put, List.setIfInBounds_toArray, List.set_cons_zero, List.set_cons_succ]
        refine wpAnyH_ready (rs := [13, 18]) (by kernel_rfl) (by simp) ?_
        refine AllReadyH.cons (by simp only [List.getElem?_toArray, List.getElem?_cons_succ, List.getElem?_cons_zero]; rfl) (fun K hK => ?_) (AllReadyH.cons (by simp only [List.getElem?_toArray, List.getElem?_cons_succ, List.getElem?_cons_zero]; rfl) (fun K hK => ?_) (AllReadyH.nil))
        · skip
          go_simp
          refine hK.out _ _ (⟨bstep hHeld.1 (balloc (Below.refl _ _) _), (hHeld.2.1).below (balloc (Below.refl _ _) _), Msg.keepC hHeld.2.2.1 (balloc (Below.refl _ _) _), Msg.keepC hHeld.2.2.2.1 (balloc (Below.refl _ _) _), Msg.keepC hHeld.2.2.2.2.1 (balloc (Below.refl _ _) _), Msg.keepC hHeld.2.2.2.2.2.1 (balloc (Below.refl _ _) _), Msg.keepC hHeld.2.2.2.2.2.2 (balloc (Below.refl _ _) _)⟩) (fun hHeld => ?_)
          clear hK K
          try simp only [Act.put, List.setIfInBounds_toArray, List.set_cons_zero, List.set_cons_succ]
          have N13 := nats_here [id, i, n] (by intro y hy; simp at hy; omega) rfl 3 rfl hHeld.1
          try simp only [World.size_alloc] at N13
          refine wpAnyH_ready (rs := [14, 18]) (by kernel_rfl) (by simp) ?_
          refine AllReadyH.cons (by simp only [List.getElem?_toArray, List.getElem?_cons_succ, List.getElem?_cons_zero]; rfl) (fun K hK => ?_) (AllReadyH.cons (by simp only [List.getElem?_toArray, List.getElem?_cons_succ, List.getElem?_cons_zero]; rfl) (fun K hK => ?_) (AllReadyH.nil))
          · skip
            go_simp
            go_at_call 54
            refine (nums_w N13 (by omega) N D1.out).mono ?_
            rintro e v8 ⟨rfl, k8⟩
            replace N13 := (N13).below rfl k8
            go_wp2_with fail
            refine hK.out _ _ (⟨bstep hHeld.1 k8, (hHeld.2.1).below k8, Msg.keepC hHeld.2.2.1 k8, Msg.keepC hHeld.2.2.2.1 k8, Msg.keepC hHeld.2.2.2.2.1 k8, Msg.keepC hHeld.2.2.2.2.2.1 k8, Msg.keepC hHeld.2.2.2.2.2.2 k8⟩) (fun hHeld => ?_)
            clear hK K k8
            try simp only [Act.put, List.setIfInBounds_toArray, List.set_cons_zero, List.set_cons_succ]
            refine wpAnyH_take (i := 15) (v := ?_) (by simp only [List.getElem?_toArray, List.getElem?_cons_succ, List.getElem?_cons_zero]; rfl) (by kernel_rfl) (by kernel_rfl) (by kernel_rfl) (fun _ _ _ h => h) (Or.inl ⟨by rfl, ?_⟩) (by assumption) ?_
            rotate_left
            · (intro w hSw; (try dsimp only at hSw); go_simp; try with_reducible rfl)
            try simp only [Act.put, List.setIfInBounds_toArray, List.set_cons_zero, List.set_cons_succ]
            refine wpAnyH_ready (rs := [18]) (by kernel_rfl) (by simp) ?_
            refine AllReadyH.cons (by simp only [List.getElem?_toArray, List.getElem?_cons_succ, List.getElem?_cons_zero]; rfl) (fun K hK => ?_) AllReadyH.nil
            go_simp
            refine hK.out _ _ (⟨bstep hHeld.1 (balloc (Below.refl _ _) _), (hHeld.2.1).below (balloc (Below.refl _ _) _), Msg.keepC hHeld.2.2.1 (balloc (Below.refl _ _) _), Msg.keepC hHeld.2.2.2.1 (balloc (Below.refl _ _) _), Msg.keepC hHeld.2.2.2.2.1 (balloc (Below.refl _ _) _), Msg.keepC hHeld.2.2.2.2.2.1 (balloc (Below.refl _ _) _), Msg.keepC hHeld.2.2.2.2.2.2 (balloc (Below.refl _ _) _)⟩) (fun hHeld => ?_)
            clear hK K
            try simp only [Act.put, List.setIfInBounds_toArray, List.set_cons_zero, List.set_cons_succ]
            replace N13 := nats_move N13 hHeld.1
            have N18 := txts_here [tx] (by intro y hy; simp at hy; subst hy; omega) rfl 1 rfl hHeld.1
            try simp only [World.size_alloc] at N18
            refine wpAnyH_ready (rs := [19]) (by kernel_rfl) (by simp) ?_
            refine AllReadyH.cons (by simp only [List.getElem?_toArray, List.getElem?_cons_succ, List.getElem?_cons_zero]; rfl) (fun K hK => ?_) AllReadyH.nil
            go_simp
            go_at_call 55
            refine (texts_w N18 X D2.out jX (by omega)).mono ?_
            rintro e v9 ⟨rfl, k9⟩
            replace N13 := (N13).below rfl k9
            replace N18 := (N18).below rfl k9
            go_wp2_with fail
            refine hK.out _ _ (⟨bstep hHeld.1 k9, (hHeld.2.1).below k9, Msg.keepC hHeld.2.2.1 k9, Msg.keepC hHeld.2.2.2.1 k9, Msg.keepC hHeld.2.2.2.2.1 k9, Msg.keepC hHeld.2.2.2.2.2.1 k9, Msg.keepC hHeld.2.2.2.2.2.2 k9⟩) (fun hHeld => ?_)
            clear hK K k9
            try simp only [Act.put, List.setIfInBounds_toArray, List.set_cons_zero, List.set_cons_succ]
            refine wpAnyH_take (i := 20) (v := ?_) (by simp only [List.getElem?_toArray, List.getElem?_cons_succ, List.getElem?_cons_zero]; rfl) (by kernel_rfl) (by kernel_rfl) (by kernel_rfl) (fun _ _ _ h => h) (Or.inl ⟨by rfl, ?_⟩) (by assumption) ?_
            rotate_left
            · (intro w hSw; (try dsimp only at hSw); go_simp; try with_reducible rfl)
            try simp only [Act.put, List.setIfInBounds_toArray, List.set_cons_zero, List.set_cons_succ]
            refine wpAnyH_take (i := 21) (v := ?_) (by simp only [List.getElem?_toArray, List.getElem?_cons_succ, List.getElem?_cons_zero]; rfl) (by kernel_rfl) (by kernel_rfl) (by kernel_rfl) (fun _ _ _ h => h) (Or.inl ⟨by rfl, ?_⟩) (by assumption) ?_
            rotate_left
            · (intro w hSw; (try dsimp only at hSw); go_simp; try with_reducible rfl)
            try simp only [Act.put, List.setIfInBounds_toArray, List.set_cons_zero, List.set_cons_succ]
            refine wpAnyH_done (by kernel_rfl) ?_ _
            refine NoPanic.normal ?_
            clear hb lA x5 y0 y1 y2 y3
            obtain ⟨hb, lA, x5, y0, y1, y2, y3⟩ := hHeld
            replace lA := Lib.hid lA
            go_wp2_with fail
            go_meet
            exact ⟨rfl, hb, lA.out, x5, y0, y1, y2, y3⟩
          · skip
            go_simp
            refine hK.out _ _ (⟨bstep hHeld.1 (balloc (Below.refl _ _) _), (hHeld.2.1).below (balloc (Below.refl _ _) _), Msg.keepC hHeld.2.2.1 (balloc (Below.refl _ _) _), Msg.keepC hHeld.2.2.2.1 (balloc (Below.refl _ _) _), Msg.keepC hHeld.2.2.2.2.1 (balloc (Below.refl _ _) _), Msg.keepC hHeld.2.2.2.2.2.1 (balloc (Below.refl _ _) _), Msg.keepC hHeld.2.2.2.2.2.2 (balloc (Below.refl _ _) _)⟩) (fun hHeld => ?_)
            clear hK K
            try simp only [Act.put, List.setIfInBounds_toArray, List.set_cons_zero, List.set_cons_succ]
            replace N13 := nats_move N13 hHeld.1
            have N18 := txts_here [tx] (by intro y hy; simp at hy; subst hy; omega) rfl 1 rfl hHeld.1
            try simp only [World.size_alloc] at N18
            refine wpAnyH_ready (rs := [14]) (by kernel_rfl) (by simp) ?_
            refine AllReadyH.cons (by simp only [List.getElem?_toArray, List.getElem?_cons_succ, List.getElem?_cons_zero]; rfl) (fun K hK => ?_) AllReadyH.nil
            go_simp
            go_at_call 54
            refine (nums_w N13 (by omega) N D1.out).mono ?_
            rintro e v10 ⟨rfl, k10⟩
            replace N13 := (N13).below rfl k10
            replace N18 := (N18).below rfl k10
            go_wp2_with fail
            refine hK.out _ _ (⟨bstep hHeld.1 k10, (hHeld.2.1).below k10, Msg.keepC hHeld.2.2.1 k10, Msg.keepC hHeld.2.2.2.1 k10, Msg.keepC hHeld.2.2.2.2.1 k10, Msg.keepC hHeld.2.2.2.2.2.1 k10, Msg.keepC hHeld.2.2.2.2.2.2 k10⟩) (fun hHeld => ?_)
            clear hK K k10
            try simp only [Act.put, List.setIfInBounds_toArray, List.set_cons_zero, List.set_cons_succ]
            refine wpAnyH_take (i := 15) (v := ?_) (by simp only [List.getElem?_toArray, List.getElem?_cons_succ, List.getElem?_cons_zero]; rfl) (by kernel_rfl) (by kernel_rfl) (by kernel_rfl) (fun _ _ _ h => h) (Or.inl ⟨by rfl, ?_⟩) (by assumption) ?_
            rotate_left
            · (intro w hSw; (try dsimp only at hSw); go_simp; try with_reducible rfl)
            try simp only [Act.put, List.setIfInBounds_toArray, List.set_cons_zero, List.set_cons_succ]
            refine wpAnyH_ready (rs := [19]) (by kernel_rfl) (by simp) ?_
            refine AllReadyH.cons (by simp only [List.getElem?_toArray, List.getElem?_cons_succ, List.getElem?_cons_zero]; rfl) (fun K hK => ?_) AllReadyH.nil
            go_simp
            go_at_call 55
            refine (texts_w N18 X D2.out jX (by omega)).mono ?_
            rintro e v11 ⟨rfl, k11⟩
            replace N13 := (N13).below rfl k11
            replace N18 := (N18).below rfl k11
            go_wp2_with fail
            refine hK.out _ _ (⟨bstep hHeld.1 k11, (hHeld.2.1).below k11, Msg.keepC hHeld.2.2.1 k11, Msg.keepC hHeld.2.2.2.1 k11, Msg.keepC hHeld.2.2.2.2.1 k11, Msg.keepC hHeld.2.2.2.2.2.1 k11, Msg.keepC hHeld.2.2.2.2.2.2 k11⟩) (fun hHeld => ?_)
            clear hK K k11
            try simp only [Act.put, List.setIfInBounds_toArray, List.set_cons_zero, List.set_cons_succ]
            refine wpAnyH_take (i := 20) (v := ?_) (by simp only [List.getElem?_toArray, List.getElem?_cons_succ, List.getElem?_cons_zero]; rfl) (by kernel_rfl) (by kernel_rfl) (by kernel_rfl) (fun _ _ _ h => h) (Or.inl ⟨by rfl, ?_⟩) (by assumption) ?_
            rotate_left
            · (intro w hSw; (try dsimp only at hSw); go_simp; try with_reducible rfl)
            try simp only [Act.put, List.setIfInBounds_toArray, List.set_cons_zero, List.set_cons_succ]
            refine wpAnyH_take (i := 21) (v := ?_) (by simp only [List.getElem?_toArray, List.getElem?_cons_succ, List.getElem?_cons_zero]; rfl) (by kernel_rfl) (by kernel_rfl) (by kernel_rfl) (fun _ _ _ h => h) (Or.inl ⟨by rfl, ?_⟩) (by assumption) ?_
            rotate_left
            · (intro w hSw; (try dsimp only at hSw); go_simp; try with_reducible rfl)
            try simp only [Act.put, List.setIfInBounds_toArray, List.set_cons_zero, List.set_cons_succ]
            refine wpAnyH_done (by kernel_rfl) ?_ _
            refine NoPanic.normal ?_
            clear hb lA x5 y0 y1 y2 y3
            obtain ⟨hb, lA, x5, y0, y1, y2, y3⟩ := hHeld
            replace lA := Lib.hid lA
            go_wp2_with fail
            go_meet
            exact ⟨rfl, hb, lA.out, x5, y0, y1, y2, y3⟩
        · skip
          go_simp
          refine hK.out _ _ (⟨bstep hHeld.1 (balloc (Below.refl _ _) _), (hHeld.2.1).below (balloc (Below.refl _ _) _), Msg.keepC hHeld.2.2.1 (balloc (Below.refl _ _) _), Msg.keepC hHeld.2.2.2.1 (balloc (Below.refl _ _) _), Msg.keepC hHeld.2.2.2.2.1 (balloc (Below.refl _ _) _), Msg.keepC hHeld.2.2.2.2.2.1 (balloc (Below.refl _ _) _), Msg.keepC hHeld.2.2.2.2.2.2 (balloc (Below.refl _ _) _)⟩) (fun hHeld => ?_)
          clear hK K
          try simp only [Act.put, List.setIfInBounds_toArray, List.set_cons_zero, List.set_cons_succ]
          have N18 := txts_here [tx] (by intro y hy; simp at hy; subst hy; omega) rfl 1 rfl hHeld.1
          try simp only [World.size_alloc] at N18
          refine wpAnyH_ready (rs := [13]) (by kernel_rfl) (by simp) ?_
          refine AllReadyH.cons (by simp only [List.getElem?_toArray, List.getElem?_cons_succ, List.getElem?_cons_zero]; rfl) (fun K hK => ?_) AllReadyH.nil
          go_simp
          refine hK.out _ _ (⟨bstep hHeld.1 (balloc (Below.refl _ _) _), (hHeld.2.1).below (balloc (Below.refl _ _) _), Msg.keepC hHeld.2.2.1 (balloc (Below.refl _ _) _), Msg.keepC hHeld.2.2.2.1 (balloc (Below.refl _ _) _), Msg.keepC hHeld.2.2.2.2.1 (balloc (Below.refl _ _) _), Msg.keepC hHeld.2.2.2.2.2.1 (balloc (Below.refl _ _) _), Msg.keepC hHeld.2.2.2.2.2.2 (balloc (Below.refl _ _) _)⟩) (fun hHeld => ?_)
          clear hK K
          try simp only [Act.put, List.setIfInBounds_toArray, List.set_cons_zero, List.set_cons_succ]
          replace N18 := txts_move N18 hHeld.1
          have N13 := nats_here [id, i, n] (by intro y hy; simp at hy; omega) rfl 3 rfl hHeld.1
          try simp only [World.size_alloc] at N13
          refine wpAnyH_ready (rs := [14]) (by kernel_rfl) (by simp) ?_
          refine AllReadyH.cons (by simp only [List.getElem?_toArray, List.getElem?_cons_succ, List.getElem?_cons_zero]; rfl) (fun K hK => ?_) AllReadyH.nil
          go_simp
          go_at_call 54
          refine (nums_w N13 (by omega) N D1.out).mono ?_
          rintro e v12 ⟨rfl, k12⟩
          replace N18 := (N18).below rfl k12
          replace N13 := (N13).below rfl k12
          go_wp2_with fail
          refine hK.out _ _ (⟨bstep hHeld.1 k12, (hHeld.2.1).below k12, Msg.keepC hHeld.2.2.1 k12, Msg.keepC hHeld.2.2.2.1 k12, Msg.keepC hHeld.2.2.2.2.1 k12, Msg.keepC hHeld.2.2.2.2.2.1 k12, Msg.keepC hHeld.2.2.2.2.2.2 k12⟩) (fun hHeld => ?_)
          clear hK K k12
          try simp only [Act.put, List.setIfInBounds_toArray, List.set_cons_zero, List.set_cons_succ]
          refine wpAnyH_take (i := 15) (v := ?_) (by simp only [List.getElem?_toArray, List.getElem?_cons_succ, List.getElem?_cons_zero]; rfl) (by kernel_rfl) (by kernel_rfl) (by kernel_rfl) (fun _ _ _ h => h) (Or.inl ⟨by rfl, ?_⟩) (by assumption) ?_
          rotate_left
          · (intro w hSw; (try dsimp only at hSw); go_simp; try with_reducible rfl)
          try simp only [Act.put, List.setIfInBounds_toArray, List.set_cons_zero, List.set_cons_succ]
          refine wpAnyH_ready (rs := [19]) (by kernel_rfl) (by simp) ?_
          refine AllReadyH.cons (by simp only [List.getElem?_toArray, List.getElem?_cons_succ, List.getElem?_cons_zero]; rfl) (fun K hK => ?_) AllReadyH.nil
          go_simp
          go_at_call 55
          refine (texts_w N18 X D2.out jX (by omega)).mono ?_
          rintro e v13 ⟨rfl, k13⟩
          replace N18 := (N18).below rfl k13
          replace N13 := (N13).below rfl k13
          go_wp2_with fail
          refine hK.out _ _ (⟨bstep hHeld.1 k13, (hHeld.2.1).below k13, Msg.keepC hHeld.2.2.1 k13, Msg.keepC hHeld.2.2.2.1 k13, Msg.keepC hHeld.2.2.2.2.1 k13, Msg.keepC hHeld.2.2.2.2.2.1 k13, Msg.keepC hHeld.2.2.2.2.2.2 k13⟩) (fun hHeld => ?_)
          clear hK K k13
          try simp only [Act.put, List.setIfInBounds_toArray, List.set_cons_zero, List.set_cons_succ]
          refine wpAnyH_take (i := 20) (v := ?_) (by simp only [List.getElem?_toArray, List.getElem?_cons_succ, List.getElem?_cons_zero]; rfl) (by kernel_rfl) (by kernel_rfl) (by kernel_rfl) (fun _ _ _ h => h) (Or.inl ⟨by rfl, ?_⟩) (by assumption) ?_
          rotate_left
          · (intro w hSw; (try dsimp only at hSw); go_simp; try with_reducible rfl)
          try simp only [Act.put, List.setIfInBounds_toArray, List.set_cons_zero, List.set_cons_succ]
          refine wpAnyH_take (i := 21) (v := ?_) (by simp only [List.getElem?_toArray, List.getElem?_cons_succ, List.getElem?_cons_zero]; rfl) (by kernel_rfl) (by kernel_rfl) (by kernel_rfl) (fun _ _ _ h => h) (Or.inl ⟨by rfl, ?_⟩) (by assumption) ?_
          rotate_left
          · (intro w hSw; (try dsimp only at hSw); go_simp; try with_reducible rfl)
          try simp only [Act.put, List.setIfInBounds_toArray, List.set_cons_zero, List.set_cons_succ]
          refine wpAnyH_done (by kernel_rfl) ?_ _
          refine NoPanic.normal ?_
          clear hb lA x5 y0 y1 y2 y3
          obtain ⟨hb, lA, x5, y0, y1, y2, y3⟩ := hHeld
          replace lA := Lib.hid lA
          go_wp2_with fail
          go_meet
          exact ⟨rfl, hb, lA.out, x5, y0, y1, y2, y3⟩
      · skip
        go_simp
        refine hK.out _ _ (⟨bstep hHeld.1 (balloc (Below.refl _ _) _), (hHeld.2.1).below (balloc (Below.refl _ _) _), Msg.keepC hHeld.2.2.1 (balloc (Below.refl _ _) _), Msg.keepC hHeld.2.2.2.1 (balloc (Below.refl _ _) _), Msg.keepC hHeld.2.2.2.2.1 (balloc (Below.refl _ _) _), Msg.keepC hHeld.2.2.2.2.2.1 (balloc (Below.refl _ _) _), Msg.keepC hHeld.2.2.2.2.2.2 (balloc (Below.refl _ _) _)⟩) (fun hHeld => ?_)
        clear hK K
        try simp only [Act.put, List.setIfInBounds_toArray, List.set_cons_zero, List.set_cons_succ]
        have N13 := nats_here [id, i, n] (by intro y hy; simp at hy; omega) rfl 3 rfl hHeld.1
        try simp only [World.size_alloc] at N13
        refine wpAnyH_ready (rs := [3, 18]) (by kernel_rfl) (by simp) ?_
        refine AllReadyH.cons (by simp only [List.getElem?_toArray, List.getElem?_cons_succ, List.getElem?_cons_zero]; rfl) (fun K hK => ?_) (AllReadyH.cons (by simp only [List.getElem?_toArray, List.getElem?_cons_succ, List.getElem?_cons_zero]; rfl) (fun K hK => ?_) (AllReadyH.nil))
        · skip
          go_simp
          go_at_call 56
          refine (D3.out _ hHeld.2.1).mono ?_
          rintro e v14 ⟨rfl, k14⟩
          replace N13 := (N13).below rfl k14
          go_wp2_with fail
          refine hK.out _ _ (⟨bstep hHeld.1 k14, (hHeld.2.1).below k14, Msg.keepC hHeld.2.2.1 k14, Msg.keepC hHeld.2.2.2.1 k14, Msg.keepC hHeld.2.2.2.2.1 k14, Msg.keepC hHeld.2.2.2.2.2.1 k14, Msg.keepC hHeld.2.2.2.2.2.2 k14⟩) (fun hHeld => ?_)
          clear hK K k14
          try simp only [Act.put, List.setIfInBounds_toArray, List.set_cons_zero, List.set_cons_succ]
          refine wpAnyH_take (i := 4) (v := ?_) (by simp only [List.getElem?_toArray, List.getElem?_cons_succ, List.getElem?_cons_zero]; rfl) (by kernel_rfl) (by kernel_rfl) (by kernel_rfl) (fun _ _ _ h => h) (Or.inl ⟨by rfl, ?_⟩) (by assumption) ?_
          rotate_left
          · (intro w hSw; (try dsimp only at hSw); go_simp; try with_reducible rfl)
          try simp only [Act.put, List.setIfInBounds_toArray, List.set_cons_zero, List.set_cons_succ]
          refine wpAnyH_ready (rs := [14, 18]) (by kernel_rfl) (by simp) ?_
          refine AllReadyH.cons (by simp only [List.getElem?_toArray, List.getElem?_cons_succ, List.getElem?_cons_zero]; rfl) (fun K hK => ?_) (AllReadyH.cons (by simp only [List.getElem?_toArray, List.getElem?_cons_succ, List.getElem?_cons_zero]; rfl) (fun K hK => ?_) (AllReadyH.nil))
          · skip
            go_simp
            go_at_call 54
            refine (nums_w N13 (by omega) N D1.out).mono ?_
            rintro e v15 ⟨rfl, k15⟩
            replace N13 := (N13).below rfl k15
            go_wp2_with fail
            refine hK.out _ _ (⟨bstep hHeld.1 k15, (hHeld.2.1).below k15, Msg.keepC hHeld.2.2.1 k15, Msg.keepC hHeld.2.2.2.1 k15, Msg.keepC hHeld.2.2.2.2.1 k15, Msg.keepC hHeld.2.2.2.2.2.1 k15, Msg.keepC hHeld.2.2.2.2.2.2 k15⟩) (fun hHeld => ?_)
            clear hK K k15
            try simp only [Act.put, List.setIfInBounds_toArray, List.set_cons_zero, List.set_cons_succ]
            refine wpAnyH_take (i := 15) (v := ?_) (by simp only [List.getElem?_toArray, List.getElem?_cons_succ, List.getElem?_cons_zero]; rfl) (by kernel_rfl) (by kernel_rfl) (by kernel_rfl) (fun _ _ _ h => h) (Or.inl ⟨by rfl, ?_⟩) (by assumption) ?_
            rotate_left
            · (intro w hSw; (try dsimp only at hSw); go_simp; try with_reducible rfl)
            try simp only [Act.put, List.setIfInBounds_toArray, List.set_cons_zero, List.set_cons_succ]
            refine wpAnyH_ready (rs := [18]) (by kernel_rfl) (by simp) ?_
            refine AllReadyH.cons (by simp only [List.getElem?_toArray, List.getElem?_cons_succ, List.getElem?_cons_zero]; rfl) (fun K hK => ?_) AllReadyH.nil
            go_simp
            refine hK.out _ _ (⟨bstep hHeld.1 (balloc (Below.refl _ _) _), (hHeld.2.1).below (balloc (Below.refl _ _) _), Msg.keepC hHeld.2.2.1 (balloc (Below.refl _ _) _), Msg.keepC hHeld.2.2.2.1 (balloc (Below.refl _ _) _), Msg.keepC hHeld.2.2.2.2.1 (balloc (Below.refl _ _) _), Msg.keepC hHeld.2.2.2.2.2.1 (balloc (Below.refl _ _) _), Msg.keepC hHeld.2.2.2.2.2.2 (balloc (Below.refl _ _) _)⟩) (fun hHeld => ?_)
            clear hK K
            try simp only [Act.put, List.setIfInBounds_toArray, List.set_cons_zero, List.set_cons_succ]
            replace N13 := nats_move N13 hHeld.1
            have N18 := txts_here [tx] (by intro y hy; simp at hy; subst hy; omega) rfl 1 rfl hHeld.1
            try simp only [World.size_alloc] at N18
            refine wpAnyH_ready (rs := [19]) (by kernel_rfl) (by simp) ?_
            refine AllReadyH.cons (by simp only [List.getElem?_toArray, List.getElem?_cons_succ, List.getElem?_cons_zero]; rfl) (fun K hK => ?_) AllReadyH.nil
            go_simp
            go_at_call 55
            refine (texts_w N18 X D2.out jX (by omega)).mono ?_
            rintro e v16 ⟨rfl, k16⟩
            replace N13 := (N13).below rfl k16
            replace N18 := (N18).below rfl k16
            go_wp2_with fail
            refine hK.out _ _ (⟨bstep hHeld.1 k16, (hHeld.2.1).below k16, Msg.keepC hHeld.2.2.1 k16, Msg.keepC hHeld.2.2.2.1 k16, Msg.keepC hHeld.2.2.2.2.1 k16, Msg.keepC hHeld.2.2.2.2.2.1 k16, Msg.keepC hHeld.2.2.2.2.2.2 k16⟩) (fun hHeld => ?_)
            clear hK K k16
            try simp only [Act.put, List.setIfInBounds_toArray, List.set_cons_zero, List.set_cons_succ]
            refine wpAnyH_take (i := 20) (v := ?_) (by simp only [List.getElem?_toArray, List.getElem?_cons_succ, List.getElem?_cons_zero]; rfl) (by kernel_rfl) (by kernel_rfl) (by kernel_rfl) (fun _ _ _ h => h) (Or.inl ⟨by rfl, ?_⟩) (by assumption) ?_
            rotate_left
            · (intro w hSw; (try dsimp only at hSw); go_simp; try with_reducible rfl)
            try simp only [Act.put, List.setIfInBounds_toArray, List.set_cons_zero, List.set_cons_succ]
            refine wpAnyH_take (i := 21) (v := ?_) (by simp only [List.getElem?_toArray, List.getElem?_cons_succ, List.getElem?_cons_zero]; rfl) (by kernel_rfl) (by kernel_rfl) (by kernel_rfl) (fun _ _ _ h => h) (Or.inl ⟨by rfl, ?_⟩) (by assumption) ?_
            rotate_left
            · (intro w hSw; (try dsimp only at hSw); go_simp; try with_reducible rfl)
            try simp only [Act.put, List.setIfInBounds_toArray, List.set_cons_zero, List.set_cons_succ]
            refine wpAnyH_done (by kernel_rfl) ?_ _
            refine NoPanic.normal ?_
            clear hb lA x5 y0 y1 y2 y3
            obtain ⟨hb, lA, x5, y0, y1, y2, y3⟩ := hHeld
            replace lA := Lib.hid lA
            go_wp2_with fail
            go_meet
            exact ⟨rfl, hb, lA.out, x5, y0, y1, y2, y3⟩
          · skip
            go_simp
            refine hK.out _ _ (⟨bstep hHeld.1 (balloc (Below.refl _ _) _), (hHeld.2.1).below (balloc (Below.refl _ _) _), Msg.keepC hHeld.2.2.1 (balloc (Below.refl _ _) _), Msg.keepC hHeld.2.2.2.1 (balloc (Below.refl _ _) _), Msg.keepC hHeld.2.2.2.2.1 (balloc (Below.refl _ _) _), Msg.keepC hHeld.2.2.2.2.2.1 (balloc (Below.refl _ _) _), Msg.keepC hHeld.2.2.2.2.2.2 (balloc (Below.refl _ _) _)⟩) (fun hHeld => ?_)
            clear hK K
            try simp only [Act.put, List.setIfInBounds_toArray, List.set_cons_zero, List.set_cons_succ]
            replace N13 := nats_move N13 hHeld.1
            have N18 := txts_here [tx] (by intro y hy; simp at hy; subst hy; omega) rfl 1 rfl hHeld.1
            try simp only [World.size_alloc] at N18
            refine wpAnyH_ready (rs := [14]) (by kernel_rfl) (by simp) ?_
            refine AllReadyH.cons (by simp only [List.getElem?_toArray, List.getElem?_cons_succ, List.getElem?_cons_zero]; rfl) (fun K hK => ?_) AllReadyH.nil
            go_simp
            go_at_call 54
            refine (nums_w N13 (by omega) N D1.out).mono ?_
            rintro e v17 ⟨rfl, k17⟩
            replace N13 := (N13).below rfl k17
            replace N18 := (N18).below rfl k17
            go_wp2_with fail
            refine hK.out _ _ (⟨bstep hHeld.1 k17, (hHeld.2.1).below k17, Msg.keepC hHeld.2.2.1 k17, Msg.keepC hHeld.2.2.2.1 k17, Msg.keepC hHeld.2.2.2.2.1 k17, Msg.keepC hHeld.2.2.2.2.2.1 k17, Msg.keepC hHeld.2.2.2.2.2.2 k17⟩) (fun hHeld => ?_)
            clear hK K k17
            try simp only [Act.put, List.setIfInBounds_toArray, List.set_cons_zero, List.set_cons_succ]
            refine wpAnyH_take (i := 15) (v := ?_) (by simp only [List.getElem?_toArray, List.getElem?_cons_succ, List.getElem?_cons_zero]; rfl) (by kernel_rfl) (by kernel_rfl) (by kernel_rfl) (fun _ _ _ h => h) (Or.inl ⟨by rfl, ?_⟩) (by assumption) ?_
            rotate_left
            · (intro w hSw; (try dsimp only at hSw); go_simp; try with_reducible rfl)
            try simp only [Act.put, List.setIfInBounds_toArray, List.set_cons_zero, List.set_cons_succ]
            refine wpAnyH_ready (rs := [19]) (by kernel_rfl) (by simp) ?_
            refine AllReadyH.cons (by simp only [List.getElem?_toArray, List.getElem?_cons_succ, List.getElem?_cons_zero]; rfl) (fun K hK => ?_) AllReadyH.nil
            go_simp
            go_at_call 55
            refine (texts_w N18 X D2.out jX (by omega)).mono ?_
            rintro e v18 ⟨rfl, k18⟩
            replace N13 := (N13).below rfl k18
            replace N18 := (N18).below rfl k18
            go_wp2_with fail
            refine hK.out _ _ (⟨bstep hHeld.1 k18, (hHeld.2.1).below k18, Msg.keepC hHeld.2.2.1 k18, Msg.keepC hHeld.2.2.2.1 k18, Msg.keepC hHeld.2.2.2.2.1 k18, Msg.keepC hHeld.2.2.2.2.2.1 k18, Msg.keepC hHeld.2.2.2.2.2.2 k18⟩) (fun hHeld => ?_)
            clear hK K k18
            try simp only [Act.put, List.setIfInBounds_toArray, List.set_cons_zero, List.set_cons_succ]
            refine wpAnyH_take (i := 20) (v := ?_) (by simp only [List.getElem?_toArray, List.getElem?_cons_succ, List.getElem?_cons_zero]; rfl) (by kernel_rfl) (by kernel_rfl) (by kernel_rfl) (fun _ _ _ h => h) (Or.inl ⟨by rfl, ?_⟩) (by assumption) ?_
            rotate_left
            · (intro w hSw; (try dsimp only at hSw); go_simp; try with_reducible rfl)
            try simp only [Act.put, List.setIfInBounds_toArray, List.set_cons_zero, List.set_cons_succ]
            refine wpAnyH_take (i := 21) (v := ?_) (by simp only [List.getElem?_toArray, List.getElem?_cons_succ, List.getElem?_cons_zero]; rfl) (by kernel_rfl) (by kernel_rfl) (by kernel_rfl) (fun _ _ _ h => h) (Or.inl ⟨by rfl, ?_⟩) (by assumption) ?_
            rotate_left
            · (intro w hSw; (try dsimp only at hSw); go_simp; try with_reducible rfl)
            try simp only [Act.put, List.setIfInBounds_toArray, List.set_cons_zero, List.set_cons_succ]
            refine wpAnyH_done (by kernel_rfl) ?_ _
            refine NoPanic.normal ?_
            clear hb lA x5 y0 y1 y2 y3
            obtain ⟨hb, lA, x5, y0, y1, y2, y3⟩ := hHeld
            replace lA := Lib.hid lA
            go_wp2_with fail
            go_meet
            exact ⟨rfl, hb, lA.out, x5, y0, y1, y2, y3⟩
        · skip
          go_simp
          refine hK.out _ _ (⟨bstep hHeld.1 (balloc (Below.refl _ _) _), (hHeld.2.1).below (balloc (Below.refl _ _) _), Msg.keepC hHeld.2.2.1 (balloc (Below.refl _ _) _), Msg.keepC hHeld.2.2.2.1 (balloc (Below.refl _ _) _), Msg.keepC hHeld.2.2.2.2.1 (balloc (Below.refl _ _) _), Msg.keepC hHeld.2.2.2.2.2.1 (balloc (Below.refl _ _) _), Msg.keepC hHeld.2.2.2.2.2.2 (balloc (Below.refl _ _) _)⟩) (fun hHeld => ?_)
          clear hK K
          try simp only [Act.put, List.setIfInBounds_toArray, List.set_cons_zero, List.set_cons_succ]
          replace N13 := nats_move N13 hHeld.1
          have N18 := txts_here [tx] (by intro y hy; simp at hy; subst hy; omega) rfl 1 rfl hHeld.1
          try simp only [World.size_alloc] at N18
          refine wpAnyH_ready (rs := [3]) (by kernel_rfl) (by simp) ?_
          refine AllReadyH.cons (by simp only [List.getElem?_toArray, List.getElem?_cons_succ, List.getElem?_cons_zero]; rfl) (fun K hK => ?_) AllReadyH.nil
          go_simp
          go_at_call 56
          refine (D3.out _ hHeld.2.1).mono ?_
          rintro e v19 ⟨rfl, k19⟩
          replace N13 := (N13).below rfl k19
          replace N18 := (N18).below rfl k19
          go_wp2_with fail
          refine hK.out _ _ (⟨bstep hHeld.1 k19, (hHeld.2.1).below k19, Msg.keepC hHeld.2.2.1 k19, Msg.keepC hHeld.2.2.2.1 k19, Msg.keepC hHeld.2.2.2.2.1 k19, Msg.keepC hHeld.2.2.2.2.2.1 k19, Msg.keepC hHeld.2.2.2.2.2.2 k19⟩) (fun hHeld => ?_)
          clear hK K k19
          try simp only [Act.put, List.setIfInBounds_toArray, List.set_cons_zero, List.set_cons_succ]
          refine wpAnyH_take (i := 4) (v := ?_) (by simp only [List.getElem?_toArray, List.getElem?_cons_succ, List.getElem?_cons_zero]; rfl) (by kernel_rfl) (by kernel_rfl) (by kernel_rfl) (fun _ _ _ h => h) (Or.inl ⟨by rfl, ?_⟩) (by assumption) ?_
          rotate_left
          · (intro w hSw; (try dsimp only at hSw); go_simp; try with_reducible rfl)
          try simp only [Act.put, List.setIfInBounds_toArray, List.set_cons_zero, List.set_cons_succ]
          refine wpAnyH_ready (rs := [14]) (by kernel_rfl) (by simp) ?_
          refine AllReadyH.cons (by simp only [List.getElem?_toArray, List.getElem?_cons_succ, List.getElem?_cons_zero]; rfl) (fun K hK => ?_) AllReadyH.nil
          go_simp
          go_at_call 54
          refine (nums_w N13 (by omega) N D1.out).mono ?_
          rintro e v20 ⟨rfl, k20⟩
          replace N13 := (N13).below rfl k20
          replace N18 := (N18).below rfl k20
          go_wp2_with fail
          refine hK.out _ _ (⟨bstep hHeld.1 k20, (hHeld.2.1).below k20, Msg.keepC hHeld.2.2.1 k20, Msg.keepC hHeld.2.2.2.1 k20, Msg.keepC hHeld.2.2.2.2.1 k20, Msg.keepC hHeld.2.2.2.2.2.1 k20, Msg.keepC hHeld.2.2.2.2.2.2 k20⟩) (fun hHeld => ?_)
          clear hK K k20
          try simp only [Act.put, List.setIfInBounds_toArray, List.set_cons_zero, List.set_cons_succ]
          refine wpAnyH_take (i := 15) (v := ?_) (by simp only [List.getElem?_toArray, List.getElem?_cons_succ, List.getElem?_cons_zero]; rfl) (by kernel_rfl) (by kernel_rfl) (by kernel_rfl) (fun _ _ _ h => h) (Or.inl ⟨by rfl, ?_⟩) (by assumption) ?_
          rotate_left
          · (intro w hSw; (try dsimp only at hSw); go_simp; try with_reducible rfl)
          try simp only [Act.put, List.setIfInBounds_toArray, List.set_cons_zero, List.set_cons_succ]
          refine wpAnyH_ready (rs := [19]) (by kernel_rfl) (by simp) ?_
          refine AllReadyH.cons (by simp only [List.getElem?_toArray, List.getElem?_cons_succ, List.getElem?_cons_zero]; rfl) (fun K hK => ?_) AllReadyH.nil
          go_simp
          go_at_call 55
          refine (texts_w N18 X D2.out jX (by omega)).mono ?_
          rintro e v21 ⟨rfl, k21⟩
          replace N13 := (N13).below rfl k21
          replace N18 := (N18).below rfl k21
          go_wp2_with fail
          refine hK.out _ _ (⟨bstep hHeld.1 k21, (hHeld.2.1).below k21, Msg.keepC hHeld.2.2.1 k21, Msg.keepC hHeld.2.2.2.1 k21, Msg.keepC hHeld.2.2.2.2.1 k21, Msg.keepC hHeld.2.2.2.2.2.1 k21, Msg.keepC hHeld.2.2.2.2.2.2 k21⟩) (fun hHeld => ?_)
          clear hK K k21
          try simp only [Act.put, List.setIfInBounds_toArray, List.set_cons_zero, List.set_cons_succ]
          refine wpAnyH_take (i := 20) (v := ?_) (by simp only [List.getElem?_toArray, List.getElem?_cons_succ, List.getElem?_cons_zero]; rfl) (by kernel_rfl) (by kernel_rfl) (by kernel_rfl) (fun _ _ _ h => h) (Or.inl ⟨by rfl, ?_⟩) (by assumption) ?_
          rotate_left
          · (intro w hSw; (try dsimp only at hSw); go_simp; try with_reducible rfl)
          try simp only [Act.put, List.setIfInBounds_toArray, List.set_cons_zero, List.set_cons_succ]
          refine wpAnyH_take (i := 21) (v := ?_) (by simp only [List.getElem?_toArray, List.getElem?_cons_succ, List.getElem?_cons_zero]; rfl) (by kernel_rfl) (by kernel_rfl) (by kernel_rfl) (fun _ _ _ h => h) (Or.inl ⟨by rfl, ?_⟩) (by assumption) ?_
          rotate_left
          · (intro w hSw; (try dsimp only at hSw); go_simp; try with_reducible rfl)
          try simp only [Act.put, List.setIfInBounds_toArray, List.set_cons_zero, List.set_cons_succ]
          refine wpAnyH_done (by kernel_rfl) ?_ _
          refine NoPanic.normal ?_
          clear hb lA x5 y0 y1 y2 y3
          obtain ⟨hb, lA, x5, y0, y1, y2, y3⟩ := hHeld
          replace lA := Lib.hid lA
          go_wp2_with fail
          go_meet
          exact ⟨rfl, hb, lA.out, x5, y0, y1, y2, y3⟩
      · skip
        go_simp
        refine hK.out _ _ (⟨bstep hHeld.1 (balloc (Below.refl _ _) _), (hHeld.2.1).below (balloc (Below.refl _ _) _), Msg.keepC hHeld.2.2.1 (balloc (Below.refl _ _) _), Msg.keepC hHeld.2.2.2.1 (balloc (Below.refl _ _) _), Msg.keepC hHeld.2.2.2.2.1 (balloc (Below.refl _ _) _), Msg.keepC hHeld.2.2.2.2.2.1 (balloc (Below.refl _ _) _), Msg.keepC hHeld.2.2.2.2.2.2 (balloc (Below.refl _ _) _)⟩) (fun hHeld => ?_)
        clear hK K
        try simp only [Act.put, List.setIfInBounds_toArray, List.set_cons_zero, List.set_cons_succ]
        have N18 := txts_here [tx] (by intro y hy; simp at hy; subst hy; omega) rfl 1 rfl hHeld.1
        try simp only [World.size_alloc] at N18
        refine wpAnyH_ready (rs := [3, 13]) (by kernel_rfl) (by simp) ?_
        refine AllReadyH.cons (by simp only [List.getElem?_toArray, List.getElem?_cons_succ, List.getElem?_cons_zero]; rfl) (fun K hK => ?_) (AllReadyH.cons (by simp only [List.getElem?_toArray, List.getElem?_cons_succ, List.getElem?_cons_zero]; rfl) (fun K hK => ?_) (AllReadyH.nil))
        · skip
          go_simp
          go_at_call 56
          refine (D3.out _ hHeld.2.1).mono ?_
          rintro e v22 ⟨rfl, k22⟩
          replace N18 := (N18).below rfl k22
          go_wp2_with fail
          refine hK.out _ _ (⟨bstep hHeld.1 k22, (hHeld.2.1).below k22, Msg.keepC hHeld.2.2.1 k22, Msg.keepC hHeld.2.2.2.1 k22, Msg.keepC hHeld.2.2.2.2.1 k22, Msg.keepC hHeld.2.2.2.2.2.1 k22, Msg.keepC hHeld.2.2.2.2.2.2 k22⟩) (fun hHeld => ?_)
          clear hK K k22
          try simp only [Act.put, List.setIfInBounds_toArray, List.set_cons_zero, List.set_cons_succ]
          refine wpAnyH_take (i := 4) (v := ?_) (by simp only [List.getElem?_toArray, List.getElem?_cons_succ, List.getElem?_cons_zero]; rfl) (by kernel_rfl) (by kernel_rfl) (by kernel_rfl) (fun _ _ _ h => h) (Or.inl ⟨by rfl, ?_⟩) (by assumption) ?_
          rotate_left
          · (intro w hSw; (try dsimp only at hSw); go_simp; try with_reducible rfl)
          try simp only [Act.put, List.setIfInBounds_toArray, List.set_cons_zero, List.set_cons_succ]
          refine wpAnyH_ready (rs := [13]) (by kernel_rfl) (by simp) ?_
          refine AllReadyH.cons (by simp only [List.getElem?_toArray, List.getElem?_cons_succ, List.getElem?_cons_zero]; rfl) (fun K hK => ?_) AllReadyH.nil
          go_simp
          refine hK.out _ _ (⟨bstep hHeld.1 (balloc (Below.refl _ _) _), (hHeld.2.1).below (balloc (Below.refl _ _) _), Msg.keepC hHeld.2.2.1 (balloc (Below.refl _ _) _), Msg.keepC hHeld.2.2.2.1 (balloc (Below.refl _ _) _), Msg.keepC hHeld.2.2.2.2.1 (balloc (Below.refl _ _) _), Msg.keepC hHeld.2.2.2.2.2.1 (balloc (Below.refl _ _) _), Msg.keepC hHeld.2.2.2.2.2.2 (balloc (Below.refl _ _) _)⟩) (fun hHeld => ?_)
          clear hK K
          try simp only [Act.put, List.setIfInBounds_toArray, List.set_cons_zero, List.set_cons_succ]
          replace N18 := txts_move N18 hHeld.1
          have N13 := nats_here [id, i, n] (by intro y hy; simp at hy; omega) rfl 3 rfl hHeld.1
          try simp only [World.size_alloc] at N13
          refine wpAnyH_ready (rs := [14]) (by kernel_rfl) (by simp) ?_
          refine AllReadyH.cons (by simp only [List.getElem?_toArray, List.getElem?_cons_succ, List.getElem?_cons_zero]; rfl) (fun K hK => ?_) AllReadyH.nil
          go_simp
          go_at_call 54
          refine (nums_w N13 (by omega) N D1.out).mono ?_
          rintro e v23 ⟨rfl, k23⟩
          replace N18 := (N18).below rfl k23
          replace N13 := (N13).below rfl k23
          go_wp2_with fail
          refine hK.out _ _ (⟨bstep hHeld.1 k23, (hHeld.2.1).below k23, Msg.keepC hHeld.2.2.1 k23, Msg.keepC hHeld.2.2.2.1 k23, Msg.keepC hHeld.2.2.2.2.1 k23, Msg.keepC hHeld.2.2.2.2.2.1 k23, Msg.keepC hHeld.2.2.2.2.2.2 k23⟩) (fun hHeld => ?_)
          clear hK K k23
          try simp only [Act.put, List.setIfInBounds_toArray, List.set_cons_zero, List.set_cons_succ]
          refine wpAnyH_take (i := 15) (v := ?_) (by simp only [List.getElem?_toArray, List.getElem?_cons_succ, List.getElem?_cons_zero]; rfl) (by kernel_rfl) (by kernel_rfl) (by kernel_rfl) (fun _ _ _ h => h) (Or.inl ⟨by rfl, ?_⟩) (by assumption) ?_
          rotate_left
          · (intro w hSw; (try dsimp only at hSw); go_simp; try with_reducible rfl)
          try simp only [Act.put, List.setIfInBounds_toArray, List.set_cons_zero, List.set_cons_succ]
          refine wpAnyH_ready (rs := [19]) (by kernel_rfl) (by simp) ?_
          refine AllReadyH.cons (by simp only [List.getElem?_toArray, List.getElem?_cons_succ, List.getElem?_cons_zero]; rfl) (fun K hK => ?_) AllReadyH.nil
          go_simp
          go_at_call 55
          refine (texts_w N18 X D2.out jX (by omega)).mono ?_
          rintro e v24 ⟨rfl, k24⟩
          replace N18 := (N18).below rfl k24
          replace N13 := (N13).below rfl k24
          go_wp2_with fail
          refine hK.out _ _ (⟨bstep hHeld.1 k24, (hHeld.2.1).below k24, Msg.keepC hHeld.2.2.1 k24, Msg.keepC hHeld.2.2.2.1 k24, Msg.keepC hHeld.2.2.2.2.1 k24, Msg.keepC hHeld.2.2.2.2.2.1 k24, Msg.keepC hHeld.2.2.2.2.2.2 k24⟩) (fun hHeld => ?_)
          clear hK K k24
          try simp only [Act.put, List.setIfInBounds_toArray, List.set_cons_zero, List.set_cons_succ]
          refine wpAnyH_take (i := 20) (v := ?_) (by simp only [List.getElem?_toArray, List.getElem?_cons_succ, List.getElem?_cons_zero]; rfl) (by kernel_rfl) (by kernel_rfl) (by kernel_rfl) (fun _ _ _ h => h) (Or.inl ⟨by rfl, ?_⟩) (by assumption) ?_
          rotate_left
          · (intro w hSw; (try dsimp only at hSw); go_simp; try with_reducible rfl)
          try simp only [Act.put, List.setIfInBounds_toArray, List.set_cons_zero, List.set_cons_succ]
          refine wpAnyH_take (i := 21) (v := ?_) (by simp only [List.getElem?_toArray, List.getElem?_cons_succ, List.getElem?_cons_zero]; rfl) (by kernel_rfl) (by kernel_rfl) (by kernel_rfl) (fun _ _ _ h => h) (Or.inl ⟨by rfl, ?_⟩) (by assumption) ?_
          rotate_left
          · (intro w hSw; (try dsimp only at hSw); go_simp; try with_reducible rfl)
          try simp only [Act.put, List.setIfInBounds_toArray, List.set_cons_zero, List.set_cons_succ]
          refine wpAnyH_done (by kernel_rfl) ?_ _
          refine NoPanic.normal ?_
          clear hb lA x5 y0 y1 y2 y3
          obtain ⟨hb, lA, x5, y0, y1, y2, y3⟩ := hHeld
          replace lA := Lib.hid lA
          go_wp2_with fail
          go_meet
          exact ⟨rfl, hb, lA.out, x5, y0, y1, y2, y3⟩
        · skip
          go_simp
          refine hK.out _ _ (⟨bstep hHeld.1 (balloc (Below.refl _ _) _), (hHeld.2.1).below (balloc (Below.refl _ _) _), Msg.keepC hHeld.2.2.1 (balloc (Below.refl _ _) _), Msg.keepC hHeld.2.2.2.1 (balloc (Below.refl _ _) _), Msg.keepC hHeld.2.2.2.2.1 (balloc (Below.refl _ _) _), Msg.keepC hHeld.2.2.2.2.2.1 (balloc (Below.refl _ _) _), Msg.keepC hHeld.2.2.2.2.2.2 (balloc (Below.refl _ _) _)⟩) (fun hHeld => ?_)
          clear hK K
          try simp only [Act.put, List.setIfInBounds_toArray, List.set_cons_zero, List.set_cons_succ]
          replace N18 := txts_move N18 hHeld.1
          have N13 := nats_here [id, i, n] (by intro y hy; simp at hy; omega) rfl 3 rfl hHeld.1
          try simp only [World.size_alloc] at N13
          refine wpAnyH_ready (rs := [3]) (by kernel_rfl) (by simp) ?_
          refine AllReadyH.cons (by simp only [List.getElem?_toArray, List.getElem?_cons_succ, List.getElem?_cons_zero]; rfl) (fun K hK => ?_) AllReadyH.nil
          go_simp
          go_at_call 56
          refine (D3.out _ hHeld.2.1).mono ?_
          rintro e v25 ⟨rfl, k25⟩
          replace N18 := (N18).below rfl k25
          replace N13 := (N13).below rfl k25
          go_wp2_with fail
          refine hK.out _ _ (⟨bstep hHeld.1 k25, (hHeld.2.1).below k25, Msg.keepC hHeld.2.2.1 k25, Msg.keepC hHeld.2.2.2.1 k25, Msg.keepC hHeld.2.2.2.2.1 k25, Msg.keepC hHeld.2.2.2.2.2.1 k25, Msg.keepC hHeld.2.2.2.2.2.2 k25⟩) (fun hHeld => ?_)
          clear hK K k25
          try simp only [Act.put, List.setIfInBounds_toArray, List.set_cons_zero, List.set_cons_succ]
          refine wpAnyH_take (i := 4) (v := ?_) (by simp only [List.getElem?_toArray, List.getElem?_cons_succ, List.getElem?_cons_zero]; rfl) (by kernel_rfl) (by kernel_rfl) (by kernel_rfl) (fun _ _ _ h => h) (Or.inl ⟨by rfl, ?_⟩) (by assumption) ?_
          rotate_left
          · (intro w hSw; (try dsimp only at hSw); go_simp; try with_reducible rfl)
          try simp only [Act.put, List.setIfInBounds_toArray, List.set_cons_zero, List.set_cons_succ]
          refine wpAnyH_ready (rs := [14]) (by kernel_rfl) (by simp) ?_
          refine AllReadyH.cons (by simp only [List.getElem?_toArray, List.getElem?_cons_succ, List.getElem?_cons_zero]; rfl) (fun K hK => ?_) AllReadyH.nil
          go_simp
          go_at_call 54
          refine (nums_w N13 (by omega) N D1.out).mono ?_
          rintro e v26 ⟨rfl, k26⟩
          replace N18 := (N18).below rfl k26
          replace N13 := (N13).below rfl k26
          go_wp2_with fail
          refine hK.out _ _ (⟨bstep hHeld.1 k26, (hHeld.2.1).below k26, Msg.keepC hHeld.2.2.1 k26, Msg.keepC hHeld.2.2.2.1 k26, Msg.keepC hHeld.2.2.2.2.1 k26, Msg.keepC hHeld.2.2.2.2.2.1 k26, Msg.keepC hHeld.2.2.2.2.2.2 k26⟩) (fun hHeld => ?_)
          clear hK K k26
          try simp only [Act.put, List.setIfInBounds_toArray, List.set_cons_zero, List.set_cons_succ]
          refine wpAnyH_take (i := 15) (v := ?_) (by simp only [List.getElem?_toArray, List.getElem?_cons_succ, List.getElem?_cons_zero]; rfl) (by kernel_rfl) (by kernel_rfl) (by kernel_rfl) (fun _ _ _ h => h) (Or.inl ⟨by rfl, ?_⟩) (by assumption) ?_
          rotate_left
          · (intro w hSw; (try dsimp only at hSw); go_simp; try with_reducible rfl)
          try simp only [Act.put, List.setIfInBounds_toArray, List.set_cons_zero, List.set_cons_succ]
          refine wpAnyH_ready (rs := [19]) (by kernel_rfl) (by simp) ?_
          refine AllReadyH.cons (by simp only [List.getElem?_toArray, List.getElem?_cons_succ, List.getElem?_cons_zero]; rfl) (fun K hK => ?_) AllReadyH.nil
          go_simp
          go_at_call 55
          refine (texts_w N18 X D2.out jX (by omega)).mono ?_
          rintro e v27 ⟨rfl, k27⟩
          replace N18 := (N18).below rfl k27
          replace N13 := (N13).below rfl k27
          go_wp2_with fail
          refine hK.out _ _ (⟨bstep hHeld.1 k27, (hHeld.2.1).below k27, Msg.keepC hHeld.2.2.1 k27, Msg.keepC hHeld.2.2.2.1 k27, Msg.keepC hHeld.2.2.2.2.1 k27, Msg.keepC hHeld.2.2.2.2.2.1 k27, Msg.keepC hHeld.2.2.2.2.2.2 k27⟩) (fun hHeld => ?_)
          clear hK K k27
          try simp only [Act.put, List.setIfInBounds_toArray, List.set_cons_zero, List.set_cons_succ]
          refine wpAnyH_take (i := 20) (v := ?_) (by simp only [List.getElem?_toArray, List.getElem?_cons_succ, List.getElem?_cons_zero]; rfl) (by kernel_rfl) (by kernel_rfl) (by kernel_rfl) (fun _ _ _ h => h) (Or.inl ⟨by rfl, ?_⟩) (by assumption) ?_
          rotate_left
          · (intro w hSw; (try dsimp only at hSw); go_simp; try with_reducible rfl)
          try simp only [Act.put, List.setIfInBounds_toArray, List.set_cons_zero, List.set_cons_succ]
          refine wpAnyH_take (i := 21) (v := ?_) (by simp only [List.getElem?_toArray, List.getElem?_cons_succ, List.getElem?_cons_zero]; rfl) (by kernel_rfl) (by kernel_rfl) (by kernel_rfl) (fun _ _ _ h => h) (Or.inl ⟨by rfl, ?_⟩) (by assumption) ?_
          rotate_left
          · (intro w hSw; (try dsimp only at hSw); go_simp; try with_reducible rfl)
          try simp only [Act.put, List.setIfInBounds_toArray, List.set_cons_zero, List.set_cons_succ]
          refine wpAnyH_done (by kernel_rfl) ?_ _
          refine NoPanic.normal ?_
          clear hb lA x5 y0 y1 y2 y3
          obtain ⟨hb, lA, x5, y0, y1, y2, y3⟩ := hHeld
          replace lA := Lib.hid lA
          go_wp2_with fail
          go_meet
          exact ⟨rfl, hb, lA.out, x5, y0, y1, y2, y3⟩
    clear hb lA x5 y0 y1 y2 y3
    obtain ⟨rfl, hb, lA, x5, y0, y1, y2, y3⟩ := hcut
    replace lA := Lib.hid lA
    go_wp2
    go_ret
    exact ⟨by rw [HV.out]; rfl, hb⟩
  by_cases k2 : k = 2
  · skip
    have zz1 : ((k : Int) == 1) = false := by rw [beq_eq_false_iff_ne]; omega
    have zz2 : ((k : Int) == 2) = true := by rw [beq_iff_eq]; omega
    have zH := Str.size_mk H
    obtain ⟨Q, hQ⟩ : ∃ p, p = upL seq := ⟨_, rfl⟩
    have zQ := Str.size_mk Q
    obtain ⟨C0, hC0⟩ : ∃ p, p = H ++ Q := ⟨_, rfl⟩
    have lC0 : C0.length = H.length + Q.length := by rw [hC0, List.length_append]
    have aC0 : (({ data := H.toArray } : ByteArray)) ++ { data := Q.toArray } = { data := C0.toArray } := by rw [hC0]; exact Str.mk_append_mk H Q
    have zC0 := Str.size_mk C0
    have HV : bodyL ⟨k, src, dst, fr, seq, all, id, (i : Int), (n : Int), tx⟩ = C0 := by
      unfold bodyL
      simp only [Int.toNat_natCast]
      rw [if_neg k1, if_pos k2, HHv.out, ← hQ, ← hC0]
    rw [HV] at hbl
    replace HV := Lib.hid HV
    have nC0 : ¬ (9223372036854775807 < H.length + Q.length) := by omega
    have mC0 : ¬ (H.length + Q.length > 9223372036854775807) := by omega
    have D1 : Hid (cat [seq] = Q) := Lib.hid (by rw [hQ]; simp [cat])
    replace hQ := Lib.hid hQ
    replace hC0 := Lib.hid hC0
    replace lC0 := Lib.hid lC0
    clear hHl
    replace k1 := Lib.hid k1
    replace k2 := Lib.hid k2
    go_wp2_with fail
    refine (nums_of [seq] (by intro y hy; simp at hy; omega) #[.int .u64 (seq : Int)] rfl 22 1 1 rfl (by omega) Q D1.out wc wc.heap.size rfl).mono ?_
    rintro e v9 ⟨rfl, kk9⟩
    replace hb := bstep (balloc hb _) kk9
    go_wp2
    go_ret
    exact ⟨by rw [HV.out]; rfl, hb⟩
  by_cases k3 : k = 3
  · skip
    have zz1 : ((k : Int) == 1) = false := by rw [beq_eq_false_iff_ne]; omega
    have zz2 : ((k : Int) == 2) = false := by rw [beq_eq_false_iff_ne]; omega
    have zz3 : ((k : Int) == 3) = true := by rw [beq_iff_eq]; omega
    have zH := Str.size_mk H
    obtain ⟨Q, hQ⟩ : ∃ p, p = upL seq := ⟨_, rfl⟩
    have zQ := Str.size_mk Q
    obtain ⟨X, hX⟩ : ∃ p, p = txtL fr := ⟨_, rfl⟩
    have zX := Str.size_mk X
    obtain ⟨C0, hC0⟩ : ∃ p, p = H ++ Q := ⟨_, rfl⟩
    have lC0 : C0.length = H.length + Q.length := by rw [hC0, List.length_append]
    have aC0 : (({ data := H.toArray } : ByteArray)) ++ { data := Q.toArray } = { data := C0.toArray } := by rw [hC0]; exact Str.mk_append_mk H Q
    have zC0 := Str.size_mk C0
    obtain ⟨C1, hC1⟩ : ∃ p, p = C0 ++ X := ⟨_, rfl⟩
    have lC1 : C1.length = C0.length + X.length := by rw [hC1, List.length_append]
    have aC1 : (({ data := C0.toArray } : ByteArray)) ++ { data := X.toArray } = { data := C1.toArray } := by rw [hC1]; exact Str.mk_append_mk C0 X
    have zC1 := Str.size_mk C1
    have HV : bodyL ⟨k, src, dst, fr, seq, all, id, (i : Int), (n : Int), tx⟩ = C1 := by
      unfold bodyL
      simp only [Int.toNat_natCast]
      rw [if_neg k1, if_neg k2, if_pos k3, HHv.out, ← hQ, ← hC0, ← hX, ← hC1]
    rw [HV] at hbl
    replace HV := Lib.hid HV
    have nC0 : ¬ (9223372036854775807 < H.length + Q.length) := by omega
    have mC0 : ¬ (H.length + Q.length > 9223372036854775807) := by omega
    have nC1 : ¬ (9223372036854775807 < C0.length + X.length) := by omega
    have mC1 : ¬ (C0.length + X.length > 9223372036854775807) := by omega
    have D1 : Hid (cat [seq] = Q) := Lib.hid (by rw [hQ]; simp [cat])
    have D2 : Hid ([fr].flatMap txtL = X) := Lib.hid (by rw [hX]; simp)
    have jX : X.length ≤ 1099511627776 := by omega
    replace hQ := Lib.hid hQ
    replace hX := Lib.hid hX
    replace hC0 := Lib.hid hC0
    replace hC1 := Lib.hid hC1
    replace lC0 := Lib.hid lC0
    replace lC1 := Lib.hid lC1
    clear hHl
    replace k1 := Lib.hid k1
    replace k2 := Lib.hid k2
    replace k3 := Lib.hid k3
    go_upto_region 9 with fail
    go_cut [2] (fun s wx => s = .string ⟨C1.toArray⟩ ∧ Below w.heap.size w wx ∧ Lies wx a all.length all ∧ wx.cell? ⟨w.heap.size, 3, none⟩ = some (.string ⟨fr.toArray⟩) ∧ wx.cell? ⟨w.heap.size, 4, none⟩ = some (.int .u64 (seq : Int)))
    case first =>
      refine wp_region_noPanic ?_
      refine wp_region_held_drew (S := (fun w' => Below w.heap.size w w' ∧ Lies w' a all.length all ∧ w'.cell? ⟨w.heap.size, 3, none⟩ = some (.string ⟨fr.toArray⟩) ∧ w'.cell? ⟨w.heap.size, 4, none⟩ = some (.int .u64 (seq : Int)))) (by kernel_rfl) (⟨Below.drew hb, (lA.out).below (Below.drew (Below.refl _ _)), Msg.keepC x3 (Below.drew (Below.refl _ _)), Msg.keepC x4 (Below.drew (Below.refl _ _))⟩) (fun hHeld => ?_)
      revert hHeld
      generalize World.drew _ = wd
      intro hHeld
      refine wpAnyH_take (i := 0) (v := ?_) (by simp only [List.getElem?_toArray, List.getElem?_cons_zero]; rfl) (by kernel_rfl) (by kernel_rfl) (by kernel_rfl) (fun _ _ _ h => h) (Or.inl ⟨by rfl, ?_⟩) (by assumption) ?_
      rotate_left
      · (intro w hSw; (try dsimp only at hSw); go_simp; try with_reducible rfl)
      try simp only [Act.put, List.setIfInBounds_toArray, List.set_cons_zero, List.set_cons_succ]
      refine wpAnyH_take (i := 1) (v := ?_) (by simp only [List.getElem?_toArray, List.getElem?_cons_succ, List.getElem?_cons_zero]; rfl) (by kernel_rfl) (by kernel_rfl) (by kernel_rfl) (fun _ _ _ h => h) (Or.inl ⟨by rfl, ?_⟩) (by assumption) ?_
      rotate_left
      · (intro w hSw; (try dsimp only at hSw); go_simp; try with_reducible rfl)
      try simp only [Act.put, List.setIfInBounds_toArray, List.set_cons_zero, List.set_cons_succ]
      refine wpAnyH_take (i := 2) (v := ?_) (by simp only [List.getElem?_toArray, List.getElem?_cons_succ, List.getElem?_cons_zero]; rfl) (by kernel_rfl) (by kernel_rfl) (by kernel_rfl) (fun _ _ _ h => h) (Or.inl ⟨by rfl, ?_⟩) (by assumption) ?_
      rotate_left
      · (intro w hSw; (try dsimp only at hSw); go_simp; try with_reducible rfl)
      try simp only [Act.put, List.setIfInBounds_toArray, List.set_cons_zero, List.set_cons_succ]
      refine wpAnyH_take (i := 6) (v := ?_) (by simp only [List.getElem?_toArray, List.getElem?_cons_succ, List.getElem?_cons_zero]; rfl) (by kernel_rfl) (by kernel_rfl) (by kernel_rfl) (fun _ _ _ h => h) (Or.inl ⟨by rfl, ?_⟩) (by assumption) ?_
      rotate_left
      · (intro w hSw; (try dsimp only at hSw); go_simp; try with_reducible rfl)
      try simp only [Act.put, List.setIfInBounds_toArray, List.set_cons_zero, List.set_cons_succ]
      refine wpAnyH_take (i := 7) (v := ?_) (by simp only [List.getElem?_toArray, List.getElem?_cons_succ, List.getElem?_cons_zero]; rfl) (by kernel_rfl) (by kernel_rfl) (by kernel_rfl) (fun _ _ _ h => h) (Or.inl ⟨by rfl, ?_⟩) (by assumption) ?_
      rotate_left
      · (intro w hSw; (try dsimp only at hSw); go_simp; try with_reducible rfl)
      try simp only [Act.put, List.setIfInBounds_toArray, List.set_cons_zero, List.set_cons_succ]
      refine wpAnyH_ready (rs := [3, 8]) (by kernel_rfl) (by simp) ?_
      refine AllReadyH.cons (by simp only [List.getElem?_toArray, List.getElem?_cons_succ, List.getElem?_cons_zero]; rfl) (fun K hK => ?_) (AllReadyH.cons (by simp only [List.getElem?_toArray, List.getElem?_cons_succ, List.getElem?_cons_zero]; rfl) (fun K hK => ?_) (AllReadyH.nil))
      · skip
        go_simp
        refine hK.out _ _ (⟨bstep hHeld.1 (balloc (Below.refl _ _) _), (hHeld.2.1).below (balloc (Below.refl _ _) _), Msg.keepC hHeld.2.2.1 (balloc (Below.refl _ _) _), Msg.keepC hHeld.2.2.2 (balloc (Below.refl _ _) _)⟩) (fun hHeld => ?_)
        clear hK K
        try simp only [Act.put, List.setIfInBounds_toArray, List.set_cons_zero, List.set_cons_succ]
        have N3 := nats_here [seq] (by intro y hy; simp at hy; omega) rfl 1 rfl hHeld.1
        try simp only [World.size_alloc] at N3
        refine wpAnyH_ready (rs := [4, 8]) (by kernel_rfl) (by simp) ?_
        refine AllReadyH.cons (by simp only [List.getElem?_toArray, List.getElem?_cons_succ, List.getElem?_cons_zero]; rfl) (fun K hK => ?_) (AllReadyH.cons (by simp only [List.getElem?_toArray, List.getElem?_cons_succ, List.getElem?_cons_zero]; rfl) (fun K hK => ?_) (AllReadyH.nil))
        · skip
          go_simp
          go_at_call 54
          refine (nums_w N3 (by omega) Q D1.out).mono ?_
          rintro e v28 ⟨rfl, k28⟩
          replace N3 := (N3).below rfl k28
          go_wp2_with fail
          refine hK.out _ _ (⟨bstep hHeld.1 k28, (hHeld.2.1).below k28, Msg.keepC hHeld.2.2.1 k28, Msg.keepC hHeld.2.2.2 k28⟩) (fun hHeld => ?_)
          clear hK K k28
          try simp only [Act.put, List.setIfInBounds_toArray, List.set_cons_zero, List.set_cons_succ]
          refine wpAnyH_take (i := 5) (v := ?_) (by simp only [List.getElem?_toArray, List.getElem?_cons_succ, List.getElem?_cons_zero]; rfl) (by kernel_rfl) (by kernel_rfl) (by kernel_rfl) (fun _ _ _ h => h) (Or.inl ⟨by rfl, ?_⟩) (by assumption) ?_
          rotate_left
          · (intro w hSw; (try dsimp only at hSw); go_simp; try with_reducible rfl)
          try simp only [Act.put, List.setIfInBounds_toArray, List.set_cons_zero, List.set_cons_succ]
          refine wpAnyH_ready (rs := [8]) (by kernel_rfl) (by simp) ?_
          refine AllReadyH.cons (by simp only [List.getElem?_toArray, List.getElem?_cons_succ, List.getElem?_cons_zero]; rfl) (fun K hK => ?_) AllReadyH.nil
          go_simp
          refine hK.out _ _ (⟨bstep hHeld.1 (balloc (Below.refl _ _) _), (hHeld.2.1).below (balloc (Below.refl _ _) _), Msg.keepC hHeld.2.2.1 (balloc (Below.refl _ _) _), Msg.keepC hHeld.2.2.2 (balloc (Below.refl _ _) _)⟩) (fun hHeld => ?_)
          clear hK K
          try simp only [Act.put, List.setIfInBounds_toArray, List.set_cons_zero, List.set_cons_succ]
          replace N3 := nats_move N3 hHeld.1
          have N8 := txts_here [fr] (by intro y hy; simp at hy; subst hy; omega) rfl 1 rfl hHeld.1
          try simp only [World.size_alloc] at N8
          refine wpAnyH_ready (rs := [9]) (by kernel_rfl) (by simp) ?_
          refine AllReadyH.cons (by simp only [List.getElem?_toArray, List.getElem?_cons_succ, List.getElem?_cons_zero]; rfl) (fun K hK => ?_) AllReadyH.nil
          go_simp
          go_at_call 55
          refine (texts_w N8 X D2.out jX (by omega)).mono ?_
          rintro e v29 ⟨rfl, k29⟩
          replace N3 := (N3).below rfl k29
          replace N8 := (N8).below rfl k29
          go_wp2_with fail
          refine hK.out _ _ (⟨bstep hHeld.1 k29, (hHeld.2.1).below k29, Msg.keepC hHeld.2.2.1 k29, Msg.keepC hHeld.2.2.2 k29⟩) (fun hHeld => ?_)
          clear hK K k29
          try simp only [Act.put, List.setIfInBounds_toArray, List.set_cons_zero, List.set_cons_succ]
          refine wpAnyH_take (i := 10) (v := ?_) (by simp only [List.getElem?_toArray, List.getElem?_cons_succ, List.getElem?_cons_zero]; rfl) (by kernel_rfl) (by kernel_rfl) (by kernel_rfl) (fun _ _ _ h => h) (Or.inl ⟨by rfl, ?_⟩) (by assumption) ?_
          rotate_left
          · (intro w hSw; (try dsimp only at hSw); go_simp; try with_reducible rfl)
          try simp only [Act.put, List.setIfInBounds_toArray, List.set_cons_zero, List.set_cons_succ]
          refine wpAnyH_take (i := 11) (v := ?_) (by simp only [List.getElem?_toArray, List.getElem?_cons_succ, List.getElem?_cons_zero]; rfl) (by kernel_rfl) (by kernel_rfl) (by kernel_rfl) (fun _ _ _ h => h) (Or.inl ⟨by rfl, ?_⟩) (by assumption) ?_
          rotate_left
          · (intro w hSw; (try dsimp only at hSw); go_simp; try with_reducible rfl)
          try simp only [Act.put, List.setIfInBounds_toArray, List.set_cons_zero, List.set_cons_succ]
          refine wpAnyH_done (by kernel_rfl) ?_ _
          refine NoPanic.normal ?_
          clear hb lA x3 x4
          obtain ⟨hb, lA, x3, x4⟩ := hHeld
          replace lA := Lib.hid lA
          go_wp2_with fail
          go_meet
          exact ⟨rfl, hb, lA.out, x3, x4⟩
        · skip
          go_simp
          refine hK.out _ _ (⟨bstep hHeld.1 (balloc (Below.refl _ _) _), (hHeld.2.1).below (balloc (Below.refl _ _) _), Msg.keepC hHeld.2.2.1 (balloc (Below.refl _ _) _), Msg.keepC hHeld.2.2.2 (balloc (Below.refl _ _) _)⟩) (fun hHeld => ?_)
          clear hK K
          try simp only [Act.put, List.setIfInBounds_toArray, List.set_cons_zero, List.set_cons_succ]
          replace N3 := nats_move N3 hHeld.1
          have N8 := txts_here [fr] (by intro y hy; simp at hy; subst hy; omega) rfl 1 rfl hHeld.1
          try simp only [World.size_alloc] at N8
          refine wpAnyH_ready (rs := [4]) (by kernel_rfl) (by simp) ?_
          refine AllReadyH.cons (by simp only [List.getElem?_toArray, List.getElem?_cons_succ, List.getElem?_cons_zero]; rfl) (fun K hK => ?_) AllReadyH.nil
          go_simp
          go_at_call 54
          refine (nums_w N3 (by omega) Q D1.out).mono ?_
          rintro e v30 ⟨rfl, k30⟩
          replace N3 := (N3).below rfl k30
          replace N8 := (N8).below rfl k30
          go_wp2_with fail
          refine hK.out _ _ (⟨bstep hHeld.1 k30, (hHeld.2.1).below k30, Msg.keepC hHeld.2.2.1 k30, Msg.keepC hHeld.2.2.2 k30⟩) (fun hHeld => ?_)
          clear hK K k30
          try simp only [Act.put, List.setIfInBounds_toArray, List.set_cons_zero, List.set_cons_succ]
          refine wpAnyH_take (i := 5) (v := ?_) (by simp only [List.getElem?_toArray, List.getElem?_cons_succ, List.getElem?_cons_zero]; rfl) (by kernel_rfl) (by kernel_rfl) (by kernel_rfl) (fun _ _ _ h => h) (Or.inl ⟨by rfl, ?_⟩) (by assumption) ?_
          rotate_left
          · (intro w hSw; (try dsimp only at hSw); go_simp; try with_reducible rfl)
          try simp only [Act.put, List.setIfInBounds_toArray, List.set_cons_zero, List.set_cons_succ]
          refine wpAnyH_ready (rs := [9]) (by kernel_rfl) (by simp) ?_
          refine AllReadyH.cons (by simp only [List.getElem?_toArray, List.getElem?_cons_succ, List.getElem?_cons_zero]; rfl) (fun K hK => ?_) AllReadyH.nil
          go_simp
          go_at_call 55
          refine (texts_w N8 X D2.out jX (by omega)).mono ?_
          rintro e v31 ⟨rfl, k31⟩
          replace N3 := (N3).below rfl k31
          replace N8 := (N8).below rfl k31
          go_wp2_with fail
          refine hK.out _ _ (⟨bstep hHeld.1 k31, (hHeld.2.1).below k31, Msg.keepC hHeld.2.2.1 k31, Msg.keepC hHeld.2.2.2 k31⟩) (fun hHeld => ?_)
          clear hK K k31
          try simp only [Act.put, List.setIfInBounds_toArray, List.set_cons_zero, List.set_cons_succ]
          refine wpAnyH_take (i := 10) (v := ?_) (by simp only [List.getElem?_toArray, List.getElem?_cons_succ, List.getElem?_cons_zero]; rfl) (by kernel_rfl) (by kernel_rfl) (by kernel_rfl) (fun _ _ _ h => h) (Or.inl ⟨by rfl, ?_⟩) (by assumption) ?_
          rotate_left
          · (intro w hSw; (try dsimp only at hSw); go_simp; try with_reducible rfl)
          try simp only [Act.put, List.setIfInBounds_toArray, List.set_cons_zero, List.set_cons_succ]
          refine wpAnyH_take (i := 11) (v := ?_) (by simp only [List.getElem?_toArray, List.getElem?_cons_succ, List.getElem?_cons_zero]; rfl) (by kernel_rfl) (by kernel_rfl) (by kernel_rfl) (fun _ _ _ h => h) (Or.inl ⟨by rfl, ?_⟩) (by assumption) ?_
          rotate_left
          · (intro w hSw; (try dsimp only at hSw); go_simp; try with_reducible rfl)
          try simp only [Act.put, List.setIfInBounds_toArray, List.set_cons_zero, List.set_cons_succ]
          refine wpAnyH_done (by kernel_rfl) ?_ _
          refine NoPanic.normal ?_
          clear hb lA x3 x4
          obtain ⟨hb, lA, x3, x4⟩ := hHeld
          replace lA := Lib.hid lA
          go_wp2_with fail
          go_meet
          exact ⟨rfl, hb, lA.out, x3, x4⟩
      · skip
        go_simp
        refine hK.out _ _ (⟨bstep hHeld.1 (balloc (Below.refl _ _) _), (hHeld.2.1).below (balloc (Below.refl _ _) _), Msg.keepC hHeld.2.2.1 (balloc (Below.refl _ _) _), Msg.keepC hHeld.2.2.2 (balloc (Below.refl _ _) _)⟩) (fun hHeld => ?_)
        clear hK K
        try simp only [Act.put, List.setIfInBounds_toArray, List.set_cons_zero, List.set_cons_succ]
        have N8 := txts_here [fr] (by intro y hy; simp at hy; subst hy; omega) rfl 1 rfl hHeld.1
        try simp only [World.size_alloc] at N8
        refine wpAnyH_ready (rs := [3]) (by kernel_rfl) (by simp) ?_
        refine AllReadyH.cons (by simp only [List.getElem?_toArray, List.getElem?_cons_succ, List.getElem?_cons_zero]; rfl) (fun K hK => ?_) AllReadyH.nil
        go_simp
        refine hK.out _ _ (⟨bstep hHeld.1 (balloc (Below.refl _ _) _), (hHeld.2.1).below (balloc (Below.refl _ _) _), Msg.keepC hHeld.2.2.1 (balloc (Below.refl _ _) _), Msg.keepC hHeld.2.2.2 (balloc (Below.refl _ _) _)⟩) (fun hHeld => ?_)
        clear hK K
        try simp only [Act.put, List.setIfInBounds_toArray, List.set_cons_zero, List.set_cons_succ]
        replace N8 := txts_move N8 hHeld.1
        have N3 := nats_here [seq] (by intro y hy; simp at hy; omega) rfl 1 rfl hHeld.1
        try simp only [World.size_alloc] at N3
        refine wpAnyH_ready (rs := [4]) (by kernel_rfl) (by simp) ?_
        refine AllReadyH.cons (by simp only [List.getElem?_toArray, List.getElem?_cons_succ, List.getElem?_cons_zero]; rfl) (fun K hK => ?_) AllReadyH.nil
        go_simp
        go_at_call 54
        refine (nums_w N3 (by omega) Q D1.out).mono ?_
        rintro e v32 ⟨rfl, k32⟩
        replace N8 := (N8).below rfl k32
        replace N3 := (N3).below rfl k32
        go_wp2_with fail
        refine hK.out _ _ (⟨bstep hHeld.1 k32, (hHeld.2.1).below k32, Msg.keepC hHeld.2.2.1 k32, Msg.keepC hHeld.2.2.2 k32⟩) (fun hHeld => ?_)
        clear hK K k32
        try simp only [Act.put, List.setIfInBounds_toArray, List.set_cons_zero, List.set_cons_succ]
        refine wpAnyH_take (i := 5) (v := ?_) (by simp only [List.getElem?_toArray, List.getElem?_cons_succ, List.getElem?_cons_zero]; rfl) (by kernel_rfl) (by kernel_rfl) (by kernel_rfl) (fun _ _ _ h => h) (Or.inl ⟨by rfl, ?_⟩) (by assumption) ?_
        rotate_left
        · (intro w hSw; (try dsimp only at hSw); go_simp; try with_reducible rfl)
        try simp only [Act.put, List.setIfInBounds_toArray, List.set_cons_zero, List.set_cons_succ]
        refine wpAnyH_ready (rs := [9]) (by kernel_rfl) (by simp) ?_
        refine AllReadyH.cons (by simp only [List.getElem?_toArray, List.getElem?_cons_succ, List.getElem?_cons_zero]; rfl) (fun K hK => ?_) AllReadyH.nil
        go_simp
        go_at_call 55
        refine (texts_w N8 X D2.out jX (by omega)).mono ?_
        rintro e v33 ⟨rfl, k33⟩
        replace N8 := (N8).below rfl k33
        replace N3 := (N3).below rfl k33
        go_wp2_with fail
        refine hK.out _ _ (⟨bstep hHeld.1 k33, (hHeld.2.1).below k33, Msg.keepC hHeld.2.2.1 k33, Msg.keepC hHeld.2.2.2 k33⟩) (fun hHeld => ?_)
        clear hK K k33
        try simp only [Act.put, List.setIfInBounds_toArray, List.set_cons_zero, List.set_cons_succ]
        refine wpAnyH_take (i := 10) (v := ?_) (by simp only [List.getElem?_toArray, List.getElem?_cons_succ, List.getElem?_cons_zero]; rfl) (by kernel_rfl) (by kernel_rfl) (by kernel_rfl) (fun _ _ _ h => h) (Or.inl ⟨by rfl, ?_⟩) (by assumption) ?_
        rotate_left
        · (intro w hSw; (try dsimp only at hSw); go_simp; try with_reducible rfl)
        try simp only [Act.put, List.setIfInBounds_toArray, List.set_cons_zero, List.set_cons_succ]
        refine wpAnyH_take (i := 11) (v := ?_) (by simp only [List.getElem?_toArray, List.getElem?_cons_succ, List.getElem?_cons_zero]; rfl) (by kernel_rfl) (by kernel_rfl) (by kernel_rfl) (fun _ _ _ h => h) (Or.inl ⟨by rfl, ?_⟩) (by assumption) ?_
        rotate_left
        · (intro w hSw; (try dsimp only at hSw); go_simp; try with_reducible rfl)
        try simp only [Act.put, List.setIfInBounds_toArray, List.set_cons_zero, List.set_cons_succ]
        refine wpAnyH_done (by kernel_rfl) ?_ _
        refine NoPanic.normal ?_
        clear hb lA x3 x4
        obtain ⟨hb, lA, x3, x4⟩ := hHeld
        replace lA := Lib.hid lA
        go_wp2_with fail
        go_meet
        exact ⟨rfl, hb, lA.out, x3, x4⟩
    clear hb lA x3 x4
    obtain ⟨rfl, hb, lA, x3, x4⟩ := hcut
    replace lA := Lib.hid lA
    go_wp2
    go_ret
    exact ⟨by rw [HV.out]; rfl, hb⟩
  by_cases k4 : k = 4
  · skip
    have zz1 : ((k : Int) == 1) = false := by rw [beq_eq_false_iff_ne]; omega
    have zz2 : ((k : Int) == 2) = false := by rw [beq_eq_false_iff_ne]; omega
    have zz3 : ((k : Int) == 3) = false := by rw [beq_eq_false_iff_ne]; omega
    have zz4 : ((k : Int) == 4) = true := by rw [beq_iff_eq]; omega
    have zH := Str.size_mk H
    obtain ⟨Q, hQ⟩ : ∃ p, p = upL seq := ⟨_, rfl⟩
    have zQ := Str.size_mk Q
    obtain ⟨X, hX⟩ : ∃ p, p = txtL fr := ⟨_, rfl⟩
    have zX := Str.size_mk X
    obtain ⟨V, hV⟩ : ∃ p, p = vecL all := ⟨_, rfl⟩
    have zV := Str.size_mk V
    obtain ⟨C0, hC0⟩ : ∃ p, p = H ++ Q := ⟨_, rfl⟩
    have lC0 : C0.length = H.length + Q.length := by rw [hC0, List.length_append]
    have aC0 : (({ data := H.toArray } : ByteArray)) ++ { data := Q.toArray } = { data := C0.toArray } := by rw [hC0]; exact Str.mk_append_mk H Q
    have zC0 := Str.size_mk C0
    obtain ⟨C1, hC1⟩ : ∃ p, p = C0 ++ X := ⟨_, rfl⟩
    have lC1 : C1.length = C0.length + X.length := by rw [hC1, List.length_append]
    have aC1 : (({ data := C0.toArray } : ByteArray)) ++ { data := X.toArray } = { data := C1.toArray } := by rw [hC1]; exact Str.mk_append_mk C0 X
    have zC1 := Str.size_mk C1
    obtain ⟨C2, hC2⟩ : ∃ p, p = C1 ++ V := ⟨_, rfl⟩
    have lC2 : C2.length = C1.length + V.length := by rw [hC2, List.length_append]
    have aC2 : (({ data := C1.toArray } : ByteArray)) ++ { data := V.toArray } = { data := C2.toArray } := by rw [hC2]; exact Str.mk_append_mk C1 V
    have zC2 := Str.size_mk C2
    have HV : bodyL ⟨k, src, dst, fr, seq, all, id, (i : Int), (n : Int), tx⟩ = C2 := by
      unfold bodyL
      simp only [Int.toNat_natCast]
      rw [if_neg k1, if_neg k2, if_neg k3, if_pos k4, HHv.out, ← hQ, ← hC0, ← hX, ← hC1, ← hV, ← hC2]
    rw [HV] at hbl
    replace HV := Lib.hid HV
    have nC0 : ¬ (9223372036854775807 < H.length + Q.length) := by omega
    have mC0 : ¬ (H.length + Q.length > 9223372036854775807) := by omega
    have nC1 : ¬ (9223372036854775807 < C0.length + X.length) := by omega
    have mC1 : ¬ (C0.length + X.length > 9223372036854775807) := by omega
    have nC2 : ¬ (9223372036854775807 < C1.length + V.length) := by omega
    have mC2 : ¬ (C1.length + V.length > 9223372036854775807) := by omega
    have D1 : Hid (cat [seq] = Q) := Lib.hid (by rw [hQ]; simp [cat])
    have D2 : Hid ([fr].flatMap txtL = X) := Lib.hid (by rw [hX]; simp)
    have D3 : Hid (∀ W : World, Lies W a all.length all → Calls Tryd.prog 56 #[.slice a all.length c] W fun e w' => e = .returned (.string ⟨V.toArray⟩) ∧ Below W.heap.size W w') := Lib.hid (fun W h => by rw [hV]; exact vector_any all a _ c W h hal oA.out (by rw [← hV]; omega))
    have jX : X.length ≤ 1099511627776 := by omega
    replace hQ := Lib.hid hQ
    replace hX := Lib.hid hX
    replace hV := Lib.hid hV
    replace hC0 := Lib.hid hC0
    replace hC1 := Lib.hid hC1
    replace hC2 := Lib.hid hC2
    replace lC0 := Lib.hid lC0
    replace lC1 := Lib.hid lC1
    replace lC2 := Lib.hid lC2
    clear hHl
    replace k1 := Lib.hid k1
    replace k2 := Lib.hid k2
    replace k3 := Lib.hid k3
    replace k4 := Lib.hid k4
    go_upto_region 11 with fail
    go_cut [2] (fun s wx => s = .string ⟨C2.toArray⟩ ∧ Below w.heap.size w wx ∧ Lies wx a all.length all ∧ wx.cell? ⟨w.heap.size, 3, none⟩ = some (.string ⟨fr.toArray⟩) ∧ wx.cell? ⟨w.heap.size, 4, none⟩ = some (.int .u64 (seq : Int)) ∧ wx.cell? ⟨w.heap.size, 5, none⟩ = some (.slice a all.length c))
    case first =>
      refine wp_region_noPanic ?_
      refine wp_region_held_drew (S := (fun w' => Below w.heap.size w w' ∧ Lies w' a all.length all ∧ w'.cell? ⟨w.heap.size, 3, none⟩ = some (.string ⟨fr.toArray⟩) ∧ w'.cell? ⟨w.heap.size, 4, none⟩ = some (.int .u64 (seq : Int)) ∧ w'.cell? ⟨w.heap.size, 5, none⟩ = some (.slice a all.length c))) (by kernel_rfl) (⟨Below.drew hb, (lA.out).below (Below.drew (Below.refl _ _)), Msg.keepC x3 (Below.drew (Below.refl _ _)), Msg.keepC x4 (Below.drew (Below.refl _ _)), Msg.keepC x5 (Below.drew (Below.refl _ _))⟩) (fun hHeld => ?_)
      revert hHeld
      generalize World.drew _ = wd
      intro hHeld
      refine wpAnyH_take (i := 0) (v := ?_) (by simp only [List.getElem?_toArray, List.getElem?_cons_zero]; rfl) (by kernel_rfl) (by kernel_rfl) (by kernel_rfl) (fun _ _ _ h => h) (Or.inl ⟨by rfl, ?_⟩) (by assumption) ?_
      rotate_left
      · (intro w hSw; (try dsimp only at hSw); go_simp; try with_reducible rfl)
      try simp only [Act.put, List.setIfInBounds_toArray, List.set_cons_zero, List.set_cons_succ]
      refine wpAnyH_take (i := 1) (v := ?_) (by simp only [List.getElem?_toArray, List.getElem?_cons_succ, List.getElem?_cons_zero]; rfl) (by kernel_rfl) (by kernel_rfl) (by kernel_rfl) (fun _ _ _ h => h) (Or.inl ⟨by rfl, ?_⟩) (by assumption) ?_
      rotate_left
      · (intro w hSw; (try dsimp only at hSw); go_simp; try with_reducible rfl)
      try simp only [Act.put, List.setIfInBounds_toArray, List.set_cons_zero, List.set_cons_succ]
      refine wpAnyH_take (i := 2) (v := ?_) (by simp only [List.getElem?_toArray, List.getElem?_cons_succ, List.getElem?_cons_zero]; rfl) (by kernel_rfl) (by kernel_rfl) (by kernel_rfl) (fun _ _ _ h => h) (Or.inl ⟨by rfl, ?_⟩) (by assumption) ?_
      rotate_left
      · (intro w hSw; (try dsimp only at hSw); go_simp; try with_reducible rfl)
      try simp only [Act.put, List.setIfInBounds_toArray, List.set_cons_zero, List.set_cons_succ]
      refine wpAnyH_take (i := 6) (v := ?_) (by simp only [List.getElem?_toArray, List.getElem?_cons_succ, List.getElem?_cons_zero]; rfl) (by kernel_rfl) (by kernel_rfl) (by kernel_rfl) (fun _ _ _ h => h) (Or.inl ⟨by rfl, ?_⟩) (by assumption) ?_
      rotate_left
      · (intro w hSw; (try dsimp only at hSw); go_simp; try with_reducible rfl)
      try simp only [Act.put, List.setIfInBounds_toArray, List.set_cons_zero, List.set_cons_succ]
      refine wpAnyH_take (i := 7) (v := ?_) (by simp only [List.getElem?_toArray, List.getElem?_cons_succ, List.getElem?_cons_zero]; rfl) (by kernel_rfl) (by kernel_rfl) (by kernel_rfl) (fun _ _ _ h => h) (Or.inl ⟨by rfl, ?_⟩) (by assumption) ?_
      rotate_left
      · (intro w hSw; (try dsimp only at hSw); go_simp; try with_reducible rfl)
      try simp only [Act.put, List.setIfInBounds_toArray, List.set_cons_zero, List.set_cons_succ]
      refine wpAnyH_take (i := 11) (v := ?_) (by simp only [List.getElem?_toArray, List.getElem?_cons_succ, List.getElem?_cons_zero]; rfl) (by kernel_rfl) (by kernel_rfl) (by kernel_rfl) (fun _ _ _ h => h) (Or.inl ⟨by rfl, ?_⟩) (by assumption) ?_
      rotate_left
      · (intro w hSw; (try dsimp only at hSw); go_simp; try with_reducible rfl)
      try simp only [Act.put, List.setIfInBounds_toArray, List.set_cons_zero, List.set_cons_succ]
      refine wpAnyH_take (i := 12) (v := ?_) (by simp only [List.getElem?_toArray, List.getElem?_cons_succ, List.getElem?_cons_zero]; rfl) (by kernel_rfl) (by kernel_rfl) (by kernel_rfl) (fun _ _ _ h => h) (Or.inl ⟨by rfl, ?_⟩) (by assumption) ?_
      rotate_left
      · (intro w hSw; (try dsimp only at hSw); go_simp; try with_reducible rfl)
      try simp only [Act.put, List.setIfInBounds_toArray, List.set_cons_zero, List.set_cons_succ]
      refine wpAnyH_ready (rs := [3, 8]) (by kernel_rfl) (by simp) ?_
      refine AllReadyH.cons (by simp only [List.getElem?_toArray, List.getElem?_cons_succ, List.getElem?_cons_zero]; rfl) (fun K hK => ?_) (AllReadyH.cons (by simp only [List.getElem?_toArray, List.getElem?_cons_succ, List.getElem?_cons_zero]; rfl) (fun K hK => ?_) (AllReadyH.nil))
      · skip
        go_simp
        refine hK.out _ _ (⟨bstep hHeld.1 (balloc (Below.refl _ _) _), (hHeld.2.1).below (balloc (Below.refl _ _) _), Msg.keepC hHeld.2.2.1 (balloc (Below.refl _ _) _), Msg.keepC hHeld.2.2.2.1 (balloc (Below.refl _ _) _), Msg.keepC hHeld.2.2.2.2 (balloc (Below.refl _ _) _)⟩) (fun hHeld => ?_)
        clear hK K
        try simp only [Act.put, List.setIfInBounds_toArray, List.set_cons_zero, List.set_cons_succ]
        have N3 := nats_here [seq] (by intro y hy; simp at hy; omega) rfl 1 rfl hHeld.1
        try simp only [World.size_alloc] at N3
        refine wpAnyH_ready (rs := [4, 8]) (by kernel_rfl) (by simp) ?_
        refine AllReadyH.cons (by simp only [List.getElem?_toArray, List.getElem?_cons_succ, List.getElem?_cons_zero]; rfl) (fun K hK => ?_) (AllReadyH.cons (by simp only [List.getElem?_toArray, List.getElem?_cons_succ, List.getElem?_cons_zero]; rfl) (fun K hK => ?_) (AllReadyH.nil))
        · skip
          go_simp
          go_at_call 54
          refine (nums_w N3 (by omega) Q D1.out).mono ?_
          rintro e v34 ⟨rfl, k34⟩
          replace N3 := (N3).below rfl k34
          go_wp2_with fail
          refine hK.out _ _ (⟨bstep hHeld.1 k34, (hHeld.2.1).below k34, Msg.keepC hHeld.2.2.1 k34, Msg.keepC hHeld.2.2.2.1 k34, Msg.keepC hHeld.2.2.2.2 k34⟩) (fun hHeld => ?_)
          clear hK K k34
          try simp only [Act.put, List.setIfInBounds_toArray, List.set_cons_zero, List.set_cons_succ]
          refine wpAnyH_take (i := 5) (v := ?_) (by simp only [List.getElem?_toArray, List.getElem?_cons_succ, List.getElem?_cons_zero]; rfl) (by kernel_rfl) (by kernel_rfl) (by kernel_rfl) (fun _ _ _ h => h) (Or.inl ⟨by rfl, ?_⟩) (by assumption) ?_
          rotate_left
          · (intro w hSw; (try dsimp only at hSw); go_simp; try with_reducible rfl)
          try simp only [Act.put, List.setIfInBounds_toArray, List.set_cons_zero, List.set_cons_succ]
          refine wpAnyH_ready (rs := [8]) (by kernel_rfl) (by simp) ?_
          refine AllReadyH.cons (by simp only [List.getElem?_toArray, List.getElem?_cons_succ, List.getElem?_cons_zero]; rfl) (fun K hK => ?_) AllReadyH.nil
          go_simp
          refine hK.out _ _ (⟨bstep hHeld.1 (balloc (Below.refl _ _) _), (hHeld.2.1).below (balloc (Below.refl _ _) _), Msg.keepC hHeld.2.2.1 (balloc (Below.refl _ _) _), Msg.keepC hHeld.2.2.2.1 (balloc (Below.refl _ _) _), Msg.keepC hHeld.2.2.2.2 (balloc (Below.refl _ _) _)⟩) (fun hHeld => ?_)
          clear hK K
          try simp only [Act.put, List.setIfInBounds_toArray, List.set_cons_zero, List.set_cons_succ]
          replace N3 := nats_move N3 hHeld.1
          have N8 := txts_here [fr] (by intro y hy; simp at hy; subst hy; omega) rfl 1 rfl hHeld.1
          try simp only [World.size_alloc] at N8
          refine wpAnyH_ready (rs := [9]) (by kernel_rfl) (by simp) ?_
          refine AllReadyH.cons (by simp only [List.getElem?_toArray, List.getElem?_cons_succ, List.getElem?_cons_zero]; rfl) (fun K hK => ?_) AllReadyH.nil
          go_simp
          go_at_call 55
          refine (texts_w N8 X D2.out jX (by omega)).mono ?_
          rintro e v35 ⟨rfl, k35⟩
          replace N3 := (N3).below rfl k35
          replace N8 := (N8).below rfl k35
          go_wp2_with fail
          refine hK.out _ _ (⟨bstep hHeld.1 k35, (hHeld.2.1).below k35, Msg.keepC hHeld.2.2.1 k35, Msg.keepC hHeld.2.2.2.1 k35, Msg.keepC hHeld.2.2.2.2 k35⟩) (fun hHeld => ?_)
          clear hK K k35
          try simp only [Act.put, List.setIfInBounds_toArray, List.set_cons_zero, List.set_cons_succ]
          refine wpAnyH_take (i := 10) (v := ?_) (by simp only [List.getElem?_toArray, List.getElem?_cons_succ, List.getElem?_cons_zero]; rfl) (by kernel_rfl) (by kernel_rfl) (by kernel_rfl) (fun _ _ _ h => h) (Or.inl ⟨by rfl, ?_⟩) (by assumption) ?_
          rotate_left
          · (intro w hSw; (try dsimp only at hSw); go_simp; try with_reducible rfl)
          try simp only [Act.put, List.setIfInBounds_toArray, List.set_cons_zero, List.set_cons_succ]
          refine wpAnyH_ready (rs := [13]) (by kernel_rfl) (by simp) ?_
          refine AllReadyH.cons (by simp only [List.getElem?_toArray, List.getElem?_cons_succ, List.getElem?_cons_zero]; rfl) (fun K hK => ?_) AllReadyH.nil
          go_simp
          go_at_call 56
          refine (D3.out _ hHeld.2.1).mono ?_
          rintro e v36 ⟨rfl, k36⟩
          replace N3 := (N3).below rfl k36
          replace N8 := (N8).below rfl k36
          go_wp2_with fail
          refine hK.out _ _ (⟨bstep hHeld.1 k36, (hHeld.2.1).below k36, Msg.keepC hHeld.2.2.1 k36, Msg.keepC hHeld.2.2.2.1 k36, Msg.keepC hHeld.2.2.2.2 k36⟩) (fun hHeld => ?_)
          clear hK K k36
          try simp only [Act.put, List.setIfInBounds_toArray, List.set_cons_zero, List.set_cons_succ]
          refine wpAnyH_take (i := 14) (v := ?_) (by simp only [List.getElem?_toArray, List.getElem?_cons_succ, List.getElem?_cons_zero]; rfl) (by kernel_rfl) (by kernel_rfl) (by kernel_rfl) (fun _ _ _ h => h) (Or.inl ⟨by rfl, ?_⟩) (by assumption) ?_
          rotate_left
          · (intro w hSw; (try dsimp only at hSw); go_simp; try with_reducible rfl)
          try simp only [Act.put, List.setIfInBounds_toArray, List.set_cons_zero, List.set_cons_succ]
          refine wpAnyH_take (i := 15) (v := ?_) (by simp only [List.getElem?_toArray, List.getElem?_cons_succ, List.getElem?_cons_zero]; rfl) (by kernel_rfl) (by kernel_rfl) (by kernel_rfl) (fun _ _ _ h => h) (Or.inl ⟨by rfl, ?_⟩) (by assumption) ?_
          rotate_left
          · (intro w hSw; (try dsimp only at hSw); go_simp; try with_reducible rfl)
          try simp only [Act.put, List.setIfInBounds_toArray, List.set_cons_zero, List.set_cons_succ]
          refine wpAnyH_done (by kernel_rfl) ?_ _
          refine NoPanic.normal ?_
          clear hb lA x3 x4 x5
          obtain ⟨hb, lA, x3, x4, x5⟩ := hHeld
          replace lA := Lib.hid lA
          go_wp2_with fail
          go_meet
          exact ⟨rfl, hb, lA.out, x3, x4, x5⟩
        · skip
          go_simp
          refine hK.out _ _ (⟨bstep hHeld.1 (balloc (Below.refl _ _) _), (hHeld.2.1).below (balloc (Below.refl _ _) _), Msg.keepC hHeld.2.2.1 (balloc (Below.refl _ _) _), Msg.keepC hHeld.2.2.2.1 (balloc (Below.refl _ _) _), Msg.keepC hHeld.2.2.2.2 (balloc (Below.refl _ _) _)⟩) (fun hHeld => ?_)
          clear hK K
          try simp only [Act.put, List.setIfInBounds_toArray, List.set_cons_zero, List.set_cons_succ]
          replace N3 := nats_move N3 hHeld.1
          have N8 := txts_here [fr] (by intro y hy; simp at hy; subst hy; omega) rfl 1 rfl hHeld.1
          try simp only [World.size_alloc] at N8
          refine wpAnyH_ready (rs := [4]) (by kernel_rfl) (by simp) ?_
          refine AllReadyH.cons (by simp only [List.getElem?_toArray, List.getElem?_cons_succ, List.getElem?_cons_zero]; rfl) (fun K hK => ?_) AllReadyH.nil
          go_simp
          go_at_call 54
          refine (nums_w N3 (by omega) Q D1.out).mono ?_
          rintro e v37 ⟨rfl, k37⟩
          replace N3 := (N3).below rfl k37
          replace N8 := (N8).below rfl k37
          go_wp2_with fail
          refine hK.out _ _ (⟨bstep hHeld.1 k37, (hHeld.2.1).below k37, Msg.keepC hHeld.2.2.1 k37, Msg.keepC hHeld.2.2.2.1 k37, Msg.keepC hHeld.2.2.2.2 k37⟩) (fun hHeld => ?_)
          clear hK K k37
          try simp only [Act.put, List.setIfInBounds_toArray, List.set_cons_zero, List.set_cons_succ]
          refine wpAnyH_take (i := 5) (v := ?_) (by simp only [List.getElem?_toArray, List.getElem?_cons_succ, List.getElem?_cons_zero]; rfl) (by kernel_rfl) (by kernel_rfl) (by kernel_rfl) (fun _ _ _ h => h) (Or.inl ⟨by rfl, ?_⟩) (by assumption) ?_
          rotate_left
          · (intro w hSw; (try dsimp only at hSw); go_simp; try with_reducible rfl)
          try simp only [Act.put, List.setIfInBounds_toArray, List.set_cons_zero, List.set_cons_succ]
          refine wpAnyH_ready (rs := [9]) (by kernel_rfl) (by simp) ?_
          refine AllReadyH.cons (by simp only [List.getElem?_toArray, List.getElem?_cons_succ, List.getElem?_cons_zero]; rfl) (fun K hK => ?_) AllReadyH.nil
          go_simp
          go_at_call 55
          refine (texts_w N8 X D2.out jX (by omega)).mono ?_
          rintro e v38 ⟨rfl, k38⟩
          replace N3 := (N3).below rfl k38
          replace N8 := (N8).below rfl k38
          go_wp2_with fail
          refine hK.out _ _ (⟨bstep hHeld.1 k38, (hHeld.2.1).below k38, Msg.keepC hHeld.2.2.1 k38, Msg.keepC hHeld.2.2.2.1 k38, Msg.keepC hHeld.2.2.2.2 k38⟩) (fun hHeld => ?_)
          clear hK K k38
          try simp only [Act.put, List.setIfInBounds_toArray, List.set_cons_zero, List.set_cons_succ]
          refine wpAnyH_take (i := 10) (v := ?_) (by simp only [List.getElem?_toArray, List.getElem?_cons_succ, List.getElem?_cons_zero]; rfl) (by kernel_rfl) (by kernel_rfl) (by kernel_rfl) (fun _ _ _ h => h) (Or.inl ⟨by rfl, ?_⟩) (by assumption) ?_
          rotate_left
          · (intro w hSw; (try dsimp only at hSw); go_simp; try with_reducible rfl)
          try simp only [Act.put, List.setIfInBounds_toArray, List.set_cons_zero, List.set_cons_succ]
          refine wpAnyH_ready (rs := [13]) (by kernel_rfl) (by simp) ?_
          refine AllReadyH.cons (by simp only [List.getElem?_toArray, List.getElem?_cons_succ, List.getElem?_cons_zero]; rfl) (fun K hK => ?_) AllReadyH.nil
          go_simp
          go_at_call 56
          refine (D3.out _ hHeld.2.1).mono ?_
          rintro e v39 ⟨rfl, k39⟩
          replace N3 := (N3).below rfl k39
          replace N8 := (N8).below rfl k39
          go_wp2_with fail
          refine hK.out _ _ (⟨bstep hHeld.1 k39, (hHeld.2.1).below k39, Msg.keepC hHeld.2.2.1 k39, Msg.keepC hHeld.2.2.2.1 k39, Msg.keepC hHeld.2.2.2.2 k39⟩) (fun hHeld => ?_)
          clear hK K k39
          try simp only [Act.put, List.setIfInBounds_toArray, List.set_cons_zero, List.set_cons_succ]
          refine wpAnyH_take (i := 14) (v := ?_) (by simp only [List.getElem?_toArray, List.getElem?_cons_succ, List.getElem?_cons_zero]; rfl) (by kernel_rfl) (by kernel_rfl) (by kernel_rfl) (fun _ _ _ h => h) (Or.inl ⟨by rfl, ?_⟩) (by assumption) ?_
          rotate_left
          · (intro w hSw; (try dsimp only at hSw); go_simp; try with_reducible rfl)
          try simp only [Act.put, List.setIfInBounds_toArray, List.set_cons_zero, List.set_cons_succ]
          refine wpAnyH_take (i := 15) (v := ?_) (by simp only [List.getElem?_toArray, List.getElem?_cons_succ, List.getElem?_cons_zero]; rfl) (by kernel_rfl) (by kernel_rfl) (by kernel_rfl) (fun _ _ _ h => h) (Or.inl ⟨by rfl, ?_⟩) (by assumption) ?_
          rotate_left
          · (intro w hSw; (try dsimp only at hSw); go_simp; try with_reducible rfl)
          try simp only [Act.put, List.setIfInBounds_toArray, List.set_cons_zero, List.set_cons_succ]
          refine wpAnyH_done (by kernel_rfl) ?_ _
          refine NoPanic.normal ?_
          clear hb lA x3 x4 x5
          obtain ⟨hb, lA, x3, x4, x5⟩ := hHeld
          replace lA := Lib.hid lA
          go_wp2_with fail
          go_meet
          exact ⟨rfl, hb, lA.out, x3, x4, x5⟩
      · skip
        go_simp
        refine hK.out _ _ (⟨bstep hHeld.1 (balloc (Below.refl _ _) _), (hHeld.2.1).below (balloc (Below.refl _ _) _), Msg.keepC hHeld.2.2.1 (balloc (Below.refl _ _) _), Msg.keepC hHeld.2.2.2.1 (balloc (Below.refl _ _) _), Msg.keepC hHeld.2.2.2.2 (balloc (Below.refl _ _) _)⟩) (fun hHeld => ?_)
        clear hK K
        try simp only [Act.put, List.setIfInBounds_toArray, List.set_cons_zero, List.set_cons_succ]
        have N8 := txts_here [fr] (by intro y hy; simp at hy; subst hy; omega) rfl 1 rfl hHeld.1
        try simp only [World.size_alloc] at N8
        refine wpAnyH_ready (rs := [3]) (by kernel_rfl) (by simp) ?_
        refine AllReadyH.cons (by simp only [List.getElem?_toArray, List.getElem?_cons_succ, List.getElem?_cons_zero]; rfl) (fun K hK => ?_) AllReadyH.nil
        go_simp
        refine hK.out _ _ (⟨bstep hHeld.1 (balloc (Below.refl _ _) _), (hHeld.2.1).below (balloc (Below.refl _ _) _), Msg.keepC hHeld.2.2.1 (balloc (Below.refl _ _) _), Msg.keepC hHeld.2.2.2.1 (balloc (Below.refl _ _) _), Msg.keepC hHeld.2.2.2.2 (balloc (Below.refl _ _) _)⟩) (fun hHeld => ?_)
        clear hK K
        try simp only [Act.put, List.setIfInBounds_toArray, List.set_cons_zero, List.set_cons_succ]
        replace N8 := txts_move N8 hHeld.1
        have N3 := nats_here [seq] (by intro y hy; simp at hy; omega) rfl 1 rfl hHeld.1
        try simp only [World.size_alloc] at N3
        refine wpAnyH_ready (rs := [4]) (by kernel_rfl) (by simp) ?_
        refine AllReadyH.cons (by simp only [List.getElem?_toArray, List.getElem?_cons_succ, List.getElem?_cons_zero]; rfl) (fun K hK => ?_) AllReadyH.nil
        go_simp
        go_at_call 54
        refine (nums_w N3 (by omega) Q D1.out).mono ?_
        rintro e v40 ⟨rfl, k40⟩
        replace N8 := (N8).below rfl k40
        replace N3 := (N3).below rfl k40
        go_wp2_with fail
        refine hK.out _ _ (⟨bstep hHeld.1 k40, (hHeld.2.1).below k40, Msg.keepC hHeld.2.2.1 k40, Msg.keepC hHeld.2.2.2.1 k40, Msg.keepC hHeld.2.2.2.2 k40⟩) (fun hHeld => ?_)
        clear hK K k40
        try simp only [Act.put, List.setIfInBounds_toArray, List.set_cons_zero, List.set_cons_succ]
        refine wpAnyH_take (i := 5) (v := ?_) (by simp only [List.getElem?_toArray, List.getElem?_cons_succ, List.getElem?_cons_zero]; rfl) (by kernel_rfl) (by kernel_rfl) (by kernel_rfl) (fun _ _ _ h => h) (Or.inl ⟨by rfl, ?_⟩) (by assumption) ?_
        rotate_left
        · (intro w hSw; (try dsimp only at hSw); go_simp; try with_reducible rfl)
        try simp only [Act.put, List.setIfInBounds_toArray, List.set_cons_zero, List.set_cons_succ]
        refine wpAnyH_ready (rs := [9]) (by kernel_rfl) (by simp) ?_
        refine AllReadyH.cons (by simp only [List.getElem?_toArray, List.getElem?_cons_succ, List.getElem?_cons_zero]; rfl) (fun K hK => ?_) AllReadyH.nil
        go_simp
        go_at_call 55
        refine (texts_w N8 X D2.out jX (by omega)).mono ?_
        rintro e v41 ⟨rfl, k41⟩
        replace N8 := (N8).below rfl k41
        replace N3 := (N3).below rfl k41
        go_wp2_with fail
        refine hK.out _ _ (⟨bstep hHeld.1 k41, (hHeld.2.1).below k41, Msg.keepC hHeld.2.2.1 k41, Msg.keepC hHeld.2.2.2.1 k41, Msg.keepC hHeld.2.2.2.2 k41⟩) (fun hHeld => ?_)
        clear hK K k41
        try simp only [Act.put, List.setIfInBounds_toArray, List.set_cons_zero, List.set_cons_succ]
        refine wpAnyH_take (i := 10) (v := ?_) (by simp only [List.getElem?_toArray, List.getElem?_cons_succ, List.getElem?_cons_zero]; rfl) (by kernel_rfl) (by kernel_rfl) (by kernel_rfl) (fun _ _ _ h => h) (Or.inl ⟨by rfl, ?_⟩) (by assumption) ?_
        rotate_left
        · (intro w hSw; (try dsimp only at hSw); go_simp; try with_reducible rfl)
        try simp only [Act.put, List.setIfInBounds_toArray, List.set_cons_zero, List.set_cons_succ]
        refine wpAnyH_ready (rs := [13]) (by kernel_rfl) (by simp) ?_
        refine AllReadyH.cons (by simp only [List.getElem?_toArray, List.getElem?_cons_succ, List.getElem?_cons_zero]; rfl) (fun K hK => ?_) AllReadyH.nil
        go_simp
        go_at_call 56
        refine (D3.out _ hHeld.2.1).mono ?_
        rintro e v42 ⟨rfl, k42⟩
        replace N8 := (N8).below rfl k42
        replace N3 := (N3).below rfl k42
        go_wp2_with fail
        refine hK.out _ _ (⟨bstep hHeld.1 k42, (hHeld.2.1).below k42, Msg.keepC hHeld.2.2.1 k42, Msg.keepC hHeld.2.2.2.1 k42, Msg.keepC hHeld.2.2.2.2 k42⟩) (fun hHeld => ?_)
        clear hK K k42
        try simp only [Act.put, List.setIfInBounds_toArray, List.set_cons_zero, List.set_cons_succ]
        refine wpAnyH_take (i := 14) (v := ?_) (by simp only [List.getElem?_toArray, List.getElem?_cons_succ, List.getElem?_cons_zero]; rfl) (by kernel_rfl) (by kernel_rfl) (by kernel_rfl) (fun _ _ _ h => h) (Or.inl ⟨by rfl, ?_⟩) (by assumption) ?_
        rotate_left
        · (intro w hSw; (try dsimp only at hSw); go_simp; try with_reducible rfl)
        try simp only [Act.put, List.setIfInBounds_toArray, List.set_cons_zero, List.set_cons_succ]
        refine wpAnyH_take (i := 15) (v := ?_) (by simp only [List.getElem?_toArray, List.getElem?_cons_succ, List.getElem?_cons_zero]; rfl) (by kernel_rfl) (by kernel_rfl) (by kernel_rfl) (fun _ _ _ h => h) (Or.inl ⟨by rfl, ?_⟩) (by assumption) ?_
        rotate_left
        · (intro w hSw; (try dsimp only at hSw); go_simp; try with_reducible rfl)
        try simp only [Act.put, List.setIfInBounds_toArray, List.set_cons_zero, List.set_cons_succ]
        refine wpAnyH_done (by kernel_rfl) ?_ _
        refine NoPanic.normal ?_
        clear hb lA x3 x4 x5
        obtain ⟨hb, lA, x3, x4, x5⟩ := hHeld
        replace lA := Lib.hid lA
        go_wp2_with fail
        go_meet
        exact ⟨rfl, hb, lA.out, x3, x4, x5⟩
    clear hb lA x3 x4 x5
    obtain ⟨rfl, hb, lA, x3, x4, x5⟩ := hcut
    replace lA := Lib.hid lA
    go_wp2
    go_ret
    exact ⟨by rw [HV.out]; rfl, hb⟩
  have zz1 : ((k : Int) == 1) = false := by rw [beq_eq_false_iff_ne]; omega
  have zz2 : ((k : Int) == 2) = false := by rw [beq_eq_false_iff_ne]; omega
  have zz3 : ((k : Int) == 3) = false := by rw [beq_eq_false_iff_ne]; omega
  have zz4 : ((k : Int) == 4) = false := by rw [beq_eq_false_iff_ne]; omega
  have HV : Hid (bodyL ⟨k, src, dst, fr, seq, all, id, (i : Int), (n : Int), tx⟩ = H) := Lib.hid (by unfold bodyL; rw [if_neg k1, if_neg k2, if_neg k3, if_neg k4, HHv.out])
  go_wp2
  go_ret
  exact ⟨by rw [HV.out]; rfl, hb⟩

end Msg
end Go.Proofs.YtcfimfoccbaepaaDoor
