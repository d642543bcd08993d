/- coder: marks, dots, counts, cells, words as bytes. -/
import Derived.Test.YtnpjkmomllkhpaaGreatTake
import Derived.Test.YtnpjkmomllkhpaaGreatTmCodA
import Derived.Test.YtnpjkmomllkhpaaGreatTmWireList
import Derived.Test.YtnpjkmomllkhpaaGreatTmDotOf
namespace Go.Proofs.YtnpjkmomllkhpaaGreat
namespace Coder
open Go.RowKit Go.Proofs.YtnpjkmomllkhpaaGreat.Mark Go.Proofs.YtnpjkmomllkhpaaGreat.Num Go.Proofs.YtnpjkmomllkhpaaGreat.Wire

theorem box_cells (w : World) (C : Array Value) (T : TypeId) (j : Nat) (v : Value) (h : C[j]? = some v) : (w.alloc (.cells C T)).cell? ⟨w.heap.size, j, none⟩ = some v := by
  rw [World.cell?_alloc_new]; exact h
theorem keepC {w w' : World} {b o : Nat} {v : Value} (h : w.cell? ⟨b, o, none⟩ = some v) (k : Below w.heap.size w w') : w'.cell? ⟨b, o, none⟩ = some v := Dots.keepC h k
theorem one_mk (p : List UInt8) : Wire.one ⟨p.toArray⟩ = tx p := by unfold Wire.one tx; rw [Str.size_mk]
theorem nats_here (l : List Nat) (hn : ∀ n ∈ l, n ≤ 18446744073709551615) {C : Array Value} (hC : C = (l.map fun n => Value.int .u64 ((n : Nat) : Int)).toArray) {t : TypeId} (len : Nat) (hl : l.length = len) {B : Nat} {w W : World} (_h : Below B w (W.alloc (.cells C t))) :
    Nats (W.alloc (.cells C t)) (some ⟨W.heap.size, 0, none⟩) len l := by
  refine ⟨hl, hn, fun _ => ⟨W.heap.size, 0, rfl, by rw [World.size_alloc]; omega, fun j hj => ?_⟩⟩
  rw [World.cell?_alloc_new, hC]
  simp [hj]
theorem txts_here (l : List (List UInt8)) (hn : ∀ n ∈ l, n.length ≤ 9223372036854775807) {C : Array Value} (hC : C = (l.map fun n => Value.string ⟨n.toArray⟩).toArray) {t : TypeId} (len : Nat) (hl : l.length = len) {B : Nat} {w W : World} (_h : Below B w (W.alloc (.cells C t))) :
    Txts (W.alloc (.cells C t)) (some ⟨W.heap.size, 0, none⟩) len (l.map fun n => ⟨n.toArray⟩) := by
  refine ⟨by rw [List.length_map]; exact hl, fun n hm => ?_, fun _ => ⟨W.heap.size, 0, rfl, by rw [World.size_alloc]; omega, fun j hj => ?_⟩⟩
  · obtain ⟨x, hx, rfl⟩ := List.mem_map.1 hm
    rw [Str.size_mk]; exact hn x hx
  · rw [World.cell?_alloc_new, hC]
    rw [List.length_map] at hj
    simp [hj]
theorem nats_move {W : World} {a : Option Addr} {len : Nat} {l : List Nat} (h : Nats W a len l) {o : Obj} {B : Nat} {w : World} (_h : Below B w (W.alloc o)) : Nats (W.alloc o) a len l := h.below rfl (balloc (Below.refl _ _) _)
theorem txts_move {W : World} {a : Option Addr} {len : Nat} {l : List ByteArray} (h : Txts W a len l) {o : Obj} {B : Nat} {w : World} (_h : Below B w (W.alloc o)) : Txts (W.alloc o) a len l := h.below rfl (balloc (Below.refl _ _) _)
theorem nums_w {a : Option Addr} {len c : Nat} {l : List Nat} {w : World} (h : Nats w a len l) (hl : len ≤ 1048576) (r : List UInt8) (hr : cat l = r) :
    Calls Tryz.prog 55 #[.slice a len c] w fun e w' => e = .returned (.string ⟨r.toArray⟩) ∧ Below w.heap.size w w' := by rw [← hr]; exact nums_any a len c l w h hl
theorem texts_w {a : Option Addr} {len c : Nat} {l : List (List UInt8)} {w : World} (h : Txts w a len (l.map fun n => ⟨n.toArray⟩)) (r : List UInt8) (hr : l.flatMap tx = r) (hrl : r.length ≤ 1099511627776) (hlen : len ≤ 1099511627776) :
    Calls Tryz.prog 44 #[.slice a len c] w fun e w' => e = .returned (.string ⟨r.toArray⟩) ∧ Below w.heap.size w w' := by
  have e : tcat (l.map fun n => (⟨n.toArray⟩ : ByteArray)) = r := by
    rw [← hr]; unfold tcat; rw [List.flatMap_map]
    exact congrArg (fun f => l.flatMap f) (funext one_mk)
  rw [← e]
  exact texts_any a len c _ w h (by rw [e]; exact hrl) hlen
theorem bool_wb (b : Bool) (r : List UInt8) (hr : tb b = r) (w : World) : Calls Tryz.prog 82 #[.bool b] w fun e w' => e = .returned (.string ⟨r.toArray⟩) ∧ Below w.heap.size w w' := by
  refine (bool_w b w).mono ?_
  rintro e w' ⟨rfl, rfl⟩
  refine ⟨?_, Below.refl _ _⟩
  rw [← hr]
  cases b <;> rfl
theorem tx_len (p : List UInt8) : (tx p).length ≤ p.length + 10 := by
  unfold tx
  have := (upL_length p.length).2
  rw [List.length_append]; omega
theorem up_len (n : Nat) : (upL n).length ≤ 10 := (upL_length n).2

set_option maxRecDepth 100000 in
set_option maxHeartbeats 4000000 in
theorem mark_any (m : M) (w : World) (hp : m.p.length ≤ 1048576) (hn : m.n ≤ 18446744073709551615) :
    Calls Tryz.prog 46 #[.agg #[.string ⟨m.p.toArray⟩, .int .u64 (m.n : Int)]] w fun e w' => e = .returned (.string ⟨(mk m).toArray⟩) ∧ Below w.heap.size w w' := by
  have hb := Below.refl w.heap.size w
  obtain ⟨p0, hp0⟩ : ∃ p, p = tx m.p := ⟨_, rfl⟩
  have b0 : p0.length ≤ 1048586 := by rw [hp0]; have := tx_len m.p; omega
  have R0 : Hid ([m.p].flatMap tx = p0) := Lib.hid (by rw [hp0]; simp)
  have z0 := Str.size_mk p0
  obtain ⟨p1, hp1⟩ : ∃ p, p = upL m.n := ⟨_, rfl⟩
  have b1 : p1.length ≤ 1048586 := by rw [hp1]; have := up_len m.n; omega
  have R1 : Hid (cat [m.n] = p1) := Lib.hid (by rw [hp1]; simp [cat])
  have z1 := Str.size_mk p1
  obtain ⟨C1, hC1⟩ : ∃ p, p = p0 ++ p1 := ⟨_, rfl⟩
  have lC1 : C1.length = p0.length + p1.length := by rw [hC1, List.length_append]
  have aC1 : (({ data := p0.toArray } : ByteArray)) ++ { data := p1.toArray } = { data := C1.toArray } := by rw [hC1]; exact Str.mk_append_mk p0 p1
  have zC1 := Str.size_mk C1
  have nC1 : ¬ (9223372036854775807 < p0.length + p1.length) := by omega
  have mC1 : ¬ (p0.length + p1.length > 9223372036854775807) := by omega
  have HV : Hid (mk m = C1) := Lib.hid (by rw [hC1]; rw [hp0]; rw [hp1]; rfl)
  have X0 := Lib.hid (box_cells w #[.string ⟨m.p.toArray⟩, .int .u64 (m.n : Int)] 54 0 (.string ⟨m.p.toArray⟩) rfl)
  have X1 := Lib.hid (box_cells w #[.string ⟨m.p.toArray⟩, .int .u64 (m.n : Int)] 54 1 (.int .u64 (m.n : Int)) rfl)
  clear hp0
  clear hp1
  replace hC1 := Lib.hid hC1
  replace lC1 := Lib.hid lC1
  go_enter Tryz.func46, Tryz.ntmps46
  go_wp2_with fail
  replace hb := bstep hb (balloc (Below.refl _ _) (.cells #[.string ⟨m.p.toArray⟩, .int .u64 (m.n : Int)] 54))
  have x0 := X0.out
  have x1 := X1.out
  clear X0 X1
  refine wp_region_noPanic ?_
  refine wp_region_held_drew (S := (fun w' => Below w.heap.size w w' ∧ w'.cell? ⟨w.heap.size, 0, none⟩ = some (.string ⟨m.p.toArray⟩) ∧ w'.cell? ⟨w.heap.size, 1, none⟩ = some (.int .u64 (m.n : Int)))) (by kernel_rfl) (⟨Below.drew hb, Coder.keepC x0 (Below.drew (Below.refl _ _)), Coder.keepC x1 (Below.drew (Below.refl _ _))⟩) (fun hHeld => ?_)
  revert hHeld
  generalize World.drew _ = wd
  intro hHeld
  refine tk 0 ?_
  try simp only [Act.put, List.setIfInBounds_toArray, List.set_cons_zero, List.set_cons_succ]
  refine tk 1 ?_
  try simp only [Act.put, List.setIfInBounds_toArray, List.set_cons_zero, List.set_cons_succ]
  refine tk 4 ?_
  try simp only [Act.put, List.setIfInBounds_toArray, List.set_cons_zero, List.set_cons_succ]
  refine tk 5 ?_
  try simp only [Act.put, List.setIfInBounds_toArray, List.set_cons_zero, List.set_cons_succ]
  refine wpAnyH_ready (rs := [2, 6]) (by kernel_rfl) (by simp) ?_
  refine AllReadyH.cons (by simp only [List.getElem?_toArray, List.getElem?_cons_succ, List.getElem?_cons_zero]; rfl) (fun K hK => ?_) (AllReadyH.cons (by simp only [List.getElem?_toArray, List.getElem?_cons_succ, List.getElem?_cons_zero]; rfl) (fun K hK => ?_) (AllReadyH.nil))
  · skip
    go_simp
    refine hK.out _ _ (⟨bstep hHeld.1 (balloc (Below.refl _ _) _), Coder.keepC hHeld.2.1 (balloc (Below.refl _ _) _), Coder.keepC hHeld.2.2 (balloc (Below.refl _ _) _)⟩) (fun hHeld => ?_)
    clear hK K
    try simp only [Act.put, List.setIfInBounds_toArray, List.set_cons_zero, List.set_cons_succ]
    have N2 := txts_here [m.p] (by intro y hy; simp at hy; subst hy; omega) rfl 1 rfl hHeld.1
    try simp only [World.size_alloc] at N2
    refine wpAnyH_ready (rs := [3, 6]) (by kernel_rfl) (by simp) ?_
    refine AllReadyH.cons (by simp only [List.getElem?_toArray, List.getElem?_cons_succ, List.getElem?_cons_zero]; rfl) (fun K hK => ?_) (AllReadyH.cons (by simp only [List.getElem?_toArray, List.getElem?_cons_succ, List.getElem?_cons_zero]; rfl) (fun K hK => ?_) (AllReadyH.nil))
    · skip
      go_simp
      go_at_call 44
      refine (texts_w N2 p0 R0.out (by omega) (by omega)).mono ?_
      rintro e v1 ⟨rfl, k1⟩
      replace N2 := (N2).below rfl k1
      go_wp2_with fail
      refine hK.out _ _ (⟨bstep hHeld.1 k1, Coder.keepC hHeld.2.1 k1, Coder.keepC hHeld.2.2 k1⟩) (fun hHeld => ?_)
      clear hK K k1
      try simp only [Act.put, List.setIfInBounds_toArray, List.set_cons_zero, List.set_cons_succ]
      refine wpAnyH_ready (rs := [6]) (by kernel_rfl) (by simp) ?_
      refine AllReadyH.cons (by simp only [List.getElem?_toArray, List.getElem?_cons_succ, List.getElem?_cons_zero]; rfl) (fun K hK => ?_) AllReadyH.nil
      go_simp
      refine hK.out _ _ (⟨bstep hHeld.1 (balloc (Below.refl _ _) _), Coder.keepC hHeld.2.1 (balloc (Below.refl _ _) _), Coder.keepC hHeld.2.2 (balloc (Below.refl _ _) _)⟩) (fun hHeld => ?_)
      clear hK K
      try simp only [Act.put, List.setIfInBounds_toArray, List.set_cons_zero, List.set_cons_succ]
      replace N2 := txts_move N2 hHeld.1
      have N6 := nats_here [m.n] (by intro y hy; simp at hy; omega) rfl 1 rfl hHeld.1
      try simp only [World.size_alloc] at N6
      refine wpAnyH_ready (rs := [7]) (by kernel_rfl) (by simp) ?_
      refine AllReadyH.cons (by simp only [List.getElem?_toArray, List.getElem?_cons_succ, List.getElem?_cons_zero]; rfl) (fun K hK => ?_) AllReadyH.nil
      go_simp
      go_at_call 55
      refine (nums_w N6 (by omega) p1 R1.out).mono ?_
      rintro e v2 ⟨rfl, k2⟩
      replace N2 := (N2).below rfl k2
      replace N6 := (N6).below rfl k2
      go_wp2_with fail
      refine hK.out _ _ (⟨bstep hHeld.1 k2, Coder.keepC hHeld.2.1 k2, Coder.keepC hHeld.2.2 k2⟩) (fun hHeld => ?_)
      clear hK K k2
      try simp only [Act.put, List.setIfInBounds_toArray, List.set_cons_zero, List.set_cons_succ]
      refine tk 8 ?_
      try simp only [Act.put, List.setIfInBounds_toArray, List.set_cons_zero, List.set_cons_succ]
      refine tk 9 ?_
      try simp only [Act.put, List.setIfInBounds_toArray, List.set_cons_zero, List.set_cons_succ]
      refine wpAnyH_done (by kernel_rfl) ?_ _
      refine NoPanic.normal ?_
      clear hb x0 x1
      obtain ⟨hb, x0, x1⟩ := hHeld
      go_wp2
      go_ret
      exact ⟨by rw [HV.out]; rfl, hb⟩
    · skip
      go_simp
      refine hK.out _ _ (⟨bstep hHeld.1 (balloc (Below.refl _ _) _), Coder.keepC hHeld.2.1 (balloc (Below.refl _ _) _), Coder.keepC hHeld.2.2 (balloc (Below.refl _ _) _)⟩) (fun hHeld => ?_)
      clear hK K
      try simp only [Act.put, List.setIfInBounds_toArray, List.set_cons_zero, List.set_cons_succ]
      replace N2 := txts_move N2 hHeld.1
      have N6 := nats_here [m.n] (by intro y hy; simp at hy; omega) rfl 1 rfl hHeld.1
      try simp only [World.size_alloc] at N6
      refine wpAnyH_ready (rs := [3]) (by kernel_rfl) (by simp) ?_
      refine AllReadyH.cons (by simp only [List.getElem?_toArray, List.getElem?_cons_succ, List.getElem?_cons_zero]; rfl) (fun K hK => ?_) AllReadyH.nil
      go_simp
      go_at_call 44
      refine (texts_w N2 p0 R0.out (by omega) (by omega)).mono ?_
      rintro e v3 ⟨rfl, k3⟩
      replace N2 := (N2).below rfl k3
      replace N6 := (N6).below rfl k3
      go_wp2_with fail
      refine hK.out _ _ (⟨bstep hHeld.1 k3, Coder.keepC hHeld.2.1 k3, Coder.keepC hHeld.2.2 k3⟩) (fun hHeld => ?_)
      clear hK K k3
      try simp only [Act.put, List.setIfInBounds_toArray, List.set_cons_zero, List.set_cons_succ]
      refine wpAnyH_ready (rs := [7]) (by kernel_rfl) (by simp) ?_
      refine AllReadyH.cons (by simp only [List.getElem?_toArray, List.getElem?_cons_succ, List.getElem?_cons_zero]; rfl) (fun K hK => ?_) AllReadyH.nil
      go_simp
      go_at_call 55
      refine (nums_w N6 (by omega) p1 R1.out).mono ?_
      rintro e v4 ⟨rfl, k4⟩
      replace N2 := (N2).below rfl k4
      replace N6 := (N6).below rfl k4
      go_wp2_with fail
      refine hK.out _ _ (⟨bstep hHeld.1 k4, Coder.keepC hHeld.2.1 k4, Coder.keepC hHeld.2.2 k4⟩) (fun hHeld => ?_)
      clear hK K k4
      try simp only [Act.put, List.setIfInBounds_toArray, List.set_cons_zero, List.set_cons_succ]
      refine tk 8 ?_
      try simp only [Act.put, List.setIfInBounds_toArray, List.set_cons_zero, List.set_cons_succ]
      refine tk 9 ?_
      try simp only [Act.put, List.setIfInBounds_toArray, List.set_cons_zero, List.set_cons_succ]
      refine wpAnyH_done (by kernel_rfl) ?_ _
      refine NoPanic.normal ?_
      clear hb x0 x1
      obtain ⟨hb, x0, x1⟩ := hHeld
      go_wp2
      go_ret
      exact ⟨by rw [HV.out]; rfl, hb⟩
  · skip
    go_simp
    refine hK.out _ _ (⟨bstep hHeld.1 (balloc (Below.refl _ _) _), Coder.keepC hHeld.2.1 (balloc (Below.refl _ _) _), Coder.keepC hHeld.2.2 (balloc (Below.refl _ _) _)⟩) (fun hHeld => ?_)
    clear hK K
    try simp only [Act.put, List.setIfInBounds_toArray, List.set_cons_zero, List.set_cons_succ]
    have N6 := nats_here [m.n] (by intro y hy; simp at hy; omega) rfl 1 rfl hHeld.1
    try simp only [World.size_alloc] at N6
    refine wpAnyH_ready (rs := [2]) (by kernel_rfl) (by simp) ?_
    refine AllReadyH.cons (by simp only [List.getElem?_toArray, List.getElem?_cons_succ, List.getElem?_cons_zero]; rfl) (fun K hK => ?_) AllReadyH.nil
    go_simp
    refine hK.out _ _ (⟨bstep hHeld.1 (balloc (Below.refl _ _) _), Coder.keepC hHeld.2.1 (balloc (Below.refl _ _) _), Coder.keepC hHeld.2.2 (balloc (Below.refl _ _) _)⟩) (fun hHeld => ?_)
    clear hK K
    try simp only [Act.put, List.setIfInBounds_toArray, List.set_cons_zero, List.set_cons_succ]
    replace N6 := nats_move N6 hHeld.1
    have N2 := txts_here [m.p] (by intro y hy; simp at hy; subst hy; omega) rfl 1 rfl hHeld.1
    try simp only [World.size_alloc] at N2
    refine wpAnyH_ready (rs := [3]) (by kernel_rfl) (by simp) ?_
    refine AllReadyH.cons (by simp only [List.getElem?_toArray, List.getElem?_cons_succ, List.getElem?_cons_zero]; rfl) (fun K hK => ?_) AllReadyH.nil
    go_simp
    go_at_call 44
    refine (texts_w N2 p0 R0.out (by omega) (by omega)).mono ?_
    rintro e v5 ⟨rfl, k5⟩
    replace N6 := (N6).below rfl k5
    replace N2 := (N2).below rfl k5
    go_wp2_with fail
    refine hK.out _ _ (⟨bstep hHeld.1 k5, Coder.keepC hHeld.2.1 k5, Coder.keepC hHeld.2.2 k5⟩) (fun hHeld => ?_)
    clear hK K k5
    try simp only [Act.put, List.setIfInBounds_toArray, List.set_cons_zero, List.set_cons_succ]
    refine wpAnyH_ready (rs := [7]) (by kernel_rfl) (by simp) ?_
    refine AllReadyH.cons (by simp only [List.getElem?_toArray, List.getElem?_cons_succ, List.getElem?_cons_zero]; rfl) (fun K hK => ?_) AllReadyH.nil
    go_simp
    go_at_call 55
    refine (nums_w N6 (by omega) p1 R1.out).mono ?_
    rintro e v6 ⟨rfl, k6⟩
    replace N6 := (N6).below rfl k6
    replace N2 := (N2).below rfl k6
    go_wp2_with fail
    refine hK.out _ _ (⟨bstep hHeld.1 k6, Coder.keepC hHeld.2.1 k6, Coder.keepC hHeld.2.2 k6⟩) (fun hHeld => ?_)
    clear hK K k6
    try simp only [Act.put, List.setIfInBounds_toArray, List.set_cons_zero, List.set_cons_succ]
    refine tk 8 ?_
    try simp only [Act.put, List.setIfInBounds_toArray, List.set_cons_zero, List.set_cons_succ]
    refine tk 9 ?_
    try simp only [Act.put, List.setIfInBounds_toArray, List.set_cons_zero, List.set_cons_succ]
    refine wpAnyH_done (by kernel_rfl) ?_ _
    refine NoPanic.normal ?_
    clear hb x0 x1
    obtain ⟨hb, x0, x1⟩ := hHeld
    go_wp2
    go_ret
    exact ⟨by rw [HV.out]; rfl, hb⟩
set_option maxRecDepth 100000 in
set_option maxHeartbeats 4000000 in
theorem dot_any (m : M) (w : World) (hp : m.p.length ≤ 1048576) (hn : m.n ≤ 18446744073709551615) :
    Calls Tryz.prog 81 #[.agg #[.string ⟨m.p.toArray⟩, .int .u64 (m.n : Int)]] w fun e w' => e = .returned (.string ⟨(mk m).toArray⟩) ∧ Below w.heap.size w w' := by
  have hb := Below.refl w.heap.size w
  obtain ⟨p0, hp0⟩ : ∃ p, p = tx m.p := ⟨_, rfl⟩
  have b0 : p0.length ≤ 1048586 := by rw [hp0]; have := tx_len m.p; omega
  have R0 : Hid ([m.p].flatMap tx = p0) := Lib.hid (by rw [hp0]; simp)
  have z0 := Str.size_mk p0
  obtain ⟨p1, hp1⟩ : ∃ p, p = upL m.n := ⟨_, rfl⟩
  have b1 : p1.length ≤ 1048586 := by rw [hp1]; have := up_len m.n; omega
  have R1 : Hid (cat [m.n] = p1) := Lib.hid (by rw [hp1]; simp [cat])
  have z1 := Str.size_mk p1
  obtain ⟨C1, hC1⟩ : ∃ p, p = p0 ++ p1 := ⟨_, rfl⟩
  have lC1 : C1.length = p0.length + p1.length := by rw [hC1, List.length_append]
  have aC1 : (({ data := p0.toArray } : ByteArray)) ++ { data := p1.toArray } = { data := C1.toArray } := by rw [hC1]; exact Str.mk_append_mk p0 p1
  have zC1 := Str.size_mk C1
  have nC1 : ¬ (9223372036854775807 < p0.length + p1.length) := by omega
  have mC1 : ¬ (p0.length + p1.length > 9223372036854775807) := by omega
  have HV : Hid (mk m = C1) := Lib.hid (by rw [hC1]; rw [hp0]; rw [hp1]; rfl)
  have X0 := Lib.hid (box_cells w #[.string ⟨m.p.toArray⟩, .int .u64 (m.n : Int)] 96 0 (.string ⟨m.p.toArray⟩) rfl)
  have X1 := Lib.hid (box_cells w #[.string ⟨m.p.toArray⟩, .int .u64 (m.n : Int)] 96 1 (.int .u64 (m.n : Int)) rfl)
  clear hp0
  clear hp1
  replace hC1 := Lib.hid hC1
  replace lC1 := Lib.hid lC1
  go_enter Tryz.func81, Tryz.ntmps81
  go_wp2_with fail
  replace hb := bstep hb (balloc (Below.refl _ _) (.cells #[.string ⟨m.p.toArray⟩, .int .u64 (m.n : Int)] 96))
  have x0 := X0.out
  have x1 := X1.out
  clear X0 X1
  refine wp_region_noPanic ?_
  refine wp_region_held_drew (S := (fun w' => Below w.heap.size w w' ∧ w'.cell? ⟨w.heap.size, 0, none⟩ = some (.string ⟨m.p.toArray⟩) ∧ w'.cell? ⟨w.heap.size, 1, none⟩ = some (.int .u64 (m.n : Int)))) (by kernel_rfl) (⟨Below.drew hb, Coder.keepC x0 (Below.drew (Below.refl _ _)), Coder.keepC x1 (Below.drew (Below.refl _ _))⟩) (fun hHeld => ?_)
  revert hHeld
  generalize World.drew _ = wd
  intro hHeld
  refine tk 0 ?_
  try simp only [Act.put, List.setIfInBounds_toArray, List.set_cons_zero, List.set_cons_succ]
  refine tk 1 ?_
  try simp only [Act.put, List.setIfInBounds_toArray, List.set_cons_zero, List.set_cons_succ]
  refine tk 4 ?_
  try simp only [Act.put, List.setIfInBounds_toArray, List.set_cons_zero, List.set_cons_succ]
  refine tk 5 ?_
  try simp only [Act.put, List.setIfInBounds_toArray, List.set_cons_zero, List.set_cons_succ]
  refine wpAnyH_ready (rs := [2, 6]) (by kernel_rfl) (by simp) ?_
  refine AllReadyH.cons (by simp only [List.getElem?_toArray, List.getElem?_cons_succ, List.getElem?_cons_zero]; rfl) (fun K hK => ?_) (AllReadyH.cons (by simp only [List.getElem?_toArray, List.getElem?_cons_succ, List.getElem?_cons_zero]; rfl) (fun K hK => ?_) (AllReadyH.nil))
  · skip
    go_simp
    refine hK.out _ _ (⟨bstep hHeld.1 (balloc (Below.refl _ _) _), Coder.keepC hHeld.2.1 (balloc (Below.refl _ _) _), Coder.keepC hHeld.2.2 (balloc (Below.refl _ _) _)⟩) (fun hHeld => ?_)
    clear hK K
    try simp only [Act.put, List.setIfInBounds_toArray, List.set_cons_zero, List.set_cons_succ]
    have N2 := txts_here [m.p] (by intro y hy; simp at hy; subst hy; omega) rfl 1 rfl hHeld.1
    try simp only [World.size_alloc] at N2
    refine wpAnyH_ready (rs := [3, 6]) (by kernel_rfl) (by simp) ?_
    refine AllReadyH.cons (by simp only [List.getElem?_toArray, List.getElem?_cons_succ, List.getElem?_cons_zero]; rfl) (fun K hK => ?_) (AllReadyH.cons (by simp only [List.getElem?_toArray, List.getElem?_cons_succ, List.getElem?_cons_zero]; rfl) (fun K hK => ?_) (AllReadyH.nil))
    · skip
      go_simp
      go_at_call 44
      refine (texts_w N2 p0 R0.out (by omega) (by omega)).mono ?_
      rintro e v7 ⟨rfl, k7⟩
      replace N2 := (N2).below rfl k7
      go_wp2_with fail
      refine hK.out _ _ (⟨bstep hHeld.1 k7, Coder.keepC hHeld.2.1 k7, Coder.keepC hHeld.2.2 k7⟩) (fun hHeld => ?_)
      clear hK K k7
      try simp only [Act.put, List.setIfInBounds_toArray, List.set_cons_zero, List.set_cons_succ]
      refine wpAnyH_ready (rs := [6]) (by kernel_rfl) (by simp) ?_
      refine AllReadyH.cons (by simp only [List.getElem?_toArray, List.getElem?_cons_succ, List.getElem?_cons_zero]; rfl) (fun K hK => ?_) AllReadyH.nil
      go_simp
      refine hK.out _ _ (⟨bstep hHeld.1 (balloc (Below.refl _ _) _), Coder.keepC hHeld.2.1 (balloc (Below.refl _ _) _), Coder.keepC hHeld.2.2 (balloc (Below.refl _ _) _)⟩) (fun hHeld => ?_)
      clear hK K
      try simp only [Act.put, List.setIfInBounds_toArray, List.set_cons_zero, List.set_cons_succ]
      replace N2 := txts_move N2 hHeld.1
      have N6 := nats_here [m.n] (by intro y hy; simp at hy; omega) rfl 1 rfl hHeld.1
      try simp only [World.size_alloc] at N6
      refine wpAnyH_ready (rs := [7]) (by kernel_rfl) (by simp) ?_
      refine AllReadyH.cons (by simp only [List.getElem?_toArray, List.getElem?_cons_succ, List.getElem?_cons_zero]; rfl) (fun K hK => ?_) AllReadyH.nil
      go_simp
      go_at_call 55
      refine (nums_w N6 (by omega) p1 R1.out).mono ?_
      rintro e v8 ⟨rfl, k8⟩
      replace N2 := (N2).below rfl k8
      replace N6 := (N6).below rfl k8
      go_wp2_with fail
      refine hK.out _ _ (⟨bstep hHeld.1 k8, Coder.keepC hHeld.2.1 k8, Coder.keepC hHeld.2.2 k8⟩) (fun hHeld => ?_)
      clear hK K k8
      try simp only [Act.put, List.setIfInBounds_toArray, List.set_cons_zero, List.set_cons_succ]
      refine tk 8 ?_
      try simp only [Act.put, List.setIfInBounds_toArray, List.set_cons_zero, List.set_cons_succ]
      refine tk 9 ?_
      try simp only [Act.put, List.setIfInBounds_toArray, List.set_cons_zero, List.set_cons_succ]
      refine wpAnyH_done (by kernel_rfl) ?_ _
      refine NoPanic.normal ?_
      clear hb x0 x1
      obtain ⟨hb, x0, x1⟩ := hHeld
      go_wp2
      go_ret
      exact ⟨by rw [HV.out]; rfl, hb⟩
    · skip
      go_simp
      refine hK.out _ _ (⟨bstep hHeld.1 (balloc (Below.refl _ _) _), Coder.keepC hHeld.2.1 (balloc (Below.refl _ _) _), Coder.keepC hHeld.2.2 (balloc (Below.refl _ _) _)⟩) (fun hHeld => ?_)
      clear hK K
      try simp only [Act.put, List.setIfInBounds_toArray, List.set_cons_zero, List.set_cons_succ]
      replace N2 := txts_move N2 hHeld.1
      have N6 := nats_here [m.n] (by intro y hy; simp at hy; omega) rfl 1 rfl hHeld.1
      try simp only [World.size_alloc] at N6
      refine wpAnyH_ready (rs := [3]) (by kernel_rfl) (by simp) ?_
      refine AllReadyH.cons (by simp only [List.getElem?_toArray, List.getElem?_cons_succ, List.getElem?_cons_zero]; rfl) (fun K hK => ?_) AllReadyH.nil
      go_simp
      go_at_call 44
      refine (texts_w N2 p0 R0.out (by omega) (by omega)).mono ?_
      rintro e v9 ⟨rfl, k9⟩
      replace N2 := (N2).below rfl k9
      replace N6 := (N6).below rfl k9
      go_wp2_with fail
      refine hK.out _ _ (⟨bstep hHeld.1 k9, Coder.keepC hHeld.2.1 k9, Coder.keepC hHeld.2.2 k9⟩) (fun hHeld => ?_)
      clear hK K k9
      try simp only [Act.put, List.setIfInBounds_toArray, List.set_cons_zero, List.set_cons_succ]
      refine wpAnyH_ready (rs := [7]) (by kernel_rfl) (by simp) ?_
      refine AllReadyH.cons (by simp only [List.getElem?_toArray, List.getElem?_cons_succ, List.getElem?_cons_zero]; rfl) (fun K hK => ?_) AllReadyH.nil
      go_simp
      go_at_call 55
      refine (nums_w N6 (by omega) p1 R1.out).mono ?_
      rintro e v10 ⟨rfl, k10⟩
      replace N2 := (N2).below rfl k10
      replace N6 := (N6).below rfl k10
      go_wp2_with fail
      refine hK.out _ _ (⟨bstep hHeld.1 k10, Coder.keepC hHeld.2.1 k10, Coder.keepC hHeld.2.2 k10⟩) (fun hHeld => ?_)
      clear hK K k10
      try simp only [Act.put, List.setIfInBounds_toArray, List.set_cons_zero, List.set_cons_succ]
      refine tk 8 ?_
      try simp only [Act.put, List.setIfInBounds_toArray, List.set_cons_zero, List.set_cons_succ]
      refine tk 9 ?_
      try simp only [Act.put, List.setIfInBounds_toArray, List.set_cons_zero, List.set_cons_succ]
      refine wpAnyH_done (by kernel_rfl) ?_ _
      refine NoPanic.normal ?_
      clear hb x0 x1
      obtain ⟨hb, x0, x1⟩ := hHeld
      go_wp2
      go_ret
      exact ⟨by rw [HV.out]; rfl, hb⟩
  · skip
    go_simp
    refine hK.out _ _ (⟨bstep hHeld.1 (balloc (Below.refl _ _) _), Coder.keepC hHeld.2.1 (balloc (Below.refl _ _) _), Coder.keepC hHeld.2.2 (balloc (Below.refl _ _) _)⟩) (fun hHeld => ?_)
    clear hK K
    try simp only [Act.put, List.setIfInBounds_toArray, List.set_cons_zero, List.set_cons_succ]
    have N6 := nats_here [m.n] (by intro y hy; simp at hy; omega) rfl 1 rfl hHeld.1
    try simp only [World.size_alloc] at N6
    refine wpAnyH_ready (rs := [2]) (by kernel_rfl) (by simp) ?_
    refine AllReadyH.cons (by simp only [List.getElem?_toArray, List.getElem?_cons_succ, List.getElem?_cons_zero]; rfl) (fun K hK => ?_) AllReadyH.nil
    go_simp
    refine hK.out _ _ (⟨bstep hHeld.1 (balloc (Below.refl _ _) _), Coder.keepC hHeld.2.1 (balloc (Below.refl _ _) _), Coder.keepC hHeld.2.2 (balloc (Below.refl _ _) _)⟩) (fun hHeld => ?_)
    clear hK K
    try simp only [Act.put, List.setIfInBounds_toArray, List.set_cons_zero, List.set_cons_succ]
    replace N6 := nats_move N6 hHeld.1
    have N2 := txts_here [m.p] (by intro y hy; simp at hy; subst hy; omega) rfl 1 rfl hHeld.1
    try simp only [World.size_alloc] at N2
    refine wpAnyH_ready (rs := [3]) (by kernel_rfl) (by simp) ?_
    refine AllReadyH.cons (by simp only [List.getElem?_toArray, List.getElem?_cons_succ, List.getElem?_cons_zero]; rfl) (fun K hK => ?_) AllReadyH.nil
    go_simp
    go_at_call 44
    refine (texts_w N2 p0 R0.out (by omega) (by omega)).mono ?_
    rintro e v11 ⟨rfl, k11⟩
    replace N6 := (N6).below rfl k11
    replace N2 := (N2).below rfl k11
    go_wp2_with fail
    refine hK.out _ _ (⟨bstep hHeld.1 k11, Coder.keepC hHeld.2.1 k11, Coder.keepC hHeld.2.2 k11⟩) (fun hHeld => ?_)
    clear hK K k11
    try simp only [Act.put, List.setIfInBounds_toArray, List.set_cons_zero, List.set_cons_succ]
    refine wpAnyH_ready (rs := [7]) (by kernel_rfl) (by simp) ?_
    refine AllReadyH.cons (by simp only [List.getElem?_toArray, List.getElem?_cons_succ, List.getElem?_cons_zero]; rfl) (fun K hK => ?_) AllReadyH.nil
    go_simp
    go_at_call 55
    refine (nums_w N6 (by omega) p1 R1.out).mono ?_
    rintro e v12 ⟨rfl, k12⟩
    replace N6 := (N6).below rfl k12
    replace N2 := (N2).below rfl k12
    go_wp2_with fail
    refine hK.out _ _ (⟨bstep hHeld.1 k12, Coder.keepC hHeld.2.1 k12, Coder.keepC hHeld.2.2 k12⟩) (fun hHeld => ?_)
    clear hK K k12
    try simp only [Act.put, List.setIfInBounds_toArray, List.set_cons_zero, List.set_cons_succ]
    refine tk 8 ?_
    try simp only [Act.put, List.setIfInBounds_toArray, List.set_cons_zero, List.set_cons_succ]
    refine tk 9 ?_
    try simp only [Act.put, List.setIfInBounds_toArray, List.set_cons_zero, List.set_cons_succ]
    refine wpAnyH_done (by kernel_rfl) ?_ _
    refine NoPanic.normal ?_
    clear hb x0 x1
    obtain ⟨hb, x0, x1⟩ := hHeld
    go_wp2
    go_ret
    exact ⟨by rw [HV.out]; rfl, hb⟩
set_option maxRecDepth 100000 in
set_option maxHeartbeats 4000000 in
theorem count_any (m : C) (w : World) (hp : m.p.length ≤ 1048576) (hn : m.a ≤ 18446744073709551615) (hn2 : m.b ≤ 18446744073709551615) :
    Calls Tryz.prog 48 #[.agg #[.string ⟨m.p.toArray⟩, .int .u64 (m.a : Int), .int .u64 (m.b : Int)]] w fun e w' => e = .returned (.string ⟨(ct m).toArray⟩) ∧ Below w.heap.size w w' := by
  have hb := Below.refl w.heap.size w
  obtain ⟨p0, hp0⟩ : ∃ p, p = tx m.p := ⟨_, rfl⟩
  have b0 : p0.length ≤ 1048586 := by rw [hp0]; have := tx_len m.p; omega
  have R0 : Hid ([m.p].flatMap tx = p0) := Lib.hid (by rw [hp0]; simp)
  have z0 := Str.size_mk p0
  obtain ⟨p1, hp1⟩ : ∃ p, p = upL m.a ++ upL m.b := ⟨_, rfl⟩
  have b1 : p1.length ≤ 1048586 := by rw [hp1]; have := up_len m.a; have := up_len m.b; rw [List.length_append]; omega
  have R1 : Hid (cat [m.a, m.b] = p1) := Lib.hid (by rw [hp1]; simp [cat])
  have z1 := Str.size_mk p1
  obtain ⟨C1, hC1⟩ : ∃ p, p = p0 ++ p1 := ⟨_, rfl⟩
  have lC1 : C1.length = p0.length + p1.length := by rw [hC1, List.length_append]
  have aC1 : (({ data := p0.toArray } : ByteArray)) ++ { data := p1.toArray } = { data := C1.toArray } := by rw [hC1]; exact Str.mk_append_mk p0 p1
  have zC1 := Str.size_mk C1
  have nC1 : ¬ (9223372036854775807 < p0.length + p1.length) := by omega
  have mC1 : ¬ (p0.length + p1.length > 9223372036854775807) := by omega
  have HV : Hid (ct m = C1) := Lib.hid (by rw [hC1]; rw [hp0]; rw [hp1]; rfl)
  have X0 := Lib.hid (box_cells w #[.string ⟨m.p.toArray⟩, .int .u64 (m.a : Int), .int .u64 (m.b : Int)] 56 0 (.string ⟨m.p.toArray⟩) rfl)
  have X1 := Lib.hid (box_cells w #[.string ⟨m.p.toArray⟩, .int .u64 (m.a : Int), .int .u64 (m.b : Int)] 56 1 (.int .u64 (m.a : Int)) rfl)
  have X2 := Lib.hid (box_cells w #[.string ⟨m.p.toArray⟩, .int .u64 (m.a : Int), .int .u64 (m.b : Int)] 56 2 (.int .u64 (m.b : Int)) rfl)
  clear hp0
  clear hp1
  replace hC1 := Lib.hid hC1
  replace lC1 := Lib.hid lC1
  go_enter Tryz.func48, Tryz.ntmps48
  go_wp2_with fail
  replace hb := bstep hb (balloc (Below.refl _ _) (.cells #[.string ⟨m.p.toArray⟩, .int .u64 (m.a : Int), .int .u64 (m.b : Int)] 56))
  have x0 := X0.out
  have x1 := X1.out
  have x2 := X2.out
  clear X0 X1 X2
  refine wp_region_noPanic ?_
  refine wp_region_held_drew (S := (fun w' => Below w.heap.size w w' ∧ w'.cell? ⟨w.heap.size, 0, none⟩ = some (.string ⟨m.p.toArray⟩) ∧ w'.cell? ⟨w.heap.size, 1, none⟩ = some (.int .u64 (m.a : Int)) ∧ w'.cell? ⟨w.heap.size, 2, none⟩ = some (.int .u64 (m.b : Int)))) (by kernel_rfl) (⟨Below.drew hb, Coder.keepC x0 (Below.drew (Below.refl _ _)), Coder.keepC x1 (Below.drew (Below.refl _ _)), Coder.keepC x2 (Below.drew (Below.refl _ _))⟩) (fun hHeld => ?_)
  revert hHeld
  generalize World.drew _ = wd
  intro hHeld
  refine tk 0 ?_
  try simp only [Act.put, List.setIfInBounds_toArray, List.set_cons_zero, List.set_cons_succ]
  refine tk 1 ?_
  try simp only [Act.put, List.setIfInBounds_toArray, List.set_cons_zero, List.set_cons_succ]
  refine tk 4 ?_
  try simp only [Act.put, List.setIfInBounds_toArray, List.set_cons_zero, List.set_cons_succ]
  refine tk 5 ?_
  try simp only [Act.put, List.setIfInBounds_toArray, List.set_cons_zero, List.set_cons_succ]
  refine tk 6 ?_
  try simp only [Act.put, List.setIfInBounds_toArray, List.set_cons_zero, List.set_cons_succ]
  refine tk 7 ?_
  try simp only [Act.put, List.setIfInBounds_toArray, List.set_cons_zero, List.set_cons_succ]
  refine wpAnyH_ready (rs := [2, 8]) (by kernel_rfl) (by simp) ?_
  refine AllReadyH.cons (by simp only [List.getElem?_toArray, List.getElem?_cons_succ, List.getElem?_cons_zero]; rfl) (fun K hK => ?_) (AllReadyH.cons (by simp only [List.getElem?_toArray, List.getElem?_cons_succ, List.getElem?_cons_zero]; rfl) (fun K hK => ?_) (AllReadyH.nil))
  · skip
    go_simp
    refine hK.out _ _ (⟨bstep hHeld.1 (balloc (Below.refl _ _) _), Coder.keepC hHeld.2.1 (balloc (Below.refl _ _) _), Coder.keepC hHeld.2.2.1 (balloc (Below.refl _ _) _), Coder.keepC hHeld.2.2.2 (balloc (Below.refl _ _) _)⟩) (fun hHeld => ?_)
    clear hK K
    try simp only [Act.put, List.setIfInBounds_toArray, List.set_cons_zero, List.set_cons_succ]
    have N2 := txts_here [m.p] (by intro y hy; simp at hy; subst hy; omega) rfl 1 rfl hHeld.1
    try simp only [World.size_alloc] at N2
    refine wpAnyH_ready (rs := [3, 8]) (by kernel_rfl) (by simp) ?_
    refine AllReadyH.cons (by simp only [List.getElem?_toArray, List.getElem?_cons_succ, List.getElem?_cons_zero]; rfl) (fun K hK => ?_) (AllReadyH.cons (by simp only [List.getElem?_toArray, List.getElem?_cons_succ, List.getElem?_cons_zero]; rfl) (fun K hK => ?_) (AllReadyH.nil))
    · skip
      go_simp
      go_at_call 44
      refine (texts_w N2 p0 R0.out (by omega) (by omega)).mono ?_
      rintro e v13 ⟨rfl, k13⟩
      replace N2 := (N2).below rfl k13
      go_wp2_with fail
      refine hK.out _ _ (⟨bstep hHeld.1 k13, Coder.keepC hHeld.2.1 k13, Coder.keepC hHeld.2.2.1 k13, Coder.keepC hHeld.2.2.2 k13⟩) (fun hHeld => ?_)
      clear hK K k13
      try simp only [Act.put, List.setIfInBounds_toArray, List.set_cons_zero, List.set_cons_succ]
      refine wpAnyH_ready (rs := [8]) (by kernel_rfl) (by simp) ?_
      refine AllReadyH.cons (by simp only [List.getElem?_toArray, List.getElem?_cons_succ, List.getElem?_cons_zero]; rfl) (fun K hK => ?_) AllReadyH.nil
      go_simp
      refine hK.out _ _ (⟨bstep hHeld.1 (balloc (Below.refl _ _) _), Coder.keepC hHeld.2.1 (balloc (Below.refl _ _) _), Coder.keepC hHeld.2.2.1 (balloc (Below.refl _ _) _), Coder.keepC hHeld.2.2.2 (balloc (Below.refl _ _) _)⟩) (fun hHeld => ?_)
      clear hK K
      try simp only [Act.put, List.setIfInBounds_toArray, List.set_cons_zero, List.set_cons_succ]
      replace N2 := txts_move N2 hHeld.1
      have N8 := nats_here [m.a, m.b] (by intro y hy; simp at hy; omega) rfl 2 rfl hHeld.1
      try simp only [World.size_alloc] at N8
      refine wpAnyH_ready (rs := [9]) (by kernel_rfl) (by simp) ?_
      refine AllReadyH.cons (by simp only [List.getElem?_toArray, List.getElem?_cons_succ, List.getElem?_cons_zero]; rfl) (fun K hK => ?_) AllReadyH.nil
      go_simp
      go_at_call 55
      refine (nums_w N8 (by omega) p1 R1.out).mono ?_
      rintro e v14 ⟨rfl, k14⟩
      replace N2 := (N2).below rfl k14
      replace N8 := (N8).below rfl k14
      go_wp2_with fail
      refine hK.out _ _ (⟨bstep hHeld.1 k14, Coder.keepC hHeld.2.1 k14, Coder.keepC hHeld.2.2.1 k14, Coder.keepC hHeld.2.2.2 k14⟩) (fun hHeld => ?_)
      clear hK K k14
      try simp only [Act.put, List.setIfInBounds_toArray, List.set_cons_zero, List.set_cons_succ]
      refine tk 10 ?_
      try simp only [Act.put, List.setIfInBounds_toArray, List.set_cons_zero, List.set_cons_succ]
      refine tk 11 ?_
      try simp only [Act.put, List.setIfInBounds_toArray, List.set_cons_zero, List.set_cons_succ]
      refine wpAnyH_done (by kernel_rfl) ?_ _
      refine NoPanic.normal ?_
      clear hb x0 x1 x2
      obtain ⟨hb, x0, x1, x2⟩ := hHeld
      go_wp2
      go_ret
      exact ⟨by rw [HV.out]; rfl, hb⟩
    · skip
      go_simp
      refine hK.out _ _ (⟨bstep hHeld.1 (balloc (Below.refl _ _) _), Coder.keepC hHeld.2.1 (balloc (Below.refl _ _) _), Coder.keepC hHeld.2.2.1 (balloc (Below.refl _ _) _), Coder.keepC hHeld.2.2.2 (balloc (Below.refl _ _) _)⟩) (fun hHeld => ?_)
      clear hK K
      try simp only [Act.put, List.setIfInBounds_toArray, List.set_cons_zero, List.set_cons_succ]
      replace N2 := txts_move N2 hHeld.1
      have N8 := nats_here [m.a, m.b] (by intro y hy; simp at hy; omega) rfl 2 rfl hHeld.1
      try simp only [World.size_alloc] at N8
      refine wpAnyH_ready (rs := [3]) (by kernel_rfl) (by simp) ?_
      refine AllReadyH.cons (by simp only [List.getElem?_toArray, List.getElem?_cons_succ, List.getElem?_cons_zero]; rfl) (fun K hK => ?_) AllReadyH.nil
      go_simp
      go_at_call 44
      refine (texts_w N2 p0 R0.out (by omega) (by omega)).mono ?_
      rintro e v15 ⟨rfl, k15⟩
      replace N2 := (N2).below rfl k15
      replace N8 := (N8).below rfl k15
      go_wp2_with fail
      refine hK.out _ _ (⟨bstep hHeld.1 k15, Coder.keepC hHeld.2.1 k15, Coder.keepC hHeld.2.2.1 k15, Coder.keepC hHeld.2.2.2 k15⟩) (fun hHeld => ?_)
      clear hK K k15
      try simp only [Act.put, List.setIfInBounds_toArray, List.set_cons_zero, List.set_cons_succ]
      refine wpAnyH_ready (rs := [9]) (by kernel_rfl) (by simp) ?_
      refine AllReadyH.cons (by simp only [List.getElem?_toArray, List.getElem?_cons_succ, List.getElem?_cons_zero]; rfl) (fun K hK => ?_) AllReadyH.nil
      go_simp
      go_at_call 55
      refine (nums_w N8 (by omega) p1 R1.out).mono ?_
      rintro e v16 ⟨rfl, k16⟩
      replace N2 := (N2).below rfl k16
      replace N8 := (N8).below rfl k16
      go_wp2_with fail
      refine hK.out _ _ (⟨bstep hHeld.1 k16, Coder.keepC hHeld.2.1 k16, Coder.keepC hHeld.2.2.1 k16, Coder.keepC hHeld.2.2.2 k16⟩) (fun hHeld => ?_)
      clear hK K k16
      try simp only [Act.put, List.setIfInBounds_toArray, List.set_cons_zero, List.set_cons_succ]
      refine tk 10 ?_
      try simp only [Act.put, List.setIfInBounds_toArray, List.set_cons_zero, List.set_cons_succ]
      refine tk 11 ?_
      try simp only [Act.put, List.setIfInBounds_toArray, List.set_cons_zero, List.set_cons_succ]
      refine wpAnyH_done (by kernel_rfl) ?_ _
      refine NoPanic.normal ?_
      clear hb x0 x1 x2
      obtain ⟨hb, x0, x1, x2⟩ := hHeld
      go_wp2
      go_ret
      exact ⟨by rw [HV.out]; rfl, hb⟩
  · skip
    go_simp
    refine hK.out _ _ (⟨bstep hHeld.1 (balloc (Below.refl _ _) _), Coder.keepC hHeld.2.1 (balloc (Below.refl _ _) _), Coder.keepC hHeld.2.2.1 (balloc (Below.refl _ _) _), Coder.keepC hHeld.2.2.2 (balloc (Below.refl _ _) _)⟩) (fun hHeld => ?_)
    clear hK K
    try simp only [Act.put, List.setIfInBounds_toArray, List.set_cons_zero, List.set_cons_succ]
    have N8 := nats_here [m.a, m.b] (by intro y hy; simp at hy; omega) rfl 2 rfl hHeld.1
    try simp only [World.size_alloc] at N8
    refine wpAnyH_ready (rs := [2]) (by kernel_rfl) (by simp) ?_
    refine AllReadyH.cons (by simp only [List.getElem?_toArray, List.getElem?_cons_succ, List.getElem?_cons_zero]; rfl) (fun K hK => ?_) AllReadyH.nil
    go_simp
    refine hK.out _ _ (⟨bstep hHeld.1 (balloc (Below.refl _ _) _), Coder.keepC hHeld.2.1 (balloc (Below.refl _ _) _), Coder.keepC hHeld.2.2.1 (balloc (Below.refl _ _) _), Coder.keepC hHeld.2.2.2 (balloc (Below.refl _ _) _)⟩) (fun hHeld => ?_)
    clear hK K
    try simp only [Act.put, List.setIfInBounds_toArray, List.set_cons_zero, List.set_cons_succ]
    replace N8 := nats_move N8 hHeld.1
    have N2 := txts_here [m.p] (by intro y hy; simp at hy; subst hy; omega) rfl 1 rfl hHeld.1
    try simp only [World.size_alloc] at N2
    refine wpAnyH_ready (rs := [3]) (by kernel_rfl) (by simp) ?_
    refine AllReadyH.cons (by simp only [List.getElem?_toArray, List.getElem?_cons_succ, List.getElem?_cons_zero]; rfl) (fun K hK => ?_) AllReadyH.nil
    go_simp
    go_at_call 44
    refine (texts_w N2 p0 R0.out (by omega) (by omega)).mono ?_
    rintro e v17 ⟨rfl, k17⟩
    replace N8 := (N8).below rfl k17
    replace N2 := (N2).below rfl k17
    go_wp2_with fail
    refine hK.out _ _ (⟨bstep hHeld.1 k17, Coder.keepC hHeld.2.1 k17, Coder.keepC hHeld.2.2.1 k17, Coder.keepC hHeld.2.2.2 k17⟩) (fun hHeld => ?_)
    clear hK K k17
    try simp only [Act.put, List.setIfInBounds_toArray, List.set_cons_zero, List.set_cons_succ]
    refine wpAnyH_ready (rs := [9]) (by kernel_rfl) (by simp) ?_
    refine AllReadyH.cons (by simp only [List.getElem?_toArray, List.getElem?_cons_succ, List.getElem?_cons_zero]; rfl) (fun K hK => ?_) AllReadyH.nil
    go_simp
    go_at_call 55
    refine (nums_w N8 (by omega) p1 R1.out).mono ?_
    rintro e v18 ⟨rfl, k18⟩
    replace N8 := (N8).below rfl k18
    replace N2 := (N2).below rfl k18
    go_wp2_with fail
    refine hK.out _ _ (⟨bstep hHeld.1 k18, Coder.keepC hHeld.2.1 k18, Coder.keepC hHeld.2.2.1 k18, Coder.keepC hHeld.2.2.2 k18⟩) (fun hHeld => ?_)
    clear hK K k18
    try simp only [Act.put, List.setIfInBounds_toArray, List.set_cons_zero, List.set_cons_succ]
    refine tk 10 ?_
    try simp only [Act.put, List.setIfInBounds_toArray, List.set_cons_zero, List.set_cons_succ]
    refine tk 11 ?_
    try simp only [Act.put, List.setIfInBounds_toArray, List.set_cons_zero, List.set_cons_succ]
    refine wpAnyH_done (by kernel_rfl) ?_ _
    refine NoPanic.normal ?_
    clear hb x0 x1 x2
    obtain ⟨hb, x0, x1, x2⟩ := hHeld
    go_wp2
    go_ret
    exact ⟨by rw [HV.out]; rfl, hb⟩
set_option maxRecDepth 100000 in
set_option maxHeartbeats 4000000 in
theorem cell_any (m : Cl) (w : World) (hp : m.t.length ≤ 1048576) (hn : m.s ≤ 18446744073709551615) :
    Calls Tryz.prog 51 #[.agg #[.int .u64 (m.s : Int), .string ⟨m.t.toArray⟩, .bool m.g]] w fun e w' => e = .returned (.string ⟨(cl m).toArray⟩) ∧ Below w.heap.size w w' := by
  have hb := Below.refl w.heap.size w
  obtain ⟨p0, hp0⟩ : ∃ p, p = upL m.s := ⟨_, rfl⟩
  have b0 : p0.length ≤ 1048586 := by rw [hp0]; have := up_len m.s; omega
  have R0 : Hid (cat [m.s] = p0) := Lib.hid (by rw [hp0]; simp [cat])
  have z0 := Str.size_mk p0
  obtain ⟨p1, hp1⟩ : ∃ p, p = tx m.t := ⟨_, rfl⟩
  have b1 : p1.length ≤ 1048586 := by rw [hp1]; have := tx_len m.t; omega
  have R1 : Hid ([m.t].flatMap tx = p1) := Lib.hid (by rw [hp1]; simp)
  have z1 := Str.size_mk p1
  obtain ⟨C1, hC1⟩ : ∃ p, p = p0 ++ p1 := ⟨_, rfl⟩
  have lC1 : C1.length = p0.length + p1.length := by rw [hC1, List.length_append]
  have aC1 : (({ data := p0.toArray } : ByteArray)) ++ { data := p1.toArray } = { data := C1.toArray } := by rw [hC1]; exact Str.mk_append_mk p0 p1
  have zC1 := Str.size_mk C1
  have nC1 : ¬ (9223372036854775807 < p0.length + p1.length) := by omega
  have mC1 : ¬ (p0.length + p1.length > 9223372036854775807) := by omega
  obtain ⟨p2, hp2⟩ : ∃ p, p = tb m.g := ⟨_, rfl⟩
  have b2 : p2.length ≤ 1048586 := by rw [hp2]; simp [tb]
  have R2 : Hid (tb m.g = p2) := Lib.hid hp2.symm
  have z2 := Str.size_mk p2
  obtain ⟨C2, hC2⟩ : ∃ p, p = C1 ++ p2 := ⟨_, rfl⟩
  have lC2 : C2.length = C1.length + p2.length := by rw [hC2, List.length_append]
  have aC2 : (({ data := C1.toArray } : ByteArray)) ++ { data := p2.toArray } = { data := C2.toArray } := by rw [hC2]; exact Str.mk_append_mk C1 p2
  have zC2 := Str.size_mk C2
  have nC2 : ¬ (9223372036854775807 < C1.length + p2.length) := by omega
  have mC2 : ¬ (C1.length + p2.length > 9223372036854775807) := by omega
  have HV : Hid (cl m = C2) := Lib.hid (by rw [hC2]; rw [hC1]; rw [hp0]; rw [hp1]; rw [hp2]; rfl)
  have X0 := Lib.hid (box_cells w #[.int .u64 (m.s : Int), .string ⟨m.t.toArray⟩, .bool m.g] 27 0 (.int .u64 (m.s : Int)) rfl)
  have X1 := Lib.hid (box_cells w #[.int .u64 (m.s : Int), .string ⟨m.t.toArray⟩, .bool m.g] 27 1 (.string ⟨m.t.toArray⟩) rfl)
  have X2 := Lib.hid (box_cells w #[.int .u64 (m.s : Int), .string ⟨m.t.toArray⟩, .bool m.g] 27 2 (.bool m.g) rfl)
  clear hp0
  clear hp1
  clear hp2
  replace hC1 := Lib.hid hC1
  replace lC1 := Lib.hid lC1
  replace hC2 := Lib.hid hC2
  replace lC2 := Lib.hid lC2
  go_enter Tryz.func51, Tryz.ntmps51
  go_wp2_with fail
  replace hb := bstep hb (balloc (Below.refl _ _) (.cells #[.int .u64 (m.s : Int), .string ⟨m.t.toArray⟩, .bool m.g] 27))
  have x0 := X0.out
  have x1 := X1.out
  have x2 := X2.out
  clear X0 X1 X2
  refine wp_region_noPanic ?_
  refine wp_region_held_drew (S := (fun w' => Below w.heap.size w w' ∧ w'.cell? ⟨w.heap.size, 0, none⟩ = some (.int .u64 (m.s : Int)) ∧ w'.cell? ⟨w.heap.size, 1, none⟩ = some (.string ⟨m.t.toArray⟩) ∧ w'.cell? ⟨w.heap.size, 2, none⟩ = some (.bool m.g))) (by kernel_rfl) (⟨Below.drew hb, Coder.keepC x0 (Below.drew (Below.refl _ _)), Coder.keepC x1 (Below.drew (Below.refl _ _)), Coder.keepC x2 (Below.drew (Below.refl _ _))⟩) (fun hHeld => ?_)
  revert hHeld
  generalize World.drew _ = wd
  intro hHeld
  refine tk 0 ?_
  try simp only [Act.put, List.setIfInBounds_toArray, List.set_cons_zero, List.set_cons_succ]
  refine tk 1 ?_
  try simp only [Act.put, List.setIfInBounds_toArray, List.set_cons_zero, List.set_cons_succ]
  refine tk 4 ?_
  try simp only [Act.put, List.setIfInBounds_toArray, List.set_cons_zero, List.set_cons_succ]
  refine tk 5 ?_
  try simp only [Act.put, List.setIfInBounds_toArray, List.set_cons_zero, List.set_cons_succ]
  refine tk 9 ?_
  try simp only [Act.put, List.setIfInBounds_toArray, List.set_cons_zero, List.set_cons_succ]
  refine tk 10 ?_
  try simp only [Act.put, List.setIfInBounds_toArray, List.set_cons_zero, List.set_cons_succ]
  refine wpAnyH_ready (rs := [2, 6]) (by kernel_rfl) (by simp) ?_
  refine AllReadyH.cons (by simp only [List.getElem?_toArray, List.getElem?_cons_succ, List.getElem?_cons_zero]; rfl) (fun K hK => ?_) (AllReadyH.cons (by simp only [List.getElem?_toArray, List.getElem?_cons_succ, List.getElem?_cons_zero]; rfl) (fun K hK => ?_) (AllReadyH.nil))
  · skip
    go_simp
    refine hK.out _ _ (⟨bstep hHeld.1 (balloc (Below.refl _ _) _), Coder.keepC hHeld.2.1 (balloc (Below.refl _ _) _), Coder.keepC hHeld.2.2.1 (balloc (Below.refl _ _) _), Coder.keepC hHeld.2.2.2 (balloc (Below.refl _ _) _)⟩) (fun hHeld => ?_)
    clear hK K
    try simp only [Act.put, List.setIfInBounds_toArray, List.set_cons_zero, List.set_cons_succ]
    have N2 := nats_here [m.s] (by intro y hy; simp at hy; omega) rfl 1 rfl hHeld.1
    try simp only [World.size_alloc] at N2
    refine wpAnyH_ready (rs := [3, 6]) (by kernel_rfl) (by simp) ?_
    refine AllReadyH.cons (by simp only [List.getElem?_toArray, List.getElem?_cons_succ, List.getElem?_cons_zero]; rfl) (fun K hK => ?_) (AllReadyH.cons (by simp only [List.getElem?_toArray, List.getElem?_cons_succ, List.getElem?_cons_zero]; rfl) (fun K hK => ?_) (AllReadyH.nil))
    · skip
      go_simp
      go_at_call 55
      refine (nums_w N2 (by omega) p0 R0.out).mono ?_
      rintro e v19 ⟨rfl, k19⟩
      replace N2 := (N2).below rfl k19
      go_wp2_with fail
      refine hK.out _ _ (⟨bstep hHeld.1 k19, Coder.keepC hHeld.2.1 k19, Coder.keepC hHeld.2.2.1 k19, Coder.keepC hHeld.2.2.2 k19⟩) (fun hHeld => ?_)
      clear hK K k19
      try simp only [Act.put, List.setIfInBounds_toArray, List.set_cons_zero, List.set_cons_succ]
      refine wpAnyH_ready (rs := [6]) (by kernel_rfl) (by simp) ?_
      refine AllReadyH.cons (by simp only [List.getElem?_toArray, List.getElem?_cons_succ, List.getElem?_cons_zero]; rfl) (fun K hK => ?_) AllReadyH.nil
      go_simp
      refine hK.out _ _ (⟨bstep hHeld.1 (balloc (Below.refl _ _) _), Coder.keepC hHeld.2.1 (balloc (Below.refl _ _) _), Coder.keepC hHeld.2.2.1 (balloc (Below.refl _ _) _), Coder.keepC hHeld.2.2.2 (balloc (Below.refl _ _) _)⟩) (fun hHeld => ?_)
      clear hK K
      try simp only [Act.put, List.setIfInBounds_toArray, List.set_cons_zero, List.set_cons_succ]
      replace N2 := nats_move N2 hHeld.1
      have N6 := txts_here [m.t] (by intro y hy; simp at hy; subst hy; omega) rfl 1 rfl hHeld.1
      try simp only [World.size_alloc] at N6
      refine wpAnyH_ready (rs := [7]) (by kernel_rfl) (by simp) ?_
      refine AllReadyH.cons (by simp only [List.getElem?_toArray, List.getElem?_cons_succ, List.getElem?_cons_zero]; rfl) (fun K hK => ?_) AllReadyH.nil
      go_simp
      go_at_call 44
      refine (texts_w N6 p1 R1.out (by omega) (by omega)).mono ?_
      rintro e v20 ⟨rfl, k20⟩
      replace N2 := (N2).below rfl k20
      replace N6 := (N6).below rfl k20
      go_wp2_with fail
      refine hK.out _ _ (⟨bstep hHeld.1 k20, Coder.keepC hHeld.2.1 k20, Coder.keepC hHeld.2.2.1 k20, Coder.keepC hHeld.2.2.2 k20⟩) (fun hHeld => ?_)
      clear hK K k20
      try simp only [Act.put, List.setIfInBounds_toArray, List.set_cons_zero, List.set_cons_succ]
      refine tk 8 ?_
      try simp only [Act.put, List.setIfInBounds_toArray, List.set_cons_zero, List.set_cons_succ]
      refine wpAnyH_ready (rs := [11]) (by kernel_rfl) (by simp) ?_
      refine AllReadyH.cons (by simp only [List.getElem?_toArray, List.getElem?_cons_succ, List.getElem?_cons_zero]; rfl) (fun K hK => ?_) AllReadyH.nil
      go_simp
      go_at_call 82
      refine (bool_wb m.g p2 R2.out _).mono ?_
      rintro e v21 ⟨rfl, k21⟩
      replace N2 := (N2).below rfl k21
      replace N6 := (N6).below rfl k21
      go_wp2_with fail
      refine hK.out _ _ (⟨bstep hHeld.1 k21, Coder.keepC hHeld.2.1 k21, Coder.keepC hHeld.2.2.1 k21, Coder.keepC hHeld.2.2.2 k21⟩) (fun hHeld => ?_)
      clear hK K k21
      try simp only [Act.put, List.setIfInBounds_toArray, List.set_cons_zero, List.set_cons_succ]
      refine tk 12 ?_
      try simp only [Act.put, List.setIfInBounds_toArray, List.set_cons_zero, List.set_cons_succ]
      refine tk 13 ?_
      try simp only [Act.put, List.setIfInBounds_toArray, List.set_cons_zero, List.set_cons_succ]
      refine wpAnyH_done (by kernel_rfl) ?_ _
      refine NoPanic.normal ?_
      clear hb x0 x1 x2
      obtain ⟨hb, x0, x1, x2⟩ := hHeld
      go_wp2
      go_ret
      exact ⟨by rw [HV.out]; rfl, hb⟩
    · skip
      go_simp
      refine hK.out _ _ (⟨bstep hHeld.1 (balloc (Below.refl _ _) _), Coder.keepC hHeld.2.1 (balloc (Below.refl _ _) _), Coder.keepC hHeld.2.2.1 (balloc (Below.refl _ _) _), Coder.keepC hHeld.2.2.2 (balloc (Below.refl _ _) _)⟩) (fun hHeld => ?_)
      clear hK K
      try simp only [Act.put, List.setIfInBounds_toArray, List.set_cons_zero, List.set_cons_succ]
      replace N2 := nats_move N2 hHeld.1
      have N6 := txts_here [m.t] (by intro y hy; simp at hy; subst hy; omega) rfl 1 rfl hHeld.1
      try simp only [World.size_alloc] at N6
      refine wpAnyH_ready (rs := [3]) (by kernel_rfl) (by simp) ?_
      refine AllReadyH.cons (by simp only [List.getElem?_toArray, List.getElem?_cons_succ, List.getElem?_cons_zero]; rfl) (fun K hK => ?_) AllReadyH.nil
      go_simp
      go_at_call 55
      refine (nums_w N2 (by omega) p0 R0.out).mono ?_
      rintro e v22 ⟨rfl, k22⟩
      replace N2 := (N2).below rfl k22
      replace N6 := (N6).below rfl k22
      go_wp2_with fail
      refine hK.out _ _ (⟨bstep hHeld.1 k22, Coder.keepC hHeld.2.1 k22, Coder.keepC hHeld.2.2.1 k22, Coder.keepC hHeld.2.2.2 k22⟩) (fun hHeld => ?_)
      clear hK K k22
      try simp only [Act.put, List.setIfInBounds_toArray, List.set_cons_zero, List.set_cons_succ]
      refine wpAnyH_ready (rs := [7]) (by kernel_rfl) (by simp) ?_
      refine AllReadyH.cons (by simp only [List.getElem?_toArray, List.getElem?_cons_succ, List.getElem?_cons_zero]; rfl) (fun K hK => ?_) AllReadyH.nil
      go_simp
      go_at_call 44
      refine (texts_w N6 p1 R1.out (by omega) (by omega)).mono ?_
      rintro e v23 ⟨rfl, k23⟩
      replace N2 := (N2).below rfl k23
      replace N6 := (N6).below rfl k23
      go_wp2_with fail
      refine hK.out _ _ (⟨bstep hHeld.1 k23, Coder.keepC hHeld.2.1 k23, Coder.keepC hHeld.2.2.1 k23, Coder.keepC hHeld.2.2.2 k23⟩) (fun hHeld => ?_)
      clear hK K k23
      try simp only [Act.put, List.setIfInBounds_toArray, List.set_cons_zero, List.set_cons_succ]
      refine tk 8 ?_
      try simp only [Act.put, List.setIfInBounds_toArray, List.set_cons_zero, List.set_cons_succ]
      refine wpAnyH_ready (rs := [11]) (by kernel_rfl) (by simp) ?_
      refine AllReadyH.cons (by simp only [List.getElem?_toArray, List.getElem?_cons_succ, List.getElem?_cons_zero]; rfl) (fun K hK => ?_) AllReadyH.nil
      go_simp
      go_at_call 82
      refine (bool_wb m.g p2 R2.out _).mono ?_
      rintro e v24 ⟨rfl, k24⟩
      replace N2 := (N2).below rfl k24
      replace N6 := (N6).below rfl k24
      go_wp2_with fail
      refine hK.out _ _ (⟨bstep hHeld.1 k24, Coder.keepC hHeld.2.1 k24, Coder.keepC hHeld.2.2.1 k24, Coder.keepC hHeld.2.2.2 k24⟩) (fun hHeld => ?_)
      clear hK K k24
      try simp only [Act.put, List.setIfInBounds_toArray, List.set_cons_zero, List.set_cons_succ]
      refine tk 12 ?_
      try simp only [Act.put, List.setIfInBounds_toArray, List.set_cons_zero, List.set_cons_succ]
      refine tk 13 ?_
      try simp only [Act.put, List.setIfInBounds_toArray, List.set_cons_zero, List.set_cons_succ]
      refine wpAnyH_done (by kernel_rfl) ?_ _
      refine NoPanic.normal ?_
      clear hb x0 x1 x2
      obtain ⟨hb, x0, x1, x2⟩ := hHeld
      go_wp2
      go_ret
      exact ⟨by rw [HV.out]; rfl, hb⟩
  · skip
    go_simp
    refine hK.out _ _ (⟨bstep hHeld.1 (balloc (Below.refl _ _) _), Coder.keepC hHeld.2.1 (balloc (Below.refl _ _) _), Coder.keepC hHeld.2.2.1 (balloc (Below.refl _ _) _), Coder.keepC hHeld.2.2.2 (balloc (Below.refl _ _) _)⟩) (fun hHeld => ?_)
    clear hK K
    try simp only [Act.put, List.setIfInBounds_toArray, List.set_cons_zero, List.set_cons_succ]
    have N6 := txts_here [m.t] (by intro y hy; simp at hy; subst hy; omega) rfl 1 rfl hHeld.1
    try simp only [World.size_alloc] at N6
    refine wpAnyH_ready (rs := [2]) (by kernel_rfl) (by simp) ?_
    refine AllReadyH.cons (by simp only [List.getElem?_toArray, List.getElem?_cons_succ, List.getElem?_cons_zero]; rfl) (fun K hK => ?_) AllReadyH.nil
    go_simp
    refine hK.out _ _ (⟨bstep hHeld.1 (balloc (Below.refl _ _) _), Coder.keepC hHeld.2.1 (balloc (Below.refl _ _) _), Coder.keepC hHeld.2.2.1 (balloc (Below.refl _ _) _), Coder.keepC hHeld.2.2.2 (balloc (Below.refl _ _) _)⟩) (fun hHeld => ?_)
    clear hK K
    try simp only [Act.put, List.setIfInBounds_toArray, List.set_cons_zero, List.set_cons_succ]
    replace N6 := txts_move N6 hHeld.1
    have N2 := nats_here [m.s] (by intro y hy; simp at hy; omega) rfl 1 rfl hHeld.1
    try simp only [World.size_alloc] at N2
    refine wpAnyH_ready (rs := [3]) (by kernel_rfl) (by simp) ?_
    refine AllReadyH.cons (by simp only [List.getElem?_toArray, List.getElem?_cons_succ, List.getElem?_cons_zero]; rfl) (fun K hK => ?_) AllReadyH.nil
    go_simp
    go_at_call 55
    refine (nums_w N2 (by omega) p0 R0.out).mono ?_
    rintro e v25 ⟨rfl, k25⟩
    replace N6 := (N6).below rfl k25
    replace N2 := (N2).below rfl k25
    go_wp2_with fail
    refine hK.out _ _ (⟨bstep hHeld.1 k25, Coder.keepC hHeld.2.1 k25, Coder.keepC hHeld.2.2.1 k25, Coder.keepC hHeld.2.2.2 k25⟩) (fun hHeld => ?_)
    clear hK K k25
    try simp only [Act.put, List.setIfInBounds_toArray, List.set_cons_zero, List.set_cons_succ]
    refine wpAnyH_ready (rs := [7]) (by kernel_rfl) (by simp) ?_
    refine AllReadyH.cons (by simp only [List.getElem?_toArray, List.getElem?_cons_succ, List.getElem?_cons_zero]; rfl) (fun K hK => ?_) AllReadyH.nil
    go_simp
    go_at_call 44
    refine (texts_w N6 p1 R1.out (by omega) (by omega)).mono ?_
    rintro e v26 ⟨rfl, k26⟩
    replace N6 := (N6).below rfl k26
    replace N2 := (N2).below rfl k26
    go_wp2_with fail
    refine hK.out _ _ (⟨bstep hHeld.1 k26, Coder.keepC hHeld.2.1 k26, Coder.keepC hHeld.2.2.1 k26, Coder.keepC hHeld.2.2.2 k26⟩) (fun hHeld => ?_)
    clear hK K k26
    try simp only [Act.put, List.setIfInBounds_toArray, List.set_cons_zero, List.set_cons_succ]
    refine tk 8 ?_
    try simp only [Act.put, List.setIfInBounds_toArray, List.set_cons_zero, List.set_cons_succ]
    refine wpAnyH_ready (rs := [11]) (by kernel_rfl) (by simp) ?_
    refine AllReadyH.cons (by simp only [List.getElem?_toArray, List.getElem?_cons_succ, List.getElem?_cons_zero]; rfl) (fun K hK => ?_) AllReadyH.nil
    go_simp
    go_at_call 82
    refine (bool_wb m.g p2 R2.out _).mono ?_
    rintro e v27 ⟨rfl, k27⟩
    replace N6 := (N6).below rfl k27
    replace N2 := (N2).below rfl k27
    go_wp2_with fail
    refine hK.out _ _ (⟨bstep hHeld.1 k27, Coder.keepC hHeld.2.1 k27, Coder.keepC hHeld.2.2.1 k27, Coder.keepC hHeld.2.2.2 k27⟩) (fun hHeld => ?_)
    clear hK K k27
    try simp only [Act.put, List.setIfInBounds_toArray, List.set_cons_zero, List.set_cons_succ]
    refine tk 12 ?_
    try simp only [Act.put, List.setIfInBounds_toArray, List.set_cons_zero, List.set_cons_succ]
    refine tk 13 ?_
    try simp only [Act.put, List.setIfInBounds_toArray, List.set_cons_zero, List.set_cons_succ]
    refine wpAnyH_done (by kernel_rfl) ?_ _
    refine NoPanic.normal ?_
    clear hb x0 x1 x2
    obtain ⟨hb, x0, x1, x2⟩ := hHeld
    go_wp2
    go_ret
    exact ⟨by rw [HV.out]; rfl, hb⟩
end Coder
end Go.Proofs.YtnpjkmomllkhpaaGreat
