
/- the reference's sha: a block. -/
import Derived.Test.YtibdpjhiblhnmaaDoorShaState
import Derived.Test.YtibdpjhiblhnmaaDoorOnes
import Derived.BigQuiet
import Derived.StillTailTactics
import Derived.LoopTactic
import Derived.Deep.RegionHeld3
namespace Go.Proofs.YtibdpjhiblhnmaaDoor
namespace RefSha
open Go.RowKit Sha
theorem typ32 : Row.Typ Tryd.prog (Ones.enc .u32) 41 47 (.int .u32 0) 4 := Ones.typ_of Tryd.underlying41 (by kernel_rfl) (by decide)
theorem typ64 : Row.Typ Tryd.prog (Ones.enc .u64) 58 52 (.int .u64 0) 8 := Ones.typ_of Tryd.underlying58 (by kernel_rfl) (by decide)
theorem typ8 : Row.Typ Tryd.prog (Ones.enc .u8) 44 5 (.int .u8 0) 1 := Ones.typ_of Tryd.underlying44 (by kernel_rfl) (by decide)
abbrev Own32 := Row.Own (Ones.enc .u32) 47
abbrev Lies32 := Row.Lies (Ones.enc .u32)
theorem keepC {w w' : World} {p : Addr} {v : Value} (h : w.cell? p = some v) (k : Below w.heap.size w w') : w'.cell? p = some v := (k.cell (World.block_lt_of_cell? _ _ h)).trans h
theorem keepC0 {w w' : World} {p : Addr} {v : Value} (h : w.cell? p = some v) (k : Below w.heap.size w w') : w'.cell? p = some v := keepC h k
theorem new_lies {k : IntKind} (w : World) (x : Int) (T : TypeId) : Row.Lies (Ones.enc k) (w.alloc (.cells #[.int k x] T)).drew (some ⟨w.heap.size, 0, none⟩) 1 [x] := Row.Lies.below (Row.lies_new (E := Ones.enc k) w x T) (Below.drew (Below.refl _ _))
theorem own_new (W : World) (B : Nat) (hB : B ≤ W.heap.size) (l : List Int) (n : Nat) (hn : n = l.length) (hm : n ≤ maxLen) :
    Own32 (W.alloc (.cells (l.map (fun x => .int .u32 x)).toArray 47)) B (.slice (some ⟨W.heap.size, 0, none⟩) n n) l := by
  refine Row.own_of hB (heap_alloc_new W _) hn (by omega) hm (by simp [Ones.enc, hn]) ?_
  rw [List.toList_toArray, Ones.flat_map, List.take_of_length_le (by simp [Ones.enc])]
theorem right_quiet (n x : Int) (hn : n ∈ turns) (w : World) :
    Calls Tryd.prog 29 #[.int .u32 x, .int .u64 n] w fun e w' => e = .returned (.int .u32 (rr n x)) ∧ w' = w := (ref_right_any n x hn w).mono fun _ _ h => ⟨h.1, h.2.symm⟩
set_option maxRecDepth 100000 in
set_option maxHeartbeats 4000000 in
theorem block_any (ah ak : Option Addr) (ch ck bb bo bc : Nat) (s : St) (K : List Int) (bk : List UInt8) (w : World) (hh : Lies32 w ah 8 s.list) (hk : Lies32 w ak 64 K)
    (hb : ∀ i, i < 64 → w.cell? ⟨bb, bo + i, none⟩ = some (.int .u8 ((bk.getD i 0).toNat : Int))) :
    Calls Tryd.prog 19 #[.slice ah 8 ch, .slice ak 64 ck, .slice (some ⟨bb, bo, none⟩) 64 bc] w fun e w' => ∃ v, e = .returned v ∧ Own32 w' w.heap.size v (block K s bk).list ∧ Below w.heap.size w w' := by
  have h0 := Below.refl w.heap.size w
  have HH := Lib.hid hh
  have HK := Lib.hid hk
  have HB := Lib.hid hb
  clear hh hk hb
  go_enter Tryd.func19, Tryd.ntmps19
  go_wp2_with fail
  go_loopw [7, 8] (fun v i wx => ∃ (k : Nat) (x : Value), k ≤ 16 ∧ x = v ∧ i = .int .i64 (k : Int) ∧ Below w.heap.size w wx ∧ Hid (Own32 wx w.heap.size x (words bk k))) (fun _ i _ => 16 - (intOf i).toNat)
  case atStart => exact ⟨0, _, by omega, rfl, rfl, h0, Lib.hid (Row.Own.nil _ _)⟩
  case round =>
    obtain ⟨k, v, hk, rfl, rfl, hb, HO⟩ := hrel
    by_cases hlt : k < 16
    · have hd : decide ((k : Int) < 16) = true := decide_eq_true (by omega)
      have c0 := HB.out (4 * k) (by omega)
      have c1 := HB.out (4 * k + 1) (by omega)
      have c2 := HB.out (4 * k + 2) (by omega)
      have c3 := HB.out (4 * k + 3) (by omega)
      have hlb := World.block_lt_of_cell? _ _ c0
      replace c0 := (hb.cell (p := ⟨bb, bo + 4 * k, none⟩) hlb).trans c0
      replace c1 := (hb.cell (p := ⟨bb, bo + (4 * k + 1), none⟩) hlb).trans c1
      replace c2 := (hb.cell (p := ⟨bb, bo + (4 * k + 2), none⟩) hlb).trans c2
      replace c3 := (hb.cell (p := ⟨bb, bo + (4 * k + 3), none⟩) hlb).trans c3
      have hw : Hid (word bk k = be4 (bk.getD (4 * k) 0) (bk.getD (4 * k + 1) 0) (bk.getD (4 * k + 2) 0) (bk.getD (4 * k + 3) 0)) := Lib.hid rfl
      generalize bk.getD (4 * k) 0 = x0 at c0 hw
      generalize bk.getD (4 * k + 1) 0 = x1 at c1 hw
      generalize bk.getD (4 * k + 2) 0 = x2 at c2 hw
      generalize bk.getD (4 * k + 3) 0 = x3 at c3 hw
      have y0 := x0.toNat_lt
      have y1 := x1.toNat_lt
      have y2 := x2.toNat_lt
      have y3 := x3.toNat_lt
      have h0k : (0 : Int) ≤ (k : Int) := by omega
      have n0 : 4 * (k : Int) < 64 := by omega
      have n1 : 4 * (k : Int) + 1 < 64 := by omega
      have n2 : 4 * (k : Int) + 2 < 64 := by omega
      have n3 : 4 * (k : Int) + 3 < 64 := by omega
      have v0 : IntKind.i64.wrap (4 * (k : Int)) = 4 * (k : Int) := by rw [IntKind.wrap_i64]; omega
      have v1 : IntKind.i64.wrap (4 * (k : Int) + 1) = 4 * (k : Int) + 1 := by rw [IntKind.wrap_i64]; omega
      have v2 : IntKind.i64.wrap (4 * (k : Int) + 2) = 4 * (k : Int) + 2 := by rw [IntKind.wrap_i64]; omega
      have v3 : IntKind.i64.wrap (4 * (k : Int) + 3) = 4 * (k : Int) + 3 := by rw [IntKind.wrap_i64]; omega
      have p0 : (0 : Int) ≤ 4 * (k : Int) := by omega
      have p1 : (0 : Int) ≤ 4 * (k : Int) + 1 := by omega
      have p2 : (0 : Int) ≤ 4 * (k : Int) + 2 := by omega
      have p3 : (0 : Int) ≤ 4 * (k : Int) + 3 := by omega
      have t0 : (4 * (k : Int)).toNat = 4 * k := by omega
      have t1 : (4 * (k : Int) + 1).toNat = 4 * k + 1 := by omega
      have t2 : (4 * (k : Int) + 2).toNat = 4 * k + 2 := by omega
      have t3 : (4 * (k : Int) + 3).toNat = 4 * k + 3 := by omega
      have z0 : IntKind.u32.wrap (x0.toNat : Int) = (x0.toNat : Int) := by rw [IntKind.wrap_u32]; omega
      have z1 : IntKind.u32.wrap (x1.toNat : Int) = (x1.toNat : Int) := by rw [IntKind.wrap_u32]; omega
      have z2 : IntKind.u32.wrap (x2.toNat : Int) = (x2.toNat : Int) := by rw [IntKind.wrap_u32]; omega
      have z3 : IntKind.u32.wrap (x3.toNat : Int) = (x3.toNat : Int) := by rw [IntKind.wrap_u32]; omega
      have q0 : IntKind.u32.wrap ((x0.toNat : Int) * 16777216) = (x0.toNat : Int) * 16777216 := by rw [IntKind.wrap_u32]; omega
      have q1 : IntKind.u32.wrap ((x1.toNat : Int) * 65536) = (x1.toNat : Int) * 65536 := by rw [IntKind.wrap_u32]; omega
      have q2 : IntKind.u32.wrap ((x2.toNat : Int) * 256) = (x2.toNat : Int) * 256 := by rw [IntKind.wrap_u32]; omega
      have hb4 : Hid (be4 x0 x1 x2 x3 = bits .or .u32 (bits .or .u32 (bits .or .u32 ((x0.toNat : Int) * 16777216) ((x1.toNat : Int) * 65536)) ((x2.toNat : Int) * 256)) (x3.toNat : Int)) := Lib.hid rfl
      go_wp2_with fail
      have HO2 := Lib.hid (HO.out.drew)
      refine wp_region_noPanic ?_
      refine wp_region_held_drew (S := (fun w' => Below w.heap.size w w' ∧ w'.cell? ⟨bb, bo + 4 * k, none⟩ = some (.int .u8 (x0.toNat : Int)) ∧ w'.cell? ⟨bb, bo + (4 * k + 1), none⟩ = some (.int .u8 (x1.toNat : Int)) ∧ w'.cell? ⟨bb, bo + (4 * k + 2), none⟩ = some (.int .u8 (x2.toNat : Int)) ∧ w'.cell? ⟨bb, bo + (4 * k + 3), none⟩ = some (.int .u8 (x3.toNat : Int)))) (by kernel_rfl) (⟨Below.drew hb, c0, c1, c2, c3⟩) (fun hHeld => ?_)
      refine wpAnyH_take (i := 0) (v := ?_) (by simp only [List.getElem?_toArray, List.getElem?_cons_zero]; rfl) (by kernel_rfl) (by kernel_rfl) (by kernel_rfl) (fun _ _ _ h => h) (Or.inl ⟨by rfl, ?_⟩) (by assumption) ?_
      rotate_left
      · (intro w hSw; (try dsimp only at hSw); go_simp; try with_reducible rfl)
      try simp only [Act.put, List.setIfInBounds_toArray, List.set_cons_zero, List.set_cons_succ]
      refine wpAnyH_take (i := 1) (v := ?_) (by simp only [List.getElem?_toArray, List.getElem?_cons_succ, List.getElem?_cons_zero]; rfl) (by kernel_rfl) (by kernel_rfl) (by kernel_rfl) (fun _ _ _ h => h) (Or.inl ⟨by rfl, ?_⟩) (by assumption) ?_
      rotate_left
      · (intro w hSw; (try dsimp only at hSw); go_simp; try with_reducible rfl)
      try simp only [Act.put, List.setIfInBounds_toArray, List.set_cons_zero, List.set_cons_succ]
      refine wpAnyH_take (i := 2) (v := ?_) (by simp only [List.getElem?_toArray, List.getElem?_cons_succ, List.getElem?_cons_zero]; rfl) (by kernel_rfl) (by kernel_rfl) (by kernel_rfl) (fun _ _ _ h => h) (Or.inl ⟨by rfl, ?_⟩) (by assumption) ?_
      rotate_left
      · (intro w hSw; (try dsimp only at hSw); go_simp; try with_reducible rfl)
      try simp only [Act.put, List.setIfInBounds_toArray, List.set_cons_zero, List.set_cons_succ]
      refine wpAnyH_take (i := 3) (v := ?_) (by simp only [List.getElem?_toArray, List.getElem?_cons_succ, List.getElem?_cons_zero]; rfl) (by kernel_rfl) (by kernel_rfl) (by kernel_rfl) (fun _ _ _ h => h) (Or.inl ⟨by rfl, ?_⟩) (by assumption) ?_
      rotate_left
      · (intro w hSw; (try dsimp only at hSw); go_simp; try with_reducible rfl)
      try simp only [Act.put, List.setIfInBounds_toArray, List.set_cons_zero, List.set_cons_succ]
      refine wpAnyH_take (i := 4) (v := ?_) (by simp only [List.getElem?_toArray, List.getElem?_cons_succ, List.getElem?_cons_zero]; rfl) (by kernel_rfl) (by kernel_rfl) (by kernel_rfl) (fun _ _ _ h => h) (Or.inl ⟨by rfl, ?_⟩) (by assumption) ?_
      rotate_left
      · (intro w hSw; (try dsimp only at hSw); go_simp; try with_reducible rfl)
      try simp only [Act.put, List.setIfInBounds_toArray, List.set_cons_zero, List.set_cons_succ]
      refine wpAnyH_take (i := 5) (v := ?_) (by simp only [List.getElem?_toArray, List.getElem?_cons_succ, List.getElem?_cons_zero]; rfl) (by kernel_rfl) (by kernel_rfl) (by kernel_rfl) (fun _ _ _ h => h) (Or.inl ⟨by rfl, ?_⟩) (by assumption) ?_
      rotate_left
      · (intro w hSw; (try dsimp only at hSw); go_simp; try with_reducible rfl)
      try simp only [Act.put, List.setIfInBounds_toArray, List.set_cons_zero, List.set_cons_succ]
      refine wpAnyH_take (i := 6) (v := ?_) (by simp only [List.getElem?_toArray, List.getElem?_cons_succ, List.getElem?_cons_zero]; rfl) (by kernel_rfl) (by kernel_rfl) (by kernel_rfl) (fun _ _ _ h => h) (Or.inl ⟨by rfl, ?_⟩) (by assumption) ?_
      rotate_left
      · (intro w hSw; (try dsimp only at hSw); go_simp; try with_reducible rfl)
      try simp only [Act.put, List.setIfInBounds_toArray, List.set_cons_zero, List.set_cons_succ]
      refine wpAnyH_take (i := 7) (v := ?_) (by simp only [List.getElem?_toArray, List.getElem?_cons_succ, List.getElem?_cons_zero]; rfl) (by kernel_rfl) (by kernel_rfl) (by kernel_rfl) (fun _ _ _ h => h) (Or.inl ⟨by rfl, ?_⟩) (by assumption) ?_
      rotate_left
      · (intro w hSw; (try dsimp only at hSw); go_simp; try with_reducible rfl)
      try simp only [Act.put, List.setIfInBounds_toArray, List.set_cons_zero, List.set_cons_succ]
      refine wpAnyH_take (i := 8) (v := ?_) (by simp only [List.getElem?_toArray, List.getElem?_cons_succ, List.getElem?_cons_zero]; rfl) (by kernel_rfl) (by kernel_rfl) (by kernel_rfl) (fun _ _ _ h => h) (Or.inl ⟨by rfl, ?_⟩) (by assumption) ?_
      rotate_left
      · (intro w hSw; (try dsimp only at hSw); go_simp; try with_reducible rfl)
      try simp only [Act.put, List.setIfInBounds_toArray, List.set_cons_zero, List.set_cons_succ]
      refine wpAnyH_take (i := 9) (v := ?_) (by simp only [List.getElem?_toArray, List.getElem?_cons_succ, List.getElem?_cons_zero]; rfl) (by kernel_rfl) (by kernel_rfl) (by kernel_rfl) (fun _ _ _ h => h) (Or.inl ⟨by rfl, ?_⟩) (by assumption) ?_
      rotate_left
      · (intro w hSw; (try dsimp only at hSw); go_simp; try with_reducible rfl)
      try simp only [Act.put, List.setIfInBounds_toArray, List.set_cons_zero, List.set_cons_succ]
      refine wpAnyH_take (i := 10) (v := ?_) (by simp only [List.getElem?_toArray, List.getElem?_cons_succ, List.getElem?_cons_zero]; rfl) (by kernel_rfl) (by kernel_rfl) (by kernel_rfl) (fun _ _ _ h => h) (Or.inl ⟨by rfl, ?_⟩) (by assumption) ?_
      rotate_left
      · (intro w hSw; (try dsimp only at hSw); go_simp; try with_reducible rfl)
      try simp only [Act.put, List.setIfInBounds_toArray, List.set_cons_zero, List.set_cons_succ]
      refine wpAnyH_take (i := 11) (v := ?_) (by simp only [List.getElem?_toArray, List.getElem?_cons_succ, List.getElem?_cons_zero]; rfl) (by kernel_rfl) (by kernel_rfl) (by kernel_rfl) (fun _ _ _ h => h) (Or.inl ⟨by rfl, ?_⟩) (by assumption) ?_
      rotate_left
      · (intro w hSw; (try dsimp only at hSw); go_simp; try with_reducible rfl)
      try simp only [Act.put, List.setIfInBounds_toArray, List.set_cons_zero, List.set_cons_succ]
      refine wpAnyH_take (i := 12) (v := ?_) (by simp only [List.getElem?_toArray, List.getElem?_cons_succ, List.getElem?_cons_zero]; rfl) (by kernel_rfl) (by kernel_rfl) (by kernel_rfl) (fun _ _ _ h => h) (Or.inl ⟨by rfl, ?_⟩) (by assumption) ?_
      rotate_left
      · (intro w hSw; (try dsimp only at hSw); go_simp; try with_reducible rfl)
      try simp only [Act.put, List.setIfInBounds_toArray, List.set_cons_zero, List.set_cons_succ]
      refine wpAnyH_take (i := 13) (v := ?_) (by simp only [List.getElem?_toArray, List.getElem?_cons_succ, List.getElem?_cons_zero]; rfl) (by kernel_rfl) (by kernel_rfl) (by kernel_rfl) (fun _ _ _ h => h) (Or.inl ⟨by rfl, ?_⟩) (by assumption) ?_
      rotate_left
      · (intro w hSw; (try dsimp only at hSw); go_simp; try with_reducible rfl)
      try simp only [Act.put, List.setIfInBounds_toArray, List.set_cons_zero, List.set_cons_succ]
      refine wpAnyH_take (i := 14) (v := ?_) (by simp only [List.getElem?_toArray, List.getElem?_cons_succ, List.getElem?_cons_zero]; rfl) (by kernel_rfl) (by kernel_rfl) (by kernel_rfl) (fun _ _ _ h => h) (Or.inl ⟨by rfl, ?_⟩) (by assumption) ?_
      rotate_left
      · (intro w hSw; (try dsimp only at hSw); go_simp; try with_reducible rfl)
      try simp only [Act.put, List.setIfInBounds_toArray, List.set_cons_zero, List.set_cons_succ]
      refine wpAnyH_take (i := 15) (v := ?_) (by simp only [List.getElem?_toArray, List.getElem?_cons_succ, List.getElem?_cons_zero]; rfl) (by kernel_rfl) (by kernel_rfl) (by kernel_rfl) (fun _ _ _ h => h) (Or.inl ⟨by rfl, ?_⟩) (by assumption) ?_
      rotate_left
      · (intro w hSw; (try dsimp only at hSw); go_simp; try with_reducible rfl)
      try simp only [Act.put, List.setIfInBounds_toArray, List.set_cons_zero, List.set_cons_succ]
      refine wpAnyH_take (i := 16) (v := ?_) (by simp only [List.getElem?_toArray, List.getElem?_cons_succ, List.getElem?_cons_zero]; rfl) (by kernel_rfl) (by kernel_rfl) (by kernel_rfl) (fun _ _ _ h => h) (Or.inl ⟨by rfl, ?_⟩) (by assumption) ?_
      rotate_left
      · (intro w hSw; (try dsimp only at hSw); go_simp; try with_reducible rfl)
      try simp only [Act.put, List.setIfInBounds_toArray, List.set_cons_zero, List.set_cons_succ]
      refine wpAnyH_take (i := 17) (v := ?_) (by simp only [List.getElem?_toArray, List.getElem?_cons_succ, List.getElem?_cons_zero]; rfl) (by kernel_rfl) (by kernel_rfl) (by kernel_rfl) (fun _ _ _ h => h) (Or.inl ⟨by rfl, ?_⟩) (by assumption) ?_
      rotate_left
      · (intro w hSw; (try dsimp only at hSw); go_simp; try with_reducible rfl)
      try simp only [Act.put, List.setIfInBounds_toArray, List.set_cons_zero, List.set_cons_succ]
      refine wpAnyH_take (i := 18) (v := ?_) (by simp only [List.getElem?_toArray, List.getElem?_cons_succ, List.getElem?_cons_zero]; rfl) (by kernel_rfl) (by kernel_rfl) (by kernel_rfl) (fun _ _ _ h => h) (Or.inl ⟨by rfl, ?_⟩) (by assumption) ?_
      rotate_left
      · (intro w hSw; (try dsimp only at hSw); go_simp; try with_reducible rfl)
      try simp only [Act.put, List.setIfInBounds_toArray, List.set_cons_zero, List.set_cons_succ]
      refine wpAnyH_take (i := 19) (v := ?_) (by simp only [List.getElem?_toArray, List.getElem?_cons_succ, List.getElem?_cons_zero]; rfl) (by kernel_rfl) (by kernel_rfl) (by kernel_rfl) (fun _ _ _ h => h) (Or.inl ⟨by rfl, ?_⟩) (by assumption) ?_
      rotate_left
      · (intro w hSw; (try dsimp only at hSw); go_simp; try with_reducible rfl)
      try simp only [Act.put, List.setIfInBounds_toArray, List.set_cons_zero, List.set_cons_succ]
      refine wpAnyH_take (i := 20) (v := ?_) (by simp only [List.getElem?_toArray, List.getElem?_cons_succ, List.getElem?_cons_zero]; rfl) (by kernel_rfl) (by kernel_rfl) (by kernel_rfl) (fun _ _ _ h => h) (Or.inl ⟨by rfl, ?_⟩) (by assumption) ?_
      rotate_left
      · (intro w hSw; (try dsimp only at hSw); go_simp; try with_reducible rfl)
      try simp only [Act.put, List.setIfInBounds_toArray, List.set_cons_zero, List.set_cons_succ]
      refine wpAnyH_take (i := 21) (v := ?_) (by simp only [List.getElem?_toArray, List.getElem?_cons_succ, List.getElem?_cons_zero]; rfl) (by kernel_rfl) (by kernel_rfl) (by kernel_rfl) (fun _ _ _ h => h) (Or.inl ⟨by rfl, ?_⟩) (by assumption) ?_
      rotate_left
      · (intro w hSw; (try dsimp only at hSw); go_simp; try with_reducible rfl)
      try simp only [Act.put, List.setIfInBounds_toArray, List.set_cons_zero, List.set_cons_succ]
      refine wpAnyH_take (i := 22) (v := ?_) (by simp only [List.getElem?_toArray, List.getElem?_cons_succ, List.getElem?_cons_zero]; rfl) (by kernel_rfl) (by kernel_rfl) (by kernel_rfl) (fun _ _ _ h => h) (Or.inl ⟨by rfl, ?_⟩) (by assumption) ?_
      rotate_left
      · (intro w hSw; (try dsimp only at hSw); go_simp; try with_reducible rfl)
      try simp only [Act.put, List.setIfInBounds_toArray, List.set_cons_zero, List.set_cons_succ]
      refine wpAnyH_take (i := 23) (v := ?_) (by simp only [List.getElem?_toArray, List.getElem?_cons_succ, List.getElem?_cons_zero]; rfl) (by kernel_rfl) (by kernel_rfl) (by kernel_rfl) (fun _ _ _ h => h) (Or.inl ⟨by rfl, ?_⟩) (by assumption) ?_
      rotate_left
      · (intro w hSw; (try dsimp only at hSw); go_simp; try with_reducible rfl)
      try simp only [Act.put, List.setIfInBounds_toArray, List.set_cons_zero, List.set_cons_succ]
      refine wpAnyH_take (i := 24) (v := ?_) (by simp only [List.getElem?_toArray, List.getElem?_cons_succ, List.getElem?_cons_zero]; rfl) (by kernel_rfl) (by kernel_rfl) (by kernel_rfl) (fun _ _ _ h => h) (Or.inl ⟨by rfl, ?_⟩) (by assumption) ?_
      rotate_left
      · (intro w hSw; (try dsimp only at hSw); go_simp; try with_reducible rfl)
      try simp only [Act.put, List.setIfInBounds_toArray, List.set_cons_zero, List.set_cons_succ]
      refine wpAnyH_take (i := 25) (v := ?_) (by simp only [List.getElem?_toArray, List.getElem?_cons_succ, List.getElem?_cons_zero]; rfl) (by kernel_rfl) (by kernel_rfl) (by kernel_rfl) (fun _ _ _ h => h) (Or.inl ⟨by rfl, ?_⟩) (by assumption) ?_
      rotate_left
      · (intro w hSw; (try dsimp only at hSw); go_simp; try with_reducible rfl)
      try simp only [Act.put, List.setIfInBounds_toArray, List.set_cons_zero, List.set_cons_succ]
      refine wpAnyH_take (i := 26) (v := ?_) (by simp only [List.getElem?_toArray, List.getElem?_cons_succ, List.getElem?_cons_zero]; rfl) (by kernel_rfl) (by kernel_rfl) (by kernel_rfl) (fun _ _ _ h => h) (Or.inl ⟨by rfl, ?_⟩) (by assumption) ?_
      rotate_left
      · (intro w hSw; (try dsimp only at hSw); go_simp; try with_reducible rfl)
      try simp only [Act.put, List.setIfInBounds_toArray, List.set_cons_zero, List.set_cons_succ]
      refine wpAnyH_take (i := 27) (v := ?_) (by simp only [List.getElem?_toArray, List.getElem?_cons_succ, List.getElem?_cons_zero]; rfl) (by kernel_rfl) (by kernel_rfl) (by kernel_rfl) (fun _ _ _ h => h) (Or.inl ⟨by rfl, ?_⟩) (by assumption) ?_
      rotate_left
      · (intro w hSw; (try dsimp only at hSw); go_simp; try with_reducible rfl)
      try simp only [Act.put, List.setIfInBounds_toArray, List.set_cons_zero, List.set_cons_succ]
      refine wpAnyH_take (i := 28) (v := ?_) (by simp only [List.getElem?_toArray, List.getElem?_cons_succ, List.getElem?_cons_zero]; rfl) (by kernel_rfl) (by kernel_rfl) (by kernel_rfl) (fun _ _ _ h => h) (Or.inl ⟨by rfl, ?_⟩) (by assumption) ?_
      rotate_left
      · (intro w hSw; (try dsimp only at hSw); go_simp; try with_reducible rfl)
      try simp only [Act.put, List.setIfInBounds_toArray, List.set_cons_zero, List.set_cons_succ]
      refine wpAnyH_take (i := 29) (v := ?_) (by simp only [List.getElem?_toArray, List.getElem?_cons_succ, List.getElem?_cons_zero]; rfl) (by kernel_rfl) (by kernel_rfl) (by kernel_rfl) (fun _ _ _ h => h) (Or.inl ⟨by rfl, ?_⟩) (by assumption) ?_
      rotate_left
      · (intro w hSw; (try dsimp only at hSw); go_simp; try with_reducible rfl)
      try simp only [Act.put, List.setIfInBounds_toArray, List.set_cons_zero, List.set_cons_succ]
      refine wpAnyH_take (i := 30) (v := ?_) (by simp only [List.getElem?_toArray, List.getElem?_cons_succ, List.getElem?_cons_zero]; rfl) (by kernel_rfl) (by kernel_rfl) (by kernel_rfl) (fun _ _ _ h => h) (Or.inl ⟨by rfl, ?_⟩) (by assumption) ?_
      rotate_left
      · (intro w hSw; (try dsimp only at hSw); go_simp; try with_reducible rfl)
      try simp only [Act.put, List.setIfInBounds_toArray, List.set_cons_zero, List.set_cons_succ]
      refine wpAnyH_take (i := 31) (v := ?_) (by simp only [List.getElem?_toArray, List.getElem?_cons_succ, List.getElem?_cons_zero]; rfl) (by kernel_rfl) (by kernel_rfl) (by kernel_rfl) (fun _ _ _ h => h) (Or.inl ⟨by rfl, ?_⟩) (by assumption) ?_
      rotate_left
      · (intro w hSw; (try dsimp only at hSw); go_simp; try with_reducible rfl)
      try simp only [Act.put, List.setIfInBounds_toArray, List.set_cons_zero, List.set_cons_succ]
      refine wpAnyH_take (i := 32) (v := ?_) (by simp only [List.getElem?_toArray, List.getElem?_cons_succ, List.getElem?_cons_zero]; rfl) (by kernel_rfl) (by kernel_rfl) (by kernel_rfl) (fun _ _ _ h => h) (Or.inl ⟨by rfl, ?_⟩) (by assumption) ?_
      rotate_left
      · (intro w hSw; (try dsimp only at hSw); go_simp; try with_reducible rfl)
      try simp only [Act.put, List.setIfInBounds_toArray, List.set_cons_zero, List.set_cons_succ]
      refine wpAnyH_take (i := 33) (v := ?_) (by simp only [List.getElem?_toArray, List.getElem?_cons_succ, List.getElem?_cons_zero]; rfl) (by kernel_rfl) (by kernel_rfl) (by kernel_rfl) (fun _ _ _ h => h) (Or.inl ⟨by rfl, ?_⟩) (by assumption) ?_
      rotate_left
      · (intro w hSw; (try dsimp only at hSw); go_simp; try with_reducible rfl)
      try simp only [Act.put, List.setIfInBounds_toArray, List.set_cons_zero, List.set_cons_succ]
      refine wpAnyH_ready (rs := [34]) (by kernel_rfl) (by simp) ?_
      refine AllReadyH.cons (by simp only [List.getElem?_toArray, List.getElem?_cons_succ, List.getElem?_cons_zero]; rfl) (fun K hK => ?_) AllReadyH.nil
      go_simp
      refine hK.out _ _ (⟨Below.drew (balloc hb _), keepC c0 (Below.drew (balloc (Below.refl wr.heap.size wr) _)), keepC c1 (Below.drew (balloc (Below.refl wr.heap.size wr) _)), keepC c2 (Below.drew (balloc (Below.refl wr.heap.size wr) _)), keepC c3 (Below.drew (balloc (Below.refl wr.heap.size wr) _))⟩) (fun hHeld => ?_)
      clear hK K
      try simp only [Act.put, List.setIfInBounds_toArray, List.set_cons_zero, List.set_cons_succ]
      refine wpAnyH_ready (rs := [35]) (by kernel_rfl) (by simp) ?_
      refine AllReadyH.cons (by simp only [List.getElem?_toArray, List.getElem?_cons_succ, List.getElem?_cons_zero]; rfl) (fun K hK => ?_) AllReadyH.nil
      refine Row.step_app typ32 rfl (.tmp 25) (.tmp 59) rfl w.heap.size v (words bk k) rfl ((HO.out.alloc _).drew) _ 1 1 [(bits .or .u32 (bits .or .u32 (bits .or .u32 ((x0.toNat : Int) * 16777216) ((x1.toNat : Int) * 65536)) ((x2.toNat : Int) * 256)) (x3.toNat : Int))] rfl (new_lies wr _ _) (by rw [words_length]; omega) (by have := hb.size; show _ ≤ (wr.alloc _).heap.size; rw [World.size_alloc]; omega) ?_
      intro v9 w9 o9 _ k9
      refine hK.out _ _ (⟨hHeld.1.trans k9, (k9.cell (p := ⟨bb, bo + 4 * k, none⟩) hlb).trans hHeld.2.1, (k9.cell (p := ⟨bb, bo + (4 * k + 1), none⟩) hlb).trans hHeld.2.2.1, (k9.cell (p := ⟨bb, bo + (4 * k + 2), none⟩) hlb).trans hHeld.2.2.2.1, (k9.cell (p := ⟨bb, bo + (4 * k + 3), none⟩) hlb).trans hHeld.2.2.2.2⟩) (fun hHeld => ?_)
      clear hK K
      try simp only [Act.put, List.setIfInBounds_toArray, List.set_cons_zero, List.set_cons_succ]
      refine wpAnyH_take (i := 36) (v := ?_) (by simp only [List.getElem?_toArray, List.getElem?_cons_succ, List.getElem?_cons_zero]; rfl) (by kernel_rfl) (by kernel_rfl) (by kernel_rfl) (fun _ _ _ h => h) (Or.inl ⟨by rfl, ?_⟩) (by assumption) ?_
      rotate_left
      · (intro w hSw; (try dsimp only at hSw); go_simp; try with_reducible rfl)
      try simp only [Act.put, List.setIfInBounds_toArray, List.set_cons_zero, List.set_cons_succ]
      refine wpAnyH_done (by kernel_rfl) ?_ _
      refine NoPanic.normal ?_
      obtain ⟨hb9, -⟩ := hHeld
      have HO9 := Lib.hid o9
      clear o9 k9
      go_wp2_with fail
      go_roundw
      case rel =>
        exact ⟨k + 1, _, by omega, rfl, by go_num, hb9, Lib.hid (by have h := HO9.out; rw [← hb4.out, ← hw.out] at h; exact h)⟩
      case measure => simp [intOf]; omega
    · obtain rfl : k = 16 := by omega
      have hd : decide ((16 : Int) < 16) = false := by decide
      have HO16 := Lib.hid HO.out
      clear HO
      go_wp2_with fail
      rw [show ((16 : Nat) : Int) = 16 from rfl]
      go_loopw [7, 9] (fun v i wx => ∃ (t : Nat) (x : Value), 16 ≤ t ∧ t ≤ 64 ∧ x = v ∧ i = .int .i64 (t : Int) ∧ Below w.heap.size w wx ∧ Hid (Own32 wx w.heap.size x (sched (words bk 16) (t - 16)))) (fun _ i _ => 64 - (intOf i).toNat)
      case atStart => exact ⟨16, v, by omega, by omega, rfl, rfl, hb, HO16⟩
      case round =>
        clear hb HO16
        obtain ⟨t, v, ht, ht2, rfl, rfl, hb, HO⟩ := hrel
        have hlen : (sched (words bk 16) (t - 16)).length = t := by rw [sched_length, words_length]; omega
        by_cases hlt : t < 64
        · have hd : decide ((t : Int) < 64) = true := decide_eq_true (by omega)
          obtain ⟨g, cap, rfl, hgB, hgl, hcap, hcm, hcs, hfr⟩ := Ones.Own.at HO.out (by omega)
          rw [hlen] at hcap hcs
          have c2 := hcs (t - 2) (by omega)
          have c7 := hcs (t - 7) (by omega)
          have c15 := hcs (t - 15) (by omega)
          have c16 := hcs (t - 16) (by omega)
          clear hcs hfr
          have i2 : (0 : Int) ≤ (t : Int) - 2 := by omega
          have l2 : (2 : Int) ≤ (t : Int) := by omega
          have j2 : (t : Int) - 2 < (t : Int) := by omega
          have h2 : ((t : Int) - 2).toNat = t - 2 := by omega
          have v2 : IntKind.i64.wrap ((t : Int) - 2) = (t : Int) - 2 := by rw [IntKind.wrap_i64]; omega
          have i7 : (0 : Int) ≤ (t : Int) - 7 := by omega
          have l7 : (7 : Int) ≤ (t : Int) := by omega
          have j7 : (t : Int) - 7 < (t : Int) := by omega
          have h7 : ((t : Int) - 7).toNat = t - 7 := by omega
          have v7 : IntKind.i64.wrap ((t : Int) - 7) = (t : Int) - 7 := by rw [IntKind.wrap_i64]; omega
          have i15 : (0 : Int) ≤ (t : Int) - 15 := by omega
          have l15 : (15 : Int) ≤ (t : Int) := by omega
          have j15 : (t : Int) - 15 < (t : Int) := by omega
          have h15 : ((t : Int) - 15).toNat = t - 15 := by omega
          have v15 : IntKind.i64.wrap ((t : Int) - 15) = (t : Int) - 15 := by rw [IntKind.wrap_i64]; omega
          have i16 : (0 : Int) ≤ (t : Int) - 16 := by omega
          have l16 : (16 : Int) ≤ (t : Int) := by omega
          have j16 : (t : Int) - 16 < (t : Int) := by omega
          have h16 : ((t : Int) - 16).toNat = t - 16 := by omega
          have v16 : IntKind.i64.wrap ((t : Int) - 16) = (t : Int) - 16 := by rw [IntKind.wrap_i64]; omega
          have j0 : (t : Int) < 64 := by omega
          have HN : Hid (next (sched (words bk 16) (t - 16)) = add (add (add (sig1 ((sched (words bk 16) (t - 16)).getD (t - 2) 0)) ((sched (words bk 16) (t - 16)).getD (t - 7) 0)) (sig0 ((sched (words bk 16) (t - 16)).getD (t - 15) 0))) ((sched (words bk 16) (t - 16)).getD (t - 16) 0)) := Lib.hid (by unfold next; rw [hlen])
          generalize (sched (words bk 16) (t - 16)).getD (t - 2) 0 = x2 at c2 HN
          generalize (sched (words bk 16) (t - 16)).getD (t - 7) 0 = x7 at c7 HN
          generalize (sched (words bk 16) (t - 16)).getD (t - 15) 0 = x15 at c15 HN
          generalize (sched (words bk 16) (t - 16)).getD (t - 16) 0 = x16 at c16 HN
          have HL := Lib.hid hlen
          rw [hlen] at HO ⊢
          clear hlen
          go_wp2_with fail
          go_quiet (fail)
          generalize hW : wr.drewN _ = W1
          replace c2 : W1.cell? ⟨g, t - 2, none⟩ = some (.int .u32 x2) := by rw [← hW]; simpa using c2
          replace c7 : W1.cell? ⟨g, t - 7, none⟩ = some (.int .u32 x7) := by rw [← hW]; simpa using c7
          replace c15 : W1.cell? ⟨g, t - 15, none⟩ = some (.int .u32 x15) := by rw [← hW]; simpa using c15
          replace c16 : W1.cell? ⟨g, t - 16, none⟩ = some (.int .u32 x16) := by rw [← hW]; simpa using c16
          replace hb : Below w.heap.size w W1 := by rw [← hW]; exact bdrewN hb _
          replace HO : Hid (Own32 W1 w.heap.size (.slice (some ⟨g, 0, none⟩) t cap) (sched (words bk 16) (t - 16))) := by rw [← hW]; exact HO
          clear hW
          go_wp2_with (go_at_call 29; refine (ref_right_any _ _ (by decide) _).mono ?_; rintro e w' ⟨rfl, rfl⟩)
          have hsz : w.heap.size ≤ W1.heap.size := hb.size
          refine wp_region_noPanic ?_
          refine wp_region_held_drew (S := (fun w' => Below w.heap.size w w' ∧ w'.cell? ⟨g, t - 7, none⟩ = some (.int .u32 x7) ∧ w'.cell? ⟨g, t - 16, none⟩ = some (.int .u32 x16))) (by kernel_rfl) (⟨Below.drew hb, c7, c16⟩) (fun hHeld => ?_)
          refine wpAnyH_take (i := 0) (v := ?_) (by simp only [List.getElem?_toArray, List.getElem?_cons_zero]; rfl) (by kernel_rfl) (by kernel_rfl) (by kernel_rfl) (fun _ _ _ h => h) (Or.inl ⟨by rfl, ?_⟩) (by assumption) ?_
          rotate_left
          · (intro w hSw; (try dsimp only at hSw); go_simp; try with_reducible rfl)
          try simp only [Act.put, List.setIfInBounds_toArray, List.set_cons_zero, List.set_cons_succ]
          refine wpAnyH_take (i := 1) (v := ?_) (by simp only [List.getElem?_toArray, List.getElem?_cons_succ, List.getElem?_cons_zero]; rfl) (by kernel_rfl) (by kernel_rfl) (by kernel_rfl) (fun _ _ _ h => h) (Or.inl ⟨by rfl, ?_⟩) (by assumption) ?_
          rotate_left
          · (intro w hSw; (try dsimp only at hSw); go_simp; try with_reducible rfl)
          try simp only [Act.put, List.setIfInBounds_toArray, List.set_cons_zero, List.set_cons_succ]
          refine wpAnyH_take (i := 2) (v := ?_) (by simp only [List.getElem?_toArray, List.getElem?_cons_succ, List.getElem?_cons_zero]; rfl) (by kernel_rfl) (by kernel_rfl) (by kernel_rfl) (fun _ _ _ h => h) (Or.inl ⟨by rfl, ?_⟩) (by assumption) ?_
          rotate_left
          · (intro w hSw; (try dsimp only at hSw); go_simp; try with_reducible rfl)
          try simp only [Act.put, List.setIfInBounds_toArray, List.set_cons_zero, List.set_cons_succ]
          refine wpAnyH_take (i := 3) (v := ?_) (by simp only [List.getElem?_toArray, List.getElem?_cons_succ, List.getElem?_cons_zero]; rfl) (by kernel_rfl) (by kernel_rfl) (by kernel_rfl) (fun _ _ _ h => h) (Or.inl ⟨by rfl, ?_⟩) (by assumption) ?_
          rotate_left
          · (intro w hSw; (try dsimp only at hSw); go_simp; try with_reducible rfl)
          try simp only [Act.put, List.setIfInBounds_toArray, List.set_cons_zero, List.set_cons_succ]
          refine wpAnyH_take (i := 4) (v := ?_) (by simp only [List.getElem?_toArray, List.getElem?_cons_succ, List.getElem?_cons_zero]; rfl) (by kernel_rfl) (by kernel_rfl) (by kernel_rfl) (fun _ _ _ h => h) (Or.inl ⟨by rfl, ?_⟩) (by assumption) ?_
          rotate_left
          · (intro w hSw; (try dsimp only at hSw); go_simp; try with_reducible rfl)
          try simp only [Act.put, List.setIfInBounds_toArray, List.set_cons_zero, List.set_cons_succ]
          refine wpAnyH_take (i := 5) (v := ?_) (by simp only [List.getElem?_toArray, List.getElem?_cons_succ, List.getElem?_cons_zero]; rfl) (by kernel_rfl) (by kernel_rfl) (by kernel_rfl) (fun _ _ _ h => h) (Or.inl ⟨by rfl, ?_⟩) (by assumption) ?_
          rotate_left
          · (intro w hSw; (try dsimp only at hSw); go_simp; try with_reducible rfl)
          try simp only [Act.put, List.setIfInBounds_toArray, List.set_cons_zero, List.set_cons_succ]
          refine wpAnyH_take (i := 6) (v := ?_) (by simp only [List.getElem?_toArray, List.getElem?_cons_succ, List.getElem?_cons_zero]; rfl) (by kernel_rfl) (by kernel_rfl) (by kernel_rfl) (fun _ _ _ h => h) (Or.inl ⟨by rfl, ?_⟩) (by assumption) ?_
          rotate_left
          · (intro w hSw; (try dsimp only at hSw); go_simp; try with_reducible rfl)
          try simp only [Act.put, List.setIfInBounds_toArray, List.set_cons_zero, List.set_cons_succ]
          refine wpAnyH_take (i := 7) (v := ?_) (by simp only [List.getElem?_toArray, List.getElem?_cons_succ, List.getElem?_cons_zero]; rfl) (by kernel_rfl) (by kernel_rfl) (by kernel_rfl) (fun _ _ _ h => h) (Or.inl ⟨by rfl, ?_⟩) (by assumption) ?_
          rotate_left
          · (intro w hSw; (try dsimp only at hSw); go_simp; try with_reducible rfl)
          try simp only [Act.put, List.setIfInBounds_toArray, List.set_cons_zero, List.set_cons_succ]
          refine wpAnyH_take (i := 8) (v := ?_) (by simp only [List.getElem?_toArray, List.getElem?_cons_succ, List.getElem?_cons_zero]; rfl) (by kernel_rfl) (by kernel_rfl) (by kernel_rfl) (fun _ _ _ h => h) (Or.inl ⟨by rfl, ?_⟩) (by assumption) ?_
          rotate_left
          · (intro w hSw; (try dsimp only at hSw); go_simp; try with_reducible rfl)
          try simp only [Act.put, List.setIfInBounds_toArray, List.set_cons_zero, List.set_cons_succ]
          refine wpAnyH_take (i := 9) (v := ?_) (by simp only [List.getElem?_toArray, List.getElem?_cons_succ, List.getElem?_cons_zero]; rfl) (by kernel_rfl) (by kernel_rfl) (by kernel_rfl) (fun _ _ _ h => h) (Or.inl ⟨by rfl, ?_⟩) (by assumption) ?_
          rotate_left
          · (intro w hSw; (try dsimp only at hSw); go_simp; try with_reducible rfl)
          try simp only [Act.put, List.setIfInBounds_toArray, List.set_cons_zero, List.set_cons_succ]
          refine wpAnyH_take (i := 10) (v := ?_) (by simp only [List.getElem?_toArray, List.getElem?_cons_succ, List.getElem?_cons_zero]; rfl) (by kernel_rfl) (by kernel_rfl) (by kernel_rfl) (fun _ _ _ h => h) (Or.inl ⟨by rfl, ?_⟩) (by assumption) ?_
          rotate_left
          · (intro w hSw; (try dsimp only at hSw); go_simp; try with_reducible rfl)
          try simp only [Act.put, List.setIfInBounds_toArray, List.set_cons_zero, List.set_cons_succ]
          refine wpAnyH_take (i := 11) (v := ?_) (by simp only [List.getElem?_toArray, List.getElem?_cons_succ, List.getElem?_cons_zero]; rfl) (by kernel_rfl) (by kernel_rfl) (by kernel_rfl) (fun _ _ _ h => h) (Or.inl ⟨by rfl, ?_⟩) (by assumption) ?_
          rotate_left
          · (intro w hSw; (try dsimp only at hSw); go_simp; try with_reducible rfl)
          try simp only [Act.put, List.setIfInBounds_toArray, List.set_cons_zero, List.set_cons_succ]
          refine wpAnyH_take (i := 12) (v := ?_) (by simp only [List.getElem?_toArray, List.getElem?_cons_succ, List.getElem?_cons_zero]; rfl) (by kernel_rfl) (by kernel_rfl) (by kernel_rfl) (fun _ _ _ h => h) (Or.inl ⟨by rfl, ?_⟩) (by assumption) ?_
          rotate_left
          · (intro w hSw; (try dsimp only at hSw); go_simp; try with_reducible rfl)
          try simp only [Act.put, List.setIfInBounds_toArray, List.set_cons_zero, List.set_cons_succ]
          refine wpAnyH_take (i := 13) (v := ?_) (by simp only [List.getElem?_toArray, List.getElem?_cons_succ, List.getElem?_cons_zero]; rfl) (by kernel_rfl) (by kernel_rfl) (by kernel_rfl) (fun _ _ _ h => h) (Or.inl ⟨by rfl, ?_⟩) (by assumption) ?_
          rotate_left
          · (intro w hSw; (try dsimp only at hSw); go_simp; try with_reducible rfl)
          try simp only [Act.put, List.setIfInBounds_toArray, List.set_cons_zero, List.set_cons_succ]
          refine wpAnyH_take (i := 14) (v := ?_) (by simp only [List.getElem?_toArray, List.getElem?_cons_succ, List.getElem?_cons_zero]; rfl) (by kernel_rfl) (by kernel_rfl) (by kernel_rfl) (fun _ _ _ h => h) (Or.inl ⟨by rfl, ?_⟩) (by assumption) ?_
          rotate_left
          · (intro w hSw; (try dsimp only at hSw); go_simp; try with_reducible rfl)
          try simp only [Act.put, List.setIfInBounds_toArray, List.set_cons_zero, List.set_cons_succ]
          refine wpAnyH_take (i := 15) (v := ?_) (by simp only [List.getElem?_toArray, List.getElem?_cons_succ, List.getElem?_cons_zero]; rfl) (by kernel_rfl) (by kernel_rfl) (by kernel_rfl) (fun _ _ _ h => h) (Or.inl ⟨by rfl, ?_⟩) (by assumption) ?_
          rotate_left
          · (intro w hSw; (try dsimp only at hSw); go_simp; try with_reducible rfl)
          try simp only [Act.put, List.setIfInBounds_toArray, List.set_cons_zero, List.set_cons_succ]
          refine wpAnyH_ready (rs := [16]) (by kernel_rfl) (by simp) ?_
          refine AllReadyH.cons (by simp only [List.getElem?_toArray, List.getElem?_cons_succ, List.getElem?_cons_zero]; rfl) (fun K hK => ?_) AllReadyH.nil
          go_simp
          refine hK.out _ _ (⟨Below.drew (balloc hb _), keepC c7 (Below.drew (balloc (Below.refl W1.heap.size W1) _)), keepC c16 (Below.drew (balloc (Below.refl W1.heap.size W1) _))⟩) (fun hHeld => ?_)
          clear hK K
          try simp only [Act.put, List.setIfInBounds_toArray, List.set_cons_zero, List.set_cons_succ]
          refine wpAnyH_ready (rs := [17]) (by kernel_rfl) (by simp) ?_
          refine AllReadyH.cons (by simp only [List.getElem?_toArray, List.getElem?_cons_succ, List.getElem?_cons_zero]; rfl) (fun K hK => ?_) AllReadyH.nil
          refine Ones.step_app_keep typ32 rfl (.tmp 91) (.tmp 107) rfl w.heap.size g t cap (sched (words bk 16) (t - 16)) rfl ((HO.out.alloc _).drew) _ 1 1 [(IntKind.u32.wrap (IntKind.u32.wrap (IntKind.u32.wrap (bits .xor .u32 (bits .xor .u32 (rr 17 x2) (rr 19 x2)) (x2 / 1024) + x7) + bits .xor .u32 (bits .xor .u32 (rr 7 x15) (rr 18 x15)) (x15 / 8)) + x16))] rfl (new_lies W1 _ _) (by rw [HL.out]; omega) (by show _ ≤ (W1.alloc _).heap.size; rw [World.size_alloc]; omega) ?_
          intro v9 w9 o9 k9 e9
          refine hK.out _ _ (⟨hHeld.1.trans k9, (e9 (t - 7) (by rw [HL.out]; show _ < t * 1; omega)).trans hHeld.2.1, (e9 (t - 16) (by rw [HL.out]; show _ < t * 1; omega)).trans hHeld.2.2⟩) (fun hHeld => ?_)
          clear hK K
          try simp only [Act.put, List.setIfInBounds_toArray, List.set_cons_zero, List.set_cons_succ]
          refine wpAnyH_take (i := 18) (v := ?_) (by simp only [List.getElem?_toArray, List.getElem?_cons_succ, List.getElem?_cons_zero]; rfl) (by kernel_rfl) (by kernel_rfl) (by kernel_rfl) (fun _ _ _ h => h) (Or.inl ⟨by rfl, ?_⟩) (by assumption) ?_
          rotate_left
          · (intro w hSw; (try dsimp only at hSw); go_simp; try with_reducible rfl)
          try simp only [Act.put, List.setIfInBounds_toArray, List.set_cons_zero, List.set_cons_succ]
          refine wpAnyH_done (by kernel_rfl) ?_ _
          refine NoPanic.normal ?_
          obtain ⟨hb9, -⟩ := hHeld
          have HO9 := Lib.hid o9
          clear o9 k9 e9
          go_wp2_with fail
          go_roundw
          case rel =>
            refine ⟨t + 1, _, by omega, by omega, rfl, by go_num, hb9, Lib.hid ?_⟩
            rw [show t + 1 - 16 = (t - 16) + 1 by omega, sched, HN.out, add_w]
            exact HO9.out
          case measure => simp [intOf]; omega
        · obtain rfl : t = 64 := by omega
          have hd : decide ((64 : Int) < 64) = false := by decide
          have HOW : Hid (Own32 wr w.heap.size v (sched (words bk 16) 48)) := Lib.hid (by have h := HO.out; rwa [show 64 - 16 = 48 from rfl] at h)
          have hlW : (sched (words bk 16) 48).length = 64 := by rw [sched_length, words_length]
          obtain ⟨g, cap, rfl, hgB, hgl, hcap, hcm, -, -⟩ := Ones.Own.at HOW.out (by omega)
          rw [hlW] at hcap HOW ⊢
          have HLW := Lib.hid hlW
          clear HO hlen hlW
          go_wp2_with (at_builtin; refine Row.wpList_app typ32 rfl _ _ rfl w.heap.size _ _ rfl (Row.Own.nil _ _) ah 8 ch s.list rfl (HH.out.below hb) (by simp only [List.length_nil]; omega) hb.size ?_; intro v8 w8 o8 g8 k8)
          have HO8 := Lib.hid o8
          have HW8 : Hid (Own32 w8 w.heap.size (.slice (some ⟨g, 0, none⟩) 64 cap) (sched (words bk 16) 48)) := Lib.hid (World.ownsRow.kept HOW.out g8 (Or.inr (by show (some g : Option Nat) ≠ none; simp)))
          have hb8 := hb.trans k8
          clear o8 k8 g8 hb HOW
          go_loopw [14, 15] (fun v i wx => ∃ (t : Nat) (x : Value), t ≤ 64 ∧ x = v ∧ i = .int .i64 (t : Int) ∧ Below w.heap.size w wx ∧ Hid (Own32 wx w.heap.size x (rounds K (sched (words bk 16) 48) s t).list) ∧ Hid (Own32 wx w.heap.size (.slice (some ⟨g, 0, none⟩) 64 cap) (sched (words bk 16) 48))) (fun _ i _ => 64 - (intOf i).toNat)
          case atStart => exact ⟨0, v8, by omega, rfl, rfl, hb8, Lib.hid (by rw [Sha.rounds_zero]; exact HO8.out), HW8⟩
          case round =>
            clear hb8 HO8 HW8
            obtain ⟨t, x, ht, rfl, rfl, hb, HO, HW⟩ := hrel
            by_cases hlt : t < 64
            · have hd : decide ((t : Int) < 64) = true := decide_eq_true (by omega)
              obtain ⟨kb, ko, rfl, hkc⟩ := Ones.Lies.at HK.out (by decide)
              have hKl := HK.out.1
              have ck0 := hkc t (by omega)
              have ck := keepC0 ck0 hb
              obtain ⟨g2, cap2, rfl, hg2B, hg2l, hc2, hcm2, hcs2, -⟩ := Ones.Own.at HO.out (by show 0 < 8; decide)
              have s0 := hcs2 0 (by show 0 < 8; decide)
              have s1 := hcs2 1 (by show 1 < 8; decide)
              have s2 := hcs2 2 (by show 2 < 8; decide)
              have s3 := hcs2 3 (by show 3 < 8; decide)
              have s4 := hcs2 4 (by show 4 < 8; decide)
              have s5 := hcs2 5 (by show 5 < 8; decide)
              have s6 := hcs2 6 (by show 6 < 8; decide)
              have s7 := hcs2 7 (by show 7 < 8; decide)
              obtain ⟨_, _, e_, _, _, _, _, hcw, -⟩ := Ones.Own.at HW.out (by rw [HLW.out]; decide)
              simp only [Value.slice.injEq, Option.some.injEq, Addr.mk.injEq, and_true] at e_
              obtain ⟨rfl, -, rfl⟩ := e_
              have cw := hcw t (by rw [HLW.out]; omega)
              have HN : Hid (rounds K (sched (words bk 16) 48) s (t + 1) = rnd (rounds K (sched (words bk 16) 48) s t) (K.getD t 0) ((sched (words bk 16) 48).getD t 0)) := Lib.hid (Sha.rounds_succ _ _ _ _)
              simp only [St.list, List.getD_cons_zero, List.getD_cons_succ] at s0 s1 s2 s3 s4 s5 s6 s7
              generalize rounds K (sched (words bk 16) 48) s t = r at HO HN hc2 s0 s1 s2 s3 s4 s5 s6 s7 ⊢
              obtain ⟨ra, rb, rc, rd, re, rf, rg, rh⟩ := r
              simp only at s0 s1 s2 s3 s4 s5 s6 s7
              generalize K.getD t 0 = kt at ck HN
              generalize (sched (words bk 16) 48).getD t 0 = wt at cw HN
              have hl8 : (St.mk ra rb rc rd re rf rg rh).list.length = 8 := rfl
              rw [hl8] at hc2 HO ⊢
              have hsg : IntKind.u32.signed = false := rfl
              have j0 : (t : Int) < 64 := by omega
              have h0t : (0 : Int) ≤ (t : Int) := by omega
              clear hkc ck0 hKl hcs2 hcw hl8
              go_wp2_with fail
              go_quiet (fail)
              generalize hW : wr.drewN _ = W1
              replace s0 : W1.cell? ⟨g2, 0, none⟩ = some (.int .u32 ra) := by rw [← hW]; simpa using s0
              replace s1 : W1.cell? ⟨g2, 1, none⟩ = some (.int .u32 rb) := by rw [← hW]; simpa using s1
              replace s2 : W1.cell? ⟨g2, 2, none⟩ = some (.int .u32 rc) := by rw [← hW]; simpa using s2
              replace s3 : W1.cell? ⟨g2, 3, none⟩ = some (.int .u32 rd) := by rw [← hW]; simpa using s3
              replace s4 : W1.cell? ⟨g2, 4, none⟩ = some (.int .u32 re) := by rw [← hW]; simpa using s4
              replace s5 : W1.cell? ⟨g2, 5, none⟩ = some (.int .u32 rf) := by rw [← hW]; simpa using s5
              replace s6 : W1.cell? ⟨g2, 6, none⟩ = some (.int .u32 rg) := by rw [← hW]; simpa using s6
              replace s7 : W1.cell? ⟨g2, 7, none⟩ = some (.int .u32 rh) := by rw [← hW]; simpa using s7
              replace ck : W1.cell? ⟨kb, ko + t, none⟩ = some (.int .u32 kt) := by rw [← hW]; simpa using ck
              replace cw : W1.cell? ⟨g, t, none⟩ = some (.int .u32 wt) := by rw [← hW]; simpa using cw
              replace hb : Below w.heap.size w W1 := by rw [← hW]; exact bdrewN hb _
              replace HW : Hid (Own32 W1 w.heap.size (.slice (some ⟨g, 0, none⟩) 64 cap) (sched (words bk 16) 48)) := by rw [← hW]; exact HW
              clear hW
              go_wp2_with fail
              go_quiet ((go_at_call 29; exact Calls.quiet_of_same (right_quiet _ _ (by decide) _)))
              generalize hW : W1.drewN _ = W2
              replace s0 : W2.cell? ⟨g2, 0, none⟩ = some (.int .u32 ra) := by rw [← hW]; simpa using s0
              replace s1 : W2.cell? ⟨g2, 1, none⟩ = some (.int .u32 rb) := by rw [← hW]; simpa using s1
              replace s2 : W2.cell? ⟨g2, 2, none⟩ = some (.int .u32 rc) := by rw [← hW]; simpa using s2
              replace s3 : W2.cell? ⟨g2, 3, none⟩ = some (.int .u32 rd) := by rw [← hW]; simpa using s3
              replace s4 : W2.cell? ⟨g2, 4, none⟩ = some (.int .u32 re) := by rw [← hW]; simpa using s4
              replace s5 : W2.cell? ⟨g2, 5, none⟩ = some (.int .u32 rf) := by rw [← hW]; simpa using s5
              replace s6 : W2.cell? ⟨g2, 6, none⟩ = some (.int .u32 rg) := by rw [← hW]; simpa using s6
              replace s7 : W2.cell? ⟨g2, 7, none⟩ = some (.int .u32 rh) := by rw [← hW]; simpa using s7
              replace ck : W2.cell? ⟨kb, ko + t, none⟩ = some (.int .u32 kt) := by rw [← hW]; simpa using ck
              replace cw : W2.cell? ⟨g, t, none⟩ = some (.int .u32 wt) := by rw [← hW]; simpa using cw
              replace hb : Below w.heap.size w W2 := by rw [← hW]; exact bdrewN hb _
              replace HW : Hid (Own32 W2 w.heap.size (.slice (some ⟨g, 0, none⟩) 64 cap) (sched (words bk 16) 48)) := by rw [← hW]; exact HW
              clear hW
              go_wp2_with fail
              go_quiet ((go_at_call 29; exact Calls.quiet_of_same (right_quiet _ _ (by decide) _)))
              generalize hW : W2.drewN _ = W3
              replace s0 : W3.cell? ⟨g2, 0, none⟩ = some (.int .u32 ra) := by rw [← hW]; simpa using s0
              replace s1 : W3.cell? ⟨g2, 1, none⟩ = some (.int .u32 rb) := by rw [← hW]; simpa using s1
              replace s2 : W3.cell? ⟨g2, 2, none⟩ = some (.int .u32 rc) := by rw [← hW]; simpa using s2
              replace s3 : W3.cell? ⟨g2, 3, none⟩ = some (.int .u32 rd) := by rw [← hW]; simpa using s3
              replace s4 : W3.cell? ⟨g2, 4, none⟩ = some (.int .u32 re) := by rw [← hW]; simpa using s4
              replace s5 : W3.cell? ⟨g2, 5, none⟩ = some (.int .u32 rf) := by rw [← hW]; simpa using s5
              replace s6 : W3.cell? ⟨g2, 6, none⟩ = some (.int .u32 rg) := by rw [← hW]; simpa using s6
              replace s7 : W3.cell? ⟨g2, 7, none⟩ = some (.int .u32 rh) := by rw [← hW]; simpa using s7
              replace ck : W3.cell? ⟨kb, ko + t, none⟩ = some (.int .u32 kt) := by rw [← hW]; simpa using ck
              replace cw : W3.cell? ⟨g, t, none⟩ = some (.int .u32 wt) := by rw [← hW]; simpa using cw
              replace hb : Below w.heap.size w W3 := by rw [← hW]; exact bdrewN hb _
              replace HW : Hid (Own32 W3 w.heap.size (.slice (some ⟨g, 0, none⟩) 64 cap) (sched (words bk 16) 48)) := by rw [← hW]; exact HW
              clear hW
              go_wp2_with fail
              go_still_tail 22, (by kernel_rfl)
              go_wp2_with fail
              go_roundw
              case rel =>
                have e : (rnd ⟨ra, rb, rc, rd, re, rf, rg, rh⟩ kt wt).list = [(rnd ⟨ra, rb, rc, rd, re, rf, rg, rh⟩ kt wt).a, ra, rb, rc, (rnd ⟨ra, rb, rc, rd, re, rf, rg, rh⟩ kt wt).e, re, rf, rg] := rfl
                rw [rnd_a, rnd_e] at e
                refine ⟨t + 1, _, by omega, rfl, by go_num, Below.drew (balloc hb _), Lib.hid ?_, Lib.hid (Row.Own.drew (Row.Own.alloc HW.out _))⟩
                rw [HN.out, e]
                exact Row.Own.drew (own_new W3 _ hb.size _ 8 rfl (by decide))
              case measure => simp [intOf]; omega
            · obtain rfl : t = 64 := by omega
              have hd : decide ((64 : Int) < 64) = false := by decide
              have HB : Hid (block K s bk = s.plus (rounds K (sched (words bk 16) 48) s 64)) := Lib.hid rfl
              generalize rounds K (sched (words bk 16) 48) s 64 = r at HO HB
              obtain ⟨g2, cap2, rfl, hg2B, hg2l, hc2, hcm2, -, -⟩ := Ones.Own.at HO.out (by show 0 < 8; decide)
              have hl8 : r.list.length = 8 := rfl
              rw [hl8] at hc2 HO ⊢
              clear hl8 HW
              go_wp2_with fail
              rw [show ((64 : Nat) : Int) = 64 from rfl]
              go_loopw [20] (fun i wx => ∃ t : Nat, t ≤ 8 ∧ i = .int .i64 (t : Int) ∧ Below w.heap.size w wx ∧ Hid (Own32 wx w.heap.size (.slice (some ⟨g2, 0, none⟩) 8 cap2) ((r.plus s).list.take t ++ r.list.drop t))) (fun i _ => 8 - (intOf i).toNat)
              case atStart => exact ⟨0, by omega, rfl, hb, HO⟩
              case round =>
                clear HO hb
                obtain ⟨t, ht, rfl, hb, HO⟩ := hrel
                by_cases hlt : t < 8
                · have hd : decide ((t : Int) < 8) = true := decide_eq_true (by omega)
                  have hpl := plus_len r s t ht
                  obtain ⟨_, _, e_, _, _, _, _, hcw, hfw⟩ := Ones.Own.at HO.out (by omega)
                  simp only [Value.slice.injEq, Option.some.injEq, Addr.mk.injEq, and_true] at e_
                  obtain ⟨rfl, -, rfl⟩ := e_
                  have cv := hcw t (by omega)
                  have fv := hfw t
                  have HP := Lib.hid (plus_at r s t hlt)
                  rw [HP.out.1] at cv
                  obtain ⟨hb0, ho0, rfl, hhc⟩ := Ones.Lies.at HH.out (by decide)
                  have hs8 : s.list.length = 8 := rfl
                  have ch := keepC (hhc t (by omega)) hb
                  generalize r.list.getD t 0 = x at cv HP
                  generalize s.list.getD t 0 = y at ch HP
                  have j0 : (t : Int) < 8 := by omega
                  have h0t : (0 : Int) ≤ (t : Int) := by omega
                  clear hpl hcw hfw hhc hs8
                  go_wp2_with fail
                  go_still_tail 12, (by kernel_rfl)
                  go_wp2_with fail
                  go_roundw
                  case rel =>
                    refine ⟨t + 1, by omega, by go_num, Below.drew (bset hb hg2B _), Lib.hid ?_⟩
                    rw [← HP.out.2]
                    exact Row.Own.drew (Ones.Own.set HO.out t (add x y))
                  case measure => simp [intOf]; omega
                · obtain rfl : t = 8 := by omega
                  have hd : decide ((8 : Int) < 8) = false := by decide
                  have HE : Hid (Own32 wr w.heap.size (.slice (some ⟨g2, 0, none⟩) 8 cap2) (r.plus s).list) := HO
                  go_wp2
                  go_ret
                  exact ⟨_, rfl, by rw [HB.out, plus_comm]; exact HE.out, hb⟩
end RefSha
end Go.Proofs.YtibdpjhiblhnmaaDoor
