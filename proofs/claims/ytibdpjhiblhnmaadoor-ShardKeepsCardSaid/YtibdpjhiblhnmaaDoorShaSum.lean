
/- sha: a number's bytes, Sum, Of. -/
import Derived.Test.YtibdpjhiblhnmaaDoorShaAdd
import Derived.Test.YtibdpjhiblhnmaaDoorShelf
import Derived.Laws.BytesArg
import Derived.Deep.RegionHeld3
namespace Go.Proofs.YtibdpjhiblhnmaaDoor
namespace Sha
open Go.RowKit
/-- A row of bytes fills a block. -/
def Bytes (w : World) (b : Nat) (t : TypeId) (l : List UInt8) : Prop := w.heap[b]? = some (.cells (u8s l).toArray t (0, 0))
theorem Bytes.lt {w : World} {b : Nat} {t : TypeId} {l : List UInt8} (h : Bytes w b t l) : b < w.heap.size := (Array.getElem?_eq_some_iff.1 h).1
theorem Bytes.cell {w : World} {b : Nat} {t : TypeId} {l : List UInt8} (h : Bytes w b t l) (i : Nat) (hi : i < l.length) : w.cell? ⟨b, i, none⟩ = some (.int .u8 ((l.getD i 0).toNat : Int)) := by
  rw [cell_of_row w b i _ t _ h, List.getElem?_toArray, u8s, List.getElem?_map, List.getElem?_eq_getElem hi, List.getD_eq_getElem?_getD, List.getElem?_eq_getElem hi]
  rfl
theorem Bytes.frozen {w : World} {b : Nat} {t : TypeId} {l : List UInt8} (h : Bytes w b t l) (i : Nat) : w.frozen? ⟨b, i, none⟩ = false := frozen_of_row w b i _ t h
theorem Bytes.set {w : World} {b : Nat} {t : TypeId} {l : List UInt8} (h : Bytes w b t l) (i : Nat) (x : UInt8) : Bytes (w.setCell ⟨b, i, none⟩ (.int .u8 (x.toNat : Int))) b t (l.set i x) := by
  unfold Bytes
  rw [heap_setCell_same w b i _ t _ h, List.setIfInBounds_toArray, u8s, u8s, List.map_set]
theorem bytes_new (w : World) (t : TypeId) (n : Nat) : Bytes (w.alloc (.cells (Array.replicate n (.int .u8 0)) t)) w.heap.size t (List.replicate n 0) := by
  unfold Bytes
  rw [heap_alloc_new, u8s, List.map_replicate, List.toArray_replicate]
  rfl
/-- 'string(b[:])'. -/
theorem Bytes.conv {w : World} {b : Nat} {t : TypeId} {l : List UInt8} (h : Bytes w b t l) (n : Nat) (hn : n = l.length) :
    (convert 44 9 (.slice (some ⟨b, 0, none⟩) n n)).run Tryd.prog w = .ok (.string ⟨l.toArray⟩) w := by
  subst hn
  refine run_convert_bytes_back (P := Tryd.prog) _ 44 9 5 ⟨b, 0, none⟩ l.length l Tryd.underlying44 Tryd.underlying5 Tryd.underlying9 (fun j hj => ?_)
  rw [Go.WideShapes.add_plain, Nat.zero_add, h.cell j hj, List.getD_eq_getElem?_getD, List.getElem?_eq_getElem hj]
  rfl
theorem be8_at (n k : Nat) (hk : k < 8) : ((be8 n).take k ++ List.replicate (8 - k) 0).set k ((be8 n).getD k 0) = (be8 n).take (k + 1) ++ List.replicate (8 - (k + 1)) 0 := by
  have h : k = 0 ∨ k = 1 ∨ k = 2 ∨ k = 3 ∨ k = 4 ∨ k = 5 ∨ k = 6 ∨ k = 7 := by omega
  rcases h with rfl | rfl | rfl | rfl | rfl | rfl | rfl | rfl <;> rfl
theorem u8_of (n : Nat) : ((UInt8.ofNat n).toNat : Int) = (n : Int) % 256 := by
  rw [UInt8.toNat_ofNat']; omega
theorem b8_0 (n : Nat) (hn : n ≤ 18446744073709551615) : (((be8 n).getD 0 0).toNat : Int) = (n : Int) / 72057594037927936 := by
  show ((UInt8.ofNat (n / 72057594037927936)).toNat : Int) = _
  rw [u8_of] <;> omega
theorem b8_1 (n : Nat) : (((be8 n).getD 1 0).toNat : Int) = (n : Int) / 281474976710656 % 256 := by
  show ((UInt8.ofNat (n / 281474976710656)).toNat : Int) = _
  rw [u8_of] <;> omega
theorem b8_2 (n : Nat) : (((be8 n).getD 2 0).toNat : Int) = (n : Int) / 1099511627776 % 256 := by
  show ((UInt8.ofNat (n / 1099511627776)).toNat : Int) = _
  rw [u8_of] <;> omega
theorem b8_3 (n : Nat) : (((be8 n).getD 3 0).toNat : Int) = (n : Int) / 4294967296 % 256 := by
  show ((UInt8.ofNat (n / 4294967296)).toNat : Int) = _
  rw [u8_of] <;> omega
theorem b8_4 (n : Nat) : (((be8 n).getD 4 0).toNat : Int) = (n : Int) / 16777216 % 256 := by
  show ((UInt8.ofNat (n / 16777216)).toNat : Int) = _
  rw [u8_of] <;> omega
theorem b8_5 (n : Nat) : (((be8 n).getD 5 0).toNat : Int) = (n : Int) / 65536 % 256 := by
  show ((UInt8.ofNat (n / 65536)).toNat : Int) = _
  rw [u8_of] <;> omega
theorem b8_6 (n : Nat) : (((be8 n).getD 6 0).toNat : Int) = (n : Int) / 256 % 256 := by
  show ((UInt8.ofNat (n / 256)).toNat : Int) = _
  rw [u8_of] <;> omega
theorem b8_7 (n : Nat) : (((be8 n).getD 7 0).toNat : Int) = (n : Int) % 256 := by
  show ((UInt8.ofNat (n)).toNat : Int) = _
  rw [u8_of] <;> omega
set_option maxRecDepth 100000 in
set_option maxHeartbeats 1000000 in
theorem eight_any (n : Nat) (w : World) (hn : n ≤ 18446744073709551615) :
    Calls Tryd.prog 26 #[.int .u64 (n : Int)] w fun e w' => e = .returned (.string ⟨(be8 n).toArray⟩) ∧ Below w.heap.size w w' := by
  have h0 := Below.refl w.heap.size w
  go_enter Tryd.func26, Tryd.ntmps26
  go_wp2_with fail
  go_loopw [5] (fun i wx => ∃ k : Nat, k ≤ 8 ∧ i = .int .i64 (k : Int) ∧ Below w.heap.size w wx ∧ Hid (Bytes wx w.heap.size 79 ((be8 n).take k ++ List.replicate (8 - k) 0))) (fun i _ => 8 - (intOf i).toNat)
  case atStart => exact ⟨0, by omega, rfl, balloc h0 _, Lib.hid (bytes_new w _ 8)⟩
  case round =>
    obtain ⟨k, hk, rfl, hb, HR⟩ := hrel
    by_cases hlt : k < 8
    · have hset := HR.out.set k ((be8 n).getD k 0)
      rw [be8_at n k hlt] at hset
      have HS := Lib.hid hset
      have hl : ((be8 n).take k ++ List.replicate (8 - k) 0).length = 8 := by rw [List.length_append, List.length_take, List.length_replicate, show (be8 n).length = 8 from rfl]; omega
      have hc := HR.out.cell k (by omega)
      have hf := HR.out.frozen k
      generalize ((be8 n).take k ++ List.replicate (8 - k) 0).getD k 0 = z at hc
      clear hset hl
      have h : k = 0 ∨ k = 1 ∨ k = 2 ∨ k = 3 ∨ k = 4 ∨ k = 5 ∨ k = 6 ∨ k = 7 := by omega
      rcases h with rfl | rfl | rfl | rfl | rfl | rfl | rfl | rfl
      · go_wp2_with fail
        go_roundw
        case rel =>
          have h := HS.out
          rw [b8_0 n hn] at h
          exact ⟨1, by omega, rfl, bset hb (Nat.le_refl _) _, Lib.hid h⟩
        case measure => simp [intOf]
      · go_wp2_with fail
        go_roundw
        case rel =>
          have h := HS.out
          rw [b8_1 n] at h
          exact ⟨2, by omega, rfl, bset hb (Nat.le_refl _) _, Lib.hid h⟩
        case measure => simp [intOf]
      · go_wp2_with fail
        go_roundw
        case rel =>
          have h := HS.out
          rw [b8_2 n] at h
          exact ⟨3, by omega, rfl, bset hb (Nat.le_refl _) _, Lib.hid h⟩
        case measure => simp [intOf]
      · go_wp2_with fail
        go_roundw
        case rel =>
          have h := HS.out
          rw [b8_3 n] at h
          exact ⟨4, by omega, rfl, bset hb (Nat.le_refl _) _, Lib.hid h⟩
        case measure => simp [intOf]
      · go_wp2_with fail
        go_roundw
        case rel =>
          have h := HS.out
          rw [b8_4 n] at h
          exact ⟨5, by omega, rfl, bset hb (Nat.le_refl _) _, Lib.hid h⟩
        case measure => simp [intOf]
      · go_wp2_with fail
        go_roundw
        case rel =>
          have h := HS.out
          rw [b8_5 n] at h
          exact ⟨6, by omega, rfl, bset hb (Nat.le_refl _) _, Lib.hid h⟩
        case measure => simp [intOf]
      · go_wp2_with fail
        go_roundw
        case rel =>
          have h := HS.out
          rw [b8_6 n] at h
          exact ⟨7, by omega, rfl, bset hb (Nat.le_refl _) _, Lib.hid h⟩
        case measure => simp [intOf]
      · go_wp2_with fail
        go_roundw
        case rel =>
          have h := HS.out
          rw [b8_7 n] at h
          exact ⟨8, by omega, rfl, bset hb (Nat.le_refl _) _, Lib.hid h⟩
        case measure => simp [intOf]
    · obtain rfl : k = 8 := by omega
      have HC := Lib.hid (Bytes.conv (l := be8 n) HR.out 8 rfl)
      have hcv := HC.out
      go_wp2
      go_ret
      exact ⟨rfl, hb⟩
theorem repeat_zero : ∀ c, Lib.repeatL [0] c = List.replicate c 0
  | 0 => rfl
  | c + 1 => by rw [Lib.repeatL, repeat_zero c, List.replicate_succ]; rfl
theorem nulls_any (c : Nat) (w : World) (hc : c ≤ 64) :
    Calls Tryd.prog 25 #[.string { data := [0].toArray }, .int .i64 (c : Int)] w fun e w' => ∃ Z : List UInt8, Hid (Z = List.replicate c 0) ∧ e = .returned (.string ⟨Z.toArray⟩) ∧ Below w.heap.size w w' := by
  refine (Tryd.strings_Repeat { data := [0].toArray } c w (by omega) (by show 1 * c ≤ _; omega)).mono fun _ _ h => ⟨_, Lib.hid (repeat_zero c), h.1, h.2⟩
theorem eight_fresh (n : Nat) (w : World) (hn : n ≤ 18446744073709551615) :
    Calls Tryd.prog 26 #[.int .u64 (n : Int)] w fun e w' => ∃ E : List UInt8, Hid (E = be8 n) ∧ e = .returned (.string ⟨E.toArray⟩) ∧ Below w.heap.size w w' :=
  (eight_any n w hn).mono fun _ _ h => ⟨_, Lib.hid rfl, h.1, h.2⟩
/-- A hash is copied. -/
theorem copy_hash {w : World} {b : Nat} {l : List UInt8} (h : HI w b l) : ∃ (C : Array Value) (w2 : World), (Instr.loadAt 54 (.pointer (some ⟨b, 0, none⟩))).run Tryd.prog w = .ok (.agg C) w ∧
    (Instr.storeAt 54 (.pointer (some ⟨w.heap.size, 0, none⟩)) (.agg C)).run Tryd.prog (w.alloc (.cells Tryd.zeroCells54 54)) = .ok () w2 ∧
    HI w2 w.heap.size l ∧ Below w.heap.size w w2 := by
  obtain ⟨bk, h1, h2⟩ := h
  have hs : (Value.bool true :: (u32s (full l).list ++ (u8s bk ++ [.int .u64 (l.length : Int)]))).toArray.size = 74 := by
    simp only [List.size_toArray, List.length_cons, List.length_append, u32s_length, u8s_length, h1.2.1, List.length_nil]; rfl
  have hg := heap_alloc_new w (.cells Tryd.zeroCells54 54)
  refine ⟨(Value.bool true :: (u32s (full l).list ++ (u8s bk ++ [.int .u64 (l.length : Int)]))).toArray, (w.alloc (.cells Tryd.zeroCells54 54)).setRow w.heap.size (Value.bool true :: (u32s (full l).list ++ (u8s bk ++ [.int .u64 (l.length : Int)]))).toArray, ?_, ?_, ⟨bk, ⟨?_, h1.2⟩, h2⟩, ?_⟩
  · simp only [Instr.loadAt, Instr.sureAddr, Sem.run_bind, Sem.run_pure, Result.andThen_ok]
    exact run_loadVar_row w b 54 54 _ (0, 0) _ h1.1 Tryd.underlying54 rfl (by rw [hs]; kernel_rfl)
  · simp only [Instr.storeAt, Instr.sureAddr, Sem.run_bind, Sem.run_pure, Result.andThen_ok]
    exact run_storeVar_row _ w.heap.size 54 54 _ _ hg (by rw [hs]; kernel_rfl) (by rw [hs]; kernel_rfl) (all_oneCell_toArray (by
      intro v hv
      simp only [List.mem_cons, List.mem_append, List.not_mem_nil, or_false] at hv
      rcases hv with rfl | hv | hv | rfl
      · rfl
      · obtain ⟨x, _, rfl⟩ := List.mem_map.1 hv; rfl
      · obtain ⟨x, _, rfl⟩ := List.mem_map.1 hv; rfl
      · rfl))
  · exact setRow_heap _ _ _ _ _ _ hg
  · exact (balloc (Below.refl _ w) _).trans ⟨rfl, rfl, rfl, by simp, fun k hk => setRow_other _ _ k _ (by omega)⟩
theorem u8_word (x c : Int) (hx : 0 ≤ x) (hc : 0 < c) : ((UInt8.ofNat (x / c).toNat).toNat : Int) = x / c % 256 := by
  rw [u8_of, Int.toNat_of_nonneg (Int.ediv_nonneg hx (Int.le_of_lt hc))]
theorem u8_word1 (x : Int) (hx : 0 ≤ x) : ((UInt8.ofNat x.toNat).toNat : Int) = x % 256 := by
  rw [u8_of, Int.toNat_of_nonneg hx]
theorem cat3 (Z E X : List UInt8) (h : X = 128 :: (Z ++ E)) : (({ data := #[128] } : ByteArray) ++ { data := Z.toArray } ++ { data := E.toArray } = { data := X.toArray }) ∧ (({ data := #[128] } : ByteArray) ++ ({ data := Z.toArray } ++ { data := E.toArray }) = { data := X.toArray }) := by
  subst h
  have e : (({ data := #[128] } : ByteArray)) = { data := [128].toArray } := rfl
  rw [e, Str.mk_append_mk, Str.mk_append_mk, Str.mk_append_mk, Str.mk_append_mk]
  simp
theorem keepC {w w' : World} {p : Addr} {v : Value} (h : w.cell? p = some v) (k : Below w.heap.size w w') : w'.cell? p = some v := (k.cell (World.block_lt_of_cell? _ _ h)).trans h
theorem wpList_load_hash {ops : Array Oper} {rest : List Oper} {o : Oper} {a : Act} {w : World} {Q : Exit → Act → World → Prop} (hgd : o.guard = none) (x : Operand) (ho : o.op = .load 54 x)
    (b : Nat) (hx : a.eval x = .pointer (some ⟨b, 0, none⟩)) (C : Array Value) (hC : (Instr.loadAt 54 (.pointer (some ⟨b, 0, none⟩))).run Tryd.prog w = .ok (.agg C) w)
    (h : wpList Tryd.prog ops Q rest (a.put o.dst (.agg C)) w) : wpList Tryd.prog ops Q (o :: rest) a w :=
  wpList_plain hgd fun _ hK => by
    unfold Oper.wp execOp
    simp only [ho, hx, Sem.run_bind, hC, Result.andThen_ok, Sem.run_pure]
    exact hK _ _ h
theorem wpList_store_hash {ops : Array Oper} {rest : List Oper} {o : Oper} {a : Act} {w w' : World} {Q : Exit → Act → World → Prop} (hgd : o.guard = none) (x y : Operand) (ho : o.op = .store 54 x y)
    (b : Nat) (hx : a.eval x = .pointer (some ⟨b, 0, none⟩)) (C : Array Value) (hy : a.eval y = .agg C) (hC : (Instr.storeAt 54 (.pointer (some ⟨b, 0, none⟩)) (.agg C)).run Tryd.prog w = .ok () w')
    (h : wpList Tryd.prog ops Q rest (a.put o.dst undef) w') : wpList Tryd.prog ops Q (o :: rest) a w :=
  wpList_plain hgd fun _ hK => by
    unfold Oper.wp execOp
    simp only [ho, hx, hy, Sem.run_bind, hC, Result.andThen_ok, Sem.run_pure]
    exact hK _ _ h
set_option maxRecDepth 100000 in
set_option maxHeartbeats 1000000 in
theorem sum_any (b : Nat) (l : List UInt8) (w : World) (h : HI w b l) (ht : Tabs w) (hl : l.length ≤ 140737488355328) (h2 : 2 ≤ w.heap.size) :
    Calls Tryd.prog 16 #[.pointer (some ⟨b, 0, none⟩)] w fun e w' => e = .returned (.string ⟨(of l).toArray⟩) ∧ Below w.heap.size w w' := by
  have HT := Lib.hid ht
  have TH := Lib.hid (there_any b w h.choose_spec.1.cell0)
  have cN0 := h.choose_spec.1.size
  obtain ⟨C, w2, hld, hst, hHI, hb⟩ := copy_hash h
  have hlt := h.lt
  have cN := (hb.cell (p := ⟨b, 73, none⟩) hlt).trans cN0
  have HE := Lib.hid hHI
  obtain ⟨q, hq⟩ : ∃ q, q = l.length := ⟨_, rfl⟩
  rw [← hq] at cN0 cN hl
  have HQ := Lib.hid hq
  have hbn : b ≠ w.heap.size := by omega
  obtain ⟨z, hz⟩ : ∃ z, z = (119 - q % 64) % 64 := ⟨_, rfl⟩
  have hz1 : IntKind.i64.wrap (119 - (q : Int) % 64) = 119 - (q : Int) % 64 := by rw [IntKind.wrap_i64]; omega
  have hz2 : (119 - (q : Int) % 64) % 64 = (z : Int) := by omega
  have hz3 : z ≤ 64 := by omega
  obtain ⟨m, hm⟩ : ∃ m, m = 8 * q := ⟨_, rfl⟩
  have hq8 : (q : Int) * 8 = (m : Int) := by omega
  have hq9 : IntKind.u64.wrap (m : Int) = (m : Int) := by rw [IntKind.wrap_u64]; omega
  have hm8 : m ≤ 18446744073709551615 := by omega
  have HM := Lib.hid hm
  have HZ := Lib.hid hz
  clear h ht hHI hq hz hm
  go_enter Tryd.func16, Tryd.ntmps16
  go_wp2_with fail
  refine TH.out.mono ?_
  rintro e w' ⟨rfl, rfl⟩
  go_wp2_with (first | (with_reducible refine wpList_load_hash rfl _ rfl b rfl C hld ?_) | (with_reducible refine wpList_store_hash rfl _ _ rfl w.heap.size rfl C rfl hst ?_))
  go_wp2_with fail
  refine wp_region_noPanic ?_
  refine wp_region_held_drew (S := (fun w' => Below w.heap.size w w' ∧ w'.cell? ⟨b, 73, none⟩ = some (.int .u64 (q : Int)))) (by kernel_rfl) (⟨Below.drew hb, keepC cN (Below.drew (Below.refl _ _))⟩) (fun hHeld => ?_)
  refine wpAnyH_take (i := 0) (v := ?_) (by simp only [List.getElem?_toArray, List.getElem?_cons_zero]; rfl) (by kernel_rfl) (by kernel_rfl) (by kernel_rfl) (fun _ _ _ h => h) (Or.inl ⟨by rfl, ?_⟩) (by assumption) ?_
  rotate_left
  · (intro w hSw; (try dsimp only at hSw); go_simp; try with_reducible rfl)
  try simp only [Act.put, List.setIfInBounds_toArray, List.set_cons_zero, List.set_cons_succ]
  refine wpAnyH_take (i := 3) (v := ?_) (by simp only [List.getElem?_toArray, List.getElem?_cons_succ, List.getElem?_cons_zero]; rfl) (by kernel_rfl) (by kernel_rfl) (by kernel_rfl) (fun _ _ _ h => h) (Or.inl ⟨by rfl, ?_⟩) (by assumption) ?_
  rotate_left
  · (intro w hSw; (try dsimp only at hSw); go_simp; try with_reducible rfl)
  try simp only [Act.put, List.setIfInBounds_toArray, List.set_cons_zero, List.set_cons_succ]
  refine wpAnyH_take (i := 4) (v := ?_) (by simp only [List.getElem?_toArray, List.getElem?_cons_succ, List.getElem?_cons_zero]; rfl) (by kernel_rfl) (by kernel_rfl) (by kernel_rfl) (fun _ _ _ h => h) (Or.inl ⟨by rfl, ?_⟩) (by assumption) ?_
  rotate_left
  · (intro w hSw; (try dsimp only at hSw); go_simp; try with_reducible rfl)
  try simp only [Act.put, List.setIfInBounds_toArray, List.set_cons_zero, List.set_cons_succ]
  refine wpAnyH_take (i := 5) (v := ?_) (by simp only [List.getElem?_toArray, List.getElem?_cons_succ, List.getElem?_cons_zero]; rfl) (by kernel_rfl) (by kernel_rfl) (by kernel_rfl) (fun _ _ _ h => h) (Or.inl ⟨by rfl, ?_⟩) (by assumption) ?_
  rotate_left
  · (intro w hSw; (try dsimp only at hSw); go_simp; try with_reducible rfl)
  try simp only [Act.put, List.setIfInBounds_toArray, List.set_cons_zero, List.set_cons_succ]
  refine wpAnyH_take (i := 6) (v := ?_) (by simp only [List.getElem?_toArray, List.getElem?_cons_succ, List.getElem?_cons_zero]; rfl) (by kernel_rfl) (by kernel_rfl) (by kernel_rfl) (fun _ _ _ h => h) (Or.inl ⟨by rfl, ?_⟩) (by assumption) ?_
  rotate_left
  · (intro w hSw; (try dsimp only at hSw); go_simp; try with_reducible rfl)
  try simp only [Act.put, List.setIfInBounds_toArray, List.set_cons_zero, List.set_cons_succ]
  refine wpAnyH_take (i := 7) (v := ?_) (by simp only [List.getElem?_toArray, List.getElem?_cons_succ, List.getElem?_cons_zero]; rfl) (by kernel_rfl) (by kernel_rfl) (by kernel_rfl) (fun _ _ _ h => h) (Or.inl ⟨by rfl, ?_⟩) (by assumption) ?_
  rotate_left
  · (intro w hSw; (try dsimp only at hSw); go_simp; try with_reducible rfl)
  try simp only [Act.put, List.setIfInBounds_toArray, List.set_cons_zero, List.set_cons_succ]
  refine wpAnyH_ready (rs := [1]) (by kernel_rfl) (by simp) ?_
  refine AllReadyH.cons (by simp only [List.getElem?_toArray, List.getElem?_cons_succ, List.getElem?_cons_zero]; rfl) (fun K hK => ?_) AllReadyH.nil
  go_simp
  go_at_call 25
  refine (nulls_any z _ hz3).mono ?_
  rintro e v1 ⟨Z, hZ, rfl, k1⟩
  have zl : Z.length = z := by rw [hZ.out, List.length_replicate]
  have zn : ¬ (9223372036854775807 < 1 + Z.length) := by omega
  have zn2 : ¬ (9223372036854775807 < 1 + Z.length + 8) := by omega
  have ZL := Lib.hid zl
  clear zl
  have HB1 := Lib.hid ((HE.out.below (Below.drew (Below.refl _ _))).below k1)
  have HT1 := Lib.hid ((HT.out.below (hb.trans (Below.drew (Below.refl _ _) |>.mono hb.size))))
  go_wp2_with fail
  refine hK.out _ _ (⟨bstep hHeld.1 k1, keepC hHeld.2 k1⟩) (fun hHeld => ?_)
  clear hK K
  try simp only [Act.put, List.setIfInBounds_toArray, List.set_cons_zero, List.set_cons_succ]
  refine wpAnyH_take (i := 2) (v := ?_) (by simp only [List.getElem?_toArray, List.getElem?_cons_succ, List.getElem?_cons_zero]; rfl) (by kernel_rfl) (by kernel_rfl) (by kernel_rfl) (fun _ _ _ h => h) (Or.inl ⟨by rfl, ?_⟩) (by assumption) ?_
  rotate_left
  · (intro w hSw; (try dsimp only at hSw); go_simp; try with_reducible rfl)
  try simp only [Act.put, List.setIfInBounds_toArray, List.set_cons_zero, List.set_cons_succ]
  refine wpAnyH_ready (rs := [8]) (by kernel_rfl) (by simp) ?_
  refine AllReadyH.cons (by simp only [List.getElem?_toArray, List.getElem?_cons_succ, List.getElem?_cons_zero]; rfl) (fun K hK => ?_) AllReadyH.nil
  go_simp
  go_at_call 26
  refine (eight_fresh m _ hm8).mono ?_
  rintro e v2 ⟨E, hE, rfl, k2⟩
  have el : E.length = 8 := by rw [hE.out]; rfl
  have HB2 := Lib.hid (HB1.out.below k2)
  obtain ⟨X, hX⟩ : ∃ X, X = 128 :: (Z ++ E) := ⟨_, rfl⟩
  obtain ⟨c1, c2⟩ := cat3 Z E X hX
  have HX := Lib.hid hX
  clear hX
  go_wp2_with fail
  refine hK.out _ _ (⟨bstep hHeld.1 k2, keepC hHeld.2 k2⟩) (fun hHeld => ?_)
  clear hK K
  try simp only [Act.put, List.setIfInBounds_toArray, List.set_cons_zero, List.set_cons_succ]
  refine wpAnyH_take (i := 9) (v := ?_) (by simp only [List.getElem?_toArray, List.getElem?_cons_succ, List.getElem?_cons_zero]; rfl) (by kernel_rfl) (by kernel_rfl) (by kernel_rfl) (fun _ _ _ h => h) (Or.inl ⟨by rfl, ?_⟩) (by assumption) ?_
  rotate_left
  · (intro w hSw; (try dsimp only at hSw); go_simp; try with_reducible rfl)
  try simp only [Act.put, List.setIfInBounds_toArray, List.set_cons_zero, List.set_cons_succ]
  refine wpAnyH_ready (rs := [10]) (by kernel_rfl) (by simp) ?_
  refine AllReadyH.cons (by simp only [List.getElem?_toArray, List.getElem?_cons_succ, List.getElem?_cons_zero]; rfl) (fun K hK => ?_) AllReadyH.nil
  go_simp
  go_at_call 15
  refine (add_any w.heap.size l X _ HB2.out (HT.out.below hHeld.1) h2 (by rw [HX.out, ← HQ.out, List.length_cons, List.length_append, ZL.out, el]; omega)).mono ?_
  rintro e v3 ⟨rfl, hI3, k3⟩
  go_wp2_with fail
  refine hK.out _ _ (⟨But.below hHeld.1 k3 (Nat.le_refl _) hHeld.1.size, (k3.cell (World.block_lt_of_cell? _ _ hHeld.2) hbn).trans hHeld.2⟩) (fun hHeld => ?_)
  clear hK K
  try simp only [Act.put, List.setIfInBounds_toArray, List.set_cons_zero, List.set_cons_succ]
  refine wpAnyH_done (by kernel_rfl) ?_ _
  refine NoPanic.normal ?_
  obtain hHeld := hHeld
  obtain ⟨hb3, -⟩ := hHeld
  obtain ⟨bk, hI, -⟩ := hI3
  obtain ⟨s, hs⟩ : ∃ s, s = full (l ++ X) := ⟨_, rfl⟩
  have hok := full_ok (l ++ X)
  have HV : Hid (of l = out s) := Lib.hid (by rw [hs, HX.out, hZ.out, hE.out, HZ.out, HM.out, HQ.out]; rfl)
  rw [← hs] at hI hok
  obtain ⟨xa, xb, xc, xd, xe, xf, xg, xh⟩ := s
  have y0 := hI.word 0 (by decide)
  have y1 := hI.word 1 (by decide)
  have y2 := hI.word 2 (by decide)
  have y3 := hI.word 3 (by decide)
  have y4 := hI.word 4 (by decide)
  have y5 := hI.word 5 (by decide)
  have y6 := hI.word 6 (by decide)
  have y7 := hI.word 7 (by decide)
  simp only [St.list, Nat.reduceAdd, List.getD_cons_zero, List.getD_cons_succ] at y0 y1 y2 y3 y4 y5 y6 y7
  simp only [St.list, List.mem_cons, List.not_mem_nil, or_false, forall_eq_or_imp, forall_eq] at hok
  obtain ⟨oa, ob, oc, od, oe, of', og, oh⟩ := hok
  have hlv := hI.lt
  clear hI hs hld hst
  go_wp2_with fail
  go_loopw [35] (fun i wx => ∃ k : Nat, k ≤ 8 ∧ i = .int .i64 (k : Int) ∧ Below w.heap.size w wx ∧ Hid (Bytes wx v3.heap.size 57 ((out ⟨xa, xb, xc, xd, xe, xf, xg, xh⟩).take (4 * k) ++ List.replicate (32 - 4 * k) 0))) (fun i _ => 8 - (intOf i).toNat)
  case atStart => exact ⟨0, by omega, rfl, balloc hb3 _, Lib.hid (bytes_new v3 _ 32)⟩
  case round =>
    obtain ⟨k, hk, rfl, hb, HR⟩ := hrel
    have hD : w.heap.size ≤ v3.heap.size := hb3.size
    by_cases hlt : k < 8
    · have h : k = 0 ∨ k = 1 ∨ k = 2 ∨ k = 3 ∨ k = 4 ∨ k = 5 ∨ k = 6 ∨ k = 7 := by omega
      rcases h with rfl | rfl | rfl | rfl | rfl | rfl | rfl | rfl
      · have ix : ∀ w, (Instr.index 50 (.agg #[.int .u32 xa, .int .u32 xb, .int .u32 xc, .int .u32 xd, .int .u32 xe, .int .u32 xf, .int .u32 xg, .int .u32 xh]) (.int .i64 ((0 : Nat) : Int))).run Tryd.prog w = .ok (.int .u32 xa) w := fun _ => by kernel_rfl
        have iy : ∀ w, (Instr.index 50 (.agg #[.int .u32 xa, .int .u32 xb, .int .u32 xc, .int .u32 xd, .int .u32 xe, .int .u32 xf, .int .u32 xg, .int .u32 xh]) (.int .i64 0)).run Tryd.prog w = .ok (.int .u32 xa) w := fun _ => by kernel_rfl
        have hf := HR.out.frozen
        have z0 := HR.out.cell 0 (by show 0 < 32; decide)
        have z1 := HR.out.cell 1 (by show 1 < 32; decide)
        have z2 := HR.out.cell 2 (by show 2 < 32; decide)
        have z3 := HR.out.cell 3 (by show 3 < 32; decide)
        have hf0 := hf 0
        have hf1 := hf 1
        have hf2 := hf 2
        have hf3 := hf 3
        clear hf
        go_wp2_with fail
        go_roundw
        case rel =>
          have h := (((HR.out.set 0 (UInt8.ofNat (xa / 16777216).toNat)).set 1 (UInt8.ofNat (xa / 65536).toNat)).set 2 (UInt8.ofNat (xa / 256).toNat)).set 3 (UInt8.ofNat xa.toNat)
          rw [u8_word xa 16777216 oa (by decide), u8_word xa 65536 oa (by decide), u8_word xa 256 oa (by decide), u8_word1 xa oa] at h
          exact ⟨1, by omega, rfl, bset (bset (bset (bset hb hD _) hD _) hD _) hD _, Lib.hid h⟩
        case measure => simp [intOf]
      · have ix : ∀ w, (Instr.index 50 (.agg #[.int .u32 xa, .int .u32 xb, .int .u32 xc, .int .u32 xd, .int .u32 xe, .int .u32 xf, .int .u32 xg, .int .u32 xh]) (.int .i64 ((1 : Nat) : Int))).run Tryd.prog w = .ok (.int .u32 xb) w := fun _ => by kernel_rfl
        have iy : ∀ w, (Instr.index 50 (.agg #[.int .u32 xa, .int .u32 xb, .int .u32 xc, .int .u32 xd, .int .u32 xe, .int .u32 xf, .int .u32 xg, .int .u32 xh]) (.int .i64 1)).run Tryd.prog w = .ok (.int .u32 xb) w := fun _ => by kernel_rfl
        have hf := HR.out.frozen
        have z0 := HR.out.cell 4 (by show 4 < 32; decide)
        have z1 := HR.out.cell 5 (by show 5 < 32; decide)
        have z2 := HR.out.cell 6 (by show 6 < 32; decide)
        have z3 := HR.out.cell 7 (by show 7 < 32; decide)
        have hf0 := hf 4
        have hf1 := hf 5
        have hf2 := hf 6
        have hf3 := hf 7
        clear hf
        go_wp2_with fail
        go_roundw
        case rel =>
          have h := (((HR.out.set 4 (UInt8.ofNat (xb / 16777216).toNat)).set 5 (UInt8.ofNat (xb / 65536).toNat)).set 6 (UInt8.ofNat (xb / 256).toNat)).set 7 (UInt8.ofNat xb.toNat)
          rw [u8_word xb 16777216 ob (by decide), u8_word xb 65536 ob (by decide), u8_word xb 256 ob (by decide), u8_word1 xb ob] at h
          exact ⟨2, by omega, rfl, bset (bset (bset (bset hb hD _) hD _) hD _) hD _, Lib.hid h⟩
        case measure => simp [intOf]
      · have ix : ∀ w, (Instr.index 50 (.agg #[.int .u32 xa, .int .u32 xb, .int .u32 xc, .int .u32 xd, .int .u32 xe, .int .u32 xf, .int .u32 xg, .int .u32 xh]) (.int .i64 ((2 : Nat) : Int))).run Tryd.prog w = .ok (.int .u32 xc) w := fun _ => by kernel_rfl
        have iy : ∀ w, (Instr.index 50 (.agg #[.int .u32 xa, .int .u32 xb, .int .u32 xc, .int .u32 xd, .int .u32 xe, .int .u32 xf, .int .u32 xg, .int .u32 xh]) (.int .i64 2)).run Tryd.prog w = .ok (.int .u32 xc) w := fun _ => by kernel_rfl
        have hf := HR.out.frozen
        have z0 := HR.out.cell 8 (by show 8 < 32; decide)
        have z1 := HR.out.cell 9 (by show 9 < 32; decide)
        have z2 := HR.out.cell 10 (by show 10 < 32; decide)
        have z3 := HR.out.cell 11 (by show 11 < 32; decide)
        have hf0 := hf 8
        have hf1 := hf 9
        have hf2 := hf 10
        have hf3 := hf 11
        clear hf
        go_wp2_with fail
        go_roundw
        case rel =>
          have h := (((HR.out.set 8 (UInt8.ofNat (xc / 16777216).toNat)).set 9 (UInt8.ofNat (xc / 65536).toNat)).set 10 (UInt8.ofNat (xc / 256).toNat)).set 11 (UInt8.ofNat xc.toNat)
          rw [u8_word xc 16777216 oc (by decide), u8_word xc 65536 oc (by decide), u8_word xc 256 oc (by decide), u8_word1 xc oc] at h
          exact ⟨3, by omega, rfl, bset (bset (bset (bset hb hD _) hD _) hD _) hD _, Lib.hid h⟩
        case measure => simp [intOf]
      · have ix : ∀ w, (Instr.index 50 (.agg #[.int .u32 xa, .int .u32 xb, .int .u32 xc, .int .u32 xd, .int .u32 xe, .int .u32 xf, .int .u32 xg, .int .u32 xh]) (.int .i64 ((3 : Nat) : Int))).run Tryd.prog w = .ok (.int .u32 xd) w := fun _ => by kernel_rfl
        have iy : ∀ w, (Instr.index 50 (.agg #[.int .u32 xa, .int .u32 xb, .int .u32 xc, .int .u32 xd, .int .u32 xe, .int .u32 xf, .int .u32 xg, .int .u32 xh]) (.int .i64 3)).run Tryd.prog w = .ok (.int .u32 xd) w := fun _ => by kernel_rfl
        have hf := HR.out.frozen
        have z0 := HR.out.cell 12 (by show 12 < 32; decide)
        have z1 := HR.out.cell 13 (by show 13 < 32; decide)
        have z2 := HR.out.cell 14 (by show 14 < 32; decide)
        have z3 := HR.out.cell 15 (by show 15 < 32; decide)
        have hf0 := hf 12
        have hf1 := hf 13
        have hf2 := hf 14
        have hf3 := hf 15
        clear hf
        go_wp2_with fail
        go_roundw
        case rel =>
          have h := (((HR.out.set 12 (UInt8.ofNat (xd / 16777216).toNat)).set 13 (UInt8.ofNat (xd / 65536).toNat)).set 14 (UInt8.ofNat (xd / 256).toNat)).set 15 (UInt8.ofNat xd.toNat)
          rw [u8_word xd 16777216 od (by decide), u8_word xd 65536 od (by decide), u8_word xd 256 od (by decide), u8_word1 xd od] at h
          exact ⟨4, by omega, rfl, bset (bset (bset (bset hb hD _) hD _) hD _) hD _, Lib.hid h⟩
        case measure => simp [intOf]
      · have ix : ∀ w, (Instr.index 50 (.agg #[.int .u32 xa, .int .u32 xb, .int .u32 xc, .int .u32 xd, .int .u32 xe, .int .u32 xf, .int .u32 xg, .int .u32 xh]) (.int .i64 ((4 : Nat) : Int))).run Tryd.prog w = .ok (.int .u32 xe) w := fun _ => by kernel_rfl
        have iy : ∀ w, (Instr.index 50 (.agg #[.int .u32 xa, .int .u32 xb, .int .u32 xc, .int .u32 xd, .int .u32 xe, .int .u32 xf, .int .u32 xg, .int .u32 xh]) (.int .i64 4)).run Tryd.prog w = .ok (.int .u32 xe) w := fun _ => by kernel_rfl
        have hf := HR.out.frozen
        have z0 := HR.out.cell 16 (by show 16 < 32; decide)
        have z1 := HR.out.cell 17 (by show 17 < 32; decide)
        have z2 := HR.out.cell 18 (by show 18 < 32; decide)
        have z3 := HR.out.cell 19 (by show 19 < 32; decide)
        have hf0 := hf 16
        have hf1 := hf 17
        have hf2 := hf 18
        have hf3 := hf 19
        clear hf
        go_wp2_with fail
        go_roundw
        case rel =>
          have h := (((HR.out.set 16 (UInt8.ofNat (xe / 16777216).toNat)).set 17 (UInt8.ofNat (xe / 65536).toNat)).set 18 (UInt8.ofNat (xe / 256).toNat)).set 19 (UInt8.ofNat xe.toNat)
          rw [u8_word xe 16777216 oe (by decide), u8_word xe 65536 oe (by decide), u8_word xe 256 oe (by decide), u8_word1 xe oe] at h
          exact ⟨5, by omega, rfl, bset (bset (bset (bset hb hD _) hD _) hD _) hD _, Lib.hid h⟩
        case measure => simp [intOf]
      · have ix : ∀ w, (Instr.index 50 (.agg #[.int .u32 xa, .int .u32 xb, .int .u32 xc, .int .u32 xd, .int .u32 xe, .int .u32 xf, .int .u32 xg, .int .u32 xh]) (.int .i64 ((5 : Nat) : Int))).run Tryd.prog w = .ok (.int .u32 xf) w := fun _ => by kernel_rfl
        have iy : ∀ w, (Instr.index 50 (.agg #[.int .u32 xa, .int .u32 xb, .int .u32 xc, .int .u32 xd, .int .u32 xe, .int .u32 xf, .int .u32 xg, .int .u32 xh]) (.int .i64 5)).run Tryd.prog w = .ok (.int .u32 xf) w := fun _ => by kernel_rfl
        have hf := HR.out.frozen
        have z0 := HR.out.cell 20 (by show 20 < 32; decide)
        have z1 := HR.out.cell 21 (by show 21 < 32; decide)
        have z2 := HR.out.cell 22 (by show 22 < 32; decide)
        have z3 := HR.out.cell 23 (by show 23 < 32; decide)
        have hf0 := hf 20
        have hf1 := hf 21
        have hf2 := hf 22
        have hf3 := hf 23
        clear hf
        go_wp2_with fail
        go_roundw
        case rel =>
          have h := (((HR.out.set 20 (UInt8.ofNat (xf / 16777216).toNat)).set 21 (UInt8.ofNat (xf / 65536).toNat)).set 22 (UInt8.ofNat (xf / 256).toNat)).set 23 (UInt8.ofNat xf.toNat)
          rw [u8_word xf 16777216 of' (by decide), u8_word xf 65536 of' (by decide), u8_word xf 256 of' (by decide), u8_word1 xf of'] at h
          exact ⟨6, by omega, rfl, bset (bset (bset (bset hb hD _) hD _) hD _) hD _, Lib.hid h⟩
        case measure => simp [intOf]
      · have ix : ∀ w, (Instr.index 50 (.agg #[.int .u32 xa, .int .u32 xb, .int .u32 xc, .int .u32 xd, .int .u32 xe, .int .u32 xf, .int .u32 xg, .int .u32 xh]) (.int .i64 ((6 : Nat) : Int))).run Tryd.prog w = .ok (.int .u32 xg) w := fun _ => by kernel_rfl
        have iy : ∀ w, (Instr.index 50 (.agg #[.int .u32 xa, .int .u32 xb, .int .u32 xc, .int .u32 xd, .int .u32 xe, .int .u32 xf, .int .u32 xg, .int .u32 xh]) (.int .i64 6)).run Tryd.prog w = .ok (.int .u32 xg) w := fun _ => by kernel_rfl
        have hf := HR.out.frozen
        have z0 := HR.out.cell 24 (by show 24 < 32; decide)
        have z1 := HR.out.cell 25 (by show 25 < 32; decide)
        have z2 := HR.out.cell 26 (by show 26 < 32; decide)
        have z3 := HR.out.cell 27 (by show 27 < 32; decide)
        have hf0 := hf 24
        have hf1 := hf 25
        have hf2 := hf 26
        have hf3 := hf 27
        clear hf
        go_wp2_with fail
        go_roundw
        case rel =>
          have h := (((HR.out.set 24 (UInt8.ofNat (xg / 16777216).toNat)).set 25 (UInt8.ofNat (xg / 65536).toNat)).set 26 (UInt8.ofNat (xg / 256).toNat)).set 27 (UInt8.ofNat xg.toNat)
          rw [u8_word xg 16777216 og (by decide), u8_word xg 65536 og (by decide), u8_word xg 256 og (by decide), u8_word1 xg og] at h
          exact ⟨7, by omega, rfl, bset (bset (bset (bset hb hD _) hD _) hD _) hD _, Lib.hid h⟩
        case measure => simp [intOf]
      · have ix : ∀ w, (Instr.index 50 (.agg #[.int .u32 xa, .int .u32 xb, .int .u32 xc, .int .u32 xd, .int .u32 xe, .int .u32 xf, .int .u32 xg, .int .u32 xh]) (.int .i64 ((7 : Nat) : Int))).run Tryd.prog w = .ok (.int .u32 xh) w := fun _ => by kernel_rfl
        have iy : ∀ w, (Instr.index 50 (.agg #[.int .u32 xa, .int .u32 xb, .int .u32 xc, .int .u32 xd, .int .u32 xe, .int .u32 xf, .int .u32 xg, .int .u32 xh]) (.int .i64 7)).run Tryd.prog w = .ok (.int .u32 xh) w := fun _ => by kernel_rfl
        have hf := HR.out.frozen
        have z0 := HR.out.cell 28 (by show 28 < 32; decide)
        have z1 := HR.out.cell 29 (by show 29 < 32; decide)
        have z2 := HR.out.cell 30 (by show 30 < 32; decide)
        have z3 := HR.out.cell 31 (by show 31 < 32; decide)
        have hf0 := hf 28
        have hf1 := hf 29
        have hf2 := hf 30
        have hf3 := hf 31
        clear hf
        go_wp2_with fail
        go_roundw
        case rel =>
          have h := (((HR.out.set 28 (UInt8.ofNat (xh / 16777216).toNat)).set 29 (UInt8.ofNat (xh / 65536).toNat)).set 30 (UInt8.ofNat (xh / 256).toNat)).set 31 (UInt8.ofNat xh.toNat)
          rw [u8_word xh 16777216 oh (by decide), u8_word xh 65536 oh (by decide), u8_word xh 256 oh (by decide), u8_word1 xh oh] at h
          exact ⟨8, by omega, rfl, bset (bset (bset (bset hb hD _) hD _) hD _) hD _, Lib.hid h⟩
        case measure => simp [intOf]
    · obtain rfl : k = 8 := by omega
      have HC := Lib.hid (Bytes.conv (l := out ⟨xa, xb, xc, xd, xe, xf, xg, xh⟩) HR.out 32 rfl)
      have hcv := HC.out
      go_wp2
      go_ret
      exact ⟨by rw [HV.out]; rfl, hb⟩
end Sha
end Go.Proofs.YtibdpjhiblhnmaaDoor
