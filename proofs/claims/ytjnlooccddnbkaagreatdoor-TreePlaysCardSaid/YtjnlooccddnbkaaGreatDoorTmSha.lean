/- Merged texts: ShaAdd, ShaSum, ShaOf, ShaLaid. -/
import Derived.Test.YtjnlooccddnbkaaGreatDoorTmShaMix
import Derived.Test.YtjnlooccddnbkaaGreatDoorTmSha0
import Derived.Lib.BufferWrite
import Derived.Test.YtjnlooccddnbkaaGreatDoorShelf
import Derived.Laws.BytesArg
import Derived.Deep.RegionHeld3
import Derived.Test.YtjnlooccddnbkaaGreatDoorTmBase
import Derived.Lib.LaidTab
import Derived.LaidSub
namespace Go.Proofs.YtjnlooccddnbkaaGreatDoor
namespace Sha
open Go.RowKit
/-- 'copy(dst, s)' of a text, as much as goes in. -/
theorem run_copy_str {P : Program} (w : World) (dT sT ty elem : TypeId) (g o dLen dCap m : Nat) (l : List UInt8) (cur : Array Value) (t : TypeId)
    (hu : P.underlying dT = some (.slice elem)) (hs : (P.info? elem).map (·.size) = some 1) (hg : w.heap[g]? = some (.cells cur t (0, 0))) (hm : m = min l.length dLen) (hfit : o + m ≤ cur.size) :
    (Builtin.copy_ #[dT, sT] ty #[.slice (some ⟨g, o, none⟩) dLen dCap, .string ⟨l.toArray⟩]).run P w =
      .ok (.int .i64 (m : Int)) (w.setRow g (cur.toList.take o ++ u8s (l.take m) ++ cur.toList.drop (o + m)).toArray) := by
  have hlen : (u8s (l.take m)).length = m := by rw [u8s_length, List.length_take]; omega
  have hst := run_storeCells_at P g o t (u8s (l.take m)) 0 cur w hg (by rw [hlen]; simpa using hfit) (by
    intro v hv
    obtain ⟨x, _, rfl⟩ := List.mem_map.1 hv
    rfl)
  have hmin : Nat.min l.length dLen = m := hm.symm
  rw [hlen] at hst
  simp only [Nat.add_zero] at hst
  have hsz := Str.size_mk l
  have htk : List.take m (List.map (fun b : UInt8 => Value.int IntKind.u8 (b.toNat : Int)) l) = u8s (l.take m) := by rw [u8s, List.map_take]
  cases hq : P.info? elem with
  | none => simp [hq] at hs
  | some i =>
    simp [Builtin.copy_, run_underlying hu, Builtin.lenOf, Builtin.firstCells, sizeOf, typeInfo, hq, hsz, hmin]
    rw [htk, hst]
    simp [Result.andThen, goInt]
/-- The program's two tables lie there. -/
def Tabs (w : World) : Prop := Tab w K0 ∧ ∃ t, Row w 0 t H0.list
theorem Tabs.below {w w' : World} (h : Tabs w) (k : Below w.heap.size w w') : Tabs w' := by
  obtain ⟨h1, t, h2⟩ := h
  exact ⟨h1.below k, t, (k.block _ h2.lt).trans h2⟩
theorem Tabs.but {w w' : World} {b : Nat} (h : Tabs w) (k : But b w w') (hb : 2 ≤ b) : Tabs w' := by
  obtain ⟨⟨t1, h1, h3⟩, t, h2⟩ := h
  exact ⟨⟨t1, (k.block _ h1.lt (by omega)).trans h1, h3⟩, t, (k.block _ h2.lt (by omega)).trans h2⟩
theorem there_any (b : Nat) (w : World) (h : w.cell? ⟨b, 0, none⟩ = some (.bool true)) :
    Calls Tryz.prog 79 #[.pointer (some ⟨b, 0, none⟩)] w fun e w' => e = .returned (.bool true) ∧ w = w' := by
  go_enter Tryz.func79, Tryz.ntmps79
  go_wp2
  go_ret
  exact ⟨rfl, rfl⟩
/-- A hash into which bytes came. -/
def HI (w : World) (b : Nat) (l : List UInt8) : Prop := ∃ bk, IsL w b (full l).list bk (l.length : Int) ∧ bk.take (l.length % 64) = rest l
theorem HI.lt {w : World} {b : Nat} {l : List UInt8} (h : HI w b l) : b < w.heap.size := h.choose_spec.1.lt
theorem HI.below {w w' : World} {b : Nat} {l : List UInt8} (h : HI w b l) (k : Below w.heap.size w w') : HI w' b l := by
  obtain ⟨bk, h1, h2⟩ := h
  exact ⟨bk, h1.below k, h2⟩
theorem HI.but {w w' : World} {b c : Nat} {l : List UInt8} (h : HI w b l) (k : But c w w') (hb : b ≠ c) : HI w' b l := by
  obtain ⟨bk, h1, h2⟩ := h
  exact ⟨bk, h1.block (k.block _ h1.lt hb), h2⟩
set_option maxRecDepth 100000 in
set_option maxHeartbeats 1000000 in
theorem new_any (w : World) (h : Tabs w) :
    Calls Tryz.prog 55 #[] w fun e w' => e = .returned (.pointer (some ⟨w.heap.size, 0, none⟩)) ∧ HI w' w.heap.size [] ∧ w'.heap.size = w.heap.size + 1 ∧ Below w.heap.size w w' := by
  obtain ⟨-, t, h2⟩ := h
  obtain ⟨c0, c1, c2, c3, c4, c5, c6, c7⟩ := h2.eight
  clear h2
  go_enter Tryz.func55, Tryz.ntmps55
  go_wp2_with fail
  go_ret
  refine ⟨rfl, ⟨List.replicate 64 0, ⟨?_, rfl, rfl⟩, rfl⟩, by simp, balloc (Below.refl _ _) _⟩
  rw [heap_alloc_new]
  exact congrArg (fun c => some (Obj.cells c 126 (0, 0))) (by kernel_rfl)
theorem sliceAt_at (b a : Nat) (w : World) (ha : a < 64) : (Instr.sliceAt 124 (.pointer (some ⟨b, 9, none⟩)) (some (.int .i64 (a : Int))) none none).run Tryz.prog w = .ok (.slice (some ⟨b, 9 + a, none⟩) (64 - a) (64 - a)) w := by
  have hn : Tryz.prog.arrayLen 124 = 64 := by kernel_rfl
  have hz : (sizeOf (Tryz.prog.elem 124)).run Tryz.prog w = .ok 1 w := by kernel_rfl
  rw [run_sliceAt_array_l (ht := by kernel_rfl) (h0 := by omega) (h1 := by rw [hn]; omega), hz, hn]
  have e1 : (a : Int).toNat = a := by omega
  simp only [Result.andThen_ok, slicedAt, e1]
  rw [if_neg (by omega), Nat.mul_one, Go.WideShapes.add_plain]
/-- Bytes are copied into the block. -/
theorem copy_block {w : World} {b a m : Nat} {l : List Int} {bk s : List UInt8} {n : Int} (h : IsL w b l bk n) (ha : a < 64) (hm : m = min s.length (64 - a)) (ty : TypeId) :
    ∃ w', (Builtin.copy_ #[64, 9] ty #[.slice (some ⟨b, 9 + a, none⟩) (64 - a) (64 - a), .string ⟨s.toArray⟩]).run Tryz.prog w = .ok (.int .i64 (m : Int)) w' ∧
      IsL w' b l (bk.take a ++ s.take m ++ bk.drop (a + m)) n ∧ But b w w' := by
  obtain ⟨h1, h2, h3⟩ := h
  have h8 : (u32s l).length = 8 := by rw [u32s_length]; exact h3
  have h64 : (u8s bk).length = 64 := by rw [u8s_length]; exact h2
  refine ⟨_, run_copy_str w 64 9 ty 5 b (9 + a) (64 - a) (64 - a) m s _ _ Tryz.underlying64 (by kernel_rfl) h1 hm (by
    simp only [List.size_toArray, List.length_cons, List.length_append, List.length_nil, h8, h64]; omega), ⟨?_, ?_, h3⟩, ⟨rfl, rfl, rfl, by simp, fun k hk hb => setRow_other w b k _ hb⟩⟩
  · rw [setRow_heap w b _ _ _ _ h1]
    congr 3
    rw [List.toList_toArray]
    have e1 : (Value.bool true :: (u32s l ++ (u8s bk ++ [Value.int IntKind.u64 n]))).take (9 + a) = Value.bool true :: (u32s l ++ u8s (bk.take a)) := by
      rw [show 9 + a = (8 + a) + 1 by omega, List.take_succ_cons, ← h8, List.take_length_add_append, List.take_append_of_le_length (by omega), u8s, u8s, List.map_take]
    have e2 : (Value.bool true :: (u32s l ++ (u8s bk ++ [Value.int IntKind.u64 n]))).drop (9 + a + m) = u8s (bk.drop (a + m)) ++ [Value.int IntKind.u64 n] := by
      rw [show 9 + a + m = (8 + (a + m)) + 1 by omega, List.drop_succ_cons, ← h8, List.drop_length_add_append, List.drop_append_of_le_length (by omega), u8s, u8s, List.map_drop]
    rw [e1, e2]
    simp [u8s]
  · simp only [List.length_append, List.length_take, List.length_drop, h2]; omega
theorem extract_drop (l : List UInt8) (m n : Nat) (hn : n = l.length) : ({ data := l.toArray } : ByteArray).extract m n = { data := (l.drop m).toArray } := Str.ext (by
  rw [Str.extract_toList, List.toList_toArray, List.toList_toArray, hn, List.take_length])
theorem step_short {w : World} {b a m q : Nat} {d x bk : List UInt8} (h : IsL w b (full d).list (bk.take a ++ x ++ bk.drop (a + m)) ((q : Int) + (m : Int))) (hq : q = d.length) (ha : a = q % 64) (hm : x.length = m) (hs : a + m < 64)
    (hbk : bk.take (d.length % 64) = rest d) : HI w b (d ++ x) := by
  obtain ⟨e1, e2⟩ := full_short d x (by omega)
  have hl := h.2.1
  simp only [List.length_append, List.length_take, List.length_drop, hm] at hl
  refine ⟨bk.take a ++ x ++ bk.drop (a + m), ?_, ?_⟩
  · rw [e1, List.length_append, hm, ← hq, Int.natCast_add]; exact h
  · rw [e2, List.length_append, hm, ← hbk, ← hq, ← ha]
    have e3 : (q + m) % 64 = (bk.take a ++ x).length := by rw [List.length_append, List.length_take, hm]; omega
    rw [e3, List.take_left']
    rfl
theorem step_whole {w : World} {b a m q : Nat} {d x bk : List UInt8} (h : IsL w b (block K0 (full d) (bk.take a ++ x ++ bk.drop (a + m))).list (bk.take a ++ x ++ bk.drop (a + m)) ((q : Int) + (m : Int))) (hq : q = d.length) (ha : a = q % 64) (hm : x.length = m) (hs : a + m = 64)
    (hl : bk.length = 64) (hbk : bk.take (d.length % 64) = rest d) : HI w b (d ++ x) := by
  obtain ⟨e1, e2⟩ := full_whole d x (by omega)
  have e4 : bk.take a ++ x ++ bk.drop (a + m) = rest d ++ x := by rw [List.drop_of_length_le (by omega), List.append_nil, ← hbk, ← hq, ← ha]
  refine ⟨bk.take a ++ x ++ bk.drop (a + m), ?_, ?_⟩
  · rw [e1, List.length_append, hm, ← hq, Int.natCast_add, ← e4]; exact h
  · rw [e2, List.length_append, hm, ← hq]
    have e3 : (q + m) % 64 = 0 := by omega
    rw [e3, List.take_zero]
set_option maxRecDepth 100000 in
set_option maxHeartbeats 4000000 in
theorem add_any (b : Nat) (l s : List UInt8) (w : World) (h : HI w b l) (ht : Tabs w) (hb2 : 2 ≤ b) (hl : l.length + s.length ≤ 281474976710656) :
    Calls Tryz.prog 56 #[.pointer (some ⟨b, 0, none⟩), .string ⟨s.toArray⟩] w fun e w' => e = .returned (.tuple #[]) ∧ HI w' b (l ++ s) ∧ But b w w' := by
  have HT := Lib.hid ht
  have TH := Lib.hid (there_any b w h.choose_spec.1.cell0)
  have H := Lib.hid h
  clear h ht
  go_enter Tryz.func56, Tryz.ntmps56
  go_wp2_with fail
  refine TH.out.mono ?_
  rintro e w' ⟨rfl, rfl⟩
  go_wp2_with fail
  go_loopw [1] (fun sv wx => ∃ r d : List UInt8, sv = .string ⟨r.toArray⟩ ∧ Hid (l ++ s = d ++ r) ∧ Hid (HI wx b d) ∧ But b w wx) (fun sv _ => match sv with | .string t => t.size | _ => 0)
  case atStart => exact ⟨s, l, rfl, Lib.hid rfl, H, But.refl _ _⟩
  case round =>
    obtain ⟨r, d, rfl, HE, HD, hbut⟩ := hrel
    cases r with
    | nil =>
      go_wp2
      go_end0
      have he := HE.out
      rw [List.append_nil] at he
      exact ⟨rfl, by rw [he]; exact HD.out, hbut⟩
    | cons c r =>
      obtain ⟨bk, hI, hbk⟩ := HD.out
      have hds := congrArg List.length HE.out
      simp only [List.length_append, List.length_cons] at hds
      have cN := hI.size
      obtain ⟨q, hq⟩ : ∃ q, q = d.length := ⟨_, rfl⟩
      obtain ⟨a, ha⟩ : ∃ a, a = q % 64 := ⟨_, rfl⟩
      have ha64 : a < 64 := by omega
      obtain ⟨m, hm⟩ : ∃ m, m = min (c :: r).length (64 - a) := ⟨_, rfl⟩
      obtain ⟨w1, hcp, hI1, hb1⟩ := copy_block hI ha64 hm 3
      rw [← hq] at cN hI1
      have e1 : (q : Int) % 64 = (a : Int) := by omega
      have hsl : ∀ w, (Instr.sliceAt 124 (.pointer (some ⟨b, 9, none⟩)) (some (.int .i64 ((q : Int) % 64))) none none).run Tryz.prog w = .ok (.slice (some ⟨b, 9 + a, none⟩) (64 - a) (64 - a)) w := fun w => by rw [e1]; exact sliceAt_at b a w ha64
      have cN1 := hI1.size
      have fN1 := hI1.frozen 73
      have hml : m ≤ r.length + 1 := by rw [hm, List.length_cons]; omega
      have hm64 : m ≤ 64 := by omega
      have m0 : (0 : Int) ≤ (m : Int) := by omega
      have hqm : q + m ≤ 281474976710656 := by omega
      have hsz := Str.size_mk (c :: r)
      have HQ := Lib.hid hq
      have HA := Lib.hid ha
      have HM := Lib.hid hm
      have HS := Lib.hid hds
      have HB := Lib.hid hbk
      have HJ := Lib.hid hI1
      have HL := Lib.hid hI.2.1
      clear hq ha hm e1 hds hbk hI1 hI hl
      have hx := extract_drop (c :: r) m (r.length + 1) (by rw [List.length_cons])
      have hxl : ((c :: r).take m).length = m := by rw [List.length_take, List.length_cons]; omega
      have HX := Lib.hid hxl
      clear hxl
      have h1m : 1 ≤ m := by have := HM.out; rw [List.length_cons] at this; omega
      by_cases hf : q % 64 + m = 64
      · have hfb : ((q : Int) % 64 + (m : Int) == 64) = true := by rw [beq_iff_eq]; omega
        have HF := Lib.hid hf
        clear hf
        go_wp2_with fail
        refine (mix_any K0 b (full d) _ _ _ (HJ.out.setN ((q : Int) + (m : Int))) (HT.out.but (hbut.trans (hb1.set _ rfl _)) hb2).1).mono ?_
        rintro e w3 ⟨rfl, hI3, hb3⟩
        have HI3 := Lib.hid hI3
        clear hI3
        go_wp2_with fail
        go_roundw
        case rel =>
          have hA := HA.out
          have hF := HF.out
          exact ⟨(c :: r).drop m, d ++ (c :: r).take m, rfl, Lib.hid (by rw [HE.out, List.append_assoc, List.take_append_drop]), Lib.hid (step_whole HI3.out HQ.out HA.out HX.out (by omega) HL.out HB.out), (hbut.trans (hb1.set _ rfl _)).trans hb3⟩
        case measure =>
          show (ByteArray.mk ((c :: r).drop m).toArray).size < (ByteArray.mk (c :: r).toArray).size
          rw [Str.size_mk, Str.size_mk, List.length_drop, List.length_cons]; omega
      · have hfb : ((q : Int) % 64 + (m : Int) == 64) = false := by rw [beq_eq_false_iff_ne]; omega
        have HF := Lib.hid hf
        clear hf
        go_wp2_with fail
        go_roundw
        case rel =>
          have hA := HA.out
          have hF := HF.out
          have hM := HM.out
          exact ⟨(c :: r).drop m, d ++ (c :: r).take m, rfl, Lib.hid (by rw [HE.out, List.append_assoc, List.take_append_drop]), Lib.hid (step_short (HJ.out.setN ((q : Int) + (m : Int))) HQ.out HA.out HX.out (by omega) HB.out), hbut.trans (hb1.set _ rfl _)⟩
        case measure =>
          show (ByteArray.mk ((c :: r).drop m).toArray).size < (ByteArray.mk (c :: r).toArray).size
          rw [Str.size_mk, Str.size_mk, List.length_drop, List.length_cons]; omega
end Sha
end Go.Proofs.YtjnlooccddnbkaaGreatDoor

namespace Go.Proofs.YtjnlooccddnbkaaGreatDoor
namespace Sha
open Go.RowKit
/-- A row of bytes fills a block. -/
def Bytes (w : World) (b : Nat) (t : TypeId) (l : List UInt8) : Prop := w.heap[b]? = some (.cells (u8s l).toArray t (0, 0))
theorem Bytes.lt {w : World} {b : Nat} {t : TypeId} {l : List UInt8} (h : Bytes w b t l) : b < w.heap.size := (Array.getElem?_eq_some_iff.1 h).1
theorem Bytes.cell {w : World} {b : Nat} {t : TypeId} {l : List UInt8} (h : Bytes w b t l) (i : Nat) (hi : i < l.length) : w.cell? ⟨b, i, none⟩ = some (.int .u8 ((l.getD i 0).toNat : Int)) := by
  rw [cell_of_row w b i _ t _ h, List.getElem?_toArray, u8s, List.getElem?_map, List.getElem?_eq_getElem hi, List.getD_eq_getElem?_getD, List.getElem?_eq_getElem hi]
  rfl
theorem Bytes.frozen {w : World} {b : Nat} {t : TypeId} {l : List UInt8} (h : Bytes w b t l) (i : Nat) : w.frozen? ⟨b, i, none⟩ = false := frozen_of_row w b i _ t h
theorem Bytes.set {w : World} {b : Nat} {t : TypeId} {l : List UInt8} (h : Bytes w b t l) (i : Nat) (x : UInt8) : Bytes (w.setCell ⟨b, i, none⟩ (.int .u8 (x.toNat : Int))) b t (l.set i x) := by
  unfold Bytes
  rw [heap_setCell_same w b i _ t _ h, List.setIfInBounds_toArray, u8s, u8s, List.map_set]
theorem bytes_new (w : World) (t : TypeId) (n : Nat) : Bytes (w.alloc (.cells (Array.replicate n (.int .u8 0)) t)) w.heap.size t (List.replicate n 0) := by
  unfold Bytes
  rw [heap_alloc_new, u8s, List.map_replicate, List.toArray_replicate]
  rfl
/-- 'string(b[:])'. -/
theorem Bytes.conv {w : World} {b : Nat} {t : TypeId} {l : List UInt8} (h : Bytes w b t l) (n : Nat) (hn : n = l.length) :
    (convert 64 9 (.slice (some ⟨b, 0, none⟩) n n)).run Tryz.prog w = .ok (.string ⟨l.toArray⟩) w := by
  subst hn
  refine run_convert_bytes_back (P := Tryz.prog) _ 64 9 5 ⟨b, 0, none⟩ l.length l Tryz.underlying64 Tryz.underlying5 Tryz.underlying9 (fun j hj => ?_)
  rw [Go.WideShapes.add_plain, Nat.zero_add, h.cell j hj, List.getD_eq_getElem?_getD, List.getElem?_eq_getElem hj]
  rfl
theorem be8_at (n k : Nat) (hk : k < 8) : ((be8 n).take k ++ List.replicate (8 - k) 0).set k ((be8 n).getD k 0) = (be8 n).take (k + 1) ++ List.replicate (8 - (k + 1)) 0 := by
  have h : k = 0 ∨ k = 1 ∨ k = 2 ∨ k = 3 ∨ k = 4 ∨ k = 5 ∨ k = 6 ∨ k = 7 := by omega
  rcases h with rfl | rfl | rfl | rfl | rfl | rfl | rfl | rfl <;> rfl
theorem u8_of (n : Nat) : ((UInt8.ofNat n).toNat : Int) = (n : Int) % 256 := by
  rw [UInt8.toNat_ofNat']; omega
theorem b8_0 (n : Nat) (hn : n ≤ 18446744073709551615) : (((be8 n).getD 0 0).toNat : Int) = (n : Int) / 72057594037927936 := by
  show ((UInt8.ofNat (n / 72057594037927936)).toNat : Int) = _
  rw [u8_of] <;> omega
theorem b8_1 (n : Nat) : (((be8 n).getD 1 0).toNat : Int) = (n : Int) / 281474976710656 % 256 := by
  show ((UInt8.ofNat (n / 281474976710656)).toNat : Int) = _
  rw [u8_of] <;> omega
theorem b8_2 (n : Nat) : (((be8 n).getD 2 0).toNat : Int) = (n : Int) / 1099511627776 % 256 := by
  show ((UInt8.ofNat (n / 1099511627776)).toNat : Int) = _
  rw [u8_of] <;> omega
theorem b8_3 (n : Nat) : (((be8 n).getD 3 0).toNat : Int) = (n : Int) / 4294967296 % 256 := by
  show ((UInt8.ofNat (n / 4294967296)).toNat : Int) = _
  rw [u8_of] <;> omega
theorem b8_4 (n : Nat) : (((be8 n).getD 4 0).toNat : Int) = (n : Int) / 16777216 % 256 := by
  show ((UInt8.ofNat (n / 16777216)).toNat : Int) = _
  rw [u8_of] <;> omega
theorem b8_5 (n : Nat) : (((be8 n).getD 5 0).toNat : Int) = (n : Int) / 65536 % 256 := by
  show ((UInt8.ofNat (n / 65536)).toNat : Int) = _
  rw [u8_of] <;> omega
theorem b8_6 (n : Nat) : (((be8 n).getD 6 0).toNat : Int) = (n : Int) / 256 % 256 := by
  show ((UInt8.ofNat (n / 256)).toNat : Int) = _
  rw [u8_of] <;> omega
theorem b8_7 (n : Nat) : (((be8 n).getD 7 0).toNat : Int) = (n : Int) % 256 := by
  show ((UInt8.ofNat (n)).toNat : Int) = _
  rw [u8_of] <;> omega
set_option maxRecDepth 100000 in
set_option maxHeartbeats 1000000 in
theorem eight_any (n : Nat) (w : World) (hn : n ≤ 18446744073709551615) :
    Calls Tryz.prog 85 #[.int .u64 (n : Int)] w fun e w' => e = .returned (.string ⟨(be8 n).toArray⟩) ∧ Below w.heap.size w w' := by
  have h0 := Below.refl w.heap.size w
  go_enter Tryz.func85, Tryz.ntmps85
  go_wp2_with fail
  go_loopw [5] (fun i wx => ∃ k : Nat, k ≤ 8 ∧ i = .int .i64 (k : Int) ∧ Below w.heap.size w wx ∧ Hid (Bytes wx w.heap.size 151 ((be8 n).take k ++ List.replicate (8 - k) 0))) (fun i _ => 8 - (intOf i).toNat)
  case atStart => exact ⟨0, by omega, rfl, balloc h0 _, Lib.hid (bytes_new w _ 8)⟩
  case round =>
    obtain ⟨k, hk, rfl, hb, HR⟩ := hrel
    by_cases hlt : k < 8
    · have hset := HR.out.set k ((be8 n).getD k 0)
      rw [be8_at n k hlt] at hset
      have HS := Lib.hid hset
      have hl : ((be8 n).take k ++ List.replicate (8 - k) 0).length = 8 := by rw [List.length_append, List.length_take, List.length_replicate, show (be8 n).length = 8 from rfl]; omega
      have hc := HR.out.cell k (by omega)
      have hf := HR.out.frozen k
      generalize ((be8 n).take k ++ List.replicate (8 - k) 0).getD k 0 = z at hc
      clear hset hl
      have h : k = 0 ∨ k = 1 ∨ k = 2 ∨ k = 3 ∨ k = 4 ∨ k = 5 ∨ k = 6 ∨ k = 7 := by omega
      rcases h with rfl | rfl | rfl | rfl | rfl | rfl | rfl | rfl
      · go_wp2_with fail
        go_roundw
        case rel =>
          have h := HS.out
          rw [b8_0 n hn] at h
          exact ⟨1, by omega, rfl, bset hb (Nat.le_refl _) _, Lib.hid h⟩
        case measure => simp [intOf]
      · go_wp2_with fail
        go_roundw
        case rel =>
          have h := HS.out
          rw [b8_1 n] at h
          exact ⟨2, by omega, rfl, bset hb (Nat.le_refl _) _, Lib.hid h⟩
        case measure => simp [intOf]
      · go_wp2_with fail
        go_roundw
        case rel =>
          have h := HS.out
          rw [b8_2 n] at h
          exact ⟨3, by omega, rfl, bset hb (Nat.le_refl _) _, Lib.hid h⟩
        case measure => simp [intOf]
      · go_wp2_with fail
        go_roundw
        case rel =>
          have h := HS.out
          rw [b8_3 n] at h
          exact ⟨4, by omega, rfl, bset hb (Nat.le_refl _) _, Lib.hid h⟩
        case measure => simp [intOf]
      · go_wp2_with fail
        go_roundw
        case rel =>
          have h := HS.out
          rw [b8_4 n] at h
          exact ⟨5, by omega, rfl, bset hb (Nat.le_refl _) _, Lib.hid h⟩
        case measure => simp [intOf]
      · go_wp2_with fail
        go_roundw
        case rel =>
          have h := HS.out
          rw [b8_5 n] at h
          exact ⟨6, by omega, rfl, bset hb (Nat.le_refl _) _, Lib.hid h⟩
        case measure => simp [intOf]
      · go_wp2_with fail
        go_roundw
        case rel =>
          have h := HS.out
          rw [b8_6 n] at h
          exact ⟨7, by omega, rfl, bset hb (Nat.le_refl _) _, Lib.hid h⟩
        case measure => simp [intOf]
      · go_wp2_with fail
        go_roundw
        case rel =>
          have h := HS.out
          rw [b8_7 n] at h
          exact ⟨8, by omega, rfl, bset hb (Nat.le_refl _) _, Lib.hid h⟩
        case measure => simp [intOf]
    · obtain rfl : k = 8 := by omega
      have HC := Lib.hid (Bytes.conv (l := be8 n) HR.out 8 rfl)
      have hcv := HC.out
      go_wp2
      go_ret
      exact ⟨rfl, hb⟩
theorem repeat_zero : ∀ c, Lib.repeatL [0] c = List.replicate c 0
  | 0 => rfl
  | c + 1 => by rw [Lib.repeatL, repeat_zero c, List.replicate_succ]; rfl
theorem nulls_any (c : Nat) (w : World) (hc : c ≤ 64) :
    Calls Tryz.prog 84 #[.string { data := [0].toArray }, .int .i64 (c : Int)] w fun e w' => ∃ Z : List UInt8, Hid (Z = List.replicate c 0) ∧ e = .returned (.string ⟨Z.toArray⟩) ∧ Below w.heap.size w w' := by
  refine (Tryz.strings_Repeat { data := [0].toArray } c w (by omega) (by show 1 * c ≤ _; omega)).mono fun _ _ h => ⟨_, Lib.hid (repeat_zero c), h.1, h.2⟩
theorem eight_fresh (n : Nat) (w : World) (hn : n ≤ 18446744073709551615) :
    Calls Tryz.prog 85 #[.int .u64 (n : Int)] w fun e w' => ∃ E : List UInt8, Hid (E = be8 n) ∧ e = .returned (.string ⟨E.toArray⟩) ∧ Below w.heap.size w w' :=
  (eight_any n w hn).mono fun _ _ h => ⟨_, Lib.hid rfl, h.1, h.2⟩
/-- A hash is copied. -/
theorem copy_hash {w : World} {b : Nat} {l : List UInt8} (h : HI w b l) : ∃ (C : Array Value) (w2 : World), (Instr.loadAt 126 (.pointer (some ⟨b, 0, none⟩))).run Tryz.prog w = .ok (.agg C) w ∧
    (Instr.storeAt 126 (.pointer (some ⟨w.heap.size, 0, none⟩)) (.agg C)).run Tryz.prog (w.alloc (.cells Tryz.zeroCells126 126)) = .ok () w2 ∧
    HI w2 w.heap.size l ∧ Below w.heap.size w w2 := by
  obtain ⟨bk, h1, h2⟩ := h
  have hs : (Value.bool true :: (u32s (full l).list ++ (u8s bk ++ [.int .u64 (l.length : Int)]))).toArray.size = 74 := by
    simp only [List.size_toArray, List.length_cons, List.length_append, u32s_length, u8s_length, h1.2.1, List.length_nil]; rfl
  have hg := heap_alloc_new w (.cells Tryz.zeroCells126 126)
  refine ⟨(Value.bool true :: (u32s (full l).list ++ (u8s bk ++ [.int .u64 (l.length : Int)]))).toArray, (w.alloc (.cells Tryz.zeroCells126 126)).setRow w.heap.size (Value.bool true :: (u32s (full l).list ++ (u8s bk ++ [.int .u64 (l.length : Int)]))).toArray, ?_, ?_, ⟨bk, ⟨?_, h1.2⟩, h2⟩, ?_⟩
  · simp only [Instr.loadAt, Instr.sureAddr, Sem.run_bind, Sem.run_pure, Result.andThen_ok]
    exact run_loadVar_row w b 126 126 _ (0, 0) _ h1.1 Tryz.underlying126 rfl (by rw [hs]; kernel_rfl)
  · simp only [Instr.storeAt, Instr.sureAddr, Sem.run_bind, Sem.run_pure, Result.andThen_ok]
    exact run_storeVar_row _ w.heap.size 126 126 _ _ hg (by rw [hs]; kernel_rfl) (by rw [hs]; kernel_rfl) (all_oneCell_toArray (by
      intro v hv
      simp only [List.mem_cons, List.mem_append, List.not_mem_nil, or_false] at hv
      rcases hv with rfl | hv | hv | rfl
      · rfl
      · obtain ⟨x, _, rfl⟩ := List.mem_map.1 hv; rfl
      · obtain ⟨x, _, rfl⟩ := List.mem_map.1 hv; rfl
      · rfl))
  · exact setRow_heap _ _ _ _ _ _ hg
  · exact (balloc (Below.refl _ w) _).trans ⟨rfl, rfl, rfl, by simp, fun k hk => setRow_other _ _ k _ (by omega)⟩
theorem u8_word (x c : Int) (hx : 0 ≤ x) (hc : 0 < c) : ((UInt8.ofNat (x / c).toNat).toNat : Int) = x / c % 256 := by
  rw [u8_of, Int.toNat_of_nonneg (Int.ediv_nonneg hx (Int.le_of_lt hc))]
theorem u8_word1 (x : Int) (hx : 0 ≤ x) : ((UInt8.ofNat x.toNat).toNat : Int) = x % 256 := by
  rw [u8_of, Int.toNat_of_nonneg hx]
theorem cat3 (Z E X : List UInt8) (h : X = 128 :: (Z ++ E)) : (({ data := #[128] } : ByteArray) ++ { data := Z.toArray } ++ { data := E.toArray } = { data := X.toArray }) ∧ (({ data := #[128] } : ByteArray) ++ ({ data := Z.toArray } ++ { data := E.toArray }) = { data := X.toArray }) := by
  subst h
  have e : (({ data := #[128] } : ByteArray)) = { data := [128].toArray } := rfl
  rw [e, Str.mk_append_mk, Str.mk_append_mk, Str.mk_append_mk, Str.mk_append_mk]
  simp
theorem keepC {w w' : World} {p : Addr} {v : Value} (h : w.cell? p = some v) (k : Below w.heap.size w w') : w'.cell? p = some v := (k.cell (World.block_lt_of_cell? _ _ h)).trans h
theorem wpList_load_hash {ops : Array Oper} {rest : List Oper} {o : Oper} {a : Act} {w : World} {Q : Exit → Act → World → Prop} (hgd : o.guard = none) (x : Operand) (ho : o.op = .load 126 x)
    (b : Nat) (hx : a.eval x = .pointer (some ⟨b, 0, none⟩)) (C : Array Value) (hC : (Instr.loadAt 126 (.pointer (some ⟨b, 0, none⟩))).run Tryz.prog w = .ok (.agg C) w)
    (h : wpList Tryz.prog ops Q rest (a.put o.dst (.agg C)) w) : wpList Tryz.prog ops Q (o :: rest) a w :=
  wpList_plain hgd fun _ hK => by
    unfold Oper.wp execOp
    simp only [ho, hx, Sem.run_bind, hC, Result.andThen_ok, Sem.run_pure]
    exact hK _ _ h
theorem wpList_store_hash {ops : Array Oper} {rest : List Oper} {o : Oper} {a : Act} {w w' : World} {Q : Exit → Act → World → Prop} (hgd : o.guard = none) (x y : Operand) (ho : o.op = .store 126 x y)
    (b : Nat) (hx : a.eval x = .pointer (some ⟨b, 0, none⟩)) (C : Array Value) (hy : a.eval y = .agg C) (hC : (Instr.storeAt 126 (.pointer (some ⟨b, 0, none⟩)) (.agg C)).run Tryz.prog w = .ok () w')
    (h : wpList Tryz.prog ops Q rest (a.put o.dst undef) w') : wpList Tryz.prog ops Q (o :: rest) a w :=
  wpList_plain hgd fun _ hK => by
    unfold Oper.wp execOp
    simp only [ho, hx, hy, Sem.run_bind, hC, Result.andThen_ok, Sem.run_pure]
    exact hK _ _ h
set_option maxRecDepth 100000 in
set_option maxHeartbeats 1000000 in
theorem sum_any (b : Nat) (l : List UInt8) (w : World) (h : HI w b l) (ht : Tabs w) (hl : l.length ≤ 140737488355328) (h2 : 2 ≤ w.heap.size) :
    Calls Tryz.prog 58 #[.pointer (some ⟨b, 0, none⟩)] w fun e w' => e = .returned (.string ⟨(of l).toArray⟩) ∧ Below w.heap.size w w' := by
  have HT := Lib.hid ht
  have TH := Lib.hid (there_any b w h.choose_spec.1.cell0)
  have cN0 := h.choose_spec.1.size
  obtain ⟨C, w2, hld, hst, hHI, hb⟩ := copy_hash h
  have hlt := h.lt
  have cN := (hb.cell (p := ⟨b, 73, none⟩) hlt).trans cN0
  have HE := Lib.hid hHI
  obtain ⟨q, hq⟩ : ∃ q, q = l.length := ⟨_, rfl⟩
  rw [← hq] at cN0 cN hl
  have HQ := Lib.hid hq
  have hbn : b ≠ w.heap.size := by omega
  obtain ⟨z, hz⟩ : ∃ z, z = (119 - q % 64) % 64 := ⟨_, rfl⟩
  have hz1 : IntKind.i64.wrap (119 - (q : Int) % 64) = 119 - (q : Int) % 64 := by rw [IntKind.wrap_i64]; omega
  have hz2 : (119 - (q : Int) % 64) % 64 = (z : Int) := by omega
  have hz3 : z ≤ 64 := by omega
  obtain ⟨m, hm⟩ : ∃ m, m = 8 * q := ⟨_, rfl⟩
  have hq8 : (q : Int) * 8 = (m : Int) := by omega
  have hq9 : IntKind.u64.wrap (m : Int) = (m : Int) := by rw [IntKind.wrap_u64]; omega
  have hm8 : m ≤ 18446744073709551615 := by omega
  have HM := Lib.hid hm
  have HZ := Lib.hid hz
  clear h ht hHI hq hz hm
  go_enter Tryz.func58, Tryz.ntmps58
  go_wp2_with fail
  refine TH.out.mono ?_
  rintro e w' ⟨rfl, rfl⟩
  go_wp2_with (first | (with_reducible refine wpList_load_hash rfl _ rfl b rfl C hld ?_) | (with_reducible refine wpList_store_hash rfl _ _ rfl w.heap.size rfl C rfl hst ?_))
  go_wp2_with fail
  refine wp_region_noPanic ?_
  refine wp_region_held_drew (S := (fun w' => Below w.heap.size w w' ∧ w'.cell? ⟨b, 73, none⟩ = some (.int .u64 (q : Int)))) (by kernel_rfl) (⟨Below.drew hb, keepC cN (Below.drew (Below.refl _ _))⟩) (fun hHeld => ?_)
  refine wpAnyH_take (i := 0) (v := ?_) (by simp only [List.getElem?_toArray, List.getElem?_cons_zero]; rfl) (by kernel_rfl) (by kernel_rfl) (by kernel_rfl) (fun _ _ _ h => h) (Or.inl ⟨by rfl, ?_⟩) (by assumption) ?_
  rotate_left
  · (intro w hSw; (try dsimp only at hSw); go_simp; try with_reducible rfl)
  try simp only [Act.put, List.setIfInBounds_toArray, List.set_cons_zero, List.set_cons_succ]
  refine wpAnyH_take (i := 3) (v := ?_) (by simp only [List.getElem?_toArray, List.getElem?_cons_succ, List.getElem?_cons_zero]; rfl) (by kernel_rfl) (by kernel_rfl) (by kernel_rfl) (fun _ _ _ h => h) (Or.inl ⟨by rfl, ?_⟩) (by assumption) ?_
  rotate_left
  · (intro w hSw; (try dsimp only at hSw); go_simp; try with_reducible rfl)
  try simp only [Act.put, List.setIfInBounds_toArray, List.set_cons_zero, List.set_cons_succ]
  refine wpAnyH_take (i := 4) (v := ?_) (by simp only [List.getElem?_toArray, List.getElem?_cons_succ, List.getElem?_cons_zero]; rfl) (by kernel_rfl) (by kernel_rfl) (by kernel_rfl) (fun _ _ _ h => h) (Or.inl ⟨by rfl, ?_⟩) (by assumption) ?_
  rotate_left
  · (intro w hSw; (try dsimp only at hSw); go_simp; try with_reducible rfl)
  try simp only [Act.put, List.setIfInBounds_toArray, List.set_cons_zero, List.set_cons_succ]
  refine wpAnyH_take (i := 5) (v := ?_) (by simp only [List.getElem?_toArray, List.getElem?_cons_succ, List.getElem?_cons_zero]; rfl) (by kernel_rfl) (by kernel_rfl) (by kernel_rfl) (fun _ _ _ h => h) (Or.inl ⟨by rfl, ?_⟩) (by assumption) ?_
  rotate_left
  · (intro w hSw; (try dsimp only at hSw); go_simp; try with_reducible rfl)
  try simp only [Act.put, List.setIfInBounds_toArray, List.set_cons_zero, List.set_cons_succ]
  refine wpAnyH_take (i := 6) (v := ?_) (by simp only [List.getElem?_toArray, List.getElem?_cons_succ, List.getElem?_cons_zero]; rfl) (by kernel_rfl) (by kernel_rfl) (by kernel_rfl) (fun _ _ _ h => h) (Or.inl ⟨by rfl, ?_⟩) (by assumption) ?_
  rotate_left
  · (intro w hSw; (try dsimp only at hSw); go_simp; try with_reducible rfl)
  try simp only [Act.put, List.setIfInBounds_toArray, List.set_cons_zero, List.set_cons_succ]
  refine wpAnyH_take (i := 7) (v := ?_) (by simp only [List.getElem?_toArray, List.getElem?_cons_succ, List.getElem?_cons_zero]; rfl) (by kernel_rfl) (by kernel_rfl) (by kernel_rfl) (fun _ _ _ h => h) (Or.inl ⟨by rfl, ?_⟩) (by assumption) ?_
  rotate_left
  · (intro w hSw; (try dsimp only at hSw); go_simp; try with_reducible rfl)
  try simp only [Act.put, List.setIfInBounds_toArray, List.set_cons_zero, List.set_cons_succ]
  refine wpAnyH_ready (rs := [1]) (by kernel_rfl) (by simp) ?_
  refine AllReadyH.cons (by simp only [List.getElem?_toArray, List.getElem?_cons_succ, List.getElem?_cons_zero]; rfl) (fun K hK => ?_) AllReadyH.nil
  go_simp
  go_at_call 84
  refine (nulls_any z _ hz3).mono ?_
  rintro e v1 ⟨Z, hZ, rfl, k1⟩
  have zl : Z.length = z := by rw [hZ.out, List.length_replicate]
  have zn : ¬ (9223372036854775807 < 1 + Z.length) := by omega
  have zn2 : ¬ (9223372036854775807 < 1 + Z.length + 8) := by omega
  have ZL := Lib.hid zl
  clear zl
  have HB1 := Lib.hid ((HE.out.below (Below.drew (Below.refl _ _))).below k1)
  have HT1 := Lib.hid ((HT.out.below (hb.trans (Below.drew (Below.refl _ _) |>.mono hb.size))))
  go_wp2_with fail
  refine hK.out _ _ (⟨bstep hHeld.1 k1, keepC hHeld.2 k1⟩) (fun hHeld => ?_)
  clear hK K
  try simp only [Act.put, List.setIfInBounds_toArray, List.set_cons_zero, List.set_cons_succ]
  refine wpAnyH_take (i := 2) (v := ?_) (by simp only [List.getElem?_toArray, List.getElem?_cons_succ, List.getElem?_cons_zero]; rfl) (by kernel_rfl) (by kernel_rfl) (by kernel_rfl) (fun _ _ _ h => h) (Or.inl ⟨by rfl, ?_⟩) (by assumption) ?_
  rotate_left
  · (intro w hSw; (try dsimp only at hSw); go_simp; try with_reducible rfl)
  try simp only [Act.put, List.setIfInBounds_toArray, List.set_cons_zero, List.set_cons_succ]
  refine wpAnyH_ready (rs := [8]) (by kernel_rfl) (by simp) ?_
  refine AllReadyH.cons (by simp only [List.getElem?_toArray, List.getElem?_cons_succ, List.getElem?_cons_zero]; rfl) (fun K hK => ?_) AllReadyH.nil
  go_simp
  go_at_call 85
  refine (eight_fresh m _ hm8).mono ?_
  rintro e v2 ⟨E, hE, rfl, k2⟩
  have el : E.length = 8 := by rw [hE.out]; rfl
  have HB2 := Lib.hid (HB1.out.below k2)
  obtain ⟨X, hX⟩ : ∃ X, X = 128 :: (Z ++ E) := ⟨_, rfl⟩
  obtain ⟨c1, c2⟩ := cat3 Z E X hX
  have HX := Lib.hid hX
  clear hX
  go_wp2_with fail
  refine hK.out _ _ (⟨bstep hHeld.1 k2, keepC hHeld.2 k2⟩) (fun hHeld => ?_)
  clear hK K
  try simp only [Act.put, List.setIfInBounds_toArray, List.set_cons_zero, List.set_cons_succ]
  refine wpAnyH_take (i := 9) (v := ?_) (by simp only [List.getElem?_toArray, List.getElem?_cons_succ, List.getElem?_cons_zero]; rfl) (by kernel_rfl) (by kernel_rfl) (by kernel_rfl) (fun _ _ _ h => h) (Or.inl ⟨by rfl, ?_⟩) (by assumption) ?_
  rotate_left
  · (intro w hSw; (try dsimp only at hSw); go_simp; try with_reducible rfl)
  try simp only [Act.put, List.setIfInBounds_toArray, List.set_cons_zero, List.set_cons_succ]
  refine wpAnyH_ready (rs := [10]) (by kernel_rfl) (by simp) ?_
  refine AllReadyH.cons (by simp only [List.getElem?_toArray, List.getElem?_cons_succ, List.getElem?_cons_zero]; rfl) (fun K hK => ?_) AllReadyH.nil
  go_simp
  go_at_call 56
  refine (add_any w.heap.size l X _ HB2.out (HT.out.below hHeld.1) h2 (by rw [HX.out, ← HQ.out, List.length_cons, List.length_append, ZL.out, el]; omega)).mono ?_
  rintro e v3 ⟨rfl, hI3, k3⟩
  go_wp2_with fail
  refine hK.out _ _ (⟨But.below hHeld.1 k3 (Nat.le_refl _) hHeld.1.size, (k3.cell (World.block_lt_of_cell? _ _ hHeld.2) hbn).trans hHeld.2⟩) (fun hHeld => ?_)
  clear hK K
  try simp only [Act.put, List.setIfInBounds_toArray, List.set_cons_zero, List.set_cons_succ]
  refine wpAnyH_done (by kernel_rfl) ?_ _
  refine NoPanic.normal ?_
  obtain hHeld := hHeld
  obtain ⟨hb3, -⟩ := hHeld
  obtain ⟨bk, hI, -⟩ := hI3
  obtain ⟨s, hs⟩ : ∃ s, s = full (l ++ X) := ⟨_, rfl⟩
  have hok := full_ok (l ++ X)
  have HV : Hid (of l = out s) := Lib.hid (by rw [hs, HX.out, hZ.out, hE.out, HZ.out, HM.out, HQ.out]; rfl)
  rw [← hs] at hI hok
  obtain ⟨xa, xb, xc, xd, xe, xf, xg, xh⟩ := s
  have y0 := hI.word 0 (by decide)
  have y1 := hI.word 1 (by decide)
  have y2 := hI.word 2 (by decide)
  have y3 := hI.word 3 (by decide)
  have y4 := hI.word 4 (by decide)
  have y5 := hI.word 5 (by decide)
  have y6 := hI.word 6 (by decide)
  have y7 := hI.word 7 (by decide)
  simp only [St.list, Nat.reduceAdd, List.getD_cons_zero, List.getD_cons_succ] at y0 y1 y2 y3 y4 y5 y6 y7
  simp only [St.list, List.mem_cons, List.not_mem_nil, or_false, forall_eq_or_imp, forall_eq] at hok
  obtain ⟨oa, ob, oc, od, oe, of', og, oh⟩ := hok
  have hlv := hI.lt
  clear hI hs hld hst
  go_wp2_with fail
  go_loopw [35] (fun i wx => ∃ k : Nat, k ≤ 8 ∧ i = .int .i64 (k : Int) ∧ Below w.heap.size w wx ∧ Hid (Bytes wx v3.heap.size 136 ((out ⟨xa, xb, xc, xd, xe, xf, xg, xh⟩).take (4 * k) ++ List.replicate (32 - 4 * k) 0))) (fun i _ => 8 - (intOf i).toNat)
  case atStart => exact ⟨0, by omega, rfl, balloc hb3 _, Lib.hid (bytes_new v3 _ 32)⟩
  case round =>
    obtain ⟨k, hk, rfl, hb, HR⟩ := hrel
    have hD : w.heap.size ≤ v3.heap.size := hb3.size
    by_cases hlt : k < 8
    · have h : k = 0 ∨ k = 1 ∨ k = 2 ∨ k = 3 ∨ k = 4 ∨ k = 5 ∨ k = 6 ∨ k = 7 := by omega
      rcases h with rfl | rfl | rfl | rfl | rfl | rfl | rfl | rfl
      · have ix : ∀ w, (Instr.index 123 (.agg #[.int .u32 xa, .int .u32 xb, .int .u32 xc, .int .u32 xd, .int .u32 xe, .int .u32 xf, .int .u32 xg, .int .u32 xh]) (.int .i64 ((0 : Nat) : Int))).run Tryz.prog w = .ok (.int .u32 xa) w := fun _ => by kernel_rfl
        have iy : ∀ w, (Instr.index 123 (.agg #[.int .u32 xa, .int .u32 xb, .int .u32 xc, .int .u32 xd, .int .u32 xe, .int .u32 xf, .int .u32 xg, .int .u32 xh]) (.int .i64 0)).run Tryz.prog w = .ok (.int .u32 xa) w := fun _ => by kernel_rfl
        have hf := HR.out.frozen
        have z0 := HR.out.cell 0 (by show 0 < 32; decide)
        have z1 := HR.out.cell 1 (by show 1 < 32; decide)
        have z2 := HR.out.cell 2 (by show 2 < 32; decide)
        have z3 := HR.out.cell 3 (by show 3 < 32; decide)
        have hf0 := hf 0
        have hf1 := hf 1
        have hf2 := hf 2
        have hf3 := hf 3
        clear hf
        go_wp2_with fail
        go_roundw
        case rel =>
          have h := (((HR.out.set 0 (UInt8.ofNat (xa / 16777216).toNat)).set 1 (UInt8.ofNat (xa / 65536).toNat)).set 2 (UInt8.ofNat (xa / 256).toNat)).set 3 (UInt8.ofNat xa.toNat)
          rw [u8_word xa 16777216 oa (by decide), u8_word xa 65536 oa (by decide), u8_word xa 256 oa (by decide), u8_word1 xa oa] at h
          exact ⟨1, by omega, rfl, bset (bset (bset (bset hb hD _) hD _) hD _) hD _, Lib.hid h⟩
        case measure => simp [intOf]
      · have ix : ∀ w, (Instr.index 123 (.agg #[.int .u32 xa, .int .u32 xb, .int .u32 xc, .int .u32 xd, .int .u32 xe, .int .u32 xf, .int .u32 xg, .int .u32 xh]) (.int .i64 ((1 : Nat) : Int))).run Tryz.prog w = .ok (.int .u32 xb) w := fun _ => by kernel_rfl
        have iy : ∀ w, (Instr.index 123 (.agg #[.int .u32 xa, .int .u32 xb, .int .u32 xc, .int .u32 xd, .int .u32 xe, .int .u32 xf, .int .u32 xg, .int .u32 xh]) (.int .i64 1)).run Tryz.prog w = .ok (.int .u32 xb) w := fun _ => by kernel_rfl
        have hf := HR.out.frozen
        have z0 := HR.out.cell 4 (by show 4 < 32; decide)
        have z1 := HR.out.cell 5 (by show 5 < 32; decide)
        have z2 := HR.out.cell 6 (by show 6 < 32; decide)
        have z3 := HR.out.cell 7 (by show 7 < 32; decide)
        have hf0 := hf 4
        have hf1 := hf 5
        have hf2 := hf 6
        have hf3 := hf 7
        clear hf
        go_wp2_with fail
        go_roundw
        case rel =>
          have h := (((HR.out.set 4 (UInt8.ofNat (xb / 16777216).toNat)).set 5 (UInt8.ofNat (xb / 65536).toNat)).set 6 (UInt8.ofNat (xb / 256).toNat)).set 7 (UInt8.ofNat xb.toNat)
          rw [u8_word xb 16777216 ob (by decide), u8_word xb 65536 ob (by decide), u8_word xb 256 ob (by decide), u8_word1 xb ob] at h
          exact ⟨2, by omega, rfl, bset (bset (bset (bset hb hD _) hD _) hD _) hD _, Lib.hid h⟩
        case measure => simp [intOf]
      · have ix : ∀ w, (Instr.index 123 (.agg #[.int .u32 xa, .int .u32 xb, .int .u32 xc, .int .u32 xd, .int .u32 xe, .int .u32 xf, .int .u32 xg, .int .u32 xh]) (.int .i64 ((2 : Nat) : Int))).run Tryz.prog w = .ok (.int .u32 xc) w := fun _ => by kernel_rfl
        have iy : ∀ w, (Instr.index 123 (.agg #[.int .u32 xa, .int .u32 xb, .int .u32 xc, .int .u32 xd, .int .u32 xe, .int .u32 xf, .int .u32 xg, .int .u32 xh]) (.int .i64 2)).run Tryz.prog w = .ok (.int .u32 xc) w := fun _ => by kernel_rfl
        have hf := HR.out.frozen
        have z0 := HR.out.cell 8 (by show 8 < 32; decide)
        have z1 := HR.out.cell 9 (by show 9 < 32; decide)
        have z2 := HR.out.cell 10 (by show 10 < 32; decide)
        have z3 := HR.out.cell 11 (by show 11 < 32; decide)
        have hf0 := hf 8
        have hf1 := hf 9
        have hf2 := hf 10
        have hf3 := hf 11
        clear hf
        go_wp2_with fail
        go_roundw
        case rel =>
          have h := (((HR.out.set 8 (UInt8.ofNat (xc / 16777216).toNat)).set 9 (UInt8.ofNat (xc / 65536).toNat)).set 10 (UInt8.ofNat (xc / 256).toNat)).set 11 (UInt8.ofNat xc.toNat)
          rw [u8_word xc 16777216 oc (by decide), u8_word xc 65536 oc (by decide), u8_word xc 256 oc (by decide), u8_word1 xc oc] at h
          exact ⟨3, by omega, rfl, bset (bset (bset (bset hb hD _) hD _) hD _) hD _, Lib.hid h⟩
        case measure => simp [intOf]
      · have ix : ∀ w, (Instr.index 123 (.agg #[.int .u32 xa, .int .u32 xb, .int .u32 xc, .int .u32 xd, .int .u32 xe, .int .u32 xf, .int .u32 xg, .int .u32 xh]) (.int .i64 ((3 : Nat) : Int))).run Tryz.prog w = .ok (.int .u32 xd) w := fun _ => by kernel_rfl
        have iy : ∀ w, (Instr.index 123 (.agg #[.int .u32 xa, .int .u32 xb, .int .u32 xc, .int .u32 xd, .int .u32 xe, .int .u32 xf, .int .u32 xg, .int .u32 xh]) (.int .i64 3)).run Tryz.prog w = .ok (.int .u32 xd) w := fun _ => by kernel_rfl
        have hf := HR.out.frozen
        have z0 := HR.out.cell 12 (by show 12 < 32; decide)
        have z1 := HR.out.cell 13 (by show 13 < 32; decide)
        have z2 := HR.out.cell 14 (by show 14 < 32; decide)
        have z3 := HR.out.cell 15 (by show 15 < 32; decide)
        have hf0 := hf 12
        have hf1 := hf 13
        have hf2 := hf 14
        have hf3 := hf 15
        clear hf
        go_wp2_with fail
        go_roundw
        case rel =>
          have h := (((HR.out.set 12 (UInt8.ofNat (xd / 16777216).toNat)).set 13 (UInt8.ofNat (xd / 65536).toNat)).set 14 (UInt8.ofNat (xd / 256).toNat)).set 15 (UInt8.ofNat xd.toNat)
          rw [u8_word xd 16777216 od (by decide), u8_word xd 65536 od (by decide), u8_word xd 256 od (by decide), u8_word1 xd od] at h
          exact ⟨4, by omega, rfl, bset (bset (bset (bset hb hD _) hD _) hD _) hD _, Lib.hid h⟩
        case measure => simp [intOf]
      · have ix : ∀ w, (Instr.index 123 (.agg #[.int .u32 xa, .int .u32 xb, .int .u32 xc, .int .u32 xd, .int .u32 xe, .int .u32 xf, .int .u32 xg, .int .u32 xh]) (.int .i64 ((4 : Nat) : Int))).run Tryz.prog w = .ok (.int .u32 xe) w := fun _ => by kernel_rfl
        have iy : ∀ w, (Instr.index 123 (.agg #[.int .u32 xa, .int .u32 xb, .int .u32 xc, .int .u32 xd, .int .u32 xe, .int .u32 xf, .int .u32 xg, .int .u32 xh]) (.int .i64 4)).run Tryz.prog w = .ok (.int .u32 xe) w := fun _ => by kernel_rfl
        have hf := HR.out.frozen
        have z0 := HR.out.cell 16 (by show 16 < 32; decide)
        have z1 := HR.out.cell 17 (by show 17 < 32; decide)
        have z2 := HR.out.cell 18 (by show 18 < 32; decide)
        have z3 := HR.out.cell 19 (by show 19 < 32; decide)
        have hf0 := hf 16
        have hf1 := hf 17
        have hf2 := hf 18
        have hf3 := hf 19
        clear hf
        go_wp2_with fail
        go_roundw
        case rel =>
          have h := (((HR.out.set 16 (UInt8.ofNat (xe / 16777216).toNat)).set 17 (UInt8.ofNat (xe / 65536).toNat)).set 18 (UInt8.ofNat (xe / 256).toNat)).set 19 (UInt8.ofNat xe.toNat)
          rw [u8_word xe 16777216 oe (by decide), u8_word xe 65536 oe (by decide), u8_word xe 256 oe (by decide), u8_word1 xe oe] at h
          exact ⟨5, by omega, rfl, bset (bset (bset (bset hb hD _) hD _) hD _) hD _, Lib.hid h⟩
        case measure => simp [intOf]
      · have ix : ∀ w, (Instr.index 123 (.agg #[.int .u32 xa, .int .u32 xb, .int .u32 xc, .int .u32 xd, .int .u32 xe, .int .u32 xf, .int .u32 xg, .int .u32 xh]) (.int .i64 ((5 : Nat) : Int))).run Tryz.prog w = .ok (.int .u32 xf) w := fun _ => by kernel_rfl
        have iy : ∀ w, (Instr.index 123 (.agg #[.int .u32 xa, .int .u32 xb, .int .u32 xc, .int .u32 xd, .int .u32 xe, .int .u32 xf, .int .u32 xg, .int .u32 xh]) (.int .i64 5)).run Tryz.prog w = .ok (.int .u32 xf) w := fun _ => by kernel_rfl
        have hf := HR.out.frozen
        have z0 := HR.out.cell 20 (by show 20 < 32; decide)
        have z1 := HR.out.cell 21 (by show 21 < 32; decide)
        have z2 := HR.out.cell 22 (by show 22 < 32; decide)
        have z3 := HR.out.cell 23 (by show 23 < 32; decide)
        have hf0 := hf 20
        have hf1 := hf 21
        have hf2 := hf 22
        have hf3 := hf 23
        clear hf
        go_wp2_with fail
        go_roundw
        case rel =>
          have h := (((HR.out.set 20 (UInt8.ofNat (xf / 16777216).toNat)).set 21 (UInt8.ofNat (xf / 65536).toNat)).set 22 (UInt8.ofNat (xf / 256).toNat)).set 23 (UInt8.ofNat xf.toNat)
          rw [u8_word xf 16777216 of' (by decide), u8_word xf 65536 of' (by decide), u8_word xf 256 of' (by decide), u8_word1 xf of'] at h
          exact ⟨6, by omega, rfl, bset (bset (bset (bset hb hD _) hD _) hD _) hD _, Lib.hid h⟩
        case measure => simp [intOf]
      · have ix : ∀ w, (Instr.index 123 (.agg #[.int .u32 xa, .int .u32 xb, .int .u32 xc, .int .u32 xd, .int .u32 xe, .int .u32 xf, .int .u32 xg, .int .u32 xh]) (.int .i64 ((6 : Nat) : Int))).run Tryz.prog w = .ok (.int .u32 xg) w := fun _ => by kernel_rfl
        have iy : ∀ w, (Instr.index 123 (.agg #[.int .u32 xa, .int .u32 xb, .int .u32 xc, .int .u32 xd, .int .u32 xe, .int .u32 xf, .int .u32 xg, .int .u32 xh]) (.int .i64 6)).run Tryz.prog w = .ok (.int .u32 xg) w := fun _ => by kernel_rfl
        have hf := HR.out.frozen
        have z0 := HR.out.cell 24 (by show 24 < 32; decide)
        have z1 := HR.out.cell 25 (by show 25 < 32; decide)
        have z2 := HR.out.cell 26 (by show 26 < 32; decide)
        have z3 := HR.out.cell 27 (by show 27 < 32; decide)
        have hf0 := hf 24
        have hf1 := hf 25
        have hf2 := hf 26
        have hf3 := hf 27
        clear hf
        go_wp2_with fail
        go_roundw
        case rel =>
          have h := (((HR.out.set 24 (UInt8.ofNat (xg / 16777216).toNat)).set 25 (UInt8.ofNat (xg / 65536).toNat)).set 26 (UInt8.ofNat (xg / 256).toNat)).set 27 (UInt8.ofNat xg.toNat)
          rw [u8_word xg 16777216 og (by decide), u8_word xg 65536 og (by decide), u8_word xg 256 og (by decide), u8_word1 xg og] at h
          exact ⟨7, by omega, rfl, bset (bset (bset (bset hb hD _) hD _) hD _) hD _, Lib.hid h⟩
        case measure => simp [intOf]
      · have ix : ∀ w, (Instr.index 123 (.agg #[.int .u32 xa, .int .u32 xb, .int .u32 xc, .int .u32 xd, .int .u32 xe, .int .u32 xf, .int .u32 xg, .int .u32 xh]) (.int .i64 ((7 : Nat) : Int))).run Tryz.prog w = .ok (.int .u32 xh) w := fun _ => by kernel_rfl
        have iy : ∀ w, (Instr.index 123 (.agg #[.int .u32 xa, .int .u32 xb, .int .u32 xc, .int .u32 xd, .int .u32 xe, .int .u32 xf, .int .u32 xg, .int .u32 xh]) (.int .i64 7)).run Tryz.prog w = .ok (.int .u32 xh) w := fun _ => by kernel_rfl
        have hf := HR.out.frozen
        have z0 := HR.out.cell 28 (by show 28 < 32; decide)
        have z1 := HR.out.cell 29 (by show 29 < 32; decide)
        have z2 := HR.out.cell 30 (by show 30 < 32; decide)
        have z3 := HR.out.cell 31 (by show 31 < 32; decide)
        have hf0 := hf 28
        have hf1 := hf 29
        have hf2 := hf 30
        have hf3 := hf 31
        clear hf
        go_wp2_with fail
        go_roundw
        case rel =>
          have h := (((HR.out.set 28 (UInt8.ofNat (xh / 16777216).toNat)).set 29 (UInt8.ofNat (xh / 65536).toNat)).set 30 (UInt8.ofNat (xh / 256).toNat)).set 31 (UInt8.ofNat xh.toNat)
          rw [u8_word xh 16777216 oh (by decide), u8_word xh 65536 oh (by decide), u8_word xh 256 oh (by decide), u8_word1 xh oh] at h
          exact ⟨8, by omega, rfl, bset (bset (bset (bset hb hD _) hD _) hD _) hD _, Lib.hid h⟩
        case measure => simp [intOf]
    · obtain rfl : k = 8 := by omega
      have HC := Lib.hid (Bytes.conv (l := out ⟨xa, xb, xc, xd, xe, xf, xg, xh⟩) HR.out 32 rfl)
      have hcv := HC.out
      go_wp2
      go_ret
      exact ⟨by rw [HV.out]; rfl, hb⟩
end Sha
end Go.Proofs.YtjnlooccddnbkaaGreatDoor

namespace Go.Proofs.YtjnlooccddnbkaaGreatDoor
namespace Sha
open Go.RowKit
theorem flatten_take_succ (L : List (List UInt8)) (k : Nat) (h : k < L.length) : (L.take (k + 1)).flatten = (L.take k).flatten ++ L[k] := by
  rw [List.take_succ_eq_append_getElem h, List.flatten_append]; simp
theorem flatten_take_le (L : List (List UInt8)) (k : Nat) (h : k < L.length) : (L.take k).flatten.length + (L[k]).length ≤ L.flatten.length := by
  have e : L.flatten = (L.take (k + 1)).flatten ++ (L.drop (k + 1)).flatten := by rw [← List.flatten_append, List.take_append_drop]
  rw [e, flatten_take_succ L k h]
  simp only [List.length_append]; omega
set_option maxRecDepth 100000 in
set_option maxHeartbeats 1000000 in
theorem of_any (a : Option Addr) (n c : Nat) (L : List (List UInt8)) (w : World) (hL : Words.Lies w a n L) (ht : Tabs w) (hs : L.flatten.length ≤ 70368744177664) (hn : n ≤ 1099511627776) :
    Calls Tryz.prog 42 #[.slice a n c] w fun e w' => e = .returned (.string ⟨(of L.flatten).toArray⟩) ∧ Below w.heap.size w w' := by
  have h0 := Below.refl w.heap.size w
  have hl := hL.1
  have h2 : 2 ≤ w.heap.size := by
    obtain ⟨⟨t, h, _⟩, _⟩ := ht
    exact h.lt
  have HL := Lib.hid hL
  have HT := Lib.hid ht
  have HS := Lib.hid hs
  have HN := Lib.hid hl
  clear hL hl ht hs
  go_enter Tryz.func42, Tryz.ntmps42
  go_wp2_with fail
  refine (new_any _ HT.out).mono ?_
  rintro e w1 ⟨rfl, hI1, hs1, k1⟩
  have HI1 := Lib.hid hI1
  clear hI1 hs1
  go_wp2_with fail
  go_loopw [9] (fun i wx => ∃ k : Nat, k ≤ n ∧ i = .int .i64 (k : Int) ∧ Below w.heap.size w wx ∧ Hid (HI wx w.heap.size (L.take k).flatten)) (fun i _ => n - (intOf i).toNat)
  case atStart => exact ⟨0, by omega, rfl, k1, HI1⟩
  case round =>
    clear k1 HI1
    obtain ⟨k, hk, rfl, hb, HG⟩ := hrel
    by_cases hlt : k < n
    · have hd : decide ((k : Int) < (n : Int)) = true := decide_eq_true (by omega)
      have hkl : k < L.length := by have := HN.out; omega
      obtain ⟨b, o, rfl, hc⟩ := Words.words_at HL.out (by omega)
      have hc0 := hc k hkl
      have hlb := World.block_lt_of_cell? _ _ hc0
      have hcx := (hb.cell (p := ⟨b, o + k, none⟩) hlb).trans hc0
      have HF := Lib.hid (flatten_take_succ L k hkl)
      have hle := flatten_take_le L k hkl
      have hs := HS.out
      obtain ⟨x, hx⟩ : ∃ x, x = L[k] := ⟨_, rfl⟩
      rw [← hx] at hcx hle HF
      have h0k : (0 : Int) ≤ (k : Int) := by omega
      clear hc hc0 hx
      go_wp2_with fail
      refine (add_any w.heap.size _ x _ HG.out (HT.out.below hb) h2 (by omega)).mono ?_
      rintro e w3 ⟨rfl, hI3, k3⟩
      have HI3 := Lib.hid hI3
      clear hI3
      go_wp2_with fail
      go_roundw
      case rel => exact ⟨k + 1, by omega, by go_num, But.below hb k3 (Nat.le_refl _) hb.size, Lib.hid (by rw [HF.out]; exact HI3.out)⟩
      case measure => simp [intOf]; omega
    · obtain rfl : k = n := by omega
      have hd : decide ((k : Int) < (k : Int)) = false := decide_eq_false (by omega)
      have HE : Hid (HI wr w.heap.size L.flatten) := Lib.hid (by have := HG.out; rwa [List.take_of_length_le (by have := HN.out; omega)] at this)
      have hsz := hb.size
      clear HG
      go_wp2_with fail
      refine (sum_any w.heap.size L.flatten _ HE.out (HT.out.below hb) (by have := HS.out; omega) (by omega)).mono ?_
      rintro e w4 ⟨rfl, k4⟩
      go_wp2
      go_ret
      exact ⟨rfl, bstep hb k4⟩
end Sha
end Go.Proofs.YtjnlooccddnbkaaGreatDoor

namespace Go.Proofs.YtjnlooccddnbkaaGreatDoor
namespace Sha
theorem row_of_head {P : Program} {W : World} {name : String} {k : IntKind} {zs : List Int} {rest : List (String × DataW Unit)} {g : Nat} {t e : TypeId} {n : Nat}
    (hg : P.globalNamed name = some g) (hty : (P.globals[g]?).map (·.type) = some t) (ht : P.underlying t = some (.array n e)) (he : P.underlying e = some (.int k)) (hce : P.cellsOf e = 1) (hct : P.cellsOf t = n)
    (hz : 0 < zs.length) (h : laidMet P ((name, Lib.tabData k zs) :: rest) W) : ∃ t, W.heap[g]? = some (.cells (zs.map fun z => Value.int k z).toArray t (0, 0)) := by
  have hv := Lib.tabIs_of_head hg hty ht he hce hct h
  obtain ⟨ps, ⟨g', t', cs, fuel, p, q, hg', -, hvar, -, -, hps⟩, -, hall⟩ := h
  obtain rfl := Option.some.inj (hg.symm.trans hg')
  unfold Lib.TabIs at hv
  rw [hv] at hvar
  obtain rfl := Option.some.inj hvar
  have hm : MemPlace.cell g 0 ∈ ps := by
    rw [hps]
    refine List.mem_append_left _ (List.mem_append_left _ ?_)
    unfold MemPlace.row
    exact List.mem_map.2 ⟨0, List.mem_range.2 (by simpa using hz), rfl⟩
  obtain ⟨⟨c, t2, hc⟩, -⟩ := hall g 0 hm
  unfold World.var? at hv
  rw [hg] at hv
  simp only [Option.bind_some, hc, Option.some.injEq] at hv
  exact ⟨t2, by rw [hc, hv]⟩
theorem start_of {W : World} (h : laidMet Tryz.prog [("gossamer/sha.start", Lib.tabData .u32 H0.list)] W) : ∃ t, Row W 0 t H0.list :=
  row_of_head (g := 0) (t := 123) (e := 102) (n := 8) (by kernel_rfl) (by kernel_rfl) Tryz.underlying123 Tryz.underlying102 (by kernel_rfl) (by kernel_rfl) (by decide) h
theorem consts_of {W : World} (h : laidMet Tryz.prog [("gossamer/sha.consts", Lib.tabData .u32 K0)] W) : Tab W K0 := by
  obtain ⟨t, h⟩ := row_of_head (g := 1) (t := 143) (e := 102) (n := 64) (by kernel_rfl) (by kernel_rfl) Tryz.underlying143 Tryz.underlying102 (by kernel_rfl) (by kernel_rfl) (by decide) h
  exact ⟨t, h, rfl⟩
end Sha
end Go.Proofs.YtjnlooccddnbkaaGreatDoor
