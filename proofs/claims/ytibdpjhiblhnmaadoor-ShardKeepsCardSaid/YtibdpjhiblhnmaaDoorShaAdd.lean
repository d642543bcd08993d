
/- sha: New, Add. -/
import Derived.Test.YtibdpjhiblhnmaaDoorShaMix
import Derived.Test.YtibdpjhiblhnmaaDoorShaState
import Derived.Lib.BufferWrite
namespace Go.Proofs.YtibdpjhiblhnmaaDoor
namespace Sha
open Go.RowKit
/-- 'copy(dst, s)' of a text, as much as goes in. -/
theorem run_copy_str {P : Program} (w : World) (dT sT ty elem : TypeId) (g o dLen dCap m : Nat) (l : List UInt8) (cur : Array Value) (t : TypeId)
    (hu : P.underlying dT = some (.slice elem)) (hs : (P.info? elem).map (·.size) = some 1) (hg : w.heap[g]? = some (.cells cur t (0, 0))) (hm : m = min l.length dLen) (hfit : o + m ≤ cur.size) :
    (Builtin.copy_ #[dT, sT] ty #[.slice (some ⟨g, o, none⟩) dLen dCap, .string ⟨l.toArray⟩]).run P w =
      .ok (.int .i64 (m : Int)) (w.setRow g (cur.toList.take o ++ u8s (l.take m) ++ cur.toList.drop (o + m)).toArray) := by
  have hlen : (u8s (l.take m)).length = m := by rw [u8s_length, List.length_take]; omega
  have hst := run_storeCells_at P g o t (u8s (l.take m)) 0 cur w hg (by rw [hlen]; simpa using hfit) (by
    intro v hv
    obtain ⟨x, _, rfl⟩ := List.mem_map.1 hv
    rfl)
  have hmin : Nat.min l.length dLen = m := hm.symm
  rw [hlen] at hst
  simp only [Nat.add_zero] at hst
  have hsz := Str.size_mk l
  have htk : List.take m (List.map (fun b : UInt8 => Value.int IntKind.u8 (b.toNat : Int)) l) = u8s (l.take m) := by rw [u8s, List.map_take]
  cases hq : P.info? elem with
  | none => simp [hq] at hs
  | some i =>
    simp [Builtin.copy_, run_underlying hu, Builtin.lenOf, Builtin.firstCells, sizeOf, typeInfo, hq, hsz, hmin]
    rw [htk, hst]
    simp [Result.andThen, goInt]
/-- The program's two tables lie there. -/
def Tabs (w : World) : Prop := Tab w K0 ∧ ∃ t, Row w 0 t H0.list
theorem Tabs.below {w w' : World} (h : Tabs w) (k : Below w.heap.size w w') : Tabs w' := by
  obtain ⟨h1, t, h2⟩ := h
  exact ⟨h1.below k, t, (k.block _ h2.lt).trans h2⟩
theorem Tabs.but {w w' : World} {b : Nat} (h : Tabs w) (k : But b w w') (hb : 2 ≤ b) : Tabs w' := by
  obtain ⟨⟨t1, h1, h3⟩, t, h2⟩ := h
  exact ⟨⟨t1, (k.block _ h1.lt (by omega)).trans h1, h3⟩, t, (k.block _ h2.lt (by omega)).trans h2⟩
theorem there_any (b : Nat) (w : World) (h : w.cell? ⟨b, 0, none⟩ = some (.bool true)) :
    Calls Tryd.prog 23 #[.pointer (some ⟨b, 0, none⟩)] w fun e w' => e = .returned (.bool true) ∧ w = w' := by
  go_enter Tryd.func23, Tryd.ntmps23
  go_wp2
  go_ret
  exact ⟨rfl, rfl⟩
/-- A hash into which bytes came. -/
def HI (w : World) (b : Nat) (l : List UInt8) : Prop := ∃ bk, IsL w b (full l).list bk (l.length : Int) ∧ bk.take (l.length % 64) = rest l
theorem HI.lt {w : World} {b : Nat} {l : List UInt8} (h : HI w b l) : b < w.heap.size := h.choose_spec.1.lt
theorem HI.below {w w' : World} {b : Nat} {l : List UInt8} (h : HI w b l) (k : Below w.heap.size w w') : HI w' b l := by
  obtain ⟨bk, h1, h2⟩ := h
  exact ⟨bk, h1.below k, h2⟩
theorem HI.but {w w' : World} {b c : Nat} {l : List UInt8} (h : HI w b l) (k : But c w w') (hb : b ≠ c) : HI w' b l := by
  obtain ⟨bk, h1, h2⟩ := h
  exact ⟨bk, h1.block (k.block _ h1.lt hb), h2⟩
set_option maxRecDepth 100000 in
set_option maxHeartbeats 1000000 in
theorem new_any (w : World) (h : Tabs w) :
    Calls Tryd.prog 14 #[] w fun e w' => e = .returned (.pointer (some ⟨w.heap.size, 0, none⟩)) ∧ HI w' w.heap.size [] ∧ w'.heap.size = w.heap.size + 1 ∧ Below w.heap.size w w' := by
  obtain ⟨-, t, h2⟩ := h
  obtain ⟨c0, c1, c2, c3, c4, c5, c6, c7⟩ := h2.eight
  clear h2
  go_enter Tryd.func14, Tryd.ntmps14
  go_wp2_with fail
  go_ret
  refine ⟨rfl, ⟨List.replicate 64 0, ⟨?_, rfl, rfl⟩, rfl⟩, by simp, balloc (Below.refl _ _) _⟩
  rw [heap_alloc_new]
  exact congrArg (fun c => some (Obj.cells c 54 (0, 0))) (by kernel_rfl)
theorem sliceAt_at (b a : Nat) (w : World) (ha : a < 64) : (Instr.sliceAt 51 (.pointer (some ⟨b, 9, none⟩)) (some (.int .i64 (a : Int))) none none).run Tryd.prog w = .ok (.slice (some ⟨b, 9 + a, none⟩) (64 - a) (64 - a)) w := by
  have hn : Tryd.prog.arrayLen 51 = 64 := by kernel_rfl
  have hz : (sizeOf (Tryd.prog.elem 51)).run Tryd.prog w = .ok 1 w := by kernel_rfl
  rw [run_sliceAt_array_l (ht := by kernel_rfl) (h0 := by omega) (h1 := by rw [hn]; omega), hz, hn]
  have e1 : (a : Int).toNat = a := by omega
  simp only [Result.andThen_ok, slicedAt, e1]
  rw [if_neg (by omega), Nat.mul_one, Go.WideShapes.add_plain]
/-- Bytes are copied into the block. -/
theorem copy_block {w : World} {b a m : Nat} {l : List Int} {bk s : List UInt8} {n : Int} (h : IsL w b l bk n) (ha : a < 64) (hm : m = min s.length (64 - a)) (ty : TypeId) :
    ∃ w', (Builtin.copy_ #[44, 9] ty #[.slice (some ⟨b, 9 + a, none⟩) (64 - a) (64 - a), .string ⟨s.toArray⟩]).run Tryd.prog w = .ok (.int .i64 (m : Int)) w' ∧
      IsL w' b l (bk.take a ++ s.take m ++ bk.drop (a + m)) n ∧ But b w w' := by
  obtain ⟨h1, h2, h3⟩ := h
  have h8 : (u32s l).length = 8 := by rw [u32s_length]; exact h3
  have h64 : (u8s bk).length = 64 := by rw [u8s_length]; exact h2
  refine ⟨_, run_copy_str w 44 9 ty 5 b (9 + a) (64 - a) (64 - a) m s _ _ Tryd.underlying44 (by kernel_rfl) h1 hm (by
    simp only [List.size_toArray, List.length_cons, List.length_append, List.length_nil, h8, h64]; omega), ⟨?_, ?_, h3⟩, ⟨rfl, rfl, rfl, by simp, fun k hk hb => setRow_other w b k _ hb⟩⟩
  · rw [setRow_heap w b _ _ _ _ h1]
    congr 3
    rw [List.toList_toArray]
    have e1 : (Value.bool true :: (u32s l ++ (u8s bk ++ [Value.int IntKind.u64 n]))).take (9 + a) = Value.bool true :: (u32s l ++ u8s (bk.take a)) := by
      rw [show 9 + a = (8 + a) + 1 by omega, List.take_succ_cons, ← h8, List.take_length_add_append, List.take_append_of_le_length (by omega), u8s, u8s, List.map_take]
    have e2 : (Value.bool true :: (u32s l ++ (u8s bk ++ [Value.int IntKind.u64 n]))).drop (9 + a + m) = u8s (bk.drop (a + m)) ++ [Value.int IntKind.u64 n] := by
      rw [show 9 + a + m = (8 + (a + m)) + 1 by omega, List.drop_succ_cons, ← h8, List.drop_length_add_append, List.drop_append_of_le_length (by omega), u8s, u8s, List.map_drop]
    rw [e1, e2]
    simp [u8s]
  · simp only [List.length_append, List.length_take, List.length_drop, h2]; omega
theorem extract_drop (l : List UInt8) (m n : Nat) (hn : n = l.length) : ({ data := l.toArray } : ByteArray).extract m n = { data := (l.drop m).toArray } := Str.ext (by
  rw [Str.extract_toList, List.toList_toArray, List.toList_toArray, hn, List.take_length])
theorem step_short {w : World} {b a m q : Nat} {d x bk : List UInt8} (h : IsL w b (full d).list (bk.take a ++ x ++ bk.drop (a + m)) ((q : Int) + (m : Int))) (hq : q = d.length) (ha : a = q % 64) (hm : x.length = m) (hs : a + m < 64)
    (hbk : bk.take (d.length % 64) = rest d) : HI w b (d ++ x) := by
  obtain ⟨e1, e2⟩ := full_short d x (by omega)
  have hl := h.2.1
  simp only [List.length_append, List.length_take, List.length_drop, hm] at hl
  refine ⟨bk.take a ++ x ++ bk.drop (a + m), ?_, ?_⟩
  · rw [e1, List.length_append, hm, ← hq, Int.natCast_add]; exact h
  · rw [e2, List.length_append, hm, ← hbk, ← hq, ← ha]
    have e3 : (q + m) % 64 = (bk.take a ++ x).length := by rw [List.length_append, List.length_take, hm]; omega
    rw [e3, List.take_left']
    rfl
theorem step_whole {w : World} {b a m q : Nat} {d x bk : List UInt8} (h : IsL w b (block K0 (full d) (bk.take a ++ x ++ bk.drop (a + m))).list (bk.take a ++ x ++ bk.drop (a + m)) ((q : Int) + (m : Int))) (hq : q = d.length) (ha : a = q % 64) (hm : x.length = m) (hs : a + m = 64)
    (hl : bk.length = 64) (hbk : bk.take (d.length % 64) = rest d) : HI w b (d ++ x) := by
  obtain ⟨e1, e2⟩ := full_whole d x (by omega)
  have e4 : bk.take a ++ x ++ bk.drop (a + m) = rest d ++ x := by rw [List.drop_of_length_le (by omega), List.append_nil, ← hbk, ← hq, ← ha]
  refine ⟨bk.take a ++ x ++ bk.drop (a + m), ?_, ?_⟩
  · rw [e1, List.length_append, hm, ← hq, Int.natCast_add, ← e4]; exact h
  · rw [e2, List.length_append, hm, ← hq]
    have e3 : (q + m) % 64 = 0 := by omega
    rw [e3, List.take_zero]
set_option maxRecDepth 100000 in
set_option maxHeartbeats 4000000 in
theorem add_any (b : Nat) (l s : List UInt8) (w : World) (h : HI w b l) (ht : Tabs w) (hb2 : 2 ≤ b) (hl : l.length + s.length ≤ 281474976710656) :
    Calls Tryd.prog 15 #[.pointer (some ⟨b, 0, none⟩), .string ⟨s.toArray⟩] w fun e w' => e = .returned (.tuple #[]) ∧ HI w' b (l ++ s) ∧ But b w w' := by
  have HT := Lib.hid ht
  have TH := Lib.hid (there_any b w h.choose_spec.1.cell0)
  have H := Lib.hid h
  clear h ht
  go_enter Tryd.func15, Tryd.ntmps15
  go_wp2_with fail
  refine TH.out.mono ?_
  rintro e w' ⟨rfl, rfl⟩
  go_wp2_with fail
  go_loopw [1] (fun sv wx => ∃ r d : List UInt8, sv = .string ⟨r.toArray⟩ ∧ Hid (l ++ s = d ++ r) ∧ Hid (HI wx b d) ∧ But b w wx) (fun sv _ => match sv with | .string t => t.size | _ => 0)
  case atStart => exact ⟨s, l, rfl, Lib.hid rfl, H, But.refl _ _⟩
  case round =>
    obtain ⟨r, d, rfl, HE, HD, hbut⟩ := hrel
    cases r with
    | nil =>
      go_wp2
      go_end0
      have he := HE.out
      rw [List.append_nil] at he
      exact ⟨rfl, by rw [he]; exact HD.out, hbut⟩
    | cons c r =>
      obtain ⟨bk, hI, hbk⟩ := HD.out
      have hds := congrArg List.length HE.out
      simp only [List.length_append, List.length_cons] at hds
      have cN := hI.size
      obtain ⟨q, hq⟩ : ∃ q, q = d.length := ⟨_, rfl⟩
      obtain ⟨a, ha⟩ : ∃ a, a = q % 64 := ⟨_, rfl⟩
      have ha64 : a < 64 := by omega
      obtain ⟨m, hm⟩ : ∃ m, m = min (c :: r).length (64 - a) := ⟨_, rfl⟩
      obtain ⟨w1, hcp, hI1, hb1⟩ := copy_block hI ha64 hm 3
      rw [← hq] at cN hI1
      have e1 : (q : Int) % 64 = (a : Int) := by omega
      have hsl : ∀ w, (Instr.sliceAt 51 (.pointer (some ⟨b, 9, none⟩)) (some (.int .i64 ((q : Int) % 64))) none none).run Tryd.prog w = .ok (.slice (some ⟨b, 9 + a, none⟩) (64 - a) (64 - a)) w := fun w => by rw [e1]; exact sliceAt_at b a w ha64
      have cN1 := hI1.size
      have fN1 := hI1.frozen 73
      have hml : m ≤ r.length + 1 := by rw [hm, List.length_cons]; omega
      have hm64 : m ≤ 64 := by omega
      have m0 : (0 : Int) ≤ (m : Int) := by omega
      have hqm : q + m ≤ 281474976710656 := by omega
      have hsz := Str.size_mk (c :: r)
      have HQ := Lib.hid hq
      have HA := Lib.hid ha
      have HM := Lib.hid hm
      have HS := Lib.hid hds
      have HB := Lib.hid hbk
      have HJ := Lib.hid hI1
      have HL := Lib.hid hI.2.1
      clear hq ha hm e1 hds hbk hI1 hI hl
      have hx := extract_drop (c :: r) m (r.length + 1) (by rw [List.length_cons])
      have hxl : ((c :: r).take m).length = m := by rw [List.length_take, List.length_cons]; omega
      have HX := Lib.hid hxl
      clear hxl
      have h1m : 1 ≤ m := by have := HM.out; rw [List.length_cons] at this; omega
      by_cases hf : q % 64 + m = 64
      · have hfb : ((q : Int) % 64 + (m : Int) == 64) = true := by rw [beq_iff_eq]; omega
        have HF := Lib.hid hf
        clear hf
        go_wp2_with fail
        refine (mix_any K0 b (full d) _ _ _ (HJ.out.setN ((q : Int) + (m : Int))) (HT.out.but (hbut.trans (hb1.set _ rfl _)) hb2).1).mono ?_
        rintro e w3 ⟨rfl, hI3, hb3⟩
        have HI3 := Lib.hid hI3
        clear hI3
        go_wp2_with fail
        go_roundw
        case rel =>
          have hA := HA.out
          have hF := HF.out
          exact ⟨(c :: r).drop m, d ++ (c :: r).take m, rfl, Lib.hid (by rw [HE.out, List.append_assoc, List.take_append_drop]), Lib.hid (step_whole HI3.out HQ.out HA.out HX.out (by omega) HL.out HB.out), (hbut.trans (hb1.set _ rfl _)).trans hb3⟩
        case measure =>
          show (ByteArray.mk ((c :: r).drop m).toArray).size < (ByteArray.mk (c :: r).toArray).size
          rw [Str.size_mk, Str.size_mk, List.length_drop, List.length_cons]; omega
      · have hfb : ((q : Int) % 64 + (m : Int) == 64) = false := by rw [beq_eq_false_iff_ne]; omega
        have HF := Lib.hid hf
        clear hf
        go_wp2_with fail
        go_roundw
        case rel =>
          have hA := HA.out
          have hF := HF.out
          have hM := HM.out
          exact ⟨(c :: r).drop m, d ++ (c :: r).take m, rfl, Lib.hid (by rw [HE.out, List.append_assoc, List.take_append_drop]), Lib.hid (step_short (HJ.out.setN ((q : Int) + (m : Int))) HQ.out HA.out HX.out (by omega) HB.out), hbut.trans (hb1.set _ rfl _)⟩
        case measure =>
          show (ByteArray.mk ((c :: r).drop m).toArray).size < (ByteArray.mk (c :: r).toArray).size
          rw [Str.size_mk, Str.size_mk, List.length_drop, List.length_cons]; omega
end Sha
end Go.Proofs.YtibdpjhiblhnmaaDoor
