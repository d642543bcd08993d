/- Merged texts: RefShaPad, RefShaOf. -/
import Derived.Test.YtjnlooccddnbkaaGreatDoorTmRefSha0
import Derived.Test.YtjnlooccddnbkaaGreatDoorTmSha
import Derived.Laws.IdiomStrings
import Derived.Laws.IdiomCopy
import Derived.Lib.BufferMore
import Derived.Deep.RegionHeld3
namespace Go.Proofs.YtjnlooccddnbkaaGreatDoor
namespace RefSha
open Go.RowKit Sha
/-- A row of bytes of the call's own; none of its cells is frozen. -/
def Bts (w : World) (B : Nat) (v : Value) (l : List UInt8) : Prop :=
  (v = .slice none 0 0 ∧ l = []) ∨ ∃ g cap cur fr, v = .slice (some ⟨g, 0, none⟩) l.length cap ∧ B ≤ g ∧ w.heap[g]? = some (.cells cur 5 fr) ∧ l.length ≤ cap ∧ cap ≤ maxLen ∧ cur.size = cap ∧ cur.toList.take l.length = u8s l ∧ (∀ j, j < cap → w.frozen? ⟨g, j, none⟩ = false)
theorem Bts.below {w w' : World} {B : Nat} {v : Value} {l : List UInt8} (h : Bts w B v l) (k : Below w.heap.size w w') : Bts w' B v l := by
  rcases h with h | ⟨g, cap, cur, fr, h1, h2, h3, h4, h5, h6, h7, h8⟩
  · exact .inl h
  · have hg := (Array.getElem?_eq_some_iff.1 h3).1
    exact .inr ⟨g, cap, cur, fr, h1, h2, (k.block g hg).trans h3, h4, h5, h6, h7, fun j hj => (k.frozen (p := ⟨g, j, none⟩) hg).trans (h8 j hj)⟩
theorem Bts.some {w : World} {B : Nat} {v : Value} {l : List UInt8} (h : Bts w B v l) (hl : 0 < l.length) : ∃ g cap, v = .slice (some ⟨g, 0, none⟩) l.length cap ∧ B ≤ g ∧ l.length ≤ cap ∧ cap ≤ maxLen ∧ ∀ j, j < l.length → w.cell? ⟨g, j, none⟩ = some (.int .u8 ((l.getD j 0).toNat : Int)) := by
  rcases h with ⟨rfl, rfl⟩ | ⟨g, cap, cur, fr, rfl, h2, h3, h4, h5, h6, h7, h8⟩
  · simp at hl
  · refine ⟨g, cap, rfl, h2, h4, h5, fun j hj => ?_⟩
    have e : (cur.toList.take l.length)[j]? = (u8s l)[j]? := by rw [h7]
    rw [List.getElem?_take_of_lt hj, Array.getElem?_toList] at e
    rw [cell_of_row w g j cur _ fr h3, e, u8s, List.getElem?_map, List.getElem?_eq_getElem hj, List.getD_eq_getElem?_getD, List.getElem?_eq_getElem hj]
    rfl
theorem info8 : (Tryz.prog.info? 5).map (fun i => (i.zero, i.size, i.bytes)) = some (some (.int .u8 0), 1, 1) := by kernel_rfl
/-- One byte is appended. -/
theorem run_byte_app {w : World} {B : Nat} {v : Value} {l : List UInt8} (h : Bts w B v l) (hB : B ≤ w.heap.size) (q : Addr) (c : Nat) (x : UInt8) (hq : w.cell? q = some (.int .u8 (x.toNat : Int))) (hl : l.length ≤ 70368744177664) (ty : TypeId) :
    ∃ v' w', (Builtin.append_ #[64, 64] ty #[v, .slice (some q) 1 c]).run Tryz.prog w = .ok v' w' ∧ Bts w' B v' (l ++ [x]) ∧ Below B w w' := by
  obtain ⟨i, hi, hz, hs, hb⟩ := Row.info_of info8
  have hnews : ∀ (j : Nat) (u : Value), [Value.int .u8 (x.toNat : Int)][j]? = some u → w.cell? (q.add j) = some u := fun j u hu => by
    match j, hu with
    | 0, hu =>
      simp only [List.getElem?_cons_zero, Option.some.injEq] at hu
      rw [← hu, show q.add 0 = q from by unfold Addr.add; split <;> simp_all]; exact hq
    | j + 1, hu => simp at hu
  rcases h with ⟨rfl, rfl⟩ | ⟨g, cap, cur, fr, rfl, h2, h3, h4, h5, h6, h7, h8⟩
  · have hr := run_append_nil (P := Tryz.prog) w 64 ty 5 i _ Tryz.underlying64 hi hz q 1 c [.int .u8 (x.toNat : Int)] (by rw [hs]; rfl) hnews (by omega) (by omega) (by omega)
    have hge := grownCap_ge w 1 0 5
    have hcm := grownCap_le_maxLen w 1 0 5 (by decide)
    refine ⟨_, _, hr, .inr ⟨w.heap.size, _, _, (0, 0), rfl, hB, heap_alloc_new w.drew _, hge, hcm, ?_, ?_, fun j _ => frozen_of_row _ _ j _ _ (heap_alloc_new w.drew _)⟩, (Below.drew (Below.refl B w)).alloc hB _⟩
    · simp [size_zeroCells, Value.cells]; omega
    · simp [u8s]
  · by_cases hroom : l.length + 1 ≤ cap
    · have hlt : l.length < cur.size := by omega
      have hcell : w.cell? ⟨g, l.length + 0 + 0, none⟩ = cur[l.length]? := cell_of_row w g _ cur _ fr h3
      have hst := run_storeCells_cells (P := Tryz.prog) g l.length [.int .u8 (x.toNat : Int)] 0 w (fun j hj => by
        obtain rfl : j = 0 := by simp at hj; exact hj
        rw [hcell, Array.getElem?_eq_getElem hlt]; rfl) (fun j hj => by
        obtain rfl : j = 0 := by simp at hj; exact hj
        exact h8 _ (by omega)) (by simp [Value.oneCell'])
      rw [Nat.add_zero] at hst
      have hf := run_firstCells_some (P := Tryz.prog) w i.size 1 q 1 c [.int .u8 (x.toNat : Int)] (by rw [hs]; rfl) hnews
      refine ⟨.slice (some ⟨g, 0, none⟩) (l.length + 1) cap, w.setCells g l.length [.int .u8 (x.toNat : Int)], ?_, .inr ⟨g, cap, cur.setIfInBounds l.length (.int .u8 (x.toNat : Int)), fr, by simp, h2, ?_, by simp; omega, h5, by simp [h6], ?_, fun j hj => by rw [World.frozen?_setCells]; exact h8 j hj⟩, ?_⟩
      · rw [hs] at hf
        simp [Builtin.append_, run_underlying Tryz.underlying64, sizeOf, typeInfo, hi, hs, Builtin.lenOf, hroom, hf, Go.WideShapes.add_plain, hst]
      · exact Lib.heap_setCell_same h3 _
      · rw [List.length_append, Array.toList_setIfInBounds, List.take_set, show l.length + [x].length = l.length + 1 from rfl, List.take_succ_eq_append_getElem (by simpa using hlt), h7]
        rw [List.set_append_right _ _ (by rw [u8s_length]; exact Nat.le_refl _), u8s_length, Nat.sub_self, List.set_cons_zero]
        simp [u8s]
      · exact Below.setCell (Below.refl B w) h2 _
    · have holds : ∀ j u, (u8s l)[j]? = some u → w.cell? ((⟨g, 0, none⟩ : Addr).add j) = some u := fun j u hu => by
        have hj : j < l.length := by have := (List.getElem?_eq_some_iff.1 hu).1; rwa [u8s_length] at this
        rw [Go.WideShapes.add_plain, Nat.zero_add, cell_of_row w g j cur _ fr h3, ← hu, ← h7, List.getElem?_take_of_lt hj, Array.getElem?_toList]
      have hr := run_append_grow (P := Tryz.prog) w 64 ty 5 i _ Tryz.underlying64 hi hz ⟨g, 0, none⟩ l.length cap (u8s l) (by rw [u8s_length, hs]; omega) holds q 1 c [.int .u8 (x.toNat : Int)] (by rw [hs]; rfl) hnews (by omega) (by omega) (growslice_fits (by omega) (by rw [hb]; omega))
      have hge := grownCap_ge w (l.length + 1) cap 5
      have hcm := grownCap_le_maxLen w (l.length + 1) cap 5 (by unfold maxLen; omega)
      refine ⟨_, _, hr, .inr ⟨w.heap.size, _, _, (0, 0), by simp, hB, heap_alloc_new w.drew _, by simpa using hge, hcm, ?_, ?_, fun j _ => frozen_of_row _ _ j _ _ (heap_alloc_new w.drew _)⟩, (Below.drew (Below.refl B w)).alloc hB _⟩
      · simp [size_zeroCells, Value.cells, u8s_length]; omega
      · simp only [Array.toList_append, u8s, List.length_append, List.length_singleton, List.map_append, List.map_cons, List.map_nil]
        exact List.take_left' (by simp)
theorem wpList_byte_app {ops : Array Oper} {rest : List Oper} {o : Oper} {a : Act} {w : World} {Q : Exit → Act → World → Prop} (hgd : o.guard = none) (s y : Operand)
    (ho : o.op = .call { callee := .builtin .append, args := #[s, y], argTypes := #[64, 64] }) (B : Nat) (v : Value) (l : List UInt8) (hs : a.eval s = v) (h : Bts w B v l) (hB : B ≤ w.heap.size)
    (q : Addr) (c : Nat) (x : UInt8) (hx : a.eval y = .slice (some q) 1 c) (hq : w.cell? q = some (.int .u8 (x.toNat : Int))) (hl : l.length ≤ 70368744177664)
    (hk : ∀ v' w', Bts w' B v' (l ++ [x]) → Below B w w' → wpList Tryz.prog ops Q rest (a.put o.dst v') w') : wpList Tryz.prog ops Q (o :: rest) a w := by
  obtain ⟨v', w', hr, h2, h3⟩ := run_byte_app h hB q c x hq hl o.type
  refine wpList_plain hgd fun k hK => ?_
  unfold Oper.wp execOp
  simp only [ho, resolve, invoke, builtin, Sem.run_bind, Sem.run_pure, Result.andThen_ok, List.map_toArray, List.map_cons, List.map_nil, hs, hx, hr]
  exact hK _ _ (hk v' w' h2 h3)
theorem frozen_at {w : World} {g : Nat} {c : Array Value} {e : TypeId} {lo hi : Nat} (h : w.heap[g]? = some (.cells c e (lo, hi))) (j : Nat) : w.frozen? ⟨g, j, none⟩ = (decide (lo ≤ j) && decide (j < hi)) := by
  simp [World.frozen?, h]
/-- '[]byte(s)'. -/
theorem bytes_of (w : World) (l : List UInt8) (hl : l.length ≤ 70368744177664) : ∃ v w', (convert 9 64 (.string ⟨l.toArray⟩)).run Tryz.prog w = .ok v w' ∧ Bts w' w.heap.size v l ∧ Below w.heap.size w w' ∧ w'.heap.size = w.heap.size + 1 := by
  have hr := run_bytes_of_string (P := Tryz.prog) w 9 64 5 ⟨l.toArray⟩ Tryz.underlying9 Tryz.underlying64 Tryz.underlying5
  have hsz := Str.size_mk l
  rw [hsz] at hr
  have hge := grownCap_ge w l.length 0 5
  have hcm := grownCap_le_maxLen w l.length 0 5 (by unfold maxLen; omega)
  have hrow : (bytesRow ⟨l.toArray⟩ (grownCap w l.length 0 5)).size = grownCap w l.length 0 5 := by
    unfold bytesRow
    rw [Array.size_append, Array.size_replicate, hsz]
    simp; omega
  refine ⟨_, _, hr, .inr ⟨w.heap.size, _, _, _, rfl, Nat.le_refl _, heap_alloc_new w.drew _, hge, hcm, hrow, ?_, fun j hj => ?_⟩, (Below.drew (Below.refl _ w)).alloc (Nat.le_refl _) _, by simp⟩
  · unfold bytesRow
    rw [Array.toList_append]
    rw [List.take_left' (by simp)]
    simp [u8s]
  · refine (frozen_at (heap_alloc_new w.drew _) j).trans ?_
    rw [hrow]
    have : ¬ (grownCap w l.length 0 5 ≤ j) := by omega
    simp [this]
theorem zero_more (l : List UInt8) (z : Nat) : l ++ 128 :: List.replicate z 0 ++ [0] = l ++ 128 :: List.replicate (z + 1) 0 := by
  rw [List.append_assoc, List.cons_append, ← List.replicate_succ']
def lenOf (v : Value) : Nat := match v with | .slice _ n _ => n | _ => 0
theorem Bts.len {w : World} {B : Nat} {v : Value} {l : List UInt8} (h : Bts w B v l) : ∃ a c, v = .slice a l.length c := by
  rcases h with ⟨rfl, rfl⟩ | ⟨g, cap, cur, fr, rfl, _⟩
  · exact ⟨none, 0, rfl⟩
  · exact ⟨_, cap, rfl⟩
set_option maxRecDepth 100000 in
set_option maxHeartbeats 2000000 in
theorem padded_any (l : List UInt8) (w : World) (hl : l.length ≤ 1099511627776) :
    Calls Tryz.prog 53 #[.string ⟨l.toArray⟩] w fun e w' => ∃ v, e = .returned v ∧ Bts w' w.heap.size v (l ++ tail l.length) ∧ Below w.heap.size w w' := by
  obtain ⟨v1, w1, hcv, hB1, k1, -⟩ := bytes_of w l (by omega)
  obtain ⟨a1, c1, rfl⟩ := hB1.len
  have HB1 := Lib.hid hB1
  obtain ⟨n, hn⟩ : ∃ n, n = l.length := ⟨_, rfl⟩
  obtain ⟨Z, hZ⟩ : ∃ Z, Z = (119 - n % 64) % 64 := ⟨_, rfl⟩
  have HN := Lib.hid hn
  have HZ := Lib.hid hZ
  have hsz := Str.size_mk l
  rw [← hn] at hl hsz hcv HB1
  have hsz1 := k1.size
  clear hB1 hn hZ
  go_enter Tryz.func53, Tryz.ntmps53
  go_wp2_with (at_builtin; refine wpList_byte_app rfl _ _ rfl w.heap.size (.slice a1 n c1) l rfl (HB1.out.below (balloc (Below.refl _ _) _)) (by rw [World.size_alloc]; omega) ⟨w1.heap.size, 0, none⟩ 1 128 rfl (by rw [World.cell?_alloc_new]; rfl) (by rw [← HN.out]; omega) ?_; intro v2 w2 B2 k2)
  have HB2 := Lib.hid B2
  have hb2 : Below w.heap.size w w2 := (k1.alloc hsz1 _).trans k2
  clear B2 k2 hsz1 k1 hcv
  go_loopw [3] (fun v wx => ∃ (z : Nat) (x : Value), z ≤ Z ∧ x = v ∧ Below w.heap.size w wx ∧ Hid (Bts wx w.heap.size x (l ++ 128 :: List.replicate z 0))) (fun v _ => n + 200 - lenOf v)
  case atStart => exact ⟨0, v2, by omega, rfl, hb2, HB2⟩
  case round =>
    clear hb2 HB2
    obtain ⟨z, x, hz, rfl, hb, HB⟩ := hrel
    obtain ⟨a3, c3, rfl⟩ := HB.out.len
    have hlen : (l ++ 128 :: List.replicate z 0).length = n + 1 + z := by rw [List.length_append, List.length_cons, List.length_replicate, ← HN.out]; omega
    rw [hlen] at HB ⊢
    have hsz1 := hb.size
    have hZZ := HZ.out
    have hZ64 : Z ≤ 63 := by omega
    by_cases hlt : z < Z
    · have hd : ((((n + 1 + z : Nat) : Int)) % 64 != 56) = true := by rw [bne_iff_ne]; omega
      have hd2 : ((((n + 1 + z : Nat) : Int)) % 64 == 56) = false := by rw [beq_eq_false_iff_ne]; omega
      obtain ⟨q, hq⟩ : ∃ q, q = n + 1 + z := ⟨_, rfl⟩
      rw [← hq] at hd hd2 HB ⊢
      have HQ := Lib.hid hq
      have HL := Lib.hid hlen
      clear hq hlen hZZ
      go_wp2_with (at_builtin; refine wpList_byte_app rfl _ _ rfl w.heap.size (.slice a3 q c3) _ rfl (HB.out.below (balloc (Below.refl _ _) _)) (by rw [World.size_alloc]; omega) ⟨wr.heap.size, 0, none⟩ 1 0 rfl (by rw [World.cell?_alloc_new]; rfl) (by rw [HL.out]; omega) ?_; intro v4 w4 B4 k4)
      have HB4 := Lib.hid B4
      have hb4 : Below w.heap.size w w4 := (hb.alloc hsz1 _).trans k4
      obtain ⟨a4, c4, rfl⟩ := HB4.out.len
      clear B4 k4
      go_roundw
      case rel => exact ⟨z + 1, _, by omega, rfl, hb4, Lib.hid (by have h := HB4.out; rw [zero_more] at h ⊢; exact h)⟩
      case measure =>
        have := HQ.out
        show n + 200 - (l ++ 128 :: List.replicate z 0 ++ [0]).length < n + 200 - q
        rw [List.length_append, HL.out, List.length_singleton]; omega
    · obtain rfl : z = Z := by omega
      have hd : ((((n + 1 + z : Nat) : Int)) % 64 != 56) = false := by rw [bne_eq_false_iff_eq]; omega
      have hd2 : ((((n + 1 + z : Nat) : Int)) % 64 == 56) = true := by rw [beq_iff_eq]; omega
      obtain ⟨q, hq⟩ : ∃ q, q = n + 1 + z := ⟨_, rfl⟩
      rw [← hq] at hd hd2 HB ⊢
      obtain ⟨m, hm⟩ : ∃ m, m = 8 * n := ⟨_, rfl⟩
      have hm8 : IntKind.u64.wrap ((n : Int) * 8) = (m : Int) := by rw [IntKind.wrap_u64]; omega
      have hm9 : (n : Int) * 8 = (m : Int) := by omega
      have hmm : m ≤ 8796093022208 := by omega
      have HM := Lib.hid hm
      have HQ := Lib.hid hq
      have HL := Lib.hid hlen
      clear hq hlen hZZ hm
      go_wp2_with fail
      go_loopw [3, 5] (fun v i wx => ∃ (k : Nat) (x : Value), k ≤ 8 ∧ x = v ∧ i = .int .i64 (7 - (k : Int)) ∧ Below w.heap.size w wx ∧ Hid (Bts wx w.heap.size x (l ++ 128 :: List.replicate z 0 ++ (be8 m).take k))) (fun _ i _ => (intOf i + 1).toNat)
      case atStart => exact ⟨0, _, by omega, rfl, rfl, hb, Lib.hid (by rw [List.take_zero, List.append_nil]; exact HB.out)⟩
      case round =>
        clear hb HB hsz1
        obtain ⟨k, x, hk, rfl, rfl, hb, HB⟩ := hrel
        obtain ⟨a5, c5, rfl⟩ := HB.out.len
        have hl5 : (l ++ 128 :: List.replicate z 0 ++ (be8 m).take k).length = q + k := by
          rw [List.length_append, HL.out, List.length_take, show (be8 m).length = 8 from rfl, ← HQ.out]; omega
        have hsz1 := hb.size
        have hq8 : q ≤ 1099511627840 := by have := HQ.out; omega
        obtain ⟨q5, hq5⟩ : ∃ q5, q5 = (l ++ 128 :: List.replicate z 0 ++ (be8 m).take k).length := ⟨_, rfl⟩
        rw [← hq5] at HB ⊢
        have HL5 := Lib.hid hl5
        clear hl5 hq5
        by_cases hlt : k < 8
        · have h : k = 0 ∨ k = 1 ∨ k = 2 ∨ k = 3 ∨ k = 4 ∨ k = 5 ∨ k = 6 ∨ k = 7 := by omega
          rcases h with rfl | rfl | rfl | rfl | rfl | rfl | rfl | rfl
          · have hv := b8_0 m (by omega)
            have HV := Lib.hid hv
            clear hv
            have HT : Hid ((be8 m).take 1 = (be8 m).take 0 ++ [(be8 m).getD 0 0]) := Lib.hid rfl
            go_wp2_with (at_builtin; refine wpList_byte_app rfl _ _ rfl w.heap.size (.slice a5 q5 c5) _ rfl (HB.out.below (balloc (Below.refl _ _) _)) (by rw [World.size_alloc]; omega) ⟨wr.heap.size, 0, none⟩ 1 ((be8 m).getD 0 0) rfl (by rw [World.cell?_alloc_new, HV.out]; rfl) (by rw [HL5.out]; omega) ?_; intro v6 w6 B6 k6)
            have HB6 := Lib.hid B6
            have hb6 : Below w.heap.size w w6 := (hb.alloc hsz1 _).trans k6
            clear B6 k6
            go_roundw
            case rel => exact ⟨1, v6, by omega, rfl, rfl, hb6, Lib.hid (by rw [HT.out, ← List.append_assoc]; exact HB6.out)⟩
            case measure => simp [intOf]
          · have hv : (((be8 m).getD 1 0).toNat : Int) = (m : Int) / 281474976710656 := by rw [b8_1]; omega
            have HV := Lib.hid hv
            clear hv
            have HT : Hid ((be8 m).take 2 = (be8 m).take 1 ++ [(be8 m).getD 1 0]) := Lib.hid rfl
            go_wp2_with (at_builtin; refine wpList_byte_app rfl _ _ rfl w.heap.size (.slice a5 q5 c5) _ rfl (HB.out.below (balloc (Below.refl _ _) _)) (by rw [World.size_alloc]; omega) ⟨wr.heap.size, 0, none⟩ 1 ((be8 m).getD 1 0) rfl (by rw [World.cell?_alloc_new, HV.out]; rfl) (by rw [HL5.out]; omega) ?_; intro v6 w6 B6 k6)
            have HB6 := Lib.hid B6
            have hb6 : Below w.heap.size w w6 := (hb.alloc hsz1 _).trans k6
            clear B6 k6
            go_roundw
            case rel => exact ⟨2, v6, by omega, rfl, rfl, hb6, Lib.hid (by rw [HT.out, ← List.append_assoc]; exact HB6.out)⟩
            case measure => simp [intOf]
          · have hv : (((be8 m).getD 2 0).toNat : Int) = (m : Int) / 1099511627776 := by rw [b8_2]; omega
            have HV := Lib.hid hv
            clear hv
            have HT : Hid ((be8 m).take 3 = (be8 m).take 2 ++ [(be8 m).getD 2 0]) := Lib.hid rfl
            go_wp2_with (at_builtin; refine wpList_byte_app rfl _ _ rfl w.heap.size (.slice a5 q5 c5) _ rfl (HB.out.below (balloc (Below.refl _ _) _)) (by rw [World.size_alloc]; omega) ⟨wr.heap.size, 0, none⟩ 1 ((be8 m).getD 2 0) rfl (by rw [World.cell?_alloc_new, HV.out]; rfl) (by rw [HL5.out]; omega) ?_; intro v6 w6 B6 k6)
            have HB6 := Lib.hid B6
            have hb6 : Below w.heap.size w w6 := (hb.alloc hsz1 _).trans k6
            clear B6 k6
            go_roundw
            case rel => exact ⟨3, v6, by omega, rfl, rfl, hb6, Lib.hid (by rw [HT.out, ← List.append_assoc]; exact HB6.out)⟩
            case measure => simp [intOf]
          · have hv := b8_3 m
            have HV := Lib.hid hv
            clear hv
            have HT : Hid ((be8 m).take 4 = (be8 m).take 3 ++ [(be8 m).getD 3 0]) := Lib.hid rfl
            go_wp2_with (at_builtin; refine wpList_byte_app rfl _ _ rfl w.heap.size (.slice a5 q5 c5) _ rfl (HB.out.below (balloc (Below.refl _ _) _)) (by rw [World.size_alloc]; omega) ⟨wr.heap.size, 0, none⟩ 1 ((be8 m).getD 3 0) rfl (by rw [World.cell?_alloc_new, HV.out]; rfl) (by rw [HL5.out]; omega) ?_; intro v6 w6 B6 k6)
            have HB6 := Lib.hid B6
            have hb6 : Below w.heap.size w w6 := (hb.alloc hsz1 _).trans k6
            clear B6 k6
            go_roundw
            case rel => exact ⟨4, v6, by omega, rfl, rfl, hb6, Lib.hid (by rw [HT.out, ← List.append_assoc]; exact HB6.out)⟩
            case measure => simp [intOf]
          · have hv := b8_4 m
            have HV := Lib.hid hv
            clear hv
            have HT : Hid ((be8 m).take 5 = (be8 m).take 4 ++ [(be8 m).getD 4 0]) := Lib.hid rfl
            go_wp2_with (at_builtin; refine wpList_byte_app rfl _ _ rfl w.heap.size (.slice a5 q5 c5) _ rfl (HB.out.below (balloc (Below.refl _ _) _)) (by rw [World.size_alloc]; omega) ⟨wr.heap.size, 0, none⟩ 1 ((be8 m).getD 4 0) rfl (by rw [World.cell?_alloc_new, HV.out]; rfl) (by rw [HL5.out]; omega) ?_; intro v6 w6 B6 k6)
            have HB6 := Lib.hid B6
            have hb6 : Below w.heap.size w w6 := (hb.alloc hsz1 _).trans k6
            clear B6 k6
            go_roundw
            case rel => exact ⟨5, v6, by omega, rfl, rfl, hb6, Lib.hid (by rw [HT.out, ← List.append_assoc]; exact HB6.out)⟩
            case measure => simp [intOf]
          · have hv := b8_5 m
            have HV := Lib.hid hv
            clear hv
            have HT : Hid ((be8 m).take 6 = (be8 m).take 5 ++ [(be8 m).getD 5 0]) := Lib.hid rfl
            go_wp2_with (at_builtin; refine wpList_byte_app rfl _ _ rfl w.heap.size (.slice a5 q5 c5) _ rfl (HB.out.below (balloc (Below.refl _ _) _)) (by rw [World.size_alloc]; omega) ⟨wr.heap.size, 0, none⟩ 1 ((be8 m).getD 5 0) rfl (by rw [World.cell?_alloc_new, HV.out]; rfl) (by rw [HL5.out]; omega) ?_; intro v6 w6 B6 k6)
            have HB6 := Lib.hid B6
            have hb6 : Below w.heap.size w w6 := (hb.alloc hsz1 _).trans k6
            clear B6 k6
            go_roundw
            case rel => exact ⟨6, v6, by omega, rfl, rfl, hb6, Lib.hid (by rw [HT.out, ← List.append_assoc]; exact HB6.out)⟩
            case measure => simp [intOf]
          · have hv := b8_6 m
            have HV := Lib.hid hv
            clear hv
            have HT : Hid ((be8 m).take 7 = (be8 m).take 6 ++ [(be8 m).getD 6 0]) := Lib.hid rfl
            go_wp2_with (at_builtin; refine wpList_byte_app rfl _ _ rfl w.heap.size (.slice a5 q5 c5) _ rfl (HB.out.below (balloc (Below.refl _ _) _)) (by rw [World.size_alloc]; omega) ⟨wr.heap.size, 0, none⟩ 1 ((be8 m).getD 6 0) rfl (by rw [World.cell?_alloc_new, HV.out]; rfl) (by rw [HL5.out]; omega) ?_; intro v6 w6 B6 k6)
            have HB6 := Lib.hid B6
            have hb6 : Below w.heap.size w w6 := (hb.alloc hsz1 _).trans k6
            clear B6 k6
            go_roundw
            case rel => exact ⟨7, v6, by omega, rfl, rfl, hb6, Lib.hid (by rw [HT.out, ← List.append_assoc]; exact HB6.out)⟩
            case measure => simp [intOf]
          · have hv := b8_7 m
            have HV := Lib.hid hv
            clear hv
            have HT : Hid ((be8 m).take 8 = (be8 m).take 7 ++ [(be8 m).getD 7 0]) := Lib.hid rfl
            go_wp2_with (at_builtin; refine wpList_byte_app rfl _ _ rfl w.heap.size (.slice a5 q5 c5) _ rfl (HB.out.below (balloc (Below.refl _ _) _)) (by rw [World.size_alloc]; omega) ⟨wr.heap.size, 0, none⟩ 1 ((be8 m).getD 7 0) rfl (by rw [World.cell?_alloc_new, HV.out]; rfl) (by rw [HL5.out]; omega) ?_; intro v6 w6 B6 k6)
            have HB6 := Lib.hid B6
            have hb6 : Below w.heap.size w w6 := (hb.alloc hsz1 _).trans k6
            clear B6 k6
            go_roundw
            case rel => exact ⟨8, v6, by omega, rfl, rfl, hb6, Lib.hid (by rw [HT.out, ← List.append_assoc]; exact HB6.out)⟩
            case measure => simp [intOf]
        · obtain rfl : k = 8 := by omega
          have HE : Hid (Bts wr w.heap.size (.slice a5 q5 c5) (l ++ tail l.length)) := Lib.hid (by
            have h := HB.out
            rw [show (be8 m).take 8 = be8 m from rfl, List.append_assoc] at h
            have e : tail l.length = 128 :: List.replicate z 0 ++ be8 m := by unfold tail; rw [← HN.out, HM.out, HZ.out]; rfl
            rw [e]; exact h)
          clear HB
          go_wp2
          go_ret
          exact ⟨_, rfl, HE.out, hb⟩
end RefSha
end Go.Proofs.YtjnlooccddnbkaaGreatDoor

namespace Go.Proofs.YtjnlooccddnbkaaGreatDoor
namespace RefSha
open Go.RowKit Sha
abbrev Own8 := Row.Own (Ones.enc .u8) 5
def ints (l : List UInt8) : List Int := l.map (fun b => (b.toNat : Int))
theorem slice64 (g i n cap : Nat) (w : World) (h1 : i + 64 ≤ n) (h2 : n ≤ cap) : (Instr.sliceAt 64 (.slice (some ⟨g, 0, none⟩) n cap) (some (.int .i64 (i : Int))) (some (.int .i64 ((i : Int) + 64))) none).run Tryz.prog w = .ok (.slice (some ⟨g, i, none⟩) 64 (cap - i)) w := by
  have hz : (sizeOf (Tryz.prog.elem 64)).run Tryz.prog w = .ok 1 w := by kernel_rfl
  rw [run_sliceAt_slice (h := by kernel_rfl), run_slice_lh (ht := by kernel_rfl) (h0 := by omega) (h1 := by omega) (h2 := by omega), hz]
  have e1 : (i : Int).toNat = i := by omega
  have e2 : ((i : Int) + 64).toNat = i + 64 := by omega
  simp only [Result.andThen_ok, sliced, e1, e2]
  rw [show i + 64 - i = 64 by omega]
  rw [if_neg (by omega), Nat.mul_one]
  by_cases h0 : i = 0
  · simp [h0, Addr.add]
  · simp [h0, Addr.add]
theorem new_lies4 {k : IntKind} (w : World) (a b c d : Int) (T : TypeId) : Row.Lies (Ones.enc k) (w.alloc (.cells #[.int k a, .int k b, .int k c, .int k d] T)).drew (some ⟨w.heap.size, 0, none⟩) 4 [a, b, c, d] :=
  Row.Lies.below (Ones.Lies.of_cells (L := [a, b, c, d]) (fun j hj => by
    rw [World.cell?_alloc_new, Nat.zero_add]
    match j, hj with
    | 0, _ => rfl
    | 1, _ => rfl
    | 2, _ => rfl
    | 3, _ => rfl)) (Below.drew (Below.refl _ _))
theorem getD_block (L : List UInt8) (q j : Nat) (hj : j < 64) : ((L.drop q).take 64).getD j 0 = L.getD (q + j) 0 := by
  rw [List.getD_eq_getElem?_getD, List.getD_eq_getElem?_getD, List.getElem?_take_of_lt hj, List.getElem?_drop]
theorem take4 (s : St) (k : Nat) (h : k < 8) : (out s).take (4 * (k + 1)) = (out s).take (4 * k) ++ w4 (s.list.getD k 0) := by
  have h : k = 0 ∨ k = 1 ∨ k = 2 ∨ k = 3 ∨ k = 4 ∨ k = 5 ∨ k = 6 ∨ k = 7 := by omega
  rcases h with rfl | rfl | rfl | rfl | rfl | rfl | rfl | rfl <;> rfl
theorem getD_ok (s : St) (h : ∀ x ∈ s.list, 0 ≤ x) (k : Nat) (hk : k < 8) : 0 ≤ s.list.getD k 0 := by
  rw [List.getD_eq_getElem?_getD, List.getElem?_eq_getElem (show k < s.list.length from hk)]
  exact h _ (List.getElem_mem _)
theorem ints_w4 (x : Int) (h : 0 ≤ x) : ints (w4 x) = [IntKind.u8.wrap (x / 16777216), IntKind.u8.wrap (x / 65536), IntKind.u8.wrap (x / 256), IntKind.u8.wrap x] := by
  unfold ints w4
  simp only [List.map_cons, List.map_nil, u8_word x 16777216 h (by decide), u8_word x 65536 h (by decide), u8_word x 256 h (by decide), u8_word1 x h]
  rfl
set_option maxRecDepth 100000 in
set_option maxHeartbeats 4000000 in
theorem of_any (l : List UInt8) (w : World) (hl : l.length ≤ 1099511627776) :
    Calls Tryz.prog 40 #[.string ⟨l.toArray⟩] w fun e w' => e = .returned (.string ⟨(Sha.of l).toArray⟩) ∧ Below w.heap.size w w' := by
  have h0 := Below.refl w.heap.size w
  have hlt : (tail l.length).length ≤ 200 := by
    unfold tail be8
    simp only [List.length_cons, List.length_append, List.length_replicate, List.length_nil]; omega
  have hlm := tail_length l.length
  have HV : Hid (Sha.of l = out (full (l ++ tail l.length))) := Lib.hid rfl
  have hLl : (l ++ tail l.length).length = l.length + (tail l.length).length := List.length_append
  obtain ⟨L, hL⟩ : ∃ L, L = l ++ tail l.length := ⟨_, rfl⟩
  rw [← hL] at HV hLl
  have HP := Lib.hid (fun w => padded_any l w hl)
  rw [← hL] at HP
  obtain ⟨n, hn⟩ : ∃ n, n = L.length := ⟨_, rfl⟩
  have hn1 : n ≤ 1099511627976 := by omega
  have hn2 : n % 64 = 0 := by omega
  have HN := Lib.hid hn
  have HN2 := Lib.hid hn2
  have hn3 : 0 < n ∨ n = 0 := by omega
  clear hL hLl hn hlm hlt hn2
  go_enter Tryz.func40, Tryz.ntmps40
  go_wp2_with fail
  refine (constants_any _).mono ?_
  rintro e w1 ⟨vk, vh, rfl, hK, hH, k1⟩
  obtain ⟨gk, ck, rfl, -, hgk, -, -, -, -⟩ := Ones.Own.at hK (by decide)
  rw [show K0.length = 64 from rfl] at hK ⊢
  have HK := Lib.hid hK
  have HH := Lib.hid hH
  clear hK hH
  go_wp2_with fail
  refine (HP.out _).mono ?_
  rintro e w2 ⟨vb, rfl, hB, k2⟩
  obtain ⟨ab, cb, rfl⟩ := hB.len
  rw [← HN.out] at hB ⊢
  have HB := Lib.hid hB
  have HK2 := Lib.hid (HK.out.below k2)
  have HH2 := Lib.hid (HH.out.below k2)
  have hb2 := bstep k1 k2
  clear hB k2 HK HH
  go_wp2_with fail
  go_loopw [4, 6] (fun v i wx => ∃ (q : Nat) (x : Value), 64 * q ≤ n ∧ x = v ∧ i = .int .i64 ((64 * q : Nat) : Int) ∧ Below w2.heap.size w2 wx ∧ Hid (Own32 wx w.heap.size x (state L q).list)) (fun _ i _ => n + 64 - (intOf i).toNat)
  case atStart => exact ⟨0, vh, by omega, rfl, rfl, Below.refl _ _, Lib.hid (by rw [state_zero]; exact HH2.out)⟩
  case round =>
    clear HH2
    obtain ⟨q, x, hq, rfl, rfl, hb, HO⟩ := hrel
    obtain ⟨gh, ch, rfl, hghB, hghl, hch, hcm, -, -⟩ := Ones.Own.at HO.out (by show 0 < 8; decide)
    rw [show (state L q).list.length = 8 from rfl] at hch HO ⊢
    obtain ⟨p, hp⟩ : ∃ p, p = 64 * q := ⟨_, rfl⟩
    rw [← hp] at hq ⊢
    have HPQ := Lib.hid hp
    by_cases hlt : p < n
    · have hd : decide ((p : Int) < (n : Int)) = true := decide_eq_true (by omega)
      have hp64 : p + 64 ≤ n := by have := HN2.out; omega
      have hls : 0 < L.length := by rw [← HN.out]; omega
      obtain ⟨gb, cb2, e_, hgbB, hgbc, -, hbc⟩ := HB.out.some hls
      simp only [Value.slice.injEq] at e_
      obtain ⟨rfl, -, rfl⟩ := e_
      rw [← HN.out] at hgbc hbc
      have hsl := fun w => slice64 gb p n cb w hp64 hgbc
      have HBC : Hid (∀ j, j < 64 → wr.cell? ⟨gb, p + j, none⟩ = some (.int .u8 ((((L.drop p).take 64).getD j 0).toNat : Int))) := Lib.hid (fun j hj => by
        rw [getD_block L p j hj]
        have h := hbc (p + j) (by omega)
        exact (hb.cell (p := ⟨gb, p + j, none⟩) (World.block_lt_of_cell? _ _ h)).trans h)
      have HKL : Hid (Lies32 wr (some ⟨gk, 0, none⟩) 64 K0) := Lib.hid (by
        obtain ⟨a, c, e, -, -, h, -⟩ := (HK2.out.below hb).lies
        simp only [Value.slice.injEq] at e
        obtain ⟨rfl, -, -⟩ := e
        exact h)
      have HHL : Hid (Lies32 wr (some ⟨gh, 0, none⟩) 8 (state L q).list) := Lib.hid (by
        obtain ⟨a, c, e, -, -, h, -⟩ := HO.out.lies
        simp only [Value.slice.injEq] at e
        obtain ⟨rfl, -, -⟩ := e
        exact h)
      have hp0 : (0 : Int) ≤ (p : Int) := by omega
      have hp9 : IntKind.i64.wrap ((p : Int) + 64) = (p : Int) + 64 := by rw [IntKind.wrap_i64]; omega
      clear hbc hp
      go_wp2_with fail
      refine (block_any (some ⟨gh, 0, none⟩) (some ⟨gk, 0, none⟩) ch ck gb p (cb - p) (state L q) K0 ((L.drop p).take 64) _ HHL.out HKL.out HBC.out).mono ?_
      rintro e w4 ⟨v4, rfl, hO4, k4⟩
      have HO4 : Hid (Own32 w4 w.heap.size v4 (state L (q + 1)).list) := Lib.hid (by
        rw [state_succ, ← HPQ.out]; exact hO4.base (Nat.le_trans hb2.size hb.size))
      have hb4 := bstep hb k4
      clear hO4 k4
      go_wp2_with fail
      go_roundw
      case rel => exact ⟨q + 1, v4, by have := HPQ.out; omega, rfl, by rw [HPQ.out]; congr 1, hb4, HO4⟩
      case measure => simp [intOf]; omega
    · have hpn : p = n := by omega
      have hd : decide ((p : Int) < (n : Int)) = false := decide_eq_false (by omega)
      obtain ⟨s, hs⟩ : ∃ s, s = full L := ⟨_, rfl⟩
      have hsq : state L q = s := by rw [hs]; unfold full; rw [← HN.out, show n / 64 = q by omega]
      have hok : ∀ x ∈ s.list, 0 ≤ x := by rw [hs]; exact full_ok L
      rw [hsq] at HO
      have HS := Lib.hid hs
      have HOK := Lib.hid hok
      have hbw := hb2.trans (hb.mono hb2.size)
      clear hs hsq hok hp hpn
      go_wp2_with fail
      go_loopw [7, 8] (fun v i wx => ∃ (k : Nat) (x : Value), k ≤ 8 ∧ x = v ∧ i = .int .i64 (k : Int) ∧ Below w.heap.size w wx ∧ Hid (Own8 wx w.heap.size x (ints ((out s).take (4 * k)))) ∧ Hid (Own32 wx w.heap.size (.slice (some ⟨gh, 0, none⟩) 8 ch) s.list)) (fun _ i _ => 8 - (intOf i).toNat)
      case atStart => exact ⟨0, _, by omega, rfl, rfl, hbw, Lib.hid (Row.Own.nil _ _), HO⟩
      case round =>
        clear hbw HO hb
        obtain ⟨k, x, hk, rfl, rfl, hb, HR, HO⟩ := hrel
        by_cases hlt : k < 8
        · have hd : decide ((k : Int) < 8) = true := decide_eq_true (by omega)
          have hc := Ones.Own.cell HO.out k (by show k < 8; omega)
          have hy := getD_ok s HOK.out k hlt
          have HT := Lib.hid (take4 s k hlt)
          have HG : Hid (∀ x, Own32 x w.heap.size (.slice (some ⟨gh, 0, none⟩) 8 ch) s.list → x.cell? ⟨gh, k, none⟩ = some (.int .u32 (s.list.getD k 0))) := Lib.hid (fun x h => Ones.Own.cell h k (by show k < 8; omega))
          generalize s.list.getD k 0 = y at hc hy HT HG
          have HY := Lib.hid (ints_w4 y hy)
          have hlr : (ints ((out s).take (4 * k))).length ≤ 32 := by unfold ints; rw [List.length_map, List.length_take, out_length]; omega
          have HAP := Lib.hid (apart_types HR.out HO.out (by decide))
          have hsz := hb.size
          have hk0 : (0 : Int) ≤ (k : Int) := by omega
          have hk8 : (k : Int) < 8 := by omega
          clear hy
          go_wp2_with fail
          refine wp_region_noPanic ?_
          refine wp_region_held_drew (S := (fun w' => Below w.heap.size w w' ∧ w'.cell? ⟨gh, k, none⟩ = some (.int .u32 y))) (by kernel_rfl) (⟨Below.drew hb, hc⟩) (fun hHeld => ?_)
          refine wpAnyH_take (i := 0) (v := ?_) (by simp only [List.getElem?_toArray, List.getElem?_cons_zero]; rfl) (by kernel_rfl) (by kernel_rfl) (by kernel_rfl) (fun _ _ _ h => h) (Or.inl ⟨by rfl, ?_⟩) (by assumption) ?_
          rotate_left
          · (intro w hSw; (try dsimp only at hSw); go_simp; try with_reducible rfl)
          try simp only [Act.put, List.setIfInBounds_toArray, List.set_cons_zero, List.set_cons_succ]
          refine wpAnyH_take (i := 1) (v := ?_) (by simp only [List.getElem?_toArray, List.getElem?_cons_succ, List.getElem?_cons_zero]; rfl) (by kernel_rfl) (by kernel_rfl) (by kernel_rfl) (fun _ _ _ h => h) (Or.inl ⟨by rfl, ?_⟩) (by assumption) ?_
          rotate_left
          · (intro w hSw; (try dsimp only at hSw); go_simp; try with_reducible rfl)
          try simp only [Act.put, List.setIfInBounds_toArray, List.set_cons_zero, List.set_cons_succ]
          refine wpAnyH_take (i := 2) (v := ?_) (by simp only [List.getElem?_toArray, List.getElem?_cons_succ, List.getElem?_cons_zero]; rfl) (by kernel_rfl) (by kernel_rfl) (by kernel_rfl) (fun _ _ _ h => h) (Or.inl ⟨by rfl, ?_⟩) (by assumption) ?_
          rotate_left
          · (intro w hSw; (try dsimp only at hSw); go_simp; try with_reducible rfl)
          try simp only [Act.put, List.setIfInBounds_toArray, List.set_cons_zero, List.set_cons_succ]
          refine wpAnyH_take (i := 3) (v := ?_) (by simp only [List.getElem?_toArray, List.getElem?_cons_succ, List.getElem?_cons_zero]; rfl) (by kernel_rfl) (by kernel_rfl) (by kernel_rfl) (fun _ _ _ h => h) (Or.inl ⟨by rfl, ?_⟩) (by assumption) ?_
          rotate_left
          · (intro w hSw; (try dsimp only at hSw); go_simp; try with_reducible rfl)
          try simp only [Act.put, List.setIfInBounds_toArray, List.set_cons_zero, List.set_cons_succ]
          refine wpAnyH_take (i := 4) (v := ?_) (by simp only [List.getElem?_toArray, List.getElem?_cons_succ, List.getElem?_cons_zero]; rfl) (by kernel_rfl) (by kernel_rfl) (by kernel_rfl) (fun _ _ _ h => h) (Or.inl ⟨by rfl, ?_⟩) (by assumption) ?_
          rotate_left
          · (intro w hSw; (try dsimp only at hSw); go_simp; try with_reducible rfl)
          try simp only [Act.put, List.setIfInBounds_toArray, List.set_cons_zero, List.set_cons_succ]
          refine wpAnyH_take (i := 5) (v := ?_) (by simp only [List.getElem?_toArray, List.getElem?_cons_succ, List.getElem?_cons_zero]; rfl) (by kernel_rfl) (by kernel_rfl) (by kernel_rfl) (fun _ _ _ h => h) (Or.inl ⟨by rfl, ?_⟩) (by assumption) ?_
          rotate_left
          · (intro w hSw; (try dsimp only at hSw); go_simp; try with_reducible rfl)
          try simp only [Act.put, List.setIfInBounds_toArray, List.set_cons_zero, List.set_cons_succ]
          refine wpAnyH_take (i := 6) (v := ?_) (by simp only [List.getElem?_toArray, List.getElem?_cons_succ, List.getElem?_cons_zero]; rfl) (by kernel_rfl) (by kernel_rfl) (by kernel_rfl) (fun _ _ _ h => h) (Or.inl ⟨by rfl, ?_⟩) (by assumption) ?_
          rotate_left
          · (intro w hSw; (try dsimp only at hSw); go_simp; try with_reducible rfl)
          try simp only [Act.put, List.setIfInBounds_toArray, List.set_cons_zero, List.set_cons_succ]
          refine wpAnyH_take (i := 7) (v := ?_) (by simp only [List.getElem?_toArray, List.getElem?_cons_succ, List.getElem?_cons_zero]; rfl) (by kernel_rfl) (by kernel_rfl) (by kernel_rfl) (fun _ _ _ h => h) (Or.inl ⟨by rfl, ?_⟩) (by assumption) ?_
          rotate_left
          · (intro w hSw; (try dsimp only at hSw); go_simp; try with_reducible rfl)
          try simp only [Act.put, List.setIfInBounds_toArray, List.set_cons_zero, List.set_cons_succ]
          refine wpAnyH_take (i := 8) (v := ?_) (by simp only [List.getElem?_toArray, List.getElem?_cons_succ, List.getElem?_cons_zero]; rfl) (by kernel_rfl) (by kernel_rfl) (by kernel_rfl) (fun _ _ _ h => h) (Or.inl ⟨by rfl, ?_⟩) (by assumption) ?_
          rotate_left
          · (intro w hSw; (try dsimp only at hSw); go_simp; try with_reducible rfl)
          try simp only [Act.put, List.setIfInBounds_toArray, List.set_cons_zero, List.set_cons_succ]
          refine wpAnyH_take (i := 9) (v := ?_) (by simp only [List.getElem?_toArray, List.getElem?_cons_succ, List.getElem?_cons_zero]; rfl) (by kernel_rfl) (by kernel_rfl) (by kernel_rfl) (fun _ _ _ h => h) (Or.inl ⟨by rfl, ?_⟩) (by assumption) ?_
          rotate_left
          · (intro w hSw; (try dsimp only at hSw); go_simp; try with_reducible rfl)
          try simp only [Act.put, List.setIfInBounds_toArray, List.set_cons_zero, List.set_cons_succ]
          refine wpAnyH_take (i := 10) (v := ?_) (by simp only [List.getElem?_toArray, List.getElem?_cons_succ, List.getElem?_cons_zero]; rfl) (by kernel_rfl) (by kernel_rfl) (by kernel_rfl) (fun _ _ _ h => h) (Or.inl ⟨by rfl, ?_⟩) (by assumption) ?_
          rotate_left
          · (intro w hSw; (try dsimp only at hSw); go_simp; try with_reducible rfl)
          try simp only [Act.put, List.setIfInBounds_toArray, List.set_cons_zero, List.set_cons_succ]
          refine wpAnyH_take (i := 11) (v := ?_) (by simp only [List.getElem?_toArray, List.getElem?_cons_succ, List.getElem?_cons_zero]; rfl) (by kernel_rfl) (by kernel_rfl) (by kernel_rfl) (fun _ _ _ h => h) (Or.inl ⟨by rfl, ?_⟩) (by assumption) ?_
          rotate_left
          · (intro w hSw; (try dsimp only at hSw); go_simp; try with_reducible rfl)
          try simp only [Act.put, List.setIfInBounds_toArray, List.set_cons_zero, List.set_cons_succ]
          refine wpAnyH_take (i := 12) (v := ?_) (by simp only [List.getElem?_toArray, List.getElem?_cons_succ, List.getElem?_cons_zero]; rfl) (by kernel_rfl) (by kernel_rfl) (by kernel_rfl) (fun _ _ _ h => h) (Or.inl ⟨by rfl, ?_⟩) (by assumption) ?_
          rotate_left
          · (intro w hSw; (try dsimp only at hSw); go_simp; try with_reducible rfl)
          try simp only [Act.put, List.setIfInBounds_toArray, List.set_cons_zero, List.set_cons_succ]
          refine wpAnyH_take (i := 13) (v := ?_) (by simp only [List.getElem?_toArray, List.getElem?_cons_succ, List.getElem?_cons_zero]; rfl) (by kernel_rfl) (by kernel_rfl) (by kernel_rfl) (fun _ _ _ h => h) (Or.inl ⟨by rfl, ?_⟩) (by assumption) ?_
          rotate_left
          · (intro w hSw; (try dsimp only at hSw); go_simp; try with_reducible rfl)
          try simp only [Act.put, List.setIfInBounds_toArray, List.set_cons_zero, List.set_cons_succ]
          refine wpAnyH_take (i := 14) (v := ?_) (by simp only [List.getElem?_toArray, List.getElem?_cons_succ, List.getElem?_cons_zero]; rfl) (by kernel_rfl) (by kernel_rfl) (by kernel_rfl) (fun _ _ _ h => h) (Or.inl ⟨by rfl, ?_⟩) (by assumption) ?_
          rotate_left
          · (intro w hSw; (try dsimp only at hSw); go_simp; try with_reducible rfl)
          try simp only [Act.put, List.setIfInBounds_toArray, List.set_cons_zero, List.set_cons_succ]
          refine wpAnyH_take (i := 15) (v := ?_) (by simp only [List.getElem?_toArray, List.getElem?_cons_succ, List.getElem?_cons_zero]; rfl) (by kernel_rfl) (by kernel_rfl) (by kernel_rfl) (fun _ _ _ h => h) (Or.inl ⟨by rfl, ?_⟩) (by assumption) ?_
          rotate_left
          · (intro w hSw; (try dsimp only at hSw); go_simp; try with_reducible rfl)
          try simp only [Act.put, List.setIfInBounds_toArray, List.set_cons_zero, List.set_cons_succ]
          refine wpAnyH_take (i := 16) (v := ?_) (by simp only [List.getElem?_toArray, List.getElem?_cons_succ, List.getElem?_cons_zero]; rfl) (by kernel_rfl) (by kernel_rfl) (by kernel_rfl) (fun _ _ _ h => h) (Or.inl ⟨by rfl, ?_⟩) (by assumption) ?_
          rotate_left
          · (intro w hSw; (try dsimp only at hSw); go_simp; try with_reducible rfl)
          try simp only [Act.put, List.setIfInBounds_toArray, List.set_cons_zero, List.set_cons_succ]
          refine wpAnyH_take (i := 17) (v := ?_) (by simp only [List.getElem?_toArray, List.getElem?_cons_succ, List.getElem?_cons_zero]; rfl) (by kernel_rfl) (by kernel_rfl) (by kernel_rfl) (fun _ _ _ h => h) (Or.inl ⟨by rfl, ?_⟩) (by assumption) ?_
          rotate_left
          · (intro w hSw; (try dsimp only at hSw); go_simp; try with_reducible rfl)
          try simp only [Act.put, List.setIfInBounds_toArray, List.set_cons_zero, List.set_cons_succ]
          refine wpAnyH_take (i := 18) (v := ?_) (by simp only [List.getElem?_toArray, List.getElem?_cons_succ, List.getElem?_cons_zero]; rfl) (by kernel_rfl) (by kernel_rfl) (by kernel_rfl) (fun _ _ _ h => h) (Or.inl ⟨by rfl, ?_⟩) (by assumption) ?_
          rotate_left
          · (intro w hSw; (try dsimp only at hSw); go_simp; try with_reducible rfl)
          try simp only [Act.put, List.setIfInBounds_toArray, List.set_cons_zero, List.set_cons_succ]
          refine wpAnyH_take (i := 19) (v := ?_) (by simp only [List.getElem?_toArray, List.getElem?_cons_succ, List.getElem?_cons_zero]; rfl) (by kernel_rfl) (by kernel_rfl) (by kernel_rfl) (fun _ _ _ h => h) (Or.inl ⟨by rfl, ?_⟩) (by assumption) ?_
          rotate_left
          · (intro w hSw; (try dsimp only at hSw); go_simp; try with_reducible rfl)
          try simp only [Act.put, List.setIfInBounds_toArray, List.set_cons_zero, List.set_cons_succ]
          refine wpAnyH_take (i := 20) (v := ?_) (by simp only [List.getElem?_toArray, List.getElem?_cons_succ, List.getElem?_cons_zero]; rfl) (by kernel_rfl) (by kernel_rfl) (by kernel_rfl) (fun _ _ _ h => h) (Or.inl ⟨by rfl, ?_⟩) (by assumption) ?_
          rotate_left
          · (intro w hSw; (try dsimp only at hSw); go_simp; try with_reducible rfl)
          try simp only [Act.put, List.setIfInBounds_toArray, List.set_cons_zero, List.set_cons_succ]
          refine wpAnyH_take (i := 21) (v := ?_) (by simp only [List.getElem?_toArray, List.getElem?_cons_succ, List.getElem?_cons_zero]; rfl) (by kernel_rfl) (by kernel_rfl) (by kernel_rfl) (fun _ _ _ h => h) (Or.inl ⟨by rfl, ?_⟩) (by assumption) ?_
          rotate_left
          · (intro w hSw; (try dsimp only at hSw); go_simp; try with_reducible rfl)
          try simp only [Act.put, List.setIfInBounds_toArray, List.set_cons_zero, List.set_cons_succ]
          refine wpAnyH_take (i := 22) (v := ?_) (by simp only [List.getElem?_toArray, List.getElem?_cons_succ, List.getElem?_cons_zero]; rfl) (by kernel_rfl) (by kernel_rfl) (by kernel_rfl) (fun _ _ _ h => h) (Or.inl ⟨by rfl, ?_⟩) (by assumption) ?_
          rotate_left
          · (intro w hSw; (try dsimp only at hSw); go_simp; try with_reducible rfl)
          try simp only [Act.put, List.setIfInBounds_toArray, List.set_cons_zero, List.set_cons_succ]
          refine wpAnyH_take (i := 23) (v := ?_) (by simp only [List.getElem?_toArray, List.getElem?_cons_succ, List.getElem?_cons_zero]; rfl) (by kernel_rfl) (by kernel_rfl) (by kernel_rfl) (fun _ _ _ h => h) (Or.inl ⟨by rfl, ?_⟩) (by assumption) ?_
          rotate_left
          · (intro w hSw; (try dsimp only at hSw); go_simp; try with_reducible rfl)
          try simp only [Act.put, List.setIfInBounds_toArray, List.set_cons_zero, List.set_cons_succ]
          refine wpAnyH_ready (rs := [24]) (by kernel_rfl) (by simp) ?_
          refine AllReadyH.cons (by simp only [List.getElem?_toArray, List.getElem?_cons_succ, List.getElem?_cons_zero]; rfl) (fun K hK => ?_) AllReadyH.nil
          go_simp
          refine hK.out _ _ (⟨Below.drew (balloc hb _), keepC hc (Below.drew (balloc (Below.refl wr.heap.size wr) _))⟩) (fun hHeld => ?_)
          clear hK K
          try simp only [Act.put, List.setIfInBounds_toArray, List.set_cons_zero, List.set_cons_succ]
          refine wpAnyH_ready (rs := [25]) (by kernel_rfl) (by simp) ?_
          refine AllReadyH.cons (by simp only [List.getElem?_toArray, List.getElem?_cons_succ, List.getElem?_cons_zero]; rfl) (fun K hK => ?_) AllReadyH.nil
          refine Row.step_app typ8 rfl (.tmp 33) (.tmp 57) rfl w.heap.size x _ rfl ((HR.out.alloc _).drew) _ 4 4 [IntKind.u8.wrap (y / 16777216), IntKind.u8.wrap (y / 65536), IntKind.u8.wrap (y / 256), IntKind.u8.wrap y] rfl (new_lies4 wr _ _ _ _ _) (by omega) (by show _ ≤ (wr.alloc _).heap.size; rw [World.size_alloc]; omega) ?_
          intro v9 w9 o9 g9 k9
          have O9 := Lib.hid (HAP.out.kept ((HO.out.alloc _).drew) g9)
          refine hK.out _ _ (⟨hHeld.1.trans k9, HG.out _ O9.out⟩) (fun hHeld => ?_)
          clear hK K
          try simp only [Act.put, List.setIfInBounds_toArray, List.set_cons_zero, List.set_cons_succ]
          refine wpAnyH_take (i := 26) (v := ?_) (by simp only [List.getElem?_toArray, List.getElem?_cons_succ, List.getElem?_cons_zero]; rfl) (by kernel_rfl) (by kernel_rfl) (by kernel_rfl) (fun _ _ _ h => h) (Or.inl ⟨by rfl, ?_⟩) (by assumption) ?_
          rotate_left
          · (intro w hSw; (try dsimp only at hSw); go_simp; try with_reducible rfl)
          try simp only [Act.put, List.setIfInBounds_toArray, List.set_cons_zero, List.set_cons_succ]
          refine wpAnyH_done (by kernel_rfl) ?_ _
          refine NoPanic.normal ?_
          obtain ⟨hb9, -⟩ := hHeld
          have HO9 := Lib.hid o9
          clear o9 g9 k9
          go_wp2_with fail
          go_roundw
          case rel =>
            exact ⟨k + 1, v9, by omega, rfl, by go_num, hb9, Lib.hid (by rw [HT.out]; unfold ints; rw [List.map_append]; have h := HO9.out; rw [← HY.out] at h; exact h), O9⟩
          case measure => simp [intOf]; omega
        · obtain rfl : k = 8 := by omega
          have hd : decide ((8 : Int) < 8) = false := by decide
          have HR8 : Hid (Own8 wr w.heap.size x (ints (out s))) := Lib.hid (by have h := HR.out; rwa [List.take_of_length_le (by rw [out_length]; omega)] at h)
          obtain ⟨go, co, rfl, -, -, -, -, hco, -⟩ := Ones.Own.at HR8.out (by show 0 < 32; decide)
          rw [show (ints (out s)).length = 32 from rfl] at hco ⊢
          have hcv : (convert 64 9 (.slice (some ⟨go, 0, none⟩) 32 co)).run Tryz.prog wr = .ok (.string ⟨(out s).toArray⟩) wr := by
            have h := run_convert_bytes_back (P := Tryz.prog) wr 64 9 5 ⟨go, 0, none⟩ co (out s) Tryz.underlying64 Tryz.underlying5 Tryz.underlying9 (fun j hj => by
              rw [Go.WideShapes.add_plain, Nat.zero_add, hco j (by rw [← out_length s]; exact hj), ints, List.getD_eq_getElem?_getD, List.getElem?_map, List.getElem?_eq_getElem hj]
              rfl)
            exact h
          clear hco HR HO
          go_wp2
          go_ret
          exact ⟨by rw [HV.out, ← HS.out]; rfl, hb⟩
end RefSha
end Go.Proofs.YtjnlooccddnbkaaGreatDoor
