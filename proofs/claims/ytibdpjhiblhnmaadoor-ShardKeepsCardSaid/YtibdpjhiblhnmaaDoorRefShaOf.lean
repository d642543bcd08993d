
/- the reference's sha: the digest. -/
import Derived.Test.YtibdpjhiblhnmaaDoorRefShaPad
import Derived.Deep.RegionHeld3
namespace Go.Proofs.YtibdpjhiblhnmaaDoor
namespace RefSha
open Go.RowKit Sha
abbrev Own8 := Row.Own (Ones.enc .u8) 5
def ints (l : List UInt8) : List Int := l.map (fun b => (b.toNat : Int))
theorem slice64 (g i n cap : Nat) (w : World) (h1 : i + 64 ≤ n) (h2 : n ≤ cap) : (Instr.sliceAt 44 (.slice (some ⟨g, 0, none⟩) n cap) (some (.int .i64 (i : Int))) (some (.int .i64 ((i : Int) + 64))) none).run Tryd.prog w = .ok (.slice (some ⟨g, i, none⟩) 64 (cap - i)) w := by
  have hz : (sizeOf (Tryd.prog.elem 44)).run Tryd.prog w = .ok 1 w := by kernel_rfl
  rw [run_sliceAt_slice (h := by kernel_rfl), run_slice_lh (ht := by kernel_rfl) (h0 := by omega) (h1 := by omega) (h2 := by omega), hz]
  have e1 : (i : Int).toNat = i := by omega
  have e2 : ((i : Int) + 64).toNat = i + 64 := by omega
  simp only [Result.andThen_ok, sliced, e1, e2]
  rw [show i + 64 - i = 64 by omega]
  rw [if_neg (by omega), Nat.mul_one]
  by_cases h0 : i = 0
  · simp [h0, Addr.add]
  · simp [h0, Addr.add]
theorem new_lies4 {k : IntKind} (w : World) (a b c d : Int) (T : TypeId) : Row.Lies (Ones.enc k) (w.alloc (.cells #[.int k a, .int k b, .int k c, .int k d] T)).drew (some ⟨w.heap.size, 0, none⟩) 4 [a, b, c, d] :=
  Row.Lies.below (Ones.Lies.of_cells (L := [a, b, c, d]) (fun j hj => by
    rw [World.cell?_alloc_new, Nat.zero_add]
    match j, hj with
    | 0, _ => rfl
    | 1, _ => rfl
    | 2, _ => rfl
    | 3, _ => rfl)) (Below.drew (Below.refl _ _))
theorem getD_block (L : List UInt8) (q j : Nat) (hj : j < 64) : ((L.drop q).take 64).getD j 0 = L.getD (q + j) 0 := by
  rw [List.getD_eq_getElem?_getD, List.getD_eq_getElem?_getD, List.getElem?_take_of_lt hj, List.getElem?_drop]
theorem take4 (s : St) (k : Nat) (h : k < 8) : (out s).take (4 * (k + 1)) = (out s).take (4 * k) ++ w4 (s.list.getD k 0) := by
  have h : k = 0 ∨ k = 1 ∨ k = 2 ∨ k = 3 ∨ k = 4 ∨ k = 5 ∨ k = 6 ∨ k = 7 := by omega
  rcases h with rfl | rfl | rfl | rfl | rfl | rfl | rfl | rfl <;> rfl
theorem getD_ok (s : St) (h : ∀ x ∈ s.list, 0 ≤ x) (k : Nat) (hk : k < 8) : 0 ≤ s.list.getD k 0 := by
  rw [List.getD_eq_getElem?_getD, List.getElem?_eq_getElem (show k < s.list.length from hk)]
  exact h _ (List.getElem_mem _)
theorem ints_w4 (x : Int) (h : 0 ≤ x) : ints (w4 x) = [IntKind.u8.wrap (x / 16777216), IntKind.u8.wrap (x / 65536), IntKind.u8.wrap (x / 256), IntKind.u8.wrap x] := by
  unfold ints w4
  simp only [List.map_cons, List.map_nil, u8_word x 16777216 h (by decide), u8_word x 65536 h (by decide), u8_word x 256 h (by decide), u8_word1 x h]
  rfl
set_option maxRecDepth 100000 in
set_option maxHeartbeats 4000000 in
theorem of_any (l : List UInt8) (w : World) (hl : l.length ≤ 1099511627776) :
    Calls Tryd.prog 10 #[.string ⟨l.toArray⟩] w fun e w' => e = .returned (.string ⟨(Sha.of l).toArray⟩) ∧ Below w.heap.size w w' := by
  have h0 := Below.refl w.heap.size w
  have hlt : (tail l.length).length ≤ 200 := by
    unfold tail be8
    simp only [List.length_cons, List.length_append, List.length_replicate, List.length_nil]; omega
  have hlm := tail_length l.length
  have HV : Hid (Sha.of l = out (full (l ++ tail l.length))) := Lib.hid rfl
  have hLl : (l ++ tail l.length).length = l.length + (tail l.length).length := List.length_append
  obtain ⟨L, hL⟩ : ∃ L, L = l ++ tail l.length := ⟨_, rfl⟩
  rw [← hL] at HV hLl
  have HP := Lib.hid (fun w => padded_any l w hl)
  rw [← hL] at HP
  obtain ⟨n, hn⟩ : ∃ n, n = L.length := ⟨_, rfl⟩
  have hn1 : n ≤ 1099511627976 := by omega
  have hn2 : n % 64 = 0 := by omega
  have HN := Lib.hid hn
  have HN2 := Lib.hid hn2
  have hn3 : 0 < n ∨ n = 0 := by omega
  clear hL hLl hn hlm hlt hn2
  go_enter Tryd.func10, Tryd.ntmps10
  go_wp2_with fail
  refine (constants_any _).mono ?_
  rintro e w1 ⟨vk, vh, rfl, hK, hH, k1⟩
  obtain ⟨gk, ck, rfl, -, hgk, -, -, -, -⟩ := Ones.Own.at hK (by decide)
  rw [show K0.length = 64 from rfl] at hK ⊢
  have HK := Lib.hid hK
  have HH := Lib.hid hH
  clear hK hH
  go_wp2_with fail
  refine (HP.out _).mono ?_
  rintro e w2 ⟨vb, rfl, hB, k2⟩
  obtain ⟨ab, cb, rfl⟩ := hB.len
  rw [← HN.out] at hB ⊢
  have HB := Lib.hid hB
  have HK2 := Lib.hid (HK.out.below k2)
  have HH2 := Lib.hid (HH.out.below k2)
  have hb2 := bstep k1 k2
  clear hB k2 HK HH
  go_wp2_with fail
  go_loopw [4, 6] (fun v i wx => ∃ (q : Nat) (x : Value), 64 * q ≤ n ∧ x = v ∧ i = .int .i64 ((64 * q : Nat) : Int) ∧ Below w2.heap.size w2 wx ∧ Hid (Own32 wx w.heap.size x (state L q).list)) (fun _ i _ => n + 64 - (intOf i).toNat)
  case atStart => exact ⟨0, vh, by omega, rfl, rfl, Below.refl _ _, Lib.hid (by rw [state_zero]; exact HH2.out)⟩
  case round =>
    clear HH2
    obtain ⟨q, x, hq, rfl, rfl, hb, HO⟩ := hrel
    obtain ⟨gh, ch, rfl, hghB, hghl, hch, hcm, -, -⟩ := Ones.Own.at HO.out (by show 0 < 8; decide)
    rw [show (state L q).list.length = 8 from rfl] at hch HO ⊢
    obtain ⟨p, hp⟩ : ∃ p, p = 64 * q := ⟨_, rfl⟩
    rw [← hp] at hq ⊢
    have HPQ := Lib.hid hp
    by_cases hlt : p < n
    · have hd : decide ((p : Int) < (n : Int)) = true := decide_eq_true (by omega)
      have hp64 : p + 64 ≤ n := by have := HN2.out; omega
      have hls : 0 < L.length := by rw [← HN.out]; omega
      obtain ⟨gb, cb2, e_, hgbB, hgbc, -, hbc⟩ := HB.out.some hls
      simp only [Value.slice.injEq] at e_
      obtain ⟨rfl, -, rfl⟩ := e_
      rw [← HN.out] at hgbc hbc
      have hsl := fun w => slice64 gb p n cb w hp64 hgbc
      have HBC : Hid (∀ j, j < 64 → wr.cell? ⟨gb, p + j, none⟩ = some (.int .u8 ((((L.drop p).take 64).getD j 0).toNat : Int))) := Lib.hid (fun j hj => by
        rw [getD_block L p j hj]
        have h := hbc (p + j) (by omega)
        exact (hb.cell (p := ⟨gb, p + j, none⟩) (World.block_lt_of_cell? _ _ h)).trans h)
      have HKL : Hid (Lies32 wr (some ⟨gk, 0, none⟩) 64 K0) := Lib.hid (by
        obtain ⟨a, c, e, -, -, h, -⟩ := (HK2.out.below hb).lies
        simp only [Value.slice.injEq] at e
        obtain ⟨rfl, -, -⟩ := e
        exact h)
      have HHL : Hid (Lies32 wr (some ⟨gh, 0, none⟩) 8 (state L q).list) := Lib.hid (by
        obtain ⟨a, c, e, -, -, h, -⟩ := HO.out.lies
        simp only [Value.slice.injEq] at e
        obtain ⟨rfl, -, -⟩ := e
        exact h)
      have hp0 : (0 : Int) ≤ (p : Int) := by omega
      have hp9 : IntKind.i64.wrap ((p : Int) + 64) = (p : Int) + 64 := by rw [IntKind.wrap_i64]; omega
      clear hbc hp
      go_wp2_with fail
      refine (block_any (some ⟨gh, 0, none⟩) (some ⟨gk, 0, none⟩) ch ck gb p (cb - p) (state L q) K0 ((L.drop p).take 64) _ HHL.out HKL.out HBC.out).mono ?_
      rintro e w4 ⟨v4, rfl, hO4, k4⟩
      have HO4 : Hid (Own32 w4 w.heap.size v4 (state L (q + 1)).list) := Lib.hid (by
        rw [state_succ, ← HPQ.out]; exact hO4.base (Nat.le_trans hb2.size hb.size))
      have hb4 := bstep hb k4
      clear hO4 k4
      go_wp2_with fail
      go_roundw
      case rel => exact ⟨q + 1, v4, by have := HPQ.out; omega, rfl, by rw [HPQ.out]; congr 1, hb4, HO4⟩
      case measure => simp [intOf]; omega
    · have hpn : p = n := by omega
      have hd : decide ((p : Int) < (n : Int)) = false := decide_eq_false (by omega)
      obtain ⟨s, hs⟩ : ∃ s, s = full L := ⟨_, rfl⟩
      have hsq : state L q = s := by rw [hs]; unfold full; rw [← HN.out, show n / 64 = q by omega]
      have hok : ∀ x ∈ s.list, 0 ≤ x := by rw [hs]; exact full_ok L
      rw [hsq] at HO
      have HS := Lib.hid hs
      have HOK := Lib.hid hok
      have hbw := hb2.trans (hb.mono hb2.size)
      clear hs hsq hok hp hpn
      go_wp2_with fail
      go_loopw [7, 8] (fun v i wx => ∃ (k : Nat) (x : Value), k ≤ 8 ∧ x = v ∧ i = .int .i64 (k : Int) ∧ Below w.heap.size w wx ∧ Hid (Own8 wx w.heap.size x (ints ((out s).take (4 * k)))) ∧ Hid (Own32 wx w.heap.size (.slice (some ⟨gh, 0, none⟩) 8 ch) s.list)) (fun _ i _ => 8 - (intOf i).toNat)
      case atStart => exact ⟨0, _, by omega, rfl, rfl, hbw, Lib.hid (Row.Own.nil _ _), HO⟩
      case round =>
        clear hbw HO hb
        obtain ⟨k, x, hk, rfl, rfl, hb, HR, HO⟩ := hrel
        by_cases hlt : k < 8
        · have hd : decide ((k : Int) < 8) = true := decide_eq_true (by omega)
          have hc := Ones.Own.cell HO.out k (by show k < 8; omega)
          have hy := getD_ok s HOK.out k hlt
          have HT := Lib.hid (take4 s k hlt)
          have HG : Hid (∀ x, Own32 x w.heap.size (.slice (some ⟨gh, 0, none⟩) 8 ch) s.list → x.cell? ⟨gh, k, none⟩ = some (.int .u32 (s.list.getD k 0))) := Lib.hid (fun x h => Ones.Own.cell h k (by show k < 8; omega))
          generalize s.list.getD k 0 = y at hc hy HT HG
          have HY := Lib.hid (ints_w4 y hy)
          have hlr : (ints ((out s).take (4 * k))).length ≤ 32 := by unfold ints; rw [List.length_map, List.length_take, out_length]; omega
          have HAP := Lib.hid (apart_types HR.out HO.out (by decide))
          have hsz := hb.size
          have hk0 : (0 : Int) ≤ (k : Int) := by omega
          have hk8 : (k : Int) < 8 := by omega
          clear hy
          go_wp2_with fail
          refine wp_region_noPanic ?_
          refine wp_region_held_drew (S := (fun w' => Below w.heap.size w w' ∧ w'.cell? ⟨gh, k, none⟩ = some (.int .u32 y))) (by kernel_rfl) (⟨Below.drew hb, hc⟩) (fun hHeld => ?_)
          refine wpAnyH_take (i := 0) (v := ?_) (by simp only [List.getElem?_toArray, List.getElem?_cons_zero]; rfl) (by kernel_rfl) (by kernel_rfl) (by kernel_rfl) (fun _ _ _ h => h) (Or.inl ⟨by rfl, ?_⟩) (by assumption) ?_
          rotate_left
          · (intro w hSw; (try dsimp only at hSw); go_simp; try with_reducible rfl)
          try simp only [Act.put, List.setIfInBounds_toArray, List.set_cons_zero, List.set_cons_succ]
          refine wpAnyH_take (i := 1) (v := ?_) (by simp only [List.getElem?_toArray, List.getElem?_cons_succ, List.getElem?_cons_zero]; rfl) (by kernel_rfl) (by kernel_rfl) (by kernel_rfl) (fun _ _ _ h => h) (Or.inl ⟨by rfl, ?_⟩) (by assumption) ?_
          rotate_left
          · (intro w hSw; (try dsimp only at hSw); go_simp; try with_reducible rfl)
          try simp only [Act.put, List.setIfInBounds_toArray, List.set_cons_zero, List.set_cons_succ]
          refine wpAnyH_take (i := 2) (v := ?_) (by simp only [List.getElem?_toArray, List.getElem?_cons_succ, List.getElem?_cons_zero]; rfl) (by kernel_rfl) (by kernel_rfl) (by kernel_rfl) (fun _ _ _ h => h) (Or.inl ⟨by rfl, ?_⟩) (by assumption) ?_
          rotate_left
          · (intro w hSw; (try dsimp only at hSw); go_simp; try with_reducible rfl)
          try simp only [Act.put, List.setIfInBounds_toArray, List.set_cons_zero, List.set_cons_succ]
          refine wpAnyH_take (i := 3) (v := ?_) (by simp only [List.getElem?_toArray, List.getElem?_cons_succ, List.getElem?_cons_zero]; rfl) (by kernel_rfl) (by kernel_rfl) (by kernel_rfl) (fun _ _ _ h => h) (Or.inl ⟨by rfl, ?_⟩) (by assumption) ?_
          rotate_left
          · (intro w hSw; (try dsimp only at hSw); go_simp; try with_reducible rfl)
          try simp only [Act.put, List.setIfInBounds_toArray, List.set_cons_zero, List.set_cons_succ]
          refine wpAnyH_take (i := 4) (v := ?_) (by simp only [List.getElem?_toArray, List.getElem?_cons_succ, List.getElem?_cons_zero]; rfl) (by kernel_rfl) (by kernel_rfl) (by kernel_rfl) (fun _ _ _ h => h) (Or.inl ⟨by rfl, ?_⟩) (by assumption) ?_
          rotate_left
          · (intro w hSw; (try dsimp only at hSw); go_simp; try with_reducible rfl)
          try simp only [Act.put, List.setIfInBounds_toArray, List.set_cons_zero, List.set_cons_succ]
          refine wpAnyH_take (i := 5) (v := ?_) (by simp only [List.getElem?_toArray, List.getElem?_cons_succ, List.getElem?_cons_zero]; rfl) (by kernel_rfl) (by kernel_rfl) (by kernel_rfl) (fun _ _ _ h => h) (Or.inl ⟨by rfl, ?_⟩) (by assumption) ?_
          rotate_left
          · (intro w hSw; (try dsimp only at hSw); go_simp; try with_reducible rfl)
          try simp only [Act.put, List.setIfInBounds_toArray, List.set_cons_zero, List.set_cons_succ]
          refine wpAnyH_take (i := 6) (v := ?_) (by simp only [List.getElem?_toArray, List.getElem?_cons_succ, List.getElem?_cons_zero]; rfl) (by kernel_rfl) (by kernel_rfl) (by kernel_rfl) (fun _ _ _ h => h) (Or.inl ⟨by rfl, ?_⟩) (by assumption) ?_
          rotate_left
          · (intro w hSw; (try dsimp only at hSw); go_simp; try with_reducible rfl)
          try simp only [Act.put, List.setIfInBounds_toArray, List.set_cons_zero, List.set_cons_succ]
          refine wpAnyH_take (i := 7) (v := ?_) (by simp only [List.getElem?_toArray, List.getElem?_cons_succ, List.getElem?_cons_zero]; rfl) (by kernel_rfl) (by kernel_rfl) (by kernel_rfl) (fun _ _ _ h => h) (Or.inl ⟨by rfl, ?_⟩) (by assumption) ?_
          rotate_left
          · (intro w hSw; (try dsimp only at hSw); go_simp; try with_reducible rfl)
          try simp only [Act.put, List.setIfInBounds_toArray, List.set_cons_zero, List.set_cons_succ]
          refine wpAnyH_take (i := 8) (v := ?_) (by simp only [List.getElem?_toArray, List.getElem?_cons_succ, List.getElem?_cons_zero]; rfl) (by kernel_rfl) (by kernel_rfl) (by kernel_rfl) (fun _ _ _ h => h) (Or.inl ⟨by rfl, ?_⟩) (by assumption) ?_
          rotate_left
          · (intro w hSw; (try dsimp only at hSw); go_simp; try with_reducible rfl)
          try simp only [Act.put, List.setIfInBounds_toArray, List.set_cons_zero, List.set_cons_succ]
          refine wpAnyH_take (i := 9) (v := ?_) (by simp only [List.getElem?_toArray, List.getElem?_cons_succ, List.getElem?_cons_zero]; rfl) (by kernel_rfl) (by kernel_rfl) (by kernel_rfl) (fun _ _ _ h => h) (Or.inl ⟨by rfl, ?_⟩) (by assumption) ?_
          rotate_left
          · (intro w hSw; (try dsimp only at hSw); go_simp; try with_reducible rfl)
          try simp only [Act.put, List.setIfInBounds_toArray, List.set_cons_zero, List.set_cons_succ]
          refine wpAnyH_take (i := 10) (v := ?_) (by simp only [List.getElem?_toArray, List.getElem?_cons_succ, List.getElem?_cons_zero]; rfl) (by kernel_rfl) (by kernel_rfl) (by kernel_rfl) (fun _ _ _ h => h) (Or.inl ⟨by rfl, ?_⟩) (by assumption) ?_
          rotate_left
          · (intro w hSw; (try dsimp only at hSw); go_simp; try with_reducible rfl)
          try simp only [Act.put, List.setIfInBounds_toArray, List.set_cons_zero, List.set_cons_succ]
          refine wpAnyH_take (i := 11) (v := ?_) (by simp only [List.getElem?_toArray, List.getElem?_cons_succ, List.getElem?_cons_zero]; rfl) (by kernel_rfl) (by kernel_rfl) (by kernel_rfl) (fun _ _ _ h => h) (Or.inl ⟨by rfl, ?_⟩) (by assumption) ?_
          rotate_left
          · (intro w hSw; (try dsimp only at hSw); go_simp; try with_reducible rfl)
          try simp only [Act.put, List.setIfInBounds_toArray, List.set_cons_zero, List.set_cons_succ]
          refine wpAnyH_take (i := 12) (v := ?_) (by simp only [List.getElem?_toArray, List.getElem?_cons_succ, List.getElem?_cons_zero]; rfl) (by kernel_rfl) (by kernel_rfl) (by kernel_rfl) (fun _ _ _ h => h) (Or.inl ⟨by rfl, ?_⟩) (by assumption) ?_
          rotate_left
          · (intro w hSw; (try dsimp only at hSw); go_simp; try with_reducible rfl)
          try simp only [Act.put, List.setIfInBounds_toArray, List.set_cons_zero, List.set_cons_succ]
          refine wpAnyH_take (i := 13) (v := ?_) (by simp only [List.getElem?_toArray, List.getElem?_cons_succ, List.getElem?_cons_zero]; rfl) (by kernel_rfl) (by kernel_rfl) (by kernel_rfl) (fun _ _ _ h => h) (Or.inl ⟨by rfl, ?_⟩) (by assumption) ?_
          rotate_left
          · (intro w hSw; (try dsimp only at hSw); go_simp; try with_reducible rfl)
          try simp only [Act.put, List.setIfInBounds_toArray, List.set_cons_zero, List.set_cons_succ]
          refine wpAnyH_take (i := 14) (v := ?_) (by simp only [List.getElem?_toArray, List.getElem?_cons_succ, List.getElem?_cons_zero]; rfl) (by kernel_rfl) (by kernel_rfl) (by kernel_rfl) (fun _ _ _ h => h) (Or.inl ⟨by rfl, ?_⟩) (by assumption) ?_
          rotate_left
          · (intro w hSw; (try dsimp only at hSw); go_simp; try with_reducible rfl)
          try simp only [Act.put, List.setIfInBounds_toArray, List.set_cons_zero, List.set_cons_succ]
          refine wpAnyH_take (i := 15) (v := ?_) (by simp only [List.getElem?_toArray, List.getElem?_cons_succ, List.getElem?_cons_zero]; rfl) (by kernel_rfl) (by kernel_rfl) (by kernel_rfl) (fun _ _ _ h => h) (Or.inl ⟨by rfl, ?_⟩) (by assumption) ?_
          rotate_left
          · (intro w hSw; (try dsimp only at hSw); go_simp; try with_reducible rfl)
          try simp only [Act.put, List.setIfInBounds_toArray, List.set_cons_zero, List.set_cons_succ]
          refine wpAnyH_take (i := 16) (v := ?_) (by simp only [List.getElem?_toArray, List.getElem?_cons_succ, List.getElem?_cons_zero]; rfl) (by kernel_rfl) (by kernel_rfl) (by kernel_rfl) (fun _ _ _ h => h) (Or.inl ⟨by rfl, ?_⟩) (by assumption) ?_
          rotate_left
          · (intro w hSw; (try dsimp only at hSw); go_simp; try with_reducible rfl)
          try simp only [Act.put, List.setIfInBounds_toArray, List.set_cons_zero, List.set_cons_succ]
          refine wpAnyH_take (i := 17) (v := ?_) (by simp only [List.getElem?_toArray, List.getElem?_cons_succ, List.getElem?_cons_zero]; rfl) (by kernel_rfl) (by kernel_rfl) (by kernel_rfl) (fun _ _ _ h => h) (Or.inl ⟨by rfl, ?_⟩) (by assumption) ?_
          rotate_left
          · (intro w hSw; (try dsimp only at hSw); go_simp; try with_reducible rfl)
          try simp only [Act.put, List.setIfInBounds_toArray, List.set_cons_zero, List.set_cons_succ]
          refine wpAnyH_take (i := 18) (v := ?_) (by simp only [List.getElem?_toArray, List.getElem?_cons_succ, List.getElem?_cons_zero]; rfl) (by kernel_rfl) (by kernel_rfl) (by kernel_rfl) (fun _ _ _ h => h) (Or.inl ⟨by rfl, ?_⟩) (by assumption) ?_
          rotate_left
          · (intro w hSw; (try dsimp only at hSw); go_simp; try with_reducible rfl)
          try simp only [Act.put, List.setIfInBounds_toArray, List.set_cons_zero, List.set_cons_succ]
          refine wpAnyH_take (i := 19) (v := ?_) (by simp only [List.getElem?_toArray, List.getElem?_cons_succ, List.getElem?_cons_zero]; rfl) (by kernel_rfl) (by kernel_rfl) (by kernel_rfl) (fun _ _ _ h => h) (Or.inl ⟨by rfl, ?_⟩) (by assumption) ?_
          rotate_left
          · (intro w hSw; (try dsimp only at hSw); go_simp; try with_reducible rfl)
          try simp only [Act.put, List.setIfInBounds_toArray, List.set_cons_zero, List.set_cons_succ]
          refine wpAnyH_take (i := 20) (v := ?_) (by simp only [List.getElem?_toArray, List.getElem?_cons_succ, List.getElem?_cons_zero]; rfl) (by kernel_rfl) (by kernel_rfl) (by kernel_rfl) (fun _ _ _ h => h) (Or.inl ⟨by rfl, ?_⟩) (by assumption) ?_
          rotate_left
          · (intro w hSw; (try dsimp only at hSw); go_simp; try with_reducible rfl)
          try simp only [Act.put, List.setIfInBounds_toArray, List.set_cons_zero, List.set_cons_succ]
          refine wpAnyH_take (i := 21) (v := ?_) (by simp only [List.getElem?_toArray, List.getElem?_cons_succ, List.getElem?_cons_zero]; rfl) (by kernel_rfl) (by kernel_rfl) (by kernel_rfl) (fun _ _ _ h => h) (Or.inl ⟨by rfl, ?_⟩) (by assumption) ?_
          rotate_left
          · (intro w hSw; (try dsimp only at hSw); go_simp; try with_reducible rfl)
          try simp only [Act.put, List.setIfInBounds_toArray, List.set_cons_zero, List.set_cons_succ]
          refine wpAnyH_take (i := 22) (v := ?_) (by simp only [List.getElem?_toArray, List.getElem?_cons_succ, List.getElem?_cons_zero]; rfl) (by kernel_rfl) (by kernel_rfl) (by kernel_rfl) (fun _ _ _ h => h) (Or.inl ⟨by rfl, ?_⟩) (by assumption) ?_
          rotate_left
          · (intro w hSw; (try dsimp only at hSw); go_simp; try with_reducible rfl)
          try simp only [Act.put, List.setIfInBounds_toArray, List.set_cons_zero, List.set_cons_succ]
          refine wpAnyH_take (i := 23) (v := ?_) (by simp only [List.getElem?_toArray, List.getElem?_cons_succ, List.getElem?_cons_zero]; rfl) (by kernel_rfl) (by kernel_rfl) (by kernel_rfl) (fun _ _ _ h => h) (Or.inl ⟨by rfl, ?_⟩) (by assumption) ?_
          rotate_left
          · (intro w hSw; (try dsimp only at hSw); go_simp; try with_reducible rfl)
          try simp only [Act.put, List.setIfInBounds_toArray, List.set_cons_zero, List.set_cons_succ]
          refine wpAnyH_ready (rs := [24]) (by kernel_rfl) (by simp) ?_
          refine AllReadyH.cons (by simp only [List.getElem?_toArray, List.getElem?_cons_succ, List.getElem?_cons_zero]; rfl) (fun K hK => ?_) AllReadyH.nil
          go_simp
          refine hK.out _ _ (⟨Below.drew (balloc hb _), keepC hc (Below.drew (balloc (Below.refl wr.heap.size wr) _))⟩) (fun hHeld => ?_)
          clear hK K
          try simp only [Act.put, List.setIfInBounds_toArray, List.set_cons_zero, List.set_cons_succ]
          refine wpAnyH_ready (rs := [25]) (by kernel_rfl) (by simp) ?_
          refine AllReadyH.cons (by simp only [List.getElem?_toArray, List.getElem?_cons_succ, List.getElem?_cons_zero]; rfl) (fun K hK => ?_) AllReadyH.nil
          refine Row.step_app typ8 rfl (.tmp 33) (.tmp 57) rfl w.heap.size x _ rfl ((HR.out.alloc _).drew) _ 4 4 [IntKind.u8.wrap (y / 16777216), IntKind.u8.wrap (y / 65536), IntKind.u8.wrap (y / 256), IntKind.u8.wrap y] rfl (new_lies4 wr _ _ _ _ _) (by omega) (by show _ ≤ (wr.alloc _).heap.size; rw [World.size_alloc]; omega) ?_
          intro v9 w9 o9 g9 k9
          have O9 := Lib.hid (HAP.out.kept ((HO.out.alloc _).drew) g9)
          refine hK.out _ _ (⟨hHeld.1.trans k9, HG.out _ O9.out⟩) (fun hHeld => ?_)
          clear hK K
          try simp only [Act.put, List.setIfInBounds_toArray, List.set_cons_zero, List.set_cons_succ]
          refine wpAnyH_take (i := 26) (v := ?_) (by simp only [List.getElem?_toArray, List.getElem?_cons_succ, List.getElem?_cons_zero]; rfl) (by kernel_rfl) (by kernel_rfl) (by kernel_rfl) (fun _ _ _ h => h) (Or.inl ⟨by rfl, ?_⟩) (by assumption) ?_
          rotate_left
          · (intro w hSw; (try dsimp only at hSw); go_simp; try with_reducible rfl)
          try simp only [Act.put, List.setIfInBounds_toArray, List.set_cons_zero, List.set_cons_succ]
          refine wpAnyH_done (by kernel_rfl) ?_ _
          refine NoPanic.normal ?_
          obtain ⟨hb9, -⟩ := hHeld
          have HO9 := Lib.hid o9
          clear o9 g9 k9
          go_wp2_with fail
          go_roundw
          case rel =>
            exact ⟨k + 1, v9, by omega, rfl, by go_num, hb9, Lib.hid (by rw [HT.out]; unfold ints; rw [List.map_append]; have h := HO9.out; rw [← HY.out] at h; exact h), O9⟩
          case measure => simp [intOf]; omega
        · obtain rfl : k = 8 := by omega
          have hd : decide ((8 : Int) < 8) = false := by decide
          have HR8 : Hid (Own8 wr w.heap.size x (ints (out s))) := Lib.hid (by have h := HR.out; rwa [List.take_of_length_le (by rw [out_length]; omega)] at h)
          obtain ⟨go, co, rfl, -, -, -, -, hco, -⟩ := Ones.Own.at HR8.out (by show 0 < 32; decide)
          rw [show (ints (out s)).length = 32 from rfl] at hco ⊢
          have hcv : (convert 44 9 (.slice (some ⟨go, 0, none⟩) 32 co)).run Tryd.prog wr = .ok (.string ⟨(out s).toArray⟩) wr := by
            have h := run_convert_bytes_back (P := Tryd.prog) wr 44 9 5 ⟨go, 0, none⟩ co (out s) Tryd.underlying44 Tryd.underlying5 Tryd.underlying9 (fun j hj => by
              rw [Go.WideShapes.add_plain, Nat.zero_add, hco j (by rw [← out_length s]; exact hj), ints, List.getD_eq_getElem?_getD, List.getElem?_map, List.getElem?_eq_getElem hj]
              rfl)
            exact h
          clear hco HR HO
          go_wp2
          go_ret
          exact ⟨by rw [HV.out, ← HS.out]; rfl, hb⟩
end RefSha
end Go.Proofs.YtibdpjhiblhnmaaDoor
