/- coder: lists as bytes. -/
import Derived.Test.YtnpjkmomllkhpaaGreatTmCoderWrite
import Derived.Test.YtnpjkmomllkhpaaGreatTmBagA
namespace Go.Proofs.YtnpjkmomllkhpaaGreat
namespace Coder
open Go.RowKit Go.Proofs.YtnpjkmomllkhpaaGreat.Mark Go.Proofs.YtnpjkmomllkhpaaGreat.Num Go.Proofs.YtnpjkmomllkhpaaGreat.Wire Go.Proofs.YtnpjkmomllkhpaaGreat.Bag
def cE : Row.Enc C := ⟨3, by decide, fun x => [.string ⟨x.p.toArray⟩, .int .u64 (x.a : Int), .int .u64 (x.b : Int)], fun _ => rfl, fun x v hv => by
  simp only [List.mem_cons, List.not_mem_nil, or_false] at hv
  rcases hv with rfl | rfl | rfl <;> rfl⟩
def wE : Row.Enc (List UInt8) := ⟨1, by decide, fun x => [.string ⟨x.toArray⟩], fun _ => rfl, fun x v hv => by
  simp only [List.mem_cons, List.not_mem_nil, or_false] at hv
  subst hv; rfl⟩
theorem flat_take {α : Type} (f : α → List UInt8) (L : List α) (k : Nat) (h : k < L.length) : (L.take (k + 1)).flatMap f = (L.take k).flatMap f ++ f L[k] := by
  rw [List.take_succ_eq_append_getElem h, List.flatMap_append, List.flatMap_singleton]
theorem flat_le {α : Type} (f : α → List UInt8) (L : List α) (k : Nat) : ((L.take k).flatMap f).length ≤ (L.flatMap f).length := by
  have h : L.flatMap f = (L.take k).flatMap f ++ (L.drop k).flatMap f := by rw [← List.flatMap_append, List.take_append_drop]
  rw [h, List.length_append]; omega
set_option maxRecDepth 100000 in
theorem word_any (s : List UInt8) (w : World) (hp : s.length ≤ 1048576) :
    Calls Tryz.prog 86 #[.string ⟨s.toArray⟩] w fun e w' => e = .returned (.string ⟨(tx s).toArray⟩) ∧ Below w.heap.size w w' := by
  have hl := tx_len s
  obtain ⟨p, hp0⟩ : ∃ p, p = tx s := ⟨_, rfl⟩
  have R0 : Hid ([s].flatMap tx = p) := Lib.hid (by rw [hp0]; simp)
  rw [← hp0] at hl ⊢
  clear hp0
  go_enter Tryz.func86, Tryz.ntmps86
  go_wp2_with fail
  have N1 := txts_here [s] (by intro y hy; simp at hy; subst hy; omega) (C := #[.string ⟨s.toArray⟩]) rfl (t := 9) 1 rfl (Below.refl 0 (w.alloc (.cells #[.string ⟨s.toArray⟩] 9)))
  refine (texts_w N1 p R0.out (by omega) (by omega)).mono ?_
  rintro e w1 ⟨rfl, b1⟩
  have hb := bstep (balloc (Below.refl w.heap.size w) _) b1
  clear N1 b1
  go_wp2
  go_ret
  exact ⟨rfl, hb⟩
set_option maxRecDepth 100000 in
set_option maxHeartbeats 4000000 in
theorem list_mark (a : Option Addr) (n c : Nat) (L : List M) (w : World) (hL : Mark.Lies w a n L) (hn : n ≤ 1048576) (hf : ∀ x ∈ L, x.p.length ≤ 1048576 ∧ x.n ≤ 18446744073709551615) (hs : (lst mk L).length ≤ 70368744177664) :
    Calls Tryz.prog 45 #[.slice a n c, .func (.func 46) #[] #[]] w fun e w' => e = .returned (.string ⟨(lst mk L).toArray⟩) ∧ Below w.heap.size w w' := by
  have hlen := hL.1
  have HN := Lib.hid hL
  have HF := Lib.hid hf
  clear hL hf
  have wn : IntKind.u64.wrap (n : Int) = (n : Int) := by rw [IntKind.wrap_u64]; omega
  obtain ⟨H, hH⟩ : ∃ H, H = upL n := ⟨_, rfl⟩
  have HC : Hid (cat [n] = H) := Lib.hid (by rw [hH]; simp [cat])
  have HV : Hid (lst mk L = H ++ L.flatMap mk) := Lib.hid (by unfold lst; rw [← hlen, hH])
  have hH10 : H.length ≤ 10 := by rw [hH]; exact up_len n
  have hs2 : H.length + (L.flatMap mk).length ≤ 70368744177664 := by rw [← List.length_append, ← HV.out]; exact hs
  have HL := Lib.hid hlen
  rw [HV.out]
  clear hH hs hlen
  go_enter Tryz.func45, Tryz.ntmps45
  go_wp2_with fail
  have I0 := Lib.IsBuilderF.of (Lib.fresh_isBuilder 130 5 w)
  have hb0 : Below w.heap.size w (w.alloc (.cells #[.pointer none, .slice none 0 0] 130)) := balloc (Below.refl _ _) _
  have hz : (w.alloc (.cells #[.pointer none, .slice none 0 0] 130)).heap.size = w.heap.size + 1 := by rw [World.size_alloc]
  change Lib.IsBuilderF _ _ _ _ _ (w.alloc (.cells #[.pointer none, .slice none 0 0] 130)) at I0
  generalize w.alloc (.cells #[.pointer none, .slice none 0 0] 130) = w0 at I0 hb0 hz ⊢
  have N1 := nats_here [n] (by intro y hy; simp at hy; omega) (C := #[.int .u64 (n : Int)]) rfl (t := 25) 1 rfl (Below.refl 0 (w0.alloc (.cells #[.int .u64 (n : Int)] 25)))
  rw [hz] at N1
  refine (nums_w N1 (by omega) H HC.out).mono ?_
  rintro e w1 ⟨rfl, b1⟩
  have I1 := isB_below (isB_below I0 (balloc (Below.refl _ _) _)) b1
  have hb1 := bstep (balloc hb0 _) b1
  have hs1 := hb1.size
  clear I0 hb0 hz N1 b1
  go_wp2_with fail
  refine (Build.writeString_any w.heap.size w.heap.size _ _ _ I1 (by rw [Str.size_mk]; simp only [List.length_nil]; omega) hs1).mono ?_
  rintro e w2 ⟨rfl, I2, b2, _⟩
  rw [strCells_mk, List.nil_append] at I2
  have hb := hb1.trans b2
  clear I1 hb1 hs1 b2
  have HI := Lib.hid I2
  clear I2
  go_wp2_with fail
  go_loopw [16] (fun i wr => ∃ k : Nat, k ≤ n ∧ i = .int .i64 k ∧ Hid (Lib.IsBuilderF 130 5 w.heap.size w.heap.size (Lib.byteCells (H ++ (L.take k).flatMap mk)) wr) ∧ Below w.heap.size w wr) (fun i _ => n - (intOf i).toNat)
  case atStart => exact ⟨0, by omega, rfl, by rw [List.take_zero, List.flatMap_nil, List.append_nil]; exact HI, hb⟩
  case round =>
    clear hb HI
    obtain ⟨k, hk, rfl, HI, hb⟩ := hrel
    by_cases hlt : k < n
    · have hkL : k < L.length := by rw [← HL.out]; exact hlt
      obtain ⟨b, off, rfl, hc⟩ := (HN.out.below hb).2 (by omega)
      have hc0 : wr.cell? ⟨b, off + k * 2, none⟩ = some (.string ⟨(L[k]).p.toArray⟩) := (hc k hkL).1
      have hc1 : wr.cell? ⟨b, off + k * 2 + 1, none⟩ = some (.int .u64 ((L[k]).n : Int)) := (hc k hkL).2
      have hf := HF.out _ (List.getElem_mem hkL)
      have Hct := Lib.hid (flat_take mk L k hkL)
      have hle := flat_le mk L (k + 1)
      rw [Hct.out, List.length_append] at hle
      obtain ⟨m, hm⟩ : ∃ m, m = L[k] := ⟨_, rfl⟩
      rw [← hm] at hc0 hc1 hf Hct hle
      have HX := Lib.hid hf
      clear hm hc hf
      go_wp2_with fail
      refine (mark_any m _ HX.out.1 HX.out.2).mono ?_
      rintro e w3 ⟨rfl, b3⟩
      have I3 := isB_below (isB_below HI.out (balloc (Below.refl _ _) _)) b3
      have hb3 := bstep (balloc hb _) b3
      have hs3 := hb3.size
      clear HI b3
      go_wp2_with fail
      refine (Build.writeString_any w.heap.size w.heap.size _ _ _ I3 (by rw [Lib.byteCells_length, List.length_append, Str.size_mk]; omega) hs3).mono ?_
      rintro e w4 ⟨rfl, I4, b4, _⟩
      rw [strCells_mk, ← Lib.byteCells_append, List.append_assoc, ← Hct.out] at I4
      have HI := Lib.hid I4
      clear I3 I4
      go_wp2
      go_roundw
      case rel => exact ⟨k + 1, by omega, by go_num, HI, hb3.trans b4⟩
      case measure => simp [intOf]; omega
    · have e : k = n := by omega
      have I := HI.out
      rw [List.take_of_length_le (by have := HL.out; omega)] at I
      have hsz := hb.size
      clear HI
      go_wp2_with fail
      refine (Tryz.Builder_String_any_k w.heap.size w.heap.size (H ++ L.flatMap mk) _ I hsz).mono ?_
      rintro e w5 ⟨rfl, _, b5, _⟩
      go_wp2
      go_ret
      exact ⟨rfl, hb.trans b5⟩
set_option maxRecDepth 100000 in
set_option maxHeartbeats 4000000 in
theorem list_dot (a : Option Addr) (n c : Nat) (L : List M) (w : World) (hL : Row.Lies dE w a n L) (hn : n ≤ 1048576) (hf : ∀ x ∈ L, x.p.length ≤ 1048576 ∧ x.n ≤ 18446744073709551615) (hs : (lst mk L).length ≤ 70368744177664) :
    Calls Tryz.prog 80 #[.slice a n c, .func (.func 81) #[] #[]] w fun e w' => e = .returned (.string ⟨(lst mk L).toArray⟩) ∧ Below w.heap.size w w' := by
  have hlen := hL.1
  have HN := Lib.hid hL
  have HF := Lib.hid hf
  clear hL hf
  have wn : IntKind.u64.wrap (n : Int) = (n : Int) := by rw [IntKind.wrap_u64]; omega
  obtain ⟨H, hH⟩ : ∃ H, H = upL n := ⟨_, rfl⟩
  have HC : Hid (cat [n] = H) := Lib.hid (by rw [hH]; simp [cat])
  have HV : Hid (lst mk L = H ++ L.flatMap mk) := Lib.hid (by unfold lst; rw [← hlen, hH])
  have hH10 : H.length ≤ 10 := by rw [hH]; exact up_len n
  have hs2 : H.length + (L.flatMap mk).length ≤ 70368744177664 := by rw [← List.length_append, ← HV.out]; exact hs
  have HL := Lib.hid hlen
  rw [HV.out]
  clear hH hs hlen
  go_enter Tryz.func80, Tryz.ntmps80
  go_wp2_with fail
  have I0 := Lib.IsBuilderF.of (Lib.fresh_isBuilder 130 5 w)
  have hb0 : Below w.heap.size w (w.alloc (.cells #[.pointer none, .slice none 0 0] 130)) := balloc (Below.refl _ _) _
  have hz : (w.alloc (.cells #[.pointer none, .slice none 0 0] 130)).heap.size = w.heap.size + 1 := by rw [World.size_alloc]
  change Lib.IsBuilderF _ _ _ _ _ (w.alloc (.cells #[.pointer none, .slice none 0 0] 130)) at I0
  generalize w.alloc (.cells #[.pointer none, .slice none 0 0] 130) = w0 at I0 hb0 hz ⊢
  have N1 := nats_here [n] (by intro y hy; simp at hy; omega) (C := #[.int .u64 (n : Int)]) rfl (t := 25) 1 rfl (Below.refl 0 (w0.alloc (.cells #[.int .u64 (n : Int)] 25)))
  rw [hz] at N1
  refine (nums_w N1 (by omega) H HC.out).mono ?_
  rintro e w1 ⟨rfl, b1⟩
  have I1 := isB_below (isB_below I0 (balloc (Below.refl _ _) _)) b1
  have hb1 := bstep (balloc hb0 _) b1
  have hs1 := hb1.size
  clear I0 hb0 hz N1 b1
  go_wp2_with fail
  refine (Build.writeString_any w.heap.size w.heap.size _ _ _ I1 (by rw [Str.size_mk]; simp only [List.length_nil]; omega) hs1).mono ?_
  rintro e w2 ⟨rfl, I2, b2, _⟩
  rw [strCells_mk, List.nil_append] at I2
  have hb := hb1.trans b2
  clear I1 hb1 hs1 b2
  have HI := Lib.hid I2
  clear I2
  go_wp2_with fail
  go_loopw [16] (fun i wr => ∃ k : Nat, k ≤ n ∧ i = .int .i64 k ∧ Hid (Lib.IsBuilderF 130 5 w.heap.size w.heap.size (Lib.byteCells (H ++ (L.take k).flatMap mk)) wr) ∧ Below w.heap.size w wr) (fun i _ => n - (intOf i).toNat)
  case atStart => exact ⟨0, by omega, rfl, by rw [List.take_zero, List.flatMap_nil, List.append_nil]; exact HI, hb⟩
  case round =>
    clear hb HI
    obtain ⟨k, hk, rfl, HI, hb⟩ := hrel
    by_cases hlt : k < n
    · have hkL : k < L.length := by rw [← HL.out]; exact hlt
      obtain ⟨b, off, rfl, hc⟩ := (HN.out.below hb).2 (by omega)
      have hc0 : wr.cell? ⟨b, off + k * 2, none⟩ = some (.string ⟨(L[k]).p.toArray⟩) := hc k hkL 0 _ rfl
      have hc1 : wr.cell? ⟨b, off + k * 2 + 1, none⟩ = some (.int .u64 ((L[k]).n : Int)) := hc k hkL 1 _ rfl
      have hf := HF.out _ (List.getElem_mem hkL)
      have Hct := Lib.hid (flat_take mk L k hkL)
      have hle := flat_le mk L (k + 1)
      rw [Hct.out, List.length_append] at hle
      obtain ⟨m, hm⟩ : ∃ m, m = L[k] := ⟨_, rfl⟩
      rw [← hm] at hc0 hc1 hf Hct hle
      have HX := Lib.hid hf
      clear hm hc hf
      go_wp2_with fail
      refine (dot_any m _ HX.out.1 HX.out.2).mono ?_
      rintro e w3 ⟨rfl, b3⟩
      have I3 := isB_below (isB_below HI.out (balloc (Below.refl _ _) _)) b3
      have hb3 := bstep (balloc hb _) b3
      have hs3 := hb3.size
      clear HI b3
      go_wp2_with fail
      refine (Build.writeString_any w.heap.size w.heap.size _ _ _ I3 (by rw [Lib.byteCells_length, List.length_append, Str.size_mk]; omega) hs3).mono ?_
      rintro e w4 ⟨rfl, I4, b4, _⟩
      rw [strCells_mk, ← Lib.byteCells_append, List.append_assoc, ← Hct.out] at I4
      have HI := Lib.hid I4
      clear I3 I4
      go_wp2
      go_roundw
      case rel => exact ⟨k + 1, by omega, by go_num, HI, hb3.trans b4⟩
      case measure => simp [intOf]; omega
    · have e : k = n := by omega
      have I := HI.out
      rw [List.take_of_length_le (by have := HL.out; omega)] at I
      have hsz := hb.size
      clear HI
      go_wp2_with fail
      refine (Tryz.Builder_String_any_k w.heap.size w.heap.size (H ++ L.flatMap mk) _ I hsz).mono ?_
      rintro e w5 ⟨rfl, _, b5, _⟩
      go_wp2
      go_ret
      exact ⟨rfl, hb.trans b5⟩
set_option maxRecDepth 100000 in
set_option maxHeartbeats 4000000 in
theorem list_count (a : Option Addr) (n c : Nat) (L : List C) (w : World) (hL : Row.Lies cE w a n L) (hn : n ≤ 1048576) (hf : ∀ x ∈ L, x.p.length ≤ 1048576 ∧ x.a ≤ 18446744073709551615 ∧ x.b ≤ 18446744073709551615) (hs : (lst ct L).length ≤ 70368744177664) :
    Calls Tryz.prog 47 #[.slice a n c, .func (.func 48) #[] #[]] w fun e w' => e = .returned (.string ⟨(lst ct L).toArray⟩) ∧ Below w.heap.size w w' := by
  have hlen := hL.1
  have HN := Lib.hid hL
  have HF := Lib.hid hf
  clear hL hf
  have wn : IntKind.u64.wrap (n : Int) = (n : Int) := by rw [IntKind.wrap_u64]; omega
  obtain ⟨H, hH⟩ : ∃ H, H = upL n := ⟨_, rfl⟩
  have HC : Hid (cat [n] = H) := Lib.hid (by rw [hH]; simp [cat])
  have HV : Hid (lst ct L = H ++ L.flatMap ct) := Lib.hid (by unfold lst; rw [← hlen, hH])
  have hH10 : H.length ≤ 10 := by rw [hH]; exact up_len n
  have hs2 : H.length + (L.flatMap ct).length ≤ 70368744177664 := by rw [← List.length_append, ← HV.out]; exact hs
  have HL := Lib.hid hlen
  rw [HV.out]
  clear hH hs hlen
  go_enter Tryz.func47, Tryz.ntmps47
  go_wp2_with fail
  have I0 := Lib.IsBuilderF.of (Lib.fresh_isBuilder 130 5 w)
  have hb0 : Below w.heap.size w (w.alloc (.cells #[.pointer none, .slice none 0 0] 130)) := balloc (Below.refl _ _) _
  have hz : (w.alloc (.cells #[.pointer none, .slice none 0 0] 130)).heap.size = w.heap.size + 1 := by rw [World.size_alloc]
  change Lib.IsBuilderF _ _ _ _ _ (w.alloc (.cells #[.pointer none, .slice none 0 0] 130)) at I0
  generalize w.alloc (.cells #[.pointer none, .slice none 0 0] 130) = w0 at I0 hb0 hz ⊢
  have N1 := nats_here [n] (by intro y hy; simp at hy; omega) (C := #[.int .u64 (n : Int)]) rfl (t := 25) 1 rfl (Below.refl 0 (w0.alloc (.cells #[.int .u64 (n : Int)] 25)))
  rw [hz] at N1
  refine (nums_w N1 (by omega) H HC.out).mono ?_
  rintro e w1 ⟨rfl, b1⟩
  have I1 := isB_below (isB_below I0 (balloc (Below.refl _ _) _)) b1
  have hb1 := bstep (balloc hb0 _) b1
  have hs1 := hb1.size
  clear I0 hb0 hz N1 b1
  go_wp2_with fail
  refine (Build.writeString_any w.heap.size w.heap.size _ _ _ I1 (by rw [Str.size_mk]; simp only [List.length_nil]; omega) hs1).mono ?_
  rintro e w2 ⟨rfl, I2, b2, _⟩
  rw [strCells_mk, List.nil_append] at I2
  have hb := hb1.trans b2
  clear I1 hb1 hs1 b2
  have HI := Lib.hid I2
  clear I2
  go_wp2_with fail
  go_loopw [16] (fun i wr => ∃ k : Nat, k ≤ n ∧ i = .int .i64 k ∧ Hid (Lib.IsBuilderF 130 5 w.heap.size w.heap.size (Lib.byteCells (H ++ (L.take k).flatMap ct)) wr) ∧ Below w.heap.size w wr) (fun i _ => n - (intOf i).toNat)
  case atStart => exact ⟨0, by omega, rfl, by rw [List.take_zero, List.flatMap_nil, List.append_nil]; exact HI, hb⟩
  case round =>
    clear hb HI
    obtain ⟨k, hk, rfl, HI, hb⟩ := hrel
    by_cases hlt : k < n
    · have hkL : k < L.length := by rw [← HL.out]; exact hlt
      obtain ⟨b, off, rfl, hc⟩ := (HN.out.below hb).2 (by omega)
      have hc0 : wr.cell? ⟨b, off + k * 3, none⟩ = some (.string ⟨(L[k]).p.toArray⟩) := hc k hkL 0 _ rfl
      have hc1 : wr.cell? ⟨b, off + k * 3 + 1, none⟩ = some (.int .u64 ((L[k]).a : Int)) := hc k hkL 1 _ rfl
      have hc2 : wr.cell? ⟨b, off + k * 3 + 2, none⟩ = some (.int .u64 ((L[k]).b : Int)) := hc k hkL 2 _ rfl
      have hf := HF.out _ (List.getElem_mem hkL)
      have Hct := Lib.hid (flat_take ct L k hkL)
      have hle := flat_le ct L (k + 1)
      rw [Hct.out, List.length_append] at hle
      obtain ⟨m, hm⟩ : ∃ m, m = L[k] := ⟨_, rfl⟩
      rw [← hm] at hc0 hc1 hc2 hf Hct hle
      have HX := Lib.hid hf
      clear hm hc hf
      go_wp2_with fail
      refine (count_any m _ HX.out.1 HX.out.2.1 HX.out.2.2).mono ?_
      rintro e w3 ⟨rfl, b3⟩
      have I3 := isB_below (isB_below HI.out (balloc (Below.refl _ _) _)) b3
      have hb3 := bstep (balloc hb _) b3
      have hs3 := hb3.size
      clear HI b3
      go_wp2_with fail
      refine (Build.writeString_any w.heap.size w.heap.size _ _ _ I3 (by rw [Lib.byteCells_length, List.length_append, Str.size_mk]; omega) hs3).mono ?_
      rintro e w4 ⟨rfl, I4, b4, _⟩
      rw [strCells_mk, ← Lib.byteCells_append, List.append_assoc, ← Hct.out] at I4
      have HI := Lib.hid I4
      clear I3 I4
      go_wp2
      go_roundw
      case rel => exact ⟨k + 1, by omega, by go_num, HI, hb3.trans b4⟩
      case measure => simp [intOf]; omega
    · have e : k = n := by omega
      have I := HI.out
      rw [List.take_of_length_le (by have := HL.out; omega)] at I
      have hsz := hb.size
      clear HI
      go_wp2_with fail
      refine (Tryz.Builder_String_any_k w.heap.size w.heap.size (H ++ L.flatMap ct) _ I hsz).mono ?_
      rintro e w5 ⟨rfl, _, b5, _⟩
      go_wp2
      go_ret
      exact ⟨rfl, hb.trans b5⟩
set_option maxRecDepth 100000 in
set_option maxHeartbeats 4000000 in
theorem list_word (a : Option Addr) (n c : Nat) (L : List (List UInt8)) (w : World) (hL : Row.Lies wE w a n L) (hn : n ≤ 1048576) (hf : ∀ x ∈ L, x.length ≤ 1048576) (hs : (lst tx L).length ≤ 70368744177664) :
    Calls Tryz.prog 85 #[.slice a n c, .func (.func 86) #[] #[]] w fun e w' => e = .returned (.string ⟨(lst tx L).toArray⟩) ∧ Below w.heap.size w w' := by
  have hlen := hL.1
  have HN := Lib.hid hL
  have HF := Lib.hid hf
  clear hL hf
  have wn : IntKind.u64.wrap (n : Int) = (n : Int) := by rw [IntKind.wrap_u64]; omega
  obtain ⟨H, hH⟩ : ∃ H, H = upL n := ⟨_, rfl⟩
  have HC : Hid (cat [n] = H) := Lib.hid (by rw [hH]; simp [cat])
  have HV : Hid (lst tx L = H ++ L.flatMap tx) := Lib.hid (by unfold lst; rw [← hlen, hH])
  have hH10 : H.length ≤ 10 := by rw [hH]; exact up_len n
  have hs2 : H.length + (L.flatMap tx).length ≤ 70368744177664 := by rw [← List.length_append, ← HV.out]; exact hs
  have HL := Lib.hid hlen
  rw [HV.out]
  clear hH hs hlen
  go_enter Tryz.func85, Tryz.ntmps85
  go_wp2_with fail
  have I0 := Lib.IsBuilderF.of (Lib.fresh_isBuilder 130 5 w)
  have hb0 : Below w.heap.size w (w.alloc (.cells #[.pointer none, .slice none 0 0] 130)) := balloc (Below.refl _ _) _
  have hz : (w.alloc (.cells #[.pointer none, .slice none 0 0] 130)).heap.size = w.heap.size + 1 := by rw [World.size_alloc]
  change Lib.IsBuilderF _ _ _ _ _ (w.alloc (.cells #[.pointer none, .slice none 0 0] 130)) at I0
  generalize w.alloc (.cells #[.pointer none, .slice none 0 0] 130) = w0 at I0 hb0 hz ⊢
  have N1 := nats_here [n] (by intro y hy; simp at hy; omega) (C := #[.int .u64 (n : Int)]) rfl (t := 25) 1 rfl (Below.refl 0 (w0.alloc (.cells #[.int .u64 (n : Int)] 25)))
  rw [hz] at N1
  refine (nums_w N1 (by omega) H HC.out).mono ?_
  rintro e w1 ⟨rfl, b1⟩
  have I1 := isB_below (isB_below I0 (balloc (Below.refl _ _) _)) b1
  have hb1 := bstep (balloc hb0 _) b1
  have hs1 := hb1.size
  clear I0 hb0 hz N1 b1
  go_wp2_with fail
  refine (Build.writeString_any w.heap.size w.heap.size _ _ _ I1 (by rw [Str.size_mk]; simp only [List.length_nil]; omega) hs1).mono ?_
  rintro e w2 ⟨rfl, I2, b2, _⟩
  rw [strCells_mk, List.nil_append] at I2
  have hb := hb1.trans b2
  clear I1 hb1 hs1 b2
  have HI := Lib.hid I2
  clear I2
  go_wp2_with fail
  go_loopw [16] (fun i wr => ∃ k : Nat, k ≤ n ∧ i = .int .i64 k ∧ Hid (Lib.IsBuilderF 130 5 w.heap.size w.heap.size (Lib.byteCells (H ++ (L.take k).flatMap tx)) wr) ∧ Below w.heap.size w wr) (fun i _ => n - (intOf i).toNat)
  case atStart => exact ⟨0, by omega, rfl, by rw [List.take_zero, List.flatMap_nil, List.append_nil]; exact HI, hb⟩
  case round =>
    clear hb HI
    obtain ⟨k, hk, rfl, HI, hb⟩ := hrel
    by_cases hlt : k < n
    · have hkL : k < L.length := by rw [← HL.out]; exact hlt
      obtain ⟨b, off, rfl, hc⟩ := (HN.out.below hb).2 (by omega)
      have hc0 : wr.cell? ⟨b, off + k, none⟩ = some (.string ⟨(L[k]).toArray⟩) := by have h := hc k hkL 0 _ rfl; rw [show off + k * wE.k + 0 = off + k from by show off + k * 1 + 0 = off + k; omega] at h; exact h
      have hf := HF.out _ (List.getElem_mem hkL)
      have Hct := Lib.hid (flat_take tx L k hkL)
      have hle := flat_le tx L (k + 1)
      rw [Hct.out, List.length_append] at hle
      obtain ⟨m, hm⟩ : ∃ m, m = L[k] := ⟨_, rfl⟩
      rw [← hm] at hc0 hf Hct hle
      have HX := Lib.hid hf
      clear hm hc hf
      go_wp2_with fail
      refine (word_any m _ HX.out).mono ?_
      rintro e w3 ⟨rfl, b3⟩
      have I3 := isB_below HI.out b3
      have hb3 := bstep hb b3
      have hs3 := hb3.size
      clear HI b3
      go_wp2_with fail
      refine (Build.writeString_any w.heap.size w.heap.size _ _ _ I3 (by rw [Lib.byteCells_length, List.length_append, Str.size_mk]; omega) hs3).mono ?_
      rintro e w4 ⟨rfl, I4, b4, _⟩
      rw [strCells_mk, ← Lib.byteCells_append, List.append_assoc, ← Hct.out] at I4
      have HI := Lib.hid I4
      clear I3 I4
      go_wp2
      go_roundw
      case rel => exact ⟨k + 1, by omega, by go_num, HI, hb3.trans b4⟩
      case measure => simp [intOf]; omega
    · have e : k = n := by omega
      have I := HI.out
      rw [List.take_of_length_le (by have := HL.out; omega)] at I
      have hsz := hb.size
      clear HI
      go_wp2_with fail
      refine (Tryz.Builder_String_any_k w.heap.size w.heap.size (H ++ L.flatMap tx) _ I hsz).mono ?_
      rintro e w5 ⟨rfl, _, b5, _⟩
      go_wp2
      go_ret
      exact ⟨rfl, hb.trans b5⟩
end Coder
end Go.Proofs.YtnpjkmomllkhpaaGreat
