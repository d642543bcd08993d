/- coder: items as bytes. -/
import Derived.Test.YtnpjkmomllkhpaaGreatTake
import Derived.Test.YtnpjkmomllkhpaaGreatTmCoderList
namespace Go.Proofs.YtnpjkmomllkhpaaGreat
namespace Coder
open Go.RowKit Go.Proofs.YtnpjkmomllkhpaaGreat.Mark Go.Proofs.YtnpjkmomllkhpaaGreat.Num Go.Proofs.YtnpjkmomllkhpaaGreat.Wire Go.Proofs.YtnpjkmomllkhpaaGreat.Bag
theorem lst_map {α β : Type} (f : β → List UInt8) (h : α → β) (L : List α) : lst f (L.map h) = lst (fun x => f (h x)) L := by
  unfold lst; rw [List.length_map, List.flatMap_map]
def fI (x : RI) : List UInt8 := itb x.it
set_option maxRecDepth 100000 in
set_option maxHeartbeats 4000000 in
theorem item_any (x : RI) (w : World) (hi : Inner w x) (hp : x.t.length ≤ 1048576) (hd : x.d.length ≤ 1048576) (hm : ∀ m ∈ x.d, m.p.length ≤ 1048576 ∧ m.n ≤ 18446744073709551615) (hs : (fI x).length ≤ 70368744177664) :
    Calls Tryz.prog 50 #[.agg #[.string ⟨x.t.toArray⟩, .slice x.a x.d.length x.c]] w fun e w' => e = .returned (.string ⟨(fI x).toArray⟩) ∧ Below w.heap.size w w' := by
  have hb := Below.refl w.heap.size w
  have lI := Lib.hid hi
  clear hi
  obtain ⟨p0, hp0⟩ : ∃ p, p = tx x.t := ⟨_, rfl⟩
  have b0 : p0.length ≤ 1048586 := by rw [hp0]; have := tx_len x.t; omega
  have R0 : Hid ([x.t].flatMap tx = p0) := Lib.hid (by rw [hp0]; simp)
  obtain ⟨p1, hp1⟩ : ∃ p, p = lst mk x.d := ⟨_, rfl⟩
  have z0 := Str.size_mk p0
  have z1 := Str.size_mk p1
  obtain ⟨C1, hC1⟩ : ∃ p, p = p0 ++ p1 := ⟨_, rfl⟩
  have HV : Hid (fI x = C1) := Lib.hid (by rw [hC1, hp0, hp1]; rfl)
  have lC1 : C1.length = p0.length + p1.length := by rw [hC1, List.length_append]
  have aC1 : (({ data := p0.toArray } : ByteArray)) ++ { data := p1.toArray } = { data := C1.toArray } := by rw [hC1]; exact Str.mk_append_mk p0 p1
  have zC1 := Str.size_mk C1
  rw [HV.out] at hs
  have b1 : p1.length ≤ 70368744177664 := by omega
  have nC1 : ¬ (9223372036854775807 < p0.length + p1.length) := by omega
  have mC1 : ¬ (p0.length + p1.length > 9223372036854775807) := by omega
  have D6 := Lib.hid (fun W (h : Row.Lies dE W x.a x.d.length x.d) => (by rw [hp1]; exact list_dot x.a x.d.length x.c x.d W h hd hm (by rw [← hp1]; exact b1) : Calls Tryz.prog 80 #[.slice x.a x.d.length x.c, .func (.func 81) #[] #[]] W fun e W' => e = .returned (.string ⟨p1.toArray⟩) ∧ Below W.heap.size W W'))
  have X0 := Lib.hid (box_cells w #[.string ⟨x.t.toArray⟩, .slice x.a x.d.length x.c] 74 0 (.string ⟨x.t.toArray⟩) rfl)
  have X1 := Lib.hid (box_cells w #[.string ⟨x.t.toArray⟩, .slice x.a x.d.length x.c] 74 1 (.slice x.a x.d.length x.c) rfl)
  replace hC1 := Lib.hid hC1
  replace lC1 := Lib.hid lC1
  clear hp0 hp1 hm hs
  go_enter Tryz.func50, Tryz.ntmps50
  go_wp2_with fail
  replace lI := Lib.hid ((lI.out).below (balloc (Below.refl _ _) (.cells #[.string ⟨x.t.toArray⟩, .slice x.a x.d.length x.c] 74)))
  replace hb := bstep hb (balloc (Below.refl _ _) (.cells #[.string ⟨x.t.toArray⟩, .slice x.a x.d.length x.c] 74))
  have x0 := X0.out
  have x1 := X1.out
  clear X0 X1
  refine wp_region_noPanic ?_
  refine wp_region_held_drew (S := (fun w' => Below w.heap.size w w' ∧ Row.Lies dE w' x.a x.d.length x.d ∧ w'.cell? ⟨w.heap.size, 0, none⟩ = some (.string ⟨x.t.toArray⟩) ∧ w'.cell? ⟨w.heap.size, 1, none⟩ = some (.slice x.a x.d.length x.c))) (by kernel_rfl) (⟨Below.drew hb, (lI.out).below (Below.drew (Below.refl _ _)), Coder.keepC x0 (Below.drew (Below.refl _ _)), Coder.keepC x1 (Below.drew (Below.refl _ _))⟩) (fun hHeld => ?_)
  revert hHeld
  generalize World.drew _ = wd
  intro hHeld
  refine tk 0 ?_
  try simp only [Act.put, List.setIfInBounds_toArray, List.set_cons_zero, List.set_cons_succ]
  refine tk 1 ?_
  try simp only [Act.put, List.setIfInBounds_toArray, List.set_cons_zero, List.set_cons_succ]
  refine tk 4 ?_
  try simp only [Act.put, List.setIfInBounds_toArray, List.set_cons_zero, List.set_cons_succ]
  refine tk 5 ?_
  try simp only [Act.put, List.setIfInBounds_toArray, List.set_cons_zero, List.set_cons_succ]
  refine wpAnyH_ready (rs := [2]) (by kernel_rfl) (by simp) ?_
  refine AllReadyH.cons (by simp only [List.getElem?_toArray, List.getElem?_cons_succ, List.getElem?_cons_zero]; rfl) (fun K hK => ?_) AllReadyH.nil
  go_simp
  refine hK.out _ _ (⟨bstep hHeld.1 (balloc (Below.refl _ _) _), (hHeld.2.1).below (balloc (Below.refl _ _) _), Coder.keepC hHeld.2.2.1 (balloc (Below.refl _ _) _), Coder.keepC hHeld.2.2.2 (balloc (Below.refl _ _) _)⟩) (fun hHeld => ?_)
  clear hK K
  try simp only [Act.put, List.setIfInBounds_toArray, List.set_cons_zero, List.set_cons_succ]
  have N2 := txts_here [x.t] (by intro y hy; simp at hy; subst hy; omega) rfl 1 rfl hHeld.1
  try simp only [World.size_alloc] at N2
  refine wpAnyH_ready (rs := [3]) (by kernel_rfl) (by simp) ?_
  refine AllReadyH.cons (by simp only [List.getElem?_toArray, List.getElem?_cons_succ, List.getElem?_cons_zero]; rfl) (fun K hK => ?_) AllReadyH.nil
  go_simp
  go_at_call 44
  refine (texts_w N2 p0 R0.out (by omega) (by omega)).mono ?_
  rintro e v1 ⟨rfl, k1⟩
  replace N2 := (N2).below rfl k1
  go_wp2_with fail
  refine hK.out _ _ (⟨bstep hHeld.1 k1, (hHeld.2.1).below k1, Coder.keepC hHeld.2.2.1 k1, Coder.keepC hHeld.2.2.2 k1⟩) (fun hHeld => ?_)
  clear hK K k1
  try simp only [Act.put, List.setIfInBounds_toArray, List.set_cons_zero, List.set_cons_succ]
  refine wpAnyH_ready (rs := [6]) (by kernel_rfl) (by simp) ?_
  refine AllReadyH.cons (by simp only [List.getElem?_toArray, List.getElem?_cons_succ, List.getElem?_cons_zero]; rfl) (fun K hK => ?_) AllReadyH.nil
  go_simp
  go_at_call 80
  refine (D6.out _ hHeld.2.1).mono ?_
  rintro e v2 ⟨rfl, k2⟩
  replace N2 := (N2).below rfl k2
  go_wp2_with fail
  refine hK.out _ _ (⟨bstep hHeld.1 k2, (hHeld.2.1).below k2, Coder.keepC hHeld.2.2.1 k2, Coder.keepC hHeld.2.2.2 k2⟩) (fun hHeld => ?_)
  clear hK K k2
  try simp only [Act.put, List.setIfInBounds_toArray, List.set_cons_zero, List.set_cons_succ]
  refine tk 7 ?_
  try simp only [Act.put, List.setIfInBounds_toArray, List.set_cons_zero, List.set_cons_succ]
  refine tk 8 ?_
  try simp only [Act.put, List.setIfInBounds_toArray, List.set_cons_zero, List.set_cons_succ]
  refine wpAnyH_done (by kernel_rfl) ?_ _
  refine NoPanic.normal ?_
  clear hb lI x0 x1
  obtain ⟨hb, lI, x0, x1⟩ := hHeld
  replace lI := Lib.hid lI
  go_wp2
  go_ret
  exact ⟨by rw [HV.out]; rfl, hb⟩
set_option maxRecDepth 100000 in
set_option maxHeartbeats 4000000 in
theorem list_item (a : Option Addr) (n c : Nat) (L : List RI) (w : World) (hL : Row.Lies iE w a n L) (hn : n ≤ 1048576) (hf : ∀ x ∈ L, Inner w x ∧ x.t.length ≤ 1048576 ∧ x.d.length ≤ 1048576 ∧ (∀ m ∈ x.d, m.p.length ≤ 1048576 ∧ m.n ≤ 18446744073709551615) ∧ (fI x).length ≤ 70368744177664) (hs : (lst fI L).length ≤ 70368744177664) :
    Calls Tryz.prog 49 #[.slice a n c, .func (.func 50) #[] #[]] w fun e w' => e = .returned (.string ⟨(lst fI L).toArray⟩) ∧ Below w.heap.size w w' := by
  have hlen := hL.1
  have HN := Lib.hid hL
  have HF := Lib.hid hf
  clear hL hf
  have wn : IntKind.u64.wrap (n : Int) = (n : Int) := by rw [IntKind.wrap_u64]; omega
  obtain ⟨H, hH⟩ : ∃ H, H = upL n := ⟨_, rfl⟩
  have HC : Hid (cat [n] = H) := Lib.hid (by rw [hH]; simp [cat])
  have HV : Hid (lst fI L = H ++ L.flatMap fI) := Lib.hid (by unfold lst; rw [← hlen, hH])
  have hH10 : H.length ≤ 10 := by rw [hH]; exact up_len n
  have hs2 : H.length + (L.flatMap fI).length ≤ 70368744177664 := by rw [← List.length_append, ← HV.out]; exact hs
  have HL := Lib.hid hlen
  rw [HV.out]
  clear hH hs hlen
  go_enter Tryz.func49, Tryz.ntmps49
  go_wp2_with fail
  have I0 := Lib.IsBuilderF.of (Lib.fresh_isBuilder 130 5 w)
  have hb0 : Below w.heap.size w (w.alloc (.cells #[.pointer none, .slice none 0 0] 130)) := balloc (Below.refl _ _) _
  have hz : (w.alloc (.cells #[.pointer none, .slice none 0 0] 130)).heap.size = w.heap.size + 1 := by rw [World.size_alloc]
  change Lib.IsBuilderF _ _ _ _ _ (w.alloc (.cells #[.pointer none, .slice none 0 0] 130)) at I0
  generalize w.alloc (.cells #[.pointer none, .slice none 0 0] 130) = w0 at I0 hb0 hz ⊢
  have N1 := nats_here [n] (by intro y hy; simp at hy; omega) (C := #[.int .u64 (n : Int)]) rfl (t := 25) 1 rfl (Below.refl 0 (w0.alloc (.cells #[.int .u64 (n : Int)] 25)))
  rw [hz] at N1
  refine (nums_w N1 (by omega) H HC.out).mono ?_
  rintro e w1 ⟨rfl, b1⟩
  have I1 := isB_below (isB_below I0 (balloc (Below.refl _ _) _)) b1
  have hb1 := bstep (balloc hb0 _) b1
  have hs1 := hb1.size
  clear I0 hb0 hz N1 b1
  go_wp2_with fail
  refine (Build.writeString_any w.heap.size w.heap.size _ _ _ I1 (by rw [Str.size_mk]; simp only [List.length_nil]; omega) hs1).mono ?_
  rintro e w2 ⟨rfl, I2, b2, _⟩
  rw [strCells_mk, List.nil_append] at I2
  have hb := hb1.trans b2
  clear I1 hb1 hs1 b2
  have HI := Lib.hid I2
  clear I2
  go_wp2_with fail
  go_loopw [16] (fun i wr => ∃ k : Nat, k ≤ n ∧ i = .int .i64 k ∧ Hid (Lib.IsBuilderF 130 5 w.heap.size w.heap.size (Lib.byteCells (H ++ (L.take k).flatMap fI)) wr) ∧ Below w.heap.size w wr) (fun i _ => n - (intOf i).toNat)
  case atStart => exact ⟨0, by omega, rfl, by rw [List.take_zero, List.flatMap_nil, List.append_nil]; exact HI, hb⟩
  case round =>
    clear hb HI
    obtain ⟨k, hk, rfl, HI, hb⟩ := hrel
    by_cases hlt : k < n
    · have hkL : k < L.length := by rw [← HL.out]; exact hlt
      obtain ⟨b, off, rfl, hc⟩ := (HN.out.below hb).2 (by omega)
      have hc0 : wr.cell? ⟨b, off + k * 2, none⟩ = some (.string ⟨(L[k]).t.toArray⟩) := hc k hkL 0 _ rfl
      have hc1 : wr.cell? ⟨b, off + k * 2 + 1, none⟩ = some (.slice (L[k]).a (L[k]).d.length (L[k]).c) := hc k hkL 1 _ rfl
      have hf := HF.out _ (List.getElem_mem hkL)
      have Hct := Lib.hid (flat_take fI L k hkL)
      have hle := flat_le fI L (k + 1)
      rw [Hct.out, List.length_append] at hle
      obtain ⟨m, hm⟩ : ∃ m, m = L[k] := ⟨_, rfl⟩
      rw [← hm] at hc0 hc1 hf Hct hle
      have HX := Lib.hid hf
      clear hm hc hf
      go_wp2_with fail
      refine (item_any m _ (HX.out.1.below (balloc hb _)) HX.out.2.1 HX.out.2.2.1 HX.out.2.2.2.1 HX.out.2.2.2.2).mono ?_
      rintro e w3 ⟨rfl, b3⟩
      have I3 := isB_below (isB_below HI.out (balloc (Below.refl _ _) _)) b3
      have hb3 := bstep (balloc hb _) b3
      have hs3 := hb3.size
      clear HI b3
      go_wp2_with fail
      refine (Build.writeString_any w.heap.size w.heap.size _ _ _ I3 (by rw [Lib.byteCells_length, List.length_append, Str.size_mk]; omega) hs3).mono ?_
      rintro e w4 ⟨rfl, I4, b4, _⟩
      rw [strCells_mk, ← Lib.byteCells_append, List.append_assoc, ← Hct.out] at I4
      have HI := Lib.hid I4
      clear I3 I4
      go_wp2
      go_roundw
      case rel => exact ⟨k + 1, by omega, by go_num, HI, hb3.trans b4⟩
      case measure => simp [intOf]; omega
    · have e : k = n := by omega
      have I := HI.out
      rw [List.take_of_length_le (by have := HL.out; omega)] at I
      have hsz := hb.size
      clear HI
      go_wp2_with fail
      refine (Tryz.Builder_String_any_k w.heap.size w.heap.size (H ++ L.flatMap fI) _ I hsz).mono ?_
      rintro e w5 ⟨rfl, _, b5, _⟩
      go_wp2
      go_ret
      exact ⟨rfl, hb.trans b5⟩

end Coder
end Go.Proofs.YtnpjkmomllkhpaaGreat
