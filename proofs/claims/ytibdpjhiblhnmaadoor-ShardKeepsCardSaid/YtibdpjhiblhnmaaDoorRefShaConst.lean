
/- the reference's sha: its constants. -/
import Derived.Test.YtibdpjhiblhnmaaDoorRefShaFrac
namespace Go.Proofs.YtibdpjhiblhnmaaDoor
namespace RefSha
open Go.RowKit Sha
/-- Two rows lie in unlike blocks. -/
def Apart (a b : Value) : Prop := ∀ g, a.ownBlock = some g → b.ownBlock ≠ some g
theorem Apart.kept {α : Type} {E : Row.Enc α} {te : TypeId} {w w' : World} {B : Nat} {a b : Value} {L : List α} (h : Apart a b) (o : Row.Own E te w B b L) (k : w.grownBy w' a.ownBlock) : Row.Own E te w' B b L :=
  World.ownsRow.kept o k (by
    cases hb : b.ownBlock with
    | none => exact .inl rfl
    | some g => exact .inr (fun e => h g e.symm hb))
theorem Apart.symm {a b : Value} (h : Apart a b) : Apart b a := fun g e f => h g f e
theorem Apart.placed {α : Type} {E : Row.Enc α} {te : TypeId} {w : World} {B : Nat} {a a' b : Value} {L : List α} (h : Apart a b) (o : Row.Own E te w B b L) (k : a'.ownBlock = a.ownBlock ∨ a'.ownBlock = some w.heap.size) : Apart a' b := fun g e f => by
  rcases k with k | k
  · exact h g (k ▸ e) f
  · rw [k] at e
    have := (o.lt g f).2
    simp only [Option.some.injEq] at e
    omega
theorem apart_types {α β : Type} {E : Row.Enc α} {F : Row.Enc β} {te tf : TypeId} {w : World} {B C : Nat} {a b : Value} {L : List α} {M : List β} (h : Row.Own E te w B a L) (k : Row.Own F tf w C b M) (hne : te ≠ tf) : Apart a b := fun g e f => by
  rcases h.2 with ⟨rfl, _⟩ | ⟨g1, c1, cur1, rfl, _, hg1, _⟩
  · cases e
  · rcases k.2 with ⟨rfl, _⟩ | ⟨g2, c2, cur2, rfl, _, hg2, _⟩
    · cases f
    · simp only [Value.ownBlock, Option.some.injEq] at e f
      subst e f
      rw [hg1] at hg2
      simp only [Option.some.injEq, Obj.cells.injEq] at hg2
      exact hne hg2.2.1
theorem map_take_succ (f : Int → Int) (L : List Int) (j : Nat) (h : j < L.length) : (L.take (j + 1)).map f = (L.take j).map f ++ [f (L.getD j 0)] := by
  rw [List.take_succ_eq_append_getElem h, List.map_append, List.getD_eq_getElem?_getD, List.getElem?_eq_getElem h]; rfl
set_option maxRecDepth 100000 in
set_option maxHeartbeats 1000000 in
theorem constants_any (w : World) :
    Calls Tryd.prog 17 #[] w fun e w' => ∃ vk vh, e = .returned (.tuple #[vk, vh]) ∧ Own32 w' w.heap.size vk K0 ∧ Own32 w' w.heap.size vh H0.list ∧ Below w.heap.size w w' := by
  have FR := Lib.hid (fun p b w => fraction_any p b w)
  go_enter Tryd.func17, Tryd.ntmps17
  go_wp2_with fail
  refine (primes_any _).mono ?_
  rintro e w1 ⟨v, rfl, hP, k1⟩
  obtain ⟨g, cap, rfl, hgB, hgl, hcap, hcm, -, -⟩ := Ones.Own.at hP (by decide)
  rw [show PR.length = 64 from rfl] at hcap hP ⊢
  have HP1 := Lib.hid hP
  clear hP
  go_wp2_with fail
  go_loopw [2, 3, 5] (fun vk vh i wx => ∃ (j : Nat) (xk xh : Value), j ≤ 64 ∧ xk = vk ∧ xh = vh ∧ i = .int .i64 (j : Int) ∧ Below w.heap.size w wx ∧ Hid (Own32 wx w.heap.size xk ((PR.take j).map (fun p => fracF p true))) ∧ Hid (Own32 wx w.heap.size xh ((PR.take (min j 8)).map (fun p => fracF p false))) ∧
    Hid (Own64 wx w.heap.size (.slice (some ⟨g, 0, none⟩) 64 cap) PR) ∧ Hid (Apart xk xh)) (fun _ _ i _ => 64 - (intOf i).toNat)
  case atStart => exact ⟨0, _, _, by omega, rfl, rfl, rfl, k1, Lib.hid (Row.Own.nil _ _), Lib.hid (Row.Own.nil _ _), HP1, Lib.hid (fun g e => by cases e)⟩
  case round =>
    clear k1 HP1
    obtain ⟨j, xk, xh, hj, rfl, rfl, rfl, hb, HK, HH, HP, HA⟩ := hrel
    by_cases hlt : j < 64
    · have hd : decide ((j : Int) < 64) = true := decide_eq_true (by omega)
      have hPl : PR.length = 64 := rfl
      have hc := Ones.Own.cell HP.out j (by omega)
      have HKn := Lib.hid (map_take_succ (fun p => fracF p true) PR j (by omega))
      have HHn := Lib.hid (map_take_succ (fun p => fracF p false) PR j (by omega))
      have HAP := Lib.hid (apart_types HK.out HP.out (by decide))
      have HAH := Lib.hid (apart_types HH.out HP.out (by decide))
      obtain ⟨p, hp⟩ : ∃ p, p = PR.getD j 0 := ⟨_, rfl⟩
      have HG2 : Hid (∀ x, Own64 x w.heap.size (.slice (some ⟨g, 0, none⟩) 64 cap) PR → x.cell? ⟨g, j, none⟩ = some (.int .u64 p)) := Lib.hid (fun x h => by rw [hp]; exact Ones.Own.cell h j (by omega))
      rw [← hp] at hc HKn HHn
      have hlk : ((PR.take j).map (fun p => fracF p true)).length ≤ 64 := by rw [List.length_map, List.length_take]; omega
      have hlh : ((PR.take (min j 8)).map (fun p => fracF p false)).length ≤ 64 := by rw [List.length_map, List.length_take]; omega
      have hsz := hb.size
      have h0j : (0 : Int) ≤ (j : Int) := by omega
      have hj64 : (j : Int) < 64 := by omega
      clear hPl hp
      by_cases h8 : j < 8
      · have hd8 : decide ((j : Int) < 8) = true := decide_eq_true (by omega)
        have HN8 : Hid (min (j + 1) 8 = j + 1 ∧ min j 8 = j) := Lib.hid (by omega)
        go_wp2_with (first
          | (go_at_call 28; ((refine (FR.out _ _ _).mono ?_); rintro e w' ⟨rfl, rfl⟩))
          | (at_builtin
             refine Ones.wpList_app_place typ32 rfl (.tmp 11) _ rfl w.heap.size xk _ rfl (HK.out.alloc _) _ 1 1 [fracF p true] rfl (Row.lies_new (E := Ones.enc .u32) wr _ _) (by omega) (by rw [World.size_alloc]; omega) ?_
             intro v9 w9 o9 g9 k9 p9
             have P9 := Lib.hid (HAP.out.kept (HP.out.alloc _) g9)
             have H9 := Lib.hid (HA.out.kept (HH.out.alloc _) g9)
             have A9 := Lib.hid (HA.out.placed (HH.out.alloc _) p9)
             have c9 := HG2.out w9 P9.out
             have O9 := Lib.hid o9
             have hb9 := (balloc hb _).trans k9
             have hs9 := hb9.size
             clear o9 g9 k9 p9)
          | (at_builtin
             refine Ones.wpList_app_place typ32 rfl _ _ rfl w.heap.size xh _ rfl (H9.out.alloc _) _ 1 1 [fracF p false] rfl (Row.lies_new (E := Ones.enc .u32) w9 _ _) (by omega) (by rw [World.size_alloc]; omega) ?_
             intro v7 w7 o7 g7 k7 p7))
        go_roundw
        case rel => 
          refine ⟨j + 1, v9, v7, by omega, rfl, rfl, by go_num, (balloc hb9 _).trans k7, ?_, ?_, ?_, ?_⟩
          · exact Lib.hid (by rw [HKn.out]; exact A9.out.symm.kept (O9.out.alloc _) g7)
          · exact Lib.hid (by rw [HN8.out.1, HHn.out]; rw [HN8.out.2] at o7; exact o7)
          · exact Lib.hid (HAH.out.kept (P9.out.alloc _) g7)
          · exact Lib.hid (A9.out.symm.placed (O9.out.alloc _) p7).symm
        case measure => simp [intOf]; omega
      · have hd8 : decide ((j : Int) < 8) = false := decide_eq_false (by omega)
        have HN8 : Hid (min (j + 1) 8 = min j 8) := Lib.hid (by omega)
        go_wp2_with (first
          | (go_at_call 28; ((refine (FR.out _ _ _).mono ?_); rintro e w' ⟨rfl, rfl⟩))
          | (at_builtin
             refine Ones.wpList_app_place typ32 rfl (.tmp 11) _ rfl w.heap.size xk _ rfl (HK.out.alloc _) _ 1 1 [fracF p true] rfl (Row.lies_new (E := Ones.enc .u32) wr _ _) (by omega) (by rw [World.size_alloc]; omega) ?_
             intro v9 w9 o9 g9 k9 p9))
        go_roundw
        case rel =>
          refine ⟨j + 1, v9, xh, by omega, rfl, rfl, by go_num, (balloc hb _).trans k9, ?_, ?_, ?_, ?_⟩
          · exact Lib.hid (by rw [HKn.out]; exact o9)
          · exact Lib.hid (by rw [HN8.out]; exact HA.out.kept (HH.out.alloc _) g9)
          · exact Lib.hid (HAP.out.kept (HP.out.alloc _) g9)
          · exact Lib.hid (HA.out.placed (HH.out.alloc _) p9)
        case measure => simp [intOf]; omega
    · obtain rfl : j = 64 := by omega
      have hd : decide ((64 : Int) < 64) = false := by decide
      have HE : Hid (Own32 wr w.heap.size xk K0 ∧ Own32 wr w.heap.size xh H0.list) := Lib.hid ⟨by have h := HK.out; rwa [show PR.take 64 = PR from rfl, k_all] at h, by have h := HH.out; rwa [show min 64 8 = 8 from rfl, h_all] at h⟩
      clear HK HH HP HA
      go_wp2
      go_ret2
      exact ⟨_, _, rfl, HE.out.1, HE.out.2, hb⟩
end RefSha
end Go.Proofs.YtibdpjhiblhnmaaDoor
