/- the law's heavy. -/
import Derived.Test.YtfdcmmafdgagoaaBeatCopied
namespace Go.Proofs.Ytfdcmmafdgagoaa
namespace Beat
open Go.RowKit

def sumB (L : List B) : Nat := (L.map fun x => x.p.length).sum
theorem sumB_take (L : List B) (k : Nat) (h : k < L.length) : sumB (L.take (k + 1)) = sumB (L.take k) + L[k].p.length := by
  unfold sumB
  rw [List.take_succ_eq_append_getElem h, List.map_append, List.sum_append, List.map_singleton, List.sum_singleton]
theorem sumB_bound : ∀ (L : List B), (∀ x ∈ L, x.p.length ≤ 140737488351232) → sumB L ≤ L.length * 140737488351232
  | [], _ => by simp [sumB]
  | x :: L, h => by
    have h1 := h x (List.mem_cons_self ..)
    have h2 := sumB_bound L (fun y hy => h y (List.mem_cons_of_mem _ hy))
    unfold sumB at h2 ⊢
    simp only [List.map_cons, List.sum_cons, List.length_cons]
    omega
def heavyB (L : List B) : Bool := decide (40 < L.length) || decide (2048 < sumB L)

set_option maxRecDepth 100000 in
set_option maxHeartbeats 4000000 in
theorem heavy_any (L : List B) (a : Option Addr) (c : Nat) (w : World) (hL : Lies w a L.length L) (hp : ∀ x ∈ L, x.p.length ≤ 140737488351232) :
    Calls Try.prog 5 #[.slice a L.length c] w fun e w' => e = .returned (.bool (heavyB L)) ∧ w = w' := by
  have HL := Lib.hid hL
  have HP := Lib.hid hp
  clear hL hp
  go_enter Try.func5, Try.ntmps5
  go_wp2_with fail
  go_loop [3, 4] (fun nv iv => ∃ q : Nat, q ≤ L.length ∧ q ≤ 100 ∧ iv = .int .i64 q ∧ nv = .int .i64 ((sumB (L.take q) : Nat) : Int)) (fun _ iv => 100 - (intOf iv).toNat)
  case atStart => exact ⟨0, by omega, by omega, rfl, by simp [sumB]⟩
  case round =>
    obtain ⟨q, hq, hq2, rfl, rfl⟩ := hrel
    have hsb := sumB_bound (L.take q) (fun m hm => HP.out m (List.mem_of_mem_take hm))
    rw [List.length_take, Nat.min_eq_left hq] at hsb
    by_cases hlt : q < L.length
    · by_cases hlt2 : q < 100
      · obtain ⟨b, off, rfl, hcell⟩ := lies_at HL.out (by omega)
        obtain ⟨c1, _, _⟩ := hcell q (by omega)
        have hst := sumB_take L q hlt
        obtain ⟨m, hm⟩ : ∃ m, m = L[q] := ⟨_, rfl⟩
        have hpl := HP.out m (by rw [hm]; exact List.getElem_mem _)
        rw [← hm] at c1 hst
        obtain ⟨p, x, bad⟩ := m
        simp only at c1 hst hpl
        have zp := Str.size_mk p
        obtain ⟨s, hs0⟩ : ∃ s, s = sumB (L.take q) := ⟨_, rfl⟩
        have HST : Hid (sumB (L.take (q + 1)) = s + p.length) := Lib.hid (by omega)
        have hsb2 : s ≤ 14073748835123200 := by omega
        rw [← hs0]
        obtain ⟨pl, hpl0⟩ : ∃ pl, pl = p.length := ⟨_, rfl⟩
        rw [← hpl0] at zp HST hpl
        have v1 : IntKind.i64.wrap ((s : Int) + (pl : Int)) = (s : Int) + (pl : Int) := by rw [IntKind.wrap_i64]; omega
        have d1 : decide ((q : Int) < (L.length : Int)) = true := decide_eq_true (by omega)
        have d2 : decide ((q : Int) < 100) = true := decide_eq_true (by omega)
        have j1 : (0 : Int) ≤ (q : Int) := by omega
        have j2 : (q : Int) < (L.length : Int) := by omega
        clear hcell hm hst hs0 hpl0 hsb
        go_wp2
        go_round
        case rel => exact ⟨q + 1, by omega, by omega, by go_num, by rw [HST.out]; congr 1⟩
        case measure => simp [intOf]; omega
      · have d1 : decide ((q : Int) < (L.length : Int)) = true := decide_eq_true (by omega)
        have d2 : decide ((q : Int) < 100) = false := decide_eq_false (by omega)
        have d3 : decide ((L.length : Int) > 40) = true := decide_eq_true (by omega)
        have d4 : decide ((40 : Int) < (L.length : Int)) = true := decide_eq_true (by omega)
        have HV : Hid (heavyB L = true) := Lib.hid (by unfold heavyB; rw [decide_eq_true (show 40 < L.length by omega)]; rfl)
        clear hsb
        go_wp2
        go_ret
        exact ⟨by rw [HV.out]; rfl, rfl⟩
    · obtain rfl : q = L.length := by omega
      have d1 : decide ((L.length : Int) < (L.length : Int)) = false := decide_eq_false (by omega)
      rw [List.take_length] at hsb ⊢
      by_cases hbig : 40 < L.length
      · have d3 : decide ((L.length : Int) > 40) = true := decide_eq_true (by omega)
        have d4 : decide ((40 : Int) < (L.length : Int)) = true := decide_eq_true (by omega)
        have HV : Hid (heavyB L = true) := Lib.hid (by unfold heavyB; rw [decide_eq_true (show 40 < L.length by omega)]; rfl)
        clear hsb
        go_wp2
        go_ret
        exact ⟨by rw [HV.out]; rfl, rfl⟩
      · have d3 : decide ((L.length : Int) > 40) = false := decide_eq_false (by omega)
        have d4 : decide ((40 : Int) < (L.length : Int)) = false := decide_eq_false (by omega)
        have HV : Hid (heavyB L = decide (((sumB L : Nat) : Int) > 2048)) := Lib.hid (by
          unfold heavyB
          rw [decide_eq_false (show ¬ 40 < L.length by omega), Bool.false_or]
          congr 1
          apply propext; omega)
        obtain ⟨s, hs0⟩ : ∃ s, s = sumB L := ⟨_, rfl⟩
        rw [← hs0] at HV ⊢
        clear hsb hs0
        obtain ⟨r, hr⟩ : ∃ r, decide ((s : Int) > 2048) = r := ⟨_, rfl⟩
        have hr2 : decide ((2048 : Int) < (s : Int)) = r := hr
        rw [hr] at HV
        go_wp2
        go_ret
        exact ⟨by rw [HV.out]; rfl, rfl⟩
end Beat
end Go.Proofs.Ytfdcmmafdgagoaa
