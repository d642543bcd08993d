/- the laws' heavy. -/
import Derived.Test.YtcfimfoccbaepaaDoorMsgCopied
namespace Go.Proofs.YtcfimfoccbaepaaDoor
namespace Msg
open Go.RowKit Go.Proofs.YtcfimfoccbaepaaDoor.Mark Go.Proofs.YtcfimfoccbaepaaDoor.Num Go.Proofs.YtcfimfoccbaepaaDoor.Wire

def sumH (L : List M) : Nat := (L.map fun m => 10 + m.p.length).sum
theorem sumH_take (L : List M) (k : Nat) (h : k < L.length) : sumH (L.take (k + 1)) = sumH (L.take k) + (10 + L[k].p.length) := by
  unfold sumH
  rw [List.take_succ_eq_append_getElem h, List.map_append, List.sum_append]; simp
theorem sumH_bound : ∀ (L : List M), (∀ m ∈ L, m.p.length ≤ 281474976710656) → sumH L ≤ L.length * 281474976710666
  | [], _ => by simp [sumH]
  | m :: L, h => by
    have := sumH_bound L (fun x hx => h x (List.mem_cons_of_mem _ hx))
    have := h m (List.mem_cons_self ..)
    have e : sumH (m :: L) = 10 + m.p.length + sumH L := by unfold sumH; rw [List.map_cons, List.sum_cons]
    rw [e, List.length_cons]; omega
/-- Is a message more than a law looks at? -/
def heavyB (m : G) : Bool := decide (1000 < m.all.length) || decide (65536 < m.src.length + m.dst.length + m.fr.length + m.tx.length + sumH m.all)

set_option maxRecDepth 100000 in
set_option maxHeartbeats 4000000 in
theorem heavy_any (k : Nat) (src dst fr : List UInt8) (sq : Nat) (R : List M) (id : Nat) (ii nn : Int) (tx : List UInt8) (a : Option Addr) (c : Nat) (w : World) (hL : Lies w a R.length R)
    (hs : src.length + dst.length + fr.length + tx.length ≤ 1125899906842624) (hp : ∀ m ∈ R, m.p.length ≤ 281474976710656) :
    Calls Tryd.prog 8 #[.agg #[.int .u8 (k : Int), .string ⟨src.toArray⟩, .string ⟨dst.toArray⟩, .string ⟨fr.toArray⟩, .int .u64 (sq : Int), .slice a R.length c, .int .u64 (id : Int), .int .i64 ii, .int .i64 nn, .string ⟨tx.toArray⟩]] w fun e w' => e = .returned (.bool (heavyB ⟨k, src, dst, fr, sq, R, id, ii, nn, tx⟩)) ∧ Below w.heap.size w w' := by
  have hb := balloc (Below.refl w.heap.size w) (.cells #[.int .u8 (k : Int), .string ⟨src.toArray⟩, .string ⟨dst.toArray⟩, .string ⟨fr.toArray⟩, .int .u64 (sq : Int), .slice a R.length c, .int .u64 (id : Int), .int .i64 ii, .int .i64 nn, .string ⟨tx.toArray⟩] 27)
  have bx : Box (w.alloc (.cells #[.int .u8 (k : Int), .string ⟨src.toArray⟩, .string ⟨dst.toArray⟩, .string ⟨fr.toArray⟩, .int .u64 (sq : Int), .slice a R.length c, .int .u64 (id : Int), .int .i64 ii, .int .i64 nn, .string ⟨tx.toArray⟩] 27)) w.heap.size #[.int .u8 (k : Int), .string ⟨src.toArray⟩, .string ⟨dst.toArray⟩, .string ⟨fr.toArray⟩, .int .u64 (sq : Int), .slice a R.length c, .int .u64 (id : Int), .int .i64 ii, .int .i64 nn, .string ⟨tx.toArray⟩] := Box.new w _ _
  have HL := Lib.hid (hL.below (balloc (Below.refl w.heap.size w) (.cells #[.int .u8 (k : Int), .string ⟨src.toArray⟩, .string ⟨dst.toArray⟩, .string ⟨fr.toArray⟩, .int .u64 (sq : Int), .slice a R.length c, .int .u64 (id : Int), .int .i64 ii, .int .i64 nn, .string ⟨tx.toArray⟩] 27)))
  have HP := Lib.hid hp
  clear hL hp
  have z1 := Str.size_mk src
  have z2 := Str.size_mk dst
  have z3 := Str.size_mk fr
  have z4 := Str.size_mk tx
  obtain ⟨b0, hb0⟩ : ∃ b, b = src.length + dst.length + fr.length + tx.length := ⟨_, rfl⟩
  obtain ⟨s1, h1⟩ : ∃ s, s = src.length := ⟨_, rfl⟩
  obtain ⟨s2, h2⟩ : ∃ s, s = dst.length := ⟨_, rfl⟩
  obtain ⟨s3, h3⟩ : ∃ s, s = fr.length := ⟨_, rfl⟩
  obtain ⟨s4, h4⟩ : ∃ s, s = tx.length := ⟨_, rfl⟩
  have HB0 := Lib.hid hb0
  rw [← h1] at z1 hs hb0
  rw [← h2] at z2 hs hb0
  rw [← h3] at z3 hs hb0
  rw [← h4] at z4 hs hb0
  have w1 : IntKind.i64.wrap ((s1 : Int) + (s2 : Int)) = (s1 : Int) + (s2 : Int) := by rw [IntKind.wrap_i64]; omega
  have w2 : IntKind.i64.wrap ((s1 : Int) + (s2 : Int) + (s3 : Int)) = (s1 : Int) + (s2 : Int) + (s3 : Int) := by rw [IntKind.wrap_i64]; omega
  have w3 : IntKind.i64.wrap ((s1 : Int) + (s2 : Int) + (s3 : Int) + (s4 : Int)) = (b0 : Int) := by rw [IntKind.wrap_i64]; omega
  have hb0s : b0 ≤ 1125899906842624 := by omega
  clear h1 h2 h3 h4 hb0 hs
  go_enter Tryd.func8, Tryd.ntmps8
  have x0 := bx 0 (.int .u8 (k : Int)) rfl
  have x1 := bx 1 (.string ⟨src.toArray⟩) rfl
  have x2 := bx 2 (.string ⟨dst.toArray⟩) rfl
  have x3 := bx 3 (.string ⟨fr.toArray⟩) rfl
  have x4 := bx 4 (.int .u64 (sq : Int)) rfl
  have x5 := bx 5 (.slice a R.length c) rfl
  have x6 := bx 6 (.int .u64 (id : Int)) rfl
  have x7 := bx 7 (.int .i64 ii) rfl
  have x8 := bx 8 (.int .i64 nn) rfl
  have x9 := bx 9 (.string ⟨tx.toArray⟩) rfl
  clear bx
  go_wp2_with fail
  go_loop [3, 4] (fun nv iv => ∃ q : Nat, q ≤ R.length ∧ q ≤ 2000 ∧ iv = .int .i64 q ∧ nv = .int .i64 ((b0 + sumH (R.take q) : Nat) : Int)) (fun _ iv => 2000 - (intOf iv).toNat)
  case atStart => exact ⟨0, by omega, by omega, rfl, by simp [sumH]⟩
  case round =>
    obtain ⟨q, hq, hq2, rfl, rfl⟩ := hrel
    have hsb := sumH_bound (R.take q) (fun m hm => HP.out m (List.mem_of_mem_take hm))
    rw [List.length_take, Nat.min_eq_left hq] at hsb
    by_cases hlt : q < R.length
    · by_cases hlt2 : q < 2000
      · obtain ⟨b, off, rfl, hcell⟩ := HL.out.2 (by omega)
        obtain ⟨c1, c2⟩ := hcell q (by omega)
        have hst := sumH_take R q hlt
        obtain ⟨m, hm⟩ : ∃ m, m = R[q] := ⟨_, rfl⟩
        have hpl := HP.out m (by rw [hm]; exact List.getElem_mem _)
        rw [← hm] at c1 c2 hst
        obtain ⟨p, x⟩ := m
        simp only at c1 c2 hst hpl
        have zp := Str.size_mk p
        obtain ⟨s, hs0⟩ : ∃ s, s = b0 + sumH (R.take q) := ⟨_, rfl⟩
        have HST : Hid (b0 + sumH (R.take (q + 1)) = s + (10 + p.length)) := Lib.hid (by omega)
        have hsb2 : s ≤ 1125899906842624 + 562949953421332000 := by omega
        rw [← hs0]
        obtain ⟨pl, hpl0⟩ : ∃ pl, pl = p.length := ⟨_, rfl⟩
        rw [← hpl0] at zp HST hpl
        have v1 : IntKind.i64.wrap ((s : Int) + 10) = (s : Int) + 10 := by rw [IntKind.wrap_i64]; omega
        have v2 : IntKind.i64.wrap ((s : Int) + 10 + (pl : Int)) = (s : Int) + 10 + (pl : Int) := by rw [IntKind.wrap_i64]; omega
        have d1 : decide ((q : Int) < (R.length : Int)) = true := decide_eq_true (by omega)
        have d2 : decide ((q : Int) < 2000) = true := decide_eq_true (by omega)
        have j1 : (0 : Int) ≤ (q : Int) := by omega
        have j2 : (q : Int) < (R.length : Int) := by omega
        clear hcell hm hst hs0 hpl0 hsb
        go_wp2
        go_round
        case rel => exact ⟨q + 1, by omega, by omega, by go_num, by rw [HST.out]; congr 1; omega⟩
        case measure => simp [intOf]; omega
      · have d1 : decide ((q : Int) < (R.length : Int)) = true := decide_eq_true (by omega)
        have d2 : decide ((q : Int) < 2000) = false := decide_eq_false (by omega)
        have d3 : decide ((R.length : Int) > 1000) = true := decide_eq_true (by omega)
        have d4 : decide ((1000 : Int) < (R.length : Int)) = true := decide_eq_true (by omega)
        have HV : Hid (heavyB ⟨k, src, dst, fr, sq, R, id, ii, nn, tx⟩ = true) := Lib.hid (by unfold heavyB; rw [decide_eq_true (show 1000 < R.length by omega)]; rfl)
        clear hsb
        go_wp2
        go_ret
        exact ⟨by rw [HV.out]; rfl, hb⟩
    · obtain rfl : q = R.length := by omega
      have d1 : decide ((R.length : Int) < (R.length : Int)) = false := decide_eq_false (by omega)
      rw [List.take_length] at hsb ⊢
      by_cases hbig : 1000 < R.length
      · have d3 : decide ((R.length : Int) > 1000) = true := decide_eq_true (by omega)
        have d4 : decide ((1000 : Int) < (R.length : Int)) = true := decide_eq_true (by omega)
        have HV : Hid (heavyB ⟨k, src, dst, fr, sq, R, id, ii, nn, tx⟩ = true) := Lib.hid (by unfold heavyB; rw [decide_eq_true (show 1000 < R.length by omega)]; rfl)
        clear hsb
        go_wp2
        go_ret
        exact ⟨by rw [HV.out]; rfl, hb⟩
      · have d3 : decide ((R.length : Int) > 1000) = false := decide_eq_false (by omega)
        have d4 : decide ((1000 : Int) < (R.length : Int)) = false := decide_eq_false (by omega)
        have HV : Hid (heavyB ⟨k, src, dst, fr, sq, R, id, ii, nn, tx⟩ = decide (((b0 + sumH R : Nat) : Int) > 65536)) := Lib.hid (by
          unfold heavyB
          simp only
          rw [decide_eq_false (show ¬ 1000 < R.length by omega), ← HB0.out, Bool.false_or]
          congr 1
          apply propext; omega)
        obtain ⟨s, hs0⟩ : ∃ s, s = b0 + sumH R := ⟨_, rfl⟩
        rw [← hs0] at HV ⊢
        clear hsb hs0
        obtain ⟨r, hr⟩ : ∃ r, decide ((s : Int) > 65536) = r := ⟨_, rfl⟩
        have hr2 : decide ((65536 : Int) < (s : Int)) = r := hr
        rw [hr] at HV
        go_wp2
        go_ret
        exact ⟨by rw [HV.out]; rfl, hb⟩

end Msg
end Go.Proofs.YtcfimfoccbaepaaDoor
