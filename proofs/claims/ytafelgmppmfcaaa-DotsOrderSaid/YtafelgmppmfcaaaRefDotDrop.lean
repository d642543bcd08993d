/- the reference of dots: Drop, Set. -/
import Derived.Test.YtafelgmppmfcaaaRefDotClean
namespace Go.Proofs.Ytafelgmppmfcaaa
namespace RefDots
open Go.RowKit Go.Proofs.Ytafelgmppmfcaaa.Mark Go.Proofs.Ytafelgmppmfcaaa.Dots

theorem filter_snoc (f : M → Bool) (R : List M) (k : Nat) (h : k < R.length) : (R.take (k + 1)).filter f = (R.take k).filter f ++ (if f R[k] then [R[k]] else []) := by
  rw [List.take_succ_eq_append_getElem h, List.filter_append]
  congr 1
  cases hf : f R[k] with
  | true => rw [List.filter_cons_of_pos hf, if_pos rfl]; rfl
  | false => rw [List.filter_cons_of_neg (by rw [hf]; decide), if_neg (by decide)]; rfl

set_option maxRecDepth 100000 in
set_option maxHeartbeats 2000000 in
theorem drop_any (L : List M) (q : List UInt8) (a : Option Addr) (n c : Nat) (w : World) (hL : Lies w a n L) (hn : n ≤ 1099511627776) (hok : Ok L) :
    Calls Try.prog 22 #[.slice a n c, .string ⟨q.toArray⟩] w fun e w' => ∃ (v : Value) (J : List M), e = .returned v ∧ IsVec J (fun x => if x = q then 0 else ofL L x) ∧ J.length ≤ n ∧ Mark.Own w' w.heap.size v J ∧ Below w.heap.size w w' := by
  have C := Lib.hid (clean_any L a n c w hL hn hok)
  have h0 := Below.refl w.heap.size w
  clear hL hok
  go_enter Try.func22, Try.ntmps22
  go_wp2_with fail
  refine C.out.mono ?_
  rintro e w1 ⟨v1, R, rfl, hR, hRl, o1, k1⟩
  obtain ⟨aR, cR, rfl, _, _, lR, _⟩ := o1.lies
  have HR := Lib.hid hR
  have HL := Lib.hid lR
  have HK := Lib.hid k1
  have HN := Lib.hid hRl
  clear hR lR k1 C o1 hRl
  go_wp2_with fail
  go_loopw [5, 7] (fun ov iv wr => ∃ (k : Nat), k ≤ R.length ∧ iv = .int .i64 k ∧ Mark.Own wr w1.heap.size ov ((R.take k).filter fun m => !byQ q m) ∧ Below w1.heap.size w1 wr) (fun _ iv _ => R.length - (intOf iv).toNat)
  case atStart => exact ⟨0, by omega, rfl, Mark.Own.nil _ _, Below.refl _ _⟩
  case round =>
    obtain ⟨k, hk, rfl, hown, hb⟩ := hrel
    have hNn := HN.out
    obtain ⟨l, hl⟩ : ∃ l, l = R.length := ⟨_, rfl⟩
    rw [← hl] at hk hNn HL ⊢
    by_cases hlt : k < l
    · obtain ⟨b, off, rfl, hcell⟩ := (HL.out.below hb).2 (by omega)
      obtain ⟨c1, c2⟩ := hcell k (by omega)
      have hs := filter_snoc (fun m => !byQ q m) R k (by omega)
      have hfl : ((R.take k).filter fun m => !byQ q m).length ≤ k := Nat.le_trans (List.length_filter_le _ _) (by rw [List.length_take]; omega)
      obtain ⟨out, ho⟩ : ∃ out, out = (R.take k).filter fun m => !byQ q m := ⟨_, rfl⟩
      obtain ⟨m, hm⟩ : ∃ m, m = R[k]'(by omega) := ⟨_, rfl⟩
      rw [← hm] at c1 c2 hs
      rw [← ho] at hown hs hfl
      have b1 : (0 : Int) ≤ (k : Int) := by omega
      have b2 : (k : Int) < (l : Int) := by omega
      have hbs := hb.size
      have HL2 := Lib.hid hl
      by_cases he : m.p = q
      · have l1 : (m.p == q) = true := by rw [beq_iff_eq]; exact he
        have l2 : (m.p != q) = false := by rw [bne_eq_false_iff_eq]; exact he
        rw [show byQ q m = true by unfold byQ; exact decide_eq_true he, if_neg (by decide), List.append_nil] at hs
        have HS := Lib.hid hs
        clear hm ho hcell hs hl he
        go_wp2
        go_roundw
        case rel => exact ⟨k + 1, by omega, by go_num, by rw [HS.out]; exact hown, hb⟩
        case measure => simp [intOf]; omega
      · have l1 : (m.p == q) = false := by rw [beq_eq_false_iff_ne]; exact he
        have l2 : (m.p != q) = true := by rw [bne_iff_ne]; exact he
        rw [show byQ q m = false by unfold byQ; exact decide_eq_false he, if_pos (by decide)] at hs
        have HS := Lib.hid hs
        clear hm ho hcell hs hl he
        go_wp2_with (at_builtin; refine wpList_push rfl _ _ rfl w1.heap.size _ _ rfl (hown.alloc _) _ _ m rfl (cells2_new _ _ _ _) (by omega) (by simp; omega) ?_; intro v2 w2 o2 k2; have g2 := (balloc hb _).trans k2)
        go_roundw
        case rel => exact ⟨k + 1, by omega, by go_num, by rw [HS.out]; exact o2, g2⟩
        case measure => simp [intOf]; omega
    · obtain rfl : k = l := by omega
      rw [List.take_of_length_le (by omega)] at hown
      have hd : decide ((k : Int) < (k : Int)) = false := decide_eq_false (by omega)
      clear hl
      go_wp2
      go_ret
      exact ⟨_, _, rfl, filter_vec HR.out q, Nat.le_trans (List.length_filter_le _ _) HN.out, hown.base HK.out.size, HK.out.trans (hb.mono HK.out.size)⟩

set_option maxRecDepth 100000 in
set_option maxHeartbeats 2000000 in
theorem set_any (L : List M) (q : List UInt8) (x : Nat) (a : Option Addr) (n c : Nat) (w : World) (hL : Lies w a n L) (hn : n ≤ 549755813888) (hok : Ok L) :
    Calls Try.prog 20 #[.slice a n c, .string ⟨q.toArray⟩, .int .u64 (x : Nat)] w fun e w' => ∃ (v : Value) (J : List M), e = .returned v ∧ IsVec J (setF (ofL L) q x) ∧ J.length ≤ n + 1 ∧ Mark.Own w' w.heap.size v J ∧ Below w.heap.size w w' := by
  have C := Lib.hid (drop_any L q a n c w hL (by omega) hok)
  clear hL hok
  by_cases h1 : x = 0
  · have z : ((x : Int) == 0) = true := by rw [beq_iff_eq]; omega
    have HX := Lib.hid h1
    clear h1
    go_enter Try.func20, Try.ntmps20
    go_wp2_with fail
    refine C.out.mono ?_
    rintro e w1 ⟨v1, R, rfl, hR, hRl, o1, k1⟩
    go_wp2
    go_ret
    refine ⟨_, R, rfl, IsVec.congr hR (fun y => ?_), by omega, o1, k1⟩
    show (if y = q then 0 else ofL L y) = setF (ofL L) q x y
    unfold setF
    rw [HX.out]
    split
    · simp
    · rfl
  have z : ((x : Int) == 0) = false := by rw [beq_eq_false_iff_ne]; omega
  by_cases h2 : q = []
  · have y1 : q.isEmpty = true := by rw [h2]; rfl
    have y2 : (q == []) = true := by rw [h2]; rfl
    have HX := Lib.hid h2
    clear h1 h2
    go_enter Try.func20, Try.ntmps20
    go_wp2_with fail
    refine C.out.mono ?_
    rintro e w1 ⟨v1, R, rfl, hR, hRl, o1, k1⟩
    go_wp2
    go_ret
    refine ⟨_, R, rfl, IsVec.congr hR (fun y => ?_), by omega, o1, k1⟩
    show (if y = q then 0 else ofL L y) = setF (ofL L) q x y
    unfold setF
    rw [if_pos HX.out]
  · have y1 : q.isEmpty = false := by cases h : q with | nil => exact absurd h h2 | cons _ _ => rfl
    have y2 : (q == []) = false := by rw [beq_eq_false_iff_ne]; exact h2
    have HX := Lib.hid (And.intro h1 h2)
    clear h1 h2
    go_enter Try.func20, Try.ntmps20
    go_wp2_with fail
    refine C.out.mono ?_
    rintro e w1 ⟨v1, R, rfl, hR, hRl, o1, k1⟩
    obtain ⟨aR, cR, rfl, _, _, lR, _⟩ := o1.lies
    have HR := Lib.hid hR
    have P := Lib.hid (put_any ⟨q, x⟩ R aR R.length cR w1 lR (by omega))
    clear hR lR o1
    go_wp2_with fail
    refine P.out.mono ?_
    rintro e w2 ⟨v2, rfl, o2, k2⟩
    go_wp2
    go_ret
    refine ⟨_, _, rfl, IsVec.congr (put_vec HR.out ⟨q, x⟩ HX.out.2 (by have := HX.out.1; show 1 ≤ x; omega) (by show (if q = q then 0 else ofL L q) = 0; rw [if_pos rfl])) (fun y => ?_), by rw [putGo_len]; omega, o2.base k1.size, k1.trans (k2.mono k1.size)⟩
    show (if y = q then x else if y = q then 0 else ofL L y) = setF (ofL L) q x y
    unfold setF
    rw [if_neg HX.out.2]
    split <;> rfl


end RefDots
end Go.Proofs.Ytafelgmppmfcaaa
