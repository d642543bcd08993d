/- The document's May, Deep, Child, Number, Write, Parent, Chain, Under. -/
import Derived.Test.YtagpbhghmhamdaaDoorRefPathRead
import Derived.Test.YtagpbhghmhamdaaDoorPathChain
import Derived.Test.YtagpbhghmhamdaaDoorPathChild
import Derived.Test.YtagpbhghmhamdaaDoorPathTreePlain
namespace Go.Proofs.YtagpbhghmhamdaaDoor
namespace RefPath
open Go.RowKit Go.Proofs.YtagpbhghmhamdaaDoor.Path

set_option maxRecDepth 100000 in
set_option maxHeartbeats 1000000 in
theorem may_any (p : List UInt8) (w : World) (hp : p.length ≤ 1099511627776) :
    Calls Tryd.prog 11 #[.string ⟨p.toArray⟩] w fun e w' => e = .returned (.bool (decide (parse p ≠ []))) ∧ Below w.heap.size w w' := by
  have C := Lib.hid (fun w => read_any p w hp)
  go_enter Tryd.func11, Tryd.ntmps11
  go_wp2_with fail
  refine (C.out _).mono ?_
  rintro e w1 ⟨a, n, c, b, rfl, hbv, hr, hb⟩
  have HB := Lib.hid hbv
  clear hr hbv
  go_wp2
  go_ret
  exact ⟨by rw [← HB.out]; rfl, hb⟩
  
set_option maxRecDepth 100000 in
set_option maxHeartbeats 1000000 in
theorem deep_any (p : List UInt8) (w : World) (hp : p.length ≤ 1099511627776) :
    Calls Tryd.prog 13 #[.string ⟨p.toArray⟩] w fun e w' => e = .returned (.int .i64 ((parse p).length : Nat)) ∧ Below w.heap.size w w' := by
  have C := Lib.hid (fun w => read_any p w hp)
  have H := Lib.hid (Classical.em (parse p = []))
  go_enter Tryd.func13, Tryd.ntmps13
  go_wp2_with fail
  refine (C.out _).mono ?_
  rintro e w1 ⟨a, n, c, b, rfl, hbv, hr, hb⟩
  rcases H.out with h | h
  · have hv := Lib.hid (show (parse p).length = 0 by rw [h]; rfl)
    obtain rfl : b = false := by rw [hbv, h]; rfl
    clear hbv hr h
    go_wp2
    go_ret
    exact ⟨by rw [hv.out]; rfl, hb⟩
  · obtain rfl : b = true := by rw [hbv]; exact decide_eq_true h
    obtain ⟨hn, hnc, g, rfl, hc⟩ := hr h
    have HN := Lib.hid hn
    clear hbv hr h hn hc
    go_wp2
    go_ret
    exact ⟨by rw [← HN.out]; rfl, hb⟩
  
set_option maxRecDepth 100000 in
set_option maxHeartbeats 1000000 in
theorem child_any (p : List UInt8) (n : Int) (w : World) (hp : p.length ≤ 1099511627776) :
    Calls Tryd.prog 9 #[.string ⟨p.toArray⟩, .int .i64 n] w fun e w' => e = .returned (.tuple #[.string ⟨(childT p n).1.toArray⟩, .int .i64 (childT p n).2]) ∧ Below w.heap.size w w' := by
  have C := Lib.hid (fun w => read_any p w hp)
  have HT := Lib.hid (show childT p n = _ from rfl)
  unfold childT at HT
  have h8 := parse_length p
  have hsp := Str.size_mk p
  by_cases h : parse p = []
  · have hv : childT p n = ([], 100) := by rw [childT, if_pos h]
    have HV := Lib.hid hv
    have H := Lib.hid h
    clear hv h HT h8
    go_enter Tryd.func9, Tryd.ntmps9
    go_wp2_with fail
    refine (C.out _).mono ?_
    rintro e w1 ⟨a, m, c, b, rfl, hbv, hr, hb⟩
    obtain rfl : b = false := by rw [hbv, H.out]; rfl
    clear hbv hr
    go_wp2
    go_ret2
    exact ⟨by rw [HV.out]; rfl, hb⟩
  obtain ⟨d, hd⟩ : ∃ d, d = (parse p).length := ⟨_, rfl⟩
  have H := Lib.hid h
  have HD := Lib.hid hd
  by_cases h1 : n < 1 ∨ 1073741824 < n
  · have hv : childT p n = ([], 2) := by rw [childT, if_neg h, if_pos h1]
    have HV := Lib.hid hv
    clear hv h HT h8 hd
    rcases h1 with h1 | h1
    · have x : decide (n < 1) = true := decide_eq_true (by omega)
      go_enter Tryd.func9, Tryd.ntmps9
      go_wp2_with fail
      refine (C.out _).mono ?_
      rintro e w1 ⟨a, m, c, b, rfl, hbv, hr, hb⟩
      obtain rfl : b = true := by rw [hbv]; exact decide_eq_true H.out
      obtain ⟨hm, hmc, g, rfl, hc⟩ := hr H.out
      obtain rfl : m = d := by rw [hm, HD.out]
      clear hbv hr hm hc
      go_wp2
      go_ret2
      exact ⟨by rw [HV.out]; rfl, hb⟩
    · have x : decide (n < 1) = false := decide_eq_false (by omega)
      have y : decide (n > 1073741824) = true := decide_eq_true (by omega)
      have y' : decide (1073741824 < n) = true := decide_eq_true (by omega)
      go_enter Tryd.func9, Tryd.ntmps9
      go_wp2_with fail
      refine (C.out _).mono ?_
      rintro e w1 ⟨a, m, c, b, rfl, hbv, hr, hb⟩
      obtain rfl : b = true := by rw [hbv]; exact decide_eq_true H.out
      obtain ⟨hm, hmc, g, rfl, hc⟩ := hr H.out
      obtain rfl : m = d := by rw [hm, HD.out]
      clear hbv hr hm hc
      go_wp2
      go_ret2
      exact ⟨by rw [HV.out]; rfl, hb⟩
  have x : decide (n < 1) = false := decide_eq_false (by omega)
  have y : decide (n > 1073741824) = false := decide_eq_false (by omega)
  have y' : decide (1073741824 < n) = false := decide_eq_false (by omega)
  by_cases h2 : d = 8
  · have hv : childT p n = ([], 6) := by rw [childT, if_neg h, if_neg h1, if_pos (by rw [← hd]; exact h2)]
    have HV := Lib.hid hv
    have z : ((d : Int) == 8) = true := by rw [beq_iff_eq]; omega
    clear hv h HT h8 hd h2
    go_enter Tryd.func9, Tryd.ntmps9
    go_wp2_with fail
    refine (C.out _).mono ?_
    rintro e w1 ⟨a, m, c, b, rfl, hbv, hr, hb⟩
    obtain rfl : b = true := by rw [hbv]; exact decide_eq_true H.out
    obtain ⟨hm, hmc, g, rfl, hc⟩ := hr H.out
    obtain rfl : m = d := by rw [hm, HD.out]
    clear hbv hr hm hc
    go_wp2
    go_ret2
    exact ⟨by rw [HV.out]; rfl, hb⟩
  have hv : childT p n = (p ++ 46 :: Lib.decDigits n.toNat, 0) := by rw [childT, if_neg h, if_neg h1, if_neg (by rw [← hd]; exact h2)]
  have HV := Lib.hid hv
  have z : ((d : Int) == 8) = false := by rw [beq_eq_false_iff_ne]; omega
  obtain ⟨k, rfl⟩ : ∃ k : Nat, n = (k : Int) := ⟨n.toNat, by omega⟩
  have NU := Lib.hid (fun w => num_any k w (by omega))
  have hl := digits_len 13 k (by decide) (by omega)
  obtain ⟨t, ht⟩ : ∃ t, t = Lib.decDigits k := ⟨_, rfl⟩
  rw [← ht] at NU hl
  have HTT := Lib.hid ht
  have hst := Str.size_mk t
  clear hv h HT h8 hd h2 ht
  go_enter Tryd.func9, Tryd.ntmps9
  go_wp2_with fail
  refine (C.out _).mono ?_
  rintro e w1 ⟨a, m, c, b, rfl, hbv, hr, hb⟩
  obtain rfl : b = true := by rw [hbv]; exact decide_eq_true H.out
  obtain ⟨hm, hmc, g, rfl, hc⟩ := hr H.out
  obtain rfl : m = d := by rw [hm, HD.out]
  clear hbv hr hm hc
  go_wp2_with fail
  refine (NU.out _).mono ?_
  rintro e w2 ⟨rfl, k2⟩
  have hb2 := bstep hb k2
  clear k2
  have hsa := Str.size_mk (p ++ [46])
  rw [List.length_append] at hsa
  simp only [List.length_singleton] at hsa
  go_wp2
  go_ret2
  exact ⟨by rw [HV.out, Int.toNat_natCast, ← HTT.out, show p ++ 46 :: t = (p ++ [46]) ++ t by simp, ← Str.mk_append_mk, ← Str.mk_append_mk]; rfl, hb2⟩
  
set_option maxRecDepth 100000 in
set_option maxHeartbeats 1000000 in
theorem number_any (p : List UInt8) (w : World) (hp : p.length ≤ 1099511627776) :
    Calls Tryd.prog 17 #[.string ⟨p.toArray⟩] w fun e w' => e = .returned (.int .i64 ((last (parse p) : Nat) : Int)) ∧ Below w.heap.size w w' := by
  have C := Lib.hid (fun w => read_any p w hp)
  have h8 := parse_length p
  by_cases h : parse p = []
  · have hv := Lib.hid (show last (parse p) = 0 by rw [h]; rfl)
    have H := Lib.hid h
    clear h h8
    go_enter Tryd.func17, Tryd.ntmps17
    go_wp2_with fail
    refine (C.out _).mono ?_
    rintro e w1 ⟨a, n, c, b, rfl, hbv, hr, hb⟩
    obtain rfl : b = false := by rw [hbv, H.out]; rfl
    clear hbv hr
    go_wp2
    go_ret
    exact ⟨by rw [hv.out]; rfl, hb⟩
  have hpos := List.length_pos_iff.2 h
  obtain ⟨d, hd⟩ : ∃ d, d = (parse p).length := ⟨_, rfl⟩
  rw [← hd] at hpos h8
  have H := Lib.hid h
  have HD := Lib.hid hd
  by_cases h1 : d = 1
  · have hv := Lib.hid (show last (parse p) = 0 by rw [last, if_pos (by omega)])
    have z : ((d : Int) == 1) = true := by rw [beq_iff_eq]; omega
    clear h hd h1
    go_enter Tryd.func17, Tryd.ntmps17
    go_wp2_with fail
    refine (C.out _).mono ?_
    rintro e w1 ⟨a, n, c, b, rfl, hbv, hr, hb⟩
    obtain rfl : b = true := by rw [hbv]; exact decide_eq_true H.out
    obtain ⟨hm, hmc, g, rfl, hc⟩ := hr H.out
    obtain rfl : n = d := by rw [hm, HD.out]
    clear hbv hr hm hc
    go_wp2
    go_ret
    exact ⟨by rw [hv.out]; rfl, hb⟩
  · have hv := Lib.hid (show last (parse p) = (parse p).getD (d - 1) 0 by rw [last, if_neg (by omega), hd])
    have z : ((d : Int) == 1) = false := by rw [beq_eq_false_iff_ne]; omega
    obtain ⟨j, rfl⟩ : ∃ j, d = j + 1 := ⟨d - 1, by omega⟩
    clear h hd h1
    have hw : IntKind.i64.wrap (((j + 1 : Nat) : Int) - 1) = (j : Int) := by rw [IntKind.wrap_i64]; omega
    go_enter Tryd.func17, Tryd.ntmps17
    go_wp2_with fail
    refine (C.out _).mono ?_
    rintro e w1 ⟨a, n, c, b, rfl, hbv, hr, hb⟩
    obtain rfl : b = true := by rw [hbv]; exact decide_eq_true H.out
    obtain ⟨hm, hmc, g, rfl, hc⟩ := hr H.out
    obtain rfl : n = j + 1 := by rw [hm, HD.out]
    clear hbv hr hm
    have hcell := hc j (by have := HD.out; omega)
    obtain ⟨x, hx⟩ : ∃ x, x = (parse p).getD j 0 := ⟨_, rfl⟩
    rw [← hx] at hcell
    have HX := Lib.hid hx
    clear hc hx
    go_wp2
    go_ret
    exact ⟨by rw [hv.out, Nat.add_sub_cancel, ← HX.out]; rfl, hb⟩
    
theorem write_len11 : ∀ r : List Nat, (∀ x ∈ r, x ≤ 1073741824) → (write r).length ≤ 11 * r.length
  | [], _ => by simp [write]
  | [x], h => by
    have hx := digits_len 10 x (by decide) (by have := h x (List.mem_cons_self ..); omega)
    rw [write]; simp; omega
  | x :: y :: s, h => by
    have hx := digits_len 10 x (by decide) (by have := h x (List.mem_cons_self ..); omega)
    have := write_len11 (y :: s) (fun z hz => h z (List.mem_cons_of_mem _ hz))
    rw [write, List.length_append, List.length_cons]
    simp only [List.length_cons] at this ⊢
    omega
/-- What has been written behind k rounds, and what comes next. -/
theorem write_next (l : List Nat) (k : Nat) (h : k < l.length) : write (l.take (k + 1)) = (if k = 0 then [] else write (l.take k) ++ [46]) ++ Lib.decDigits (l.getD k 0) := by
  rw [List.take_succ_eq_append_getElem h]
  have hg : l.getD k 0 = l[k] := by simp [h]
  rw [hg]
  by_cases hk : k = 0
  · subst hk; rw [if_pos rfl]; rfl
  · rw [if_neg hk, write_snoc _ _ (by intro e; have := congrArg List.length e; rw [List.length_take, List.length_nil] at this; omega)]; simp

set_option maxRecDepth 100000 in
set_option maxHeartbeats 1000000 in
theorem write_any (l : List Nat) (a : Option Addr) (n c : Nat) (w : World) (hn : n = l.length) (h8 : l.length ≤ 8) (hx : ∀ x ∈ l, x ≤ 1073741824) (hc : 0 < n → ∃ g, a = some ⟨g, 0, none⟩ ∧ Ints w g l) :
    Calls Tryd.prog 30 #[.slice a n c] w fun e w' => e = .returned (.string ⟨(write l).toArray⟩) ∧ Below w.heap.size w w' := by
  have HN := Lib.hid hn
  have HX := Lib.hid hx
  have HC := Lib.hid hc
  have hn8 : n ≤ 8 := by omega
  clear hn hx hc
  go_enter Tryd.func30, Tryd.ntmps30
  go_wp2_with fail
  go_loopw [3, 4] (fun sv iv wr => ∃ k : Nat, k ≤ n ∧ iv = .int .i64 k ∧ sv = .string ⟨(write (l.take k)).toArray⟩ ∧ Below w.heap.size w wr) (fun _ iv _ => n - (intOf iv).toNat)
  case atStart => exact ⟨0, by omega, rfl, rfl, Below.refl _ _⟩
  case round =>
    obtain ⟨k, hk, rfl, rfl, hb⟩ := hrel
    have hn := HN.out
    by_cases hlt : k < n
    · obtain ⟨g, rfl, hi⟩ := HC.out (by omega)
      have hcell := (hi.below hb) k (by omega)
      have hnext := write_next l k (by omega)
      have hxl := HX.out (l.getD k 0) (by rw [List.getD_eq_getElem?_getD, List.getElem?_eq_getElem (by omega)]; exact List.getElem_mem _)
      have hlen := write_len11 (l.take k) (fun x hx => HX.out x (List.mem_of_mem_take hx))
      rw [List.length_take] at hlen
      obtain ⟨x, hx⟩ : ∃ x, x = l.getD k 0 := ⟨_, rfl⟩
      rw [← hx] at hcell hxl hnext
      have hdl := digits_len 13 x (by decide) (by omega)
      have NU := Lib.hid (fun w => num_any x w (by omega))
      obtain ⟨t, ht⟩ : ∃ t, t = Lib.decDigits x := ⟨_, rfl⟩
      rw [← ht] at NU hdl hnext
      obtain ⟨s, hs⟩ : ∃ s, s = write (l.take k) := ⟨_, rfl⟩
      rw [← hs] at hlen hnext ⊢
      have hst := Str.size_mk t
      have hss := Str.size_mk s
      have hs2 := Str.size_mk (s ++ [46])
      rw [List.length_append, List.length_singleton] at hs2
      have hd : decide ((k : Int) < (n : Int)) = true := decide_eq_true (by omega)
      have hsl : s.length ≤ 88 := by omega
      have HNX := Lib.hid hnext
      have HS := Lib.hid hs
      clear hn hi hx ht hs hnext hlen
      by_cases hk0 : 0 < k
      · have z : decide ((k : Int) > 0) = true := decide_eq_true (by omega)
        have z' : decide ((0 : Int) < (k : Int)) = true := decide_eq_true (by omega)
        go_wp2_with fail
        refine (NU.out _).mono ?_
        rintro e w2 ⟨rfl, k2⟩
        have hb2 := bstep hb k2
        clear k2
        go_wp2
        go_roundw
        case rel => exact ⟨k + 1, by omega, by go_num, by rw [HNX.out, if_neg (by omega), ← Str.mk_append_mk, ← Str.mk_append_mk], hb2⟩
        case measure => simp [intOf]; omega
      · have z : decide ((k : Int) > 0) = false := decide_eq_false (by omega)
        have z' : decide ((0 : Int) < (k : Int)) = false := decide_eq_false (by omega)
        obtain rfl : k = 0 := by omega
        have hs0 : s = [] := HS.out
        subst hs0
        go_wp2_with fail
        refine (NU.out _).mono ?_
        rintro e w2 ⟨rfl, k2⟩
        have hb2 := bstep hb k2
        clear k2
        go_wp2
        go_roundw
        case rel => exact ⟨1, by omega, rfl, by rw [HNX.out]; exact congrArg Value.string (Str.mk_append_mk [] t), hb2⟩
        case measure => simp [intOf]; omega
    · obtain rfl : k = n := by omega
      have hv : l.take k = l := List.take_of_length_le (by omega)
      have HV := Lib.hid hv
      have hd : decide ((k : Int) < (k : Int)) = false := decide_eq_false (by omega)
      clear hn hv
      go_wp2
      go_ret
      exact ⟨by rw [HV.out]; rfl, hb⟩
    
set_option maxRecDepth 100000 in
set_option maxHeartbeats 1000000 in
theorem parent_any (p : List UInt8) (w : World) (hp : p.length ≤ 1099511627776) :
    Calls Tryd.prog 15 #[.string ⟨p.toArray⟩] w fun e w' => e = .returned (.string ⟨(parentL p).toArray⟩) ∧ Below w.heap.size w w' := by
  have C := Lib.hid (fun w => read_any p w hp)
  have h8 := parse_length p
  by_cases h : parse p = []
  · have hv := Lib.hid (show parentL p = [] by rw [parentL, h]; rfl)
    have H := Lib.hid h
    clear h h8
    go_enter Tryd.func15, Tryd.ntmps15
    go_wp2_with fail
    refine (C.out _).mono ?_
    rintro e w1 ⟨a, n, c, b, rfl, hbv, hr, hb⟩
    obtain rfl : b = false := by rw [hbv, H.out]; rfl
    clear hbv hr
    go_wp2
    go_ret
    exact ⟨by rw [hv.out]; rfl, hb⟩
  have hpos := List.length_pos_iff.2 h
  have hpm := parse_mem p
  obtain ⟨d, hd⟩ : ∃ d, d = (parse p).length := ⟨_, rfl⟩
  have hv : parentL p = write ((parse p).take (d - 1)) := by
    rw [parentL]
    split
    · rw [show d - 1 = 0 by omega]; rfl
    · rw [List.dropLast_eq_take, ← hd]
  have W := Lib.hid (fun (a : Option Addr) (c : Nat) (w : World) (hc : 0 < d - 1 → ∃ g, a = some ⟨g, 0, none⟩ ∧ Ints w g ((parse p).take (d - 1))) => write_any ((parse p).take (d - 1)) a (d - 1) c w (by rw [List.length_take]; omega) (by rw [List.length_take]; omega) (fun x hx => (hpm x (List.mem_of_mem_take hx)).2) hc)
  obtain ⟨j, rfl⟩ : ∃ j, d = j + 1 := ⟨d - 1, by omega⟩
  rw [Nat.add_sub_cancel] at W hv
  rw [← hd] at h8
  have H := Lib.hid h
  have HD := Lib.hid hd
  have HV := Lib.hid hv
  clear h hd hv hpos hpm
  have hw : IntKind.i64.wrap (((j + 1 : Nat) : Int) - 1) = (j : Int) := by rw [IntKind.wrap_i64]; omega
  go_enter Tryd.func15, Tryd.ntmps15
  go_wp2_with fail
  refine (C.out _).mono ?_
  rintro e w1 ⟨a, n, c, b, rfl, hbv, hr, hb⟩
  obtain rfl : b = true := by rw [hbv]; exact decide_eq_true H.out
  obtain ⟨hm, hmc, g, rfl, hc⟩ := hr H.out
  obtain rfl : n = j + 1 := by rw [hm, HD.out]
  have HC := Lib.hid hc
  clear hbv hr hm hc
  go_wp2_with fail
  refine (W.out _ _ _ (fun _ => ⟨g, rfl, fun i hi => ?_⟩)).mono ?_
  · have hl := HC.out i (by rw [List.length_take] at hi; omega)
    rw [hl]
    rw [List.length_take] at hi
    rw [List.getD_eq_getElem?_getD, List.getD_eq_getElem?_getD, List.getElem?_take_of_lt (by omega)]
  rintro e w2 ⟨rfl, k2⟩
  have hb2 := bstep hb k2
  go_wp2
  go_ret
  exact ⟨by rw [HV.out]; rfl, hb2⟩
  
set_option maxRecDepth 100000 in
set_option maxHeartbeats 2000000 in
theorem chain_any (p : List UInt8) (w : World) (hp : p.length ≤ 1099511627776) :
    Calls Tryd.prog 22 #[.string ⟨p.toArray⟩] w (ChainPost (ups 8 (parse p)) w) := by
  obtain ⟨i0, hi, hz0, hz1, hz2⟩ := info_parts info_str
  have C := Lib.hid (fun w => parent_any p w hp)
  have hstart : ∃ cur, parentL p = write cur ∧ (cur = [] ∨ Valid cur) ∧ rest 7 cur = ups 8 (parse p) ∧ cur.length ≤ 8 := by
    by_cases h2 : (parse p).length < 2
    · exact ⟨[], by rw [parentL, if_pos h2]; rfl, .inl rfl, by rw [rest, if_pos rfl, ups, if_pos h2], by simp⟩
    · have hv := (parse_valid p (by intro e; rw [e] at h2; simp at h2)).dropLast (by omega)
      exact ⟨(parse p).dropLast, by rw [parentL, if_neg h2], .inr hv, by rw [rest, if_neg hv.ne, ups_step (n := 7) h2], hv.2.1⟩
  obtain ⟨cur0, e0, hv0, hr0, hl0⟩ := hstart
  rw [e0] at C
  have HR := Lib.hid hr0
  have hL8 := ups_length 8 (parse p)
  obtain ⟨L, hL⟩ : ∃ L, L = ups 8 (parse p) := ⟨_, rfl⟩
  rw [← hL] at HR hL8
  rw [← hL]
  clear e0 hr0 hL
  go_enter Tryd.func22, Tryd.ntmps22
  go_wp2_with fail
  refine (C.out _).mono ?_
  rintro e w1 ⟨rfl, hb1⟩
  go_wp2_with fail
  go_loopw [0, 3] (fun sv v wr => ∃ (dn : List (List Nat)) (cur : List Nat) (n : Nat), sv = .string ⟨(write cur).toArray⟩ ∧ (cur = [] ∨ Valid cur) ∧ Hid (dn ++ rest n cur = L) ∧ cur.length ≤ n + 1 ∧ wr.ownsRow w.heap.size 9 1 v dn.length (strs dn) ∧ Below w.heap.size w wr) (fun sv _ _ => match sv with | .string t => t.size | _ => 0)
  case atStart => exact ⟨[], cur0, 7, rfl, hv0, HR, by omega, World.ownsRow_nil _ _ _ _, hb1⟩
  case round =>
    obtain ⟨dn, cur, n, rfl, hv, HI, hcn, hown, hb⟩ := hrel
    have hbs := hb.size
    rcases hv with rfl | hv
    · have hi := HI.out
      rw [rest, if_pos rfl, List.append_nil] at hi
      subst hi
      clear HI
      go_wp2
      go_ret
      exact ⟨_, rfl, hown, hb⟩
    · have hw0 := write_ne hv
      have hwl := write_len cur hv
      have hpw := parent_write cur hv
      have hi := HI.out
      rw [rest, if_neg hv.ne] at hi
      have hdl : dn.length + 1 ≤ 8 := by
        have := congrArg List.length hi
        simp only [List.length_append, List.length_cons] at this
        omega
      have C2 := Lib.hid (fun w => parent_any (write cur) w hwl)
      rw [hpw] at C2
      have HIN := Lib.hid hi
      have hcl := Str.size_mk (write cur)
      obtain ⟨ws, hws⟩ : ∃ ws, ws = write cur := ⟨_, rfl⟩
      have hemp : ws ≠ [] := by rw [hws]; exact hw0
      rw [← hws] at C2
      have hfact : (!ws.isEmpty) = true := by cases ws with | nil => exact absurd rfl hemp | cons _ _ => rfl
      have HWS := Lib.hid hws
      rw [← hws] at hcl
      rw [← hws]
      clear hws hpw hi HI hw0
      have hbs' := hbs
      go_wp2_with (at_builtin; refine wpList_append_own _ rfl _ _ 33 rfl w.heap.size 9 i0 (.string ⟨#[]⟩) 1 16 Tryd.underlying33 hi hz0 hz1 hz2 rfl (by decide) _ _ _ rfl (hown.alloc _) ⟨wr.heap.size, 0, none⟩ 1 1 [.string ⟨ws.toArray⟩] rfl rfl (cell_one_new _ _ _) (by simp [Value.oneCell']) (by unfold maxLen; omega) (by omega) (by simp; omega) ?_; intro v' w1 hown' hgrow _)
      have hb1 : Below w.heap.size w w1 := Below.grown (hb.alloc hbs _) hgrow (by simp; omega) (fun j hj => (hown.lt _ hj).1)
      go_wp2_with fail
      refine (C2.out _).mono ?_
      rintro e w3 ⟨rfl, b3⟩
      have hb3 := bstep hb1 b3
      have hown3 := hown'.kept (row := none) ⟨b3.os, b3.tape, b3.output, b3.size, fun k hk _ => b3.block k hk⟩ (Classical.em _)
      rw [HWS.out, strs_snoc] at hown3
      go_wp2
      go_roundw
      case rel =>
        refine ⟨dn ++ [cur], if cur.length < 2 then [] else cur.dropLast, n - 1, rfl, ?_, Lib.hid ?_, ?_, by simpa using hown3, hb3⟩
        · by_cases h2 : cur.length < 2
          · rw [if_pos h2]; exact .inl rfl
          · rw [if_neg h2]; exact .inr (hv.dropLast (by omega))
        · rw [← HIN.out, List.append_assoc]
          congr 1
          by_cases h2 : cur.length < 2
          · rw [if_pos h2, rest, if_pos rfl]
            cases n with
            | zero => rfl
            | succ n => rw [ups, if_pos h2]; rfl
          · rw [if_neg h2, rest, if_neg (hv.dropLast (by omega)).ne]
            obtain ⟨k, rfl⟩ : ∃ k, n = k + 1 := ⟨n - 1, by omega⟩
            rw [ups_step h2]; rfl
        · split
          · simp
          · rw [List.length_dropLast]; omega
      case measure =>
        have h := write_lt cur hv
        rw [HWS.out]
        show (ByteArray.size _) < ByteArray.size _
        rw [Str.size_mk, Str.size_mk]
        exact h

set_option maxRecDepth 100000 in
set_option maxHeartbeats 1000000 in
theorem under_any (p a : List UInt8) (w : World) (hp : p.length ≤ 1099511627776) :
    Calls Tryd.prog 19 #[.string ⟨p.toArray⟩, .string ⟨a.toArray⟩] w fun e w' => e = .returned (.bool (under (parse p) (parse a))) ∧ Below w.heap.size w w' := by
  have C := Lib.hid (fun w => chain_any p w hp)
  have HV := Lib.hid (under_any_of p a)
  have hL8 := ups_length 8 (parse p)
  obtain ⟨L, hL⟩ : ∃ L, L = ups 8 (parse p) := ⟨_, rfl⟩
  rw [← hL] at C HV hL8
  clear hL
  obtain ⟨N, hN⟩ : ∃ N, N = L.length := ⟨_, rfl⟩
  obtain ⟨T, hT⟩ : ∃ T, T = L.map write := ⟨_, rfl⟩
  rw [← hT] at HV
  have hTN : T.length = N := by rw [hT, List.length_map, hN]
  have HT := Lib.hid hT
  have HN := Lib.hid hN
  have HTN := Lib.hid hTN
  have hN8 : N ≤ 8 := by omega
  clear hT hN hTN hL8
  go_enter Tryd.func19, Tryd.ntmps19
  go_wp2_with fail
  refine (C.out _).mono ?_
  intro e v hch
  obtain ⟨s, cp, rfl, hrow, hb⟩ := chain_open hch
  clear hch
  rw [← HN.out, ← HT.out] at hrow
  rw [← HN.out]
  have HR := Lib.hid hrow
  clear hrow
  go_wp2_with fail
  go_loop [6] (fun iv => ∃ k : Nat, k ≤ N ∧ iv = .int .i64 k ∧ Hid ((T.take k).any (· == a) = false)) (fun iv => N - (intOf iv).toNat)
  case atStart => exact ⟨0, by omega, rfl, Lib.hid rfl⟩
  case round =>
    obtain ⟨k, hk, rfl, HI⟩ := hrel
    have htn := HTN.out
    by_cases hlt : k < N
    · have hd : decide ((k : Int) < (N : Int)) = true := decide_eq_true (by omega)
      obtain ⟨g, rfl, hr⟩ := HR.out (by omega)
      have hcell := hr k (by omega)
      have hst : (T.take (k + 1)).any (· == a) = ((T.take k).any (· == a) || (T[k]'(by omega) == a)) := by
        rw [List.take_succ_eq_append_getElem (by omega), List.any_append]; simp
      rw [HI.out, Bool.false_or] at hst
      have hall : (T[k]'(by omega) == a) = true → T.any (· == a) = true := fun h => List.any_eq_true.2 ⟨_, List.getElem_mem _, h⟩
      obtain ⟨t, ht⟩ : ∃ t, t = T[k]'(by omega) := ⟨_, rfl⟩
      rw [← ht] at hcell hst hall
      have HS := Lib.hid hst
      have HA := Lib.hid hall
      clear htn hr ht hst hall
      by_cases e : t = a
      · subst e
        go_wp2
        go_ret
        exact ⟨by rw [HV.out, HA.out (by simp)]; rfl, hb⟩
      · have y : (t == a) = false := by rw [beq_eq_false_iff_ne]; exact e
        have Y := Lib.hid y
        clear e
        go_wp2
        go_round
        case rel => exact ⟨k + 1, by omega, by go_num, Lib.hid (by rw [HS.out, Y.out])⟩
        case measure => simp [intOf]; omega
    · obtain rfl : k = N := by omega
      have hd : decide ((k : Int) < (k : Int)) = false := decide_eq_false (by omega)
      have hv := HI.out
      rw [List.take_of_length_le (by omega)] at hv
      have HI2 := Lib.hid hv
      clear hv htn
      go_wp2
      go_ret
      exact ⟨by rw [HV.out, HI2.out]; rfl, hb⟩
    
end RefPath
end Go.Proofs.YtagpbhghmhamdaaDoor
