/- The contracts of gossamerref01.Kind, Compare, Cut. -/
import Derived.Test.YtpbefdabnjdeaaaTextRef2
import Derived.BigQuiet
import Derived.Deep.QuietTactic
namespace Go.Proofs.Ytpbefdabnjdeaaa
namespace Text
open Go.RowKit

theorem ownsRow_at {w : World} {B : Nat} {e : TypeId} {g cap n : Nat} {xs : List Value} (h : w.ownsRow B e 1 (.slice (some ⟨g, 0, none⟩) n cap) n xs) (j : Nat) (u : Value) (hj : xs[j]? = some u) : w.cell? ⟨g, j, none⟩ = some u := by
  have := h.cells (g := g) rfl j u hj
  rw [Go.WideShapes.add_plain, Nat.zero_add] at this
  exact this

set_option maxRecDepth 100000 in
set_option maxHeartbeats 2000000 in
theorem refkind_any (s : ByteArray) (w : World) (hs : s.size ≤ 65536) :
    Calls Try.prog 12 #[.string s] w fun e w' => e = .returned (.int .u8 (kind (runes s.data.toList))) ∧ Below w.heap.size w w' := by
  have h := runes2_any s w hs
  unfold Runes2 at h
  cases hr : runes s.data.toList with
  | none =>
    rw [hr] at h
    have H := Lib.hid h
    clear h hr
    go_enter Try.func12, Try.ntmps12
    go_wp2_with fail
    refine H.out.mono ?_
    rintro e w' ⟨rfl, hb⟩
    go_wp2
    go_ret
    exact ⟨rfl, hb⟩
  | some xs =>
    rw [hr] at h
    have hl := (runes_some hr).1
    have hc := cat_len xs
    have hsz : xs.length ≤ 65536 := by rw [← hl, ← Str.size_eq] at hc; omega
    have hsc : ∀ x ∈ xs, x ≤ 1114111 := fun x hx => by have := (runes_some hr).2 x hx; unfold Scalar at this; omega
    have H := Lib.hid h
    clear h hr hl hc
    go_enter Try.func12, Try.ntmps12
    go_wp2_with fail
    refine H.out.mono ?_
    rintro e w' ⟨v, rfl, hown, hb⟩
    rcases hown.2 with ⟨rfl, hn⟩ | ⟨g, cap, cur, rfl, _, _, hncap, hcapm, _⟩
    · obtain rfl : xs = [] := List.length_eq_zero_iff.1 hn
      clear hown
      go_wp2
      go_ret
      exact ⟨rfl, hb⟩
    · by_cases h1 : xs.length < 1
      · obtain rfl : xs = [] := List.length_eq_zero_iff.1 (by omega)
        clear hown
        go_wp2
        go_ret
        exact ⟨rfl, hb⟩
      by_cases h2 : 64 < xs.length
      · have hk : kind (some xs) = 0 := by show (if _ then _ else _) = _; rw [if_neg (by intro h; omega)]
        have Hk := Lib.hid hk
        clear hown hk
        go_wp2
        go_ret
        rw [Hk.out]
        exact ⟨rfl, hb⟩
      have Hown := Lib.hid hown
      unfold maxLen at hcapm
      clear hown
      go_wp2
      go_loop [5] (fun i => ∃ k : Nat, k ≤ xs.length ∧ i = .int .i64 k ∧ ∀ x ∈ xs.take k, ctrl x = false) (fun i => xs.length - (intOf i).toNat)
      case atStart => exact ⟨0, by omega, rfl, by simp⟩
      case round =>
        obtain ⟨k, hk, rfl, hall⟩ := hrel
        have Hall := Lib.hid hall
        clear hall
        by_cases hlt : k < xs.length
        · have hcell := ownsRow_at Hown.out k _ (ints_at xs k hlt)
          have hxle := hsc xs[k] (List.getElem_mem _)
          obtain ⟨x, hx⟩ : ∃ x, xs[k] = x := ⟨_, rfl⟩
          rw [hx] at hcell hxle
          have Hx := Lib.hid hx
          clear hx hsc
          cases hc : ctrl x with
          | true =>
            have hbad : kind (some xs) = 0 := by
              show (if _ then _ else _) = _
              rw [if_neg]; intro h; have := h.2 xs[k] (List.getElem_mem _); rw [Hx.out, hc] at this; cases this
            have Hbad := Lib.hid hbad
            clear hbad
            have hc' : x < 32 ∨ (127 ≤ x ∧ x ≤ 159) := by simpa [ctrl] using hc
            clear hc
            rcases hc' with hc | ⟨hc, hc'⟩
            · go_wp2
              go_ret
              rw [Hbad.out]
              exact ⟨rfl, hb⟩
            · have hc0 : ¬ x < 32 := by omega
              go_wp2
              go_ret
              rw [Hbad.out]
              exact ⟨rfl, hb⟩
          | false =>
            have hnext : ∀ y ∈ xs.take (k + 1), ctrl y = false := by
              rw [List.take_succ_eq_append_getElem hlt]
              intro y hy
              rcases List.mem_append.1 hy with hy | hy
              · exact Hall.out y hy
              · rw [List.mem_singleton.1 hy, Hx.out]; exact hc
            have Hnext := Lib.hid hnext
            have hc' : ¬ x < 32 ∧ (127 ≤ x → 159 < x) := by simpa [ctrl] using hc
            obtain ⟨hc0, hc1⟩ := hc'
            clear hc hnext
            by_cases h127 : 127 ≤ x
            · have hc2 := hc1 h127
              clear hc1
              go_wp2
              exact ⟨⟨k + 1, by omega, by go_num, Hnext.out⟩, by simp [intOf]; omega⟩
            · clear hc1
              go_wp2
              exact ⟨⟨k + 1, by omega, by go_num, Hnext.out⟩, by simp [intOf]; omega⟩
        · obtain rfl : k = xs.length := by omega
          have hcell := ownsRow_at Hown.out 0 _ (ints_at xs 0 (by omega))
          have hxle := hsc xs[0] (List.getElem_mem _)
          have hkd := kind_all xs (by omega) (by omega) Hall.out
          obtain ⟨x, hx⟩ : ∃ x, xs[0] = x := ⟨_, rfl⟩
          rw [hx] at hcell hxle hkd
          have Hkd := Lib.hid hkd
          clear hx hsc hkd
          by_cases k1 : x = 35
          · subst k1
            go_wp2
            go_ret
            rw [Hkd.out]
            exact ⟨rfl, hb⟩
          by_cases k2 : x = 64
          · subst k2
            go_wp2
            go_ret
            rw [Hkd.out]
            exact ⟨rfl, hb⟩
          by_cases k3 : x = 61
          · subst k3
            go_wp2
            go_ret
            rw [Hkd.out]
            exact ⟨rfl, hb⟩
          have e : sgn x = 0 := by simp [sgn, k1, k2, k3]
          have e1 : ((x : Int) == 35) = false := by rw [beq_eq_false_iff_ne]; omega
          have e2 : ((x : Int) == 64) = false := by rw [beq_eq_false_iff_ne]; omega
          have e3 : ((x : Int) == 61) = false := by rw [beq_eq_false_iff_ne]; omega
          have E := Lib.hid e
          clear e
          go_wp2
          go_ret
          rw [Hkd.out, E.out]
          exact ⟨rfl, hb⟩

set_option maxRecDepth 100000 in
set_option maxHeartbeats 1000000 in
theorem refcompare_any (a b : ByteArray) (w : World) (ha : a.size ≤ maxLen) (hb : b.size ≤ maxLen) :
    Calls Try.prog 18 #[.string a, .string b] w fun e w' => e = .returned (.int .i64 (Lib.compareBytes a.data.toList b.data.toList)) ∧ Below w.heap.size w w' := by
  unfold maxLen at ha hb
  go_enter Try.func18, Try.ntmps18
  go_wp2
  go_loopw [5] (fun i wr => ∃ k : Nat, k ≤ a.size ∧ k ≤ b.size ∧ i = .int .i64 k ∧ Lib.compareBytes a.data.toList b.data.toList = Lib.compareBytes (a.data.toList.drop k) (b.data.toList.drop k) ∧ Below w.heap.size w wr) (fun i _ => a.size - (intOf i).toNat)
  case atStart => exact ⟨0, by omega, by omega, rfl, rfl, Below.refl _ _⟩
  case round =>
    obtain ⟨k, hka, hkb, rfl, hcmp, hbw⟩ := hrel
    have Hcmp := Lib.hid hcmp
    clear hcmp
    by_cases hlt : k < a.size ∧ k < b.size
    · obtain ⟨h1, h2⟩ := hlt
      have hst := Lib.hid (cmp_drop a b k h1 h2)
      by_cases h3 : a[k].toNat < b[k].toNat
      · go_wp2
        go_quiet (fail)
        go_wp2
        go_ret
        rw [Hcmp.out, hst.out, if_pos h3]
        exact ⟨rfl, by first | exact below_drewN hbw _ | exact below_drewN (below_drewN hbw _) _⟩
      · by_cases h4 : b[k].toNat < a[k].toNat
        · go_wp2
          go_quiet (fail)
          go_wp2
          go_quiet (fail)
          go_wp2
          go_ret
          rw [Hcmp.out, hst.out, if_neg h3, if_pos h4]
          exact ⟨rfl, by first | exact below_drewN hbw _ | exact below_drewN (below_drewN hbw _) _⟩
        · go_wp2
          go_quiet (fail)
          go_wp2
          go_quiet (fail)
          go_wp2
          exact ⟨⟨k + 1, by omega, by omega, by go_num, by rw [Hcmp.out, hst.out, if_neg h3, if_neg h4], below_drewN hbw _⟩, by simp [intOf]; omega⟩
    · have hend := Lib.hid (cmp_end a b k hlt hka hkb)
      by_cases h1 : k < a.size
      · have h2 : ¬ k < b.size := fun h => hlt ⟨h1, h⟩
        clear hlt
        have h3 : ¬ a.size < b.size := by omega
        have h4 : b.size < a.size := by omega
        go_wp2
        go_ret
        rw [Hcmp.out, hend.out, if_neg h3, if_pos h4]
        exact ⟨rfl, hbw⟩
      · clear hlt
        by_cases h3 : a.size < b.size
        · go_wp2
          go_ret
          rw [Hcmp.out, hend.out, if_pos h3]
          exact ⟨rfl, hbw⟩
        · have h4 : ¬ b.size < a.size := by omega
          go_wp2
          go_ret
          rw [Hcmp.out, hend.out, if_neg h3, if_neg h4]
          exact ⟨rfl, hbw⟩

set_option maxRecDepth 100000 in
set_option maxHeartbeats 1000000 in
theorem refcut_any (s : ByteArray) (n : Int) (w : World) (hs : s.size ≤ 65536) (_hn : -9223372036854775808 ≤ n) (hn' : n ≤ 9223372036854775807) :
    Calls Try.prog 20 #[.string s, .int .i64 n] w fun e w' => e = .returned (.string ⟨(cutL (runes s.data.toList) n).toArray⟩) ∧ Below w.heap.size w w' := by
  have h := count_any s w hs
  cases hr : runes s.data.toList with
  | none =>
    rw [hr, count_none] at h
    have H := Lib.hid h
    clear h hr
    go_enter Try.func20, Try.ntmps20
    go_wp2_with fail
    refine H.out.mono ?_
    rintro e w' ⟨rfl, hb⟩
    go_wp2
    go_ret
    exact ⟨rfl, hb⟩
  | some ys =>
    rw [hr, count_some] at h
    have H := Lib.hid h
    rw [← hr]
    have Hr := Lib.hid hr
    clear h hr
    go_enter Try.func20, Try.ntmps20
    go_wp2_with fail
    refine H.out.mono ?_
    rintro e w' ⟨rfl, hb⟩
    go_wp2
    go_loop [5, 6] (fun pv iv => ∃ (xs : List Nat) (pos : Nat), At s xs pos ∧ (xs.length : Int) ≤ max n 0 ∧ pv = .int .i64 pos ∧ iv = .int .i64 xs.length) (fun pv _ => s.size - (intOf pv).toNat)
    case atStart => exact ⟨[], 0, At.zero s, by simp; omega, rfl, rfl⟩
    case round =>
      obtain ⟨xs, pos, hat, hmx, rfl, rfl⟩ := hrel
      obtain ⟨hle1, hle2⟩ := hat.le
      by_cases hlt : (xs.length : Int) < n ∧ pos < s.size
      · obtain ⟨h1, hp⟩ := hlt
        rcases hat.next hp with ⟨x, k, hd', hrn, hat', hk, hx⟩ | ⟨hd', hrn, hnn⟩
        · obtain ⟨hle3, hle4⟩ := hat'.le
          have hrd := read_any (s.extract pos s.size) w' (by rw [ByteArray.size_extract]; unfold maxLen; omega)
          rw [Str.extract_toList, List.take_of_length_le (by rw [← Str.size_eq]; omega), hrn] at hrd
          dsimp only [got, Option.getD] at hrd
          have Hrd := Lib.hid hrd
          clear hrd hd' hrn hmx
          go_wp2_with fail
          refine Hrd.out.mono ?_
          rintro e w' ⟨rfl, rfl⟩
          go_wp2
          exact ⟨⟨xs ++ [x], pos + k, hat', by rw [List.length_append, List.length_singleton]; omega, by go_num, by rw [List.length_append, List.length_singleton]; go_num⟩, by simp [intOf]; omega⟩
        · rw [Hr.out] at hnn
          cases hnn
      · have hc := Lib.hid (cut_ref hat Hr.out hmx hlt)
        clear hmx
        by_cases h1 : (xs.length : Int) < n
        · have hp : ¬ pos < s.size := fun h => hlt ⟨h1, h⟩
          clear hlt
          go_wp2
          go_ret
          rw [hc.out]
          exact ⟨rfl, hb⟩
        · clear hlt
          go_wp2
          go_ret
          rw [hc.out]
          exact ⟨rfl, hb⟩

end Text
end Go.Proofs.Ytpbefdabnjdeaaa
