/- The contracts of package text's functions over this program. -/
import Derived.Test.YtpbefdabnjdeaaaProg
import Derived.Test.YtpbefdabnjdeaaaShelf
import Derived.Test.YtpbefdabnjdeaaaTextDecode
import Derived.WalkKit
import Derived.WalkSpells
import Derived.WalkLawsBesides
import Derived.Lib.Hide
import Derived.Lib.OthersKept
namespace Go.Proofs.Ytpbefdabnjdeaaa
namespace Text
open Go.RowKit

set_option maxHeartbeats 400000 in
/-- broken, where a rune begins. -/
theorem broken_no (s : ByteArray) (i x k : Nat) (w : World) (hi : i ≤ s.size) (hr : rune (s.data.toList.drop i) = some (x, k)) :
    Calls Try.prog 22 #[.string s, .int .i64 i, .int .i32 x] w fun e w' => e = .returned (.bool false) ∧ w = w' := by
  have Hr := Lib.hid hr
  clear hr
  by_cases hx : x = 65533
  · subst hx
    have hp : Lib.hasPrefix (s.extract i s.size).data.toList [239, 191, 189] = true := by
      obtain ⟨_, _, t, h⟩ := rune_some Hr.out
      rw [prefix_iff, Str.extract_toList, List.take_of_length_le (by simp)]
      exact ⟨t, h⟩
    have Hp := Lib.hid hp
    clear hp
    go_enter Try.func22, Try.ntmps22
    go_wp2_with fail
    refine (Try.strings_HasPrefix _ _ _).mono ?_
    rintro e w' ⟨rfl, hw⟩
    subst hw
    rw [Hp.out]
    go_wp2
    go_ret
    exact ⟨rfl, rfl⟩
  · have hx' : ((x : Int) == 65533) = false := by rw [beq_eq_false_iff_ne]; omega
    go_enter Try.func22, Try.ntmps22
    go_wp2
    go_ret
    exact ⟨rfl, rfl⟩

set_option maxHeartbeats 400000 in
/-- broken, where none begins. -/
theorem broken_yes (s : ByteArray) (i : Nat) (w : World) (hi : i ≤ s.size) (hr : rune (s.data.toList.drop i) = none) :
    Calls Try.prog 22 #[.string s, .int .i64 i, .int .i32 65533] w fun e w' => e = .returned (.bool true) ∧ w = w' := by
  have hp : Lib.hasPrefix (s.extract i s.size).data.toList [239, 191, 189] = false := by
    cases h : Lib.hasPrefix (s.extract i s.size).data.toList [239, 191, 189] with
    | false => rfl
    | true =>
      rw [prefix_iff, Str.extract_toList, List.take_of_length_le (by simp)] at h
      obtain ⟨t, h⟩ := h
      rw [h, rune_enc 65533 t (by decide)] at hr
      cases hr
  have Hp := Lib.hid hp
  clear hp hr
  go_enter Try.func22, Try.ntmps22
  go_wp2_with fail
  refine (Try.strings_HasPrefix _ _ _).mono ?_
  rintro e w' ⟨rfl, hw⟩
  subst hw
  rw [Hp.out]
  go_wp2
  go_ret
  exact ⟨rfl, rfl⟩

set_option maxHeartbeats 400000 in
theorem runes_any (s : ByteArray) (w : World) (hs : s.size ≤ maxLen) :
    Calls Try.prog 14 #[.string s] w fun e w' => e = .returned (.int .i64 (count (runes s.data.toList))) ∧ Below w.heap.size w w' := by
  unfold maxLen at hs
  go_enter Try.func14, Try.ntmps14
  go_wp2
  go_loopw [3] (fun n wr => ∃ (xs : List Nat) (pos : Nat), At s xs pos ∧ n = .int .i64 xs.length ∧ wr = w.iter s pos) (fun _ wr => s.size - wr.iterPos w.heap.size)
  case atStart => exact ⟨[], 0, At.zero s, rfl, rfl⟩
  case round =>
    obtain ⟨xs, pos, hat, rfl, rfl⟩ := hrel
    obtain ⟨hle1, hle2⟩ := hat.le
    by_cases hp : pos < s.size
    · rcases hat.next hp with ⟨x, k, hd, hr, hat', hk, hx⟩ | ⟨hd, hr, hn⟩
      · have hnx : ∀ ty, (Instr.next (.pointer (some ⟨w.heap.size, 0, none⟩)) true ty).run Try.prog (w.iter s pos) = _ := fun ty => run_next_any w s pos ty hp
        rw [hd] at hnx
        simp only at hnx
        have Hr := Lib.hid hr
        have Hd := Lib.hid hd
        clear hr hd
        go_wp2_with fail
        refine (broken_no s pos x k _ hle2 Hr.out).mono ?_
        rintro e w' ⟨rfl, rfl⟩
        go_wp2
        exact ⟨⟨xs ++ [x], pos + k, hat', by rw [List.length_append, List.length_singleton]; go_num, rfl⟩, by simp; omega⟩
      · have hnx : ∀ ty, (Instr.next (.pointer (some ⟨w.heap.size, 0, none⟩)) true ty).run Try.prog (w.iter s pos) = _ := fun ty => run_next_any w s pos ty hp
        rw [hd] at hnx
        simp only at hnx
        have Hr := Lib.hid hr
        have Hn := Lib.hid hn
        clear hr hn hd
        go_wp2_with fail
        refine (broken_yes s pos _ hle2 Hr.out).mono ?_
        rintro e w' ⟨rfl, rfl⟩
        go_wp2
        go_ret
        rw [Hn.out]
        exact ⟨rfl, (Below.refl _ _).alloc (Nat.le_refl _) _⟩
    · have hnx : ∀ ty, (Instr.next (.pointer (some ⟨w.heap.size, 0, none⟩)) true ty).run Try.prog (w.iter s pos) = _ := fun ty => run_next_end w s pos ty hp
      have Hl := Lib.hid (hat.last hp)
      go_wp2
      go_ret
      rw [Hl.out]
      exact ⟨rfl, (Below.refl _ _).alloc (Nat.le_refl _) _⟩

set_option maxHeartbeats 400000 in
theorem valid_any (s : ByteArray) (w : World) (hs : s.size ≤ maxLen) :
    Calls Try.prog 13 #[.string s] w fun e w' => e = .returned (.bool (runes s.data.toList).isSome) ∧ Below w.heap.size w w' := by
  cases hr : runes s.data.toList with
  | none =>
    have h := runes_any s w hs
    rw [hr, count_none] at h
    have H := Lib.hid h
    clear h hr
    go_enter Try.func13, Try.ntmps13
    go_wp2_with fail
    refine H.out.mono ?_
    rintro e w' ⟨rfl, hb⟩
    go_wp2
    go_ret
    exact ⟨rfl, hb⟩
  | some xs =>
    have h := runes_any s w hs
    rw [hr, count_some] at h
    have H := Lib.hid h
    clear h hr
    go_enter Try.func13, Try.ntmps13
    go_wp2_with fail
    refine H.out.mono ?_
    rintro e w' ⟨rfl, hb⟩
    go_wp2
    go_ret
    exact ⟨rfl, hb⟩

set_option maxHeartbeats 400000 in
theorem sign_any (x : Nat) (w : World) :
    Calls Try.prog 23 #[.int .i32 x] w fun e w' => e = .returned (.int .u8 (sgn x)) ∧ w = w' := by
  by_cases h1 : x = 35
  · subst h1
    go_enter Try.func23, Try.ntmps23
    go_wp2
    go_ret
    exact ⟨rfl, rfl⟩
  by_cases h2 : x = 64
  · subst h2
    go_enter Try.func23, Try.ntmps23
    go_wp2
    go_ret
    exact ⟨rfl, rfl⟩
  by_cases h3 : x = 61
  · subst h3
    go_enter Try.func23, Try.ntmps23
    go_wp2
    go_ret
    exact ⟨rfl, rfl⟩
  have e : sgn x = 0 := by simp [sgn, h1, h2, h3]
  have e1 : ((x : Int) == 35) = false := by rw [beq_eq_false_iff_ne]; omega
  have e2 : ((x : Int) == 64) = false := by rw [beq_eq_false_iff_ne]; omega
  have e3 : ((x : Int) == 61) = false := by rw [beq_eq_false_iff_ne]; omega
  rw [e]
  clear e
  go_enter Try.func23, Try.ntmps23
  go_wp2
  go_ret
  exact ⟨rfl, rfl⟩

set_option maxHeartbeats 400000 in
theorem control_any (x : Nat) (w : World) :
    Calls Try.prog 24 #[.int .i32 x] w fun e w' => e = .returned (.bool (ctrl x)) ∧ w = w' := by
  by_cases h1 : x < 32
  · have b1 : decide ((x : Int) < 32) = true := by simp; omega
    rw [show ctrl x = true by simp [ctrl, h1]]
    go_enter Try.func24, Try.ntmps24
    go_wp2
    go_ret
    exact ⟨rfl, rfl⟩
  have b1 : decide ((x : Int) < 32) = false := by simp; omega
  by_cases h2 : 127 ≤ x
  · have b2 : decide ((127 : Int) ≤ (x : Int)) = true := by simp; omega
    by_cases h3 : x ≤ 159
    · have b3 : decide ((x : Int) ≤ 159) = true := by simp; omega
      rw [show ctrl x = true by simp [ctrl, h2, h3]]
      go_enter Try.func24, Try.ntmps24
      go_wp2
      go_ret
      exact ⟨rfl, rfl⟩
    · have b3 : decide ((x : Int) ≤ 159) = false := by simp; omega
      rw [show ctrl x = false by simp [ctrl, h1, h3]]
      go_enter Try.func24, Try.ntmps24
      go_wp2
      go_ret
      exact ⟨rfl, rfl⟩
  · have b2 : decide ((127 : Int) ≤ (x : Int)) = false := by simp; omega
    rw [show ctrl x = false by simp [ctrl, h1, h2]]
    go_enter Try.func24, Try.ntmps24
    go_wp2
    go_ret
    exact ⟨rfl, rfl⟩

set_option maxHeartbeats 400000 in
theorem compare_any (a b : ByteArray) (w : World) :
    Calls Try.prog 17 #[.string a, .string b] w fun e w' => e = .returned (.int .i64 (Lib.compareBytes a.data.toList b.data.toList)) ∧ w = w' := by
  go_enter Try.func17, Try.ntmps17
  go_wp2_with fail
  refine (Try.strings_Compare _ _ _).mono ?_
  rintro e w' ⟨rfl, hw⟩
  subst hw
  go_wp2
  go_ret
  exact ⟨rfl, rfl⟩

set_option maxRecDepth 100000 in
set_option maxHeartbeats 1000000 in
theorem kind_any (s : ByteArray) (w : World) (_hs : s.size ≤ maxLen) :
    Calls Try.prog 16 #[.string s] w fun e w' => e = .returned (.int .u8 (kind (runes s.data.toList))) ∧ Below w.heap.size w w' := by
  go_enter Try.func16, Try.ntmps16
  go_wp2
  go_loopw [3, 4] (fun kd n wr => ∃ (xs : List Nat) (pos : Nat), At s xs pos ∧ Good xs ∧ kd = .int .u8 (hd xs) ∧ n = .int .i64 xs.length ∧ wr = w.iter s pos) (fun _ _ wr => s.size - wr.iterPos w.heap.size)
  case atStart => exact ⟨[], 0, At.zero s, Good.nil, rfl, rfl, rfl⟩
  case round =>
    obtain ⟨xs, pos, hat, hgood, rfl, rfl, rfl⟩ := hrel
    obtain ⟨hle1, hle2⟩ := hat.le
    by_cases hp : pos < s.size
    · rcases hat.next hp with ⟨x, k, hd', hr, hat', hk, hx⟩ | ⟨hd', hr, hn⟩
      · have hnx : ∀ ty, (Instr.next (.pointer (some ⟨w.heap.size, 0, none⟩)) true ty).run Try.prog (w.iter s pos) = _ := fun ty => run_next_any w s pos ty hp
        rw [hd'] at hnx
        simp only at hnx
        have Hr := Lib.hid hr
        clear hr hd'
        -- what a key is of, behind this rune
        obtain ⟨kd, hkd⟩ : ∃ kd, kd = hd (xs ++ [x]) := ⟨_, rfl⟩
        have hkle := hd_le (xs ++ [x])
        rw [← hkd] at hkle
        have Hk := Lib.hid hkd
        have hb := fun h => kind_bad hat' h
        have hgs := fun h1 h2 h3 => Good.snoc hgood h1 h2 h3 (x := x)
        have Hb := Lib.hid hb
        have Hg := Lib.hid hgs
        clear hb hgs
        by_cases h0 : xs = []
        · subst h0
          have Hs := Lib.hid (show kd = sgn x from Hk.out)
          clear hkd
          by_cases hk0 : kd = 0
          · subst hk0
            go_wp2_with fail
            refine (sign_any x _).mono ?_
            rintro e w' ⟨rfl, rfl⟩
            rw [← Hs.out]
            go_wp2_with fail
            go_ret
            rw [Hb.out (.inl Hk.out.symm)]
            exact ⟨rfl, (Below.refl _ _).alloc (Nat.le_refl _) _⟩
          have hk1 : ((kd : Int) == 0) = false := by rw [beq_eq_false_iff_ne]; omega
          cases hc : ctrl x with
          | true =>
            have Hc := Lib.hid hc
            clear hc
            go_wp2_with fail
            refine (sign_any x _).mono ?_
            rintro e w' ⟨rfl, rfl⟩
            rw [← Hs.out]
            go_wp2_with fail
            refine (control_any x _).mono ?_
            rintro e w' ⟨rfl, rfl⟩
            rw [Hc.out]
            go_wp2_with fail
            go_ret
            rw [Hb.out (.inr (.inr Hc.out))]
            exact ⟨rfl, (Below.refl _ _).alloc (Nat.le_refl _) _⟩
          | false =>
            have Hc := Lib.hid hc
            clear hc
            go_wp2_with fail
            refine (sign_any x _).mono ?_
            rintro e w' ⟨rfl, rfl⟩
            rw [← Hs.out]
            go_wp2_with fail
            refine (control_any x _).mono ?_
            rintro e w' ⟨rfl, rfl⟩
            rw [Hc.out]
            go_wp2_with fail
            refine (broken_no s pos x k _ hle2 Hr.out).mono ?_
            rintro e w' ⟨rfl, rfl⟩
            go_wp2
            exact ⟨⟨[] ++ [x], pos + k, hat', Hg.out (by rw [← Hk.out]; exact hk0) (by simp) Hc.out, by rw [← Hk.out], rfl, rfl⟩, by simp; omega⟩
        · have hl0 : ((xs.length : Int) == 0) = false := by rw [beq_eq_false_iff_ne]; have := List.length_pos_iff.2 h0; omega
          have hk0 : kd ≠ 0 := by rw [hkd, hd_append h0]; rcases hgood.2.2 with h | h; exact absurd h h0; exact h
          have hk1 : ((kd : Int) == 0) = false := by rw [beq_eq_false_iff_ne]; omega
          rw [show hd xs = kd by rw [hkd, hd_append h0]]
          have hl64 := hgood.1
          clear hkd hgood
          by_cases h64 : xs.length = 64
          · have h64' : ((xs.length : Int) == 64) = true := by rw [beq_iff_eq]; omega
            have H64 := Lib.hid h64
            clear h64
            go_wp2
            go_ret
            rw [Hb.out (.inr (.inl H64.out))]
            exact ⟨rfl, (Below.refl _ _).alloc (Nat.le_refl _) _⟩
          have h64' : ((xs.length : Int) == 64) = false := by rw [beq_eq_false_iff_ne]; omega
          cases hc : ctrl x with
          | true =>
            have Hc := Lib.hid hc
            clear hc
            go_wp2_with fail
            refine (control_any x _).mono ?_
            rintro e w' ⟨rfl, rfl⟩
            rw [Hc.out]
            go_wp2_with fail
            go_ret
            rw [Hb.out (.inr (.inr Hc.out))]
            exact ⟨rfl, (Below.refl _ _).alloc (Nat.le_refl _) _⟩
          | false =>
            have Hc := Lib.hid hc
            clear hc
            go_wp2_with fail
            refine (control_any x _).mono ?_
            rintro e w' ⟨rfl, rfl⟩
            rw [Hc.out]
            go_wp2_with fail
            refine (broken_no s pos x k _ hle2 Hr.out).mono ?_
            rintro e w' ⟨rfl, rfl⟩
            go_wp2
            exact ⟨⟨xs ++ [x], pos + k, hat', Hg.out (by rw [← Hk.out]; exact hk0) h64 Hc.out, by rw [← Hk.out], by rw [List.length_append, List.length_singleton]; go_num, rfl⟩, by simp; omega⟩
      · have hnx : ∀ ty, (Instr.next (.pointer (some ⟨w.heap.size, 0, none⟩)) true ty).run Try.prog (w.iter s pos) = _ := fun ty => run_next_any w s pos ty hp
        rw [hd'] at hnx
        simp only at hnx
        have Hr := Lib.hid hr
        have Hn := Lib.hid hn
        clear hr hn hd'
        have c1 : sgn 65533 = 0 := by decide
        have c2 : ctrl 65533 = false := by decide
        have C1 := Lib.hid c1
        have C2 := Lib.hid c2
        clear c1 c2
        by_cases h0 : xs = []
        · subst h0
          go_wp2_with fail
          refine (sign_any 65533 _).mono ?_
          rintro e w' ⟨rfl, rfl⟩
          rw [C1.out]
          go_wp2
          go_ret
          rw [Hn.out]
          exact ⟨rfl, (Below.refl _ _).alloc (Nat.le_refl _) _⟩
        · have hl0 : ((xs.length : Int) == 0) = false := by rw [beq_eq_false_iff_ne]; have := List.length_pos_iff.2 h0; omega
          have hle3 := hd_le xs
          have hk1 : ((hd xs : Int) == 0) = false := by rw [beq_eq_false_iff_ne]; rcases hgood.2.2 with h | h; exact absurd h h0; omega
          by_cases h64 : xs.length = 64
          · have h64' : ((xs.length : Int) == 64) = true := by rw [beq_iff_eq]; omega
            have H64 := Lib.hid h64
            clear h64
            go_wp2
            go_ret
            rw [Hn.out]
            exact ⟨rfl, (Below.refl _ _).alloc (Nat.le_refl _) _⟩
          have h64' : ((xs.length : Int) == 64) = false := by rw [beq_eq_false_iff_ne]; omega
          go_wp2_with fail
          refine (control_any 65533 _).mono ?_
          rintro e w' ⟨rfl, rfl⟩
          rw [C2.out]
          go_wp2_with fail
          refine (broken_yes s pos _ hle2 Hr.out).mono ?_
          rintro e w' ⟨rfl, rfl⟩
          go_wp2
          go_ret
          rw [Hn.out]
          exact ⟨rfl, (Below.refl _ _).alloc (Nat.le_refl _) _⟩
    · have hnx : ∀ ty, (Instr.next (.pointer (some ⟨w.heap.size, 0, none⟩)) true ty).run Try.prog (w.iter s pos) = _ := fun ty => run_next_end w s pos ty hp
      have Hl := Lib.hid (hat.last hp)
      have Hg := Lib.hid hgood
      clear hgood
      go_wp2
      go_ret
      rw [Hl.out, Hg.out.kind]
      exact ⟨rfl, (Below.refl _ _).alloc (Nat.le_refl _) _⟩

set_option maxHeartbeats 400000 in
theorem key_any (s : ByteArray) (w : World) (hs : s.size ≤ maxLen) :
    Calls Try.prog 15 #[.string s] w fun e w' => e = .returned (.bool (!(kind (runes s.data.toList) == 0))) ∧ Below w.heap.size w w' := by
  have h := kind_any s w hs
  obtain ⟨k, hk⟩ : ∃ k, k = kind (runes s.data.toList) := ⟨_, rfl⟩
  rw [← hk] at h ⊢
  have H := Lib.hid h
  clear h hk
  by_cases h0 : k = 0
  · subst h0
    go_enter Try.func15, Try.ntmps15
    go_wp2_with fail
    refine H.out.mono ?_
    rintro e w' ⟨rfl, hb⟩
    go_wp2
    go_ret
    exact ⟨rfl, hb⟩
  · have h1 : (k == 0) = false := by rw [beq_eq_false_iff_ne]; omega
    have h2 : ((k : Int) != 0) = true := by rw [bne_iff_ne]; omega
    rw [h1]
    go_enter Try.func15, Try.ntmps15
    go_wp2_with fail
    refine H.out.mono ?_
    rintro e w' ⟨rfl, hb⟩
    go_wp2
    go_ret
    exact ⟨rfl, hb⟩

set_option maxRecDepth 100000 in
set_option maxHeartbeats 1000000 in
theorem cut_any (s : ByteArray) (n : Int) (w : World) (hs : s.size ≤ maxLen) (hn : -9223372036854775808 ≤ n) (hn' : n ≤ 9223372036854775807) :
    Calls Try.prog 19 #[.string s, .int .i64 n] w fun e w' => e = .returned (.string ⟨(cutL (runes s.data.toList) n).toArray⟩) ∧ Below w.heap.size w w' := by
  have HS := Lib.hid hs
  unfold maxLen at hs
  by_cases h0 : n ≤ 0
  · have e : cutL (runes s.data.toList) n = [] := by
      have : n.toNat = 0 := by omega
      unfold cutL; split <;> simp [this, cat]
    rw [e]
    clear e
    go_enter Try.func19, Try.ntmps19
    go_wp2
    go_ret
    exact ⟨rfl, Below.refl _ _⟩
  cases hr : runes s.data.toList with
  | none =>
    have h := valid_any s w HS.out
    rw [hr] at h
    have H := Lib.hid h
    clear h hr
    go_enter Try.func19, Try.ntmps19
    go_wp2_with fail
    refine H.out.mono ?_
    rintro e w' ⟨rfl, hb⟩
    go_wp2
    go_ret
    exact ⟨rfl, hb⟩
  | some ys =>
    have h := valid_any s w HS.out
    rw [hr] at h
    have H := Lib.hid h
    rw [← hr]
    have Hr := Lib.hid hr
    clear h hr
    go_enter Try.func19, Try.ntmps19
    go_wp2_with fail
    refine H.out.mono ?_
    rintro e w1 ⟨rfl, hb⟩
    clear H
    go_wp2
    go_loopw [1] (fun m wr => ∃ (xs : List Nat) (pos : Nat), At s xs pos ∧ (xs.length : Int) ≤ n ∧ m = .int .i64 (n - xs.length) ∧ wr = w1.iter s pos) (fun _ wr => s.size - wr.iterPos w1.heap.size)
    case atStart => exact ⟨[], 0, At.zero s, by simp; omega, by simp, rfl⟩
    case round =>
      obtain ⟨xs, pos, hat, hle, rfl, rfl⟩ := hrel
      obtain ⟨hle1, hle2⟩ := hat.le
      by_cases hp : pos < s.size
      · rcases hat.next hp with ⟨x, k, hd', hr, hat', hk, hx⟩ | ⟨hd', hr, hnn⟩
        · have hnx : ∀ ty, (Instr.next (.pointer (some ⟨w1.heap.size, 0, none⟩)) true ty).run Try.prog (w1.iter s pos) = _ := fun ty => run_next_any w1 s pos ty hp
          rw [hd'] at hnx
          simp only at hnx
          clear hr hd'
          by_cases hz : n = xs.length
          · have hz' : (n - (xs.length : Int) == 0) = true := by rw [beq_iff_eq]; omega
            have Hc := Lib.hid (cut_at hat Hr.out hz)
            clear hz
            go_wp2
            go_ret
            rw [Hc.out]
            exact ⟨rfl, hb.trans ((Below.refl _ _).alloc hb.size _)⟩
          · have hz' : (n - (xs.length : Int) == 0) = false := by rw [beq_eq_false_iff_ne]; omega
            go_wp2
            exact ⟨⟨xs ++ [x], pos + k, hat', by rw [List.length_append, List.length_singleton]; omega, by rw [List.length_append, List.length_singleton]; congr 1; omega, rfl⟩, by simp; omega⟩
        · rw [Hr.out] at hnn
          cases hnn
      · have hnx : ∀ ty, (Instr.next (.pointer (some ⟨w1.heap.size, 0, none⟩)) true ty).run Try.prog (w1.iter s pos) = _ := fun ty => run_next_end w1 s pos ty hp
        have Hc := Lib.hid (cut_end hat hp hle)
        go_wp2
        go_ret
        rw [Hc.out]
        exact ⟨rfl, hb.trans ((Below.refl _ _).alloc hb.size _)⟩

end Text
end Go.Proofs.Ytpbefdabnjdeaaa
