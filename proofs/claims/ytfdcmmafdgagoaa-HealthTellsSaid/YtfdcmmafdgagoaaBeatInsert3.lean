/- slices.Insert of one beat, every way; slices.Clone. -/
import Derived.Test.YtfdcmmafdgagoaaBeatInsert2
namespace Go.Proofs.Ytfdcmmafdgagoaa
namespace Beat
open Go.RowKit Go.Proofs.Ytfdcmmafdgagoaa.Order

abbrev Mine := Row.Own enc 28

set_option maxHeartbeats 4000000 in
set_option maxRecDepth 100000 in
theorem insert_end (x : B) (L : List B) (a : Option Addr) (n c B0 b1 : Nat) (w : World) (hO : Mine w B0 (.slice a n c) L) (hnl : n = L.length) (hn : L.length + 1 ≤ 1099511627776) (hb : B0 ≤ w.heap.size) (hv : Lies w (some ⟨b1, 0, none⟩) 1 [x]) (ha : a = none → n = 0 ∧ c = 0) (hc : n ≤ c ∧ c ≤ maxLen) :
    Calls Try.prog 26 #[.slice a n c, .int .i64 n, .slice (some ⟨b1, 0, none⟩) 1 1] w fun e w' => ∃ v', e = .returned v' ∧ Mine w' B0 v' (L ++ [x]) ∧ Below B0 w w' := by
  have HO := Lib.hid hO
  have HV := Lib.hid hv
  have hcm : c ≤ 9223372036854775807 := by have := hc.2; unfold maxLen at this; omega
  have hnc := hc.1
  have HN := Lib.hid hnl
  clear hO hv hc hnl
  cases a with
  | none =>
    obtain ⟨rfl, rfl⟩ := ha rfl
    go_enter Try.func26, Try.ntmps26
    go_wp2_with (at_builtin; refine Row.wpList_app typ rfl _ _ rfl B0 _ L rfl HO.out (some ⟨b1, 0, none⟩) 1 1 [x] rfl HV.out hn hb ?_; intro v' w1 o1 _ k1)
    go_ret
    exact ⟨_, rfl, o1, k1⟩
  | some q =>
    clear ha
    by_cases hcn : c = n
    · have hb4 : c = n := hcn
      go_enter Try.func26, Try.ntmps26
      go_wp2_with (at_builtin; refine Row.wpList_app typ rfl _ _ rfl B0 _ L rfl HO.out (some ⟨b1, 0, none⟩) 1 1 [x] rfl HV.out hn hb ?_; intro v' w1 o1 _ k1)
      go_ret
      exact ⟨_, rfl, o1, k1⟩
    · go_enter Try.func26, Try.ntmps26
      go_wp2_with (at_builtin; refine Row.wpList_app typ rfl _ _ rfl B0 _ L rfl HO.out (some ⟨b1, 0, none⟩) 1 1 [x] rfl HV.out hn hb ?_; intro v' w1 o1 _ k1)
      go_ret
      exact ⟨_, rfl, o1, k1⟩

theorem insert_any (x : B) (L : List B) (v : Value) (i B0 b1 : Nat) (T' : TypeId) (w : World) (hO : Mine w B0 v L) (hi : i ≤ L.length) (hn : L.length + 1 ≤ 1099511627776) (hb : B0 ≤ w.heap.size) (hv : w.heap[b1]? = some (.cells (flat [x]).toArray T' (0, 0))) (hne : v.ownBlock ≠ some b1) :
    Calls Try.prog 26 #[v, .int .i64 i, .slice (some ⟨b1, 0, none⟩) 1 1] w fun e w' => ∃ v', e = .returned v' ∧ Mine w' B0 v' (L.take i ++ ([x] ++ L.drop i)) ∧ Below B0 w w' := by
  have hl1 : Lies w (some ⟨b1, 0, none⟩) 1 [x] := ⟨rfl, fun _ => ⟨b1, 0, rfl, fun j hj k u hu => by
    obtain rfl : j = 0 := by simp at hj; exact hj
    rw [Nat.zero_mul, Nat.zero_add, cell_of_row w b1 _ _ T' (0, 0) hv, List.getElem?_toArray]
    rw [show flat [x] = Row.flat enc [x] from rfl, Row.flat_one_list]; exact hu⟩⟩
  by_cases hin : i = L.length
  · subst hin
    rw [List.take_of_length_le (Nat.le_refl _), List.drop_eq_nil_of_le (Nat.le_refl _), List.append_nil]
    have h2 := hO.2
    obtain ⟨a, c, rfl, hc, hcm, _, _⟩ := hO.lies
    refine insert_end x L a L.length c B0 b1 w hO rfl hn hb hl1 (fun e => ?_) ⟨hc, hcm⟩
    rcases h2 with ⟨h', h0⟩ | ⟨g, cap, cur, h', _⟩
    · simp only [Value.slice.injEq] at h'; exact ⟨h0, h'.2.2⟩
    · rw [e] at h'; simp at h'
  · rcases hO.2 with ⟨_, h0⟩ | ⟨g, cap, cur, rfl, hB, hg, hnc, hcm, hcs, htake⟩
    · omega
    · have hbg : b1 ≠ g := fun e => hne (by rw [e]; rfl)
      by_cases hr : L.length + 1 ≤ cap
      · refine (insert_room g 0 L.length cap i b1 0 1 1 L [x] w cur _ T' (Lib.hid rfl) (Lib.hid rfl) (by omega) (by decide) hr (by unfold maxLen at hcm; omega) hbg (Lib.hid rfl) (Lib.hid rfl) hg hcs htake hv).mono ?_
        rintro e w' ⟨rfl, ⟨cur', h1, h2, h3⟩, hk⟩
        have hlen : (L.take i ++ ([x] ++ L.drop i)).length = L.length + 1 := by simp; omega
        exact ⟨_, rfl, Row.own_of hB h1 hlen.symm (by rw [hlen]; exact hr) hcm h2 (by rw [hlen]; exact h3), hk.mono hB⟩
      · refine (insert_grow g 0 L.length cap i b1 0 1 1 L [x] w cur _ T' (Lib.hid rfl) (Lib.hid rfl) (by omega) (by decide) hnc (by omega) hn (Lib.hid rfl) (Lib.hid rfl) hg hcs htake hv).mono ?_
        rintro e w' ⟨G, rfl, hG1, hG2, ⟨cur', h1, h2, h3⟩, hk⟩
        have hlen : (L.take i ++ ([x] ++ L.drop i)).length = L.length + 1 := by simp; omega
        exact ⟨_, rfl, Row.own_of hb h1 hlen.symm (by rw [hlen]; exact hG1) hG2 h2 (by rw [hlen]; exact h3), hk.mono hb⟩

set_option maxHeartbeats 4000000 in
set_option maxRecDepth 100000 in
theorem clone_any (L : List B) (a : Option Addr) (c : Nat) (w : World) (hL : Lies w a L.length L) (hn : L.length ≤ 1099511627776) :
    Calls Try.prog 25 #[.slice a L.length c] w fun e w' => ∃ v', e = .returned v' ∧ Mine w' w.heap.size v' L ∧ Below w.heap.size w w' := by
  have h0 := Below.refl w.heap.size w
  cases a with
  | none =>
    have heq : ∀ w, (binOp .eql 22 (.slice none L.length c) (.slice none 0 0)).run Try.prog w = .ok (.bool true) w := fun w => Lib.run_eql_slice_nil (P := Try.prog) w 22 28 none L.length c 0 0 Try.underlying22
    have hl0 : L = [] := by
      rcases Nat.eq_zero_or_pos L.length with h | h
      · exact List.length_eq_zero_iff.1 h
      · obtain ⟨_, _, e, _⟩ := hL.2 h; cases e
    subst hl0
    clear hL
    simp only [List.length_nil] at heq ⊢
    go_enter Try.func25, Try.ntmps25
    go_wp2
    go_ret
    exact ⟨_, rfl, Row.Own.nil _ _, h0⟩
  | some q =>
    have heq : ∀ w, (binOp .eql 22 (.slice (some q) L.length c) (.slice none 0 0)).run Try.prog w = .ok (.bool false) w := fun w => Lib.run_eql_slice_nil (P := Try.prog) w 22 28 (some q) L.length c 0 0 Try.underlying22
    have hown : Mine (w.alloc (.cells #[] 28)) w.heap.size (.slice (some ⟨w.heap.size, 0, none⟩) 0 0) [] := World.ownsRow_lit w #[] 0 (Nat.le_refl _) (by decide) rfl
    have HL := Lib.hid hL
    have HO := Lib.hid hown
    clear hL hown
    go_enter Try.func25, Try.ntmps25
    go_wp2_with (at_builtin; refine Row.wpList_app typ rfl _ _ rfl w.heap.size _ [] rfl HO.out (some q) L.length c L rfl (HL.out.below (balloc h0 _)) (by simpa using hn) (by simp) ?_; intro v' w1 o1 _ k1)
    go_ret
    exact ⟨_, rfl, by simpa using o1, (balloc h0 _).trans k1⟩
end Beat
end Go.Proofs.Ytfdcmmafdgagoaa
