/- TreeNone: the walk. -/
import Derived.Test.YtjnlooccddnbkaaGreatDoorTmLaw
import Derived.Test.YtjnlooccddnbkaaGreatDoorTmStepIn
import Derived.Test.YtjnlooccddnbkaaGreatDoorTmConv
namespace Go.Proofs.YtjnlooccddnbkaaGreatDoor
namespace TreeNone
open Go.RowKit Go.Proofs.YtjnlooccddnbkaaGreatDoor.Mark Go.Proofs.YtjnlooccddnbkaaGreatDoor.Dots Go.Proofs.YtjnlooccddnbkaaGreatDoor.Tree Go.Proofs.YtjnlooccddnbkaaGreatDoor.TreeLaw
attribute [local go_sem] Oper.semAt_some
set_option maxRecDepth 100000 in
theorem node_nil (w : World) : CallsIn Fence.wide 10 Tryz.prog 19 #[.pointer none, .int .i64 0, .int .i64 0] w fun e w' => e = .returned (.tuple #[.string ⟨#[]⟩, .slice none 0 0]) ∧ Below w.heap.size w w' := by
  refine callsIn_of_wp_marks Tryz.func19 rfl trivial ?_ rfl
  simp only [Tryz.ntmps19, List.size_toArray, List.length_cons, List.length_nil, Nat.reduceAdd, Nat.reduceSub, Array.replicate_succ, Array.replicate_zero, List.push_toArray, List.append_toArray, List.nil_append, List.cons_append]
  gi_wp2_with fail
  refine ⟨trivial, (callsIn_wide.2 (there_nil _)).mono ?_⟩
  rintro e w1 ⟨rfl, rfl⟩
  gi_wp2
  refine Marks.leaves (B := w.heap.size) (N := w.heap.size) [] _ trivial (Nat.le_refl _) ?_
  intro w9 hs
  exact ⟨.tuple #[.string ⟨#[]⟩, .slice none 0 0], by simp [results, Tryz.f19, go_sem], rfl, hs.below⟩
set_option maxRecDepth 100000 in
theorem diff_nil (w : World) : CallsIn Fence.wide 10 Tryz.prog 15 #[.pointer none, .slice none 0 0] w fun e w' => e = .returned (.slice none 0 0) ∧ Below w.heap.size w w' := by
  refine callsIn_of_wp_marks Tryz.func15 rfl trivial ?_ rfl
  simp only [Tryz.ntmps15, List.size_toArray, List.length_cons, List.length_nil, Nat.reduceAdd, Nat.reduceSub, Array.replicate_succ, Array.replicate_zero, List.push_toArray, List.append_toArray, List.nil_append, List.cons_append]
  gi_wp2_with fail
  refine wpIn_scope_straight' ?_
  gi_wp2_with fail
  refine ⟨trivial, (callsIn_wide.2 (there_nil _)).mono ?_⟩
  rintro e w1 ⟨rfl, rfl⟩
  gi_wp2_with fail
  refine ⟨trivial, ?_⟩
  gi_wp2
  rw [Exit.noGoto_ret]
  gi_wp2
  refine Marks.leaves (B := w.heap.size) (N := w.heap.size) [] _ trivial (by rw [World.size_alloc]; omega) ?_
  intro w9 hs
  exact ⟨.slice none 0 0, by simp [results, Tryz.f15, go_sem], rfl, (balloc (Below.refl _ _) _).trans hs.below⟩
/-- The key of a number. -/
def kb (j : Nat) : List UInt8 := [UInt8.ofNat j, UInt8.ofNat (j / 256)]
theorem kb_inj : ∀ i, i < 266 → ∀ j, j < 266 → kb i = kb j → i = j := by
  intro i hi j hj h
  unfold kb at h
  simp only [List.cons.injEq, and_true] at h
  have h1 := congrArg UInt8.toNat h.1
  have h2 := congrArg UInt8.toNat h.2
  simp only [UInt8.toNat_ofNat'] at h1 h2
  omega
def ik (k : Nat) : It := ⟨kb k, [], []⟩
theorem find_kb {l : List It} {k : Nat} (hk : k < 266) (h : ∀ x ∈ l, ∃ j, j < k ∧ x.k = kb j) : find l (kb k) = none := by
  rw [find_none]
  intro x hx e
  obtain ⟨j, h1, h2⟩ := h x hx
  rw [h2] at e
  have := kb_inj j (by omega) k hk e
  omega
theorem put_few {l : List It} {k : Nat} (hl : l.length < 256) : putE l (ik k) = 0 ∧ putL l (ik k) = put (ik k) l := by
  have e := putE_light hl (ik k)
  have e2 := putL_light hl (ik k)
  rw [if_pos (show mayL (ik k).s = true from nil_may)] at e e2
  exact ⟨e, e2⟩
theorem put_many {l : List It} {k : Nat} (hk : k < 266) (h : ∀ x ∈ l, ∃ j, j < k ∧ x.k = kb j) (hl : 256 ≤ l.length) : putE l (ik k) = 6 ∧ putL l (ik k) = l := by
  have e : putE l (ik k) = 6 := by
    unfold putE
    rw [if_pos (show mayL (ik k).s = true from nil_may), if_pos ⟨by rw [show (ik k).k = kb k from rfl, find_kb hk h]; rfl, hl⟩]
  exact ⟨e, by unfold putL; rw [if_neg (by rw [e]; decide)]⟩
theorem len_few {l : List It} {k : Nat} (hu : Up l) (hk : k < 266) (h : ∀ x ∈ l, ∃ j, j < k ∧ x.k = kb j) : (put (ik k) l).length = l.length + 1 := by
  rw [length_put _ _ hu, show (ik k).k = kb k from rfl, find_kb hk h]; rfl

set_option maxRecDepth 100000 in
set_option maxHeartbeats 8000000 in
theorem walk (a0 : ByteArray) (a1 : Int) (w : World) (_ : a0.size ≤ maxLen) (r0 : a0.size ≤ 140737488351232) (w1 : (Lit.int .u16 a1).wf = true) (ht : Sha.Tabs w) :
    Calls Tryz.prog 8 #[.string a0, .int .u16 a1] w fun e w' => e = .returned (.bool true) ∧ Below w.heap.size w w' := by
  have hb := Below.refl w.heap.size w
  have HT := Lib.hid ht
  clear ht
  obtain ⟨key, rfl⟩ : ∃ l : List UInt8, a0 = ⟨l.toArray⟩ := ⟨a0.data.toList, by simp⟩
  replace r0 : key.length ≤ 140737488351232 := by simpa [ByteArray.size] using r0
  obtain ⟨kl, hkl⟩ : ∃ n, n = key.length := ⟨_, rfl⟩
  have sk : (key.length : Int) = (kl : Int) := by rw [hkl]
  obtain ⟨m, rfl, hm⟩ : ∃ m : Nat, a1 = (m : Int) ∧ m ≤ 65535 := by
    have h : 0 ≤ a1 ∧ a1 ≤ 65535 := by
      simp [Lit.wf, IntKind.min, IntKind.max, IntKind.signed, IntKind.bits] at w1
      omega
    exact ⟨a1.toNat, by omega, by omega⟩
  have HKL := Lib.hid hkl
  obtain ⟨n, hn⟩ : ∃ n, n = m % 266 := ⟨_, rfl⟩
  have hrem : Int.tmod (m : Int) 266 = (n : Int) := by rw [hn]; rfl
  have hn266 : n < 266 := by omega
  clear hkl hn
  go_enter Tryz.func8, Tryz.ntmps8
  by_cases hbig : kl > 1024
  · have e1 : decide ((kl : Int) > 1024) = true := decide_eq_true (by omega)
    have e2 : decide ((1024 : Int) < (kl : Int)) = true := decide_eq_true (by omega)
    clear hbig
    go_wp2_with fail
    refine (works_any _ (HT.out.below hb)).mono ?_
    rintro e vw ⟨rfl, kw⟩
    replace hb := bstep hb kw
    go_wp2
    go_ret
    exact ⟨rfl, hb⟩
  have e1 : decide ((kl : Int) > 1024) = false := decide_eq_false (by omega)
  have e2 : decide ((1024 : Int) < (kl : Int)) = false := decide_eq_false (by omega)
  clear hbig
  go_wp2_with fail
  refine (callsIn_wide.1 (node_nil _)).mono ?_
  rintro e u1 ⟨rfl, k1⟩
  replace hb := bstep hb k1
  clear k1
  go_wp2_with fail
  refine (put_nil _ _ _ _).mono ?_
  rintro e u2 ⟨rfl, rfl⟩
  go_wp2_with fail
  refine (drop_nil _ _).mono ?_
  rintro e u3 ⟨rfl, rfl⟩
  go_wp2_with fail
  refine (root_nil _).mono ?_
  rintro e u4 ⟨rfl, rfl⟩
  go_wp2_with fail
  refine (callsIn_wide.1 (diff_nil _)).mono ?_
  rintro e u5 ⟨rfl, k5⟩
  replace hb := bstep hb k5
  clear k5
  go_wp2_with fail
  refine (keys_nil _ _).mono ?_
  rintro e u6 ⟨rfl, rfl⟩
  go_wp2_with fail
  refine (len_nil _).mono ?_
  rintro e u7 ⟨rfl, rfl⟩
  go_wp2_with fail
  refine (new_on hb).mono ?_
  rintro e vn ⟨tb, mb, rfl, i, htb, hmb, kn⟩
  have I := Lib.hid i
  have HB : Hid (w.heap.size ≤ tb ∧ w.heap.size ≤ mb) := Lib.hid ⟨Nat.le_trans hb.size htb, Nat.le_trans hb.size hmb⟩
  replace hb := bstep hb kn
  clear i htb hmb kn
  have HLL : Hid (([] : List It).length = min 0 256) := Lib.hid rfl
  have HKK : Hid (∀ x ∈ ([] : List It), ∃ j, j < 0 ∧ x.k = kb j) := Lib.hid (fun x hx => by cases hx)
  go_wp2_with fail
  go_loopw [10] (fun iv wr => ∃ k : Nat, k ≤ n ∧ iv = .int .i64 k ∧ ∃ l, Hid (On w wr tb mb k l) ∧ Hid (l.length = min k 256) ∧ Hid (∀ x ∈ l, ∃ j, j < k ∧ x.k = kb j)) (fun iv _ => n - (intOf iv).toNat)
  case atStart => exact ⟨0, by omega, rfl, _, I, HLL, HKK⟩
  case round =>
    clear hb I HLL HKK
    obtain ⟨k, hk, rfl, l, I, HLL, HKK⟩ := hrel
    by_cases hlt : k < n
    · have d1 : decide ((k : Int) < (n : Int)) = true := decide_eq_true (by omega)
      have HK := Lib.hid hlt
      have h266 : k < 266 := by omega
      have h1 : (k : Int) % 256 = (((UInt8.ofNat k).toNat : Nat) : Int) := by rw [UInt8.toNat_ofNat']; omega
      have h2 : (k : Int) / 256 = (((UInt8.ofNat (k / 256)).toNat : Nat) : Int) := by rw [UInt8.toNat_ofNat']; omega
      have hcv := fun w => Conv.conv2 _ _ _ _ h1 h2 w _ rfl
      have IA := Lib.hid (I.out.below (balloc (Below.refl _ _) (.cells #[.int .u8 ((k : Int) % 256), .int .u8 ((k : Int) / 256)] 5)))
      have PU := Lib.hid (put_on IA.out (kb k) [] [] none 0 (Mark.Lies.nil _ _) nil_ok (Nat.le_trans (show (kb k).length ≤ 2 from Nat.le_refl 2) (by decide)) (by decide) (by decide) (by omega))
      have HUP := Lib.hid I.out.is.up
      clear h1 h2
      go_wp2_with fail
      by_cases h256 : k < 256
      · have hl : l.length < 256 := by have := HLL.out; omega
        obtain ⟨g1, g2⟩ := put_few (k := k) hl
        have HL8 : Hid ((put (ik k) l).length = min (k + 1) 256) := Lib.hid (by rw [len_few HUP.out h266 HKK.out, HLL.out]; omega)
        have HK8 : Hid (∀ x ∈ put (ik k) l, ∃ j, j < k + 1 ∧ x.k = kb j) := Lib.hid (fun x hx => by
          rcases mem_put _ _ _ hx with rfl | hx
          · exact ⟨k, Nat.lt_succ_self k, rfl⟩
          · obtain ⟨j, j1, j2⟩ := HKK.out x hx
            exact ⟨j, by omega, j2⟩)
        rw [show putE l ⟨kb k, [], []⟩ = 0 from g1, show putL l ⟨kb k, [], []⟩ = put (ik k) l from g2] at PU
        have d3 : decide ((k : Int) < 256) = true := decide_eq_true (by omega)
        clear g1 g2 hl
        refine PU.out.mono ?_
        rintro e v8 ⟨rfl, i8, -⟩
        have I8 := Lib.hid i8
        clear i8 hcv PU
        go_wp2
        go_roundw
        case rel => exact ⟨k + 1, by have := HK.out; omega, by go_num, _, I8, HL8, HK8⟩
        case measure => have := HK.out; simp [intOf]; omega
      · have hl : 256 ≤ l.length := by have := HLL.out; omega
        obtain ⟨g1, g2⟩ := put_many h266 HKK.out hl
        have HL8 : Hid (l.length = min (k + 1) 256) := Lib.hid (by rw [HLL.out]; omega)
        have HK8 : Hid (∀ x ∈ l, ∃ j, j < k + 1 ∧ x.k = kb j) := Lib.hid (fun x hx => by
          obtain ⟨j, j1, j2⟩ := HKK.out x hx
          exact ⟨j, by omega, j2⟩)
        rw [show putE l ⟨kb k, [], []⟩ = 6 from g1, show putL l ⟨kb k, [], []⟩ = l from g2] at PU
        have d3 : decide ((k : Int) < 256) = false := decide_eq_false (by omega)
        clear g1 g2 hl
        refine PU.out.mono ?_
        rintro e v8 ⟨rfl, i8, -⟩
        have I8 := Lib.hid i8
        clear i8 hcv PU
        go_wp2
        go_roundw
        case rel => exact ⟨k + 1, by have := HK.out; omega, by go_num, _, I8, HL8, HK8⟩
        case measure => have := HK.out; simp [intOf]; omega
    have d1 : decide ((k : Int) < (n : Int)) = false := decide_eq_false (by omega)
    obtain rfl : n = k := by omega
    obtain ⟨ll, hll⟩ : ∃ x, x = l.length := ⟨_, rfl⟩
    have LE := Lib.hid (len_on I.out)
    rw [← hll] at LE HLL
    have hmin : min (n : Int) 256 = (ll : Int) := by have := HLL.out; omega
    have e9 : ((ll : Int) == (ll : Int)) = true := by simp
    clear hll HKK
    go_wp2_with fail
    refine LE.out.mono ?_
    rintro e v9 ⟨rfl, rfl⟩
    go_wp2_with fail
    refine (works_any _ (HT.out.below I.out.hb)).mono ?_
    rintro e vw ⟨rfl, kw⟩
    have hb := bstep I.out.hb kw
    go_wp2
    go_ret
    exact ⟨rfl, hb⟩
end TreeNone
end Go.Proofs.YtjnlooccddnbkaaGreatDoor
