/- The walk of PathTells: it answers true. -/
import Derived.Test.YtagpbhghmhamdaaDoorRefPathCmp
import Derived.Test.YtagpbhghmhamdaaDoorPathAlive
namespace Go.Proofs.YtagpbhghmhamdaaDoor.PathTells
open Go.RowKit Go.Proofs.YtagpbhghmhamdaaDoor.Path

theorem kid_len (p : List UInt8) (n : Int) : (childT p n).1.length ≤ p.length + 11 ∧ 0 ≤ (childT p n).2 ∧ (childT p n).2 ≤ 100 := by
  unfold childT
  split
  · simp
  split
  · simp
  split
  · simp
  · have := digits_len 10 n.toNat (by decide) (by omega)
    simp; omega
theorem may_same (l : List Nat) : decide (0 < l.length) = decide (l ≠ []) := by
  cases l <;> simp

set_option maxRecDepth 100000 in
set_option maxHeartbeats 4000000 in
theorem walk (a0 : ByteArray) (a1 : ByteArray) (a2 : Int) (w : World) (_w0 : a0.size ≤ maxLen) (_w1 : a1.size ≤ maxLen) (_w2 : (Lit.int .i64 a2).wf = true) (ht : Tab w) :
    Calls Tryd.prog 3 #[.string a0, .string a1, .int .i64 a2] w fun e w' => e = .returned (.bool true) ∧ Below w.heap.size w w' := by
  obtain ⟨p, rfl⟩ : ∃ p : List UInt8, a0 = ⟨p.toArray⟩ := ⟨a0.data.toList, (Str.mk_toList a0).symm⟩
  obtain ⟨a, rfl⟩ : ∃ p : List UInt8, a1 = ⟨p.toArray⟩ := ⟨a1.data.toList, (Str.mk_toList a1).symm⟩
  have hsp := Str.size_mk p
  have hsa := Str.size_mk a
  have T := Lib.hid ht
  clear ht
  have h0 := Below.refl w.heap.size w
  by_cases c0 : 1024 < p.length
  · have d : decide ((1024 : Int) < (p.length : Int)) = true := decide_eq_true (by omega)
    go_enter Tryd.func3, Tryd.ntmps3
    go_wp2_with fail
    refine (alive_any _ (T.out.below h0)).mono ?_
    rintro e v1 ⟨rfl, k1⟩
    have h1 := bstep h0 k1
    clear k1
    go_wp2
    go_ret
    exact ⟨rfl, h1⟩
  have d0 : decide ((1024 : Int) < (p.length : Int)) = false := decide_eq_false (by omega)
  by_cases c1 : 1024 < a.length
  · have d : decide ((1024 : Int) < (a.length : Int)) = true := decide_eq_true (by omega)
    go_enter Tryd.func3, Tryd.ntmps3
    go_wp2_with fail
    refine (alive_any _ (T.out.below h0)).mono ?_
    rintro e v2 ⟨rfl, k2⟩
    have h2 := bstep h0 k2
    clear k2
    go_wp2
    go_ret
    exact ⟨rfl, h2⟩
  have d1 : decide ((1024 : Int) < (a.length : Int)) = false := decide_eq_false (by omega)
  have MA := Lib.hid (fun w => Path.may_any p w (by omega))
  have MB := Lib.hid (fun w => RefPath.may_any p w (by omega))
  rw [may_same] at MA
  obtain ⟨m, hm⟩ : ∃ m, m = decide (parse p ≠ []) := ⟨_, rfl⟩
  rw [← hm] at MA MB
  clear hm
  have DA := Lib.hid (fun w => Path.deep_any p w (by omega))
  have DB := Lib.hid (fun w => RefPath.deep_any p w (by omega))
  obtain ⟨d, hd⟩ : ∃ m, m = (parse p).length := ⟨_, rfl⟩
  rw [← hd] at DA DB
  clear hd
  have kl := kid_len p a2
  have CA := Lib.hid (fun w t => Path.child_any p a2 w (by omega) t)
  have CB := Lib.hid (fun w => RefPath.child_any p a2 w (by omega))
  obtain ⟨⟨t, x⟩, hk⟩ : ∃ r, r = childT p a2 := ⟨_, rfl⟩
  rw [← hk] at CA CB kl
  simp only at CA CB kl
  obtain ⟨_, kx0, kx1⟩ := kl
  clear hk
  have PA := Lib.hid (fun w => Path.parent_any p w (by omega))
  have PB := Lib.hid (fun w => RefPath.parent_any p w (by omega))
  obtain ⟨u, hu⟩ : ∃ m, m = parentL p := ⟨_, rfl⟩
  rw [← hu] at PA PB
  clear hu
  have NA := Lib.hid (fun w => Path.numberOf_any p w (by omega))
  have NB := Lib.hid (fun w => RefPath.number_any p w (by omega))
  obtain ⟨n, hn⟩ : ∃ m, m = last (parse p) := ⟨_, rfl⟩
  rw [← hn] at NA NB
  clear hn
  have UA := Lib.hid (fun w => Path.under_any p a w (by omega) (by omega))
  have UB := Lib.hid (fun w => RefPath.under_any p a w (by omega))
  obtain ⟨v, hv⟩ : ∃ m, m = under (parse p) (parse a) := ⟨_, rfl⟩
  rw [← hv] at UA UB
  clear hv
  have OA := Lib.hid (fun w => Path.compare_any p a w (by omega) (by omega))
  have OB := Lib.hid (fun w => RefPath.compare_any p a w (by omega) (by omega))
  obtain ⟨y, hy⟩ : ∃ m, m = cmpP p a := ⟨_, rfl⟩
  rw [← hy] at OA OB
  clear hy
  have LA := Lib.hid (fun w => Path.chain_any p w (by omega))
  have LB := Lib.hid (fun w => RefPath.chain_any p w (by omega))
  have hL8 := ups_length 8 (parse p)
  obtain ⟨L, hL⟩ : ∃ L, L = ups 8 (parse p) := ⟨_, rfl⟩
  rw [← hL] at LA LB hL8
  clear hL
  have b1 : (m != m) = false := by simp
  have b2 : (v == v) = true := by simp
  have hw : IntKind.i64.wrap x = x := by rw [IntKind.wrap_i64]; omega
  go_enter Tryd.func3, Tryd.ntmps3
  go_wp2_with fail
  refine (CA.out _ (T.out.below h0)).mono ?_
  rintro e v3 ⟨rfl, k3⟩
  have h3 := bstep h0 k3
  clear k3
  go_wp2_with fail
  refine (CB.out _).mono ?_
  rintro e v4 ⟨rfl, k4⟩
  have h4 := bstep h3 k4
  clear k4
  go_wp2_with fail
  refine (MA.out _).mono ?_
  rintro e v5 ⟨rfl, k5⟩
  have h5 := bstep h4 k5
  clear k5
  go_wp2_with fail
  refine (MB.out _).mono ?_
  rintro e v6 ⟨rfl, k6⟩
  have h6 := bstep h5 k6
  clear k6
  go_wp2_with fail
  refine (DA.out _).mono ?_
  rintro e v7 ⟨rfl, k7⟩
  have h7 := bstep h6 k7
  clear k7
  go_wp2_with fail
  refine (DB.out _).mono ?_
  rintro e v8 ⟨rfl, k8⟩
  have h8 := bstep h7 k8
  clear k8
  go_wp2_with fail
  refine (PA.out _).mono ?_
  rintro e v9 ⟨rfl, k9⟩
  have h9 := bstep h8 k9
  clear k9
  go_wp2_with fail
  refine (PB.out _).mono ?_
  rintro e v10 ⟨rfl, k10⟩
  have h10 := bstep h9 k10
  clear k10
  go_wp2_with fail
  refine (NA.out _).mono ?_
  rintro e v11 ⟨rfl, k11⟩
  have h11 := bstep h10 k11
  clear k11
  go_wp2_with fail
  refine (NB.out _).mono ?_
  rintro e v12 ⟨rfl, k12⟩
  have h12 := bstep h11 k12
  clear k12
  go_wp2_with fail
  refine (UA.out _).mono ?_
  rintro e v13 ⟨rfl, k13⟩
  have h13 := bstep h12 k13
  clear k13
  go_wp2_with fail
  refine (UB.out _).mono ?_
  rintro e v14 ⟨rfl, k14⟩
  have h14 := bstep h13 k14
  clear k14
  go_wp2_with fail
  refine (LA.out _).mono ?_
  intro e v1 hch
  obtain ⟨s1, p1, rfl, r1, kc⟩ := chain_open hch
  have hc := bstep h14 kc
  clear hch kc
  have R1 := Lib.hid r1
  clear r1
  go_wp2_with fail
  refine (LB.out _).mono ?_
  intro e v2 hch
  obtain ⟨s2, p2, rfl, r2, kc⟩ := chain_open hch
  have hc2 := bstep hc kc
  have R2 := Lib.hid r2
  have R3 : Hid (0 < L.length → ∃ g, s1 = some ⟨g, 0, none⟩ ∧ Row v2 g (L.map write)) := Lib.hid (fun h => (by obtain ⟨g, hg, r⟩ := R1.out h; exact ⟨g, hg, r.below kc⟩))
  clear hch kc r2
  obtain ⟨N, hN⟩ : ∃ N, N = L.length := ⟨_, rfl⟩
  rw [← hN] at R2 R3 hL8 ⊢
  have HN := Lib.hid hN
  clear hN
  go_wp2_with fail
  refine (RefPath.lists_any (L.map write) _ _ N _ _ _ (by rw [List.length_map]; exact HN.out) hL8 R3.out R2.out).mono ?_
  rintro e v3 ⟨rfl, k3⟩
  have h3 := bstep hc2 k3
  clear k3
  go_wp2_with fail
  refine (OA.out _).mono ?_
  rintro e v15 ⟨rfl, k15⟩
  have h15 := bstep h3 k15
  clear k15
  go_wp2_with fail
  refine (OB.out _).mono ?_
  rintro e v16 ⟨rfl, k16⟩
  have h16 := bstep h15 k16
  clear k16
  go_wp2_with fail
  refine (alive_any _ (T.out.below h16)).mono ?_
  rintro e v17 ⟨rfl, k17⟩
  have h17 := bstep h16 k17
  clear k17
  go_wp2
  go_ret
  exact ⟨rfl, h17⟩

end Go.Proofs.YtagpbhghmhamdaaDoor.PathTells
