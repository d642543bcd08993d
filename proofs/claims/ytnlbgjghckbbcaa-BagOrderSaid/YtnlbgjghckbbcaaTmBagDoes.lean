/- the law's does. -/
import Derived.Test.YtnlbgjghckbbcaaTmSim
import Derived.Test.YtnlbgjghckbbcaaTmConv
import Derived.Test.YtnlbgjghckbbcaaTmBagD
namespace Go.Proofs.Ytnlbgjghckbbcaa
namespace BagLaw
open Go.RowKit Go.Proofs.Ytnlbgjghckbbcaa.Mark Go.Proofs.Ytnlbgjghckbbcaa.Dots Go.Proofs.Ytnlbgjghckbbcaa.Bag Go.Proofs.Ytnlbgjghckbbcaa.BagEv
theorem _root_.Go.Proofs.Ytnlbgjghckbbcaa.Dots.cell_lt {w : World} {b o : Nat} {v : Value} (h : w.cell? ⟨b, o, none⟩ = some v) : b < w.heap.size := World.block_lt_of_cell? _ _ h
/-- A number modulo another one. -/
theorem mod_is {n : Int} {N : Nat} (h0 : 0 ≤ n) (hN : 1 ≤ N) : ∃ k : Nat, k < N ∧ n.tmod (N : Int) = (k : Int) := by
  refine ⟨(n % (N : Int)).toNat, ?_, ?_⟩
  · have h1 := Int.emod_nonneg n (show (N : Int) ≠ 0 by omega)
    have h2 := Int.emod_lt_of_pos n (show (0 : Int) < (N : Int) by omega)
    omega
  · rw [Int.tmod_eq_emod_of_nonneg h0]
    have h1 := Int.emod_nonneg n (show (N : Int) ≠ 0 by omega)
    omega
theorem mark_lies {W : World} {B : Nat} {a : Option Addr} {c : Nat} {V : List M} (h : Mark.Own W B (.slice a V.length c) V) : Mark.Lies W a V.length V := by
  obtain ⟨a', c', e, -, -, hl, -⟩ := Mark.Own.lies h
  simp only [Value.slice.injEq] at e
  rw [e.1]; exact hl
theorem putok {L : List It} {text : List UInt8} {p : M} {R : List It} {w : World} {e : Ending} {w' : World} (h : PutIs L text p R w e w') (h1 : text.length ≤ 4096) (h2 : R.length < 256) : ∃ (a : Option Addr) (c : Nat) (Q : List It), e = .returned (.tuple #[.slice a Q.length c, .int .i64 0]) ∧ IsBag Q (fun t m => (Has L t m ∧ t ≠ text) ∨ (t = text ∧ m = p)) ∧ Had w' w.heap.size a Q.length c Q ∧ Below w.heap.size w w' := by
  obtain ⟨k, h⟩ := h
  rcases h with ⟨h, _⟩ | ⟨_, h, _⟩ | ⟨_, _, a, c, Q, rfl, hQ, -, hq⟩
  · omega
  · omega
  · exact ⟨a, c, Q, rfl, hQ, hq, k⟩
theorem djoin {W : World} {B : Nat} {xa ya : Option Addr} {xc yc : Nat} {V U : List M} (h1 : Mark.Own W B (.slice xa V.length xc) V) (h2 : Mark.Own W B (.slice ya U.length yc) U) (k1 : V.length ≤ 256) (k2 : U.length ≤ 256) :
    Calls Try.prog 21 #[.slice xa V.length xc, .slice ya U.length yc] W fun e w' => ∃ a c J, e = .returned (.slice a J.length c) ∧ IsVec J (fun q => max (ofL V q) (ofL U q)) ∧ Mark.Own w' W.heap.size (.slice a J.length c) J ∧ Below W.heap.size W w' := by
  refine (Dots.join_any V U xa ya V.length U.length xc yc W (mark_lies h1) (mark_lies h2) (by omega) (by omega)).mono ?_
  rintro e w' ⟨v, J, rfl, hJ, -, ho, k⟩
  have ho' := ho
  obtain ⟨a, c, rfl, -, -, -, -⟩ := Mark.Own.lies ho
  exact ⟨a, c, J, rfl, hJ, ho', k⟩
theorem dset {W : World} {B : Nat} {xa : Option Addr} {xc : Nat} {V : List M} (q : List UInt8) (x : Nat) (h1 : Mark.Own W B (.slice xa V.length xc) V) (k1 : V.length ≤ 256) :
    Calls Try.prog 37 #[.slice xa V.length xc, .string ⟨q.toArray⟩, .int .u64 (x : Nat)] W fun e w' => ∃ a c J, e = .returned (.slice a J.length c) ∧ IsVec J (Dots.setF (ofL V) q x) ∧ Mark.Own w' W.heap.size (.slice a J.length c) J ∧ Below W.heap.size W w' := by
  refine (Dots.set_any V q x xa V.length xc W (mark_lies h1) (by omega)).mono ?_
  rintro e w' ⟨v, J, rfl, hJ, -, ho, k⟩
  have ho' := ho
  obtain ⟨a, c, rfl, -, -, -, -⟩ := Mark.Own.lies ho
  exact ⟨a, c, J, rfl, hJ, ho', k⟩
theorem bjoin {W : World} {B : Nat} {xa ya xv yv : Option Addr} {xc yc vc uc : Nat} {R Q : List It} {V U : List M} (h1 : Had W B xa R.length xc R) (h2 : Had W B ya Q.length yc Q) (v1 : Mark.Own W B (.slice xv V.length vc) V) (v2 : Mark.Own W B (.slice yv U.length uc) U)
    (f1 : Fine R ∧ (pls R).length ≤ 100 ∧ R.length ≤ 100 ∧ Ok V ∧ V.length ≤ 256) (f2 : Fine Q ∧ (pls Q).length ≤ 100 ∧ Q.length ≤ 100 ∧ Ok U ∧ U.length ≤ 256) :
    Calls Try.prog 10 #[.slice xa R.length xc, .slice xv V.length vc, .slice ya Q.length yc, .slice yv U.length uc] W (Got (Joined R Q (fun m => hasL V m.p m.n) (fun m => hasL U m.p m.n)) ((pls R).length + (pls Q).length) W) :=
  Bag.join_any R Q V U xa ya xv yv R.length Q.length V.length U.length xc yc vc uc W h1.lies h2.lies (mark_lies v1) (mark_lies v2) f1.1 f2.1 (by omega) (by omega) f1.2.2.2.1 f2.2.2.2.1 (by omega)
theorem Rel.few {N : Nat} {Ls : List Rp} {Es : List Er} {es : List Ev} {K : Nat → List Bool} {v : Nat → Nat → Nat} (h : Rel N Ls Es es K v) {k : Nat} (hk : k < Ls.length) (he : es.length ≤ 60) : Fine Ls[k].R ∧ (pls Ls[k].R).length ≤ 100 ∧ Ls[k].R.length ≤ 100 ∧ Ok Ls[k].V ∧ Ls[k].V.length ≤ 256 := by
  obtain ⟨h1, h2, h3, h4, h5, -⟩ := h.sizes hk (by omega)
  exact ⟨h1, h2, h3, h4, h5⟩
theorem Rel.joined {N : Nat} {Ls : List Rp} {Es : List Er} {es : List Ev} {K : Nat → List Bool} {v : Nat → Nat → Nat} (h : Rel N Ls Es es K v) {k o : Nat} (hk : k < N) (ho : o < N) (hkl : k < Ls.length) (hol : o < Ls.length) {X Y : Rp} (hX : X = Ls[k]) (hY : Y = Ls[o])
    {a5 a6 : Option Addr} {c5 c6 : Nat} {R : List It} {J : List M} {L1 L2 : List Rp} (e1 : L1 = Ls.set k (X.withL a5 c5 R)) (e2 : L2 = L1.set k ((X.withL a5 c5 R).withV a6 c6 J)) {Kc : List Bool} (hKc : Kc = BagEv.or X.K Y.K) (h2 : k < L2.length)
    (hR : IsBag R (Joined X.R Y.R (fun m => hasL X.V m.p m.n) (fun m => hasL Y.V m.p m.n))) (hV : IsVec J (fun q => max (ofL X.V q) (ofL Y.V q))) : Rel N (L2.set k (L2[k].withK Kc)) Es es (K3 K k o) (v3 v k o) := by
  subst e1
  have e3 : L2[k] = (X.withL a5 c5 R).withV a6 c6 J := by subst e2; exact set_get h2
  have e4 : L2.set k (L2[k].withK Kc) = Ls.set k (((X.withL a5 c5 R).withV a6 c6 J).withK Kc) := by rw [e3, e2, List.set_set, List.set_set]
  rw [e4]
  have hk2 : k < (Ls.set k (((X.withL a5 c5 R).withV a6 c6 J).withK Kc)).length := by rw [List.length_set]; exact hkl
  refine h.join hk ho (by rw [List.length_set]; exact h.len) (fun j hj => ?_) (fun j h1 h2 e => ?_) hkl hol hk2 ?_ ?_
  · rw [List.getElem_set]
    unfold K3
    split
    · rename_i e
      subst e
      rw [if_pos rfl]
      show Kc = _
      rw [hKc, hX, hY, h.knew k hkl, h.knew o hol]
    · rename_i e
      rw [if_neg (fun e' => e e'.symm)]
      exact h.knew j (by rw [List.length_set] at hj; exact hj)
  · rw [List.getElem_set, if_neg (fun e' => e e'.symm)]
    exact ⟨rfl, rfl⟩
  · rw [set_get hk2, ← hX, ← hY]; exact hR
  · rw [set_get hk2, ← hX, ← hY]; exact hV
theorem Rel.done {N : Nat} {Ls : List Rp} {Es : List Er} {es : List Ev} {K : Nat → List Bool} {v : Nat → Nat → Nat} (h : Rel N Ls Es es K v) {k : Nat} (hk : k < N) (hkl : k < Ls.length) {X : Rp} (hX : X = Ls[k]) {t : List UInt8} (ht : t = [97] ∨ t = [98] ∨ t = [99]) (p : Bool)
    {a8 a9 : Option Addr} {c8 c9 : Nat} {Q : List It} {J : List M} {L2 Lc : List Rp} (hL2 : L2 = Ls.set k ((X.withL a8 c8 Q).withV a9 c9 J)) (hl : Lc.length = N) (hLc : ∀ j (h1 : j < Lc.length) (h2 : j < L2.length), Lc[j].R = L2[j].R ∧ Lc[j].V = L2[j].V ∧ Lc[j].K = L2[j].K ++ [j == k])
    {nn : Nat} (hnn : nn = v k k) {pb : UInt8} (hpb : path k = [1, pb]) {n1 : Nat} (hn1 : n1 = if p then nn + 1 else 0) (hR : IsBag Q (fun t' m => (Has X.R t' m ∧ t' ≠ t) ∨ (p = true ∧ t' = t ∧ m = dot k (nn + 1)))) (hV : IsVec J (Dots.setF (ofL X.V) [1, pb] (nn + 1))) (sa : Option Addr) (sc : Nat) :
    Rel N Lc (Es ++ [⟨t, [1, pb], n1, sa, sc, X.K⟩]) (es ++ [BagEv.ev K v t k p]) (K1 K k) (v1 v k) := by
  have hl2 : L2.length = N := by rw [hL2, List.length_set]; exact h.len
  have hk2 : k < Lc.length := by rw [hl]; exact hk
  have hkL : k < L2.length := by rw [hl2]; exact hk
  have e2 : L2[k] = (X.withL a8 c8 Q).withV a9 c9 J := by subst hL2; exact set_get hkL
  have hKk : X.K = K k := by rw [hX]; exact h.knew k hkl
  have key := h.deed (Ls' := Lc) hk ht p hl (fun j hj => ?_) (fun j h1 h2 e => ?_) hkl hk2 ?_ ?_ sa sc
  · rw [hpb, ← hnn, ← hn1, ← hKk] at key
    exact key
  · have hj2 : j < L2.length := by rw [hl2, ← hl]; exact hj
    have hj1 : j < Ls.length := by rw [h.len, ← hl]; exact hj
    rw [(hLc j hj hj2).2.2]
    congr 1
    subst hL2
    rw [set_same Rp.K hkl hj1 hj2 (by rw [← hX]; rfl), h.knew j hj1]
  · have hj2 : j < L2.length := by rw [hl2, ← hl]; exact h2
    obtain ⟨r1, r2, -⟩ := hLc j h2 hj2
    rw [r1, r2]
    subst hL2
    rw [List.getElem_set, if_neg (fun e' => e e'.symm)]
    exact ⟨rfl, rfl⟩
  · obtain ⟨r1, -, -⟩ := hLc k hk2 hkL
    rw [r1, e2, ← hX, ← hnn]
    exact hR
  · obtain ⟨-, r2, -⟩ := hLc k hk2 hkL
    rw [r2, e2, ← hX, ← hnn, hpb]
    exact hV
theorem or_at {A C : List Bool} {i : Nat} (hi : i < A.length) (hc : i < C.length) (ho : i < (BagEv.or A C).length) : (BagEv.or A C)[i] = (A[i] || C[i]) := by simp only [BagEv.or, List.getElem_zipWith]
theorem or_step {A C : List Bool} (h : A.length = C.length) {i : Nat} (hi : i < A.length) (hc : i < C.length) : ((BagEv.or A C).take i ++ A.drop i).set i (A[i] || C[i]) = (BagEv.or A C).take (i + 1) ++ A.drop (i + 1) := by
  have hol : (BagEv.or A C).length = A.length := or_len h
  have ho : i < (BagEv.or A C).length := by omega
  have h1 : ((BagEv.or A C).take i).length = i := by rw [List.length_take]; omega
  rw [List.set_append_right _ _ (by omega), h1, Nat.sub_self, List.drop_eq_getElem_cons hi, List.set_cons_zero, List.take_succ_eq_append_getElem ho, or_at hi hc ho, List.append_assoc]
  rfl
theorem mid_at {A C : List Bool} (h : A.length = C.length) {i : Nat} (hi : i < A.length) (hm : i < ((BagEv.or A C).take i ++ A.drop i).length) : ((BagEv.or A C).take i ++ A.drop i)[i] = A[i] := by
  have hol : (BagEv.or A C).length = A.length := or_len h
  have h1 : ((BagEv.or A C).take i).length = i := by rw [List.length_take]; omega
  rw [List.getElem_append_right (by omega)]
  simp [h1]
/-- What a deed hands back. -/
def Did (N B rb : Nat) (n0 : Nat) (w : World) (e : Ending) (w' : World) : Prop := ∃ (aa : Option Addr) (ac : Nat) (Ls : List Rp) (Es : List Er) (es : List Ev) (K : Nat → List Bool) (v : Nat → Nat → Nat),
  e = .returned (.tuple #[.slice aa Es.length ac, .bool true]) ∧ Play none w' B rb (.slice aa Es.length ac) Ls Es ∧ Rel N Ls Es es K v ∧ es.length ≤ n0 + 1 ∧ Below B w w'

set_option maxRecDepth 100000 in
set_option maxHeartbeats 8000000 in
theorem does_join (N B rb : Nat) (Ls : List Rp) (Es : List Er) (es : List Ev) (K : Nat → List Bool) (v : Nat → Nat → Nat) (aa : Option Addr) (ac : Nat) (d n tx ot : Int) (w : World) (hd : 0 ≤ d ∧ d ≤ 255) (hn : 0 ≤ n ∧ n ≤ 255) (htx : 0 ≤ tx ∧ tx ≤ 255) (hot : 0 ≤ ot ∧ ot ≤ 255)
    (hP : Play none w B rb (.slice aa Es.length ac) Ls Es) (hR : Rel N Ls Es es K v) (hN : 1 ≤ N ∧ N ≤ 4) (he : es.length ≤ 60) (hB : B ≤ w.heap.size) (hd3 : d.tmod 4 = 3) :
    Calls Try.prog 19 #[.slice (some ⟨rb, 0, none⟩) N N, .slice aa Es.length ac, .agg #[.int .u8 d, .int .u8 n, .int .u8 tx, .int .u8 ot]] w (Did N B rb es.length w) := by
  obtain ⟨k, hk, ek⟩ := mod_is hn.1 hN.1
  obtain ⟨o, ho, eo⟩ := mod_is hot.1 hN.1
  obtain ⟨dd, hdd, ed⟩ := mod_is (N := 4) hd.1 (by decide)
  obtain ⟨rx, hrx, er⟩ := mod_is (N := 3) htx.1 (by decide)
  obtain ⟨tb, htb⟩ : ∃ b : UInt8, ((97 + rx : Nat) : Int) = (b.toNat : Int) := ⟨UInt8.ofNat (97 + rx), by rw [UInt8.toNat_ofNat']; omega⟩
  have HT3 : Hid ([tb] = [97] ∨ [tb] = [98] ∨ [tb] = [99]) := Lib.hid (by
    have key : ∀ m, tb.toNat = m → tb = UInt8.ofNat m := fun m h => by rw [← h, UInt8.ofNat_toNat]
    have h3 : rx = 0 ∨ rx = 1 ∨ rx = 2 := by omega
    rcases h3 with h | h | h
    · exact .inl (by rw [key 97 (by omega)]; rfl)
    · exact .inr (.inl (by rw [key 98 (by omega)]; rfl))
    · exact .inr (.inr (by rw [key 99 (by omega)]; rfl)))
  have hb := (Below.refl B w).alloc hB (.cells #[.int .u8 d, .int .u8 n, .int .u8 tx, .int .u8 ot] 53)
  have PL := Lib.hid (hP.below (balloc (Below.refl w.heap.size w) (.cells #[.int .u8 d, .int .u8 n, .int .u8 tx, .int .u8 ot] 53)))
  have x0 : (w.alloc (.cells #[.int .u8 d, .int .u8 n, .int .u8 tx, .int .u8 ot] 53)).cell? ⟨w.heap.size, 0, none⟩ = some (.int .u8 d) := by rw [World.cell?_alloc_new]; rfl
  have x1 : (w.alloc (.cells #[.int .u8 d, .int .u8 n, .int .u8 tx, .int .u8 ot] 53)).cell? ⟨w.heap.size, 1, none⟩ = some (.int .u8 n) := by rw [World.cell?_alloc_new]; rfl
  have x2 : (w.alloc (.cells #[.int .u8 d, .int .u8 n, .int .u8 tx, .int .u8 ot] 53)).cell? ⟨w.heap.size, 2, none⟩ = some (.int .u8 tx) := by rw [World.cell?_alloc_new]; rfl
  have x3 : (w.alloc (.cells #[.int .u8 d, .int .u8 n, .int .u8 tx, .int .u8 ot] 53)).cell? ⟨w.heap.size, 3, none⟩ = some (.int .u8 ot) := by rw [World.cell?_alloc_new]; rfl
  have HR := Lib.hid hR
  have HN := Lib.hid hN
  have HE := Lib.hid he
  have HB := Lib.hid hB
  have HK := Lib.hid hk
  have HO := Lib.hid ho
  have HTB := Lib.hid htb
  have n1 : IntKind.i64.wrap n = n := by rw [IntKind.wrap_i64]; omega
  have n2 : IntKind.i64.wrap ot = ot := by rw [IntKind.wrap_i64]; omega
  have n3 : IntKind.i64.wrap (k : Int) = (k : Int) := by rw [IntKind.wrap_i64]; omega
  have n4 : IntKind.i64.wrap (o : Int) = (o : Int) := by rw [IntKind.wrap_i64]; omega
  have n5 : ((N : Int) == 0) = false := by rw [beq_eq_false_iff_ne]; omega
  have n6 : (N == 0) = false := by rw [beq_eq_false_iff_ne]; omega
  have n7 : ¬ N = 0 := by omega
  clear hP hR hk ho hN he hB
  go_enter Try.func19, Try.ntmps19
  go_upto_region 1 with (fail)
  obtain ⟨w1, hw1⟩ : ∃ v, v = w.alloc (.cells #[.int .u8 d, .int .u8 n, .int .u8 tx, .int .u8 ot] 53) := ⟨_, rfl⟩
  rw [← hw1] at hb PL x0 x1 x2 x3 ⊢
  obtain ⟨xb, hxb⟩ : ∃ b, b = w.heap.size := ⟨_, rfl⟩
  rw [← hxb] at x0 x1 x2 x3 ⊢
  have HXB : Hid (B ≤ xb ∧ xb < w1.heap.size) := Lib.hid (by have := HB.out; rw [hxb, hw1, World.size_alloc]; omega)
  clear hw1 hxb
  go_upto_region 3 with (fail)
  have er3 : tx.tmod 3 = (rx : Int) := er
  have ed4 : d.tmod 4 = (dd : Int) := ed
  have h3 := hd3
  rw [ed4] at h3
  clear hd3
  have u1 : IntKind.u8.wrap (rx : Int) = (rx : Int) := by rw [IntKind.wrap_u8]; omega
  have u2 : IntKind.u8.wrap (97 + (rx : Int)) = 97 + (rx : Int) := by rw [IntKind.wrap_u8]; omega
  have u3 : IntKind.u8.wrap (dd : Int) = (dd : Int) := by rw [IntKind.wrap_u8]; omega
  have cv := Conv.conv1 (97 + (rx : Int)) tb (by rw [← htb]; push_cast; rfl) w1 w1.heap.size rfl
  go_upto_region 4 with (fail)
  have kT := balloc (Below.refl w1.heap.size w1) (.cells #[.int .u8 (97 + (rx : Int))] 5)
  obtain ⟨w2, hw2⟩ : ∃ v, v = w1.alloc (.cells #[.int .u8 (97 + (rx : Int))] 5) := ⟨_, rfl⟩
  rw [← hw2] at kT ⊢
  replace hb := hb.trans (kT.mono (Nat.le_trans HB.out hb.size))
  replace PL := Lib.hid (PL.out.below kT)
  replace x0 := Dots.keepC x0 kT
  obtain ⟨tbB, htbB⟩ : ∃ b, b = w1.heap.size := ⟨_, rfl⟩
  try rw [← htbB]
  have HXB2 : Hid (B ≤ xb ∧ xb < w2.heap.size) := Lib.hid ⟨HXB.out.1, Nat.lt_of_lt_of_le HXB.out.2 kT.size⟩
  have hkl : k < Ls.length := by rw [HR.out.len]; exact HK.out
  have hol : o < Ls.length := by rw [HR.out.len]; exact HO.out
  obtain ⟨X, hX⟩ : ∃ X, X = Ls[k] := ⟨_, rfl⟩
  obtain ⟨Y, hY⟩ : ∃ Y, Y = Ls[o] := ⟨_, rfl⟩
  have HX := Lib.hid hX
  have HY := Lib.hid hY
  have HKL := Lib.hid hkl
  have HOL := Lib.hid hol
  have j1 : (0 : Int) ≤ (k : Int) := by omega
  have j2 : (k : Int) < (N : Int) := by have := HK.out; omega
  have j3 : (0 : Int) ≤ (o : Int) := by omega
  have j4 : (o : Int) < (N : Int) := by have := HO.out; omega
  clear hw2 kT htbB x1 x2 x3 cv htb u1 u2 er3 er hX hY n1 n2 ek eo ed HXB hd hn htx hot
  replace h3 : dd = 3 := by omega
  · subst h3
    have hpc := PL.out.cells HKL.out
    have hpo := PL.out.cells HOL.out
    rw [← HX.out] at hpc
    rw [← HY.out] at hpo
    unfold Rp.lv Rp.vv Rp.kv at hpc hpo
    obtain ⟨c0, c1, -⟩ := hpc
    obtain ⟨o0, o1, -⟩ := hpo
    have FK : Hid (Fine X.R ∧ (pls X.R).length ≤ 100 ∧ X.R.length ≤ 100 ∧ Ok X.V ∧ X.V.length ≤ 256) := Lib.hid (by rw [HX.out]; exact HR.out.few hkl HE.out)
    have FO : Hid (Fine Y.R ∧ (pls Y.R).length ≤ 100 ∧ Y.R.length ≤ 100 ∧ Ok Y.V ∧ Y.V.length ≤ 256) := Lib.hid (by rw [HY.out]; exact HR.out.few hol HE.out)
    have JN : Hid (∀ W, Play none W B rb (.slice aa Es.length ac) Ls Es → Calls Try.prog 10 #[.slice X.la X.R.length X.lc, .slice X.va X.V.length X.vc, .slice Y.la Y.R.length Y.lc, .slice Y.va Y.V.length Y.vc] W (Got (Joined X.R Y.R (fun m => hasL X.V m.p m.n) (fun m => hasL Y.V m.p m.n)) ((pls X.R).length + (pls Y.R).length) W)) := Lib.hid (fun W hp =>
      bjoin (by rw [HX.out]; exact hp.bag _ (List.getElem_mem hkl)) (by rw [HY.out]; exact hp.bag _ (List.getElem_mem hol)) (by rw [HX.out]; exact hp.vec _ (List.getElem_mem hkl)) (by rw [HY.out]; exact hp.vec _ (List.getElem_mem hol)) FK.out FO.out)
    go_upto_region 5 with (fail)
    go_cut [] (fun wx => ∃ (a : Option Addr) (cc : Nat) (R : List It), Hid (Play none wx B rb (.slice aa Es.length ac) (Ls.set k (X.withL a cc R)) Es) ∧ Hid (IsBag R (Joined X.R Y.R (fun m => hasL X.V m.p m.n) (fun m => hasL Y.V m.p m.n))) ∧ Below B w wx)
    case first =>
      have PD := Lib.hid (PL.out.below (Below.drew (Below.refl _ _)))
      replace c0 := Dots.keepC c0 (Below.drew (Below.refl _ _))
      replace o0 := Dots.keepC o0 (Below.drew (Below.refl _ _))
      go_wp2_with fail
      refine wp_region_noPanic ?_
      refine wp_region_held_drew (S := (fun w' => Below B w w' ∧ w'.cell? ⟨rb, k * 3 + 1, none⟩ = some (.slice X.va X.V.length X.vc) ∧ w'.cell? ⟨rb, o * 3 + 1, none⟩ = some (.slice Y.va Y.V.length Y.vc))) (by kernel_rfl) (⟨Below.drew hb, Dots.keepC c1 (Below.drew (Below.refl _ _)), Dots.keepC o1 (Below.drew (Below.refl _ _))⟩) (fun hHeld => ?_)
      refine wpAnyH_take (i := 0) (v := ?_) (by simp only [List.getElem?_toArray, List.getElem?_cons_zero]; rfl) (by kernel_rfl) (by kernel_rfl) (by kernel_rfl) (fun _ _ _ h => h) (Or.inl ⟨by rfl, ?_⟩) (by assumption) ?_
      rotate_left
      · (intro w hSw; (try dsimp only at hSw); go_simp; try with_reducible rfl)
      try simp only [Act.put, List.setIfInBounds_toArray, List.set_cons_zero, List.set_cons_succ]
      refine wpAnyH_take (i := 1) (v := ?_) (by simp only [List.getElem?_toArray, List.getElem?_cons_succ, List.getElem?_cons_zero]; rfl) (by kernel_rfl) (by kernel_rfl) (by kernel_rfl) (fun _ _ _ h => h) (Or.inl ⟨by rfl, ?_⟩) (by assumption) ?_
      rotate_left
      · (intro w hSw; (try dsimp only at hSw); go_simp; try with_reducible rfl)
      try simp only [Act.put, List.setIfInBounds_toArray, List.set_cons_zero, List.set_cons_succ]
      refine wpAnyH_take (i := 2) (v := ?_) (by simp only [List.getElem?_toArray, List.getElem?_cons_succ, List.getElem?_cons_zero]; rfl) (by kernel_rfl) (by kernel_rfl) (by kernel_rfl) (fun _ _ _ h => h) (Or.inl ⟨by rfl, ?_⟩) (by assumption) ?_
      rotate_left
      · (intro w hSw; (try dsimp only at hSw); go_simp; try with_reducible rfl)
      try simp only [Act.put, List.setIfInBounds_toArray, List.set_cons_zero, List.set_cons_succ]
      refine wpAnyH_take (i := 3) (v := ?_) (by simp only [List.getElem?_toArray, List.getElem?_cons_succ, List.getElem?_cons_zero]; rfl) (by kernel_rfl) (by kernel_rfl) (by kernel_rfl) (fun _ _ _ h => h) (Or.inl ⟨by rfl, ?_⟩) (by assumption) ?_
      rotate_left
      · (intro w hSw; (try dsimp only at hSw); go_simp; try with_reducible rfl)
      try simp only [Act.put, List.setIfInBounds_toArray, List.set_cons_zero, List.set_cons_succ]
      refine wpAnyH_take (i := 4) (v := ?_) (by simp only [List.getElem?_toArray, List.getElem?_cons_succ, List.getElem?_cons_zero]; rfl) (by kernel_rfl) (by kernel_rfl) (by kernel_rfl) (fun _ _ _ h => h) (Or.inl ⟨by rfl, ?_⟩) (by assumption) ?_
      rotate_left
      · (intro w hSw; (try dsimp only at hSw); go_simp; try with_reducible rfl)
      try simp only [Act.put, List.setIfInBounds_toArray, List.set_cons_zero, List.set_cons_succ]
      refine wpAnyH_take (i := 5) (v := ?_) (by simp only [List.getElem?_toArray, List.getElem?_cons_succ, List.getElem?_cons_zero]; rfl) (by kernel_rfl) (by kernel_rfl) (by kernel_rfl) (fun _ _ _ h => h) (Or.inl ⟨by rfl, ?_⟩) (by assumption) ?_
      rotate_left
      · (intro w hSw; (try dsimp only at hSw); go_simp; try with_reducible rfl)
      try simp only [Act.put, List.setIfInBounds_toArray, List.set_cons_zero, List.set_cons_succ]
      refine wpAnyH_take (i := 7) (v := ?_) (by simp only [List.getElem?_toArray, List.getElem?_cons_succ, List.getElem?_cons_zero]; rfl) (by kernel_rfl) (by kernel_rfl) (by kernel_rfl) (fun _ _ _ h => h) (Or.inl ⟨by rfl, ?_⟩) (by assumption) ?_
      rotate_left
      · (intro w hSw; (try dsimp only at hSw); go_simp; try with_reducible rfl)
      try simp only [Act.put, List.setIfInBounds_toArray, List.set_cons_zero, List.set_cons_succ]
      refine wpAnyH_take (i := 8) (v := ?_) (by simp only [List.getElem?_toArray, List.getElem?_cons_succ, List.getElem?_cons_zero]; rfl) (by kernel_rfl) (by kernel_rfl) (by kernel_rfl) (fun _ _ _ h => h) (Or.inl ⟨by rfl, ?_⟩) (by assumption) ?_
      rotate_left
      · (intro w hSw; (try dsimp only at hSw); go_simp; try with_reducible rfl)
      try simp only [Act.put, List.setIfInBounds_toArray, List.set_cons_zero, List.set_cons_succ]
      refine wpAnyH_take (i := 9) (v := ?_) (by simp only [List.getElem?_toArray, List.getElem?_cons_succ, List.getElem?_cons_zero]; rfl) (by kernel_rfl) (by kernel_rfl) (by kernel_rfl) (fun _ _ _ h => h) (Or.inl ⟨by rfl, ?_⟩) (by assumption) ?_
      rotate_left
      · (intro w hSw; (try dsimp only at hSw); go_simp; try with_reducible rfl)
      try simp only [Act.put, List.setIfInBounds_toArray, List.set_cons_zero, List.set_cons_succ]
      refine wpAnyH_take (i := 10) (v := ?_) (by simp only [List.getElem?_toArray, List.getElem?_cons_succ, List.getElem?_cons_zero]; rfl) (by kernel_rfl) (by kernel_rfl) (by kernel_rfl) (fun _ _ _ h => h) (Or.inl ⟨by rfl, ?_⟩) (by assumption) ?_
      rotate_left
      · (intro w hSw; (try dsimp only at hSw); go_simp; try with_reducible rfl)
      try simp only [Act.put, List.setIfInBounds_toArray, List.set_cons_zero, List.set_cons_succ]
      refine wpAnyH_take (i := 11) (v := ?_) (by simp only [List.getElem?_toArray, List.getElem?_cons_succ, List.getElem?_cons_zero]; rfl) (by kernel_rfl) (by kernel_rfl) (by kernel_rfl) (fun _ _ _ h => h) (Or.inl ⟨by rfl, ?_⟩) (by assumption) ?_
      rotate_left
      · (intro w hSw; (try dsimp only at hSw); go_simp; try with_reducible rfl)
      try simp only [Act.put, List.setIfInBounds_toArray, List.set_cons_zero, List.set_cons_succ]
      refine wpAnyH_take (i := 12) (v := ?_) (by simp only [List.getElem?_toArray, List.getElem?_cons_succ, List.getElem?_cons_zero]; rfl) (by kernel_rfl) (by kernel_rfl) (by kernel_rfl) (fun _ _ _ h => h) (Or.inl ⟨by rfl, ?_⟩) (by assumption) ?_
      rotate_left
      · (intro w hSw; (try dsimp only at hSw); go_simp; try with_reducible rfl)
      try simp only [Act.put, List.setIfInBounds_toArray, List.set_cons_zero, List.set_cons_succ]
      refine wpAnyH_take (i := 13) (v := ?_) (by simp only [List.getElem?_toArray, List.getElem?_cons_succ, List.getElem?_cons_zero]; rfl) (by kernel_rfl) (by kernel_rfl) (by kernel_rfl) (fun _ _ _ h => h) (Or.inl ⟨by rfl, ?_⟩) (by assumption) ?_
      rotate_left
      · (intro w hSw; (try dsimp only at hSw); go_simp; try with_reducible rfl)
      try simp only [Act.put, List.setIfInBounds_toArray, List.set_cons_zero, List.set_cons_succ]
      refine wpAnyH_take (i := 14) (v := ?_) (by simp only [List.getElem?_toArray, List.getElem?_cons_succ, List.getElem?_cons_zero]; rfl) (by kernel_rfl) (by kernel_rfl) (by kernel_rfl) (fun _ _ _ h => h) (Or.inl ⟨by rfl, ?_⟩) (by assumption) ?_
      rotate_left
      · (intro w hSw; (try dsimp only at hSw); go_simp; try with_reducible rfl)
      try simp only [Act.put, List.setIfInBounds_toArray, List.set_cons_zero, List.set_cons_succ]
      refine wpAnyH_take (i := 15) (v := ?_) (by simp only [List.getElem?_toArray, List.getElem?_cons_succ, List.getElem?_cons_zero]; rfl) (by kernel_rfl) (by kernel_rfl) (by kernel_rfl) (fun _ _ _ h => h) (Or.inl ⟨by rfl, ?_⟩) (by assumption) ?_
      rotate_left
      · (intro w hSw; (try dsimp only at hSw); go_simp; try with_reducible rfl)
      try simp only [Act.put, List.setIfInBounds_toArray, List.set_cons_zero, List.set_cons_succ]
      refine wpAnyH_take (i := 17) (v := ?_) (by simp only [List.getElem?_toArray, List.getElem?_cons_succ, List.getElem?_cons_zero]; rfl) (by kernel_rfl) (by kernel_rfl) (by kernel_rfl) (fun _ _ _ h => h) (Or.inl ⟨by rfl, ?_⟩) (by assumption) ?_
      rotate_left
      · (intro w hSw; (try dsimp only at hSw); go_simp; try with_reducible rfl)
      try simp only [Act.put, List.setIfInBounds_toArray, List.set_cons_zero, List.set_cons_succ]
      refine wpAnyH_take (i := 18) (v := ?_) (by simp only [List.getElem?_toArray, List.getElem?_cons_succ, List.getElem?_cons_zero]; rfl) (by kernel_rfl) (by kernel_rfl) (by kernel_rfl) (fun _ _ _ h => h) (Or.inl ⟨by rfl, ?_⟩) (by assumption) ?_
      rotate_left
      · (intro w hSw; (try dsimp only at hSw); go_simp; try with_reducible rfl)
      try simp only [Act.put, List.setIfInBounds_toArray, List.set_cons_zero, List.set_cons_succ]
      refine wpAnyH_take (i := 19) (v := ?_) (by simp only [List.getElem?_toArray, List.getElem?_cons_succ, List.getElem?_cons_zero]; rfl) (by kernel_rfl) (by kernel_rfl) (by kernel_rfl) (fun _ _ _ h => h) (Or.inl ⟨by rfl, ?_⟩) (by assumption) ?_
      rotate_left
      · (intro w hSw; (try dsimp only at hSw); go_simp; try with_reducible rfl)
      try simp only [Act.put, List.setIfInBounds_toArray, List.set_cons_zero, List.set_cons_succ]
      refine wpAnyH_take (i := 20) (v := ?_) (by simp only [List.getElem?_toArray, List.getElem?_cons_succ, List.getElem?_cons_zero]; rfl) (by kernel_rfl) (by kernel_rfl) (by kernel_rfl) (fun _ _ _ h => h) (Or.inl ⟨by rfl, ?_⟩) (by assumption) ?_
      rotate_left
      · (intro w hSw; (try dsimp only at hSw); go_simp; try with_reducible rfl)
      try simp only [Act.put, List.setIfInBounds_toArray, List.set_cons_zero, List.set_cons_succ]
      refine wpAnyH_take (i := 21) (v := ?_) (by simp only [List.getElem?_toArray, List.getElem?_cons_succ, List.getElem?_cons_zero]; rfl) (by kernel_rfl) (by kernel_rfl) (by kernel_rfl) (fun _ _ _ h => h) (Or.inl ⟨by rfl, ?_⟩) (by assumption) ?_
      rotate_left
      · (intro w hSw; (try dsimp only at hSw); go_simp; try with_reducible rfl)
      try simp only [Act.put, List.setIfInBounds_toArray, List.set_cons_zero, List.set_cons_succ]
      refine wpAnyH_ready (rs := [6, 16]) (by kernel_rfl) (by simp) ?_
      refine AllReadyH.cons (by simp only [List.getElem?_toArray, List.getElem?_cons_succ, List.getElem?_cons_zero]; rfl) (fun K hK => ?_) (AllReadyH.cons (by simp only [List.getElem?_toArray, List.getElem?_cons_succ, List.getElem?_cons_zero]; rfl) (fun K hK => ?_) (AllReadyH.nil))
      · skip
        go_simp
        refine hK.out _ _ (hHeld) (fun hHeld => ?_)
        clear hK K
        try simp only [Act.put, List.setIfInBounds_toArray, List.set_cons_zero, List.set_cons_succ]
        refine wpAnyH_ready (rs := [16]) (by kernel_rfl) (by simp) ?_
        refine AllReadyH.cons (by simp only [List.getElem?_toArray, List.getElem?_cons_succ, List.getElem?_cons_zero]; rfl) (fun K hK => ?_) AllReadyH.nil
        go_simp
        refine hK.out _ _ (hHeld) (fun hHeld => ?_)
        clear hK K
        try simp only [Act.put, List.setIfInBounds_toArray, List.set_cons_zero, List.set_cons_succ]
        refine wpAnyH_ready (rs := [22]) (by kernel_rfl) (by simp) ?_
        refine AllReadyH.cons (by simp only [List.getElem?_toArray, List.getElem?_cons_succ, List.getElem?_cons_zero]; rfl) (fun K hK => ?_) AllReadyH.nil
        go_simp
        go_at_call 10
        refine (JN.out _ PD.out).mono ?_
        rintro e v22 ⟨a22, c22, R22, rfl, hR22, -, hH22, k22⟩
        have H22 := Lib.hid hR22
        have HH22 := Lib.hid (hH22.base (Nat.le_trans HB.out hHeld.1.size))
        have P22 := Lib.hid (PD.out.below k22)
        have f22 := P22.out.frozen (k * 3)
        have i22 := Dots.keepC c0 k22
        clear hR22 hH22
        go_wp2_with fail
        refine hK.out _ _ (⟨(hHeld.1.trans (k22.mono (Nat.le_trans HB.out hHeld.1.size))), Dots.keepC hHeld.2.1 k22, Dots.keepC hHeld.2.2 k22⟩) (fun hHeld => ?_)
        clear hK K
        try simp only [Act.put, List.setIfInBounds_toArray, List.set_cons_zero, List.set_cons_succ]
        refine wpAnyH_take (i := 23) (v := ?_) (by simp only [List.getElem?_toArray, List.getElem?_cons_succ, List.getElem?_cons_zero]; rfl) (by kernel_rfl) (by kernel_rfl) (by kernel_rfl) (fun _ _ _ h => h) (Or.inl ⟨by rfl, ?_⟩) (by assumption) ?_
        rotate_left
        · (intro w hSw; (try dsimp only at hSw); go_simp; try with_reducible rfl)
        try simp only [Act.put, List.setIfInBounds_toArray, List.set_cons_zero, List.set_cons_succ]
        refine wpAnyH_take (i := 24) (v := ?_) (by simp only [List.getElem?_toArray, List.getElem?_cons_succ, List.getElem?_cons_zero]; rfl) (by kernel_rfl) (by kernel_rfl) (by kernel_rfl) (fun _ _ _ h => h) (Or.inl ⟨by rfl, ?_⟩) (by assumption) ?_
        rotate_left
        · (intro w hSw; (try dsimp only at hSw); go_simp; try with_reducible rfl)
        try simp only [Act.put, List.setIfInBounds_toArray, List.set_cons_zero, List.set_cons_succ]
        refine wpAnyH_ready (rs := [25]) (by kernel_rfl) (by simp) ?_
        refine AllReadyH.cons (by simp only [List.getElem?_toArray, List.getElem?_cons_succ, List.getElem?_cons_zero]; rfl) (fun K hK => ?_) AllReadyH.nil
        go_simp
        obtain ⟨p25, g25⟩ := P22.out.setL HKL.out HH22.out
        rw [← HX.out] at p25
        have P25 := Lib.hid p25
        have hb25 := Below.grown hHeld.1 g25 (Nat.le_trans HB.out hHeld.1.size) (fun q e => by cases e; obtain ⟨_, _, h9⟩ := P22.out.own; exact h9)
        clear p25 g25
        refine hK.out _ _ (⟨hb25, by rw [World.cell?_setCell_other (h := by simp)]; exact hHeld.2.1, by rw [World.cell?_setCell_other (h := by simp; try omega)]; exact hHeld.2.2⟩) (fun hHeld => ?_)
        clear hK K
        refine wpAnyH_done (by kernel_rfl) ?_ _
        refine NoPanic.normal ?_
        clear hHeld
        go_wp2_with fail
        go_meet
        exact ⟨a22, c22, R22, P25, H22, hb25⟩
      · skip
        go_simp
        refine hK.out _ _ (hHeld) (fun hHeld => ?_)
        clear hK K
        try simp only [Act.put, List.setIfInBounds_toArray, List.set_cons_zero, List.set_cons_succ]
        refine wpAnyH_ready (rs := [6]) (by kernel_rfl) (by simp) ?_
        refine AllReadyH.cons (by simp only [List.getElem?_toArray, List.getElem?_cons_succ, List.getElem?_cons_zero]; rfl) (fun K hK => ?_) AllReadyH.nil
        go_simp
        refine hK.out _ _ (hHeld) (fun hHeld => ?_)
        clear hK K
        try simp only [Act.put, List.setIfInBounds_toArray, List.set_cons_zero, List.set_cons_succ]
        refine wpAnyH_ready (rs := [22]) (by kernel_rfl) (by simp) ?_
        refine AllReadyH.cons (by simp only [List.getElem?_toArray, List.getElem?_cons_succ, List.getElem?_cons_zero]; rfl) (fun K hK => ?_) AllReadyH.nil
        go_simp
        go_at_call 10
        refine (JN.out _ PD.out).mono ?_
        rintro e v22 ⟨a22, c22, R22, rfl, hR22, -, hH22, k22⟩
        have H22 := Lib.hid hR22
        have HH22 := Lib.hid (hH22.base (Nat.le_trans HB.out hHeld.1.size))
        have P22 := Lib.hid (PD.out.below k22)
        have f22 := P22.out.frozen (k * 3)
        have i22 := Dots.keepC c0 k22
        clear hR22 hH22
        go_wp2_with fail
        refine hK.out _ _ (⟨(hHeld.1.trans (k22.mono (Nat.le_trans HB.out hHeld.1.size))), Dots.keepC hHeld.2.1 k22, Dots.keepC hHeld.2.2 k22⟩) (fun hHeld => ?_)
        clear hK K
        try simp only [Act.put, List.setIfInBounds_toArray, List.set_cons_zero, List.set_cons_succ]
        refine wpAnyH_take (i := 23) (v := ?_) (by simp only [List.getElem?_toArray, List.getElem?_cons_succ, List.getElem?_cons_zero]; rfl) (by kernel_rfl) (by kernel_rfl) (by kernel_rfl) (fun _ _ _ h => h) (Or.inl ⟨by rfl, ?_⟩) (by assumption) ?_
        rotate_left
        · (intro w hSw; (try dsimp only at hSw); go_simp; try with_reducible rfl)
        try simp only [Act.put, List.setIfInBounds_toArray, List.set_cons_zero, List.set_cons_succ]
        refine wpAnyH_take (i := 24) (v := ?_) (by simp only [List.getElem?_toArray, List.getElem?_cons_succ, List.getElem?_cons_zero]; rfl) (by kernel_rfl) (by kernel_rfl) (by kernel_rfl) (fun _ _ _ h => h) (Or.inl ⟨by rfl, ?_⟩) (by assumption) ?_
        rotate_left
        · (intro w hSw; (try dsimp only at hSw); go_simp; try with_reducible rfl)
        try simp only [Act.put, List.setIfInBounds_toArray, List.set_cons_zero, List.set_cons_succ]
        refine wpAnyH_ready (rs := [25]) (by kernel_rfl) (by simp) ?_
        refine AllReadyH.cons (by simp only [List.getElem?_toArray, List.getElem?_cons_succ, List.getElem?_cons_zero]; rfl) (fun K hK => ?_) AllReadyH.nil
        go_simp
        obtain ⟨p25, g25⟩ := P22.out.setL HKL.out HH22.out
        rw [← HX.out] at p25
        have P25 := Lib.hid p25
        have hb25 := Below.grown hHeld.1 g25 (Nat.le_trans HB.out hHeld.1.size) (fun q e => by cases e; obtain ⟨_, _, h9⟩ := P22.out.own; exact h9)
        clear p25 g25
        refine hK.out _ _ (⟨hb25, by rw [World.cell?_setCell_other (h := by simp)]; exact hHeld.2.1, by rw [World.cell?_setCell_other (h := by simp; try omega)]; exact hHeld.2.2⟩) (fun hHeld => ?_)
        clear hK K
        refine wpAnyH_done (by kernel_rfl) ?_ _
        refine NoPanic.normal ?_
        clear hHeld
        go_wp2_with fail
        go_meet
        exact ⟨a22, c22, R22, P25, H22, hb25⟩
    clear hb PL c0 c1 o0 o1 JN
    obtain ⟨a5, c5, R5, PL, HR5, hb⟩ := hcut
    obtain ⟨L1, hL1⟩ : ∃ L, L = Ls.set k (X.withL a5 c5 R5) := ⟨_, rfl⟩
    rw [← hL1] at PL
    have h1k : k < L1.length := by rw [hL1, List.length_set]; exact hkl
    have h1o : o < L1.length := by rw [hL1, List.length_set]; exact hol
    have H1K : Hid (L1[k] = X.withL a5 c5 R5) := Lib.hid (by subst hL1; exact set_get h1k)
    have H1O : Hid (L1[o].vv = Y.vv ∧ L1[o].V = Y.V ∧ L1[o].kv = Y.kv ∧ L1[o].K = Y.K) := Lib.hid (by
      subst hL1
      rw [HY.out]
      have hx := HX.out
      exact ⟨set_same Rp.vv hkl hol h1o (by rw [hx]; rfl), set_same Rp.V hkl hol h1o (by rw [hx]; rfl), set_same Rp.kv hkl hol h1o (by rw [hx]; rfl), set_same Rp.K hkl hol h1o (by rw [hx]; rfl)⟩)
    have HL1 : Hid (L1 = Ls.set k (X.withL a5 c5 R5)) := Lib.hid hL1
    clear hL1
    replace PL := Lib.hid PL.out
    have hpc := PL.out.cells h1k
    have hpo := PL.out.cells h1o
    rw [H1K.out] at hpc
    rw [H1O.out.1] at hpo
    unfold Rp.vv at hpo
    unfold Rp.vv Rp.withL at hpc
    obtain ⟨-, c1, -⟩ := hpc
    obtain ⟨-, o1, -⟩ := hpo
    simp only at c1
    have DJ : Hid (∀ W, Play none W B rb (.slice aa Es.length ac) L1 Es → Calls Try.prog 21 #[.slice X.va X.V.length X.vc, .slice Y.va Y.V.length Y.vc] W fun e w' => ∃ a c J, e = .returned (.slice a J.length c) ∧ IsVec J (fun q => max (ofL X.V q) (ofL Y.V q)) ∧ Mark.Own w' W.heap.size (.slice a J.length c) J ∧ Below W.heap.size W w') := Lib.hid (fun W hp =>
      djoin (by have h9 := hp.vec _ (List.getElem_mem h1k); rw [H1K.out] at h9; exact h9) (by have h9 := hp.vec _ (List.getElem_mem h1o); rw [H1O.out.1, H1O.out.2.1] at h9; exact h9) FK.out.2.2.2.2 FO.out.2.2.2.2)
    go_upto_region 6 with (fail)
    go_cut [] (fun wx => ∃ (a : Option Addr) (cc : Nat) (J : List M), Hid (Play none wx B rb (.slice aa Es.length ac) (L1.set k (L1[k].withV a cc J)) Es) ∧ Hid (IsVec J (fun q => max (ofL X.V q) (ofL Y.V q))) ∧ Below B wc wx)
    case first =>
      have PD := Lib.hid (PL.out.below (Below.drew (Below.refl _ _)))
      replace c1 := Dots.keepC c1 (Below.drew (Below.refl _ _))
      replace o1 := Dots.keepC o1 (Below.drew (Below.refl _ _))
      have hB6 : B ≤ wc.heap.size := Nat.le_trans HB.out hb.size
      go_wp2_with fail
      refine wp_region_noPanic ?_
      refine wp_region_held_drew (S := (fun w' => Below B wc w')) (by kernel_rfl) (Below.drew (Below.refl _ _)) (fun hHeld => ?_)
      refine wpAnyH_take (i := 0) (v := ?_) (by simp only [List.getElem?_toArray, List.getElem?_cons_zero]; rfl) (by kernel_rfl) (by kernel_rfl) (by kernel_rfl) (fun _ _ _ h => h) (Or.inl ⟨by rfl, ?_⟩) (by assumption) ?_
      rotate_left
      · (intro w hSw; (try dsimp only at hSw); go_simp; try with_reducible rfl)
      try simp only [Act.put, List.setIfInBounds_toArray, List.set_cons_zero, List.set_cons_succ]
      refine wpAnyH_take (i := 1) (v := ?_) (by simp only [List.getElem?_toArray, List.getElem?_cons_succ, List.getElem?_cons_zero]; rfl) (by kernel_rfl) (by kernel_rfl) (by kernel_rfl) (fun _ _ _ h => h) (Or.inl ⟨by rfl, ?_⟩) (by assumption) ?_
      rotate_left
      · (intro w hSw; (try dsimp only at hSw); go_simp; try with_reducible rfl)
      try simp only [Act.put, List.setIfInBounds_toArray, List.set_cons_zero, List.set_cons_succ]
      refine wpAnyH_take (i := 2) (v := ?_) (by simp only [List.getElem?_toArray, List.getElem?_cons_succ, List.getElem?_cons_zero]; rfl) (by kernel_rfl) (by kernel_rfl) (by kernel_rfl) (fun _ _ _ h => h) (Or.inl ⟨by rfl, ?_⟩) (by assumption) ?_
      rotate_left
      · (intro w hSw; (try dsimp only at hSw); go_simp; try with_reducible rfl)
      try simp only [Act.put, List.setIfInBounds_toArray, List.set_cons_zero, List.set_cons_succ]
      refine wpAnyH_take (i := 3) (v := ?_) (by simp only [List.getElem?_toArray, List.getElem?_cons_succ, List.getElem?_cons_zero]; rfl) (by kernel_rfl) (by kernel_rfl) (by kernel_rfl) (fun _ _ _ h => h) (Or.inl ⟨by rfl, ?_⟩) (by assumption) ?_
      rotate_left
      · (intro w hSw; (try dsimp only at hSw); go_simp; try with_reducible rfl)
      try simp only [Act.put, List.setIfInBounds_toArray, List.set_cons_zero, List.set_cons_succ]
      refine wpAnyH_take (i := 4) (v := ?_) (by simp only [List.getElem?_toArray, List.getElem?_cons_succ, List.getElem?_cons_zero]; rfl) (by kernel_rfl) (by kernel_rfl) (by kernel_rfl) (fun _ _ _ h => h) (Or.inl ⟨by rfl, ?_⟩) (by assumption) ?_
      rotate_left
      · (intro w hSw; (try dsimp only at hSw); go_simp; try with_reducible rfl)
      try simp only [Act.put, List.setIfInBounds_toArray, List.set_cons_zero, List.set_cons_succ]
      refine wpAnyH_take (i := 5) (v := ?_) (by simp only [List.getElem?_toArray, List.getElem?_cons_succ, List.getElem?_cons_zero]; rfl) (by kernel_rfl) (by kernel_rfl) (by kernel_rfl) (fun _ _ _ h => h) (Or.inl ⟨by rfl, ?_⟩) (by assumption) ?_
      rotate_left
      · (intro w hSw; (try dsimp only at hSw); go_simp; try with_reducible rfl)
      try simp only [Act.put, List.setIfInBounds_toArray, List.set_cons_zero, List.set_cons_succ]
      refine wpAnyH_take (i := 7) (v := ?_) (by simp only [List.getElem?_toArray, List.getElem?_cons_succ, List.getElem?_cons_zero]; rfl) (by kernel_rfl) (by kernel_rfl) (by kernel_rfl) (fun _ _ _ h => h) (Or.inl ⟨by rfl, ?_⟩) (by assumption) ?_
      rotate_left
      · (intro w hSw; (try dsimp only at hSw); go_simp; try with_reducible rfl)
      try simp only [Act.put, List.setIfInBounds_toArray, List.set_cons_zero, List.set_cons_succ]
      refine wpAnyH_take (i := 8) (v := ?_) (by simp only [List.getElem?_toArray, List.getElem?_cons_succ, List.getElem?_cons_zero]; rfl) (by kernel_rfl) (by kernel_rfl) (by kernel_rfl) (fun _ _ _ h => h) (Or.inl ⟨by rfl, ?_⟩) (by assumption) ?_
      rotate_left
      · (intro w hSw; (try dsimp only at hSw); go_simp; try with_reducible rfl)
      try simp only [Act.put, List.setIfInBounds_toArray, List.set_cons_zero, List.set_cons_succ]
      refine wpAnyH_take (i := 9) (v := ?_) (by simp only [List.getElem?_toArray, List.getElem?_cons_succ, List.getElem?_cons_zero]; rfl) (by kernel_rfl) (by kernel_rfl) (by kernel_rfl) (fun _ _ _ h => h) (Or.inl ⟨by rfl, ?_⟩) (by assumption) ?_
      rotate_left
      · (intro w hSw; (try dsimp only at hSw); go_simp; try with_reducible rfl)
      try simp only [Act.put, List.setIfInBounds_toArray, List.set_cons_zero, List.set_cons_succ]
      refine wpAnyH_take (i := 10) (v := ?_) (by simp only [List.getElem?_toArray, List.getElem?_cons_succ, List.getElem?_cons_zero]; rfl) (by kernel_rfl) (by kernel_rfl) (by kernel_rfl) (fun _ _ _ h => h) (Or.inl ⟨by rfl, ?_⟩) (by assumption) ?_
      rotate_left
      · (intro w hSw; (try dsimp only at hSw); go_simp; try with_reducible rfl)
      try simp only [Act.put, List.setIfInBounds_toArray, List.set_cons_zero, List.set_cons_succ]
      refine wpAnyH_ready (rs := [6, 11]) (by kernel_rfl) (by simp) ?_
      refine AllReadyH.cons (by simp only [List.getElem?_toArray, List.getElem?_cons_succ, List.getElem?_cons_zero]; rfl) (fun K hK => ?_) (AllReadyH.cons (by simp only [List.getElem?_toArray, List.getElem?_cons_succ, List.getElem?_cons_zero]; rfl) (fun K hK => ?_) (AllReadyH.nil))
      · skip
        go_simp
        refine hK.out _ _ (hHeld) (fun hHeld => ?_)
        clear hK K
        try simp only [Act.put, List.setIfInBounds_toArray, List.set_cons_zero, List.set_cons_succ]
        refine wpAnyH_ready (rs := [11]) (by kernel_rfl) (by simp) ?_
        refine AllReadyH.cons (by simp only [List.getElem?_toArray, List.getElem?_cons_succ, List.getElem?_cons_zero]; rfl) (fun K hK => ?_) AllReadyH.nil
        go_simp
        refine hK.out _ _ (hHeld) (fun hHeld => ?_)
        clear hK K
        try simp only [Act.put, List.setIfInBounds_toArray, List.set_cons_zero, List.set_cons_succ]
        refine wpAnyH_ready (rs := [12]) (by kernel_rfl) (by simp) ?_
        refine AllReadyH.cons (by simp only [List.getElem?_toArray, List.getElem?_cons_succ, List.getElem?_cons_zero]; rfl) (fun K hK => ?_) AllReadyH.nil
        go_simp
        go_at_call 21
        refine (DJ.out _ PD.out).mono ?_
        rintro e v12 ⟨a12, c12, J12, rfl, hV12, hO12, k12⟩
        have H12 := Lib.hid hV12
        have HH12 := Lib.hid (Mark.Own.base hO12 (Nat.le_trans hB6 hHeld.size))
        have P12 := Lib.hid (PD.out.below k12)
        have f12 := P12.out.frozen (k * 3 + 1)
        have i12 := Dots.keepC c1 k12
        clear hV12 hO12
        go_wp2_with fail
        refine hK.out _ _ (hHeld.trans (k12.mono (Nat.le_trans hB6 hHeld.size))) (fun hHeld => ?_)
        clear hK K
        try simp only [Act.put, List.setIfInBounds_toArray, List.set_cons_zero, List.set_cons_succ]
        refine wpAnyH_take (i := 13) (v := ?_) (by simp only [List.getElem?_toArray, List.getElem?_cons_succ, List.getElem?_cons_zero]; rfl) (by kernel_rfl) (by kernel_rfl) (by kernel_rfl) (fun _ _ _ h => h) (Or.inl ⟨by rfl, ?_⟩) (by assumption) ?_
        rotate_left
        · (intro w hSw; (try dsimp only at hSw); go_simp; try with_reducible rfl)
        try simp only [Act.put, List.setIfInBounds_toArray, List.set_cons_zero, List.set_cons_succ]
        refine wpAnyH_take (i := 14) (v := ?_) (by simp only [List.getElem?_toArray, List.getElem?_cons_succ, List.getElem?_cons_zero]; rfl) (by kernel_rfl) (by kernel_rfl) (by kernel_rfl) (fun _ _ _ h => h) (Or.inl ⟨by rfl, ?_⟩) (by assumption) ?_
        rotate_left
        · (intro w hSw; (try dsimp only at hSw); go_simp; try with_reducible rfl)
        try simp only [Act.put, List.setIfInBounds_toArray, List.set_cons_zero, List.set_cons_succ]
        refine wpAnyH_ready (rs := [15]) (by kernel_rfl) (by simp) ?_
        refine AllReadyH.cons (by simp only [List.getElem?_toArray, List.getElem?_cons_succ, List.getElem?_cons_zero]; rfl) (fun K hK => ?_) AllReadyH.nil
        go_simp
        obtain ⟨p15, g15⟩ := P12.out.setV h1k HH12.out
        have P15 := Lib.hid p15
        have hb15 := Below.grown hHeld g15 (Nat.le_trans hB6 hHeld.size) (fun q e => by cases e; obtain ⟨_, _, h9⟩ := P12.out.own; exact h9)
        clear p15 g15
        refine hK.out _ _ (hb15) (fun hHeld => ?_)
        clear hK K
        refine wpAnyH_done (by kernel_rfl) ?_ _
        refine NoPanic.normal ?_
        clear hHeld
        go_wp2_with fail
        go_meet
        exact ⟨a12, c12, J12, P15, H12, hb15⟩
      · skip
        go_simp
        refine hK.out _ _ (hHeld) (fun hHeld => ?_)
        clear hK K
        try simp only [Act.put, List.setIfInBounds_toArray, List.set_cons_zero, List.set_cons_succ]
        refine wpAnyH_ready (rs := [6]) (by kernel_rfl) (by simp) ?_
        refine AllReadyH.cons (by simp only [List.getElem?_toArray, List.getElem?_cons_succ, List.getElem?_cons_zero]; rfl) (fun K hK => ?_) AllReadyH.nil
        go_simp
        refine hK.out _ _ (hHeld) (fun hHeld => ?_)
        clear hK K
        try simp only [Act.put, List.setIfInBounds_toArray, List.set_cons_zero, List.set_cons_succ]
        refine wpAnyH_ready (rs := [12]) (by kernel_rfl) (by simp) ?_
        refine AllReadyH.cons (by simp only [List.getElem?_toArray, List.getElem?_cons_succ, List.getElem?_cons_zero]; rfl) (fun K hK => ?_) AllReadyH.nil
        go_simp
        go_at_call 21
        refine (DJ.out _ PD.out).mono ?_
        rintro e v12 ⟨a12, c12, J12, rfl, hV12, hO12, k12⟩
        have H12 := Lib.hid hV12
        have HH12 := Lib.hid (Mark.Own.base hO12 (Nat.le_trans hB6 hHeld.size))
        have P12 := Lib.hid (PD.out.below k12)
        have f12 := P12.out.frozen (k * 3 + 1)
        have i12 := Dots.keepC c1 k12
        clear hV12 hO12
        go_wp2_with fail
        refine hK.out _ _ (hHeld.trans (k12.mono (Nat.le_trans hB6 hHeld.size))) (fun hHeld => ?_)
        clear hK K
        try simp only [Act.put, List.setIfInBounds_toArray, List.set_cons_zero, List.set_cons_succ]
        refine wpAnyH_take (i := 13) (v := ?_) (by simp only [List.getElem?_toArray, List.getElem?_cons_succ, List.getElem?_cons_zero]; rfl) (by kernel_rfl) (by kernel_rfl) (by kernel_rfl) (fun _ _ _ h => h) (Or.inl ⟨by rfl, ?_⟩) (by assumption) ?_
        rotate_left
        · (intro w hSw; (try dsimp only at hSw); go_simp; try with_reducible rfl)
        try simp only [Act.put, List.setIfInBounds_toArray, List.set_cons_zero, List.set_cons_succ]
        refine wpAnyH_take (i := 14) (v := ?_) (by simp only [List.getElem?_toArray, List.getElem?_cons_succ, List.getElem?_cons_zero]; rfl) (by kernel_rfl) (by kernel_rfl) (by kernel_rfl) (fun _ _ _ h => h) (Or.inl ⟨by rfl, ?_⟩) (by assumption) ?_
        rotate_left
        · (intro w hSw; (try dsimp only at hSw); go_simp; try with_reducible rfl)
        try simp only [Act.put, List.setIfInBounds_toArray, List.set_cons_zero, List.set_cons_succ]
        refine wpAnyH_ready (rs := [15]) (by kernel_rfl) (by simp) ?_
        refine AllReadyH.cons (by simp only [List.getElem?_toArray, List.getElem?_cons_succ, List.getElem?_cons_zero]; rfl) (fun K hK => ?_) AllReadyH.nil
        go_simp
        obtain ⟨p15, g15⟩ := P12.out.setV h1k HH12.out
        have P15 := Lib.hid p15
        have hb15 := Below.grown hHeld g15 (Nat.le_trans hB6 hHeld.size) (fun q e => by cases e; obtain ⟨_, _, h9⟩ := P12.out.own; exact h9)
        clear p15 g15
        refine hK.out _ _ (hb15) (fun hHeld => ?_)
        clear hK K
        refine wpAnyH_done (by kernel_rfl) ?_ _
        refine NoPanic.normal ?_
        clear hHeld
        go_wp2_with fail
        go_meet
        exact ⟨a12, c12, J12, P15, H12, hb15⟩
    have hB6 := hb
    clear PL c1 o1 DJ hb
    obtain ⟨a6, c6, J6, PL, HV6, hb⟩ := hcut
    replace hb := hB6.trans hb
    clear hB6
    obtain ⟨L2, hL2⟩ : ∃ L, L = L1.set k (L1[k].withV a6 c6 J6) := ⟨_, rfl⟩
    rw [← hL2] at PL
    have h2k : k < L2.length := by rw [hL2, List.length_set]; exact h1k
    have h2o : o < L2.length := by rw [hL2, List.length_set]; exact h1o
    have H2K : Hid (L2[k] = (X.withL a5 c5 R5).withV a6 c6 J6) := Lib.hid (by subst hL2; rw [set_get h2k, H1K.out])
    have H2O : Hid (L2[o].kv = Y.kv ∧ L2[o].K = Y.K) := Lib.hid (by
      subst hL2
      rw [set_same Rp.kv h1k h1o h2o rfl, set_same Rp.K h1k h1o h2o rfl]
      exact ⟨H1O.out.2.2.1, H1O.out.2.2.2⟩)
    have HL2 : Hid (L2 = L1.set k ((X.withL a5 c5 R5).withV a6 c6 J6)) := Lib.hid (by rw [hL2, H1K.out])
    clear hL2
    have sk := HR.out.sizes hkl (by have := HE.out; omega)
    have so := HR.out.sizes hol (by have := HE.out; omega)
    rw [← HX.out] at sk
    rw [← HY.out] at so
    have HXL : Hid (X.K.length = Es.length ∧ Y.K.length = Es.length) := Lib.hid ⟨by rw [HR.out.evl]; exact sk.2.2.2.2.2, by rw [HR.out.evl]; exact so.2.2.2.2.2⟩
    have HK0 : Hid (X.K = (BagEv.or X.K Y.K).take 0 ++ X.K.drop 0) := Lib.hid rfl
    have HP0 : Hid (Play none wc B rb (.slice aa Es.length ac) (L2.set k (L2[k].withK X.K)) Es) := Lib.hid (by
      have e : L2[k].withK X.K = L2[k] := by rw [H2K.out]; rfl
      rw [e, List.set_getElem_self]; exact PL.out)
    obtain ⟨n0, hn0⟩ : ∃ n, n = Es.length := ⟨_, rfl⟩
    have HN0 := Lib.hid hn0
    have hn60 : n0 ≤ 60 := by rw [hn0, HR.out.evl]; exact HE.out
    rw [← hn0] at HXL HP0 ⊢
    clear sk so PL hn0
    go_wp2_with fail
    go_loopw [11] (fun iv wr => ∃ (i : Nat) (Kc : List Bool), i ≤ n0 ∧ iv = .int .i64 i ∧ Hid (Kc = (BagEv.or X.K Y.K).take i ++ X.K.drop i) ∧ Hid (Play none wr B rb (.slice aa n0 ac) (L2.set k (L2[k].withK Kc)) Es) ∧ Below B w wr) (fun iv _ => n0 - (intOf iv).toNat)
    case atStart => exact ⟨0, X.K, by omega, rfl, HK0, HP0, hb⟩
    case round =>
      clear HK0 HP0 hb
      obtain ⟨i, Kc, hi, rfl, HKc, PL, hb⟩ := hrel
      have HOL2 : Hid ((BagEv.or X.K Y.K).length = n0) := Lib.hid (by rw [or_len (by rw [HXL.out.1, HXL.out.2]), HXL.out.1])
      by_cases hlt : i < n0
      rotate_left
      · have hie : n0 = i := by omega
        subst hie
        have d1 : decide ((n0 : Int) < (n0 : Int)) = false := decide_eq_false (by omega)
        have HKE : Hid (Kc = BagEv.or X.K Y.K) := Lib.hid (by rw [HKc.out, List.take_of_length_le (by have := HOL2.out; omega), List.drop_eq_nil_of_le (by have := HXL.out.1; omega), List.append_nil])
        go_wp2
        go_ret2
        have e0 := HN0.out
        exact ⟨aa, ac, L2.set k (L2[k].withK Kc), Es, es, K3 K k o, v3 v k o, by rw [← e0]; rfl, by rw [← e0]; exact PL.out, HR.out.joined HK.out HO.out hkl hol HX.out HY.out HL1.out HL2.out HKE.out h2k HR5.out HV6.out, by omega, hb⟩
      have d1 : decide ((i : Int) < (n0 : Int)) = true := decide_eq_true (by omega)
      have i1 : (0 : Int) ≤ (i : Int) := by omega
      have i2 : (i : Int) < (n0 : Int) := by omega
      have hKl : Kc.length = n0 := by rw [HKc.out, List.length_append, List.length_take, List.length_drop]; have := HOL2.out; have := HXL.out.1; omega
      have hxi : i < X.K.length := by rw [HXL.out.1]; exact hlt
      have hyi : i < Y.K.length := by rw [HXL.out.2]; exact hlt
      have hst := or_step (A := X.K) (C := Y.K) (by rw [HXL.out.1, HXL.out.2]) hxi hyi
      have hmi := mid_at (A := X.K) (C := Y.K) (by rw [HXL.out.1, HXL.out.2]) hxi (by rw [← HKc.out]; omega)
      rw [← HKc.out] at hst
      have hck : k < (L2.set k (L2[k].withK Kc)).length := by rw [List.length_set]; exact h2k
      have hco : o < (L2.set k (L2[k].withK Kc)).length := by rw [List.length_set]; exact h2o
      have hki : i < Kc.length := by omega
      have hkat : Kc[i] = X.K[i] := by
        have h9 := HKc.out
        subst h9
        exact hmi
      have hcell := (PL.out.cells hck).2.2
      have hcelo := (PL.out.cells hco).2.2
      have hown := PL.out.knew k hck (by simp)
      rw [set_get hck, H2K.out] at hown hcell
      unfold Rp.kv Rp.withK Rp.withV Rp.withL at hown hcell
      simp only [hKl] at hown hcell
      obtain ⟨kg, hka, -, hkc, hkf, hkB, -⟩ := ptrB hown (by omega)
      rw [hka] at hown hcell
      have hoy : ∃ og yc, (wr.cell? ⟨rb, o * 3 + 2, none⟩ = some (.slice (some ⟨og, 0, none⟩) n0 yc)) ∧ wr.cell? ⟨og, i, none⟩ = some (.bool Y.K[i]) := by
        by_cases hok : o = k
        · subst hok
          rw [set_get hck, H2K.out] at hcelo
          unfold Rp.kv Rp.withK Rp.withV Rp.withL at hcelo
          simp only [hKl] at hcelo
          rw [hka] at hcelo
          refine ⟨kg, _, hcelo, ?_⟩
          have hxy : X = Y := HX.out.trans HY.out.symm
          have h8 := hkc i hki
          rw [hkat] at h8
          subst hxy
          exact h8
        · have hown2 := PL.out.knew o hco (by simp)
          rw [List.getElem_set, if_neg (fun e => hok e.symm)] at hown2 hcelo
          rw [H2O.out.1] at hown2 hcelo
          rw [H2O.out.2] at hown2
          unfold Rp.kv at hown2 hcelo
          rw [HXL.out.2] at hown2 hcelo
          obtain ⟨og, hoa, -, hoc, -⟩ := ptrB hown2 (by omega)
          rw [hoa] at hcelo
          exact ⟨og, _, hcelo, hoc i hyi⟩
      obtain ⟨og, yc, o2, oi⟩ := hoy
      have ki := hkc i hki
      rw [hkat] at ki
      have hne : kg ≠ rb := fun e => by
        rcases own_ne hown PL.out.row (by decide) with h9 | h9
        · simp [Value.ownBlock] at h9
        · exact h9 (by simp [Value.ownBlock, e])
      have fz : (World.drew wr).frozen? ⟨kg, i, none⟩ = false := hkf i
      have PD := Lib.hid (PL.out.below (Below.drew (Below.refl _ _)))
      have hka2 : L2[k].ka = some ⟨kg, 0, none⟩ := by rw [H2K.out]; exact hka
      obtain ⟨bx, hbx⟩ : ∃ b, b = X.K[i] := ⟨_, rfl⟩
      obtain ⟨bY, hbY⟩ : ∃ b, b = Y.K[i] := ⟨_, rfl⟩
      rw [← hbx] at ki hst
      rw [← hbY] at oi hst
      have HST := Lib.hid hst
      have HI := Lib.hid hlt
      have HKI := Lib.hid hki
      have ki2 : (World.drew wr).cell? ⟨kg, i, none⟩ = some (.bool bx) := Dots.keepC ki (Below.drew (Below.refl _ _))
      have oi2 : (World.drew wr).cell? ⟨og, i, none⟩ = some (.bool bY) := Dots.keepC oi (Below.drew (Below.refl _ _))
      have k2 := hcell
      have hkB2 := Lib.hid hkB
      clear hst hmi hkat hcell hcelo hown hkc hkf hkB hka hxi hyi hki hbx hbY ki oi hlt HKc HOL2
      cases bx with
      | true =>
        go_wp2_with fail
        refine wp_region_noPanic ?_
        refine wp_region_held_drew (S := (fun w' => w'.cell? ⟨rb, k * 3 + 2, none⟩ = some (.slice (some ⟨kg, 0, none⟩) n0 X.kc) ∧ w'.cell? ⟨rb, o * 3 + 2, none⟩ = some (.slice (some ⟨og, 0, none⟩) n0 yc))) (by kernel_rfl) (⟨Dots.keepC k2 (Below.drew (Below.refl _ _)), Dots.keepC o2 (Below.drew (Below.refl _ _))⟩) (fun hHeld => ?_)
        refine wpAnyH_take (i := 0) (v := ?_) (by simp only [List.getElem?_toArray, List.getElem?_cons_zero]; rfl) (by kernel_rfl) (by kernel_rfl) (by kernel_rfl) (fun _ _ _ h => h) (Or.inl ⟨by rfl, ?_⟩) (by assumption) ?_
        rotate_left
        · (intro w hSw; (try dsimp only at hSw); go_simp; try with_reducible rfl)
        try simp only [Act.put, List.setIfInBounds_toArray, List.set_cons_zero, List.set_cons_succ]
        refine wpAnyH_take (i := 1) (v := ?_) (by simp only [List.getElem?_toArray, List.getElem?_cons_succ, List.getElem?_cons_zero]; rfl) (by kernel_rfl) (by kernel_rfl) (by kernel_rfl) (fun _ _ _ h => h) (Or.inl ⟨by rfl, ?_⟩) (by assumption) ?_
        rotate_left
        · (intro w hSw; (try dsimp only at hSw); go_simp; try with_reducible rfl)
        try simp only [Act.put, List.setIfInBounds_toArray, List.set_cons_zero, List.set_cons_succ]
        refine wpAnyH_take (i := 2) (v := ?_) (by simp only [List.getElem?_toArray, List.getElem?_cons_succ, List.getElem?_cons_zero]; rfl) (by kernel_rfl) (by kernel_rfl) (by kernel_rfl) (fun _ _ _ h => h) (Or.inl ⟨by rfl, ?_⟩) (by assumption) ?_
        rotate_left
        · (intro w hSw; (try dsimp only at hSw); go_simp; try with_reducible rfl)
        try simp only [Act.put, List.setIfInBounds_toArray, List.set_cons_zero, List.set_cons_succ]
        refine wpAnyH_take (i := 3) (v := ?_) (by simp only [List.getElem?_toArray, List.getElem?_cons_succ, List.getElem?_cons_zero]; rfl) (by kernel_rfl) (by kernel_rfl) (by kernel_rfl) (fun _ _ _ h => h) (Or.inl ⟨by rfl, ?_⟩) (by assumption) ?_
        rotate_left
        · (intro w hSw; (try dsimp only at hSw); go_simp; try with_reducible rfl)
        try simp only [Act.put, List.setIfInBounds_toArray, List.set_cons_zero, List.set_cons_succ]
        refine wpAnyH_take (i := 4) (v := ?_) (by simp only [List.getElem?_toArray, List.getElem?_cons_succ, List.getElem?_cons_zero]; rfl) (by kernel_rfl) (by kernel_rfl) (by kernel_rfl) (fun _ _ _ h => h) (Or.inl ⟨by rfl, ?_⟩) (by assumption) ?_
        rotate_left
        · (intro w hSw; (try dsimp only at hSw); go_simp; try with_reducible rfl)
        try simp only [Act.put, List.setIfInBounds_toArray, List.set_cons_zero, List.set_cons_succ]
        refine wpAnyH_take (i := 5) (v := ?_) (by simp only [List.getElem?_toArray, List.getElem?_cons_succ, List.getElem?_cons_zero]; rfl) (by kernel_rfl) (by kernel_rfl) (by kernel_rfl) (fun _ _ _ h => h) (Or.inl ⟨by rfl, ?_⟩) (by assumption) ?_
        rotate_left
        · (intro w hSw; (try dsimp only at hSw); go_simp; try with_reducible rfl)
        try simp only [Act.put, List.setIfInBounds_toArray, List.set_cons_zero, List.set_cons_succ]
        refine wpAnyH_take (i := 6) (v := ?_) (by simp only [List.getElem?_toArray, List.getElem?_cons_succ, List.getElem?_cons_zero]; rfl) (by kernel_rfl) (by kernel_rfl) (by kernel_rfl) (fun _ _ _ h => h) (Or.inl ⟨by rfl, ?_⟩) (by assumption) ?_
        rotate_left
        · (intro w hSw; (try dsimp only at hSw); go_simp; try with_reducible rfl)
        try simp only [Act.put, List.setIfInBounds_toArray, List.set_cons_zero, List.set_cons_succ]
        refine wpAnyH_take (i := 7) (v := ?_) (by simp only [List.getElem?_toArray, List.getElem?_cons_succ, List.getElem?_cons_zero]; rfl) (by kernel_rfl) (by kernel_rfl) (by kernel_rfl) (fun _ _ _ h => h) (Or.inl ⟨by rfl, ?_⟩) (by assumption) ?_
        rotate_left
        · (intro w hSw; (try dsimp only at hSw); go_simp; try with_reducible rfl)
        try simp only [Act.put, List.setIfInBounds_toArray, List.set_cons_zero, List.set_cons_succ]
        refine wpAnyH_take (i := 8) (v := ?_) (by simp only [List.getElem?_toArray, List.getElem?_cons_succ, List.getElem?_cons_zero]; rfl) (by kernel_rfl) (by kernel_rfl) (by kernel_rfl) (fun _ _ _ h => h) (Or.inl ⟨by rfl, ?_⟩) (by assumption) ?_
        rotate_left
        · (intro w hSw; (try dsimp only at hSw); go_simp; try with_reducible rfl)
        try simp only [Act.put, List.setIfInBounds_toArray, List.set_cons_zero, List.set_cons_succ]
        refine wpAnyH_take (i := 9) (v := ?_) (by simp only [List.getElem?_toArray, List.getElem?_cons_succ, List.getElem?_cons_zero]; rfl) (by kernel_rfl) (by kernel_rfl) (by kernel_rfl) (fun _ _ _ h => h) (Or.inl ⟨by rfl, ?_⟩) (by assumption) ?_
        rotate_left
        · (intro w hSw; (try dsimp only at hSw); go_simp; try with_reducible rfl)
        try simp only [Act.put, List.setIfInBounds_toArray, List.set_cons_zero, List.set_cons_succ]
        refine wpAnyH_take (i := 10) (v := ?_) (by simp only [List.getElem?_toArray, List.getElem?_cons_succ, List.getElem?_cons_zero]; rfl) (by kernel_rfl) (by kernel_rfl) (by kernel_rfl) (fun _ _ _ h => h) (Or.inl ⟨by rfl, ?_⟩) (by assumption) ?_
        rotate_left
        · (intro w hSw; (try dsimp only at hSw); go_simp; try with_reducible rfl)
        try simp only [Act.put, List.setIfInBounds_toArray, List.set_cons_zero, List.set_cons_succ]
        refine wpAnyH_take (i := 11) (v := ?_) (by simp only [List.getElem?_toArray, List.getElem?_cons_succ, List.getElem?_cons_zero]; rfl) (by kernel_rfl) (by kernel_rfl) (by kernel_rfl) (fun _ _ _ h => h) (Or.inl ⟨by rfl, ?_⟩) (by assumption) ?_
        rotate_left
        · (intro w hSw; (try dsimp only at hSw); go_simp; try with_reducible rfl)
        try simp only [Act.put, List.setIfInBounds_toArray, List.set_cons_zero, List.set_cons_succ]
        refine wpAnyH_take (i := 12) (v := ?_) (by simp only [List.getElem?_toArray, List.getElem?_cons_succ, List.getElem?_cons_zero]; rfl) (by kernel_rfl) (by kernel_rfl) (by kernel_rfl) (fun _ _ _ h => h) (Or.inl ⟨by rfl, ?_⟩) (by assumption) ?_
        rotate_left
        · (intro w hSw; (try dsimp only at hSw); go_simp; try with_reducible rfl)
        try simp only [Act.put, List.setIfInBounds_toArray, List.set_cons_zero, List.set_cons_succ]
        refine wpAnyH_ready (rs := [13]) (by kernel_rfl) (by simp) ?_
        refine AllReadyH.cons (by simp only [List.getElem?_toArray, List.getElem?_cons_succ, List.getElem?_cons_zero]; rfl) (fun K hK => ?_) AllReadyH.nil
        go_simp
        refine hK.out _ _ (hHeld) (fun hHeld => ?_)
        clear hK K
        try simp only [Act.put, List.setIfInBounds_toArray, List.set_cons_zero, List.set_cons_succ]
        refine wpAnyH_take (i := 14) (v := ?_) (by simp only [List.getElem?_toArray, List.getElem?_cons_succ, List.getElem?_cons_zero]; rfl) (by kernel_rfl) (by kernel_rfl) (by kernel_rfl) (fun _ _ _ h => h) (Or.inl ⟨by rfl, ?_⟩) (by assumption) ?_
        rotate_left
        · (intro w hSw; (try dsimp only at hSw); go_simp; try with_reducible rfl)
        try simp only [Act.put, List.setIfInBounds_toArray, List.set_cons_zero, List.set_cons_succ]
        refine wpAnyH_take (i := 15) (v := undef) (by simp only [List.getElem?_toArray, List.getElem?_cons_succ, List.getElem?_cons_zero]; rfl) (by kernel_rfl) (by kernel_rfl) (by kernel_rfl) (fun _ _ _ h => h) (Or.inr ⟨by rfl, rfl⟩) (by assumption) ?_
        try simp only [Act.put, List.setIfInBounds_toArray, List.set_cons_zero, List.set_cons_succ]
        refine wpAnyH_take (i := 16) (v := undef) (by simp only [List.getElem?_toArray, List.getElem?_cons_succ, List.getElem?_cons_zero]; rfl) (by kernel_rfl) (by kernel_rfl) (by kernel_rfl) (fun _ _ _ h => h) (Or.inr ⟨by rfl, rfl⟩) (by assumption) ?_
        try simp only [Act.put, List.setIfInBounds_toArray, List.set_cons_zero, List.set_cons_succ]
        refine wpAnyH_take (i := 17) (v := undef) (by simp only [List.getElem?_toArray, List.getElem?_cons_succ, List.getElem?_cons_zero]; rfl) (by kernel_rfl) (by kernel_rfl) (by kernel_rfl) (fun _ _ _ h => h) (Or.inr ⟨by rfl, rfl⟩) (by assumption) ?_
        try simp only [Act.put, List.setIfInBounds_toArray, List.set_cons_zero, List.set_cons_succ]
        refine wpAnyH_take (i := 18) (v := undef) (by simp only [List.getElem?_toArray, List.getElem?_cons_succ, List.getElem?_cons_zero]; rfl) (by kernel_rfl) (by kernel_rfl) (by kernel_rfl) (fun _ _ _ h => h) (Or.inr ⟨by rfl, rfl⟩) (by assumption) ?_
        try simp only [Act.put, List.setIfInBounds_toArray, List.set_cons_zero, List.set_cons_succ]
        refine wpAnyH_take (i := 19) (v := undef) (by simp only [List.getElem?_toArray, List.getElem?_cons_succ, List.getElem?_cons_zero]; rfl) (by kernel_rfl) (by kernel_rfl) (by kernel_rfl) (fun _ _ _ h => h) (Or.inr ⟨by rfl, rfl⟩) (by assumption) ?_
        try simp only [Act.put, List.setIfInBounds_toArray, List.set_cons_zero, List.set_cons_succ]
        refine wpAnyH_take (i := 20) (v := undef) (by simp only [List.getElem?_toArray, List.getElem?_cons_succ, List.getElem?_cons_zero]; rfl) (by kernel_rfl) (by kernel_rfl) (by kernel_rfl) (fun _ _ _ h => h) (Or.inr ⟨by rfl, rfl⟩) (by assumption) ?_
        try simp only [Act.put, List.setIfInBounds_toArray, List.set_cons_zero, List.set_cons_succ]
        refine wpAnyH_take (i := 21) (v := undef) (by simp only [List.getElem?_toArray, List.getElem?_cons_succ, List.getElem?_cons_zero]; rfl) (by kernel_rfl) (by kernel_rfl) (by kernel_rfl) (fun _ _ _ h => h) (Or.inr ⟨by rfl, rfl⟩) (by assumption) ?_
        try simp only [Act.put, List.setIfInBounds_toArray, List.set_cons_zero, List.set_cons_succ]
        refine wpAnyH_take (i := 22) (v := undef) (by simp only [List.getElem?_toArray, List.getElem?_cons_succ, List.getElem?_cons_zero]; rfl) (by kernel_rfl) (by kernel_rfl) (by kernel_rfl) (fun _ _ _ h => h) (Or.inr ⟨by rfl, rfl⟩) (by assumption) ?_
        try simp only [Act.put, List.setIfInBounds_toArray, List.set_cons_zero, List.set_cons_succ]
        refine wpAnyH_take (i := 23) (v := ?_) (by simp only [List.getElem?_toArray, List.getElem?_cons_succ, List.getElem?_cons_zero]; rfl) (by kernel_rfl) (by kernel_rfl) (by kernel_rfl) (fun _ _ _ h => h) (Or.inl ⟨by rfl, ?_⟩) (by assumption) ?_
        rotate_left
        · (intro w hSw; (try dsimp only at hSw); go_simp; try with_reducible rfl)
        try simp only [Act.put, List.setIfInBounds_toArray, List.set_cons_zero, List.set_cons_succ]
        refine wpAnyH_take (i := 24) (v := ?_) (by simp only [List.getElem?_toArray, List.getElem?_cons_succ, List.getElem?_cons_zero]; rfl) (by kernel_rfl) (by kernel_rfl) (by kernel_rfl) (fun _ _ _ h => h) (Or.inl ⟨by rfl, ?_⟩) (by assumption) ?_
        rotate_left
        · (intro w hSw; (try dsimp only at hSw); go_simp; try with_reducible rfl)
        try simp only [Act.put, List.setIfInBounds_toArray, List.set_cons_zero, List.set_cons_succ]
        refine wpAnyH_ready (rs := [25]) (by kernel_rfl) (by simp) ?_
        refine AllReadyH.cons (by simp only [List.getElem?_toArray, List.getElem?_cons_succ, List.getElem?_cons_zero]; rfl) (fun K hK => ?_) AllReadyH.nil
        go_simp
        obtain ⟨p25, g25⟩ := Play.setB h2k PD.out hka2 HKI.out (true)
        have P25 := Lib.hid p25
        have hb25 := Below.grown (Below.drew hb) g25 (Nat.le_trans HB.out hb.size) (fun q e => by cases e; exact hkB2.out)
        clear p25 g25
        refine hK.out _ _ (⟨by show (World.setCell wr _ _).cell? _ = _; rw [World.cell?_setCell_other (h := by simp; try omega)]; exact k2, by show (World.setCell wr _ _).cell? _ = _; rw [World.cell?_setCell_other (h := by simp; try omega)]; exact o2⟩) (fun hHeld => ?_)
        clear hK K
        try simp only [Act.put, List.setIfInBounds_toArray, List.set_cons_zero, List.set_cons_succ]
        refine wpAnyH_done (by kernel_rfl) ?_ _
        refine NoPanic.normal ?_
        clear hHeld
        have HS2 : Hid (Kc.set i (true) = (BagEv.or X.K Y.K).take (i + 1) ++ X.K.drop (i + 1)) := Lib.hid (by have h9 := HST.out; simpa using h9)
        go_wp2
        go_roundw
        case rel => exact ⟨i + 1, Kc.set i (true), by have := HI.out; omega, by go_num, HS2, P25, hb25⟩
        case measure => have := HI.out; simp [intOf]; omega
      | false =>
        go_wp2_with fail
        refine wp_region_noPanic ?_
        refine wp_region_held_drew (S := (fun w' => w'.cell? ⟨rb, k * 3 + 2, none⟩ = some (.slice (some ⟨kg, 0, none⟩) n0 X.kc) ∧ w'.cell? ⟨rb, o * 3 + 2, none⟩ = some (.slice (some ⟨og, 0, none⟩) n0 yc))) (by kernel_rfl) (⟨Dots.keepC k2 (Below.drew (Below.refl _ _)), Dots.keepC o2 (Below.drew (Below.refl _ _))⟩) (fun hHeld => ?_)
        refine wpAnyH_take (i := 0) (v := ?_) (by simp only [List.getElem?_toArray, List.getElem?_cons_zero]; rfl) (by kernel_rfl) (by kernel_rfl) (by kernel_rfl) (fun _ _ _ h => h) (Or.inl ⟨by rfl, ?_⟩) (by assumption) ?_
        rotate_left
        · (intro w hSw; (try dsimp only at hSw); go_simp; try with_reducible rfl)
        try simp only [Act.put, List.setIfInBounds_toArray, List.set_cons_zero, List.set_cons_succ]
        refine wpAnyH_take (i := 1) (v := ?_) (by simp only [List.getElem?_toArray, List.getElem?_cons_succ, List.getElem?_cons_zero]; rfl) (by kernel_rfl) (by kernel_rfl) (by kernel_rfl) (fun _ _ _ h => h) (Or.inl ⟨by rfl, ?_⟩) (by assumption) ?_
        rotate_left
        · (intro w hSw; (try dsimp only at hSw); go_simp; try with_reducible rfl)
        try simp only [Act.put, List.setIfInBounds_toArray, List.set_cons_zero, List.set_cons_succ]
        refine wpAnyH_take (i := 2) (v := ?_) (by simp only [List.getElem?_toArray, List.getElem?_cons_succ, List.getElem?_cons_zero]; rfl) (by kernel_rfl) (by kernel_rfl) (by kernel_rfl) (fun _ _ _ h => h) (Or.inl ⟨by rfl, ?_⟩) (by assumption) ?_
        rotate_left
        · (intro w hSw; (try dsimp only at hSw); go_simp; try with_reducible rfl)
        try simp only [Act.put, List.setIfInBounds_toArray, List.set_cons_zero, List.set_cons_succ]
        refine wpAnyH_take (i := 3) (v := ?_) (by simp only [List.getElem?_toArray, List.getElem?_cons_succ, List.getElem?_cons_zero]; rfl) (by kernel_rfl) (by kernel_rfl) (by kernel_rfl) (fun _ _ _ h => h) (Or.inl ⟨by rfl, ?_⟩) (by assumption) ?_
        rotate_left
        · (intro w hSw; (try dsimp only at hSw); go_simp; try with_reducible rfl)
        try simp only [Act.put, List.setIfInBounds_toArray, List.set_cons_zero, List.set_cons_succ]
        refine wpAnyH_take (i := 4) (v := ?_) (by simp only [List.getElem?_toArray, List.getElem?_cons_succ, List.getElem?_cons_zero]; rfl) (by kernel_rfl) (by kernel_rfl) (by kernel_rfl) (fun _ _ _ h => h) (Or.inl ⟨by rfl, ?_⟩) (by assumption) ?_
        rotate_left
        · (intro w hSw; (try dsimp only at hSw); go_simp; try with_reducible rfl)
        try simp only [Act.put, List.setIfInBounds_toArray, List.set_cons_zero, List.set_cons_succ]
        refine wpAnyH_take (i := 5) (v := ?_) (by simp only [List.getElem?_toArray, List.getElem?_cons_succ, List.getElem?_cons_zero]; rfl) (by kernel_rfl) (by kernel_rfl) (by kernel_rfl) (fun _ _ _ h => h) (Or.inl ⟨by rfl, ?_⟩) (by assumption) ?_
        rotate_left
        · (intro w hSw; (try dsimp only at hSw); go_simp; try with_reducible rfl)
        try simp only [Act.put, List.setIfInBounds_toArray, List.set_cons_zero, List.set_cons_succ]
        refine wpAnyH_take (i := 6) (v := ?_) (by simp only [List.getElem?_toArray, List.getElem?_cons_succ, List.getElem?_cons_zero]; rfl) (by kernel_rfl) (by kernel_rfl) (by kernel_rfl) (fun _ _ _ h => h) (Or.inl ⟨by rfl, ?_⟩) (by assumption) ?_
        rotate_left
        · (intro w hSw; (try dsimp only at hSw); go_simp; try with_reducible rfl)
        try simp only [Act.put, List.setIfInBounds_toArray, List.set_cons_zero, List.set_cons_succ]
        refine wpAnyH_take (i := 7) (v := ?_) (by simp only [List.getElem?_toArray, List.getElem?_cons_succ, List.getElem?_cons_zero]; rfl) (by kernel_rfl) (by kernel_rfl) (by kernel_rfl) (fun _ _ _ h => h) (Or.inl ⟨by rfl, ?_⟩) (by assumption) ?_
        rotate_left
        · (intro w hSw; (try dsimp only at hSw); go_simp; try with_reducible rfl)
        try simp only [Act.put, List.setIfInBounds_toArray, List.set_cons_zero, List.set_cons_succ]
        refine wpAnyH_take (i := 8) (v := ?_) (by simp only [List.getElem?_toArray, List.getElem?_cons_succ, List.getElem?_cons_zero]; rfl) (by kernel_rfl) (by kernel_rfl) (by kernel_rfl) (fun _ _ _ h => h) (Or.inl ⟨by rfl, ?_⟩) (by assumption) ?_
        rotate_left
        · (intro w hSw; (try dsimp only at hSw); go_simp; try with_reducible rfl)
        try simp only [Act.put, List.setIfInBounds_toArray, List.set_cons_zero, List.set_cons_succ]
        refine wpAnyH_take (i := 9) (v := ?_) (by simp only [List.getElem?_toArray, List.getElem?_cons_succ, List.getElem?_cons_zero]; rfl) (by kernel_rfl) (by kernel_rfl) (by kernel_rfl) (fun _ _ _ h => h) (Or.inl ⟨by rfl, ?_⟩) (by assumption) ?_
        rotate_left
        · (intro w hSw; (try dsimp only at hSw); go_simp; try with_reducible rfl)
        try simp only [Act.put, List.setIfInBounds_toArray, List.set_cons_zero, List.set_cons_succ]
        refine wpAnyH_take (i := 10) (v := ?_) (by simp only [List.getElem?_toArray, List.getElem?_cons_succ, List.getElem?_cons_zero]; rfl) (by kernel_rfl) (by kernel_rfl) (by kernel_rfl) (fun _ _ _ h => h) (Or.inl ⟨by rfl, ?_⟩) (by assumption) ?_
        rotate_left
        · (intro w hSw; (try dsimp only at hSw); go_simp; try with_reducible rfl)
        try simp only [Act.put, List.setIfInBounds_toArray, List.set_cons_zero, List.set_cons_succ]
        refine wpAnyH_take (i := 11) (v := ?_) (by simp only [List.getElem?_toArray, List.getElem?_cons_succ, List.getElem?_cons_zero]; rfl) (by kernel_rfl) (by kernel_rfl) (by kernel_rfl) (fun _ _ _ h => h) (Or.inl ⟨by rfl, ?_⟩) (by assumption) ?_
        rotate_left
        · (intro w hSw; (try dsimp only at hSw); go_simp; try with_reducible rfl)
        try simp only [Act.put, List.setIfInBounds_toArray, List.set_cons_zero, List.set_cons_succ]
        refine wpAnyH_take (i := 12) (v := ?_) (by simp only [List.getElem?_toArray, List.getElem?_cons_succ, List.getElem?_cons_zero]; rfl) (by kernel_rfl) (by kernel_rfl) (by kernel_rfl) (fun _ _ _ h => h) (Or.inl ⟨by rfl, ?_⟩) (by assumption) ?_
        rotate_left
        · (intro w hSw; (try dsimp only at hSw); go_simp; try with_reducible rfl)
        try simp only [Act.put, List.setIfInBounds_toArray, List.set_cons_zero, List.set_cons_succ]
        refine wpAnyH_ready (rs := [13]) (by kernel_rfl) (by simp) ?_
        refine AllReadyH.cons (by simp only [List.getElem?_toArray, List.getElem?_cons_succ, List.getElem?_cons_zero]; rfl) (fun K hK => ?_) AllReadyH.nil
        go_simp
        refine hK.out _ _ (hHeld) (fun hHeld => ?_)
        clear hK K
        try simp only [Act.put, List.setIfInBounds_toArray, List.set_cons_zero, List.set_cons_succ]
        refine wpAnyH_take (i := 14) (v := ?_) (by simp only [List.getElem?_toArray, List.getElem?_cons_succ, List.getElem?_cons_zero]; rfl) (by kernel_rfl) (by kernel_rfl) (by kernel_rfl) (fun _ _ _ h => h) (Or.inl ⟨by rfl, ?_⟩) (by assumption) ?_
        rotate_left
        · (intro w hSw; (try dsimp only at hSw); go_simp; try with_reducible rfl)
        try simp only [Act.put, List.setIfInBounds_toArray, List.set_cons_zero, List.set_cons_succ]
        refine wpAnyH_take (i := 15) (v := ?_) (by simp only [List.getElem?_toArray, List.getElem?_cons_succ, List.getElem?_cons_zero]; rfl) (by kernel_rfl) (by kernel_rfl) (by kernel_rfl) (fun _ _ _ h => h) (Or.inl ⟨by rfl, ?_⟩) (by assumption) ?_
        rotate_left
        · (intro w hSw; (try dsimp only at hSw); go_simp; try with_reducible rfl)
        try simp only [Act.put, List.setIfInBounds_toArray, List.set_cons_zero, List.set_cons_succ]
        refine wpAnyH_take (i := 16) (v := ?_) (by simp only [List.getElem?_toArray, List.getElem?_cons_succ, List.getElem?_cons_zero]; rfl) (by kernel_rfl) (by kernel_rfl) (by kernel_rfl) (fun _ _ _ h => h) (Or.inl ⟨by rfl, ?_⟩) (by assumption) ?_
        rotate_left
        · (intro w hSw; (try dsimp only at hSw); go_simp; try with_reducible rfl)
        try simp only [Act.put, List.setIfInBounds_toArray, List.set_cons_zero, List.set_cons_succ]
        refine wpAnyH_take (i := 17) (v := ?_) (by simp only [List.getElem?_toArray, List.getElem?_cons_succ, List.getElem?_cons_zero]; rfl) (by kernel_rfl) (by kernel_rfl) (by kernel_rfl) (fun _ _ _ h => h) (Or.inl ⟨by rfl, ?_⟩) (by assumption) ?_
        rotate_left
        · (intro w hSw; (try dsimp only at hSw); go_simp; try with_reducible rfl)
        try simp only [Act.put, List.setIfInBounds_toArray, List.set_cons_zero, List.set_cons_succ]
        refine wpAnyH_take (i := 18) (v := ?_) (by simp only [List.getElem?_toArray, List.getElem?_cons_succ, List.getElem?_cons_zero]; rfl) (by kernel_rfl) (by kernel_rfl) (by kernel_rfl) (fun _ _ _ h => h) (Or.inl ⟨by rfl, ?_⟩) (by assumption) ?_
        rotate_left
        · (intro w hSw; (try dsimp only at hSw); go_simp; try with_reducible rfl)
        try simp only [Act.put, List.setIfInBounds_toArray, List.set_cons_zero, List.set_cons_succ]
        refine wpAnyH_take (i := 19) (v := ?_) (by simp only [List.getElem?_toArray, List.getElem?_cons_succ, List.getElem?_cons_zero]; rfl) (by kernel_rfl) (by kernel_rfl) (by kernel_rfl) (fun _ _ _ h => h) (Or.inl ⟨by rfl, ?_⟩) (by assumption) ?_
        rotate_left
        · (intro w hSw; (try dsimp only at hSw); go_simp; try with_reducible rfl)
        try simp only [Act.put, List.setIfInBounds_toArray, List.set_cons_zero, List.set_cons_succ]
        refine wpAnyH_take (i := 20) (v := ?_) (by simp only [List.getElem?_toArray, List.getElem?_cons_succ, List.getElem?_cons_zero]; rfl) (by kernel_rfl) (by kernel_rfl) (by kernel_rfl) (fun _ _ _ h => h) (Or.inl ⟨by rfl, ?_⟩) (by assumption) ?_
        rotate_left
        · (intro w hSw; (try dsimp only at hSw); go_simp; try with_reducible rfl)
        try simp only [Act.put, List.setIfInBounds_toArray, List.set_cons_zero, List.set_cons_succ]
        refine wpAnyH_take (i := 21) (v := ?_) (by simp only [List.getElem?_toArray, List.getElem?_cons_succ, List.getElem?_cons_zero]; rfl) (by kernel_rfl) (by kernel_rfl) (by kernel_rfl) (fun _ _ _ h => h) (Or.inl ⟨by rfl, ?_⟩) (by assumption) ?_
        rotate_left
        · (intro w hSw; (try dsimp only at hSw); go_simp; try with_reducible rfl)
        try simp only [Act.put, List.setIfInBounds_toArray, List.set_cons_zero, List.set_cons_succ]
        refine wpAnyH_ready (rs := [22]) (by kernel_rfl) (by simp) ?_
        refine AllReadyH.cons (by simp only [List.getElem?_toArray, List.getElem?_cons_succ, List.getElem?_cons_zero]; rfl) (fun K hK => ?_) AllReadyH.nil
        go_simp
        refine hK.out _ _ (hHeld) (fun hHeld => ?_)
        clear hK K
        try simp only [Act.put, List.setIfInBounds_toArray, List.set_cons_zero, List.set_cons_succ]
        refine wpAnyH_take (i := 23) (v := ?_) (by simp only [List.getElem?_toArray, List.getElem?_cons_succ, List.getElem?_cons_zero]; rfl) (by kernel_rfl) (by kernel_rfl) (by kernel_rfl) (fun _ _ _ h => h) (Or.inl ⟨by rfl, ?_⟩) (by assumption) ?_
        rotate_left
        · (intro w hSw; (try dsimp only at hSw); go_simp; try with_reducible rfl)
        try simp only [Act.put, List.setIfInBounds_toArray, List.set_cons_zero, List.set_cons_succ]
        refine wpAnyH_take (i := 24) (v := ?_) (by simp only [List.getElem?_toArray, List.getElem?_cons_succ, List.getElem?_cons_zero]; rfl) (by kernel_rfl) (by kernel_rfl) (by kernel_rfl) (fun _ _ _ h => h) (Or.inl ⟨by rfl, ?_⟩) (by assumption) ?_
        rotate_left
        · (intro w hSw; (try dsimp only at hSw); go_simp; try with_reducible rfl)
        try simp only [Act.put, List.setIfInBounds_toArray, List.set_cons_zero, List.set_cons_succ]
        refine wpAnyH_ready (rs := [25]) (by kernel_rfl) (by simp) ?_
        refine AllReadyH.cons (by simp only [List.getElem?_toArray, List.getElem?_cons_succ, List.getElem?_cons_zero]; rfl) (fun K hK => ?_) AllReadyH.nil
        go_simp
        obtain ⟨p25, g25⟩ := Play.setB h2k PD.out hka2 HKI.out (bY)
        have P25 := Lib.hid p25
        have hb25 := Below.grown (Below.drew hb) g25 (Nat.le_trans HB.out hb.size) (fun q e => by cases e; exact hkB2.out)
        clear p25 g25
        refine hK.out _ _ (⟨by show (World.setCell wr _ _).cell? _ = _; rw [World.cell?_setCell_other (h := by simp; try omega)]; exact k2, by show (World.setCell wr _ _).cell? _ = _; rw [World.cell?_setCell_other (h := by simp; try omega)]; exact o2⟩) (fun hHeld => ?_)
        clear hK K
        try simp only [Act.put, List.setIfInBounds_toArray, List.set_cons_zero, List.set_cons_succ]
        refine wpAnyH_done (by kernel_rfl) ?_ _
        refine NoPanic.normal ?_
        clear hHeld
        have HS2 : Hid (Kc.set i (bY) = (BagEv.or X.K Y.K).take (i + 1) ++ X.K.drop (i + 1)) := Lib.hid (by have h9 := HST.out; simpa using h9)
        go_wp2
        go_roundw
        case rel => exact ⟨i + 1, Kc.set i (bY), by have := HI.out; omega, by go_num, HS2, P25, hb25⟩
        case measure => have := HI.out; simp [intOf]; omega
set_option maxRecDepth 100000 in
set_option maxHeartbeats 8000000 in
theorem does_deed (N B rb : Nat) (Ls : List Rp) (Es : List Er) (es : List Ev) (K : Nat → List Bool) (v : Nat → Nat → Nat) (aa : Option Addr) (ac : Nat) (d n tx ot : Int) (w : World) (hd : 0 ≤ d ∧ d ≤ 255) (hn : 0 ≤ n ∧ n ≤ 255) (htx : 0 ≤ tx ∧ tx ≤ 255) (hot : 0 ≤ ot ∧ ot ≤ 255)
    (hP : Play none w B rb (.slice aa Es.length ac) Ls Es) (hR : Rel N Ls Es es K v) (hN : 1 ≤ N ∧ N ≤ 4) (he : es.length ≤ 60) (hB : B ≤ w.heap.size) (hd3 : d.tmod 4 ≠ 3) :
    Calls Try.prog 19 #[.slice (some ⟨rb, 0, none⟩) N N, .slice aa Es.length ac, .agg #[.int .u8 d, .int .u8 n, .int .u8 tx, .int .u8 ot]] w (Did N B rb es.length w) := by
  obtain ⟨k, hk, ek⟩ := mod_is hn.1 hN.1
  obtain ⟨o, ho, eo⟩ := mod_is hot.1 hN.1
  obtain ⟨dd, hdd, ed⟩ := mod_is (N := 4) hd.1 (by decide)
  obtain ⟨rx, hrx, er⟩ := mod_is (N := 3) htx.1 (by decide)
  obtain ⟨tb, htb⟩ : ∃ b : UInt8, ((97 + rx : Nat) : Int) = (b.toNat : Int) := ⟨UInt8.ofNat (97 + rx), by rw [UInt8.toNat_ofNat']; omega⟩
  have HT3 : Hid ([tb] = [97] ∨ [tb] = [98] ∨ [tb] = [99]) := Lib.hid (by
    have key : ∀ m, tb.toNat = m → tb = UInt8.ofNat m := fun m h => by rw [← h, UInt8.ofNat_toNat]
    have h3 : rx = 0 ∨ rx = 1 ∨ rx = 2 := by omega
    rcases h3 with h | h | h
    · exact .inl (by rw [key 97 (by omega)]; rfl)
    · exact .inr (.inl (by rw [key 98 (by omega)]; rfl))
    · exact .inr (.inr (by rw [key 99 (by omega)]; rfl)))
  have hb := (Below.refl B w).alloc hB (.cells #[.int .u8 d, .int .u8 n, .int .u8 tx, .int .u8 ot] 53)
  have PL := Lib.hid (hP.below (balloc (Below.refl w.heap.size w) (.cells #[.int .u8 d, .int .u8 n, .int .u8 tx, .int .u8 ot] 53)))
  have x0 : (w.alloc (.cells #[.int .u8 d, .int .u8 n, .int .u8 tx, .int .u8 ot] 53)).cell? ⟨w.heap.size, 0, none⟩ = some (.int .u8 d) := by rw [World.cell?_alloc_new]; rfl
  have x1 : (w.alloc (.cells #[.int .u8 d, .int .u8 n, .int .u8 tx, .int .u8 ot] 53)).cell? ⟨w.heap.size, 1, none⟩ = some (.int .u8 n) := by rw [World.cell?_alloc_new]; rfl
  have x2 : (w.alloc (.cells #[.int .u8 d, .int .u8 n, .int .u8 tx, .int .u8 ot] 53)).cell? ⟨w.heap.size, 2, none⟩ = some (.int .u8 tx) := by rw [World.cell?_alloc_new]; rfl
  have x3 : (w.alloc (.cells #[.int .u8 d, .int .u8 n, .int .u8 tx, .int .u8 ot] 53)).cell? ⟨w.heap.size, 3, none⟩ = some (.int .u8 ot) := by rw [World.cell?_alloc_new]; rfl
  have HR := Lib.hid hR
  have HN := Lib.hid hN
  have HE := Lib.hid he
  have HB := Lib.hid hB
  have HK := Lib.hid hk
  have HO := Lib.hid ho
  have HTB := Lib.hid htb
  have n1 : IntKind.i64.wrap n = n := by rw [IntKind.wrap_i64]; omega
  have n2 : IntKind.i64.wrap ot = ot := by rw [IntKind.wrap_i64]; omega
  have n3 : IntKind.i64.wrap (k : Int) = (k : Int) := by rw [IntKind.wrap_i64]; omega
  have n4 : IntKind.i64.wrap (o : Int) = (o : Int) := by rw [IntKind.wrap_i64]; omega
  have n5 : ((N : Int) == 0) = false := by rw [beq_eq_false_iff_ne]; omega
  have n6 : (N == 0) = false := by rw [beq_eq_false_iff_ne]; omega
  have n7 : ¬ N = 0 := by omega
  clear hP hR hk ho hN he hB
  go_enter Try.func19, Try.ntmps19
  go_upto_region 1 with (fail)
  obtain ⟨w1, hw1⟩ : ∃ v, v = w.alloc (.cells #[.int .u8 d, .int .u8 n, .int .u8 tx, .int .u8 ot] 53) := ⟨_, rfl⟩
  rw [← hw1] at hb PL x0 x1 x2 x3 ⊢
  obtain ⟨xb, hxb⟩ : ∃ b, b = w.heap.size := ⟨_, rfl⟩
  rw [← hxb] at x0 x1 x2 x3 ⊢
  have HXB : Hid (B ≤ xb ∧ xb < w1.heap.size) := Lib.hid (by have := HB.out; rw [hxb, hw1, World.size_alloc]; omega)
  clear hw1 hxb
  go_upto_region 3 with (fail)
  have er3 : tx.tmod 3 = (rx : Int) := er
  have ed4 : d.tmod 4 = (dd : Int) := ed
  have h3 := hd3
  rw [ed4] at h3
  clear hd3
  have u1 : IntKind.u8.wrap (rx : Int) = (rx : Int) := by rw [IntKind.wrap_u8]; omega
  have u2 : IntKind.u8.wrap (97 + (rx : Int)) = 97 + (rx : Int) := by rw [IntKind.wrap_u8]; omega
  have u3 : IntKind.u8.wrap (dd : Int) = (dd : Int) := by rw [IntKind.wrap_u8]; omega
  have cv := Conv.conv1 (97 + (rx : Int)) tb (by rw [← htb]; push_cast; rfl) w1 w1.heap.size rfl
  go_upto_region 4 with (fail)
  have kT := balloc (Below.refl w1.heap.size w1) (.cells #[.int .u8 (97 + (rx : Int))] 5)
  obtain ⟨w2, hw2⟩ : ∃ v, v = w1.alloc (.cells #[.int .u8 (97 + (rx : Int))] 5) := ⟨_, rfl⟩
  rw [← hw2] at kT ⊢
  replace hb := hb.trans (kT.mono (Nat.le_trans HB.out hb.size))
  replace PL := Lib.hid (PL.out.below kT)
  replace x0 := Dots.keepC x0 kT
  obtain ⟨tbB, htbB⟩ : ∃ b, b = w1.heap.size := ⟨_, rfl⟩
  try rw [← htbB]
  have HXB2 : Hid (B ≤ xb ∧ xb < w2.heap.size) := Lib.hid ⟨HXB.out.1, Nat.lt_of_lt_of_le HXB.out.2 kT.size⟩
  have hkl : k < Ls.length := by rw [HR.out.len]; exact HK.out
  have hol : o < Ls.length := by rw [HR.out.len]; exact HO.out
  obtain ⟨X, hX⟩ : ∃ X, X = Ls[k] := ⟨_, rfl⟩
  obtain ⟨Y, hY⟩ : ∃ Y, Y = Ls[o] := ⟨_, rfl⟩
  have HX := Lib.hid hX
  have HY := Lib.hid hY
  have HKL := Lib.hid hkl
  have HOL := Lib.hid hol
  have j1 : (0 : Int) ≤ (k : Int) := by omega
  have j2 : (k : Int) < (N : Int) := by have := HK.out; omega
  have j3 : (0 : Int) ≤ (o : Int) := by omega
  have j4 : (o : Int) < (N : Int) := by have := HO.out; omega
  clear hw2 kT htbB x1 x2 x3 cv htb u1 u2 er3 er hX hY n1 n2 ek eo ed HXB hd hn htx hot
  replace h3 : ¬ dd = 3 := by omega
  have q3 : ((dd : Int) == 3) = false := by rw [beq_eq_false_iff_ne]; omega
  have q3n : (dd == 3) = false := by simpa using h3
  have HD := Lib.hid h3
  clear h3
  obtain ⟨pb, hpb⟩ : ∃ b : UInt8, b = UInt8.ofNat (k + 1) := ⟨_, rfl⟩
  have hk4 : k < 4 := by have := HK.out; have := HN.out.2; omega
  have HPB : Hid (path k = [1, pb]) := Lib.hid (by rw [hpb]; rfl)
  have m1 : IntKind.i64.wrap ((k : Int) + 1) = (k : Int) + 1 := by rw [IntKind.wrap_i64]; omega
  have m2 : IntKind.u8.wrap ((k : Int) + 1) = (k : Int) + 1 := by rw [IntKind.wrap_u8]; omega
  have cv2 := Conv.conv2 1 ((k : Int) + 1) 1 pb rfl (by rw [hpb, UInt8.toNat_ofNat']; omega) w2 w2.heap.size rfl
  clear hpb
  go_upto_region 13 with (fail)
  have kT := balloc (Below.refl w2.heap.size w2) (.cells #[.int .u8 1, .int .u8 ((k : Int) + 1)] 5)
  obtain ⟨w3, hw3⟩ : ∃ v, v = w2.alloc (.cells #[.int .u8 1, .int .u8 ((k : Int) + 1)] 5) := ⟨_, rfl⟩
  rw [← hw3] at kT ⊢
  replace hb := hb.trans (kT.mono (Nat.le_trans HB.out hb.size))
  replace PL := Lib.hid (PL.out.below kT)
  replace x0 := Dots.keepC x0 kT
  have hpc := PL.out.cells hkl
  rw [← HX.out] at hpc
  unfold Rp.lv Rp.vv Rp.kv at hpc
  obtain ⟨c0, c1, c2⟩ := hpc
  have FK : Hid (Fine X.R ∧ (pls X.R).length ≤ 100 ∧ X.R.length ≤ 100 ∧ Ok X.V ∧ X.V.length ≤ 256) := Lib.hid (by rw [HX.out]; exact HR.out.few hkl HE.out)
  obtain ⟨nn, hnn⟩ : ∃ m, m = v k k := ⟨_, rfl⟩
  have HNN := Lib.hid hnn
  have hn100 : nn ≤ 60 := by rw [hnn]; exact Nat.le_trans (HR.out.inv.small k k) HE.out
  have OF : Hid (∀ W, Play none W B rb (.slice aa Es.length ac) Ls Es → Calls Try.prog 36 #[.slice X.va X.V.length X.vc, .string ⟨#[1, pb]⟩] W fun e w' => e = .returned (.int .u64 (nn : Nat)) ∧ W = w') := Lib.hid (fun W hp => by
    have h1 := hp.vec _ (List.getElem_mem hkl)
    rw [← HX.out] at h1
    have h2 := RefDots.of_any (path k) X.V X.va X.V.length X.vc W (mark_lies h1) (by have := FK.out.2.2.2.2; omega) FK.out.2.2.2.1
    have h3 : ofL X.V (path k) = nn := by
      have h4 := (HR.out.vec k hkl).2 (path k)
      rw [gF_path (by omega), ← HX.out] at h4
      rw [h4, hnn]
    rw [h3, HPB.out] at h2
    exact h2)
  have m3 : IntKind.u64.wrap ((nn : Int) + 1) = (nn : Int) + 1 := by rw [IntKind.wrap_u64]; omega
  clear hw3 cv2 m1 m2 hnn
  go_wp2_with fail
  refine (OF.out _ PL.out).mono ?_
  rintro e w' ⟨rfl, rfl⟩
  go_upto_region 14 with (fail)
  have kT := balloc (Below.refl w3.heap.size w3) (.cells #[.string ⟨#[1, pb]⟩, .int .u64 ((nn : Int) + 1)] 31)
  have f0 : (w3.alloc (.cells #[.string ⟨#[1, pb]⟩, .int .u64 ((nn : Int) + 1)] 31)).cell? ⟨w3.heap.size, 0, none⟩ = some (.string ⟨#[1, pb]⟩) := by rw [World.cell?_alloc_new]; rfl
  have f1 : (w3.alloc (.cells #[.string ⟨#[1, pb]⟩, .int .u64 ((nn : Int) + 1)] 31)).cell? ⟨w3.heap.size, 1, none⟩ = some (.int .u64 ((nn : Int) + 1)) := by rw [World.cell?_alloc_new]; rfl
  obtain ⟨w4, hw4⟩ : ∃ v, v = w3.alloc (.cells #[.string ⟨#[1, pb]⟩, .int .u64 ((nn : Int) + 1)] 31) := ⟨_, rfl⟩
  rw [← hw4] at kT f0 f1 ⊢
  obtain ⟨db, hdb⟩ : ∃ b, b = w3.heap.size := ⟨_, rfl⟩
  rw [← hdb] at f0 f1 ⊢
  have HDB : Hid (rb ≠ db) := Lib.hid (by
    obtain ⟨_, h9, _⟩ := PL.out.own
    have := (Array.getElem?_eq_some_iff.1 h9).1
    omega)
  have HDW : Hid (db < w4.heap.size) := Lib.hid (Dots.cell_lt f0)
  replace hb := hb.trans (kT.mono (Nat.le_trans HB.out hb.size))
  replace PL := Lib.hid (PL.out.below kT)
  replace x0 := Dots.keepC x0 kT
  replace c0 := Dots.keepC c0 kT
  replace c1 := Dots.keepC c1 kT
  replace c2 := Dots.keepC c2 kT
  have HKN : Hid (OwnB w4 B (.slice X.ka X.K.length X.kc) X.K) := Lib.hid (by have h1 := PL.out.knew k hkl (by simp); rw [← HX.out] at h1; exact h1)
  have HKL60 : Hid (X.K.length ≤ 60) := Lib.hid (by rw [HX.out, (HR.out.sizes hkl (by have := HE.out; omega)).2.2.2.2.2]; exact HE.out)
  have HBW : Hid (B ≤ w4.heap.size) := Lib.hid (Nat.le_trans HB.out hb.size)
  have hw0 := Below.refl w4.heap.size w4
  clear hw4 hdb kT OF
  go_cut [14] (fun v wx => ∃ (eb : Nat) (sa : Option Addr) (sc : Nat), v = .pointer (some ⟨eb, 0, none⟩) ∧ Hid (OwnE wx B (.slice (some ⟨eb, 0, none⟩) 1 1) [⟨[tb], [1, pb], nn + 1, sa, sc, X.K⟩]) ∧ Hid (OwnB wx B (.slice sa X.K.length sc) X.K) ∧ Hid (∀ q, (Value.slice sa X.K.length sc).ownBlock = some q → w4.heap.size ≤ q) ∧ Hid (w4.heap.size ≤ eb) ∧ Below w4.heap.size w4 wx)
  case first =>
    go_wp2_with fail
    have HKL0 : Hid (Row.Lies bE w4 X.ka X.K.length X.K) := Lib.hid (by obtain ⟨_, _, e, -, -, hl, -⟩ := Row.Own.lies HKN.out; simp only [Value.slice.injEq] at e; rw [e.1]; exact hl)
    refine wp_region_noPanic ?_
    refine wp_region_held_drew (S := (fun w' => Below w4.heap.size w4 w' ∧ w'.cell? ⟨rb, k * 3 + 2, none⟩ = some (.slice X.ka X.K.length X.kc) ∧ w'.cell? ⟨db, 0, none⟩ = some (.string ⟨#[1, pb]⟩) ∧ w'.cell? ⟨db, 1, none⟩ = some (.int .u64 ((nn : Int) + 1)))) (by kernel_rfl) (⟨Below.drew hw0, Dots.keepC c2 (Below.drew (Below.refl _ _)), Dots.keepC f0 (Below.drew (Below.refl _ _)), Dots.keepC f1 (Below.drew (Below.refl _ _))⟩) (fun hHeld => ?_)
    refine wpAnyH_take (i := 0) (v := ?_) (by simp only [List.getElem?_toArray, List.getElem?_cons_zero]; rfl) (by kernel_rfl) (by kernel_rfl) (by kernel_rfl) (fun _ _ _ h => h) (Or.inl ⟨by rfl, ?_⟩) (by assumption) ?_
    rotate_left
    · (intro w hSw; (try dsimp only at hSw); go_simp; try with_reducible rfl)
    try simp only [Act.put, List.setIfInBounds_toArray, List.set_cons_zero, List.set_cons_succ]
    refine wpAnyH_take (i := 1) (v := ?_) (by simp only [List.getElem?_toArray, List.getElem?_cons_succ, List.getElem?_cons_zero]; rfl) (by kernel_rfl) (by kernel_rfl) (by kernel_rfl) (fun _ _ _ h => h) (Or.inl ⟨by rfl, ?_⟩) (by assumption) ?_
    rotate_left
    · (intro w hSw; (try dsimp only at hSw); go_simp; try with_reducible rfl)
    try simp only [Act.put, List.setIfInBounds_toArray, List.set_cons_zero, List.set_cons_succ]
    refine wpAnyH_take (i := 3) (v := ?_) (by simp only [List.getElem?_toArray, List.getElem?_cons_succ, List.getElem?_cons_zero]; rfl) (by kernel_rfl) (by kernel_rfl) (by kernel_rfl) (fun _ _ _ h => h) (Or.inl ⟨by rfl, ?_⟩) (by assumption) ?_
    rotate_left
    · (intro w hSw; (try dsimp only at hSw); go_simp; try with_reducible rfl)
    try simp only [Act.put, List.setIfInBounds_toArray, List.set_cons_zero, List.set_cons_succ]
    refine wpAnyH_take (i := 4) (v := ?_) (by simp only [List.getElem?_toArray, List.getElem?_cons_succ, List.getElem?_cons_zero]; rfl) (by kernel_rfl) (by kernel_rfl) (by kernel_rfl) (fun _ _ _ h => h) (Or.inl ⟨by rfl, ?_⟩) (by assumption) ?_
    rotate_left
    · (intro w hSw; (try dsimp only at hSw); go_simp; try with_reducible rfl)
    try simp only [Act.put, List.setIfInBounds_toArray, List.set_cons_zero, List.set_cons_succ]
    refine wpAnyH_take (i := 5) (v := ?_) (by simp only [List.getElem?_toArray, List.getElem?_cons_succ, List.getElem?_cons_zero]; rfl) (by kernel_rfl) (by kernel_rfl) (by kernel_rfl) (fun _ _ _ h => h) (Or.inl ⟨by rfl, ?_⟩) (by assumption) ?_
    rotate_left
    · (intro w hSw; (try dsimp only at hSw); go_simp; try with_reducible rfl)
    try simp only [Act.put, List.setIfInBounds_toArray, List.set_cons_zero, List.set_cons_succ]
    refine wpAnyH_take (i := 6) (v := ?_) (by simp only [List.getElem?_toArray, List.getElem?_cons_succ, List.getElem?_cons_zero]; rfl) (by kernel_rfl) (by kernel_rfl) (by kernel_rfl) (fun _ _ _ h => h) (Or.inl ⟨by rfl, ?_⟩) (by assumption) ?_
    rotate_left
    · (intro w hSw; (try dsimp only at hSw); go_simp; try with_reducible rfl)
    try simp only [Act.put, List.setIfInBounds_toArray, List.set_cons_zero, List.set_cons_succ]
    refine wpAnyH_take (i := 7) (v := ?_) (by simp only [List.getElem?_toArray, List.getElem?_cons_succ, List.getElem?_cons_zero]; rfl) (by kernel_rfl) (by kernel_rfl) (by kernel_rfl) (fun _ _ _ h => h) (Or.inl ⟨by rfl, ?_⟩) (by assumption) ?_
    rotate_left
    · (intro w hSw; (try dsimp only at hSw); go_simp; try with_reducible rfl)
    try simp only [Act.put, List.setIfInBounds_toArray, List.set_cons_zero, List.set_cons_succ]
    refine wpAnyH_ready (rs := [2, 10]) (by kernel_rfl) (by simp) ?_
    refine AllReadyH.cons (by simp only [List.getElem?_toArray, List.getElem?_cons_succ, List.getElem?_cons_zero]; rfl) (fun K hK => ?_) (AllReadyH.cons (by simp only [List.getElem?_toArray, List.getElem?_cons_succ, List.getElem?_cons_zero]; rfl) (fun K hK => ?_) (AllReadyH.nil))
    · skip
      go_simp
      refine hK.out _ _ (⟨bstep hHeld.1 (balloc (Below.refl _ _) _), Dots.keepC hHeld.2.1 (balloc (Below.refl _ _) _), Dots.keepC hHeld.2.2.1 (balloc (Below.refl _ _) _), Dots.keepC hHeld.2.2.2 (balloc (Below.refl _ _) _)⟩) (fun hHeld => ?_)
      clear hK K
      try simp only [Act.put, List.setIfInBounds_toArray, List.set_cons_zero, List.set_cons_succ]
      refine wpAnyH_ready (rs := [8, 10]) (by kernel_rfl) (by simp) ?_
      refine AllReadyH.cons (by simp only [List.getElem?_toArray, List.getElem?_cons_succ, List.getElem?_cons_zero]; rfl) (fun K hK => ?_) (AllReadyH.cons (by simp only [List.getElem?_toArray, List.getElem?_cons_succ, List.getElem?_cons_zero]; rfl) (fun K hK => ?_) (AllReadyH.nil))
      · skip
        refine step_seen typB rfl _ _ rfl w4.heap.size _ rfl (Row.Own.drew (own_empty' w4 (B := w4.heap.size) rfl (Nat.le_refl _))) X.ka X.K.length X.kc X.K rfl (Row.Lies.below HKL0.out (Below.drew (balloc (Below.refl _ _) _))) (by have := HKL60.out; omega) (by show w4.heap.size ≤ _; simp [World.size_alloc]; try omega) ?_; intro v8 w8 o8 g8 k8
        obtain ⟨sa, sc, rfl, -, -, -, -⟩ := Row.Own.lies o8
        have O8 := Lib.hid o8
        have B8 := hHeld.1.trans k8
        clear g8 o8
        refine hK.out _ _ (⟨B8, Dots.keepC c2 (B8), Dots.keepC f0 (B8), Dots.keepC f1 (B8)⟩) (fun hHeld => ?_)
        clear hK K
        try simp only [Act.put, List.setIfInBounds_toArray, List.set_cons_zero, List.set_cons_succ]
        refine wpAnyH_take (i := 9) (v := ?_) (by simp only [List.getElem?_toArray, List.getElem?_cons_succ, List.getElem?_cons_zero]; rfl) (by kernel_rfl) (by kernel_rfl) (by kernel_rfl) (fun _ _ _ h => h) (Or.inl ⟨by rfl, ?_⟩) (by assumption) ?_
        rotate_left
        · (intro w hSw; (try dsimp only at hSw); go_simp; try with_reducible rfl)
        try simp only [Act.put, List.setIfInBounds_toArray, List.set_cons_zero, List.set_cons_succ]
        refine wpAnyH_ready (rs := [10]) (by kernel_rfl) (by simp) ?_
        refine AllReadyH.cons (by simp only [List.getElem?_toArray, List.getElem?_cons_succ, List.getElem?_cons_zero]; rfl) (fun K hK => ?_) AllReadyH.nil
        go_simp
        refine hK.out _ _ (⟨bstep hHeld.1 (balloc (Below.refl _ _) _), Dots.keepC hHeld.2.1 (balloc (Below.refl _ _) _), Dots.keepC hHeld.2.2.1 (balloc (Below.refl _ _) _), Dots.keepC hHeld.2.2.2 (balloc (Below.refl _ _) _)⟩) (fun hHeld => ?_)
        clear hK K
        try simp only [Act.put, List.setIfInBounds_toArray, List.set_cons_zero, List.set_cons_succ]
        refine wpAnyH_ready (rs := [11]) (by kernel_rfl) (by simp) ?_
        refine AllReadyH.cons (by simp only [List.getElem?_toArray, List.getElem?_cons_succ, List.getElem?_cons_zero]; rfl) (fun K hK => ?_) AllReadyH.nil
        go_simp
        refine hK.out _ _ (⟨balloc B8 _, Dots.keepC c2 (balloc B8 _), Dots.keepC f0 (balloc B8 _), Dots.keepC f1 (balloc B8 _)⟩) (fun hHeld => ?_)
        clear hK K
        refine wpAnyH_done (by kernel_rfl) ?_ _
        refine NoPanic.normal ?_
        clear hHeld
        go_wp2_with fail
        go_meet
        exact ⟨w8.heap.size, sa, sc, rfl, Lib.hid (own_event' w8 ⟨[tb], [1, pb], nn + 1, sa, sc, X.K⟩ rfl (Nat.le_trans HBW.out B8.size)), Lib.hid (Row.Own.base (Row.Own.alloc O8.out _) HBW.out), Lib.hid (fun q e => (Row.Own.lt O8.out q e).1), Lib.hid B8.size, balloc B8 _⟩
      · skip
        go_simp
        refine hK.out _ _ (⟨bstep hHeld.1 (balloc (Below.refl _ _) _), Dots.keepC hHeld.2.1 (balloc (Below.refl _ _) _), Dots.keepC hHeld.2.2.1 (balloc (Below.refl _ _) _), Dots.keepC hHeld.2.2.2 (balloc (Below.refl _ _) _)⟩) (fun hHeld => ?_)
        clear hK K
        try simp only [Act.put, List.setIfInBounds_toArray, List.set_cons_zero, List.set_cons_succ]
        refine wpAnyH_ready (rs := [8]) (by kernel_rfl) (by simp) ?_
        refine AllReadyH.cons (by simp only [List.getElem?_toArray, List.getElem?_cons_succ, List.getElem?_cons_zero]; rfl) (fun K hK => ?_) AllReadyH.nil
        refine step_seen typB rfl _ _ rfl w4.heap.size _ rfl (Row.Own.drew (Row.Own.alloc (own_empty' w4 (B := w4.heap.size) rfl (Nat.le_refl _)) _)) X.ka X.K.length X.kc X.K rfl (Row.Lies.below HKL0.out (Below.drew (balloc (balloc (Below.refl _ _) _) _))) (by have := HKL60.out; omega) (by show w4.heap.size ≤ _; simp [World.size_alloc]; try omega) ?_; intro v8 w8 o8 g8 k8
        have Z8 := Lib.hid (row_kept (Row.Own.drew (own_event' (w4.alloc (.cells #[] 4)) ⟨[], [], 0, none, 0, []⟩ (g := w4.heap.size + 1) (B := B) (by rw [World.size_alloc]) (by rw [World.size_alloc]; have := HBW.out; omega))) (Row.Own.drew (Row.Own.alloc (own_empty' w4 (B := w4.heap.size) rfl (Nat.le_refl _)) _)) g8 (by decide))
        obtain ⟨z0, z1, z2, z3, zf⟩ := event_cells Z8.out
        have zf0 := zf 0
        have zf1 := zf 1
        have zf2 := zf 2
        have zf3 := zf 3
        clear zf
        obtain ⟨sa, sc, rfl, -, -, -, -⟩ := Row.Own.lies o8
        have O8 := Lib.hid o8
        have B8 := hHeld.1.trans k8
        clear g8 o8
        refine hK.out _ _ (⟨B8, Dots.keepC c2 (B8), Dots.keepC f0 (B8), Dots.keepC f1 (B8)⟩) (fun hHeld => ?_)
        clear hK K
        try simp only [Act.put, List.setIfInBounds_toArray, List.set_cons_zero, List.set_cons_succ]
        refine wpAnyH_take (i := 9) (v := ?_) (by simp only [List.getElem?_toArray, List.getElem?_cons_succ, List.getElem?_cons_zero]; rfl) (by kernel_rfl) (by kernel_rfl) (by kernel_rfl) (fun _ _ _ h => h) (Or.inl ⟨by rfl, ?_⟩) (by assumption) ?_
        rotate_left
        · (intro w hSw; (try dsimp only at hSw); go_simp; try with_reducible rfl)
        try simp only [Act.put, List.setIfInBounds_toArray, List.set_cons_zero, List.set_cons_succ]
        refine wpAnyH_ready (rs := [11]) (by kernel_rfl) (by simp) ?_
        refine AllReadyH.cons (by simp only [List.getElem?_toArray, List.getElem?_cons_succ, List.getElem?_cons_zero]; rfl) (fun K hK => ?_) AllReadyH.nil
        go_simp
        have ES := event_store Z8.out ⟨[tb], [1, pb], nn + 1, sa, sc, X.K⟩
        have BX := Below.grown B8 ES.2 B8.size (fun q e => by cases e; omega)
        refine hK.out _ _ (⟨BX, Dots.keepC c2 (BX), Dots.keepC f0 (BX), Dots.keepC f1 (BX)⟩) (fun hHeld => ?_)
        clear hK K
        refine wpAnyH_done (by kernel_rfl) ?_ _
        refine NoPanic.normal ?_
        clear hHeld
        go_wp2_with fail
        go_meet
        exact ⟨w4.heap.size + 1, sa, sc, rfl, Lib.hid ES.1, Lib.hid (Row.Own.base (row_kept O8.out Z8.out ES.2 (by decide)) HBW.out), Lib.hid (fun q e => (Row.Own.lt O8.out q e).1), Lib.hid (by omega), BX⟩
    · skip
      go_simp
      refine hK.out _ _ (⟨bstep hHeld.1 (balloc (Below.refl _ _) _), Dots.keepC hHeld.2.1 (balloc (Below.refl _ _) _), Dots.keepC hHeld.2.2.1 (balloc (Below.refl _ _) _), Dots.keepC hHeld.2.2.2 (balloc (Below.refl _ _) _)⟩) (fun hHeld => ?_)
      clear hK K
      try simp only [Act.put, List.setIfInBounds_toArray, List.set_cons_zero, List.set_cons_succ]
      refine wpAnyH_ready (rs := [2]) (by kernel_rfl) (by simp) ?_
      refine AllReadyH.cons (by simp only [List.getElem?_toArray, List.getElem?_cons_succ, List.getElem?_cons_zero]; rfl) (fun K hK => ?_) AllReadyH.nil
      go_simp
      refine hK.out _ _ (⟨bstep hHeld.1 (balloc (Below.refl _ _) _), Dots.keepC hHeld.2.1 (balloc (Below.refl _ _) _), Dots.keepC hHeld.2.2.1 (balloc (Below.refl _ _) _), Dots.keepC hHeld.2.2.2 (balloc (Below.refl _ _) _)⟩) (fun hHeld => ?_)
      clear hK K
      try simp only [Act.put, List.setIfInBounds_toArray, List.set_cons_zero, List.set_cons_succ]
      refine wpAnyH_ready (rs := [8]) (by kernel_rfl) (by simp) ?_
      refine AllReadyH.cons (by simp only [List.getElem?_toArray, List.getElem?_cons_succ, List.getElem?_cons_zero]; rfl) (fun K hK => ?_) AllReadyH.nil
      refine step_seen typB rfl _ _ rfl w4.heap.size _ rfl (Row.Own.drew (own_empty' (w4.alloc _) (g := w4.heap.size + 1) (B := w4.heap.size) (by rw [World.size_alloc]) (by rw [World.size_alloc]; omega))) X.ka X.K.length X.kc X.K rfl (Row.Lies.below HKL0.out (Below.drew (balloc (balloc (Below.refl _ _) _) _))) (by have := HKL60.out; omega) (by show w4.heap.size ≤ _; simp [World.size_alloc]; try omega) ?_; intro v8 w8 o8 g8 k8
      have Z8 := Lib.hid (row_kept (Row.Own.drew (Row.Own.alloc (own_event' w4 ⟨[], [], 0, none, 0, []⟩ (B := B) rfl HBW.out) _)) (Row.Own.drew (own_empty' (w4.alloc _) (g := w4.heap.size + 1) (B := w4.heap.size) (by rw [World.size_alloc]) (by rw [World.size_alloc]; omega))) g8 (by decide))
      obtain ⟨z0, z1, z2, z3, zf⟩ := event_cells Z8.out
      have zf0 := zf 0
      have zf1 := zf 1
      have zf2 := zf 2
      have zf3 := zf 3
      clear zf
      obtain ⟨sa, sc, rfl, -, -, -, -⟩ := Row.Own.lies o8
      have O8 := Lib.hid o8
      have B8 := hHeld.1.trans k8
      clear g8 o8
      refine hK.out _ _ (⟨B8, Dots.keepC c2 (B8), Dots.keepC f0 (B8), Dots.keepC f1 (B8)⟩) (fun hHeld => ?_)
      clear hK K
      try simp only [Act.put, List.setIfInBounds_toArray, List.set_cons_zero, List.set_cons_succ]
      refine wpAnyH_take (i := 9) (v := ?_) (by simp only [List.getElem?_toArray, List.getElem?_cons_succ, List.getElem?_cons_zero]; rfl) (by kernel_rfl) (by kernel_rfl) (by kernel_rfl) (fun _ _ _ h => h) (Or.inl ⟨by rfl, ?_⟩) (by assumption) ?_
      rotate_left
      · (intro w hSw; (try dsimp only at hSw); go_simp; try with_reducible rfl)
      try simp only [Act.put, List.setIfInBounds_toArray, List.set_cons_zero, List.set_cons_succ]
      refine wpAnyH_ready (rs := [11]) (by kernel_rfl) (by simp) ?_
      refine AllReadyH.cons (by simp only [List.getElem?_toArray, List.getElem?_cons_succ, List.getElem?_cons_zero]; rfl) (fun K hK => ?_) AllReadyH.nil
      go_simp
      have ES := event_store Z8.out ⟨[tb], [1, pb], nn + 1, sa, sc, X.K⟩
      have BX := Below.grown B8 ES.2 B8.size (fun q e => by cases e; omega)
      refine hK.out _ _ (⟨BX, Dots.keepC c2 (BX), Dots.keepC f0 (BX), Dots.keepC f1 (BX)⟩) (fun hHeld => ?_)
      clear hK K
      refine wpAnyH_done (by kernel_rfl) ?_ _
      refine NoPanic.normal ?_
      clear hHeld
      go_wp2_with fail
      go_meet
      exact ⟨w4.heap.size, sa, sc, rfl, Lib.hid ES.1, Lib.hid (Row.Own.base (row_kept O8.out Z8.out ES.2 (by decide)) HBW.out), Lib.hid (fun q e => (Row.Own.lt O8.out q e).1), Lib.hid (by omega), BX⟩
  obtain ⟨eb, sa, sc, rfl, HEV, HSE, HSB, HEB, hbc⟩ := hcut
  have HFR : Hid (∀ x ∈ Ls, (Value.slice sa X.K.length sc).ownBlock = none ∨ (Value.slice sa X.K.length sc).ownBlock ≠ x.kv.ownBlock) := Lib.hid (fun x hx => by
    cases e : (Value.slice sa X.K.length sc).ownBlock with
    | none => exact .inl rfl
    | some q =>
      refine .inr fun e' => ?_
      obtain ⟨j, hj, rfl⟩ := List.getElem_of_mem hx
      have h1 := (Row.Own.lt (PL.out.knew j hj (by simp)) q e'.symm).2
      have h2 := HSB.out q e
      omega)
  have HAV : Hid ((Value.slice aa Es.length ac).ownBlock = none ∨ (Value.slice aa Es.length ac).ownBlock ≠ some eb) := Lib.hid (by
    cases e : (Value.slice aa Es.length ac).ownBlock with
    | none => exact .inl rfl
    | some q =>
      refine .inr fun e' => ?_
      simp only [Option.some.injEq] at e'
      have h1 := (Row.Own.lt PL.out.evs q e).2
      have h2 := HEB.out
      omega)
  have HEDB : Hid (eb ≠ db) := Lib.hid (by have := HEB.out; have := HDW.out; omega)
  replace PL := Lib.hid (PL.out.below hbc)
  replace x0 := Dots.keepC x0 hbc
  replace c0 := Dots.keepC c0 hbc
  replace f0 := Dots.keepC f0 hbc
  replace f1 := Dots.keepC f1 hbc
  replace hb := hb.trans (hbc.mono HBW.out)
  have HBC : Hid (B ≤ wc.heap.size) := Lib.hid (Nat.le_trans HBW.out hbc.size)
  have HHX : Hid (Had wc B X.la X.R.length X.lc X.R) := Lib.hid (by have h1 := PL.out.bag _ (List.getElem_mem hkl); rw [← HX.out] at h1; exact h1)
  have TK : Hid (∀ W, Play none W B rb (.slice aa Es.length ac) Ls Es → Calls Try.prog 14 #[.slice X.la X.R.length X.lc, .string ⟨#[tb]⟩] W (Got (fun t m => Has X.R t m ∧ t ≠ [tb]) (pls X.R).length W)) := Lib.hid (fun W hp => by
    have h1 := hp.bag _ (List.getElem_mem hkl)
    rw [← HX.out] at h1
    exact take_any X.R [tb] X.la X.R.length X.lc W h1.lies FK.out.1)
  have PU : Hid (∀ W, Play none W B rb (.slice aa Es.length ac) Ls Es → Calls Try.prog 13 #[.slice X.la X.R.length X.lc, .string ⟨#[tb]⟩, .agg #[.string ⟨#[1, pb]⟩, .int .u64 ((nn : Int) + 1)]] W (PutIs X.R [tb] (dot k (nn + 1)) (BagOwnLaw.others X.R [tb]) W)) := Lib.hid (fun W hp => by
    have h1 := hp.bag _ (List.getElem_mem hkl)
    rw [← HX.out] at h1
    have hbg := (HR.out.bag k hkl).1
    rw [← HX.out] at hbg
    have h3 : 10 ≤ maxLen := by decide
    have h2 := put_any X.R [tb] (dot k (nn + 1)) X.la X.R.length X.lc W h1.lies FK.out.1 ⟨by show 2 ≤ _; omega, by show nn + 1 ≤ _; omega⟩ (by show 1 ≤ _; omega) (BagOwnLaw.others X.R [tb]) (BagOwnLaw.others_bag hbg [tb]) (by have := FK.out.2.1; omega)
    have h4 : (dot k (nn + 1)).p = [1, pb] := HPB.out
    rw [h4] at h2
    exact h2)
  have HOTH : Hid ((BagOwnLaw.others X.R [tb]).length < 256) := Lib.hid (by have h1 : (BagOwnLaw.others X.R [tb]).length ≤ X.R.length := List.length_filter_le _ _; have := FK.out.2.2.1; omega)
  obtain ⟨pB, hpB⟩ : ∃ b : Bool, b = !(dd == 2) := ⟨_, rfl⟩
  have hb0 := Below.refl B wc
  have HBB := Lib.hid hb
  have HDC : Hid (db < wc.heap.size) := Lib.hid (Nat.lt_of_lt_of_le HDW.out hbc.size)
  clear hbc hb c1 c2 HKN HSB HDW
  go_upto_if 140 with (fail)
  go_cut [] (fun wx => ∃ (a : Option Addr) (cc : Nat) (Q : List It), Hid (Play none wx B rb (.slice aa Es.length ac) (Ls.set k (X.withL a cc Q)) Es) ∧ Hid (IsBag Q (fun t' m => (Has X.R t' m ∧ t' ≠ [tb]) ∨ (pB = true ∧ t' = [tb] ∧ m = dot k (nn + 1)))) ∧ Hid (OwnE wx B (.slice (some ⟨eb, 0, none⟩) 1 1) [⟨[tb], [1, pb], if pB then nn + 1 else 0, sa, sc, X.K⟩]) ∧ Hid (OwnB wx B (.slice sa X.K.length sc) X.K) ∧ wx.cell? ⟨db, 1, none⟩ = some (.int .u64 ((nn : Int) + 1)) ∧ Below B wc wx)
  case first =>
    by_cases h2 : dd = 2
    · have hpf : pB = false := by rw [hpB, h2]; rfl
      subst hpf
      have q2 : ((dd : Int) == 2) = true := by simp [h2]
      have q2n : (dd == 2) = true := by simp [h2]
      clear h2 hpB
      go_wp2_with fail
      refine (TK.out _ PL.out).mono ?_
      rintro e v7 ⟨a7, c7, Q, rfl, hQ, -, hH, k7⟩
      have HQ : Hid (IsBag Q (fun t' m => (Has X.R t' m ∧ t' ≠ [tb]) ∨ (false = true ∧ t' = [tb] ∧ m = dot k (nn + 1)))) := Lib.hid (hQ.congr fun t m => by simp)
      have HH := Lib.hid (hH.base HBC.out)
      have P7 := Lib.hid (PL.out.below k7)
      have E7 := Lib.hid (Row.Own.below HEV.out k7)
      have S7 := Lib.hid (Row.Own.below HSE.out k7)
      have g1 := Dots.keepC f1 k7
      have i7 := Dots.keepC c0 k7
      have z7 := P7.out.frozen (k * 3)
      have hb7 : Below B wc v7 := k7.mono HBC.out
      have HD7 : Hid (db < v7.heap.size) := Lib.hid (Nat.lt_of_lt_of_le HDC.out k7.size)
      clear hQ hH k7 PL TK PU c0 f0 f1 x0
      go_upto_region 17 with (fail)
      obtain ⟨p1, gw1⟩ := P7.out.setL hkl HH.out
      rw [← HX.out] at p1
      have P1 := Lib.hid p1
      have E1 := Lib.hid (row_kept E7.out P7.out.row gw1 (by decide))
      have S1 := Lib.hid (row_kept S7.out P7.out.row gw1 (by decide))
      have hb8 := Below.grown hb7 gw1 (Nat.le_trans HBC.out hb7.size) (fun q e => by cases e; obtain ⟨_, _, h9⟩ := P7.out.own; exact h9)
      have g2 : (v7.setCell ⟨rb, k * 3, none⟩ (.slice a7 Q.length c7)).cell? ⟨db, 1, none⟩ = some (.int .u64 ((nn : Int) + 1)) := (World.cell?_of_block (a := ⟨db, 1, none⟩) (gw1.block db HD7.out (fun e => HDB.out (by cases e; rfl)))).trans g1
      have HD8 : Hid (db < (v7.setCell ⟨rb, k * 3, none⟩ (.slice a7 Q.length c7)).heap.size) := Lib.hid (Nat.lt_of_lt_of_le HD7.out gw1.size)
      obtain ⟨w8, hw8⟩ : ∃ x, x = v7.setCell ⟨rb, k * 3, none⟩ (.slice a7 Q.length c7) := ⟨_, rfl⟩
      rw [← hw8] at P1 E1 S1 hb8 g2 HD8 ⊢
      obtain ⟨e0, e1, e2, e3, ez⟩ := event_cells E1.out
      have ez2 := ez 2
      clear p1 gw1 hw8 hb7 P7 E7 S7 g1 i7 z7 ez
      go_wp2_with fail
      go_meet
      have ES := event_set E1.out 0
      have P2 := P1.out.other E1.out ES.2 HAV.out
      exact ⟨a7, c7, Q, Lib.hid P2, HQ, Lib.hid ES.1, Lib.hid (row_kept S1.out E1.out ES.2 (by decide)), (World.cell?_of_block (a := ⟨db, 1, none⟩) (ES.2.block db HD8.out (fun e => HEDB.out (by cases e; rfl)))).trans g2, Below.grown hb8 ES.2 (Nat.le_trans HBC.out hb8.size) (fun q e => by cases e; exact Nat.le_trans HBW.out HEB.out)⟩
    · have hpt : pB = true := by rw [hpB]; simp [h2]
      subst hpt
      have q2 : ((dd : Int) == 2) = false := by rw [beq_eq_false_iff_ne]; omega
      have q2n : (dd == 2) = false := by simpa using h2
      have PD := Lib.hid (PL.out.below (Below.drew (Below.refl _ _)))
      clear hpB
      go_wp2_with fail
      refine wp_region_noPanic ?_
      refine wp_region_held_drew (S := (fun w' => w'.cell? ⟨rb, k * 3, none⟩ = some (.slice X.la X.R.length X.lc) ∧ w'.cell? ⟨db, 0, none⟩ = some (.string ⟨#[1, pb]⟩) ∧ w'.cell? ⟨db, 1, none⟩ = some (.int .u64 ((nn : Int) + 1)))) (by kernel_rfl) (⟨Dots.keepC c0 (Below.drew (Below.refl _ _)), Dots.keepC f0 (Below.drew (Below.refl _ _)), Dots.keepC f1 (Below.drew (Below.refl _ _))⟩) (fun hHeld => ?_)
      refine wpAnyH_take (i := 0) (v := ?_) (by simp only [List.getElem?_toArray, List.getElem?_cons_zero]; rfl) (by kernel_rfl) (by kernel_rfl) (by kernel_rfl) (fun _ _ _ h => h) (Or.inl ⟨by rfl, ?_⟩) (by assumption) ?_
      rotate_left
      · (intro w hSw; (try dsimp only at hSw); go_simp; try with_reducible rfl)
      try simp only [Act.put, List.setIfInBounds_toArray, List.set_cons_zero, List.set_cons_succ]
      refine wpAnyH_take (i := 1) (v := ?_) (by simp only [List.getElem?_toArray, List.getElem?_cons_succ, List.getElem?_cons_zero]; rfl) (by kernel_rfl) (by kernel_rfl) (by kernel_rfl) (fun _ _ _ h => h) (Or.inl ⟨by rfl, ?_⟩) (by assumption) ?_
      rotate_left
      · (intro w hSw; (try dsimp only at hSw); go_simp; try with_reducible rfl)
      try simp only [Act.put, List.setIfInBounds_toArray, List.set_cons_zero, List.set_cons_succ]
      refine wpAnyH_take (i := 2) (v := ?_) (by simp only [List.getElem?_toArray, List.getElem?_cons_succ, List.getElem?_cons_zero]; rfl) (by kernel_rfl) (by kernel_rfl) (by kernel_rfl) (fun _ _ _ h => h) (Or.inl ⟨by rfl, ?_⟩) (by assumption) ?_
      rotate_left
      · (intro w hSw; (try dsimp only at hSw); go_simp; try with_reducible rfl)
      try simp only [Act.put, List.setIfInBounds_toArray, List.set_cons_zero, List.set_cons_succ]
      refine wpAnyH_take (i := 3) (v := ?_) (by simp only [List.getElem?_toArray, List.getElem?_cons_succ, List.getElem?_cons_zero]; rfl) (by kernel_rfl) (by kernel_rfl) (by kernel_rfl) (fun _ _ _ h => h) (Or.inl ⟨by rfl, ?_⟩) (by assumption) ?_
      rotate_left
      · (intro w hSw; (try dsimp only at hSw); go_simp; try with_reducible rfl)
      try simp only [Act.put, List.setIfInBounds_toArray, List.set_cons_zero, List.set_cons_succ]
      refine wpAnyH_take (i := 4) (v := ?_) (by simp only [List.getElem?_toArray, List.getElem?_cons_succ, List.getElem?_cons_zero]; rfl) (by kernel_rfl) (by kernel_rfl) (by kernel_rfl) (fun _ _ _ h => h) (Or.inl ⟨by rfl, ?_⟩) (by assumption) ?_
      rotate_left
      · (intro w hSw; (try dsimp only at hSw); go_simp; try with_reducible rfl)
      try simp only [Act.put, List.setIfInBounds_toArray, List.set_cons_zero, List.set_cons_succ]
      refine wpAnyH_take (i := 5) (v := ?_) (by simp only [List.getElem?_toArray, List.getElem?_cons_succ, List.getElem?_cons_zero]; rfl) (by kernel_rfl) (by kernel_rfl) (by kernel_rfl) (fun _ _ _ h => h) (Or.inl ⟨by rfl, ?_⟩) (by assumption) ?_
      rotate_left
      · (intro w hSw; (try dsimp only at hSw); go_simp; try with_reducible rfl)
      try simp only [Act.put, List.setIfInBounds_toArray, List.set_cons_zero, List.set_cons_succ]
      refine wpAnyH_take (i := 6) (v := ?_) (by simp only [List.getElem?_toArray, List.getElem?_cons_succ, List.getElem?_cons_zero]; rfl) (by kernel_rfl) (by kernel_rfl) (by kernel_rfl) (fun _ _ _ h => h) (Or.inl ⟨by rfl, ?_⟩) (by assumption) ?_
      rotate_left
      · (intro w hSw; (try dsimp only at hSw); go_simp; try with_reducible rfl)
      try simp only [Act.put, List.setIfInBounds_toArray, List.set_cons_zero, List.set_cons_succ]
      refine wpAnyH_ready (rs := [7]) (by kernel_rfl) (by simp) ?_
      refine AllReadyH.cons (by simp only [List.getElem?_toArray, List.getElem?_cons_succ, List.getElem?_cons_zero]; rfl) (fun K hK => ?_) AllReadyH.nil
      go_simp
      go_at_call 13
      refine (PU.out _ PD.out).mono ?_
      rintro e v7 hpu
      obtain ⟨a7, c7, Q, rfl, hQ, hH, k7⟩ := putok hpu (by show 1 ≤ _; omega) HOTH.out
      replace k7 : Below wc.heap.size wc v7 := (Below.drew (Below.refl _ _)).trans k7
      clear hpu
      dsimp only
      go_wp2_with fail
      refine hK.out _ _ (⟨Dots.keepC c0 k7, Dots.keepC f0 k7, Dots.keepC f1 k7⟩) (fun hHeld => ?_)
      clear hK K
      try simp only [Act.put, List.setIfInBounds_toArray, List.set_cons_zero, List.set_cons_succ]
      refine wpAnyH_take (i := 8) (v := ?_) (by simp only [List.getElem?_toArray, List.getElem?_cons_succ, List.getElem?_cons_zero]; rfl) (by kernel_rfl) (by kernel_rfl) (by kernel_rfl) (fun _ _ _ h => h) (Or.inl ⟨by rfl, ?_⟩) (by assumption) ?_
      rotate_left
      · (intro w hSw; (try dsimp only at hSw); go_simp; try with_reducible rfl)
      try simp only [Act.put, List.setIfInBounds_toArray, List.set_cons_zero, List.set_cons_succ]
      refine wpAnyH_take (i := 9) (v := ?_) (by simp only [List.getElem?_toArray, List.getElem?_cons_succ, List.getElem?_cons_zero]; rfl) (by kernel_rfl) (by kernel_rfl) (by kernel_rfl) (fun _ _ _ h => h) (Or.inl ⟨by rfl, ?_⟩) (by assumption) ?_
      rotate_left
      · (intro w hSw; (try dsimp only at hSw); go_simp; try with_reducible rfl)
      try simp only [Act.put, List.setIfInBounds_toArray, List.set_cons_zero, List.set_cons_succ]
      refine wpAnyH_take (i := 10) (v := ?_) (by simp only [List.getElem?_toArray, List.getElem?_cons_succ, List.getElem?_cons_zero]; rfl) (by kernel_rfl) (by kernel_rfl) (by kernel_rfl) (fun _ _ _ h => h) (Or.inl ⟨by rfl, ?_⟩) (by assumption) ?_
      rotate_left
      · (intro w hSw; (try dsimp only at hSw); go_simp; try with_reducible rfl)
      try simp only [Act.put, List.setIfInBounds_toArray, List.set_cons_zero, List.set_cons_succ]
      refine wpAnyH_take (i := 11) (v := ?_) (by simp only [List.getElem?_toArray, List.getElem?_cons_succ, List.getElem?_cons_zero]; rfl) (by kernel_rfl) (by kernel_rfl) (by kernel_rfl) (fun _ _ _ h => h) (Or.inl ⟨by rfl, ?_⟩) (by assumption) ?_
      rotate_left
      · (intro w hSw; (try dsimp only at hSw); go_simp; try with_reducible rfl)
      try simp only [Act.put, List.setIfInBounds_toArray, List.set_cons_zero, List.set_cons_succ]
      refine wpAnyH_take (i := 12) (v := ?_) (by simp only [List.getElem?_toArray, List.getElem?_cons_succ, List.getElem?_cons_zero]; rfl) (by kernel_rfl) (by kernel_rfl) (by kernel_rfl) (fun _ _ _ h => h) (Or.inl ⟨by rfl, ?_⟩) (by assumption) ?_
      rotate_left
      · (intro w hSw; (try dsimp only at hSw); go_simp; try with_reducible rfl)
      try simp only [Act.put, List.setIfInBounds_toArray, List.set_cons_zero, List.set_cons_succ]
      refine wpAnyH_done (by kernel_rfl) ?_ _
      refine NoPanic.normal ?_
      clear hHeld
      have HQ : Hid (IsBag Q (fun t' m => (Has X.R t' m ∧ t' ≠ [tb]) ∨ (true = true ∧ t' = [tb] ∧ m = dot k (nn + 1)))) := Lib.hid (hQ.congr fun t m => by simp)
      have HH : Hid (Had v7 B a7 Q.length c7 Q) := Lib.hid (hH.base HBC.out)
      have P7 := Lib.hid (PL.out.below k7)
      have E7 := Lib.hid (Row.Own.below HEV.out k7)
      have S7 := Lib.hid (Row.Own.below HSE.out k7)
      have g1 := Dots.keepC f1 k7
      have i7 := Dots.keepC c0 k7
      have z7 := P7.out.frozen (k * 3)
      have hb7 : Below B wc v7 := k7.mono HBC.out
      have HD7 : Hid (db < v7.heap.size) := Lib.hid (Nat.lt_of_lt_of_le HDC.out k7.size)
      clear hQ hH k7 PL PD TK PU c0 f0 f1 x0
      go_wp2_with fail
      go_meet
      obtain ⟨p1, gw1⟩ := P7.out.setL hkl HH.out
      rw [← HX.out] at p1
      exact ⟨a7, c7, Q, Lib.hid p1, HQ, Lib.hid (row_kept E7.out P7.out.row gw1 (by decide)), Lib.hid (row_kept S7.out P7.out.row gw1 (by decide)), (World.cell?_of_block (a := ⟨db, 1, none⟩) (gw1.block db HD7.out (fun e => HDB.out (by cases e; rfl)))).trans g1, Below.grown hb7 gw1 (Nat.le_trans HBC.out hb7.size) (fun q e => by cases e; obtain ⟨_, _, h9⟩ := P7.out.own; exact h9)⟩
  obtain ⟨a8, c8, Q8, PL, HQ8, HEV, HSE, f1, hb⟩ := hcut
  have HKN : Hid (Had wc B X.la X.R.length X.lc X.R → True) := Lib.hid (fun _ => trivial)
  obtain ⟨L1, hL1⟩ : ∃ L, L = Ls.set k (X.withL a8 c8 Q8) := ⟨_, rfl⟩
  rw [← hL1] at PL
  have h1k : k < L1.length := by rw [hL1, List.length_set]; exact hkl
  have H1K : Hid (L1[k] = X.withL a8 c8 Q8) := Lib.hid (by subst hL1; exact set_get h1k)
  have HL1 : Hid (L1 = Ls.set k (X.withL a8 c8 Q8)) := Lib.hid hL1
  clear hL1 HKN
  replace PL := Lib.hid PL.out
  have hpc := PL.out.cells h1k
  rw [H1K.out] at hpc
  unfold Rp.vv Rp.withL at hpc
  obtain ⟨-, c1, -⟩ := hpc
  simp only at c1
  replace HEV := Lib.hid HEV.out
  replace HSE := Lib.hid HSE.out
  replace HQ8 := Lib.hid HQ8.out
  have HBC2 : Hid (B ≤ wc.heap.size) := Lib.hid (Nat.le_trans HBC.out hb.size)
  have DS : Hid (∀ W, Play none W B rb (.slice aa Es.length ac) L1 Es → Calls Try.prog 37 #[.slice X.va X.V.length X.vc, .string ⟨#[1, pb]⟩, .int .u64 ((nn : Int) + 1)] W fun e w' => ∃ a c J, e = .returned (.slice a J.length c) ∧ IsVec J (Dots.setF (ofL X.V) [1, pb] (nn + 1)) ∧ Mark.Own w' W.heap.size (.slice a J.length c) J ∧ Below W.heap.size W w') := Lib.hid (fun W hp =>
    dset [1, pb] (nn + 1) (by have h9 := hp.vec _ (List.getElem_mem h1k); rw [H1K.out] at h9; exact h9) FK.out.2.2.2.2)
  have hbr := Below.refl B wc
  have HBB2 : Hid (Below B w wc) := Lib.hid (HBB.out.trans hb)
  clear hb TK PU c0 f0 x0
  go_upto_region 22 with (fail)
  go_cut [] (fun wx => ∃ (a : Option Addr) (cc : Nat) (J : List M), Hid (Play none wx B rb (.slice aa Es.length ac) (L1.set k (L1[k].withV a cc J)) Es) ∧ Hid (IsVec J (Dots.setF (ofL X.V) [1, pb] (nn + 1))) ∧ Hid (OwnE wx B (.slice (some ⟨eb, 0, none⟩) 1 1) [⟨[tb], [1, pb], if pB then nn + 1 else 0, sa, sc, X.K⟩]) ∧ Hid (OwnB wx B (.slice sa X.K.length sc) X.K) ∧ Below B wc wx)
  case first =>
    have PD := Lib.hid (PL.out.below (Below.drew (Below.refl _ _)))
    have ED := Lib.hid (Row.Own.drew HEV.out)
    have SD := Lib.hid (Row.Own.drew HSE.out)
    replace c1 := Dots.keepC c1 (Below.drew (Below.refl _ _))
    go_wp2_with fail
    refine wp_region_noPanic ?_
    refine wp_region_held_drew (S := (fun w' => Below B wc w' ∧ w'.cell? ⟨db, 1, none⟩ = some (.int .u64 ((nn : Int) + 1)))) (by kernel_rfl) (⟨Below.drew (Below.refl _ _), Dots.keepC f1 (Below.drew (Below.refl _ _))⟩) (fun hHeld => ?_)
    refine wpAnyH_take (i := 0) (v := ?_) (by simp only [List.getElem?_toArray, List.getElem?_cons_zero]; rfl) (by kernel_rfl) (by kernel_rfl) (by kernel_rfl) (fun _ _ _ h => h) (Or.inl ⟨by rfl, ?_⟩) (by assumption) ?_
    rotate_left
    · (intro w hSw; (try dsimp only at hSw); go_simp; try with_reducible rfl)
    try simp only [Act.put, List.setIfInBounds_toArray, List.set_cons_zero, List.set_cons_succ]
    refine wpAnyH_take (i := 1) (v := ?_) (by simp only [List.getElem?_toArray, List.getElem?_cons_succ, List.getElem?_cons_zero]; rfl) (by kernel_rfl) (by kernel_rfl) (by kernel_rfl) (fun _ _ _ h => h) (Or.inl ⟨by rfl, ?_⟩) (by assumption) ?_
    rotate_left
    · (intro w hSw; (try dsimp only at hSw); go_simp; try with_reducible rfl)
    try simp only [Act.put, List.setIfInBounds_toArray, List.set_cons_zero, List.set_cons_succ]
    refine wpAnyH_take (i := 2) (v := ?_) (by simp only [List.getElem?_toArray, List.getElem?_cons_succ, List.getElem?_cons_zero]; rfl) (by kernel_rfl) (by kernel_rfl) (by kernel_rfl) (fun _ _ _ h => h) (Or.inl ⟨by rfl, ?_⟩) (by assumption) ?_
    rotate_left
    · (intro w hSw; (try dsimp only at hSw); go_simp; try with_reducible rfl)
    try simp only [Act.put, List.setIfInBounds_toArray, List.set_cons_zero, List.set_cons_succ]
    refine wpAnyH_take (i := 3) (v := ?_) (by simp only [List.getElem?_toArray, List.getElem?_cons_succ, List.getElem?_cons_zero]; rfl) (by kernel_rfl) (by kernel_rfl) (by kernel_rfl) (fun _ _ _ h => h) (Or.inl ⟨by rfl, ?_⟩) (by assumption) ?_
    rotate_left
    · (intro w hSw; (try dsimp only at hSw); go_simp; try with_reducible rfl)
    try simp only [Act.put, List.setIfInBounds_toArray, List.set_cons_zero, List.set_cons_succ]
    refine wpAnyH_take (i := 4) (v := ?_) (by simp only [List.getElem?_toArray, List.getElem?_cons_succ, List.getElem?_cons_zero]; rfl) (by kernel_rfl) (by kernel_rfl) (by kernel_rfl) (fun _ _ _ h => h) (Or.inl ⟨by rfl, ?_⟩) (by assumption) ?_
    rotate_left
    · (intro w hSw; (try dsimp only at hSw); go_simp; try with_reducible rfl)
    try simp only [Act.put, List.setIfInBounds_toArray, List.set_cons_zero, List.set_cons_succ]
    refine wpAnyH_take (i := 5) (v := ?_) (by simp only [List.getElem?_toArray, List.getElem?_cons_succ, List.getElem?_cons_zero]; rfl) (by kernel_rfl) (by kernel_rfl) (by kernel_rfl) (fun _ _ _ h => h) (Or.inl ⟨by rfl, ?_⟩) (by assumption) ?_
    rotate_left
    · (intro w hSw; (try dsimp only at hSw); go_simp; try with_reducible rfl)
    try simp only [Act.put, List.setIfInBounds_toArray, List.set_cons_zero, List.set_cons_succ]
    refine wpAnyH_take (i := 7) (v := ?_) (by simp only [List.getElem?_toArray, List.getElem?_cons_succ, List.getElem?_cons_zero]; rfl) (by kernel_rfl) (by kernel_rfl) (by kernel_rfl) (fun _ _ _ h => h) (Or.inl ⟨by rfl, ?_⟩) (by assumption) ?_
    rotate_left
    · (intro w hSw; (try dsimp only at hSw); go_simp; try with_reducible rfl)
    try simp only [Act.put, List.setIfInBounds_toArray, List.set_cons_zero, List.set_cons_succ]
    refine wpAnyH_take (i := 8) (v := ?_) (by simp only [List.getElem?_toArray, List.getElem?_cons_succ, List.getElem?_cons_zero]; rfl) (by kernel_rfl) (by kernel_rfl) (by kernel_rfl) (fun _ _ _ h => h) (Or.inl ⟨by rfl, ?_⟩) (by assumption) ?_
    rotate_left
    · (intro w hSw; (try dsimp only at hSw); go_simp; try with_reducible rfl)
    try simp only [Act.put, List.setIfInBounds_toArray, List.set_cons_zero, List.set_cons_succ]
    refine wpAnyH_take (i := 9) (v := ?_) (by simp only [List.getElem?_toArray, List.getElem?_cons_succ, List.getElem?_cons_zero]; rfl) (by kernel_rfl) (by kernel_rfl) (by kernel_rfl) (fun _ _ _ h => h) (Or.inl ⟨by rfl, ?_⟩) (by assumption) ?_
    rotate_left
    · (intro w hSw; (try dsimp only at hSw); go_simp; try with_reducible rfl)
    try simp only [Act.put, List.setIfInBounds_toArray, List.set_cons_zero, List.set_cons_succ]
    refine wpAnyH_ready (rs := [6]) (by kernel_rfl) (by simp) ?_
    refine AllReadyH.cons (by simp only [List.getElem?_toArray, List.getElem?_cons_succ, List.getElem?_cons_zero]; rfl) (fun K hK => ?_) AllReadyH.nil
    go_simp
    refine hK.out _ _ (hHeld) (fun hHeld => ?_)
    clear hK K
    try simp only [Act.put, List.setIfInBounds_toArray, List.set_cons_zero, List.set_cons_succ]
    refine wpAnyH_ready (rs := [10]) (by kernel_rfl) (by simp) ?_
    refine AllReadyH.cons (by simp only [List.getElem?_toArray, List.getElem?_cons_succ, List.getElem?_cons_zero]; rfl) (fun K hK => ?_) AllReadyH.nil
    go_simp
    go_at_call 37
    refine (DS.out _ PD.out).mono ?_
    rintro e v10 ⟨a10, c10, J10, rfl, hV10, hO10, k10⟩
    have H10 := Lib.hid hV10
    have HH10 := Lib.hid (Mark.Own.base hO10 (Nat.le_trans HBC2.out hHeld.1.size))
    have P10 := Lib.hid (PD.out.below k10)
    have E10 := Lib.hid (Row.Own.below ED.out k10)
    have S10 := Lib.hid (Row.Own.below SD.out k10)
    have f10 := P10.out.frozen (k * 3 + 1)
    have i10 := Dots.keepC c1 k10
    clear hV10 hO10
    go_wp2_with fail
    refine hK.out _ _ (⟨hHeld.1.trans (k10.mono (Nat.le_trans HBC2.out hHeld.1.size)), Dots.keepC hHeld.2 k10⟩) (fun hHeld => ?_)
    clear hK K
    try simp only [Act.put, List.setIfInBounds_toArray, List.set_cons_zero, List.set_cons_succ]
    refine wpAnyH_take (i := 11) (v := ?_) (by simp only [List.getElem?_toArray, List.getElem?_cons_succ, List.getElem?_cons_zero]; rfl) (by kernel_rfl) (by kernel_rfl) (by kernel_rfl) (fun _ _ _ h => h) (Or.inl ⟨by rfl, ?_⟩) (by assumption) ?_
    rotate_left
    · (intro w hSw; (try dsimp only at hSw); go_simp; try with_reducible rfl)
    try simp only [Act.put, List.setIfInBounds_toArray, List.set_cons_zero, List.set_cons_succ]
    refine wpAnyH_take (i := 12) (v := ?_) (by simp only [List.getElem?_toArray, List.getElem?_cons_succ, List.getElem?_cons_zero]; rfl) (by kernel_rfl) (by kernel_rfl) (by kernel_rfl) (fun _ _ _ h => h) (Or.inl ⟨by rfl, ?_⟩) (by assumption) ?_
    rotate_left
    · (intro w hSw; (try dsimp only at hSw); go_simp; try with_reducible rfl)
    try simp only [Act.put, List.setIfInBounds_toArray, List.set_cons_zero, List.set_cons_succ]
    refine wpAnyH_ready (rs := [13]) (by kernel_rfl) (by simp) ?_
    refine AllReadyH.cons (by simp only [List.getElem?_toArray, List.getElem?_cons_succ, List.getElem?_cons_zero]; rfl) (fun K hK => ?_) AllReadyH.nil
    go_simp
    obtain ⟨p13, g13⟩ := P10.out.setV h1k HH10.out
    have P13 := Lib.hid p13
    have E13 := Lib.hid (row_kept E10.out P10.out.row g13 (by decide))
    have S13 := Lib.hid (row_kept S10.out P10.out.row g13 (by decide))
    have hb13 := Below.grown hHeld.1 g13 (Nat.le_trans HBC2.out hHeld.1.size) (fun q e => by cases e; obtain ⟨_, _, h9⟩ := P10.out.own; exact h9)
    clear p13 g13
    refine hK.out _ _ (⟨hb13, by rw [World.cell?_setCell_other (h := by simp; intro e; exact absurd e HDB.out)]; exact hHeld.2⟩) (fun hHeld => ?_)
    clear hK K
    refine wpAnyH_done (by kernel_rfl) ?_ _
    refine NoPanic.normal ?_
    clear hHeld
    go_wp2_with fail
    go_meet
    exact ⟨a10, c10, J10, P13, H10, E13, S13, hb13⟩
  have hbr2 := HBB2.out
  have hb9c := HBC2.out
  clear hbr PL c1 f1 DS HEV HSE
  obtain ⟨a9, c9, J9, PL, HJ9, HEV, HSE, hb⟩ := hcut
  have hbw := hbr2.trans hb
  have HB9 : Hid (B ≤ wc.heap.size) := Lib.hid (Nat.le_trans hb9c hb.size)
  clear hbr2 hb9c hb HBC2 HBB2
  obtain ⟨L2, hL2⟩ : ∃ L, L = L1.set k (L1[k].withV a9 c9 J9) := ⟨_, rfl⟩
  rw [← hL2] at PL
  have HL2 : Hid (L2 = Ls.set k ((X.withL a8 c8 Q8).withV a9 c9 J9)) := Lib.hid (by rw [hL2, H1K.out, HL1.out, List.set_set])
  clear hL2
  replace PL := Lib.hid PL.out
  replace HEV := Lib.hid HEV.out
  replace HSE := Lib.hid HSE.out
  replace HJ9 := Lib.hid HJ9.out
  have HL2L : Hid (L2.length = N) := Lib.hid (by rw [HL2.out, List.length_set]; exact HR.out.len)
  have HFR2 : Hid (∀ x ∈ L2, (Value.slice sa X.K.length sc).ownBlock = none ∨ (Value.slice sa X.K.length sc).ownBlock ≠ x.kv.ownBlock) := Lib.hid (fun x hx => by
    rw [HL2.out] at hx
    rcases List.mem_or_eq_of_mem_set hx with hx | rfl
    · exact HFR.out x hx
    · have h9 := HFR.out X (by rw [HX.out]; exact List.getElem_mem hkl)
      exact h9)
  obtain ⟨n1, hn1⟩ : ∃ m, m = (if pB then nn + 1 else 0) := ⟨_, rfl⟩
  rw [← hn1] at HEV
  have HN1 := Lib.hid hn1
  have HEL : Hid (Es.length ≤ 60) := Lib.hid (by rw [HR.out.evl]; exact HE.out)
  obtain ⟨e0, e1, e2, e3, -⟩ := event_cells HEV.out
  unfold Er.sv at e3
  simp only at e0 e1 e2 e3
  clear hn1
  go_upto_region 24 with (at_builtin; go_loud (refine Row.wpList_app typE rfl _ _ rfl B _ Es rfl (Row.Own.alloc PL.out.evs _) _ 1 1 [⟨[tb], [1, pb], n1, sa, sc, X.K⟩] rfl (Row.lies_new (E := eE) _ ⟨[tb], [1, pb], n1, sa, sc, X.K⟩ _) (by have := HEL.out; omega) (by have := HB9.out; rw [World.size_alloc]; omega) ?_); intro v9 w9 o9 g9 k9)
  obtain ⟨a10, c10, rfl, -, -, -, -⟩ := Row.Own.lies o9
  have kA := balloc (Below.refl wc.heap.size wc) (.cells #[.string ⟨#[tb]⟩, .string ⟨#[1, pb]⟩, .int .u64 (n1 : Int), .slice sa X.K.length sc] 86)
  have P9 := Lib.hid (Play.event (PL.out.below kA) o9 g9 (Row.Own.below HSE.out kA) HFR2.out)
  have hb9 := (hbw.trans (kA.mono HB9.out)).trans k9
  clear o9 g9 k9 kA hbw PL HEV HSE HFR2 e0 e1 e2 e3 HB9
  obtain ⟨E2, hE2⟩ : ∃ E, E = Es ++ [(⟨[tb], [1, pb], n1, sa, sc, X.K⟩ : Er)] := ⟨_, rfl⟩
  rw [← hE2] at P9 ⊢
  have HE2 := Lib.hid hE2
  have HE2L : Hid (E2.length = Es.length + 1) := Lib.hid (by rw [hE2]; simp)
  obtain ⟨m1, hm1⟩ : ∃ m, m = E2.length := ⟨_, rfl⟩
  rw [← hm1] at P9 ⊢
  have HM1 := Lib.hid hm1
  clear hE2 hm1
  go_wp2_with fail
  go_loopw [17] (fun iv wr => ∃ (i : Nat) (Lc : List Rp), i ≤ N ∧ iv = .int .i64 i ∧ Hid (Lc.length = N) ∧ Hid (∀ j (h1 : j < Lc.length) (h2 : j < L2.length), Lc[j].R = L2[j].R ∧ Lc[j].V = L2[j].V ∧ Lc[j].K = if j < i then L2[j].K ++ [j == k] else L2[j].K) ∧ Hid (Play none wr B rb (.slice a10 m1 c10) Lc E2) ∧ Below B w wr) (fun iv _ => N - (intOf iv).toNat)
  case atStart => exact ⟨0, L2, by omega, rfl, HL2L, Lib.hid (fun j h1 h2 => ⟨rfl, rfl, by simp⟩), P9, hb9⟩
  case round =>
    clear P9 hb9
    have hN4 := HN.out.2
    obtain ⟨i, Lc, hi, rfl, HLL, HLc, PL, hb⟩ := hrel
    by_cases hlt : i < N
    rotate_left
    · have hiN : N = i := by omega
      subst hiN
      have d1 : decide ((N : Int) < (N : Int)) = false := decide_eq_false (by omega)
      go_wp2
      go_ret2
      have e1 := HM1.out
      refine ⟨a10, c10, Lc, E2, es ++ [BagEv.ev K v [tb] k pB], K1 K k, v1 v k, by rw [← e1]; rfl, by rw [← e1]; exact PL.out, ?_, by simp, hb⟩
      rw [HE2.out]
      exact HR.out.done HK.out hkl HX.out HT3.out pB HL2.out HLL.out (fun j h1 h2 => by
        obtain ⟨r1, r2, r3⟩ := HLc.out j h1 h2
        exact ⟨r1, r2, by rw [r3, if_pos (by have := HLL.out; omega)]⟩) HNN.out HPB.out HN1.out HQ8.out HJ9.out sa sc
    have d1 : decide ((i : Int) < (N : Int)) = true := decide_eq_true (by omega)
    have i1 : (0 : Int) ≤ (i : Int) := by omega
    have i2 : (i : Int) < (N : Int) := by omega
    have hci : i < Lc.length := by rw [HLL.out]; exact hlt
    obtain ⟨bq, hbq⟩ : ∃ b, b = (i == k) := ⟨_, rfl⟩
    have hq1 : ((i : Int) == (k : Int)) = bq := by
      rw [hbq]
      by_cases e : i = k
      · subst e; simp
      · rw [beq_eq_false_iff_ne.2 e]; rw [beq_eq_false_iff_ne]; omega
    have HBQ := Lib.hid hbq
    have hcell := (PL.out.cells hci).2.2
    have hown := PL.out.knew i hci (by simp)
    have PA := Lib.hid (PL.out.below (balloc (Below.refl wr.heap.size wr) (.cells #[.bool bq] 4)))
    have hKl : Lc[i].K.length ≤ 61 := by
      have h2i : i < L2.length := by rw [HL2L.out]; exact hlt
      have hsi : i < Ls.length := by rw [HR.out.len]; exact hlt
      rw [(HLc.out i hci h2i).2.2, if_neg (by omega)]
      have h9 : L2[i].K = Ls[i].K := by
        have h8 := HL2.out
        subst h8
        exact set_same Rp.K hkl hsi h2i (by rw [← HX.out]; rfl)
      rw [h9]
      have h7 := (HR.out.sizes hsi (by have := HE.out; omega)).2.2.2.2.2
      have := HE.out
      omega
    obtain ⟨Z, hZ⟩ : ∃ Z, Z = Lc[i] := ⟨_, rfl⟩
    have HZ := Lib.hid hZ
    rw [← hZ] at hcell hown hKl
    unfold Rp.kv at hcell hown
    have HOWN := Lib.hid hown
    have HKl := Lib.hid hKl
    have HI := Lib.hid hlt
    clear hown hKl hlt hbq hZ
    go_wp2_with (at_builtin; go_loud (refine wpList_push typB rfl _ _ rfl B _ Z.K rfl (Row.Own.alloc HOWN.out _) _ 1 1 [bq] rfl (Row.lies_new (E := bE) _ bq _) (by decide) (by have := HKl.out; omega) (by have := hb.size; have := HB.out; rw [World.size_alloc]; omega) ?_); intro v7 w7 o7 g7 k7 hbk; have PS := PA.out.stand hci (by rw [← HZ.out]; exact g7); have z7 := PS.frozen (i * 3 + 2); have i7 := (PS.cells hci).2.2; clear PS; obtain ⟨a7, c7, rfl, -, -, -, -⟩ := Row.Own.lies o7)
    go_roundw
    case rel =>
      have hlen : (Z.K ++ [bq]).length = Z.K.length + 1 := by simp
      have hlt := HI.out
      obtain ⟨p8, g8⟩ := PA.out.move hci (a := a7) (c := c7) (K := Z.K ++ [bq]) (by rw [← HZ.out]; exact g7) o7 (by rw [← HZ.out]; exact hbk)
      have hb7 : Below B w w7 := (hb.alloc (Nat.le_trans HB.out hb.size) (.cells #[.bool bq] 4)).trans k7
      have hb8 := Below.grown hb7 g8 (Nat.le_trans HB.out hb7.size) (fun q e => by cases e; obtain ⟨_, _, h9⟩ := PL.out.own; exact h9)
      rw [hlen] at p8 hb8
      refine ⟨i + 1, Lc.set i (Lc[i].moved a7 c7 (Z.K ++ [bq])), by omega, by go_num, Lib.hid (by rw [List.length_set]; exact HLL.out), Lib.hid (fun j h1 h2 => ?_), Lib.hid p8, hb8⟩
      have hj : j < Lc.length := by rw [List.length_set] at h1; exact h1
      obtain ⟨r1, r2, r3⟩ := HLc.out j hj h2
      rw [set_same Rp.R hci hj h1 rfl, set_same Rp.V hci hj h1 rfl]
      refine ⟨r1, r2, ?_⟩
      rw [List.getElem_set]
      by_cases e : i = j
      · subst e
        rw [if_pos rfl, if_pos (by omega)]
        rw [if_neg (by omega)] at r3
        show Z.K ++ [bq] = _
        rw [HZ.out, r3, HBQ.out]
      · rw [if_neg e, r3]
        by_cases e2 : j < i
        · rw [if_pos e2, if_pos (by omega)]
        · rw [if_neg e2, if_neg (by omega)]
    case measure => have := HI.out; simp [intOf]; omega
set_option maxRecDepth 100000 in
set_option maxHeartbeats 8000000 in
theorem does_any (N B rb : Nat) (Ls : List Rp) (Es : List Er) (es : List Ev) (K : Nat → List Bool) (v : Nat → Nat → Nat) (aa : Option Addr) (ac : Nat) (d n tx ot : Int) (w : World) (hd : 0 ≤ d ∧ d ≤ 255) (hn : 0 ≤ n ∧ n ≤ 255) (htx : 0 ≤ tx ∧ tx ≤ 255) (hot : 0 ≤ ot ∧ ot ≤ 255)
    (hP : Play none w B rb (.slice aa Es.length ac) Ls Es) (hR : Rel N Ls Es es K v) (hN : 1 ≤ N ∧ N ≤ 4) (he : es.length ≤ 60) (hB : B ≤ w.heap.size) :
    Calls Try.prog 19 #[.slice (some ⟨rb, 0, none⟩) N N, .slice aa Es.length ac, .agg #[.int .u8 d, .int .u8 n, .int .u8 tx, .int .u8 ot]] w (Did N B rb es.length w) := by
  by_cases h : d.tmod 4 = 3
  · exact does_join N B rb Ls Es es K v aa ac d n tx ot w hd hn htx hot hP hR hN he hB h
  · exact does_deed N B rb Ls Es es K v aa ac d n tx ot w hd hn htx hot hP hR hN he hB h
end BagLaw
end Go.Proofs.Ytnlbgjghckbbcaa
