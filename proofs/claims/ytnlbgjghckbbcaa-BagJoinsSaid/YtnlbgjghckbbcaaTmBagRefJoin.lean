/- gossamerref13: Join. -/
import Derived.Test.YtnlbgjghckbbcaaTmRefB
import Derived.Test.YtnlbgjghckbbcaaTmBagD
namespace Go.Proofs.Ytnlbgjghckbbcaa
namespace RefBag
open Go.RowKit Go.Proofs.Ytnlbgjghckbbcaa.Mark Go.Proofs.Ytnlbgjghckbbcaa.Dots Go.Proofs.Ytnlbgjghckbbcaa.Bag
theorem ofT_len (L : List It) (t : List UInt8) : (ofT L t).length ≤ (pls L).length := by
  have h := List.Nodup.length_le_of_subset (onT_nodup (t := t) (ofT_law L t).1) (l₂ := pls L) (fun p hp => by
    unfold onT at hp
    obtain ⟨m, hm, rfl⟩ := List.mem_map.1 hp
    rw [mem_pls]
    exact ((ofT_law L t).2 m).1 hm)
  rwa [onT_len] at h
theorem canon_len : ∀ {R : List It}, Canon R → R.length ≤ (pls R).length
  | [], _ => Nat.le_refl _
  | x :: R, h => by
    have := canon_len h.tail
    have h1 := List.length_pos_iff.2 (h.2 x (by simp)).1
    unfold pls at *
    simp only [List.flatMap_cons, List.length_append, onT_len, List.length_cons]
    omega
theorem dots_len {R : List It} {x : It} (h : x ∈ R) : x.d.length ≤ (pls R).length := by
  obtain ⟨i, hi, rfl⟩ := List.getElem_of_mem h
  have := (pls_sub hi).1
  omega
theorem pls_split (L : List It) (i : Nat) : pls L = pls (L.take i) ++ pls (L.drop i) := by unfold pls; rw [← List.flatMap_append, List.take_append_drop]
/-- What has been put in of a list of places, on top of what was there. -/
def Part (P : List UInt8 → M → Prop) (C : List UInt8 → M → Prop) (V : List Pl) (t : List UInt8) (m : M) : Prop := P t m ∨ ((⟨t, m⟩ : Pl) ∈ V ∧ C t m)
theorem Part.yes {P C : List UInt8 → M → Prop} {V : List Pl} {R : List It} {t : List UInt8} {m : M} (h : IsBag R (Part P C V)) (k : C t m) : IsBag (insI t m false R) (Part P C (V ++ [⟨t, m⟩])) :=
  (ins_bag h t m).congr fun t' m' => by
    unfold Part
    simp only [List.mem_append, List.mem_singleton, Pl.mk.injEq]
    constructor
    · rintro (⟨rfl, rfl⟩ | h | ⟨h1, h2⟩)
      · exact .inr ⟨.inr ⟨rfl, rfl⟩, k⟩
      · exact .inl h
      · exact .inr ⟨.inl h1, h2⟩
    · rintro (h | ⟨h1 | h1, h2⟩)
      · exact .inr (.inl h)
      · exact .inr (.inr ⟨h1, h2⟩)
      · exact .inl h1
theorem Part.no {P C : List UInt8 → M → Prop} {V : List Pl} {R : List It} {t : List UInt8} {m : M} (h : IsBag R (Part P C V)) (k : ¬ C t m) : IsBag R (Part P C (V ++ [⟨t, m⟩])) :=
  h.congr fun t' m' => by
    unfold Part
    simp only [List.mem_append, List.mem_singleton, Pl.mk.injEq]
    constructor
    · rintro (h | ⟨h1, h2⟩)
      · exact .inl h
      · exact .inr ⟨.inl h1, h2⟩
    · rintro (h | ⟨h1 | ⟨rfl, rfl⟩, h2⟩)
      · exact .inl h
      · exact .inr ⟨h1, h2⟩
      · exact absurd h2 k
/-- What is there behind so many sides. -/
def At (A B : List It) (f h : M → Bool) : Nat → List UInt8 → M → Prop
  | 0 => fun _ _ => False
  | 1 => fun t m => Has A t m ∧ (Has B t m ∨ h m = false)
  | _ => Joined A B f h
theorem at_sub {A B : List It} {f h : M → Bool} {s : Nat} {t : List UInt8} {m : M} (k : At A B f h s t m) : (⟨t, m⟩ : Pl) ∈ pls A ++ pls B := by
  rw [List.mem_append, mem_pls, mem_pls]
  unfold At at k
  split at k
  · exact k.elim
  · exact .inl k.1
  · rcases k with k | k
    · exact .inl k.1
    · exact .inr k.1
theorem at_one {A B : List It} {f h : M → Bool} (t : List UInt8) (m : M) : Part (At A B f h 0) (fun t m => Has B t m ∨ h m = false) (pls A) t m ↔ At A B f h 1 t m := by
  unfold Part At
  simp only [mem_pls, false_or]
theorem at_two {A B : List It} {f h : M → Bool} (t : List UInt8) (m : M) : Part (At A B f h 1) (fun t m => Has A t m ∨ f m = false) (pls B) t m ↔ At A B f h 2 t m := by
  unfold Part At Joined
  simp only [mem_pls]
theorem part_few {A B X : List It} {f h : M → Bool} {s : Nat} {C : List UInt8 → M → Prop} {V : List Pl} {R : List It} (k : IsBag R (Part (At A B f h s) C V)) (hV : ∀ p ∈ V, p ∈ pls X) (hX : ∀ p ∈ pls X, p ∈ pls A ++ pls B) (hn : (pls A).length + (pls B).length ≤ 1099511627700) : R.length ≤ 1099511627700 ∧ ∀ x ∈ R, x.d.length ≤ 1099511627700 := by
  have h1 := few_of (V := pls A ++ pls B) k (fun t m hm => by
    rcases hm with hm | ⟨hm, -⟩
    · exact at_sub hm
    · exact hX _ (hV _ hm))
  rw [List.length_append] at h1
  exact ⟨by have := canon_len k.1; omega, fun x hx => by have := dots_len hx; omega⟩
set_option maxRecDepth 100000 in
set_option maxHeartbeats 8000000 in
theorem join_any (A B : List It) (S O : List M) (aa ab sa oa : Option Addr) (na nb ns no ca cb cs co : Nat) (w : World) (hA : Bag.Lies w aa na A) (hB : Bag.Lies w ab nb B) (hS : Mark.Lies w sa ns S) (hO : Mark.Lies w oa no O)
    (hna : na ≤ 1099511627700) (hnb : nb ≤ 1099511627700) (hns : ns ≤ 549755813888) (hno : no ≤ 549755813888) (kS : Ok S) (kO : Ok O) (hfew : (pls A).length + (pls B).length ≤ 1099511627700) :
    Calls Try.prog 11 #[.slice aa na ca, .slice sa ns cs, .slice ab nb cb, .slice oa no co] w fun e w' => ∃ a' c' R, e = .returned (.slice a' R.length c') ∧ IsBag R (Joined A B (fun m => hasL S m.p m.n) (fun m => hasL O m.p m.n)) ∧ Bag.Lies w' a' R.length R ∧ Below w.heap.size w w' := by
  obtain ⟨f, hf⟩ : ∃ f : M → Bool, f = fun m => hasL S m.p m.n := ⟨_, rfl⟩
  obtain ⟨h, hh⟩ : ∃ f : M → Bool, f = fun m => hasL O m.p m.n := ⟨_, rfl⟩
  have HHS := Lib.hid (fun (p : List UInt8) (q : Nat) (W : World) (k : Below w.heap.size w W) => (by rw [hf]; exact RefDots.has_any p q S sa ns cs W (hS.below k) (by omega) kS : Calls Try.prog 30 #[.slice sa ns cs, .agg #[.string ⟨p.toArray⟩, .int .u64 (q : Nat)]] W fun e w' => e = .returned (.bool (f ⟨p, q⟩)) ∧ Below W.heap.size W w'))
  have HHO := Lib.hid (fun (p : List UInt8) (q : Nat) (W : World) (k : Below w.heap.size w W) => (by rw [hh]; exact RefDots.has_any p q O oa no co W (hO.below k) (by omega) kO : Calls Try.prog 30 #[.slice oa no co, .agg #[.string ⟨p.toArray⟩, .int .u64 (q : Nat)]] W fun e w' => e = .returned (.bool (h ⟨p, q⟩)) ∧ Below W.heap.size W w'))
  rw [← hf, ← hh]
  clear hf hh hS hO kS kO
  have HA := Lib.hid hA
  have HB := Lib.hid hB
  have HNA := Lib.hid hna
  have HNB := Lib.hid hnb
  have HF := Lib.hid hfew
  have HOA := Lib.hid (fun (t : List UInt8) (W : World) (k : Below w.heap.size w W) => of_any A t aa na ca W (hA.below k) (by omega) (by omega))
  have HOB := Lib.hid (fun (t : List UInt8) (W : World) (k : Below w.heap.size w W) => of_any B t ab nb cb W (hB.below k) (by omega) (by omega))
  have HIN := Lib.hid (fun (X : List It) (hX : (pls X).length ≤ 1099511627700) (t p : List UInt8) (q : Nat) (a : Option Addr) (c : Nat) (W : World) (k : Row.Lies dE W a (ofT X t).length (ofT X t)) => in_any (ofT X t) ⟨p, q⟩ a _ c W k (by have := ofT_len X t; omega))
  have HINS := Lib.hid (fun (R : List It) (t p : List UInt8) (q : Nat) (a : Option Addr) (c : Nat) (W : World) (k : Bag.Lies W a R.length R) (hR : R.length ≤ 1099511627700 ∧ ∀ x ∈ R, x.d.length ≤ 1099511627700) => insert_any R t ⟨p, q⟩ a _ c W k (by have := hR.1; omega) (fun x hx => by have := hR.2 x hx; omega))
  have hb := Below.refl w.heap.size w
  have HR0 : Hid (IsBag [] (At A B f h 0)) := Lib.hid IsBag.nil
  have HL0 : Hid (Bag.Lies w none ([] : List It).length []) := Lib.hid (Lies.nil _ _)
  clear hA hB hna hnb hns hno hfew
  go_enter Try.func11, Try.ntmps11
  go_wp2_with fail
  go_loopw [9, 10] (fun ov sv wr => ∃ (s : Nat) (oa : Option Addr) (oc : Nat) (R : List It), ((s = 0 ∧ sv = .int .i64 0) ∨ (s = 1 ∧ sv = .int .i64 1) ∨ (s = 2 ∧ sv = .int .i64 2)) ∧ ov = .slice oa R.length oc ∧ Hid (IsBag R (At A B f h s)) ∧ Hid (Bag.Lies wr oa R.length R) ∧ Below w.heap.size w wr) (fun _ sv _ => 2 - (intOf sv).toNat)
  case atStart => exact ⟨0, none, 0, [], .inl ⟨rfl, rfl⟩, rfl, HR0, HL0, hb⟩
  case round =>
    clear HR0 HL0 hb
    obtain ⟨s, ra, rc, R, hs, rfl, HR, HL, hb⟩ := hrel
    rcases hs with ⟨rfl, rfl⟩ | ⟨rfl, rfl⟩ | ⟨rfl, rfl⟩
    rotate_left 2
    · go_wp2
      go_ret
      exact ⟨ra, rc, R, rfl, HR.out, HL.out, hb⟩
    · have HR0 : Hid (IsBag R (Part (At A B f h 0) (fun t m => Has B t m ∨ h m = false) (pls (A.take 0)))) := Lib.hid (HR.out.congr fun t m => by unfold Part pls; simp)
      have HL0 := HL
      have hb0 := hb
      clear HR HL hb
      obtain ⟨J, hJe, hJ, hD⟩ := HA.out
      have HJ := Lib.hid hJ
      have HD := Lib.hid hD
      have HN := Lib.hid hJ.1
      have HJE := Lib.hid hJe
      clear hJe hJ hD
      go_wp2_with fail
      go_loopw [9, 14] (fun ov iv wq => ∃ (i : Nat) (oa : Option Addr) (oc : Nat) (R : List It), i ≤ na ∧ iv = .int .i64 i ∧ ov = .slice oa R.length oc ∧ Hid (IsBag R (Part (At A B f h 0) (fun t m => Has B t m ∨ h m = false) (pls (A.take i)))) ∧ Hid (Bag.Lies wq oa R.length R) ∧ Below w.heap.size w wq) (fun _ iv _ => na - (intOf iv).toNat)
      case atStart => exact ⟨0, ra, rc, R, by omega, rfl, rfl, HR0, HL0, hb0⟩
      case round =>
        clear HR0 HL0 hb0
        have hnb := HNA.out
        obtain ⟨i, qa, qc, Q, hi, rfl, rfl, HR, HL, hb⟩ := hrel
        by_cases hlt : i < na
        rotate_left
        · obtain rfl : i = na := by omega
          have d1 : decide ((i : Int) < (i : Int)) = false := decide_eq_false (by omega)
          have HE : Hid (IsBag Q (At A B f h 1)) := Lib.hid (by
            have h9 := HR.out
            rw [List.take_of_length_le (by rw [← HJE.out, List.length_map]; have := HN.out; omega)] at h9
            exact h9.congr (fun t m => at_one t m))
          clear HR
          go_wp2
          go_roundw
          case rel => exact ⟨1, qa, qc, Q, .inr (.inl ⟨rfl, rfl⟩), rfl, HE, HL, hb⟩
          case measure => simp [intOf]
        have d1 : decide ((i : Int) < (na : Int)) = true := decide_eq_true (by omega)
        have j1 : (0 : Int) ≤ (i : Int) := by omega
        have j2 : (i : Int) < (na : Int) := by omega
        have hil : i < J.length := by have := HN.out; omega
        have hml : i < A.length := by rw [← HJE.out, List.length_map]; exact hil
        obtain ⟨b, o, hao, hc⟩ := items_at HJ.out (by omega)
        obtain ⟨c0, c1⟩ := hc i hil
        have HDX := Lib.hid (HD.out _ (List.getElem_mem hil))
        have hxe : J[i].it = A[i] := by have h9 := HJE.out; subst h9; rw [List.getElem_map]
        obtain ⟨hsl, hsm⟩ := pls_sub hml
        have hpt := pls_take hml
        obtain ⟨x, hx⟩ : ∃ x, x = J[i] := ⟨_, rfl⟩
        rw [← hxe] at hsl hsm hpt
        rw [← hx] at c0 c1 HDX hsl hsm hpt
        obtain ⟨t, xa, xc, d⟩ := x
        simp only [RI.it] at c0 c1 hsl hsm hpt
        unfold Inner at HDX
        simp only at HDX
        have HPT : Hid (pls (A.take (i + 1)) = pls (A.take i) ++ onT t d) := Lib.hid hpt
        have HSM : Hid (∀ m ∈ d, (⟨t, m⟩ : Pl) ∈ pls A) := Lib.hid hsm
        have HST : Hid (∀ p ∈ pls (A.take i), p ∈ pls A) := Lib.hid (fun p hp => by rw [pls_split A i]; exact List.mem_append_left _ hp)
        have HI := Lib.hid hlt
        obtain ⟨nd, hnd⟩ : ∃ k, k = d.length := ⟨_, rfl⟩
        rw [← hnd] at c1 HDX hsl
        have HND := Lib.hid hnd
        have HNL : Hid (nd ≤ 1099511627700) := Lib.hid (by have := HF.out; omega)
        have HR1 : Hid (IsBag Q (Part (At A B f h 0) (fun t m => Has B t m ∨ h m = false) (pls (A.take i) ++ onT t (d.take 0)))) := Lib.hid (by rw [show onT t (d.take 0) = [] from rfl, List.append_nil]; exact HR.out)
        have HL1 := HL
        have hb1 := hb
        subst hao
        have C0 := Lib.hid c0
        have C1 := Lib.hid c1
        have HDXX := HDX
        clear hc hil hml hxe hsl hsm hpt hx hlt hnd HR HL hb c0 c1 hnb
        go_wp2_with fail
        go_loopw [9, 15] (fun ov kv wk => ∃ (k : Nat) (oa : Option Addr) (oc : Nat) (R : List It), k ≤ nd ∧ kv = .int .i64 k ∧ ov = .slice oa R.length oc ∧ Hid (IsBag R (Part (At A B f h 0) (fun t m => Has B t m ∨ h m = false) (pls (A.take i) ++ onT t (d.take k)))) ∧ Hid (Bag.Lies wk oa R.length R) ∧ Below w.heap.size w wk) (fun _ kv _ => nd - (intOf kv).toNat)
        case atStart => exact ⟨0, qa, qc, Q, by omega, rfl, rfl, HR1, HL1, hb1⟩
        case round =>
          clear HR1 HL1 hb1
          have hnb := HNA.out
          obtain ⟨k, ka, kc, K, hk, rfl, rfl, HR, HL, hb⟩ := hrel
          have c0 := Dots.keepC C0.out hb
          have c1 := Dots.keepC C1.out hb
          by_cases hkd : k < nd
          rotate_left
          · obtain rfl : k = nd := by omega
            have d2 : decide ((k : Int) < (k : Int)) = false := decide_eq_false (by omega)
            have HE : Hid (IsBag K (Part (At A B f h 0) (fun t m => Has B t m ∨ h m = false) (pls (A.take (i + 1))))) := Lib.hid (by
              have h9 := HR.out
              rw [List.take_of_length_le (l := d) (by have := HND.out; omega), ← HPT.out] at h9
              exact h9)
            clear HR
            go_wp2
            go_roundw
            case rel => exact ⟨i + 1, ka, kc, K, by have := HI.out; omega, by go_num, rfl, HE, HL, hb⟩
            case measure => have := HI.out; simp [intOf]; omega
          have d2 : decide ((k : Int) < (nd : Int)) = true := decide_eq_true (by omega)
          have j3 : (0 : Int) ≤ (k : Int) := by omega
          have j4 : (k : Int) < (nd : Int) := by omega
          have hkl : k < d.length := by have := HND.out; omega
          obtain ⟨b2, o2, hxo, hc2⟩ := dots_at HDX.out (by omega)
          subst hxo
          obtain ⟨e0, e1⟩ := hc2 k hkl
          replace e0 := Dots.keepC e0 hb
          replace e1 := Dots.keepC e1 hb
          have hts2 : d.take (k + 1) = d.take k ++ [d[k]] := List.take_succ_eq_append_getElem hkl
          have hmd := HSM.out _ (List.getElem_mem hkl)
          have HFEW : Hid (K.length ≤ 1099511627700 ∧ ∀ x ∈ K, x.d.length ≤ 1099511627700) := Lib.hid (part_few (X := A) HR.out (fun p hp => by
            rcases List.mem_append.1 hp with hp | hp
            · exact HST.out p hp
            · unfold onT at hp
              obtain ⟨m, hm, rfl⟩ := List.mem_map.1 hp
              exact HSM.out m (List.mem_of_mem_take hm)) (fun p hp => List.mem_append.2 (.inl hp)) HF.out)
          obtain ⟨m, hm⟩ : ∃ m, m = d[k] := ⟨_, rfl⟩
          rw [← hm] at e0 e1 hts2 hmd
          obtain ⟨p, q⟩ := m
          simp only at e0 e1
          have HYES : Hid (∀ _ : (fun t m => Has B t m ∨ h m = false) t ⟨p, q⟩, IsBag (insI t ⟨p, q⟩ false K) (Part (At A B f h 0) (fun t m => Has B t m ∨ h m = false) (pls (A.take i) ++ onT t (d.take (k + 1))))) := Lib.hid (fun hc => by rw [hts2, onT_snoc, ← List.append_assoc]; exact Part.yes HR.out hc)
          have HNO : Hid (∀ _ : ¬ (fun t m => Has B t m ∨ h m = false) t ⟨p, q⟩, IsBag K (Part (At A B f h 0) (fun t m => Has B t m ∨ h m = false) (pls (A.take i) ++ onT t (d.take (k + 1))))) := Lib.hid (fun hc => by rw [hts2, onT_snoc, ← List.append_assoc]; exact Part.no HR.out hc)
          have HK := Lib.hid hkd
          have IN := Lib.hid (HIN.out B (by have := HF.out; omega) t p q)
          have OF := Lib.hid (HOB.out t)
          have HS := Lib.hid (HHO.out p q)
          have INS := Lib.hid (HINS.out K t p q ka kc)
          have hio : (⟨p, q⟩ : M) ∈ ofT B t ↔ Has B t ⟨p, q⟩ := (ofT_law B t).2 _
          clear hc2 hkl hts2 hmd hm hkd HR
          go_upto_region 15 with (fail)
          have hbd := balloc hb (.cells #[.string ⟨p.toArray⟩, .int .u64 (q : Int)] 31)
          have HLD : Hid (Bag.Lies (wr.alloc (.cells #[.string ⟨p.toArray⟩, .int .u64 (q : Int)] 31)) ka K.length K) := Lib.hid (HL.out.below (balloc (Below.refl _ _) _))
          have f0 : (wr.alloc (.cells #[.string ⟨p.toArray⟩, .int .u64 (q : Int)] 31)).cell? ⟨wr.heap.size, 0, none⟩ = some (.string ⟨p.toArray⟩) := by rw [World.cell?_alloc_new]; rfl
          have f1 : (wr.alloc (.cells #[.string ⟨p.toArray⟩, .int .u64 (q : Int)] 31)).cell? ⟨wr.heap.size, 1, none⟩ = some (.int .u64 (q : Int)) := by rw [World.cell?_alloc_new]; rfl
          replace c0 := Dots.keepC c0 (balloc (Below.refl _ _) (.cells #[.string ⟨p.toArray⟩, .int .u64 (q : Int)] 31))
          obtain ⟨wd, hwd⟩ : ∃ v, v = wr.alloc (.cells #[.string ⟨p.toArray⟩, .int .u64 (q : Int)] 31) := ⟨_, rfl⟩
          rw [← hwd] at hbd HLD f0 f1 c0 ⊢
          obtain ⟨db, hdb⟩ : ∃ b, b = wr.heap.size := ⟨_, rfl⟩
          rw [← hdb] at f0 f1 ⊢
          clear hb HL c1 e0 e1 hwd hdb
          by_cases hin : (⟨p, q⟩ : M) ∈ ofT B t
          · rw [decide_eq_true hin] at IN
            have hm2 := hio.1 hin
            have HM2 := Lib.hid hm2
            clear hin hm2 hio
            go_wp2_with fail
            refine wp_region_noPanic ?_
            refine wp_region_held_drew (S := (fun w' => Below w.heap.size w w' ∧ Bag.Lies w' ka K.length K ∧ w'.cell? ⟨b, o + i * 2, none⟩ = some (.string ⟨t.toArray⟩) ∧ w'.cell? ⟨db, 0, none⟩ = some (.string ⟨p.toArray⟩) ∧ w'.cell? ⟨db, 1, none⟩ = some (.int .u64 (q : Int)))) (by kernel_rfl) (⟨Below.drew hbd, HLD.out.below (Below.drew (Below.refl _ _)), Dots.keepC c0 (Below.drew (Below.refl _ _)), Dots.keepC f0 (Below.drew (Below.refl _ _)), Dots.keepC f1 (Below.drew (Below.refl _ _))⟩) (fun hHeld => ?_)
            refine wpAnyH_take (i := 0) (v := ?_) (by simp only [List.getElem?_toArray, List.getElem?_cons_zero]; rfl) (by kernel_rfl) (by kernel_rfl) (by kernel_rfl) (fun _ _ _ h => h) (Or.inl ⟨by rfl, ?_⟩) (by assumption) ?_
            rotate_left
            · (intro w hSw; (try dsimp only at hSw); go_simp; try with_reducible rfl)
            try simp only [Act.put, List.setIfInBounds_toArray, List.set_cons_zero, List.set_cons_succ]
            refine wpAnyH_take (i := 1) (v := ?_) (by simp only [List.getElem?_toArray, List.getElem?_cons_succ, List.getElem?_cons_zero]; rfl) (by kernel_rfl) (by kernel_rfl) (by kernel_rfl) (fun _ _ _ h => h) (Or.inl ⟨by rfl, ?_⟩) (by assumption) ?_
            rotate_left
            · (intro w hSw; (try dsimp only at hSw); go_simp; try with_reducible rfl)
            try simp only [Act.put, List.setIfInBounds_toArray, List.set_cons_zero, List.set_cons_succ]
            refine wpAnyH_take (i := 2) (v := ?_) (by simp only [List.getElem?_toArray, List.getElem?_cons_succ, List.getElem?_cons_zero]; rfl) (by kernel_rfl) (by kernel_rfl) (by kernel_rfl) (fun _ _ _ h => h) (Or.inl ⟨by rfl, ?_⟩) (by assumption) ?_
            rotate_left
            · (intro w hSw; (try dsimp only at hSw); go_simp; try with_reducible rfl)
            try simp only [Act.put, List.setIfInBounds_toArray, List.set_cons_zero, List.set_cons_succ]
            refine wpAnyH_take (i := 3) (v := ?_) (by simp only [List.getElem?_toArray, List.getElem?_cons_succ, List.getElem?_cons_zero]; rfl) (by kernel_rfl) (by kernel_rfl) (by kernel_rfl) (fun _ _ _ h => h) (Or.inl ⟨by rfl, ?_⟩) (by assumption) ?_
            rotate_left
            · (intro w hSw; (try dsimp only at hSw); go_simp; try with_reducible rfl)
            try simp only [Act.put, List.setIfInBounds_toArray, List.set_cons_zero, List.set_cons_succ]
            refine wpAnyH_take (i := 4) (v := ?_) (by simp only [List.getElem?_toArray, List.getElem?_cons_succ, List.getElem?_cons_zero]; rfl) (by kernel_rfl) (by kernel_rfl) (by kernel_rfl) (fun _ _ _ h => h) (Or.inl ⟨by rfl, ?_⟩) (by assumption) ?_
            rotate_left
            · (intro w hSw; (try dsimp only at hSw); go_simp; try with_reducible rfl)
            try simp only [Act.put, List.setIfInBounds_toArray, List.set_cons_zero, List.set_cons_succ]
            refine wpAnyH_take (i := 5) (v := ?_) (by simp only [List.getElem?_toArray, List.getElem?_cons_succ, List.getElem?_cons_zero]; rfl) (by kernel_rfl) (by kernel_rfl) (by kernel_rfl) (fun _ _ _ h => h) (Or.inl ⟨by rfl, ?_⟩) (by assumption) ?_
            rotate_left
            · (intro w hSw; (try dsimp only at hSw); go_simp; try with_reducible rfl)
            try simp only [Act.put, List.setIfInBounds_toArray, List.set_cons_zero, List.set_cons_succ]
            refine wpAnyH_take (i := 7) (v := ?_) (by simp only [List.getElem?_toArray, List.getElem?_cons_succ, List.getElem?_cons_zero]; rfl) (by kernel_rfl) (by kernel_rfl) (by kernel_rfl) (fun _ _ _ h => h) (Or.inl ⟨by rfl, ?_⟩) (by assumption) ?_
            rotate_left
            · (intro w hSw; (try dsimp only at hSw); go_simp; try with_reducible rfl)
            try simp only [Act.put, List.setIfInBounds_toArray, List.set_cons_zero, List.set_cons_succ]
            refine wpAnyH_ready (rs := [6]) (by kernel_rfl) (by simp) ?_
            refine AllReadyH.cons (by simp only [List.getElem?_toArray, List.getElem?_cons_succ, List.getElem?_cons_zero]; rfl) (fun K hK => ?_) AllReadyH.nil
            go_simp
            go_at_call 15
            refine (OF.out _ hHeld.1).mono ?_
            rintro e w6 ⟨a6, c6, rfl, o6, k6⟩
            go_wp2_with fail
            refine hK.out _ _ (⟨bstep hHeld.1 k6, Bag.Lies.below hHeld.2.1 k6, Dots.keepC hHeld.2.2.1 k6, Dots.keepC hHeld.2.2.2.1 k6, Dots.keepC hHeld.2.2.2.2 k6⟩) (fun hHeld => ?_)
            clear hK K
            try simp only [Act.put, List.setIfInBounds_toArray, List.set_cons_zero, List.set_cons_succ]
            refine wpAnyH_ready (rs := [8]) (by kernel_rfl) (by simp) ?_
            refine AllReadyH.cons (by simp only [List.getElem?_toArray, List.getElem?_cons_succ, List.getElem?_cons_zero]; rfl) (fun K hK => ?_) AllReadyH.nil
            go_simp
            go_at_call 29
            refine (IN.out _ _ _ o6).mono ?_
            rintro e w8 ⟨rfl, k8⟩
            go_wp2_with fail
            refine hK.out _ _ (⟨bstep hHeld.1 k8, Bag.Lies.below hHeld.2.1 k8, Dots.keepC hHeld.2.2.1 k8, Dots.keepC hHeld.2.2.2.1 k8, Dots.keepC hHeld.2.2.2.2 k8⟩) (fun hHeld => ?_)
            clear hK K
            try simp only [Act.put, List.setIfInBounds_toArray, List.set_cons_zero, List.set_cons_succ]
            refine wpAnyH_take (i := 9) (v := ?_) (by simp only [List.getElem?_toArray, List.getElem?_cons_succ, List.getElem?_cons_zero]; rfl) (by kernel_rfl) (by kernel_rfl) (by kernel_rfl) (fun _ _ _ h => h) (Or.inl ⟨by rfl, ?_⟩) (by assumption) ?_
            rotate_left
            · (intro w hSw; (try dsimp only at hSw); go_simp; try with_reducible rfl)
            try simp only [Act.put, List.setIfInBounds_toArray, List.set_cons_zero, List.set_cons_succ]
            refine wpAnyH_take (i := 10) (v := undef) (by simp only [List.getElem?_toArray, List.getElem?_cons_succ, List.getElem?_cons_zero]; rfl) (by kernel_rfl) (by kernel_rfl) (by kernel_rfl) (fun _ _ _ h => h) (Or.inr ⟨by rfl, rfl⟩) (by assumption) ?_
            try simp only [Act.put, List.setIfInBounds_toArray, List.set_cons_zero, List.set_cons_succ]
            refine wpAnyH_take (i := 11) (v := undef) (by simp only [List.getElem?_toArray, List.getElem?_cons_succ, List.getElem?_cons_zero]; rfl) (by kernel_rfl) (by kernel_rfl) (by kernel_rfl) (fun _ _ _ h => h) (Or.inr ⟨by rfl, rfl⟩) (by assumption) ?_
            try simp only [Act.put, List.setIfInBounds_toArray, List.set_cons_zero, List.set_cons_succ]
            refine wpAnyH_take (i := 12) (v := undef) (by simp only [List.getElem?_toArray, List.getElem?_cons_succ, List.getElem?_cons_zero]; rfl) (by kernel_rfl) (by kernel_rfl) (by kernel_rfl) (fun _ _ _ h => h) (Or.inr ⟨by rfl, rfl⟩) (by assumption) ?_
            try simp only [Act.put, List.setIfInBounds_toArray, List.set_cons_zero, List.set_cons_succ]
            refine wpAnyH_take (i := 13) (v := undef) (by simp only [List.getElem?_toArray, List.getElem?_cons_succ, List.getElem?_cons_zero]; rfl) (by kernel_rfl) (by kernel_rfl) (by kernel_rfl) (fun _ _ _ h => h) (Or.inr ⟨by rfl, rfl⟩) (by assumption) ?_
            try simp only [Act.put, List.setIfInBounds_toArray, List.set_cons_zero, List.set_cons_succ]
            refine wpAnyH_take (i := 14) (v := ?_) (by simp only [List.getElem?_toArray, List.getElem?_cons_succ, List.getElem?_cons_zero]; rfl) (by kernel_rfl) (by kernel_rfl) (by kernel_rfl) (fun _ _ _ h => h) (Or.inl ⟨by rfl, ?_⟩) (by assumption) ?_
            rotate_left
            · (intro w hSw; (try dsimp only at hSw); go_simp; try with_reducible rfl)
            try simp only [Act.put, List.setIfInBounds_toArray, List.set_cons_zero, List.set_cons_succ]
            refine wpAnyH_done (by kernel_rfl) ?_ _
            refine NoPanic.normal ?_
            obtain ⟨hb5, HL5, c5, f5, f6⟩ := hHeld
            replace HL5 := Lib.hid HL5
            clear c0 f0 f1 hbd HLD
            clear o6 k6 k8
            go_wp2_with fail
            have HY := Lib.hid (HYES.out (.inl HM2.out))
            refine wp_region_noPanic ?_
            refine wp_region_held_drew (S := (fun w' => Below w.heap.size w w' ∧ Bag.Lies w' ka K.length K ∧ w'.cell? ⟨b, o + i * 2, none⟩ = some (.string ⟨t.toArray⟩) ∧ w'.cell? ⟨db, 0, none⟩ = some (.string ⟨p.toArray⟩) ∧ w'.cell? ⟨db, 1, none⟩ = some (.int .u64 (q : Int)))) (by kernel_rfl) (⟨Below.drew hb5, HL5.out.below (Below.drew (Below.refl _ _)), Dots.keepC c5 (Below.drew (Below.refl _ _)), Dots.keepC f5 (Below.drew (Below.refl _ _)), Dots.keepC f6 (Below.drew (Below.refl _ _))⟩) (fun hHeld => ?_)
            refine wpAnyH_take (i := 0) (v := ?_) (by simp only [List.getElem?_toArray, List.getElem?_cons_zero]; rfl) (by kernel_rfl) (by kernel_rfl) (by kernel_rfl) (fun _ _ _ h => h) (Or.inl ⟨by rfl, ?_⟩) (by assumption) ?_
            rotate_left
            · (intro w hSw; (try dsimp only at hSw); go_simp; try with_reducible rfl)
            try simp only [Act.put, List.setIfInBounds_toArray, List.set_cons_zero, List.set_cons_succ]
            refine wpAnyH_take (i := 1) (v := ?_) (by simp only [List.getElem?_toArray, List.getElem?_cons_succ, List.getElem?_cons_zero]; rfl) (by kernel_rfl) (by kernel_rfl) (by kernel_rfl) (fun _ _ _ h => h) (Or.inl ⟨by rfl, ?_⟩) (by assumption) ?_
            rotate_left
            · (intro w hSw; (try dsimp only at hSw); go_simp; try with_reducible rfl)
            try simp only [Act.put, List.setIfInBounds_toArray, List.set_cons_zero, List.set_cons_succ]
            refine wpAnyH_take (i := 2) (v := ?_) (by simp only [List.getElem?_toArray, List.getElem?_cons_succ, List.getElem?_cons_zero]; rfl) (by kernel_rfl) (by kernel_rfl) (by kernel_rfl) (fun _ _ _ h => h) (Or.inl ⟨by rfl, ?_⟩) (by assumption) ?_
            rotate_left
            · (intro w hSw; (try dsimp only at hSw); go_simp; try with_reducible rfl)
            try simp only [Act.put, List.setIfInBounds_toArray, List.set_cons_zero, List.set_cons_succ]
            refine wpAnyH_take (i := 3) (v := ?_) (by simp only [List.getElem?_toArray, List.getElem?_cons_succ, List.getElem?_cons_zero]; rfl) (by kernel_rfl) (by kernel_rfl) (by kernel_rfl) (fun _ _ _ h => h) (Or.inl ⟨by rfl, ?_⟩) (by assumption) ?_
            rotate_left
            · (intro w hSw; (try dsimp only at hSw); go_simp; try with_reducible rfl)
            try simp only [Act.put, List.setIfInBounds_toArray, List.set_cons_zero, List.set_cons_succ]
            refine wpAnyH_take (i := 4) (v := ?_) (by simp only [List.getElem?_toArray, List.getElem?_cons_succ, List.getElem?_cons_zero]; rfl) (by kernel_rfl) (by kernel_rfl) (by kernel_rfl) (fun _ _ _ h => h) (Or.inl ⟨by rfl, ?_⟩) (by assumption) ?_
            rotate_left
            · (intro w hSw; (try dsimp only at hSw); go_simp; try with_reducible rfl)
            try simp only [Act.put, List.setIfInBounds_toArray, List.set_cons_zero, List.set_cons_succ]
            refine wpAnyH_take (i := 5) (v := ?_) (by simp only [List.getElem?_toArray, List.getElem?_cons_succ, List.getElem?_cons_zero]; rfl) (by kernel_rfl) (by kernel_rfl) (by kernel_rfl) (fun _ _ _ h => h) (Or.inl ⟨by rfl, ?_⟩) (by assumption) ?_
            rotate_left
            · (intro w hSw; (try dsimp only at hSw); go_simp; try with_reducible rfl)
            try simp only [Act.put, List.setIfInBounds_toArray, List.set_cons_zero, List.set_cons_succ]
            refine wpAnyH_take (i := 6) (v := ?_) (by simp only [List.getElem?_toArray, List.getElem?_cons_succ, List.getElem?_cons_zero]; rfl) (by kernel_rfl) (by kernel_rfl) (by kernel_rfl) (fun _ _ _ h => h) (Or.inl ⟨by rfl, ?_⟩) (by assumption) ?_
            rotate_left
            · (intro w hSw; (try dsimp only at hSw); go_simp; try with_reducible rfl)
            try simp only [Act.put, List.setIfInBounds_toArray, List.set_cons_zero, List.set_cons_succ]
            refine wpAnyH_ready (rs := [7]) (by kernel_rfl) (by simp) ?_
            refine AllReadyH.cons (by simp only [List.getElem?_toArray, List.getElem?_cons_succ, List.getElem?_cons_zero]; rfl) (fun K hK => ?_) AllReadyH.nil
            go_simp
            go_at_call 31
            refine (INS.out _ hHeld.2.1 HFEW.out).mono ?_
            rintro e w7 ⟨a7, c7, rfl, l7, k7⟩
            have hb7 := bstep hHeld.1 k7
            have HL7 := Lib.hid l7
            go_wp2_with fail
            refine hK.out _ _ (⟨hb7, Bag.Lies.below hHeld.2.1 k7, Dots.keepC hHeld.2.2.1 k7, Dots.keepC hHeld.2.2.2.1 k7, Dots.keepC hHeld.2.2.2.2 k7⟩) (fun hHeld => ?_)
            clear hK K
            try simp only [Act.put, List.setIfInBounds_toArray, List.set_cons_zero, List.set_cons_succ]
            refine wpAnyH_take (i := 8) (v := ?_) (by simp only [List.getElem?_toArray, List.getElem?_cons_succ, List.getElem?_cons_zero]; rfl) (by kernel_rfl) (by kernel_rfl) (by kernel_rfl) (fun _ _ _ h => h) (Or.inl ⟨by rfl, ?_⟩) (by assumption) ?_
            rotate_left
            · (intro w hSw; (try dsimp only at hSw); go_simp; try with_reducible rfl)
            try simp only [Act.put, List.setIfInBounds_toArray, List.set_cons_zero, List.set_cons_succ]
            refine wpAnyH_done (by kernel_rfl) ?_ _
            refine NoPanic.normal ?_
            clear hHeld
            have hjw : wrap64 ((k : Int) + 1) = ((k + 1 : Nat) : Int) := by have := HK.out; have := HNL.out; unfold wrap64; omega
            clear l7 k7
            go_wp2
            go_roundw
            case rel => exact ⟨k + 1, a7, c7, _, by have := HK.out; omega, by rw [hjw], rfl, HY, HL7, hb7⟩
            case measure => rw [hjw]; have := HK.out; simp only [intOf]; omega
          · rw [decide_eq_false hin] at IN
            have hm2 : ¬ Has B t ⟨p, q⟩ := fun e => hin (hio.2 e)
            have HM2 := Lib.hid hm2
            clear hin hm2 hio
            cases hz : h ⟨p, q⟩ with
            | false =>
              rw [hz] at HS
              have HZ := Lib.hid hz
              clear hz
              go_wp2_with fail
              refine wp_region_noPanic ?_
              refine wp_region_held_drew (S := (fun w' => Below w.heap.size w w' ∧ Bag.Lies w' ka K.length K ∧ w'.cell? ⟨b, o + i * 2, none⟩ = some (.string ⟨t.toArray⟩) ∧ w'.cell? ⟨db, 0, none⟩ = some (.string ⟨p.toArray⟩) ∧ w'.cell? ⟨db, 1, none⟩ = some (.int .u64 (q : Int)))) (by kernel_rfl) (⟨Below.drew hbd, HLD.out.below (Below.drew (Below.refl _ _)), Dots.keepC c0 (Below.drew (Below.refl _ _)), Dots.keepC f0 (Below.drew (Below.refl _ _)), Dots.keepC f1 (Below.drew (Below.refl _ _))⟩) (fun hHeld => ?_)
              refine wpAnyH_take (i := 0) (v := ?_) (by simp only [List.getElem?_toArray, List.getElem?_cons_zero]; rfl) (by kernel_rfl) (by kernel_rfl) (by kernel_rfl) (fun _ _ _ h => h) (Or.inl ⟨by rfl, ?_⟩) (by assumption) ?_
              rotate_left
              · (intro w hSw; (try dsimp only at hSw); go_simp; try with_reducible rfl)
              try simp only [Act.put, List.setIfInBounds_toArray, List.set_cons_zero, List.set_cons_succ]
              refine wpAnyH_take (i := 1) (v := ?_) (by simp only [List.getElem?_toArray, List.getElem?_cons_succ, List.getElem?_cons_zero]; rfl) (by kernel_rfl) (by kernel_rfl) (by kernel_rfl) (fun _ _ _ h => h) (Or.inl ⟨by rfl, ?_⟩) (by assumption) ?_
              rotate_left
              · (intro w hSw; (try dsimp only at hSw); go_simp; try with_reducible rfl)
              try simp only [Act.put, List.setIfInBounds_toArray, List.set_cons_zero, List.set_cons_succ]
              refine wpAnyH_take (i := 2) (v := ?_) (by simp only [List.getElem?_toArray, List.getElem?_cons_succ, List.getElem?_cons_zero]; rfl) (by kernel_rfl) (by kernel_rfl) (by kernel_rfl) (fun _ _ _ h => h) (Or.inl ⟨by rfl, ?_⟩) (by assumption) ?_
              rotate_left
              · (intro w hSw; (try dsimp only at hSw); go_simp; try with_reducible rfl)
              try simp only [Act.put, List.setIfInBounds_toArray, List.set_cons_zero, List.set_cons_succ]
              refine wpAnyH_take (i := 3) (v := ?_) (by simp only [List.getElem?_toArray, List.getElem?_cons_succ, List.getElem?_cons_zero]; rfl) (by kernel_rfl) (by kernel_rfl) (by kernel_rfl) (fun _ _ _ h => h) (Or.inl ⟨by rfl, ?_⟩) (by assumption) ?_
              rotate_left
              · (intro w hSw; (try dsimp only at hSw); go_simp; try with_reducible rfl)
              try simp only [Act.put, List.setIfInBounds_toArray, List.set_cons_zero, List.set_cons_succ]
              refine wpAnyH_take (i := 4) (v := ?_) (by simp only [List.getElem?_toArray, List.getElem?_cons_succ, List.getElem?_cons_zero]; rfl) (by kernel_rfl) (by kernel_rfl) (by kernel_rfl) (fun _ _ _ h => h) (Or.inl ⟨by rfl, ?_⟩) (by assumption) ?_
              rotate_left
              · (intro w hSw; (try dsimp only at hSw); go_simp; try with_reducible rfl)
              try simp only [Act.put, List.setIfInBounds_toArray, List.set_cons_zero, List.set_cons_succ]
              refine wpAnyH_take (i := 5) (v := ?_) (by simp only [List.getElem?_toArray, List.getElem?_cons_succ, List.getElem?_cons_zero]; rfl) (by kernel_rfl) (by kernel_rfl) (by kernel_rfl) (fun _ _ _ h => h) (Or.inl ⟨by rfl, ?_⟩) (by assumption) ?_
              rotate_left
              · (intro w hSw; (try dsimp only at hSw); go_simp; try with_reducible rfl)
              try simp only [Act.put, List.setIfInBounds_toArray, List.set_cons_zero, List.set_cons_succ]
              refine wpAnyH_take (i := 7) (v := ?_) (by simp only [List.getElem?_toArray, List.getElem?_cons_succ, List.getElem?_cons_zero]; rfl) (by kernel_rfl) (by kernel_rfl) (by kernel_rfl) (fun _ _ _ h => h) (Or.inl ⟨by rfl, ?_⟩) (by assumption) ?_
              rotate_left
              · (intro w hSw; (try dsimp only at hSw); go_simp; try with_reducible rfl)
              try simp only [Act.put, List.setIfInBounds_toArray, List.set_cons_zero, List.set_cons_succ]
              refine wpAnyH_ready (rs := [6]) (by kernel_rfl) (by simp) ?_
              refine AllReadyH.cons (by simp only [List.getElem?_toArray, List.getElem?_cons_succ, List.getElem?_cons_zero]; rfl) (fun K hK => ?_) AllReadyH.nil
              go_simp
              go_at_call 15
              refine (OF.out _ hHeld.1).mono ?_
              rintro e w6 ⟨a6, c6, rfl, o6, k6⟩
              go_wp2_with fail
              refine hK.out _ _ (⟨bstep hHeld.1 k6, Bag.Lies.below hHeld.2.1 k6, Dots.keepC hHeld.2.2.1 k6, Dots.keepC hHeld.2.2.2.1 k6, Dots.keepC hHeld.2.2.2.2 k6⟩) (fun hHeld => ?_)
              clear hK K
              try simp only [Act.put, List.setIfInBounds_toArray, List.set_cons_zero, List.set_cons_succ]
              refine wpAnyH_ready (rs := [8]) (by kernel_rfl) (by simp) ?_
              refine AllReadyH.cons (by simp only [List.getElem?_toArray, List.getElem?_cons_succ, List.getElem?_cons_zero]; rfl) (fun K hK => ?_) AllReadyH.nil
              go_simp
              go_at_call 29
              refine (IN.out _ _ _ o6).mono ?_
              rintro e w8 ⟨rfl, k8⟩
              go_wp2_with fail
              refine hK.out _ _ (⟨bstep hHeld.1 k8, Bag.Lies.below hHeld.2.1 k8, Dots.keepC hHeld.2.2.1 k8, Dots.keepC hHeld.2.2.2.1 k8, Dots.keepC hHeld.2.2.2.2 k8⟩) (fun hHeld => ?_)
              clear hK K
              try simp only [Act.put, List.setIfInBounds_toArray, List.set_cons_zero, List.set_cons_succ]
              refine wpAnyH_take (i := 9) (v := ?_) (by simp only [List.getElem?_toArray, List.getElem?_cons_succ, List.getElem?_cons_zero]; rfl) (by kernel_rfl) (by kernel_rfl) (by kernel_rfl) (fun _ _ _ h => h) (Or.inl ⟨by rfl, ?_⟩) (by assumption) ?_
              rotate_left
              · (intro w hSw; (try dsimp only at hSw); go_simp; try with_reducible rfl)
              try simp only [Act.put, List.setIfInBounds_toArray, List.set_cons_zero, List.set_cons_succ]
              refine wpAnyH_take (i := 10) (v := ?_) (by simp only [List.getElem?_toArray, List.getElem?_cons_succ, List.getElem?_cons_zero]; rfl) (by kernel_rfl) (by kernel_rfl) (by kernel_rfl) (fun _ _ _ h => h) (Or.inl ⟨by rfl, ?_⟩) (by assumption) ?_
              rotate_left
              · (intro w hSw; (try dsimp only at hSw); go_simp; try with_reducible rfl)
              try simp only [Act.put, List.setIfInBounds_toArray, List.set_cons_zero, List.set_cons_succ]
              refine wpAnyH_take (i := 11) (v := ?_) (by simp only [List.getElem?_toArray, List.getElem?_cons_succ, List.getElem?_cons_zero]; rfl) (by kernel_rfl) (by kernel_rfl) (by kernel_rfl) (fun _ _ _ h => h) (Or.inl ⟨by rfl, ?_⟩) (by assumption) ?_
              rotate_left
              · (intro w hSw; (try dsimp only at hSw); go_simp; try with_reducible rfl)
              try simp only [Act.put, List.setIfInBounds_toArray, List.set_cons_zero, List.set_cons_succ]
              refine wpAnyH_ready (rs := [12]) (by kernel_rfl) (by simp) ?_
              refine AllReadyH.cons (by simp only [List.getElem?_toArray, List.getElem?_cons_succ, List.getElem?_cons_zero]; rfl) (fun K hK => ?_) AllReadyH.nil
              go_simp
              go_at_call 30
              refine (HS.out _ hHeld.1).mono ?_
              rintro e w9 ⟨rfl, k9⟩
              go_wp2_with fail
              refine hK.out _ _ (⟨bstep hHeld.1 k9, Bag.Lies.below hHeld.2.1 k9, Dots.keepC hHeld.2.2.1 k9, Dots.keepC hHeld.2.2.2.1 k9, Dots.keepC hHeld.2.2.2.2 k9⟩) (fun hHeld => ?_)
              clear hK K
              try simp only [Act.put, List.setIfInBounds_toArray, List.set_cons_zero, List.set_cons_succ]
              refine wpAnyH_take (i := 13) (v := ?_) (by simp only [List.getElem?_toArray, List.getElem?_cons_succ, List.getElem?_cons_zero]; rfl) (by kernel_rfl) (by kernel_rfl) (by kernel_rfl) (fun _ _ _ h => h) (Or.inl ⟨by rfl, ?_⟩) (by assumption) ?_
              rotate_left
              · (intro w hSw; (try dsimp only at hSw); go_simp; try with_reducible rfl)
              try simp only [Act.put, List.setIfInBounds_toArray, List.set_cons_zero, List.set_cons_succ]
              refine wpAnyH_take (i := 14) (v := ?_) (by simp only [List.getElem?_toArray, List.getElem?_cons_succ, List.getElem?_cons_zero]; rfl) (by kernel_rfl) (by kernel_rfl) (by kernel_rfl) (fun _ _ _ h => h) (Or.inl ⟨by rfl, ?_⟩) (by assumption) ?_
              rotate_left
              · (intro w hSw; (try dsimp only at hSw); go_simp; try with_reducible rfl)
              try simp only [Act.put, List.setIfInBounds_toArray, List.set_cons_zero, List.set_cons_succ]
              refine wpAnyH_done (by kernel_rfl) ?_ _
              refine NoPanic.normal ?_
              obtain ⟨hb5, HL5, c5, f5, f6⟩ := hHeld
              replace HL5 := Lib.hid HL5
              clear c0 f0 f1 hbd HLD
              clear o6 k6 k8 k9
              go_wp2_with fail
              have HY := Lib.hid (HYES.out (.inr HZ.out))
              refine wp_region_noPanic ?_
              refine wp_region_held_drew (S := (fun w' => Below w.heap.size w w' ∧ Bag.Lies w' ka K.length K ∧ w'.cell? ⟨b, o + i * 2, none⟩ = some (.string ⟨t.toArray⟩) ∧ w'.cell? ⟨db, 0, none⟩ = some (.string ⟨p.toArray⟩) ∧ w'.cell? ⟨db, 1, none⟩ = some (.int .u64 (q : Int)))) (by kernel_rfl) (⟨Below.drew hb5, HL5.out.below (Below.drew (Below.refl _ _)), Dots.keepC c5 (Below.drew (Below.refl _ _)), Dots.keepC f5 (Below.drew (Below.refl _ _)), Dots.keepC f6 (Below.drew (Below.refl _ _))⟩) (fun hHeld => ?_)
              refine wpAnyH_take (i := 0) (v := ?_) (by simp only [List.getElem?_toArray, List.getElem?_cons_zero]; rfl) (by kernel_rfl) (by kernel_rfl) (by kernel_rfl) (fun _ _ _ h => h) (Or.inl ⟨by rfl, ?_⟩) (by assumption) ?_
              rotate_left
              · (intro w hSw; (try dsimp only at hSw); go_simp; try with_reducible rfl)
              try simp only [Act.put, List.setIfInBounds_toArray, List.set_cons_zero, List.set_cons_succ]
              refine wpAnyH_take (i := 1) (v := ?_) (by simp only [List.getElem?_toArray, List.getElem?_cons_succ, List.getElem?_cons_zero]; rfl) (by kernel_rfl) (by kernel_rfl) (by kernel_rfl) (fun _ _ _ h => h) (Or.inl ⟨by rfl, ?_⟩) (by assumption) ?_
              rotate_left
              · (intro w hSw; (try dsimp only at hSw); go_simp; try with_reducible rfl)
              try simp only [Act.put, List.setIfInBounds_toArray, List.set_cons_zero, List.set_cons_succ]
              refine wpAnyH_take (i := 2) (v := ?_) (by simp only [List.getElem?_toArray, List.getElem?_cons_succ, List.getElem?_cons_zero]; rfl) (by kernel_rfl) (by kernel_rfl) (by kernel_rfl) (fun _ _ _ h => h) (Or.inl ⟨by rfl, ?_⟩) (by assumption) ?_
              rotate_left
              · (intro w hSw; (try dsimp only at hSw); go_simp; try with_reducible rfl)
              try simp only [Act.put, List.setIfInBounds_toArray, List.set_cons_zero, List.set_cons_succ]
              refine wpAnyH_take (i := 3) (v := ?_) (by simp only [List.getElem?_toArray, List.getElem?_cons_succ, List.getElem?_cons_zero]; rfl) (by kernel_rfl) (by kernel_rfl) (by kernel_rfl) (fun _ _ _ h => h) (Or.inl ⟨by rfl, ?_⟩) (by assumption) ?_
              rotate_left
              · (intro w hSw; (try dsimp only at hSw); go_simp; try with_reducible rfl)
              try simp only [Act.put, List.setIfInBounds_toArray, List.set_cons_zero, List.set_cons_succ]
              refine wpAnyH_take (i := 4) (v := ?_) (by simp only [List.getElem?_toArray, List.getElem?_cons_succ, List.getElem?_cons_zero]; rfl) (by kernel_rfl) (by kernel_rfl) (by kernel_rfl) (fun _ _ _ h => h) (Or.inl ⟨by rfl, ?_⟩) (by assumption) ?_
              rotate_left
              · (intro w hSw; (try dsimp only at hSw); go_simp; try with_reducible rfl)
              try simp only [Act.put, List.setIfInBounds_toArray, List.set_cons_zero, List.set_cons_succ]
              refine wpAnyH_take (i := 5) (v := ?_) (by simp only [List.getElem?_toArray, List.getElem?_cons_succ, List.getElem?_cons_zero]; rfl) (by kernel_rfl) (by kernel_rfl) (by kernel_rfl) (fun _ _ _ h => h) (Or.inl ⟨by rfl, ?_⟩) (by assumption) ?_
              rotate_left
              · (intro w hSw; (try dsimp only at hSw); go_simp; try with_reducible rfl)
              try simp only [Act.put, List.setIfInBounds_toArray, List.set_cons_zero, List.set_cons_succ]
              refine wpAnyH_take (i := 6) (v := ?_) (by simp only [List.getElem?_toArray, List.getElem?_cons_succ, List.getElem?_cons_zero]; rfl) (by kernel_rfl) (by kernel_rfl) (by kernel_rfl) (fun _ _ _ h => h) (Or.inl ⟨by rfl, ?_⟩) (by assumption) ?_
              rotate_left
              · (intro w hSw; (try dsimp only at hSw); go_simp; try with_reducible rfl)
              try simp only [Act.put, List.setIfInBounds_toArray, List.set_cons_zero, List.set_cons_succ]
              refine wpAnyH_ready (rs := [7]) (by kernel_rfl) (by simp) ?_
              refine AllReadyH.cons (by simp only [List.getElem?_toArray, List.getElem?_cons_succ, List.getElem?_cons_zero]; rfl) (fun K hK => ?_) AllReadyH.nil
              go_simp
              go_at_call 31
              refine (INS.out _ hHeld.2.1 HFEW.out).mono ?_
              rintro e w7 ⟨a7, c7, rfl, l7, k7⟩
              have hb7 := bstep hHeld.1 k7
              have HL7 := Lib.hid l7
              go_wp2_with fail
              refine hK.out _ _ (⟨hb7, Bag.Lies.below hHeld.2.1 k7, Dots.keepC hHeld.2.2.1 k7, Dots.keepC hHeld.2.2.2.1 k7, Dots.keepC hHeld.2.2.2.2 k7⟩) (fun hHeld => ?_)
              clear hK K
              try simp only [Act.put, List.setIfInBounds_toArray, List.set_cons_zero, List.set_cons_succ]
              refine wpAnyH_take (i := 8) (v := ?_) (by simp only [List.getElem?_toArray, List.getElem?_cons_succ, List.getElem?_cons_zero]; rfl) (by kernel_rfl) (by kernel_rfl) (by kernel_rfl) (fun _ _ _ h => h) (Or.inl ⟨by rfl, ?_⟩) (by assumption) ?_
              rotate_left
              · (intro w hSw; (try dsimp only at hSw); go_simp; try with_reducible rfl)
              try simp only [Act.put, List.setIfInBounds_toArray, List.set_cons_zero, List.set_cons_succ]
              refine wpAnyH_done (by kernel_rfl) ?_ _
              refine NoPanic.normal ?_
              clear hHeld
              have hjw : wrap64 ((k : Int) + 1) = ((k + 1 : Nat) : Int) := by have := HK.out; have := HNL.out; unfold wrap64; omega
              clear l7 k7
              go_wp2
              go_roundw
              case rel => exact ⟨k + 1, a7, c7, _, by have := HK.out; omega, by rw [hjw], rfl, HY, HL7, hb7⟩
              case measure => rw [hjw]; have := HK.out; simp only [intOf]; omega
            | true =>
              rw [hz] at HS
              have HZ := Lib.hid hz
              clear hz
              go_wp2_with fail
              refine wp_region_noPanic ?_
              refine wp_region_held_drew (S := (fun w' => Below w.heap.size w w' ∧ Bag.Lies w' ka K.length K ∧ w'.cell? ⟨b, o + i * 2, none⟩ = some (.string ⟨t.toArray⟩) ∧ w'.cell? ⟨db, 0, none⟩ = some (.string ⟨p.toArray⟩) ∧ w'.cell? ⟨db, 1, none⟩ = some (.int .u64 (q : Int)))) (by kernel_rfl) (⟨Below.drew hbd, HLD.out.below (Below.drew (Below.refl _ _)), Dots.keepC c0 (Below.drew (Below.refl _ _)), Dots.keepC f0 (Below.drew (Below.refl _ _)), Dots.keepC f1 (Below.drew (Below.refl _ _))⟩) (fun hHeld => ?_)
              refine wpAnyH_take (i := 0) (v := ?_) (by simp only [List.getElem?_toArray, List.getElem?_cons_zero]; rfl) (by kernel_rfl) (by kernel_rfl) (by kernel_rfl) (fun _ _ _ h => h) (Or.inl ⟨by rfl, ?_⟩) (by assumption) ?_
              rotate_left
              · (intro w hSw; (try dsimp only at hSw); go_simp; try with_reducible rfl)
              try simp only [Act.put, List.setIfInBounds_toArray, List.set_cons_zero, List.set_cons_succ]
              refine wpAnyH_take (i := 1) (v := ?_) (by simp only [List.getElem?_toArray, List.getElem?_cons_succ, List.getElem?_cons_zero]; rfl) (by kernel_rfl) (by kernel_rfl) (by kernel_rfl) (fun _ _ _ h => h) (Or.inl ⟨by rfl, ?_⟩) (by assumption) ?_
              rotate_left
              · (intro w hSw; (try dsimp only at hSw); go_simp; try with_reducible rfl)
              try simp only [Act.put, List.setIfInBounds_toArray, List.set_cons_zero, List.set_cons_succ]
              refine wpAnyH_take (i := 2) (v := ?_) (by simp only [List.getElem?_toArray, List.getElem?_cons_succ, List.getElem?_cons_zero]; rfl) (by kernel_rfl) (by kernel_rfl) (by kernel_rfl) (fun _ _ _ h => h) (Or.inl ⟨by rfl, ?_⟩) (by assumption) ?_
              rotate_left
              · (intro w hSw; (try dsimp only at hSw); go_simp; try with_reducible rfl)
              try simp only [Act.put, List.setIfInBounds_toArray, List.set_cons_zero, List.set_cons_succ]
              refine wpAnyH_take (i := 3) (v := ?_) (by simp only [List.getElem?_toArray, List.getElem?_cons_succ, List.getElem?_cons_zero]; rfl) (by kernel_rfl) (by kernel_rfl) (by kernel_rfl) (fun _ _ _ h => h) (Or.inl ⟨by rfl, ?_⟩) (by assumption) ?_
              rotate_left
              · (intro w hSw; (try dsimp only at hSw); go_simp; try with_reducible rfl)
              try simp only [Act.put, List.setIfInBounds_toArray, List.set_cons_zero, List.set_cons_succ]
              refine wpAnyH_take (i := 4) (v := ?_) (by simp only [List.getElem?_toArray, List.getElem?_cons_succ, List.getElem?_cons_zero]; rfl) (by kernel_rfl) (by kernel_rfl) (by kernel_rfl) (fun _ _ _ h => h) (Or.inl ⟨by rfl, ?_⟩) (by assumption) ?_
              rotate_left
              · (intro w hSw; (try dsimp only at hSw); go_simp; try with_reducible rfl)
              try simp only [Act.put, List.setIfInBounds_toArray, List.set_cons_zero, List.set_cons_succ]
              refine wpAnyH_take (i := 5) (v := ?_) (by simp only [List.getElem?_toArray, List.getElem?_cons_succ, List.getElem?_cons_zero]; rfl) (by kernel_rfl) (by kernel_rfl) (by kernel_rfl) (fun _ _ _ h => h) (Or.inl ⟨by rfl, ?_⟩) (by assumption) ?_
              rotate_left
              · (intro w hSw; (try dsimp only at hSw); go_simp; try with_reducible rfl)
              try simp only [Act.put, List.setIfInBounds_toArray, List.set_cons_zero, List.set_cons_succ]
              refine wpAnyH_take (i := 7) (v := ?_) (by simp only [List.getElem?_toArray, List.getElem?_cons_succ, List.getElem?_cons_zero]; rfl) (by kernel_rfl) (by kernel_rfl) (by kernel_rfl) (fun _ _ _ h => h) (Or.inl ⟨by rfl, ?_⟩) (by assumption) ?_
              rotate_left
              · (intro w hSw; (try dsimp only at hSw); go_simp; try with_reducible rfl)
              try simp only [Act.put, List.setIfInBounds_toArray, List.set_cons_zero, List.set_cons_succ]
              refine wpAnyH_ready (rs := [6]) (by kernel_rfl) (by simp) ?_
              refine AllReadyH.cons (by simp only [List.getElem?_toArray, List.getElem?_cons_succ, List.getElem?_cons_zero]; rfl) (fun K hK => ?_) AllReadyH.nil
              go_simp
              go_at_call 15
              refine (OF.out _ hHeld.1).mono ?_
              rintro e w6 ⟨a6, c6, rfl, o6, k6⟩
              go_wp2_with fail
              refine hK.out _ _ (⟨bstep hHeld.1 k6, Bag.Lies.below hHeld.2.1 k6, Dots.keepC hHeld.2.2.1 k6, Dots.keepC hHeld.2.2.2.1 k6, Dots.keepC hHeld.2.2.2.2 k6⟩) (fun hHeld => ?_)
              clear hK K
              try simp only [Act.put, List.setIfInBounds_toArray, List.set_cons_zero, List.set_cons_succ]
              refine wpAnyH_ready (rs := [8]) (by kernel_rfl) (by simp) ?_
              refine AllReadyH.cons (by simp only [List.getElem?_toArray, List.getElem?_cons_succ, List.getElem?_cons_zero]; rfl) (fun K hK => ?_) AllReadyH.nil
              go_simp
              go_at_call 29
              refine (IN.out _ _ _ o6).mono ?_
              rintro e w8 ⟨rfl, k8⟩
              go_wp2_with fail
              refine hK.out _ _ (⟨bstep hHeld.1 k8, Bag.Lies.below hHeld.2.1 k8, Dots.keepC hHeld.2.2.1 k8, Dots.keepC hHeld.2.2.2.1 k8, Dots.keepC hHeld.2.2.2.2 k8⟩) (fun hHeld => ?_)
              clear hK K
              try simp only [Act.put, List.setIfInBounds_toArray, List.set_cons_zero, List.set_cons_succ]
              refine wpAnyH_take (i := 9) (v := ?_) (by simp only [List.getElem?_toArray, List.getElem?_cons_succ, List.getElem?_cons_zero]; rfl) (by kernel_rfl) (by kernel_rfl) (by kernel_rfl) (fun _ _ _ h => h) (Or.inl ⟨by rfl, ?_⟩) (by assumption) ?_
              rotate_left
              · (intro w hSw; (try dsimp only at hSw); go_simp; try with_reducible rfl)
              try simp only [Act.put, List.setIfInBounds_toArray, List.set_cons_zero, List.set_cons_succ]
              refine wpAnyH_take (i := 10) (v := ?_) (by simp only [List.getElem?_toArray, List.getElem?_cons_succ, List.getElem?_cons_zero]; rfl) (by kernel_rfl) (by kernel_rfl) (by kernel_rfl) (fun _ _ _ h => h) (Or.inl ⟨by rfl, ?_⟩) (by assumption) ?_
              rotate_left
              · (intro w hSw; (try dsimp only at hSw); go_simp; try with_reducible rfl)
              try simp only [Act.put, List.setIfInBounds_toArray, List.set_cons_zero, List.set_cons_succ]
              refine wpAnyH_take (i := 11) (v := ?_) (by simp only [List.getElem?_toArray, List.getElem?_cons_succ, List.getElem?_cons_zero]; rfl) (by kernel_rfl) (by kernel_rfl) (by kernel_rfl) (fun _ _ _ h => h) (Or.inl ⟨by rfl, ?_⟩) (by assumption) ?_
              rotate_left
              · (intro w hSw; (try dsimp only at hSw); go_simp; try with_reducible rfl)
              try simp only [Act.put, List.setIfInBounds_toArray, List.set_cons_zero, List.set_cons_succ]
              refine wpAnyH_ready (rs := [12]) (by kernel_rfl) (by simp) ?_
              refine AllReadyH.cons (by simp only [List.getElem?_toArray, List.getElem?_cons_succ, List.getElem?_cons_zero]; rfl) (fun K hK => ?_) AllReadyH.nil
              go_simp
              go_at_call 30
              refine (HS.out _ hHeld.1).mono ?_
              rintro e w9 ⟨rfl, k9⟩
              go_wp2_with fail
              refine hK.out _ _ (⟨bstep hHeld.1 k9, Bag.Lies.below hHeld.2.1 k9, Dots.keepC hHeld.2.2.1 k9, Dots.keepC hHeld.2.2.2.1 k9, Dots.keepC hHeld.2.2.2.2 k9⟩) (fun hHeld => ?_)
              clear hK K
              try simp only [Act.put, List.setIfInBounds_toArray, List.set_cons_zero, List.set_cons_succ]
              refine wpAnyH_take (i := 13) (v := ?_) (by simp only [List.getElem?_toArray, List.getElem?_cons_succ, List.getElem?_cons_zero]; rfl) (by kernel_rfl) (by kernel_rfl) (by kernel_rfl) (fun _ _ _ h => h) (Or.inl ⟨by rfl, ?_⟩) (by assumption) ?_
              rotate_left
              · (intro w hSw; (try dsimp only at hSw); go_simp; try with_reducible rfl)
              try simp only [Act.put, List.setIfInBounds_toArray, List.set_cons_zero, List.set_cons_succ]
              refine wpAnyH_take (i := 14) (v := ?_) (by simp only [List.getElem?_toArray, List.getElem?_cons_succ, List.getElem?_cons_zero]; rfl) (by kernel_rfl) (by kernel_rfl) (by kernel_rfl) (fun _ _ _ h => h) (Or.inl ⟨by rfl, ?_⟩) (by assumption) ?_
              rotate_left
              · (intro w hSw; (try dsimp only at hSw); go_simp; try with_reducible rfl)
              try simp only [Act.put, List.setIfInBounds_toArray, List.set_cons_zero, List.set_cons_succ]
              refine wpAnyH_done (by kernel_rfl) ?_ _
              refine NoPanic.normal ?_
              obtain ⟨hb5, HL5, c5, f5, f6⟩ := hHeld
              replace HL5 := Lib.hid HL5
              clear c0 f0 f1 hbd HLD
              clear o6 k6 k8 k9
              have HY := Lib.hid (HNO.out (fun e => by
                rcases e with e | e
                · exact HM2.out e
                · rw [HZ.out] at e; cases e))
              have hjw : wrap64 ((k : Int) + 1) = ((k + 1 : Nat) : Int) := by have := HK.out; have := HNL.out; unfold wrap64; omega
              go_wp2
              go_roundw
              case rel => exact ⟨k + 1, ka, kc, K, by have := HK.out; omega, by rw [hjw], rfl, HY, HL5, hb5⟩
              case measure => rw [hjw]; have := HK.out; simp only [intOf]; omega
    · have HR0 : Hid (IsBag R (Part (At A B f h 1) (fun t m => Has A t m ∨ f m = false) (pls (B.take 0)))) := Lib.hid (HR.out.congr fun t m => by unfold Part pls; simp)
      have HL0 := HL
      have hb0 := hb
      clear HR HL hb
      obtain ⟨J, hJe, hJ, hD⟩ := HB.out
      have HJ := Lib.hid hJ
      have HD := Lib.hid hD
      have HN := Lib.hid hJ.1
      have HJE := Lib.hid hJe
      clear hJe hJ hD
      go_wp2_with fail
      go_loopw [9, 14] (fun ov iv wq => ∃ (i : Nat) (oa : Option Addr) (oc : Nat) (R : List It), i ≤ nb ∧ iv = .int .i64 i ∧ ov = .slice oa R.length oc ∧ Hid (IsBag R (Part (At A B f h 1) (fun t m => Has A t m ∨ f m = false) (pls (B.take i)))) ∧ Hid (Bag.Lies wq oa R.length R) ∧ Below w.heap.size w wq) (fun _ iv _ => nb - (intOf iv).toNat)
      case atStart => exact ⟨0, ra, rc, R, by omega, rfl, rfl, HR0, HL0, hb0⟩
      case round =>
        clear HR0 HL0 hb0
        have hnb := HNB.out
        obtain ⟨i, qa, qc, Q, hi, rfl, rfl, HR, HL, hb⟩ := hrel
        by_cases hlt : i < nb
        rotate_left
        · obtain rfl : i = nb := by omega
          have d1 : decide ((i : Int) < (i : Int)) = false := decide_eq_false (by omega)
          have HE : Hid (IsBag Q (At A B f h 2)) := Lib.hid (by
            have h9 := HR.out
            rw [List.take_of_length_le (by rw [← HJE.out, List.length_map]; have := HN.out; omega)] at h9
            exact h9.congr (fun t m => at_two t m))
          clear HR
          go_wp2
          go_roundw
          case rel => exact ⟨2, qa, qc, Q, .inr (.inr ⟨rfl, rfl⟩), rfl, HE, HL, hb⟩
          case measure => simp [intOf]
        have d1 : decide ((i : Int) < (nb : Int)) = true := decide_eq_true (by omega)
        have j1 : (0 : Int) ≤ (i : Int) := by omega
        have j2 : (i : Int) < (nb : Int) := by omega
        have hil : i < J.length := by have := HN.out; omega
        have hml : i < B.length := by rw [← HJE.out, List.length_map]; exact hil
        obtain ⟨b, o, hao, hc⟩ := items_at HJ.out (by omega)
        obtain ⟨c0, c1⟩ := hc i hil
        have HDX := Lib.hid (HD.out _ (List.getElem_mem hil))
        have hxe : J[i].it = B[i] := by have h9 := HJE.out; subst h9; rw [List.getElem_map]
        obtain ⟨hsl, hsm⟩ := pls_sub hml
        have hpt := pls_take hml
        obtain ⟨x, hx⟩ : ∃ x, x = J[i] := ⟨_, rfl⟩
        rw [← hxe] at hsl hsm hpt
        rw [← hx] at c0 c1 HDX hsl hsm hpt
        obtain ⟨t, xa, xc, d⟩ := x
        simp only [RI.it] at c0 c1 hsl hsm hpt
        unfold Inner at HDX
        simp only at HDX
        have HPT : Hid (pls (B.take (i + 1)) = pls (B.take i) ++ onT t d) := Lib.hid hpt
        have HSM : Hid (∀ m ∈ d, (⟨t, m⟩ : Pl) ∈ pls B) := Lib.hid hsm
        have HST : Hid (∀ p ∈ pls (B.take i), p ∈ pls B) := Lib.hid (fun p hp => by rw [pls_split B i]; exact List.mem_append_left _ hp)
        have HI := Lib.hid hlt
        obtain ⟨nd, hnd⟩ : ∃ k, k = d.length := ⟨_, rfl⟩
        rw [← hnd] at c1 HDX hsl
        have HND := Lib.hid hnd
        have HNL : Hid (nd ≤ 1099511627700) := Lib.hid (by have := HF.out; omega)
        have HR1 : Hid (IsBag Q (Part (At A B f h 1) (fun t m => Has A t m ∨ f m = false) (pls (B.take i) ++ onT t (d.take 0)))) := Lib.hid (by rw [show onT t (d.take 0) = [] from rfl, List.append_nil]; exact HR.out)
        have HL1 := HL
        have hb1 := hb
        subst hao
        have C0 := Lib.hid c0
        have C1 := Lib.hid c1
        have HDXX := HDX
        clear hc hil hml hxe hsl hsm hpt hx hlt hnd HR HL hb c0 c1 hnb
        go_wp2_with fail
        go_loopw [9, 15] (fun ov kv wk => ∃ (k : Nat) (oa : Option Addr) (oc : Nat) (R : List It), k ≤ nd ∧ kv = .int .i64 k ∧ ov = .slice oa R.length oc ∧ Hid (IsBag R (Part (At A B f h 1) (fun t m => Has A t m ∨ f m = false) (pls (B.take i) ++ onT t (d.take k)))) ∧ Hid (Bag.Lies wk oa R.length R) ∧ Below w.heap.size w wk) (fun _ kv _ => nd - (intOf kv).toNat)
        case atStart => exact ⟨0, qa, qc, Q, by omega, rfl, rfl, HR1, HL1, hb1⟩
        case round =>
          clear HR1 HL1 hb1
          have hnb := HNB.out
          obtain ⟨k, ka, kc, K, hk, rfl, rfl, HR, HL, hb⟩ := hrel
          have c0 := Dots.keepC C0.out hb
          have c1 := Dots.keepC C1.out hb
          by_cases hkd : k < nd
          rotate_left
          · obtain rfl : k = nd := by omega
            have d2 : decide ((k : Int) < (k : Int)) = false := decide_eq_false (by omega)
            have HE : Hid (IsBag K (Part (At A B f h 1) (fun t m => Has A t m ∨ f m = false) (pls (B.take (i + 1))))) := Lib.hid (by
              have h9 := HR.out
              rw [List.take_of_length_le (l := d) (by have := HND.out; omega), ← HPT.out] at h9
              exact h9)
            clear HR
            go_wp2
            go_roundw
            case rel => exact ⟨i + 1, ka, kc, K, by have := HI.out; omega, by go_num, rfl, HE, HL, hb⟩
            case measure => have := HI.out; simp [intOf]; omega
          have d2 : decide ((k : Int) < (nd : Int)) = true := decide_eq_true (by omega)
          have j3 : (0 : Int) ≤ (k : Int) := by omega
          have j4 : (k : Int) < (nd : Int) := by omega
          have hkl : k < d.length := by have := HND.out; omega
          obtain ⟨b2, o2, hxo, hc2⟩ := dots_at HDX.out (by omega)
          subst hxo
          obtain ⟨e0, e1⟩ := hc2 k hkl
          replace e0 := Dots.keepC e0 hb
          replace e1 := Dots.keepC e1 hb
          have hts2 : d.take (k + 1) = d.take k ++ [d[k]] := List.take_succ_eq_append_getElem hkl
          have hmd := HSM.out _ (List.getElem_mem hkl)
          have HFEW : Hid (K.length ≤ 1099511627700 ∧ ∀ x ∈ K, x.d.length ≤ 1099511627700) := Lib.hid (part_few (X := B) HR.out (fun p hp => by
            rcases List.mem_append.1 hp with hp | hp
            · exact HST.out p hp
            · unfold onT at hp
              obtain ⟨m, hm, rfl⟩ := List.mem_map.1 hp
              exact HSM.out m (List.mem_of_mem_take hm)) (fun p hp => List.mem_append.2 (.inr hp)) HF.out)
          obtain ⟨m, hm⟩ : ∃ m, m = d[k] := ⟨_, rfl⟩
          rw [← hm] at e0 e1 hts2 hmd
          obtain ⟨p, q⟩ := m
          simp only at e0 e1
          have HYES : Hid (∀ _ : (fun t m => Has A t m ∨ f m = false) t ⟨p, q⟩, IsBag (insI t ⟨p, q⟩ false K) (Part (At A B f h 1) (fun t m => Has A t m ∨ f m = false) (pls (B.take i) ++ onT t (d.take (k + 1))))) := Lib.hid (fun hc => by rw [hts2, onT_snoc, ← List.append_assoc]; exact Part.yes HR.out hc)
          have HNO : Hid (∀ _ : ¬ (fun t m => Has A t m ∨ f m = false) t ⟨p, q⟩, IsBag K (Part (At A B f h 1) (fun t m => Has A t m ∨ f m = false) (pls (B.take i) ++ onT t (d.take (k + 1))))) := Lib.hid (fun hc => by rw [hts2, onT_snoc, ← List.append_assoc]; exact Part.no HR.out hc)
          have HK := Lib.hid hkd
          have IN := Lib.hid (HIN.out A (by have := HF.out; omega) t p q)
          have OF := Lib.hid (HOA.out t)
          have HS := Lib.hid (HHS.out p q)
          have INS := Lib.hid (HINS.out K t p q ka kc)
          have hio : (⟨p, q⟩ : M) ∈ ofT A t ↔ Has A t ⟨p, q⟩ := (ofT_law A t).2 _
          clear hc2 hkl hts2 hmd hm hkd HR
          go_upto_region 15 with (fail)
          have hbd := balloc hb (.cells #[.string ⟨p.toArray⟩, .int .u64 (q : Int)] 31)
          have HLD : Hid (Bag.Lies (wr.alloc (.cells #[.string ⟨p.toArray⟩, .int .u64 (q : Int)] 31)) ka K.length K) := Lib.hid (HL.out.below (balloc (Below.refl _ _) _))
          have f0 : (wr.alloc (.cells #[.string ⟨p.toArray⟩, .int .u64 (q : Int)] 31)).cell? ⟨wr.heap.size, 0, none⟩ = some (.string ⟨p.toArray⟩) := by rw [World.cell?_alloc_new]; rfl
          have f1 : (wr.alloc (.cells #[.string ⟨p.toArray⟩, .int .u64 (q : Int)] 31)).cell? ⟨wr.heap.size, 1, none⟩ = some (.int .u64 (q : Int)) := by rw [World.cell?_alloc_new]; rfl
          replace c0 := Dots.keepC c0 (balloc (Below.refl _ _) (.cells #[.string ⟨p.toArray⟩, .int .u64 (q : Int)] 31))
          obtain ⟨wd, hwd⟩ : ∃ v, v = wr.alloc (.cells #[.string ⟨p.toArray⟩, .int .u64 (q : Int)] 31) := ⟨_, rfl⟩
          rw [← hwd] at hbd HLD f0 f1 c0 ⊢
          obtain ⟨db, hdb⟩ : ∃ b, b = wr.heap.size := ⟨_, rfl⟩
          rw [← hdb] at f0 f1 ⊢
          clear hb HL c1 e0 e1 hwd hdb
          by_cases hin : (⟨p, q⟩ : M) ∈ ofT A t
          · rw [decide_eq_true hin] at IN
            have hm2 := hio.1 hin
            have HM2 := Lib.hid hm2
            clear hin hm2 hio
            go_wp2_with fail
            refine wp_region_noPanic ?_
            refine wp_region_held_drew (S := (fun w' => Below w.heap.size w w' ∧ Bag.Lies w' ka K.length K ∧ w'.cell? ⟨b, o + i * 2, none⟩ = some (.string ⟨t.toArray⟩) ∧ w'.cell? ⟨db, 0, none⟩ = some (.string ⟨p.toArray⟩) ∧ w'.cell? ⟨db, 1, none⟩ = some (.int .u64 (q : Int)))) (by kernel_rfl) (⟨Below.drew hbd, HLD.out.below (Below.drew (Below.refl _ _)), Dots.keepC c0 (Below.drew (Below.refl _ _)), Dots.keepC f0 (Below.drew (Below.refl _ _)), Dots.keepC f1 (Below.drew (Below.refl _ _))⟩) (fun hHeld => ?_)
            refine wpAnyH_take (i := 0) (v := ?_) (by simp only [List.getElem?_toArray, List.getElem?_cons_zero]; rfl) (by kernel_rfl) (by kernel_rfl) (by kernel_rfl) (fun _ _ _ h => h) (Or.inl ⟨by rfl, ?_⟩) (by assumption) ?_
            rotate_left
            · (intro w hSw; (try dsimp only at hSw); go_simp; try with_reducible rfl)
            try simp only [Act.put, List.setIfInBounds_toArray, List.set_cons_zero, List.set_cons_succ]
            refine wpAnyH_take (i := 1) (v := ?_) (by simp only [List.getElem?_toArray, List.getElem?_cons_succ, List.getElem?_cons_zero]; rfl) (by kernel_rfl) (by kernel_rfl) (by kernel_rfl) (fun _ _ _ h => h) (Or.inl ⟨by rfl, ?_⟩) (by assumption) ?_
            rotate_left
            · (intro w hSw; (try dsimp only at hSw); go_simp; try with_reducible rfl)
            try simp only [Act.put, List.setIfInBounds_toArray, List.set_cons_zero, List.set_cons_succ]
            refine wpAnyH_take (i := 2) (v := ?_) (by simp only [List.getElem?_toArray, List.getElem?_cons_succ, List.getElem?_cons_zero]; rfl) (by kernel_rfl) (by kernel_rfl) (by kernel_rfl) (fun _ _ _ h => h) (Or.inl ⟨by rfl, ?_⟩) (by assumption) ?_
            rotate_left
            · (intro w hSw; (try dsimp only at hSw); go_simp; try with_reducible rfl)
            try simp only [Act.put, List.setIfInBounds_toArray, List.set_cons_zero, List.set_cons_succ]
            refine wpAnyH_take (i := 3) (v := ?_) (by simp only [List.getElem?_toArray, List.getElem?_cons_succ, List.getElem?_cons_zero]; rfl) (by kernel_rfl) (by kernel_rfl) (by kernel_rfl) (fun _ _ _ h => h) (Or.inl ⟨by rfl, ?_⟩) (by assumption) ?_
            rotate_left
            · (intro w hSw; (try dsimp only at hSw); go_simp; try with_reducible rfl)
            try simp only [Act.put, List.setIfInBounds_toArray, List.set_cons_zero, List.set_cons_succ]
            refine wpAnyH_take (i := 4) (v := ?_) (by simp only [List.getElem?_toArray, List.getElem?_cons_succ, List.getElem?_cons_zero]; rfl) (by kernel_rfl) (by kernel_rfl) (by kernel_rfl) (fun _ _ _ h => h) (Or.inl ⟨by rfl, ?_⟩) (by assumption) ?_
            rotate_left
            · (intro w hSw; (try dsimp only at hSw); go_simp; try with_reducible rfl)
            try simp only [Act.put, List.setIfInBounds_toArray, List.set_cons_zero, List.set_cons_succ]
            refine wpAnyH_take (i := 5) (v := ?_) (by simp only [List.getElem?_toArray, List.getElem?_cons_succ, List.getElem?_cons_zero]; rfl) (by kernel_rfl) (by kernel_rfl) (by kernel_rfl) (fun _ _ _ h => h) (Or.inl ⟨by rfl, ?_⟩) (by assumption) ?_
            rotate_left
            · (intro w hSw; (try dsimp only at hSw); go_simp; try with_reducible rfl)
            try simp only [Act.put, List.setIfInBounds_toArray, List.set_cons_zero, List.set_cons_succ]
            refine wpAnyH_take (i := 7) (v := ?_) (by simp only [List.getElem?_toArray, List.getElem?_cons_succ, List.getElem?_cons_zero]; rfl) (by kernel_rfl) (by kernel_rfl) (by kernel_rfl) (fun _ _ _ h => h) (Or.inl ⟨by rfl, ?_⟩) (by assumption) ?_
            rotate_left
            · (intro w hSw; (try dsimp only at hSw); go_simp; try with_reducible rfl)
            try simp only [Act.put, List.setIfInBounds_toArray, List.set_cons_zero, List.set_cons_succ]
            refine wpAnyH_ready (rs := [6]) (by kernel_rfl) (by simp) ?_
            refine AllReadyH.cons (by simp only [List.getElem?_toArray, List.getElem?_cons_succ, List.getElem?_cons_zero]; rfl) (fun K hK => ?_) AllReadyH.nil
            go_simp
            go_at_call 15
            refine (OF.out _ hHeld.1).mono ?_
            rintro e w6 ⟨a6, c6, rfl, o6, k6⟩
            go_wp2_with fail
            refine hK.out _ _ (⟨bstep hHeld.1 k6, Bag.Lies.below hHeld.2.1 k6, Dots.keepC hHeld.2.2.1 k6, Dots.keepC hHeld.2.2.2.1 k6, Dots.keepC hHeld.2.2.2.2 k6⟩) (fun hHeld => ?_)
            clear hK K
            try simp only [Act.put, List.setIfInBounds_toArray, List.set_cons_zero, List.set_cons_succ]
            refine wpAnyH_ready (rs := [8]) (by kernel_rfl) (by simp) ?_
            refine AllReadyH.cons (by simp only [List.getElem?_toArray, List.getElem?_cons_succ, List.getElem?_cons_zero]; rfl) (fun K hK => ?_) AllReadyH.nil
            go_simp
            go_at_call 29
            refine (IN.out _ _ _ o6).mono ?_
            rintro e w8 ⟨rfl, k8⟩
            go_wp2_with fail
            refine hK.out _ _ (⟨bstep hHeld.1 k8, Bag.Lies.below hHeld.2.1 k8, Dots.keepC hHeld.2.2.1 k8, Dots.keepC hHeld.2.2.2.1 k8, Dots.keepC hHeld.2.2.2.2 k8⟩) (fun hHeld => ?_)
            clear hK K
            try simp only [Act.put, List.setIfInBounds_toArray, List.set_cons_zero, List.set_cons_succ]
            refine wpAnyH_take (i := 9) (v := ?_) (by simp only [List.getElem?_toArray, List.getElem?_cons_succ, List.getElem?_cons_zero]; rfl) (by kernel_rfl) (by kernel_rfl) (by kernel_rfl) (fun _ _ _ h => h) (Or.inl ⟨by rfl, ?_⟩) (by assumption) ?_
            rotate_left
            · (intro w hSw; (try dsimp only at hSw); go_simp; try with_reducible rfl)
            try simp only [Act.put, List.setIfInBounds_toArray, List.set_cons_zero, List.set_cons_succ]
            refine wpAnyH_take (i := 10) (v := undef) (by simp only [List.getElem?_toArray, List.getElem?_cons_succ, List.getElem?_cons_zero]; rfl) (by kernel_rfl) (by kernel_rfl) (by kernel_rfl) (fun _ _ _ h => h) (Or.inr ⟨by rfl, rfl⟩) (by assumption) ?_
            try simp only [Act.put, List.setIfInBounds_toArray, List.set_cons_zero, List.set_cons_succ]
            refine wpAnyH_take (i := 11) (v := undef) (by simp only [List.getElem?_toArray, List.getElem?_cons_succ, List.getElem?_cons_zero]; rfl) (by kernel_rfl) (by kernel_rfl) (by kernel_rfl) (fun _ _ _ h => h) (Or.inr ⟨by rfl, rfl⟩) (by assumption) ?_
            try simp only [Act.put, List.setIfInBounds_toArray, List.set_cons_zero, List.set_cons_succ]
            refine wpAnyH_take (i := 12) (v := undef) (by simp only [List.getElem?_toArray, List.getElem?_cons_succ, List.getElem?_cons_zero]; rfl) (by kernel_rfl) (by kernel_rfl) (by kernel_rfl) (fun _ _ _ h => h) (Or.inr ⟨by rfl, rfl⟩) (by assumption) ?_
            try simp only [Act.put, List.setIfInBounds_toArray, List.set_cons_zero, List.set_cons_succ]
            refine wpAnyH_take (i := 13) (v := undef) (by simp only [List.getElem?_toArray, List.getElem?_cons_succ, List.getElem?_cons_zero]; rfl) (by kernel_rfl) (by kernel_rfl) (by kernel_rfl) (fun _ _ _ h => h) (Or.inr ⟨by rfl, rfl⟩) (by assumption) ?_
            try simp only [Act.put, List.setIfInBounds_toArray, List.set_cons_zero, List.set_cons_succ]
            refine wpAnyH_take (i := 14) (v := ?_) (by simp only [List.getElem?_toArray, List.getElem?_cons_succ, List.getElem?_cons_zero]; rfl) (by kernel_rfl) (by kernel_rfl) (by kernel_rfl) (fun _ _ _ h => h) (Or.inl ⟨by rfl, ?_⟩) (by assumption) ?_
            rotate_left
            · (intro w hSw; (try dsimp only at hSw); go_simp; try with_reducible rfl)
            try simp only [Act.put, List.setIfInBounds_toArray, List.set_cons_zero, List.set_cons_succ]
            refine wpAnyH_done (by kernel_rfl) ?_ _
            refine NoPanic.normal ?_
            obtain ⟨hb5, HL5, c5, f5, f6⟩ := hHeld
            replace HL5 := Lib.hid HL5
            clear c0 f0 f1 hbd HLD
            clear o6 k6 k8
            go_wp2_with fail
            have HY := Lib.hid (HYES.out (.inl HM2.out))
            refine wp_region_noPanic ?_
            refine wp_region_held_drew (S := (fun w' => Below w.heap.size w w' ∧ Bag.Lies w' ka K.length K ∧ w'.cell? ⟨b, o + i * 2, none⟩ = some (.string ⟨t.toArray⟩) ∧ w'.cell? ⟨db, 0, none⟩ = some (.string ⟨p.toArray⟩) ∧ w'.cell? ⟨db, 1, none⟩ = some (.int .u64 (q : Int)))) (by kernel_rfl) (⟨Below.drew hb5, HL5.out.below (Below.drew (Below.refl _ _)), Dots.keepC c5 (Below.drew (Below.refl _ _)), Dots.keepC f5 (Below.drew (Below.refl _ _)), Dots.keepC f6 (Below.drew (Below.refl _ _))⟩) (fun hHeld => ?_)
            refine wpAnyH_take (i := 0) (v := ?_) (by simp only [List.getElem?_toArray, List.getElem?_cons_zero]; rfl) (by kernel_rfl) (by kernel_rfl) (by kernel_rfl) (fun _ _ _ h => h) (Or.inl ⟨by rfl, ?_⟩) (by assumption) ?_
            rotate_left
            · (intro w hSw; (try dsimp only at hSw); go_simp; try with_reducible rfl)
            try simp only [Act.put, List.setIfInBounds_toArray, List.set_cons_zero, List.set_cons_succ]
            refine wpAnyH_take (i := 1) (v := ?_) (by simp only [List.getElem?_toArray, List.getElem?_cons_succ, List.getElem?_cons_zero]; rfl) (by kernel_rfl) (by kernel_rfl) (by kernel_rfl) (fun _ _ _ h => h) (Or.inl ⟨by rfl, ?_⟩) (by assumption) ?_
            rotate_left
            · (intro w hSw; (try dsimp only at hSw); go_simp; try with_reducible rfl)
            try simp only [Act.put, List.setIfInBounds_toArray, List.set_cons_zero, List.set_cons_succ]
            refine wpAnyH_take (i := 2) (v := ?_) (by simp only [List.getElem?_toArray, List.getElem?_cons_succ, List.getElem?_cons_zero]; rfl) (by kernel_rfl) (by kernel_rfl) (by kernel_rfl) (fun _ _ _ h => h) (Or.inl ⟨by rfl, ?_⟩) (by assumption) ?_
            rotate_left
            · (intro w hSw; (try dsimp only at hSw); go_simp; try with_reducible rfl)
            try simp only [Act.put, List.setIfInBounds_toArray, List.set_cons_zero, List.set_cons_succ]
            refine wpAnyH_take (i := 3) (v := ?_) (by simp only [List.getElem?_toArray, List.getElem?_cons_succ, List.getElem?_cons_zero]; rfl) (by kernel_rfl) (by kernel_rfl) (by kernel_rfl) (fun _ _ _ h => h) (Or.inl ⟨by rfl, ?_⟩) (by assumption) ?_
            rotate_left
            · (intro w hSw; (try dsimp only at hSw); go_simp; try with_reducible rfl)
            try simp only [Act.put, List.setIfInBounds_toArray, List.set_cons_zero, List.set_cons_succ]
            refine wpAnyH_take (i := 4) (v := ?_) (by simp only [List.getElem?_toArray, List.getElem?_cons_succ, List.getElem?_cons_zero]; rfl) (by kernel_rfl) (by kernel_rfl) (by kernel_rfl) (fun _ _ _ h => h) (Or.inl ⟨by rfl, ?_⟩) (by assumption) ?_
            rotate_left
            · (intro w hSw; (try dsimp only at hSw); go_simp; try with_reducible rfl)
            try simp only [Act.put, List.setIfInBounds_toArray, List.set_cons_zero, List.set_cons_succ]
            refine wpAnyH_take (i := 5) (v := ?_) (by simp only [List.getElem?_toArray, List.getElem?_cons_succ, List.getElem?_cons_zero]; rfl) (by kernel_rfl) (by kernel_rfl) (by kernel_rfl) (fun _ _ _ h => h) (Or.inl ⟨by rfl, ?_⟩) (by assumption) ?_
            rotate_left
            · (intro w hSw; (try dsimp only at hSw); go_simp; try with_reducible rfl)
            try simp only [Act.put, List.setIfInBounds_toArray, List.set_cons_zero, List.set_cons_succ]
            refine wpAnyH_take (i := 6) (v := ?_) (by simp only [List.getElem?_toArray, List.getElem?_cons_succ, List.getElem?_cons_zero]; rfl) (by kernel_rfl) (by kernel_rfl) (by kernel_rfl) (fun _ _ _ h => h) (Or.inl ⟨by rfl, ?_⟩) (by assumption) ?_
            rotate_left
            · (intro w hSw; (try dsimp only at hSw); go_simp; try with_reducible rfl)
            try simp only [Act.put, List.setIfInBounds_toArray, List.set_cons_zero, List.set_cons_succ]
            refine wpAnyH_ready (rs := [7]) (by kernel_rfl) (by simp) ?_
            refine AllReadyH.cons (by simp only [List.getElem?_toArray, List.getElem?_cons_succ, List.getElem?_cons_zero]; rfl) (fun K hK => ?_) AllReadyH.nil
            go_simp
            go_at_call 31
            refine (INS.out _ hHeld.2.1 HFEW.out).mono ?_
            rintro e w7 ⟨a7, c7, rfl, l7, k7⟩
            have hb7 := bstep hHeld.1 k7
            have HL7 := Lib.hid l7
            go_wp2_with fail
            refine hK.out _ _ (⟨hb7, Bag.Lies.below hHeld.2.1 k7, Dots.keepC hHeld.2.2.1 k7, Dots.keepC hHeld.2.2.2.1 k7, Dots.keepC hHeld.2.2.2.2 k7⟩) (fun hHeld => ?_)
            clear hK K
            try simp only [Act.put, List.setIfInBounds_toArray, List.set_cons_zero, List.set_cons_succ]
            refine wpAnyH_take (i := 8) (v := ?_) (by simp only [List.getElem?_toArray, List.getElem?_cons_succ, List.getElem?_cons_zero]; rfl) (by kernel_rfl) (by kernel_rfl) (by kernel_rfl) (fun _ _ _ h => h) (Or.inl ⟨by rfl, ?_⟩) (by assumption) ?_
            rotate_left
            · (intro w hSw; (try dsimp only at hSw); go_simp; try with_reducible rfl)
            try simp only [Act.put, List.setIfInBounds_toArray, List.set_cons_zero, List.set_cons_succ]
            refine wpAnyH_done (by kernel_rfl) ?_ _
            refine NoPanic.normal ?_
            clear hHeld
            have hjw : wrap64 ((k : Int) + 1) = ((k + 1 : Nat) : Int) := by have := HK.out; have := HNL.out; unfold wrap64; omega
            clear l7 k7
            go_wp2
            go_roundw
            case rel => exact ⟨k + 1, a7, c7, _, by have := HK.out; omega, by rw [hjw], rfl, HY, HL7, hb7⟩
            case measure => rw [hjw]; have := HK.out; simp only [intOf]; omega
          · rw [decide_eq_false hin] at IN
            have hm2 : ¬ Has A t ⟨p, q⟩ := fun e => hin (hio.2 e)
            have HM2 := Lib.hid hm2
            clear hin hm2 hio
            cases hz : f ⟨p, q⟩ with
            | false =>
              rw [hz] at HS
              have HZ := Lib.hid hz
              clear hz
              go_wp2_with fail
              refine wp_region_noPanic ?_
              refine wp_region_held_drew (S := (fun w' => Below w.heap.size w w' ∧ Bag.Lies w' ka K.length K ∧ w'.cell? ⟨b, o + i * 2, none⟩ = some (.string ⟨t.toArray⟩) ∧ w'.cell? ⟨db, 0, none⟩ = some (.string ⟨p.toArray⟩) ∧ w'.cell? ⟨db, 1, none⟩ = some (.int .u64 (q : Int)))) (by kernel_rfl) (⟨Below.drew hbd, HLD.out.below (Below.drew (Below.refl _ _)), Dots.keepC c0 (Below.drew (Below.refl _ _)), Dots.keepC f0 (Below.drew (Below.refl _ _)), Dots.keepC f1 (Below.drew (Below.refl _ _))⟩) (fun hHeld => ?_)
              refine wpAnyH_take (i := 0) (v := ?_) (by simp only [List.getElem?_toArray, List.getElem?_cons_zero]; rfl) (by kernel_rfl) (by kernel_rfl) (by kernel_rfl) (fun _ _ _ h => h) (Or.inl ⟨by rfl, ?_⟩) (by assumption) ?_
              rotate_left
              · (intro w hSw; (try dsimp only at hSw); go_simp; try with_reducible rfl)
              try simp only [Act.put, List.setIfInBounds_toArray, List.set_cons_zero, List.set_cons_succ]
              refine wpAnyH_take (i := 1) (v := ?_) (by simp only [List.getElem?_toArray, List.getElem?_cons_succ, List.getElem?_cons_zero]; rfl) (by kernel_rfl) (by kernel_rfl) (by kernel_rfl) (fun _ _ _ h => h) (Or.inl ⟨by rfl, ?_⟩) (by assumption) ?_
              rotate_left
              · (intro w hSw; (try dsimp only at hSw); go_simp; try with_reducible rfl)
              try simp only [Act.put, List.setIfInBounds_toArray, List.set_cons_zero, List.set_cons_succ]
              refine wpAnyH_take (i := 2) (v := ?_) (by simp only [List.getElem?_toArray, List.getElem?_cons_succ, List.getElem?_cons_zero]; rfl) (by kernel_rfl) (by kernel_rfl) (by kernel_rfl) (fun _ _ _ h => h) (Or.inl ⟨by rfl, ?_⟩) (by assumption) ?_
              rotate_left
              · (intro w hSw; (try dsimp only at hSw); go_simp; try with_reducible rfl)
              try simp only [Act.put, List.setIfInBounds_toArray, List.set_cons_zero, List.set_cons_succ]
              refine wpAnyH_take (i := 3) (v := ?_) (by simp only [List.getElem?_toArray, List.getElem?_cons_succ, List.getElem?_cons_zero]; rfl) (by kernel_rfl) (by kernel_rfl) (by kernel_rfl) (fun _ _ _ h => h) (Or.inl ⟨by rfl, ?_⟩) (by assumption) ?_
              rotate_left
              · (intro w hSw; (try dsimp only at hSw); go_simp; try with_reducible rfl)
              try simp only [Act.put, List.setIfInBounds_toArray, List.set_cons_zero, List.set_cons_succ]
              refine wpAnyH_take (i := 4) (v := ?_) (by simp only [List.getElem?_toArray, List.getElem?_cons_succ, List.getElem?_cons_zero]; rfl) (by kernel_rfl) (by kernel_rfl) (by kernel_rfl) (fun _ _ _ h => h) (Or.inl ⟨by rfl, ?_⟩) (by assumption) ?_
              rotate_left
              · (intro w hSw; (try dsimp only at hSw); go_simp; try with_reducible rfl)
              try simp only [Act.put, List.setIfInBounds_toArray, List.set_cons_zero, List.set_cons_succ]
              refine wpAnyH_take (i := 5) (v := ?_) (by simp only [List.getElem?_toArray, List.getElem?_cons_succ, List.getElem?_cons_zero]; rfl) (by kernel_rfl) (by kernel_rfl) (by kernel_rfl) (fun _ _ _ h => h) (Or.inl ⟨by rfl, ?_⟩) (by assumption) ?_
              rotate_left
              · (intro w hSw; (try dsimp only at hSw); go_simp; try with_reducible rfl)
              try simp only [Act.put, List.setIfInBounds_toArray, List.set_cons_zero, List.set_cons_succ]
              refine wpAnyH_take (i := 7) (v := ?_) (by simp only [List.getElem?_toArray, List.getElem?_cons_succ, List.getElem?_cons_zero]; rfl) (by kernel_rfl) (by kernel_rfl) (by kernel_rfl) (fun _ _ _ h => h) (Or.inl ⟨by rfl, ?_⟩) (by assumption) ?_
              rotate_left
              · (intro w hSw; (try dsimp only at hSw); go_simp; try with_reducible rfl)
              try simp only [Act.put, List.setIfInBounds_toArray, List.set_cons_zero, List.set_cons_succ]
              refine wpAnyH_ready (rs := [6]) (by kernel_rfl) (by simp) ?_
              refine AllReadyH.cons (by simp only [List.getElem?_toArray, List.getElem?_cons_succ, List.getElem?_cons_zero]; rfl) (fun K hK => ?_) AllReadyH.nil
              go_simp
              go_at_call 15
              refine (OF.out _ hHeld.1).mono ?_
              rintro e w6 ⟨a6, c6, rfl, o6, k6⟩
              go_wp2_with fail
              refine hK.out _ _ (⟨bstep hHeld.1 k6, Bag.Lies.below hHeld.2.1 k6, Dots.keepC hHeld.2.2.1 k6, Dots.keepC hHeld.2.2.2.1 k6, Dots.keepC hHeld.2.2.2.2 k6⟩) (fun hHeld => ?_)
              clear hK K
              try simp only [Act.put, List.setIfInBounds_toArray, List.set_cons_zero, List.set_cons_succ]
              refine wpAnyH_ready (rs := [8]) (by kernel_rfl) (by simp) ?_
              refine AllReadyH.cons (by simp only [List.getElem?_toArray, List.getElem?_cons_succ, List.getElem?_cons_zero]; rfl) (fun K hK => ?_) AllReadyH.nil
              go_simp
              go_at_call 29
              refine (IN.out _ _ _ o6).mono ?_
              rintro e w8 ⟨rfl, k8⟩
              go_wp2_with fail
              refine hK.out _ _ (⟨bstep hHeld.1 k8, Bag.Lies.below hHeld.2.1 k8, Dots.keepC hHeld.2.2.1 k8, Dots.keepC hHeld.2.2.2.1 k8, Dots.keepC hHeld.2.2.2.2 k8⟩) (fun hHeld => ?_)
              clear hK K
              try simp only [Act.put, List.setIfInBounds_toArray, List.set_cons_zero, List.set_cons_succ]
              refine wpAnyH_take (i := 9) (v := ?_) (by simp only [List.getElem?_toArray, List.getElem?_cons_succ, List.getElem?_cons_zero]; rfl) (by kernel_rfl) (by kernel_rfl) (by kernel_rfl) (fun _ _ _ h => h) (Or.inl ⟨by rfl, ?_⟩) (by assumption) ?_
              rotate_left
              · (intro w hSw; (try dsimp only at hSw); go_simp; try with_reducible rfl)
              try simp only [Act.put, List.setIfInBounds_toArray, List.set_cons_zero, List.set_cons_succ]
              refine wpAnyH_take (i := 10) (v := ?_) (by simp only [List.getElem?_toArray, List.getElem?_cons_succ, List.getElem?_cons_zero]; rfl) (by kernel_rfl) (by kernel_rfl) (by kernel_rfl) (fun _ _ _ h => h) (Or.inl ⟨by rfl, ?_⟩) (by assumption) ?_
              rotate_left
              · (intro w hSw; (try dsimp only at hSw); go_simp; try with_reducible rfl)
              try simp only [Act.put, List.setIfInBounds_toArray, List.set_cons_zero, List.set_cons_succ]
              refine wpAnyH_take (i := 11) (v := ?_) (by simp only [List.getElem?_toArray, List.getElem?_cons_succ, List.getElem?_cons_zero]; rfl) (by kernel_rfl) (by kernel_rfl) (by kernel_rfl) (fun _ _ _ h => h) (Or.inl ⟨by rfl, ?_⟩) (by assumption) ?_
              rotate_left
              · (intro w hSw; (try dsimp only at hSw); go_simp; try with_reducible rfl)
              try simp only [Act.put, List.setIfInBounds_toArray, List.set_cons_zero, List.set_cons_succ]
              refine wpAnyH_ready (rs := [12]) (by kernel_rfl) (by simp) ?_
              refine AllReadyH.cons (by simp only [List.getElem?_toArray, List.getElem?_cons_succ, List.getElem?_cons_zero]; rfl) (fun K hK => ?_) AllReadyH.nil
              go_simp
              go_at_call 30
              refine (HS.out _ hHeld.1).mono ?_
              rintro e w9 ⟨rfl, k9⟩
              go_wp2_with fail
              refine hK.out _ _ (⟨bstep hHeld.1 k9, Bag.Lies.below hHeld.2.1 k9, Dots.keepC hHeld.2.2.1 k9, Dots.keepC hHeld.2.2.2.1 k9, Dots.keepC hHeld.2.2.2.2 k9⟩) (fun hHeld => ?_)
              clear hK K
              try simp only [Act.put, List.setIfInBounds_toArray, List.set_cons_zero, List.set_cons_succ]
              refine wpAnyH_take (i := 13) (v := ?_) (by simp only [List.getElem?_toArray, List.getElem?_cons_succ, List.getElem?_cons_zero]; rfl) (by kernel_rfl) (by kernel_rfl) (by kernel_rfl) (fun _ _ _ h => h) (Or.inl ⟨by rfl, ?_⟩) (by assumption) ?_
              rotate_left
              · (intro w hSw; (try dsimp only at hSw); go_simp; try with_reducible rfl)
              try simp only [Act.put, List.setIfInBounds_toArray, List.set_cons_zero, List.set_cons_succ]
              refine wpAnyH_take (i := 14) (v := ?_) (by simp only [List.getElem?_toArray, List.getElem?_cons_succ, List.getElem?_cons_zero]; rfl) (by kernel_rfl) (by kernel_rfl) (by kernel_rfl) (fun _ _ _ h => h) (Or.inl ⟨by rfl, ?_⟩) (by assumption) ?_
              rotate_left
              · (intro w hSw; (try dsimp only at hSw); go_simp; try with_reducible rfl)
              try simp only [Act.put, List.setIfInBounds_toArray, List.set_cons_zero, List.set_cons_succ]
              refine wpAnyH_done (by kernel_rfl) ?_ _
              refine NoPanic.normal ?_
              obtain ⟨hb5, HL5, c5, f5, f6⟩ := hHeld
              replace HL5 := Lib.hid HL5
              clear c0 f0 f1 hbd HLD
              clear o6 k6 k8 k9
              go_wp2_with fail
              have HY := Lib.hid (HYES.out (.inr HZ.out))
              refine wp_region_noPanic ?_
              refine wp_region_held_drew (S := (fun w' => Below w.heap.size w w' ∧ Bag.Lies w' ka K.length K ∧ w'.cell? ⟨b, o + i * 2, none⟩ = some (.string ⟨t.toArray⟩) ∧ w'.cell? ⟨db, 0, none⟩ = some (.string ⟨p.toArray⟩) ∧ w'.cell? ⟨db, 1, none⟩ = some (.int .u64 (q : Int)))) (by kernel_rfl) (⟨Below.drew hb5, HL5.out.below (Below.drew (Below.refl _ _)), Dots.keepC c5 (Below.drew (Below.refl _ _)), Dots.keepC f5 (Below.drew (Below.refl _ _)), Dots.keepC f6 (Below.drew (Below.refl _ _))⟩) (fun hHeld => ?_)
              refine wpAnyH_take (i := 0) (v := ?_) (by simp only [List.getElem?_toArray, List.getElem?_cons_zero]; rfl) (by kernel_rfl) (by kernel_rfl) (by kernel_rfl) (fun _ _ _ h => h) (Or.inl ⟨by rfl, ?_⟩) (by assumption) ?_
              rotate_left
              · (intro w hSw; (try dsimp only at hSw); go_simp; try with_reducible rfl)
              try simp only [Act.put, List.setIfInBounds_toArray, List.set_cons_zero, List.set_cons_succ]
              refine wpAnyH_take (i := 1) (v := ?_) (by simp only [List.getElem?_toArray, List.getElem?_cons_succ, List.getElem?_cons_zero]; rfl) (by kernel_rfl) (by kernel_rfl) (by kernel_rfl) (fun _ _ _ h => h) (Or.inl ⟨by rfl, ?_⟩) (by assumption) ?_
              rotate_left
              · (intro w hSw; (try dsimp only at hSw); go_simp; try with_reducible rfl)
              try simp only [Act.put, List.setIfInBounds_toArray, List.set_cons_zero, List.set_cons_succ]
              refine wpAnyH_take (i := 2) (v := ?_) (by simp only [List.getElem?_toArray, List.getElem?_cons_succ, List.getElem?_cons_zero]; rfl) (by kernel_rfl) (by kernel_rfl) (by kernel_rfl) (fun _ _ _ h => h) (Or.inl ⟨by rfl, ?_⟩) (by assumption) ?_
              rotate_left
              · (intro w hSw; (try dsimp only at hSw); go_simp; try with_reducible rfl)
              try simp only [Act.put, List.setIfInBounds_toArray, List.set_cons_zero, List.set_cons_succ]
              refine wpAnyH_take (i := 3) (v := ?_) (by simp only [List.getElem?_toArray, List.getElem?_cons_succ, List.getElem?_cons_zero]; rfl) (by kernel_rfl) (by kernel_rfl) (by kernel_rfl) (fun _ _ _ h => h) (Or.inl ⟨by rfl, ?_⟩) (by assumption) ?_
              rotate_left
              · (intro w hSw; (try dsimp only at hSw); go_simp; try with_reducible rfl)
              try simp only [Act.put, List.setIfInBounds_toArray, List.set_cons_zero, List.set_cons_succ]
              refine wpAnyH_take (i := 4) (v := ?_) (by simp only [List.getElem?_toArray, List.getElem?_cons_succ, List.getElem?_cons_zero]; rfl) (by kernel_rfl) (by kernel_rfl) (by kernel_rfl) (fun _ _ _ h => h) (Or.inl ⟨by rfl, ?_⟩) (by assumption) ?_
              rotate_left
              · (intro w hSw; (try dsimp only at hSw); go_simp; try with_reducible rfl)
              try simp only [Act.put, List.setIfInBounds_toArray, List.set_cons_zero, List.set_cons_succ]
              refine wpAnyH_take (i := 5) (v := ?_) (by simp only [List.getElem?_toArray, List.getElem?_cons_succ, List.getElem?_cons_zero]; rfl) (by kernel_rfl) (by kernel_rfl) (by kernel_rfl) (fun _ _ _ h => h) (Or.inl ⟨by rfl, ?_⟩) (by assumption) ?_
              rotate_left
              · (intro w hSw; (try dsimp only at hSw); go_simp; try with_reducible rfl)
              try simp only [Act.put, List.setIfInBounds_toArray, List.set_cons_zero, List.set_cons_succ]
              refine wpAnyH_take (i := 6) (v := ?_) (by simp only [List.getElem?_toArray, List.getElem?_cons_succ, List.getElem?_cons_zero]; rfl) (by kernel_rfl) (by kernel_rfl) (by kernel_rfl) (fun _ _ _ h => h) (Or.inl ⟨by rfl, ?_⟩) (by assumption) ?_
              rotate_left
              · (intro w hSw; (try dsimp only at hSw); go_simp; try with_reducible rfl)
              try simp only [Act.put, List.setIfInBounds_toArray, List.set_cons_zero, List.set_cons_succ]
              refine wpAnyH_ready (rs := [7]) (by kernel_rfl) (by simp) ?_
              refine AllReadyH.cons (by simp only [List.getElem?_toArray, List.getElem?_cons_succ, List.getElem?_cons_zero]; rfl) (fun K hK => ?_) AllReadyH.nil
              go_simp
              go_at_call 31
              refine (INS.out _ hHeld.2.1 HFEW.out).mono ?_
              rintro e w7 ⟨a7, c7, rfl, l7, k7⟩
              have hb7 := bstep hHeld.1 k7
              have HL7 := Lib.hid l7
              go_wp2_with fail
              refine hK.out _ _ (⟨hb7, Bag.Lies.below hHeld.2.1 k7, Dots.keepC hHeld.2.2.1 k7, Dots.keepC hHeld.2.2.2.1 k7, Dots.keepC hHeld.2.2.2.2 k7⟩) (fun hHeld => ?_)
              clear hK K
              try simp only [Act.put, List.setIfInBounds_toArray, List.set_cons_zero, List.set_cons_succ]
              refine wpAnyH_take (i := 8) (v := ?_) (by simp only [List.getElem?_toArray, List.getElem?_cons_succ, List.getElem?_cons_zero]; rfl) (by kernel_rfl) (by kernel_rfl) (by kernel_rfl) (fun _ _ _ h => h) (Or.inl ⟨by rfl, ?_⟩) (by assumption) ?_
              rotate_left
              · (intro w hSw; (try dsimp only at hSw); go_simp; try with_reducible rfl)
              try simp only [Act.put, List.setIfInBounds_toArray, List.set_cons_zero, List.set_cons_succ]
              refine wpAnyH_done (by kernel_rfl) ?_ _
              refine NoPanic.normal ?_
              clear hHeld
              have hjw : wrap64 ((k : Int) + 1) = ((k + 1 : Nat) : Int) := by have := HK.out; have := HNL.out; unfold wrap64; omega
              clear l7 k7
              go_wp2
              go_roundw
              case rel => exact ⟨k + 1, a7, c7, _, by have := HK.out; omega, by rw [hjw], rfl, HY, HL7, hb7⟩
              case measure => rw [hjw]; have := HK.out; simp only [intOf]; omega
            | true =>
              rw [hz] at HS
              have HZ := Lib.hid hz
              clear hz
              go_wp2_with fail
              refine wp_region_noPanic ?_
              refine wp_region_held_drew (S := (fun w' => Below w.heap.size w w' ∧ Bag.Lies w' ka K.length K ∧ w'.cell? ⟨b, o + i * 2, none⟩ = some (.string ⟨t.toArray⟩) ∧ w'.cell? ⟨db, 0, none⟩ = some (.string ⟨p.toArray⟩) ∧ w'.cell? ⟨db, 1, none⟩ = some (.int .u64 (q : Int)))) (by kernel_rfl) (⟨Below.drew hbd, HLD.out.below (Below.drew (Below.refl _ _)), Dots.keepC c0 (Below.drew (Below.refl _ _)), Dots.keepC f0 (Below.drew (Below.refl _ _)), Dots.keepC f1 (Below.drew (Below.refl _ _))⟩) (fun hHeld => ?_)
              refine wpAnyH_take (i := 0) (v := ?_) (by simp only [List.getElem?_toArray, List.getElem?_cons_zero]; rfl) (by kernel_rfl) (by kernel_rfl) (by kernel_rfl) (fun _ _ _ h => h) (Or.inl ⟨by rfl, ?_⟩) (by assumption) ?_
              rotate_left
              · (intro w hSw; (try dsimp only at hSw); go_simp; try with_reducible rfl)
              try simp only [Act.put, List.setIfInBounds_toArray, List.set_cons_zero, List.set_cons_succ]
              refine wpAnyH_take (i := 1) (v := ?_) (by simp only [List.getElem?_toArray, List.getElem?_cons_succ, List.getElem?_cons_zero]; rfl) (by kernel_rfl) (by kernel_rfl) (by kernel_rfl) (fun _ _ _ h => h) (Or.inl ⟨by rfl, ?_⟩) (by assumption) ?_
              rotate_left
              · (intro w hSw; (try dsimp only at hSw); go_simp; try with_reducible rfl)
              try simp only [Act.put, List.setIfInBounds_toArray, List.set_cons_zero, List.set_cons_succ]
              refine wpAnyH_take (i := 2) (v := ?_) (by simp only [List.getElem?_toArray, List.getElem?_cons_succ, List.getElem?_cons_zero]; rfl) (by kernel_rfl) (by kernel_rfl) (by kernel_rfl) (fun _ _ _ h => h) (Or.inl ⟨by rfl, ?_⟩) (by assumption) ?_
              rotate_left
              · (intro w hSw; (try dsimp only at hSw); go_simp; try with_reducible rfl)
              try simp only [Act.put, List.setIfInBounds_toArray, List.set_cons_zero, List.set_cons_succ]
              refine wpAnyH_take (i := 3) (v := ?_) (by simp only [List.getElem?_toArray, List.getElem?_cons_succ, List.getElem?_cons_zero]; rfl) (by kernel_rfl) (by kernel_rfl) (by kernel_rfl) (fun _ _ _ h => h) (Or.inl ⟨by rfl, ?_⟩) (by assumption) ?_
              rotate_left
              · (intro w hSw; (try dsimp only at hSw); go_simp; try with_reducible rfl)
              try simp only [Act.put, List.setIfInBounds_toArray, List.set_cons_zero, List.set_cons_succ]
              refine wpAnyH_take (i := 4) (v := ?_) (by simp only [List.getElem?_toArray, List.getElem?_cons_succ, List.getElem?_cons_zero]; rfl) (by kernel_rfl) (by kernel_rfl) (by kernel_rfl) (fun _ _ _ h => h) (Or.inl ⟨by rfl, ?_⟩) (by assumption) ?_
              rotate_left
              · (intro w hSw; (try dsimp only at hSw); go_simp; try with_reducible rfl)
              try simp only [Act.put, List.setIfInBounds_toArray, List.set_cons_zero, List.set_cons_succ]
              refine wpAnyH_take (i := 5) (v := ?_) (by simp only [List.getElem?_toArray, List.getElem?_cons_succ, List.getElem?_cons_zero]; rfl) (by kernel_rfl) (by kernel_rfl) (by kernel_rfl) (fun _ _ _ h => h) (Or.inl ⟨by rfl, ?_⟩) (by assumption) ?_
              rotate_left
              · (intro w hSw; (try dsimp only at hSw); go_simp; try with_reducible rfl)
              try simp only [Act.put, List.setIfInBounds_toArray, List.set_cons_zero, List.set_cons_succ]
              refine wpAnyH_take (i := 7) (v := ?_) (by simp only [List.getElem?_toArray, List.getElem?_cons_succ, List.getElem?_cons_zero]; rfl) (by kernel_rfl) (by kernel_rfl) (by kernel_rfl) (fun _ _ _ h => h) (Or.inl ⟨by rfl, ?_⟩) (by assumption) ?_
              rotate_left
              · (intro w hSw; (try dsimp only at hSw); go_simp; try with_reducible rfl)
              try simp only [Act.put, List.setIfInBounds_toArray, List.set_cons_zero, List.set_cons_succ]
              refine wpAnyH_ready (rs := [6]) (by kernel_rfl) (by simp) ?_
              refine AllReadyH.cons (by simp only [List.getElem?_toArray, List.getElem?_cons_succ, List.getElem?_cons_zero]; rfl) (fun K hK => ?_) AllReadyH.nil
              go_simp
              go_at_call 15
              refine (OF.out _ hHeld.1).mono ?_
              rintro e w6 ⟨a6, c6, rfl, o6, k6⟩
              go_wp2_with fail
              refine hK.out _ _ (⟨bstep hHeld.1 k6, Bag.Lies.below hHeld.2.1 k6, Dots.keepC hHeld.2.2.1 k6, Dots.keepC hHeld.2.2.2.1 k6, Dots.keepC hHeld.2.2.2.2 k6⟩) (fun hHeld => ?_)
              clear hK K
              try simp only [Act.put, List.setIfInBounds_toArray, List.set_cons_zero, List.set_cons_succ]
              refine wpAnyH_ready (rs := [8]) (by kernel_rfl) (by simp) ?_
              refine AllReadyH.cons (by simp only [List.getElem?_toArray, List.getElem?_cons_succ, List.getElem?_cons_zero]; rfl) (fun K hK => ?_) AllReadyH.nil
              go_simp
              go_at_call 29
              refine (IN.out _ _ _ o6).mono ?_
              rintro e w8 ⟨rfl, k8⟩
              go_wp2_with fail
              refine hK.out _ _ (⟨bstep hHeld.1 k8, Bag.Lies.below hHeld.2.1 k8, Dots.keepC hHeld.2.2.1 k8, Dots.keepC hHeld.2.2.2.1 k8, Dots.keepC hHeld.2.2.2.2 k8⟩) (fun hHeld => ?_)
              clear hK K
              try simp only [Act.put, List.setIfInBounds_toArray, List.set_cons_zero, List.set_cons_succ]
              refine wpAnyH_take (i := 9) (v := ?_) (by simp only [List.getElem?_toArray, List.getElem?_cons_succ, List.getElem?_cons_zero]; rfl) (by kernel_rfl) (by kernel_rfl) (by kernel_rfl) (fun _ _ _ h => h) (Or.inl ⟨by rfl, ?_⟩) (by assumption) ?_
              rotate_left
              · (intro w hSw; (try dsimp only at hSw); go_simp; try with_reducible rfl)
              try simp only [Act.put, List.setIfInBounds_toArray, List.set_cons_zero, List.set_cons_succ]
              refine wpAnyH_take (i := 10) (v := ?_) (by simp only [List.getElem?_toArray, List.getElem?_cons_succ, List.getElem?_cons_zero]; rfl) (by kernel_rfl) (by kernel_rfl) (by kernel_rfl) (fun _ _ _ h => h) (Or.inl ⟨by rfl, ?_⟩) (by assumption) ?_
              rotate_left
              · (intro w hSw; (try dsimp only at hSw); go_simp; try with_reducible rfl)
              try simp only [Act.put, List.setIfInBounds_toArray, List.set_cons_zero, List.set_cons_succ]
              refine wpAnyH_take (i := 11) (v := ?_) (by simp only [List.getElem?_toArray, List.getElem?_cons_succ, List.getElem?_cons_zero]; rfl) (by kernel_rfl) (by kernel_rfl) (by kernel_rfl) (fun _ _ _ h => h) (Or.inl ⟨by rfl, ?_⟩) (by assumption) ?_
              rotate_left
              · (intro w hSw; (try dsimp only at hSw); go_simp; try with_reducible rfl)
              try simp only [Act.put, List.setIfInBounds_toArray, List.set_cons_zero, List.set_cons_succ]
              refine wpAnyH_ready (rs := [12]) (by kernel_rfl) (by simp) ?_
              refine AllReadyH.cons (by simp only [List.getElem?_toArray, List.getElem?_cons_succ, List.getElem?_cons_zero]; rfl) (fun K hK => ?_) AllReadyH.nil
              go_simp
              go_at_call 30
              refine (HS.out _ hHeld.1).mono ?_
              rintro e w9 ⟨rfl, k9⟩
              go_wp2_with fail
              refine hK.out _ _ (⟨bstep hHeld.1 k9, Bag.Lies.below hHeld.2.1 k9, Dots.keepC hHeld.2.2.1 k9, Dots.keepC hHeld.2.2.2.1 k9, Dots.keepC hHeld.2.2.2.2 k9⟩) (fun hHeld => ?_)
              clear hK K
              try simp only [Act.put, List.setIfInBounds_toArray, List.set_cons_zero, List.set_cons_succ]
              refine wpAnyH_take (i := 13) (v := ?_) (by simp only [List.getElem?_toArray, List.getElem?_cons_succ, List.getElem?_cons_zero]; rfl) (by kernel_rfl) (by kernel_rfl) (by kernel_rfl) (fun _ _ _ h => h) (Or.inl ⟨by rfl, ?_⟩) (by assumption) ?_
              rotate_left
              · (intro w hSw; (try dsimp only at hSw); go_simp; try with_reducible rfl)
              try simp only [Act.put, List.setIfInBounds_toArray, List.set_cons_zero, List.set_cons_succ]
              refine wpAnyH_take (i := 14) (v := ?_) (by simp only [List.getElem?_toArray, List.getElem?_cons_succ, List.getElem?_cons_zero]; rfl) (by kernel_rfl) (by kernel_rfl) (by kernel_rfl) (fun _ _ _ h => h) (Or.inl ⟨by rfl, ?_⟩) (by assumption) ?_
              rotate_left
              · (intro w hSw; (try dsimp only at hSw); go_simp; try with_reducible rfl)
              try simp only [Act.put, List.setIfInBounds_toArray, List.set_cons_zero, List.set_cons_succ]
              refine wpAnyH_done (by kernel_rfl) ?_ _
              refine NoPanic.normal ?_
              obtain ⟨hb5, HL5, c5, f5, f6⟩ := hHeld
              replace HL5 := Lib.hid HL5
              clear c0 f0 f1 hbd HLD
              clear o6 k6 k8 k9
              have HY := Lib.hid (HNO.out (fun e => by
                rcases e with e | e
                · exact HM2.out e
                · rw [HZ.out] at e; cases e))
              have hjw : wrap64 ((k : Int) + 1) = ((k + 1 : Nat) : Int) := by have := HK.out; have := HNL.out; unfold wrap64; omega
              go_wp2
              go_roundw
              case rel => exact ⟨k + 1, ka, kc, K, by have := HK.out; omega, by rw [hjw], rfl, HY, HL5, hb5⟩
              case measure => rw [hjw]; have := HK.out; simp only [intOf]; omega
end RefBag
end Go.Proofs.Ytnlbgjghckbbcaa
