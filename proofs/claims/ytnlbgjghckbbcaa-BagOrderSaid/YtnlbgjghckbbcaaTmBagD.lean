/- Merged texts: BagTake, BagMerge, BagPut, BagTurn, BagTexts, BagFew. -/
import Derived.Test.YtnlbgjghckbbcaaTmBagC
import Derived.Test.YtnlbgjghckbbcaaTmBase
import Derived.Test.YtnlbgjghckbbcaaTmMaps
import Derived.Sort.Walk0
namespace Go.Proofs.Ytnlbgjghckbbcaa
namespace Bag
open Go.RowKit Go.Maps Go.Proofs.Ytnlbgjghckbbcaa.Mark Go.Proofs.Ytnlbgjghckbbcaa.Dots
/-- What a call hands back: a bag, in memory. -/
def Got (S : List UInt8 → M → Prop) (k : Nat) (w : World) (e : Ending) (w' : World) : Prop := ∃ a c R, e = .returned (.slice a R.length c) ∧ IsBag R S ∧ R.length ≤ k ∧ Had w' w.heap.size a R.length c R ∧ Below w.heap.size w w'
/-- The closures that ask for another text. -/
theorem other_walk (g : Nat) (text : List UInt8) (B : Nat) (w : World) (hc : w.cell? ⟨B, 0, none⟩ = some (.string ⟨text.toArray⟩))
    (hg : ∀ (W : World) (t p : List UInt8) (n : Nat), W.cell? ⟨B, 0, none⟩ = some (.string ⟨text.toArray⟩) → Calls Try.prog g #[.agg #[.string ⟨t.toArray⟩, .string ⟨p.toArray⟩, .int .u64 (n : Int)], .pointer (some ⟨B, 0, none⟩)] W fun e w' => e = .returned (.bool (decide (t ≠ text))) ∧ Below W.heap.size W w') :
    PPred g #[.pointer (some ⟨B, 0, none⟩)] (fun x => decide (x.t ≠ text)) w.heap.size w := fun W x hW _ =>
  hg W x.t x.m.p x.m.n ((hW.cell (p := ⟨B, 0, none⟩) (World.block_lt_of_cell? _ _ hc)).trans hc)
set_option maxRecDepth 100000 in
theorem take1_any (W : World) (text t p : List UInt8) (n B : Nat) (hc : W.cell? ⟨B, 0, none⟩ = some (.string ⟨text.toArray⟩)) :
    Calls Try.prog 34 #[.agg #[.string ⟨t.toArray⟩, .string ⟨p.toArray⟩, .int .u64 (n : Int)], .pointer (some ⟨B, 0, none⟩)] W fun e w' => e = .returned (.bool (decide (t ≠ text))) ∧ Below W.heap.size W w' := by
  have h0 := Below.refl W.heap.size W
  have hb := World.block_lt_of_cell? _ _ hc
  have hc2 : ∀ o, (W.alloc o).cell? ⟨B, 0, none⟩ = some (.string ⟨text.toArray⟩) := fun o => Lib.cell?_alloc_some o hc
  clear hc
  obtain ⟨z, hz⟩ : ∃ z, z = decide (t ≠ text) := ⟨_, rfl⟩
  rw [← hz]
  by_cases h1 : t = text
  · have q1 : (t != text) = false := by simp [h1]
    have q2 : (t == text) = true := by simp [h1]
    obtain rfl : z = false := by rw [hz]; simp [h1]
    clear h1 hz
    go_enter Try.func34, Try.ntmps34
    go_wp2
    go_ret
    exact ⟨rfl, balloc h0 _⟩
  · have q1 : (t != text) = true := by simpa using h1
    have q2 : (t == text) = false := by simpa using h1
    obtain rfl : z = true := by rw [hz]; simp [h1]
    clear h1 hz
    go_enter Try.func34, Try.ntmps34
    go_wp2
    go_ret
    exact ⟨rfl, balloc h0 _⟩
set_option maxRecDepth 100000 in
theorem put1_any (W : World) (text t p : List UInt8) (n B : Nat) (hc : W.cell? ⟨B, 0, none⟩ = some (.string ⟨text.toArray⟩)) :
    Calls Try.prog 33 #[.agg #[.string ⟨t.toArray⟩, .string ⟨p.toArray⟩, .int .u64 (n : Int)], .pointer (some ⟨B, 0, none⟩)] W fun e w' => e = .returned (.bool (decide (t ≠ text))) ∧ Below W.heap.size W w' := by
  have h0 := Below.refl W.heap.size W
  have hb := World.block_lt_of_cell? _ _ hc
  have hc2 : ∀ o, (W.alloc o).cell? ⟨B, 0, none⟩ = some (.string ⟨text.toArray⟩) := fun o => Lib.cell?_alloc_some o hc
  clear hc
  obtain ⟨z, hz⟩ : ∃ z, z = decide (t ≠ text) := ⟨_, rfl⟩
  rw [← hz]
  by_cases h1 : t = text
  · have q1 : (t != text) = false := by simp [h1]
    have q2 : (t == text) = true := by simp [h1]
    obtain rfl : z = false := by rw [hz]; simp [h1]
    clear h1 hz
    go_enter Try.func33, Try.ntmps33
    go_wp2
    go_ret
    exact ⟨rfl, balloc h0 _⟩
  · have q1 : (t != text) = true := by simpa using h1
    have q2 : (t == text) = false := by simpa using h1
    obtain rfl : z = true := by rw [hz]; simp [h1]
    clear h1 hz
    go_enter Try.func33, Try.ntmps33
    go_wp2
    go_ret
    exact ⟨rfl, balloc h0 _⟩
set_option maxRecDepth 100000 in
theorem take_any (L : List It) (text : List UInt8) (a : Option Addr) (n c : Nat) (w : World) (hL : Lies w a n L) (hf : Fine L) :
    Calls Try.prog 14 #[.slice a n c, .string ⟨text.toArray⟩] w (Got (fun t m => Has L t m ∧ t ≠ text) (pls L).length w) := by
  have hmf : ∀ (fn : Fn) (first cap : Array Value) (w : World), (Instr.makeFunc fn first cap).run Try.prog w = .ok (.func fn first cap) w := fun _ _ _ _ => rfl
  have hb1 := balloc (Below.refl w.heap.size w) (.cells #[.string ⟨text.toArray⟩] 9)
  have OF := Lib.hid (of_any L a n c _ (hL.below hb1) hf)
  have hc : (w.alloc (.cells #[.string ⟨text.toArray⟩] 9)).cell? ⟨w.heap.size, 0, none⟩ = some (.string ⟨text.toArray⟩) := by rw [World.cell?_alloc_new]; rfl
  have HF := Lib.hid hf
  clear hL hf
  go_enter Try.func14, Try.ntmps14
  go_upto_region 1 with (fail)
  obtain ⟨tb, htb⟩ : ∃ b, b = w.heap.size := ⟨_, rfl⟩
  obtain ⟨w1, hw1⟩ : ∃ v, v = w.alloc (.cells #[.string ⟨text.toArray⟩] 9) := ⟨_, rfl⟩
  rw [← hw1] at hb1 OF hc ⊢
  rw [← htb] at hc ⊢
  clear hw1 htb
  go_wp2_with fail
  refine OF.out.mono ?_
  rintro e w2 ⟨mb, rfl, hP, -, k2⟩
  have hb2 := bstep hb1 k2
  have TH := Lib.hid (that_any 34 #[.pointer (some ⟨tb, 0, none⟩)] _ (enters_of Try.func34 (by kernel_rfl) rfl) (pls L) mb _ w2 hP HF.out.few (other_walk _ text tb w2 (Dots.keepC hc k2) (fun W t p n h => take1_any W text t p n tb h)))
  clear hP k2 OF hc hb1
  go_wp2_with fail
  refine TH.out.mono ?_
  rintro e w3 ⟨m3, rfl, hP3, -, k3⟩
  have hb3 := bstep hb2 k3
  have IT := Lib.hid (items_any m3 _ _ w3 hP3 HF.out.few)
  clear hP3 k3 TH hb2
  go_wp2_with fail
  refine IT.out.mono ?_
  rintro e w4 ⟨a4, c4, R, rfl, hB, hl, hL4, k4⟩
  have HB := Lib.hid hB
  have H4 := Lib.hid hL4
  have HL := Lib.hid hl
  clear hB hL4 hl
  go_wp2
  go_ret
  refine ⟨a4, c4, R, rfl, HB.out.congr (fun t m => ?_), HL.out, H4.out.base hb3.size, bstep hb3 k4⟩
  rw [List.mem_filter, mem_pls]
  simp
end Bag
end Go.Proofs.Ytnlbgjghckbbcaa

namespace Go.Proofs.Ytnlbgjghckbbcaa
namespace Bag
open Go.RowKit Go.Maps Go.Proofs.Ytnlbgjghckbbcaa.Mark Go.Proofs.Ytnlbgjghckbbcaa.Dots
/-- What is in both, and what the other side has not seen. -/
def Joined (A B : List It) (f h : M → Bool) (t : List UInt8) (m : M) : Prop := (Has A t m ∧ (Has B t m ∨ h m = false)) ∨ (Has B t m ∧ (Has A t m ∨ f m = false))
theorem joined_iff (A B : List It) (f h : M → Bool) (t : List UInt8) (m : M) :
    (⟨t, m⟩ : Pl) ∈ (pls A).filter (fun x => decide (x ∈ pls B) || !(h x.m)) ++ (pls B).filter (fun x => decide (x ∈ pls A) || !(f x.m)) ↔ Joined A B f h t m := by
  rw [List.mem_append, List.mem_filter, List.mem_filter]
  unfold Joined
  simp only [mem_pls, Bool.or_eq_true, decide_eq_true_eq, Bool.not_eq_true']
theorem DPred.later {g : Nat} {lb : Array Value} {f : M → Bool} {B : Nat} {w w' : World} (h : DPred g lb f B w) (k : Below B w w') : DPred g lb f B w' := fun W x hW hx => h W x (k.trans hW) hx
set_option maxRecDepth 100000 in
set_option maxHeartbeats 1000000 in
theorem join_any (A B : List It) (S O : List M) (aa ab sa oa : Option Addr) (na nb ns no ca cb cs co : Nat) (w : World) (hA : Lies w aa na A) (hB : Lies w ab nb B) (hS : Mark.Lies w sa ns S) (hO : Mark.Lies w oa no O)
    (fA : Fine A) (fB : Fine B) (hns : ns ≤ 549755813888) (hno : no ≤ 549755813888) (kS : Ok S) (kO : Ok O) (hfew : (pls A).length + (pls B).length ≤ 1099511627776) :
    Calls Try.prog 10 #[.slice aa na ca, .slice sa ns cs, .slice ab nb cb, .slice oa no co] w (Got (Joined A B (fun m => hasL S m.p m.n) (fun m => hasL O m.p m.n)) ((pls A).length + (pls B).length) w) := by
  have OA := Lib.hid (of_any A aa na ca w hA fA)
  have OB := Lib.hid (fun W (k : Below w.heap.size w W) => of_any B ab nb cb W (hB.below k) fB)
  have HS := Lib.hid (fun W (k : Below w.heap.size w W) => knows_any S sa ns cs W (hS.below k) hns)
  have HO := Lib.hid (fun W (k : Below w.heap.size w W) => knows_any O oa no co W (hO.below k) hno)
  have FA := Lib.hid fA
  have FB := Lib.hid fB
  have KS := Lib.hid kS
  have KO := Lib.hid kO
  have HF := Lib.hid hfew
  clear hA hB hS hO fA fB hns hno kS kO hfew
  go_enter Try.func10, Try.ntmps10
  go_wp2_with fail
  refine OA.out.mono ?_
  rintro e w1 ⟨ma, rfl, hPA, hma, k1⟩
  have hb1 := k1
  have PA := Lib.hid hPA
  have OB1 := Lib.hid (OB.out w1 hb1)
  clear hPA k1 OA OB
  go_wp2_with fail
  refine OB1.out.mono ?_
  rintro e w2 ⟨mb, rfl, hPB, hmb, k2⟩
  have hb2 := bstep hb1 k2
  have PB := Lib.hid hPB
  replace PA := Lib.hid (KMap.Is.below PA.out k2)
  have K1 := Lib.hid (HO.out w2 hb2)
  clear hPB k2 OB1 HO
  go_wp2_with fail
  refine K1.out.mono ?_
  rintro e w3 ⟨D, rfl, hD, hK, k3⟩
  have hb3 := bstep hb2 k3
  replace PA := Lib.hid (KMap.Is.below PA.out k3)
  replace PB := Lib.hid (KMap.Is.below PB.out k3)
  have DP := Lib.hid (knows_pred D O w3 hK KO.out)
  clear hK k3 K1 KO
  go_wp2_with fail
  refine (stays_make mb _ _ w3).mono ?_
  rintro e w4 ⟨rfl, hw4⟩
  have k4 : Below w3.heap.size w3 w4 := by rw [hw4]; exact balloc (balloc (Below.refl _ _) _) _
  have c1 : w4.cell? ⟨w3.heap.size, 0, none⟩ = some (.map (some mb)) := by rw [hw4]; exact Lib.cell?_alloc_some _ (by rw [World.cell?_alloc_new]; rfl)
  have c2 : w4.cell? ⟨w3.heap.size + 1, 0, none⟩ = some (.func (.func 40) #[] #[.pointer (some ⟨D, 0, none⟩)]) := by
    rw [hw4, show w3.heap.size + 1 = (w3.alloc (.cells #[.map (some mb)] 64)).heap.size from (World.size_alloc _ _).symm, World.cell?_alloc_new]; rfl
  have hb4 := bstep hb3 k4
  replace PA := Lib.hid (KMap.Is.below PA.out k4)
  replace PB := Lib.hid (KMap.Is.below PB.out k4)
  have SP := stays_pred (pls B) mb _ (fun m => hasL O m.p m.n) _ _ (enters_of Try.func40 (by kernel_rfl) rfl) _ _ _ w4 c1 c2 PB.out k4.size (DPred.later DP.out k4)
  have TH := Lib.hid (that_any 24 _ _ (enters_of Try.func24 (by kernel_rfl) rfl) (pls A) ma _ w4 PA.out FA.out.few SP)
  obtain ⟨B1, hB1⟩ : ∃ b, b = w3.heap.size := ⟨_, rfl⟩
  rw [← hB1] at TH ⊢
  clear c1 c2 SP DP hw4 k4 hB1 hb3
  go_wp2_with fail
  refine TH.out.mono ?_
  rintro e w5 ⟨m5, rfl, hP5, hm5, k5⟩
  have hb5 := bstep hb4 k5
  have P5 := Lib.hid hP5
  have HM5 : Hid (w.heap.size ≤ m5) := Lib.hid (Nat.le_trans hb4.size hm5)
  replace PA := Lib.hid (KMap.Is.below PA.out k5)
  replace PB := Lib.hid (KMap.Is.below PB.out k5)
  have K2 := Lib.hid (HS.out w5 hb5)
  clear hP5 k5 TH HS
  go_wp2_with fail
  refine K2.out.mono ?_
  rintro e w6 ⟨D2, rfl, hD2, hK, k6⟩
  have hb6 := bstep hb5 k6
  replace PA := Lib.hid (KMap.Is.below PA.out k6)
  replace PB := Lib.hid (KMap.Is.below PB.out k6)
  replace P5 := Lib.hid (KMap.Is.below P5.out k6)
  have DP := Lib.hid (knows_pred D2 S w6 hK KS.out)
  clear hK k6 K2 KS
  go_wp2_with fail
  refine (stays_make ma _ _ w6).mono ?_
  rintro e w7 ⟨rfl, hw7⟩
  have k7 : Below w6.heap.size w6 w7 := by rw [hw7]; exact balloc (balloc (Below.refl _ _) _) _
  have c1 : w7.cell? ⟨w6.heap.size, 0, none⟩ = some (.map (some ma)) := by rw [hw7]; exact Lib.cell?_alloc_some _ (by rw [World.cell?_alloc_new]; rfl)
  have c2 : w7.cell? ⟨w6.heap.size + 1, 0, none⟩ = some (.func (.func 40) #[] #[.pointer (some ⟨D2, 0, none⟩)]) := by
    rw [hw7, show w6.heap.size + 1 = (w6.alloc (.cells #[.map (some ma)] 64)).heap.size from (World.size_alloc _ _).symm, World.cell?_alloc_new]; rfl
  have hb7 := bstep hb6 k7
  replace PA := Lib.hid (KMap.Is.below PA.out k7)
  replace PB := Lib.hid (KMap.Is.below PB.out k7)
  replace P5 := Lib.hid (KMap.Is.below P5.out k7)
  have SP := stays_pred (pls A) ma _ (fun m => hasL S m.p m.n) _ _ (enters_of Try.func40 (by kernel_rfl) rfl) _ _ _ w7 c1 c2 PA.out k7.size (DPred.later DP.out k7)
  have TH := Lib.hid (that_any 24 _ _ (enters_of Try.func24 (by kernel_rfl) rfl) (pls B) mb _ w7 PB.out FB.out.few SP)
  obtain ⟨B2, hB2⟩ : ∃ b, b = w6.heap.size := ⟨_, rfl⟩
  rw [← hB2] at TH ⊢
  clear c1 c2 SP DP hw7 k7 hB2 hb6 hb1 hb2 hb4 hb5 PA PB
  go_wp2_with fail
  refine TH.out.mono ?_
  rintro e w8 ⟨m8, rfl, hP8, hm8, k8⟩
  have hb8 := bstep hb7 k8
  have H58 : m5 < w7.heap.size := KMap.Is.lt P5.out
  replace P5 := Lib.hid (KMap.Is.below P5.out k8)
  have CP := Lib.hid (copy_any m5 m8 _ _ _ _ w8 P5.out hP8 (by omega) FA.out.few FB.out.few)
  clear hP8 k8 TH P5 hb7
  go_wp2_with fail
  refine CP.out.mono ?_
  rintro e w9 ⟨rfl, hP9, k9⟩
  have hb9 := But.below hb8 k9 HM5.out hb8.size
  have IT := Lib.hid (items_any m5 _ _ w9 hP9 HF.out)
  clear hP9 k9 CP hb8
  go_wp2_with fail
  refine IT.out.mono ?_
  rintro e w10 ⟨a4, c4, R, rfl, hB, hl, hL4, k4⟩
  have HB := Lib.hid hB
  have H4 := Lib.hid hL4
  have HL := Lib.hid hl
  clear hB hL4 hl
  go_wp2
  go_ret
  exact ⟨a4, c4, R, rfl, HB.out.congr (fun t m => joined_iff A B (fun m => hasL S m.p m.n) (fun m => hasL O m.p m.n) t m), HL.out, H4.out.base hb9.size, bstep hb9 k4⟩
end Bag
end Go.Proofs.Ytnlbgjghckbbcaa

namespace Go.Proofs.Ytnlbgjghckbbcaa
namespace Bag
open Go.RowKit Go.Maps Go.Proofs.Ytnlbgjghckbbcaa.Mark Go.Proofs.Ytnlbgjghckbbcaa.Dots
theorem tl_lt {a b : List UInt8} (h : TL a b) : a < b := by
  have h1 : Op.bytesLess a b = true := by
    cases h0 : Op.bytesLess a b with
    | true => rfl
    | false =>
      exfalso
      by_cases e : a = b
      · subst e; exact linT.irr _ h
      · have := Order.cmp_more a b e h0
        unfold TL at h
        omega
  rw [Go.Proofs.bytesLess_eq] at h1
  exact of_decide_eq_true h1
theorem zero_int {w : World} : (zeroValue 3).run Try.prog w = .ok (.int .i64 0) w := by kernel_rfl
/-- What a put hands back. -/
def PutIs (L : List It) (text : List UInt8) (p : M) (R : List It) (w : World) (e : Ending) (w' : World) : Prop := Below w.heap.size w w' ∧
  ((4096 < text.length ∧ e = .returned (.tuple #[.slice none 0 0, .int .i64 4])) ∨ (text.length ≤ 4096 ∧ 256 ≤ R.length ∧ e = .returned (.tuple #[.slice none 0 0, .int .i64 6])) ∨
    (text.length ≤ 4096 ∧ R.length < 256 ∧ ∃ a c Q, e = .returned (.tuple #[.slice a Q.length c, .int .i64 0]) ∧ IsBag Q (fun t m => (Has L t m ∧ t ≠ text) ∨ (t = text ∧ m = p)) ∧ Q.length ≤ (pls L).length + 1 ∧ Had w' w.heap.size a Q.length c Q))
/-- The texts of places that were left behind. -/
def Seen (V : List Pl) (lf : Pl → Bool) (f : List UInt8 → Option Value) : Prop := (∀ q, (f q).isSome = true ↔ ∃ x ∈ V, x.t = q ∧ lf x = false) ∧ ∀ q v, f q = some v → ∃ i : Int, v = .int .i64 i
theorem Seen.value {V : List Pl} {lf : Pl → Bool} {f : List UInt8 → Option Value} (h : Seen V lf f) (q : List UInt8) : ∃ i : Int, (f q).getD (.int .i64 0) = .int .i64 i := by
  cases e : f q with
  | none => exact ⟨0, rfl⟩
  | some v => exact h.2 q v e
theorem Seen.step {V : List Pl} {lf : Pl → Bool} {f : List UInt8 → Option Value} (h : Seen V lf f) {x : Pl} (hx : x ∈ V) (i : Int) : Seen V (fun y => lf y && !(decide (y = x))) (TextMap.put f x.t (.int .i64 i)) := by
  refine ⟨fun q => ?_, fun q v => ?_⟩
  · unfold TextMap.put
    by_cases e : q = x.t
    · rw [if_pos e]
      refine ⟨fun _ => ⟨x, hx, e.symm, by simp⟩, fun _ => rfl⟩
    · rw [if_neg e, h.1 q]
      refine ⟨fun ⟨y, h1, h2, h3⟩ => ⟨y, h1, h2, by simp [h3]⟩, fun ⟨y, h1, h2, h3⟩ => ⟨y, h1, h2, ?_⟩⟩
      simp only [Bool.and_eq_false_iff, Bool.not_eq_false', decide_eq_true_eq] at h3
      rcases h3 with h3 | h3
      · exact h3
      · rw [h3] at h2; exact absurd h2.symm e
  · unfold TextMap.put
    by_cases e : q = x.t
    · rw [if_pos e]; rintro ⟨⟩; exact ⟨i, rfl⟩
    · rw [if_neg e]; exact h.2 q v
/-- The names' number. -/
theorem Seen.texts {V : List Pl} {lf : Pl → Bool} {f : List UInt8 → Option Value} (h : Seen V lf f) (hl : ∀ x, lf x = false) {R : List It} (hR : IsBag R (fun t m => (⟨t, m⟩ : Pl) ∈ V)) : (R.map It.t).Pairwise (fun x y => x < y) ∧ ∀ q, q ∈ R.map It.t ↔ (f q).isSome = true := by
  refine ⟨List.pairwise_map.2 (hR.1.1.imp fun hab => tl_lt hab), fun q => ?_⟩
  rw [h.1 q, List.mem_map]
  constructor
  · rintro ⟨x, hx, rfl⟩
    obtain ⟨m, hm⟩ := List.exists_mem_of_ne_nil _ (hR.1.2 x hx).1
    exact ⟨⟨x.t, m⟩, (hR.2 x.t m).1 ⟨x, hx, rfl, hm⟩, rfl, hl _⟩
  · rintro ⟨y, hy, rfl, -⟩
    obtain ⟨x, hx, e, -⟩ := (hR.2 y.t y.m).2 hy
    exact ⟨x, hx, e⟩
set_option maxRecDepth 100000 in
set_option maxHeartbeats 2000000 in
theorem put_any (L : List It) (text : List UInt8) (d : M) (a : Option Addr) (n c : Nat) (w : World) (hL : Lies w a n L) (hf : Fine L) (hd : dFine d) (htl : text.length ≤ maxLen) (R : List It) (hR : IsBag R (fun t m => Has L t m ∧ t ≠ text)) (hfew : (pls L).length + 1 ≤ 1099511627776) :
    Calls Try.prog 13 #[.slice a n c, .string ⟨text.toArray⟩, .agg #[.string ⟨d.p.toArray⟩, .int .u64 (d.n : Int)]] w (PutIs L text d R w) := by
  have hmf : ∀ (fn : Fn) (first cap : Array Value) (w : World), (Instr.makeFunc fn first cap).run Try.prog w = .ok (.func fn first cap) w := fun _ _ _ _ => rfl
  have hmm := @run_makeMap Try.prog
  obtain ⟨dp, dn⟩ := d
  have hb0 := balloc (Below.refl w.heap.size w) (.cells #[.string ⟨text.toArray⟩] 9)
  have hb1 := balloc hb0 (.cells #[.string ⟨dp.toArray⟩, .int .u64 (dn : Int)] 31)
  by_cases hlong : 4096 < text.length
  · have d1 : decide ((4096 : Int) < (text.length : Int)) = true := decide_eq_true (by omega)
    clear hL hf hd htl hR hfew
    go_enter Try.func13, Try.ntmps13
    go_wp2
    go_ret2
    exact ⟨hb1, .inl ⟨hlong, rfl⟩⟩
  have d1 : decide ((4096 : Int) < (text.length : Int)) = false := decide_eq_false (by omega)
  have OF := Lib.hid (of_any L a n c _ (hL.below hb1) hf)
  have t0 : ((w.alloc (.cells #[.string ⟨text.toArray⟩] 9)).alloc (.cells #[.string ⟨dp.toArray⟩, .int .u64 (dn : Int)] 31)).cell? ⟨w.heap.size, 0, none⟩ = some (.string ⟨text.toArray⟩) := Lib.cell?_alloc_some _ (by rw [World.cell?_alloc_new]; rfl)
  have e0 : ((w.alloc (.cells #[.string ⟨text.toArray⟩] 9)).alloc (.cells #[.string ⟨dp.toArray⟩, .int .u64 (dn : Int)] 31)).cell? ⟨w.heap.size + 1, 0, none⟩ = some (.string ⟨dp.toArray⟩) := by
    rw [show w.heap.size + 1 = (w.alloc (.cells #[.string ⟨text.toArray⟩] 9)).heap.size from (World.size_alloc _ _).symm, World.cell?_alloc_new]; rfl
  have e1 : ((w.alloc (.cells #[.string ⟨text.toArray⟩] 9)).alloc (.cells #[.string ⟨dp.toArray⟩, .int .u64 (dn : Int)] 31)).cell? ⟨w.heap.size + 1, 1, none⟩ = some (.int .u64 (dn : Int)) := by
    rw [show w.heap.size + 1 = (w.alloc (.cells #[.string ⟨text.toArray⟩] 9)).heap.size from (World.size_alloc _ _).symm, World.cell?_alloc_new]; rfl
  have HF := Lib.hid hf
  have HD := Lib.hid hd
  have HTL := Lib.hid htl
  have HR := Lib.hid hR
  have HFEW := Lib.hid hfew
  have HLONG := Lib.hid hlong
  clear hL hf hd htl hR hfew hlong hb0
  go_enter Try.func13, Try.ntmps13
  go_upto_region 1 with (fail)
  obtain ⟨tb, htb⟩ : ∃ b, b = w.heap.size := ⟨_, rfl⟩
  obtain ⟨db, hdb⟩ : ∃ b, b = w.heap.size + 1 := ⟨_, rfl⟩
  obtain ⟨w1, hw1⟩ : ∃ v, v = (w.alloc (.cells #[.string ⟨text.toArray⟩] 9)).alloc (.cells #[.string ⟨dp.toArray⟩, .int .u64 (dn : Int)] 31) := ⟨_, rfl⟩
  rw [← hw1] at hb1 OF t0 e0 e1 ⊢
  rw [← htb] at t0 ⊢
  try rw [← htb] at hdb
  rw [← htb] at e0 e1
  rw [← hdb] at e0 e1 ⊢
  clear hw1 htb hdb
  go_wp2_with fail
  refine OF.out.mono ?_
  rintro e w2 ⟨mb, rfl, hP, -, k2⟩
  have hb2 := bstep hb1 k2
  replace t0 := Dots.keepC t0 k2
  replace e0 := Dots.keepC e0 k2
  replace e1 := Dots.keepC e1 k2
  have TH := Lib.hid (that_any 33 #[.pointer (some ⟨tb, 0, none⟩)] _ (enters_of Try.func33 (by kernel_rfl) rfl) (pls L) mb _ w2 hP HF.out.few (other_walk _ text tb w2 t0 (fun W t p n h => put1_any W text t p n tb h)))
  clear hP k2 OF hb1
  go_wp2_with fail
  refine TH.out.mono ?_
  rintro e w3 ⟨m3, rfl, hP3, hm3, k3⟩
  have hb3 := bstep hb2 k3
  replace t0 := Dots.keepC t0 k3
  replace e0 := Dots.keepC e0 k3
  replace e1 := Dots.keepC e1 k3
  have HM3 : Hid (w.heap.size ≤ m3) := Lib.hid (Nat.le_trans hb2.size hm3)
  have P3 := Lib.hid hP3
  clear hP3 k3 TH hb2 hm3
  obtain ⟨V, hV⟩ : ∃ V, V = (pls L).filter (fun x => decide (x.t ≠ text)) := ⟨_, rfl⟩
  rw [← hV] at P3
  have HV : Hid (∀ t m, (⟨t, m⟩ : Pl) ∈ V ↔ Has L t m ∧ t ≠ text) := Lib.hid (fun t m => by rw [hV, List.mem_filter, mem_pls]; simp)
  obtain ⟨pn, hpn⟩ : ∃ k, k = (pls L).length := ⟨_, rfl⟩
  rw [← hpn] at P3 HFEW
  have HPN := Lib.hid hpn
  clear hV hpn
  go_upto_region 5 with (fail)
  have N0 : TextMap.Is Try.prog 9 (w3.alloc (.map #[] 0)) w3.heap.size 0 (fun _ => none) := TextMap.Is.made w3
  have k4 := balloc (Below.refl w3.heap.size w3) (.map #[] 0)
  obtain ⟨nb, hnb⟩ : ∃ b, b = w3.heap.size := ⟨_, rfl⟩
  have HNB : Hid (m3 < nb ∧ tb < nb ∧ db < nb ∧ w.heap.size ≤ nb) := Lib.hid (by have := KMap.Is.lt P3.out; have := World.block_lt_of_cell? _ _ t0; have := World.block_lt_of_cell? _ _ e0; have := hb3.size; simp only at *; omega)
  obtain ⟨w4, hw4⟩ : ∃ v, v = w3.alloc (.map #[] 0) := ⟨_, rfl⟩
  rw [← hnb, ← hw4] at N0
  rw [← hw4] at k4 ⊢
  rw [← hnb]
  have NI := Lib.hid N0
  have hb4 := bstep hb3 k4
  replace t0 := Dots.keepC t0 k4
  replace e0 := Dots.keepC e0 k4
  replace e1 := Dots.keepC e1 k4
  replace P3 := Lib.hid (KMap.Is.below P3.out k4)
  clear N0 hnb hw4 k4 hb3
  go_wp2_with (at_range; refine KMap.wpList_range (C := places) Try.underlying64 rfl _ rfl m3 pn (setF V) rfl P3.out ?_; intro w6 cnt0 hc0 hr0 hb6)
  go_frame
  obtain ⟨r, hr⟩ : ∃ r, r = w4.heap.size := ⟨_, rfl⟩
  rw [← hr] at hr0 ⊢
  have HRR : Hid (nb < r) := Lib.hid (by rw [hr]; exact TextMap.Is.lt NI.out)
  have R0 := Lib.hid hr0
  have N6 := Lib.hid (TextMap.Is.below NI.out hb6)
  have P6 := Lib.hid (KMap.Is.below P3.out hb6)
  have hb := bstep hb4 hb6
  replace t0 := Dots.keepC t0 hb6
  replace e0 := Dots.keepC e0 hb6
  replace e1 := Dots.keepC e1 hb6
  have HC0 : Hid (0 + cnt0 ≤ pn) := Lib.hid (by omega)
  have M0 : Hid (Seen V (fun q => (setF V q).isSome) (fun _ => none)) := Lib.hid ⟨fun q => by
    constructor
    · intro h; cases h
    · rintro ⟨x, hx, -, h⟩
      simp only [setF_some] at h
      exact absurd hx (of_decide_eq_false h), fun q v h => by cases h⟩
  have S0 := Save.refl nb r w6
  clear hr0 hb6 hr hc0 NI P3 hb4
  go_loopw [] (fun wr => ∃ (lf : Pl → Bool) (cnt N : Nat) (f : List UInt8 → Option Value), Hid (KMap.Rng places wr m3 r pn (setF V) lf cnt) ∧ Hid (TextMap.Is Try.prog 9 wr nb N f) ∧ Hid (N + cnt ≤ pn) ∧ Hid (Seen V lf f) ∧ Save nb r w6 wr) (fun wr => wr.rangeLeft m3 r)
  case atStart => exact ⟨_, _, _, _, R0, N6, HC0, M0, S0⟩
  case round =>
    clear R0 N6 HC0 M0 S0
    obtain ⟨lf, cnt, N, f, RG, NI, HC, HM, SV⟩ := hrel
    go_wp2_with (at_next; refine KMap.wpList_next rfl _ rfl m3 r pn (setF V) lf cnt rfl RG.out ?_ ?_)
    · intro hl0
      have HT := HM.out.texts hl0 (HR.out.congr fun t m => (HV.out t m).symm)
      have HT1 := Lib.hid HT.1
      have HT2 := Lib.hid HT.2
      replace t0 := (SV.cell (p := ⟨tb, 0, none⟩) (World.block_lt_of_cell? _ _ t0) (by have := HNB.out; simp only; omega) (by have := HNB.out; have := HRR.out; simp only; omega)).trans t0
      replace e0 := (SV.cell (p := ⟨db, 0, none⟩) (World.block_lt_of_cell? _ _ e0) (by have := HNB.out; simp only; omega) (by have := HNB.out; have := HRR.out; simp only; omega)).trans e0
      replace e1 := (SV.cell (p := ⟨db, 1, none⟩) (World.block_lt_of_cell? _ _ e1) (by have := HNB.out; simp only; omega) (by have := HNB.out; have := HRR.out; simp only; omega)).trans e1
      have P7 := Lib.hid (KMap.Is.moved P6.out (SV.block m3 (KMap.Is.lt P6.out) (by have := HNB.out; omega) (by have := HNB.out; have := HRR.out; omega)))
      have hb7 := Save.below hb SV HNB.out.2.2.2 (by have := HNB.out; have := HRR.out; omega) hb.size
      have HLN : Hid ((R.map It.t).length = R.length) := Lib.hid (by rw [List.length_map])
      obtain ⟨rn, hrn⟩ : ∃ k, k = R.length := ⟨_, rfl⟩
      rw [← hrn] at HLN
      have HRN := Lib.hid hrn
      clear hl0 HT RG hb SV P6 hrn
      by_cases hfull : 256 ≤ rn
      · have d3 : decide ((rn : Int) ≥ 256) = true := decide_eq_true (by omega)
        have d4 : decide ((256 : Int) ≤ (rn : Int)) = true := decide_eq_true (by omega)
        have d5 : decide (256 ≤ rn) = true := decide_eq_true hfull
        have HFU := Lib.hid hfull
        clear hfull
        go_wp2_with (at_len; refine TextMap.wpList_len Try.underlying82 Try.underlying9 rfl _ rfl nb N f rfl NI.out HT1.out HT2.out rn HLN.out ?_)
        go_ret2
        exact ⟨hb7, .inr (.inl ⟨by have := HLONG.out; omega, by have := HRN.out; have := HFU.out; omega, rfl⟩)⟩
      · have d3 : decide ((rn : Int) ≥ 256) = false := decide_eq_false (by omega)
        have d4 : decide ((256 : Int) ≤ (rn : Int)) = false := decide_eq_false (by omega)
        have d5 : decide (256 ≤ rn) = false := decide_eq_false hfull
        have HFU := Lib.hid hfull
        clear hfull
        go_wp2_with (first
          | (at_len; refine TextMap.wpList_len Try.underlying82 Try.underlying9 rfl _ rfl nb N f rfl NI.out HT1.out HT2.out rn HLN.out ?_)
          | (at_mapUpdate; refine KMap.wpList_put (C := places) Try.underlying64 rfl _ _ _ rfl m3 pn (setF V) ⟨text, ⟨dp, dn⟩⟩ unit rfl P7.out (by have := HFEW.out; unfold maxLen; omega) rfl ⟨HTL.out, HD.out⟩ rfl ?_; intro w9 S9 k9; go_frame))
        have PX := Lib.hid (PS.put S9)
        have hb9 := But.below hb7 (but_grown k9) HM3.out hb7.size
        have IT := Lib.hid (items_any m3 _ _ w9 PX.out HFEW.out)
        clear S9 k9 hb7 PX
        go_wp2_with fail
        refine IT.out.mono ?_
        rintro e w10 ⟨a4, c4, Q, rfl, hB, hl, hL4, k4⟩
        have HB := Lib.hid hB
        have H4 := Lib.hid hL4
        have HL := Lib.hid hl
        clear hB hL4 hl
        go_wp2
        go_ret2
        refine ⟨bstep hb9 k4, .inr (.inr ⟨by have := HLONG.out; omega, by have := HRN.out; have := HFU.out; omega, a4, c4, Q, rfl, HB.out.congr (fun t m => ?_), by have := HL.out; have := HPN.out; omega, H4.out.base hb9.size⟩)⟩
        rw [List.mem_append, List.mem_singleton, HV.out t m]
        simp
    · intro q c w7 cnt1 hlq hfq hqf hrg hlt7 hg hsz hen
      obtain ⟨hqV, rfl⟩ := setF_unit hfq
      have SV7 := SV.trans (Save.grown2 (b := nb) hg)
      have RG7 := Lib.hid hrg
      have NI7 := Lib.hid (TextMap.Is.moved NI.out ((but_grown hg).block nb (TextMap.Is.lt NI.out) (by have := HRR.out; omega)))
      have HCN : Hid (cnt1 < cnt) := Lib.hid hlt7
      have HLE : Hid (wr.rangeLeft m3 r = cnt) := Lib.hid RG.out.left_eq
      have HQ := Lib.hid (And.intro hqV hqf)
      obtain ⟨t, p, k⟩ := q
      have hen' : (Instr.entry (.pointer (some ⟨r, 0, none⟩))).run Try.prog w7 = .ok (.tuple #[.agg #[.string ⟨t.toArray⟩, .string ⟨p.toArray⟩, .int .u64 (k : Int)], .agg #[]]) w7 := hen
      clear hen hg hsz hlt7 hrg hfq hlq hqf RG NI SV hqV
      go_upto_region 8 with (fail)
      have kD := balloc (Below.refl w7.heap.size w7) (.cells #[.string ⟨t.toArray⟩, .string ⟨p.toArray⟩, .int .u64 (k : Int)] 69)
      have f0 : (w7.alloc (.cells #[.string ⟨t.toArray⟩, .string ⟨p.toArray⟩, .int .u64 (k : Int)] 69)).cell? ⟨w7.heap.size, 0, none⟩ = some (.string ⟨t.toArray⟩) := by rw [World.cell?_alloc_new]; rfl
      obtain ⟨xb, hxb⟩ : ∃ b, b = w7.heap.size := ⟨_, rfl⟩
      obtain ⟨wd, hwd⟩ : ∃ v, v = w7.alloc (.cells #[.string ⟨t.toArray⟩, .string ⟨p.toArray⟩, .int .u64 (k : Int)] 69) := ⟨_, rfl⟩
      rw [← hwd] at kD f0 ⊢
      rw [← hxb] at f0 ⊢
      have SV8 := SV7.trans (Save.of kD)
      have NI8 := Lib.hid (TextMap.Is.below NI7.out kD)
      have RG8 := Lib.hid (RG7.out.below kD)
      obtain ⟨i, hi⟩ := HM.out.value t
      have HI := Lib.hid hi
      have M9 := Lib.hid (HM.out.step HQ.out.1 (wrap64 (i + 1)))
      clear kD hxb hwd hen' SV7 NI7 RG7 hi
      go_wp2_with (first
        | (at_lookup; refine TextMap.wpList_look Try.underlying82 Try.underlying9 zero_int rfl _ _ rfl nb N f t rfl NI8.out rfl HQ.out.2.1 _ HI.out ?_)
        | (at_mapUpdate; refine TextMap.wpList_put Try.underlying82 Try.underlying9 rfl _ _ _ rfl nb N f t (.int .i64 (wrap64 (i + 1))) rfl NI8.out (by have := HC.out; have := HCN.out; have := HFEW.out; unfold maxLen; omega) rfl HQ.out.2.1 rfl ?_; intro w9 S9 k9; go_frame))
      have NX := Lib.hid S9
      have RX := Lib.hid (RG8.out.moved_but (but_grown k9) (by have := HNB.out; omega) (by have := HRR.out; omega))
      have SX := SV8.trans (Save.grown1 (c := r) k9)
      have HC9 : Hid (N + 1 + cnt1 ≤ pn) := Lib.hid (by have := HC.out; have := HCN.out; omega)
      clear S9 k9
      go_roundw
      case rel => exact ⟨_, _, _, _, RX, NX, HC9, M9, SX⟩
      case measure => have h1 := RX.out.left_eq; have h2 := HLE.out; have h3 := HCN.out; omega
end Bag
end Go.Proofs.Ytnlbgjghckbbcaa

namespace Go.Proofs.Ytnlbgjghckbbcaa
namespace Bag
open Go.RowKit Go.Maps Go.Proofs.Ytnlbgjghckbbcaa.Mark Go.Proofs.Ytnlbgjghckbbcaa.Dots
/-- A dot, turned. -/
def turned (by_ owner : List UInt8) (base : Nat) (x : M) : M := if x.p = by_ then ⟨owner, (base + x.n) % 18446744073709551616⟩ else x
theorem turned_fine {by_ owner : List UInt8} {base : Nat} {x : M} (h : dFine x) (ho : owner.length ≤ maxLen) : dFine (turned by_ owner base x) := by
  unfold turned
  split
  · have h1 : (base + x.n) % 18446744073709551616 < 18446744073709551616 := Nat.mod_lt _ (by decide)
    exact ⟨ho, by show (base + x.n) % 18446744073709551616 ≤ _; omega⟩
  · exact h
set_option maxRecDepth 100000 in
set_option maxHeartbeats 2000000 in
theorem turn_any (L : List It) (by_ owner : List UInt8) (cap base : Nat) (a : Option Addr) (n c : Nat) (w : World) (hL : Lies w a n L) (hf : Fine L) (ho : owner.length ≤ maxLen) :
    Calls Try.prog 16 #[.slice a n c, .agg #[.string ⟨by_.toArray⟩, .int .u64 (cap : Int), .string ⟨owner.toArray⟩, .int .u64 (base : Int)]] w (Got (fun t m => ∃ x, Has L t x ∧ turned by_ owner base x = m) (pls L).length w) := by
  have hmm := @run_makeMap Try.prog
  have hb1 := balloc (Below.refl w.heap.size w) (.cells #[.string ⟨by_.toArray⟩, .int .u64 (cap : Int), .string ⟨owner.toArray⟩, .int .u64 (base : Int)] 33)
  have hb2 := balloc hb1 (.map #[] 0)
  have c0 : ((w.alloc (.cells #[.string ⟨by_.toArray⟩, .int .u64 (cap : Int), .string ⟨owner.toArray⟩, .int .u64 (base : Int)] 33)).alloc (.map #[] 0)).cell? ⟨w.heap.size, 0, none⟩ = some (.string ⟨by_.toArray⟩) := Lib.cell?_alloc_some _ (by rw [World.cell?_alloc_new]; rfl)
  have c2 : ((w.alloc (.cells #[.string ⟨by_.toArray⟩, .int .u64 (cap : Int), .string ⟨owner.toArray⟩, .int .u64 (base : Int)] 33)).alloc (.map #[] 0)).cell? ⟨w.heap.size, 2, none⟩ = some (.string ⟨owner.toArray⟩) := Lib.cell?_alloc_some _ (by rw [World.cell?_alloc_new]; rfl)
  have c3 : ((w.alloc (.cells #[.string ⟨by_.toArray⟩, .int .u64 (cap : Int), .string ⟨owner.toArray⟩, .int .u64 (base : Int)] 33)).alloc (.map #[] 0)).cell? ⟨w.heap.size, 3, none⟩ = some (.int .u64 (base : Int)) := Lib.cell?_alloc_some _ (by rw [World.cell?_alloc_new]; rfl)
  have P0 : PS ((w.alloc (.cells #[.string ⟨by_.toArray⟩, .int .u64 (cap : Int), .string ⟨owner.toArray⟩, .int .u64 (base : Int)] 33)).alloc (.map #[] 0)) (w.heap.size + 1) 0 [] := by
    have := KMap.Is.made places (w.alloc (.cells #[.string ⟨by_.toArray⟩, .int .u64 (cap : Int), .string ⟨owner.toArray⟩, .int .u64 (base : Int)] 33))
    rw [World.size_alloc] at this
    exact KMap.Is.ext this (fun _ => rfl)
  have OF := Lib.hid (of_any L a n c _ (hL.below hb2) hf)
  have HF := Lib.hid hf
  have HO := Lib.hid ho
  clear hL hf ho hb1
  go_enter Try.func16, Try.ntmps16
  go_upto_region 2 with (fail)
  obtain ⟨pb, hpb⟩ : ∃ b, b = w.heap.size := ⟨_, rfl⟩
  obtain ⟨mb, hmb⟩ : ∃ b, b = w.heap.size + 1 := ⟨_, rfl⟩
  obtain ⟨w2, hw2⟩ : ∃ v, v = (w.alloc (.cells #[.string ⟨by_.toArray⟩, .int .u64 (cap : Int), .string ⟨owner.toArray⟩, .int .u64 (base : Int)] 33)).alloc (.map #[] 0) := ⟨_, rfl⟩
  rw [← hw2] at hb2 OF c0 c2 c3 P0 ⊢
  rw [← hmb] at P0 ⊢
  rw [← hpb] at c0 c2 c3 ⊢
  have HMB : Hid (w.heap.size ≤ mb ∧ pb < mb) := Lib.hid (by omega)
  have PP := Lib.hid P0
  clear hw2 hpb hmb P0
  go_wp2_with fail
  refine OF.out.mono ?_
  rintro e w3 ⟨b, rfl, hP, hmb2, k2⟩
  have hb3 := bstep hb2 k2
  replace c0 := Dots.keepC c0 k2
  replace c2 := Dots.keepC c2 k2
  replace c3 := Dots.keepC c3 k2
  have P3 := Lib.hid hP
  have HNE : Hid (mb < b) := Lib.hid (by have := KMap.Is.lt PP.out; omega)
  replace PP := Lib.hid (KMap.Is.below PP.out k2)
  clear hP k2 OF hb2 hmb2
  go_wp2_with (at_range; refine KMap.wpList_range (C := places) Try.underlying64 rfl _ rfl b (pls L).length (setF (pls L)) rfl P3.out ?_; intro w6 cnt0 hc0 hr0 hb6)
  go_frame
  obtain ⟨r, hr⟩ : ∃ r, r = w3.heap.size := ⟨_, rfl⟩
  rw [← hr] at hr0 ⊢
  have HRR : Hid (b < r) := Lib.hid (by rw [hr]; exact KMap.Is.lt P3.out)
  have R0 := Lib.hid hr0
  have P6 := Lib.hid (KMap.Is.below PP.out hb6)
  have hb := bstep hb3 hb6
  replace c0 := Dots.keepC c0 hb6
  replace c2 := Dots.keepC c2 hb6
  replace c3 := Dots.keepC c3 hb6
  have HC0 : Hid (0 + cnt0 ≤ (pls L).length) := Lib.hid (by omega)
  have M0 : Hid (∀ t m, (⟨t, m⟩ : Pl) ∈ ([] : List Pl) ↔ ∃ x, (⟨t, x⟩ : Pl) ∈ pls L ∧ (setF (pls L) ⟨t, x⟩).isSome = false ∧ turned by_ owner base x = m) := Lib.hid (fun t m => by
    constructor
    · intro h; exact (List.not_mem_nil h).elim
    · rintro ⟨x, h1, h2, _⟩
      rw [setF_some] at h2
      exact absurd h1 (of_decide_eq_false h2))
  have S0 := Save.refl mb r w6
  clear hr0 hb6 hr hc0 P3 PP hb3
  go_loopw [] (fun wr => ∃ (lf : Pl → Bool) (cnt N : Nat) (U : List Pl), Hid (KMap.Rng places wr b r (pls L).length (setF (pls L)) lf cnt) ∧ Hid (PS wr mb N U) ∧ Hid (N + cnt ≤ (pls L).length) ∧ Hid (∀ t m, (⟨t, m⟩ : Pl) ∈ U ↔ ∃ x, (⟨t, x⟩ : Pl) ∈ pls L ∧ lf ⟨t, x⟩ = false ∧ turned by_ owner base x = m) ∧ Save mb r w6 wr) (fun wr => wr.rangeLeft b r)
  case atStart => exact ⟨_, _, _, _, R0, P6, HC0, M0, S0⟩
  case round =>
    clear R0 P6 HC0 M0 S0
    obtain ⟨lf, cnt, N, U, RG, PU, HC, HM, SV⟩ := hrel
    go_wp2_with (at_next; refine KMap.wpList_next rfl _ rfl b r (pls L).length (setF (pls L)) lf cnt rfl RG.out ?_ ?_)
    · intro hl0
      have HS : Hid (∀ t m, (⟨t, m⟩ : Pl) ∈ U ↔ ∃ x, Has L t x ∧ turned by_ owner base x = m) := Lib.hid (fun t m => by
        rw [HM.out t m]
        constructor
        · rintro ⟨x, h1, -, h3⟩; exact ⟨x, (mem_pls L t x).1 h1, h3⟩
        · rintro ⟨x, h1, h3⟩; exact ⟨x, (mem_pls L t x).2 h1, hl0 _, h3⟩)
      have hb7 := Save.below hb SV HMB.out.1 (by have := HMB.out; have := HRR.out; have := HNE.out; omega) hb.size
      have PE := Lib.hid (KMap.Is.mono PU.out (show N ≤ (pls L).length by have := HC.out; omega))
      have IT := Lib.hid (items_any mb _ _ wr PE.out HF.out.few)
      clear hl0 RG PU hb SV HM
      go_wp2_with fail
      refine IT.out.mono ?_
      rintro e w10 ⟨a4, c4, Q, rfl, hB, hl, hL4, k4⟩
      have HB := Lib.hid hB
      have H4 := Lib.hid hL4
      have HL := Lib.hid hl
      clear hB hL4 hl
      go_wp2
      go_ret
      exact ⟨a4, c4, Q, rfl, HB.out.congr HS.out, HL.out, H4.out.base hb7.size, bstep hb7 k4⟩
    · intro q c w7 cnt1 hlq hfq hqf hrg hlt7 hg hsz hen
      obtain ⟨hqV, rfl⟩ := setF_unit hfq
      have SV7 := SV.trans (Save.grown2 (b := mb) hg)
      have RG7 := Lib.hid hrg
      have PU7 := Lib.hid (KMap.Is.moved PU.out ((but_grown hg).block mb (KMap.Is.lt PU.out) (by have := HRR.out; have := HNE.out; omega)))
      have HCN : Hid (cnt1 < cnt) := Lib.hid hlt7
      have HLE : Hid (wr.rangeLeft b r = cnt) := Lib.hid RG.out.left_eq
      have d0 : ∀ o, (w7.alloc o).cell? ⟨pb, 0, none⟩ = some (.string ⟨by_.toArray⟩) := fun o => Lib.cell?_alloc_some o ((SV7.cell (p := ⟨pb, 0, none⟩) (World.block_lt_of_cell? _ _ c0) (by have := HMB.out; simp only; omega) (by have := HMB.out; have := HRR.out; have := HNE.out; simp only; omega)).trans c0)
      have d2 : ∀ o, (w7.alloc o).cell? ⟨pb, 2, none⟩ = some (.string ⟨owner.toArray⟩) := fun o => Lib.cell?_alloc_some o ((SV7.cell (p := ⟨pb, 2, none⟩) (World.block_lt_of_cell? _ _ c2) (by have := HMB.out; simp only; omega) (by have := HMB.out; have := HRR.out; have := HNE.out; simp only; omega)).trans c2)
      have d3 : ∀ o, (w7.alloc o).cell? ⟨pb, 3, none⟩ = some (.int .u64 (base : Int)) := fun o => Lib.cell?_alloc_some o ((SV7.cell (p := ⟨pb, 3, none⟩) (World.block_lt_of_cell? _ _ c3) (by have := HMB.out; simp only; omega) (by have := HMB.out; have := HRR.out; have := HNE.out; simp only; omega)).trans c3)
      have HQ := Lib.hid (And.intro hqV (And.intro hlq hqf))
      obtain ⟨t, p, k⟩ := q
      have hen' : (Instr.entry (.pointer (some ⟨r, 0, none⟩))).run Try.prog w7 = .ok (.tuple #[.agg #[.string ⟨t.toArray⟩, .string ⟨p.toArray⟩, .int .u64 (k : Int)], .agg #[]]) w7 := hen
      have M9 : ∀ y, y = turned by_ owner base ⟨p, k⟩ → Hid (∀ t' m, (⟨t', m⟩ : Pl) ∈ U ++ [⟨t, y⟩] ↔ ∃ x, (⟨t', x⟩ : Pl) ∈ pls L ∧ (lf ⟨t', x⟩ && !(decide ((⟨t', x⟩ : Pl) = ⟨t, ⟨p, k⟩⟩))) = false ∧ turned by_ owner base x = m) := fun y hy => Lib.hid (fun t' m => by
        rw [List.mem_append, List.mem_singleton, HM.out t' m]
        constructor
        · rintro (⟨x, h1, h2, h3⟩ | h)
          · exact ⟨x, h1, by simp [h2], h3⟩
          · simp only [Pl.mk.injEq] at h
            obtain ⟨rfl, rfl⟩ := h
            exact ⟨⟨p, k⟩, HQ.out.1, by simp, hy.symm⟩
        · rintro ⟨x, h1, h2, h3⟩
          by_cases e : (⟨t', x⟩ : Pl) = ⟨t, ⟨p, k⟩⟩
          · simp only [Pl.mk.injEq] at e
            obtain ⟨rfl, rfl⟩ := e
            right
            rw [hy, h3]
          · left
            refine ⟨x, h1, ?_, h3⟩
            rw [decide_eq_false e] at h2
            simpa using h2)
      clear hen hg hsz hlt7 hrg hfq hlq hqf RG PU SV hqV HM
      by_cases hpe : p = by_
      · have q1 : (p == by_) = true := by simp [hpe]
        have M8 := M9 ⟨owner, (base + k) % 18446744073709551616⟩ (by unfold turned; rw [if_pos hpe])
        have hwr : IntKind.u64.wrap ((base : Int) + (k : Int)) = (((base + k) % 18446744073709551616 : Nat) : Int) := by rw [IntKind.wrap_u64]; omega
        have hfine : dFine ⟨owner, (base + k) % 18446744073709551616⟩ := ⟨HO.out, by have h1 : (base + k) % 18446744073709551616 < 18446744073709551616 := Nat.mod_lt _ (by decide); show (base + k) % 18446744073709551616 ≤ _; omega⟩
        have HFI := Lib.hid hfine
        have HPE := Lib.hid hpe
        clear hpe M9 hfine
        go_wp2_with (at_mapUpdate; refine KMap.wpList_put (C := places) Try.underlying64 rfl _ _ _ rfl mb N (setF U) ⟨t, ⟨owner, (base + k) % 18446744073709551616⟩⟩ unit rfl (KMap.Is.alloc PU7.out _) (by have := HC.out; have := HF.out.few; have := HCN.out; unfold maxLen; omega) rfl ⟨HQ.out.2.2.1, HFI.out⟩ rfl ?_; intro w9 S9 k9; go_frame)
        have PX := Lib.hid (PS.put S9)
        have RX := Lib.hid ((RG7.out.below (balloc (Below.refl _ _) _)).moved_but (but_grown k9) (by have := HNE.out; omega) (by have := HNE.out; have := HRR.out; omega))
        have SX := (SV7.alloc _).trans (Save.grown1 (c := r) k9)
        have HC9 : Hid (N + 1 + cnt1 ≤ (pls L).length) := Lib.hid (by have := HC.out; have := HCN.out; omega)
        clear S9 k9
        go_roundw
        case rel => exact ⟨_, _, _, _, RX, PX, HC9, M8, SX⟩
        case measure => have h1 := RX.out.left_eq; have h2 := HLE.out; have h3 := HCN.out; omega
      · have q1 : (p == by_) = false := by simp [hpe]
        have M8 := M9 ⟨p, k⟩ (by unfold turned; rw [if_neg hpe])
        have HPE := Lib.hid hpe
        clear hpe M9
        go_wp2_with (at_mapUpdate; refine KMap.wpList_put (C := places) Try.underlying64 rfl _ _ _ rfl mb N (setF U) ⟨t, ⟨p, k⟩⟩ unit rfl (KMap.Is.alloc PU7.out _) (by have := HC.out; have := HF.out.few; have := HCN.out; unfold maxLen; omega) rfl HQ.out.2.2 rfl ?_; intro w9 S9 k9; go_frame)
        have PX := Lib.hid (PS.put S9)
        have RX := Lib.hid ((RG7.out.below (balloc (Below.refl _ _) _)).moved_but (but_grown k9) (by have := HNE.out; omega) (by have := HNE.out; have := HRR.out; omega))
        have SX := (SV7.alloc _).trans (Save.grown1 (c := r) k9)
        have HC9 : Hid (N + 1 + cnt1 ≤ (pls L).length) := Lib.hid (by have := HC.out; have := HCN.out; omega)
        clear S9 k9
        go_roundw
        case rel => exact ⟨_, _, _, _, RX, PX, HC9, M8, SX⟩
        case measure => have h1 := RX.out.left_eq; have h2 := HLE.out; have h3 := HCN.out; omega
end Bag
end Go.Proofs.Ytnlbgjghckbbcaa

namespace Go.Proofs.Ytnlbgjghckbbcaa
namespace Bag
open Go.RowKit Go.Maps Go.Proofs.Ytnlbgjghckbbcaa.Mark Go.Proofs.Ytnlbgjghckbbcaa.Dots
set_option maxRecDepth 100000 in
set_option maxHeartbeats 2000000 in
theorem texts_any (L : List It) (a : Option Addr) (n c : Nat) (w : World) (hL : Lies w a n L) (hf : Fine L) (R : List It) (hR : IsBag R (Has L)) :
    Calls Try.prog 18 #[.slice a n c] w fun e w' => ∃ a c, e = .returned (.slice a R.length c) ∧ Words.Lies w' a R.length (R.map It.t) ∧ Below w.heap.size w w' := by
  have OF := Lib.hid (of_any L a n c _ hL hf)
  have HF := Lib.hid hf
  have HR := Lib.hid hR
  clear hL hf hR
  go_enter Try.func18, Try.ntmps18
  go_wp2_with fail
  refine OF.out.mono ?_
  rintro e w2 ⟨mb, rfl, hP, -, k2⟩
  have hb2 := k2
  have IT := Lib.hid (items_any mb _ _ w2 hP HF.out.few)
  clear hP k2 OF
  go_wp2_with fail
  refine IT.out.mono ?_
  rintro e w4 ⟨a4, c4, Q, rfl, hB, hl, hL4, k4⟩
  obtain rfl : R = Q := HR.out.uniq (hB.congr fun t m => mem_pls L t m)
  obtain ⟨J, hJ, hJL, -⟩ := hL4.lies
  obtain ⟨N, hN⟩ : ∃ n, n = R.length := ⟨_, rfl⟩
  rw [← hN] at hJL hl ⊢
  have HJ := Lib.hid hJL
  have HJR := Lib.hid hJ
  have HN := Lib.hid hN
  have HNB : Hid (N ≤ 1099511627776) := Lib.hid (by have := HF.out.few; omega)
  have hb4 := bstep hb2 k4
  have O0 : Hid (Words.Mine w4 w4.heap.size (.slice none 0 0) ((R.map It.t).take 0)) := Lib.hid (Row.Own.nil _ _)
  have h4 := Below.refl w4.heap.size w4
  clear hB hl hJL hJ hN k4 IT hb2 HR
  go_wp2_with fail
  go_loopw [3, 10] (fun tv iv wr => ∃ i : Nat, i ≤ N ∧ iv = .int .i64 i ∧ Hid (Words.Mine wr w4.heap.size tv ((R.map It.t).take i)) ∧ Below w4.heap.size w4 wr) (fun _ iv _ => N - (intOf iv).toNat)
  case atStart => exact ⟨0, by omega, rfl, O0, h4⟩
  case round =>
    clear O0 h4
    obtain ⟨i, hi, rfl, OT, hb⟩ := hrel
    by_cases hlt : i < N
    rotate_left
    · obtain rfl : i = N := by omega
      have d1 : decide ((i : Int) < (i : Int)) = false := decide_eq_false (by omega)
      have e1 : (R.map It.t).take i = R.map It.t := List.take_of_length_le (by rw [List.length_map]; have := HN.out; omega)
      have OE := OT.out
      rw [e1] at OE
      obtain ⟨ta, tc, rfl, -, -, hl, -⟩ := Row.Own.lies OE
      have HL := Lib.hid hl
      have hlen : (R.map It.t).length = i := by rw [List.length_map]; exact HN.out.symm
      rw [hlen] at HL ⊢
      clear hl OE OT e1 hlen
      go_wp2
      go_ret
      exact ⟨ta, tc, by rw [← HN.out]; rfl, by rw [← HN.out]; exact HL.out, hb4.trans (hb.mono hb4.size)⟩
    have d1 : decide ((i : Int) < (N : Int)) = true := decide_eq_true (by omega)
    have j1 : (0 : Int) ≤ (i : Int) := by omega
    have j2 : (i : Int) < (N : Int) := by omega
    have hil : i < J.length := by have := HJ.out.1; omega
    have hir : i < R.length := by have := HN.out; omega
    obtain ⟨b, o, rfl, hc⟩ := items_at (HJ.out.below hb) (by omega)
    obtain ⟨s0, s1⟩ := hc i hil
    have ht : R[i].t = J[i].t := by
      have e : R[i] = (J.map RI.it)[i]'(by rw [List.length_map]; exact hil) := by simp only [HJR.out]
      rw [e, List.getElem_map]; rfl
    rw [← ht] at s0
    obtain ⟨x, hx⟩ : ∃ x, x = R[i].t := ⟨_, rfl⟩
    obtain ⟨da, dl, dc, hdv⟩ : ∃ da dl dc, Value.slice da dl dc = Value.slice J[i].a J[i].d.length J[i].c := ⟨_, _, _, rfl⟩
    rw [← hx] at s0
    rw [← hdv] at s1
    have OS : Hid ((R.map It.t).take i ++ [x] = (R.map It.t).take (i + 1)) := Lib.hid (by
      rw [List.take_succ_eq_append_getElem (by rw [List.length_map]; exact hir), List.getElem_map, hx])
    have HI := Lib.hid hlt
    have HTL : Hid (((R.map It.t).take i).length ≤ i) := Lib.hid (by rw [List.length_take]; omega)
    clear hc hil hir ht hx hdv hlt
    go_wp2_with (at_builtin; (refine Row.wpList_app Words.typ rfl _ _ rfl w4.heap.size _ _ rfl ((OT.out.alloc _).alloc _) _ 1 1 [x] rfl (Row.lies_new' _ x _ (by simp only [World.size_alloc])) (by have := HNB.out; have := HI.out; have := HTL.out; omega) (by have := hb.size; simp only [World.size_alloc]; omega) ?_); intro v9 w9 o9 _ k9)
    have O9 := o9
    rw [OS.out] at O9
    have OT9 := Lib.hid O9
    have hb9 := (balloc (balloc hb _) _).trans k9
    have hjw : wrap64 ((i : Int) + 1) = ((i + 1 : Nat) : Int) := by have := HNB.out; have := HI.out; unfold wrap64; omega
    clear o9 O9 k9 OT s0 s1
    go_wp2
    go_roundw
    case rel => exact ⟨i + 1, by have := HI.out; omega, by rw [hjw], OT9, hb9⟩
    case measure => rw [hjw]; have := HI.out; simp only [intOf]; omega
end Bag
end Go.Proofs.Ytnlbgjghckbbcaa

namespace Go.Proofs.Ytnlbgjghckbbcaa
namespace Bag
open Go.RowKit Go.Proofs.Ytnlbgjghckbbcaa.Mark Go.Proofs.Ytnlbgjghckbbcaa.Dots
theorem onT_nodup {t : List UInt8} {d : List M} (h : d.Pairwise DL) : (onT t d).Nodup := by
  unfold onT
  refine List.pairwise_map.2 (h.imp fun {a b} hab e => ?_)
  simp only [Pl.mk.injEq, true_and] at e
  rw [e] at hab
  exact linD.irr _ hab
theorem pls_nodup : ∀ {R : List It}, Canon R → (pls R).Nodup
  | [], _ => by simp [pls]
  | x :: R, h => by
    have h1 := List.pairwise_cons.1 h.1
    show (onT x.t x.d ++ pls R).Nodup
    refine List.nodup_append.2 ⟨onT_nodup (h.2 x (by simp)).2, pls_nodup h.tail, ?_⟩
    intro p hp q hq e
    subst e
    unfold onT at hp
    obtain ⟨m, _, rfl⟩ := List.mem_map.1 hp
    obtain ⟨y, hy, e, _⟩ := (mem_pls R x.t m).1 hq
    have := h1.1 y hy
    rw [e] at this
    exact linT.irr _ this
theorem few_of {R : List It} {S : List UInt8 → M → Prop} (h : IsBag R S) {V : List Pl} (hV : ∀ t m, S t m → (⟨t, m⟩ : Pl) ∈ V) : (pls R).length ≤ V.length :=
  (pls_nodup h.1).length_le_of_subset fun p hp => hV p.t p.m ((h.2 p.t p.m).1 ((mem_pls R p.t p.m).1 hp))
theorem fine_of {R : List It} {S : List UInt8 → M → Prop} (h : IsBag R S) {V : List Pl} (hV : ∀ t m, S t m → (⟨t, m⟩ : Pl) ∈ V) (hn : V.length ≤ 1099511627776) (hf : ∀ p ∈ V, p.fine) (hR : R.length ≤ 1099511627776) : Fine R :=
  ⟨hR, Nat.le_trans (few_of h hV) hn, fun p hp => hf p (hV p.t p.m ((h.2 p.t p.m).1 ((mem_pls R p.t p.m).1 hp)))⟩
end Bag
end Go.Proofs.Ytnlbgjghckbbcaa
