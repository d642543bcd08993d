/- frame: four, number, sum, Size; the reference's Four. -/
import Derived.Test.YtcfimfoccbaepaaDoorCrcOn
import Derived.Test.YtcfimfoccbaepaaDoorConv
import Derived.Deep.RegionHeld3
namespace Go.Proofs.YtcfimfoccbaepaaDoor
namespace Frame
open Go.RowKit

/-- A number as four bytes, the lowest first. -/
def fourL (n : Nat) : List UInt8 := [UInt8.ofNat n, UInt8.ofNat (n / 256), UInt8.ofNat (n / 65536), UInt8.ofNat (n / 16777216)]
def num4 (l : List UInt8) : Nat := (l.getD 0 0).toNat + 256 * (l.getD 1 0).toNat + 65536 * (l.getD 2 0).toNat + 16777216 * (l.getD 3 0).toNat
theorem four_bytes (n : Nat) (hn : n < 4294967296) : (n : Int) % 256 = ((UInt8.ofNat n).toNat : Int) ∧ (n : Int) / 256 % 256 = ((UInt8.ofNat (n / 256)).toNat : Int) ∧ (n : Int) / 65536 % 256 = ((UInt8.ofNat (n / 65536)).toNat : Int) ∧ (n : Int) / 16777216 = ((UInt8.ofNat (n / 16777216)).toNat : Int) := by
  simp only [UInt8.toNat_ofNat']
  omega
theorem num4_lt (l : List UInt8) : num4 l < 4294967296 := by
  unfold num4
  have h0 := (l.getD 0 0).toNat_lt
  have h1 := (l.getD 1 0).toNat_lt
  have h2 := (l.getD 2 0).toNat_lt
  have h3 := (l.getD 3 0).toNat_lt
  omega
theorem num4_four (n : Nat) (hn : n < 4294967296) (r : List UInt8) : num4 (fourL n ++ r) = n := by
  obtain ⟨h1, h2, h3, h4⟩ := four_bytes n hn
  show (UInt8.ofNat n).toNat + 256 * (UInt8.ofNat (n / 256)).toNat + 65536 * (UInt8.ofNat (n / 65536)).toNat + 16777216 * (UInt8.ofNat (n / 16777216)).toNat = n
  omega
theorem four_num4 (l : List UInt8) (h : 4 ≤ l.length) : fourL (num4 l) = l.take 4 := by
  match l, h with
  | a :: b :: c :: d :: r, _ =>
    have h0 := a.toNat_lt
    have h1 := b.toNat_lt
    have h2 := c.toNat_lt
    have h3 := d.toNat_lt
    have e : num4 (a :: b :: c :: d :: r) = a.toNat + 256 * b.toNat + 65536 * c.toNat + 16777216 * d.toNat := rfl
    obtain ⟨n, hn⟩ : ∃ n, n = num4 (a :: b :: c :: d :: r) := ⟨_, rfl⟩
    rw [← hn] at e ⊢
    have hlt : n < 4294967296 := by omega
    obtain ⟨k1, k2, k3, k4⟩ := four_bytes n hlt
    unfold fourL
    rw [show UInt8.ofNat n = a by apply UInt8.toNat_inj.1; omega, show UInt8.ofNat (n / 256) = b by apply UInt8.toNat_inj.1; omega, show UInt8.ofNat (n / 65536) = c by apply UInt8.toNat_inj.1; omega, show UInt8.ofNat (n / 16777216) = d by apply UInt8.toNat_inj.1; omega]
    rfl
/-- The bytes put together, in the walk's words. -/
theorem or4 (a b c d : UInt8) : bits .or .u32 (bits .or .u32 (bits .or .u32 (a.toNat : Int) ((b.toNat : Int) * 256)) ((c.toNat : Int) * 65536)) ((d.toNat : Int) * 16777216) = ((num4 [a, b, c, d] : Nat) : Int) := by
  have ha := a.toNat_lt
  have hb := b.toNat_lt
  have hc := c.toNat_lt
  have hd := d.toNat_lt
  have W : ∀ n : Int, 0 ≤ n → n < 2 ^ 32 → IntKind.u32.wrap n = n := fun n h0 h1 => by rw [IntKind.wrap_u32]; omega
  have sw : ∀ x y : Int, bits .or .u32 x y = bits .or .u32 y x := fun x y => by
    show IntKind.u32.wrap ((BitVec.ofInt 32 x ||| BitVec.ofInt 32 y).toNat : Int) = IntKind.u32.wrap ((BitVec.ofInt 32 y ||| BitVec.ofInt 32 x).toNat : Int)
    rw [BitVec.or_comm]
  have e1 : bits .or .u32 (a.toNat : Int) ((b.toNat : Int) * 256) = (b.toNat : Int) * 256 + (a.toNat : Int) := by
    rw [sw]; exact bits_join .u32 32 (by decide) W 8 _ _ (by omega) (by omega) (by omega) (by omega) (by omega) (by omega)
  have e2 : bits .or .u32 ((b.toNat : Int) * 256 + (a.toNat : Int)) ((c.toNat : Int) * 65536) = (c.toNat : Int) * 65536 + ((b.toNat : Int) * 256 + (a.toNat : Int)) := by
    rw [sw]; exact bits_join .u32 32 (by decide) W 16 _ _ (by omega) (by omega) (by omega) (by omega) (by omega) (by omega)
  have e3 : bits .or .u32 ((c.toNat : Int) * 65536 + ((b.toNat : Int) * 256 + (a.toNat : Int))) ((d.toNat : Int) * 16777216) = (d.toNat : Int) * 16777216 + ((c.toNat : Int) * 65536 + ((b.toNat : Int) * 256 + (a.toNat : Int))) := by
    rw [sw]; exact bits_join .u32 32 (by decide) W 24 _ _ (by omega) (by omega) (by omega) (by omega) (by omega) (by omega)
  rw [e1, e2, e3]
  show _ = ((a.toNat + 256 * b.toNat + 65536 * c.toNat + 16777216 * d.toNat : Nat) : Int)
  omega

set_option maxRecDepth 100000 in
theorem four_any (n : Nat) (w : World) (hn : n < 4294967296) :
    Calls Tryd.prog 30 #[.int .u32 (n : Nat)] w fun e w' => e = .returned (.string ⟨(fourL n).toArray⟩) ∧ Below w.heap.size w w' := by
  have h0 := Below.refl w.heap.size w
  obtain ⟨e1, e2, e3, e4⟩ := four_bytes n hn
  have hcv := fun w => Conv.conv4 ((n : Int) % 256) ((n : Int) / 256 % 256) ((n : Int) / 65536 % 256) ((n : Int) / 16777216) (UInt8.ofNat n) (UInt8.ofNat (n / 256)) (UInt8.ofNat (n / 65536)) (UInt8.ofNat (n / 16777216)) e1 e2 e3 e4 w w.heap.size rfl
  clear e1 e2 e3 e4
  have HV : Hid (fourL n = [UInt8.ofNat n, UInt8.ofNat (n / 256), UInt8.ofNat (n / 65536), UInt8.ofNat (n / 16777216)]) := Lib.hid rfl
  go_enter Tryd.func30, Tryd.ntmps30
  go_wp2
  go_ret
  exact ⟨by rw [HV.out]; rfl, balloc h0 _⟩
end Frame
namespace RefFrame
open Go.RowKit Go.Proofs.YtcfimfoccbaepaaDoor.Frame
set_option maxRecDepth 100000 in
theorem four_any (n : Nat) (w : World) (hn : n < 4294967296) :
    Calls Tryd.prog 39 #[.int .u32 (n : Nat)] w fun e w' => e = .returned (.string ⟨(fourL n).toArray⟩) ∧ Below w.heap.size w w' := by
  have h0 := Below.refl w.heap.size w
  obtain ⟨e1, e2, e3, e4⟩ := four_bytes n hn
  have hcv := fun w => Conv.conv4 ((n : Int) % 256) ((n : Int) / 256 % 256) ((n : Int) / 65536 % 256) ((n : Int) / 16777216) (UInt8.ofNat n) (UInt8.ofNat (n / 256)) (UInt8.ofNat (n / 65536)) (UInt8.ofNat (n / 16777216)) e1 e2 e3 e4 w w.heap.size rfl
  clear e1 e2 e3 e4
  have HV : Hid (fourL n = [UInt8.ofNat n, UInt8.ofNat (n / 256), UInt8.ofNat (n / 65536), UInt8.ofNat (n / 16777216)]) := Lib.hid rfl
  go_enter Tryd.func39, Tryd.ntmps39
  go_wp2
  go_ret
  exact ⟨by rw [HV.out]; rfl, balloc h0 _⟩
end RefFrame
namespace Frame
open Go.RowKit
set_option maxRecDepth 100000 in
theorem number_any (l : List UInt8) (w : World) (hl : 4 ≤ l.length) (hm : l.length ≤ 9223372036854775807) :
    Calls Tryd.prog 28 #[.string ⟨l.toArray⟩] w fun e w' => e = .returned (.int .u32 (num4 l : Nat)) ∧ Below w.heap.size w w' := by
  have hb := Below.refl w.heap.size w
  have hsz := Str.size_mk l
  obtain ⟨a, b, c, d, r, rfl⟩ : ∃ a b c d r, l = a :: b :: c :: d :: r := by
    match l, hl with
    | a :: b :: c :: d :: r, _ => exact ⟨a, b, c, d, r, rfl⟩
  have HV : Hid (num4 (a :: b :: c :: d :: r) = num4 [a, b, c, d]) := Lib.hid rfl
  have ho := or4 a b c d
  obtain ⟨s, hs⟩ : ∃ s : ByteArray, s = { data := (a :: b :: c :: d :: r).toArray } := ⟨_, rfl⟩
  have hsz : s.size = (a :: b :: c :: d :: r).length := by rw [hs, Str.size_mk]
  obtain ⟨n, hn⟩ : ∃ n, n = (a :: b :: c :: d :: r).length := ⟨_, rfl⟩
  rw [← hn] at hsz hl hm
  have g0 : ∀ h : 0 < s.size, s[0]'h = a := by subst hs; exact fun _ => rfl
  have g1 : ∀ h : 1 < s.size, s[1]'h = b := by subst hs; exact fun _ => rfl
  have g2 : ∀ h : 2 < s.size, s[2]'h = c := by subst hs; exact fun _ => rfl
  have g3 : ∀ h : 3 < s.size, s[3]'h = d := by subst hs; exact fun _ => rfl
  have i0 : (0 : Int) < (n : Int) := by omega
  have i1 : (1 : Int) < (n : Int) := by omega
  have i2 : (2 : Int) < (n : Int) := by omega
  have i3 : (3 : Int) < (n : Int) := by omega
  have va : IntKind.u32.wrap (a.toNat : Int) = (a.toNat : Int) := by have := a.toNat_lt; rw [IntKind.wrap_u32]; omega
  have vb : IntKind.u32.wrap (b.toNat : Int) = (b.toNat : Int) := by have := b.toNat_lt; rw [IntKind.wrap_u32]; omega
  have vc : IntKind.u32.wrap (c.toNat : Int) = (c.toNat : Int) := by have := c.toNat_lt; rw [IntKind.wrap_u32]; omega
  have vd : IntKind.u32.wrap (d.toNat : Int) = (d.toNat : Int) := by have := d.toNat_lt; rw [IntKind.wrap_u32]; omega
  have k0 : 0 < n := by omega
  have k1 : 1 < n := by omega
  have k2 : 2 < n := by omega
  have k3 : 3 < n := by omega
  have w1 : IntKind.u32.wrap ((b.toNat : Int) * 256) = (b.toNat : Int) * 256 := by have := b.toNat_lt; rw [IntKind.wrap_u32]; omega
  have w2 : IntKind.u32.wrap ((c.toNat : Int) * 65536) = (c.toNat : Int) * 65536 := by have := c.toNat_lt; rw [IntKind.wrap_u32]; omega
  have w3 : IntKind.u32.wrap ((d.toNat : Int) * 16777216) = (d.toNat : Int) * 16777216 := by have := d.toNat_lt; rw [IntKind.wrap_u32]; omega
  rw [← hs]
  clear hs hn
  go_enter Tryd.func28, Tryd.ntmps28
  go_wp2_with fail
  refine wp_region_noPanic ?_
  refine wp_region_held_drew (S := (fun w' => Below w.heap.size w w')) (by kernel_rfl) (Below.drew hb) (fun hHeld => ?_)
  refine wpAnyH_take (i := 0) (v := ?_) (by simp only [List.getElem?_toArray, List.getElem?_cons_zero]; rfl) (by kernel_rfl) (by kernel_rfl) (by kernel_rfl) (fun _ _ _ h => h) (Or.inl ⟨by rfl, ?_⟩) (by assumption) ?_
  rotate_left
  · (intro w hSw; (try dsimp only at hSw); go_simp; try with_reducible rfl)
  try simp only [Act.put, List.setIfInBounds_toArray, List.set_cons_zero, List.set_cons_succ]
  refine wpAnyH_take (i := 1) (v := ?_) (by simp only [List.getElem?_toArray, List.getElem?_cons_succ, List.getElem?_cons_zero]; rfl) (by kernel_rfl) (by kernel_rfl) (by kernel_rfl) (fun _ _ _ h => h) (Or.inl ⟨by rfl, ?_⟩) (by assumption) ?_
  rotate_left
  · (intro w hSw; (try dsimp only at hSw); go_simp; try with_reducible rfl)
  try simp only [Act.put, List.setIfInBounds_toArray, List.set_cons_zero, List.set_cons_succ]
  refine wpAnyH_take (i := 2) (v := ?_) (by simp only [List.getElem?_toArray, List.getElem?_cons_succ, List.getElem?_cons_zero]; rfl) (by kernel_rfl) (by kernel_rfl) (by kernel_rfl) (fun _ _ _ h => h) (Or.inl ⟨by rfl, ?_⟩) (by assumption) ?_
  rotate_left
  · (intro w hSw; (try dsimp only at hSw); go_simp; try with_reducible rfl)
  try simp only [Act.put, List.setIfInBounds_toArray, List.set_cons_zero, List.set_cons_succ]
  refine wpAnyH_take (i := 3) (v := ?_) (by simp only [List.getElem?_toArray, List.getElem?_cons_succ, List.getElem?_cons_zero]; rfl) (by kernel_rfl) (by kernel_rfl) (by kernel_rfl) (fun _ _ _ h => h) (Or.inl ⟨by rfl, ?_⟩) (by assumption) ?_
  rotate_left
  · (intro w hSw; (try dsimp only at hSw); go_simp; try with_reducible rfl)
  try simp only [Act.put, List.setIfInBounds_toArray, List.set_cons_zero, List.set_cons_succ]
  refine wpAnyH_take (i := 4) (v := ?_) (by simp only [List.getElem?_toArray, List.getElem?_cons_succ, List.getElem?_cons_zero]; rfl) (by kernel_rfl) (by kernel_rfl) (by kernel_rfl) (fun _ _ _ h => h) (Or.inl ⟨by rfl, ?_⟩) (by assumption) ?_
  rotate_left
  · (intro w hSw; (try dsimp only at hSw); go_simp; try with_reducible rfl)
  try simp only [Act.put, List.setIfInBounds_toArray, List.set_cons_zero, List.set_cons_succ]
  refine wpAnyH_take (i := 5) (v := ?_) (by simp only [List.getElem?_toArray, List.getElem?_cons_succ, List.getElem?_cons_zero]; rfl) (by kernel_rfl) (by kernel_rfl) (by kernel_rfl) (fun _ _ _ h => h) (Or.inl ⟨by rfl, ?_⟩) (by assumption) ?_
  rotate_left
  · (intro w hSw; (try dsimp only at hSw); go_simp; try with_reducible rfl)
  try simp only [Act.put, List.setIfInBounds_toArray, List.set_cons_zero, List.set_cons_succ]
  refine wpAnyH_take (i := 6) (v := ?_) (by simp only [List.getElem?_toArray, List.getElem?_cons_succ, List.getElem?_cons_zero]; rfl) (by kernel_rfl) (by kernel_rfl) (by kernel_rfl) (fun _ _ _ h => h) (Or.inl ⟨by rfl, ?_⟩) (by assumption) ?_
  rotate_left
  · (intro w hSw; (try dsimp only at hSw); go_simp; try with_reducible rfl)
  try simp only [Act.put, List.setIfInBounds_toArray, List.set_cons_zero, List.set_cons_succ]
  refine wpAnyH_take (i := 7) (v := ?_) (by simp only [List.getElem?_toArray, List.getElem?_cons_succ, List.getElem?_cons_zero]; rfl) (by kernel_rfl) (by kernel_rfl) (by kernel_rfl) (fun _ _ _ h => h) (Or.inl ⟨by rfl, ?_⟩) (by assumption) ?_
  rotate_left
  · (intro w hSw; (try dsimp only at hSw); go_simp; try with_reducible rfl)
  try simp only [Act.put, List.setIfInBounds_toArray, List.set_cons_zero, List.set_cons_succ]
  refine wpAnyH_take (i := 8) (v := ?_) (by simp only [List.getElem?_toArray, List.getElem?_cons_succ, List.getElem?_cons_zero]; rfl) (by kernel_rfl) (by kernel_rfl) (by kernel_rfl) (fun _ _ _ h => h) (Or.inl ⟨by rfl, ?_⟩) (by assumption) ?_
  rotate_left
  · (intro w hSw; (try dsimp only at hSw); go_simp; try with_reducible rfl)
  try simp only [Act.put, List.setIfInBounds_toArray, List.set_cons_zero, List.set_cons_succ]
  refine wpAnyH_take (i := 9) (v := ?_) (by simp only [List.getElem?_toArray, List.getElem?_cons_succ, List.getElem?_cons_zero]; rfl) (by kernel_rfl) (by kernel_rfl) (by kernel_rfl) (fun _ _ _ h => h) (Or.inl ⟨by rfl, ?_⟩) (by assumption) ?_
  rotate_left
  · (intro w hSw; (try dsimp only at hSw); go_simp; try with_reducible rfl)
  try simp only [Act.put, List.setIfInBounds_toArray, List.set_cons_zero, List.set_cons_succ]
  refine wpAnyH_take (i := 10) (v := ?_) (by simp only [List.getElem?_toArray, List.getElem?_cons_succ, List.getElem?_cons_zero]; rfl) (by kernel_rfl) (by kernel_rfl) (by kernel_rfl) (fun _ _ _ h => h) (Or.inl ⟨by rfl, ?_⟩) (by assumption) ?_
  rotate_left
  · (intro w hSw; (try dsimp only at hSw); go_simp; try with_reducible rfl)
  try simp only [Act.put, List.setIfInBounds_toArray, List.set_cons_zero, List.set_cons_succ]
  refine wpAnyH_take (i := 11) (v := ?_) (by simp only [List.getElem?_toArray, List.getElem?_cons_succ, List.getElem?_cons_zero]; rfl) (by kernel_rfl) (by kernel_rfl) (by kernel_rfl) (fun _ _ _ h => h) (Or.inl ⟨by rfl, ?_⟩) (by assumption) ?_
  rotate_left
  · (intro w hSw; (try dsimp only at hSw); go_simp; try with_reducible rfl)
  try simp only [Act.put, List.setIfInBounds_toArray, List.set_cons_zero, List.set_cons_succ]
  refine wpAnyH_take (i := 12) (v := ?_) (by simp only [List.getElem?_toArray, List.getElem?_cons_succ, List.getElem?_cons_zero]; rfl) (by kernel_rfl) (by kernel_rfl) (by kernel_rfl) (fun _ _ _ h => h) (Or.inl ⟨by rfl, ?_⟩) (by assumption) ?_
  rotate_left
  · (intro w hSw; (try dsimp only at hSw); go_simp; try with_reducible rfl)
  try simp only [Act.put, List.setIfInBounds_toArray, List.set_cons_zero, List.set_cons_succ]
  refine wpAnyH_take (i := 13) (v := ?_) (by simp only [List.getElem?_toArray, List.getElem?_cons_succ, List.getElem?_cons_zero]; rfl) (by kernel_rfl) (by kernel_rfl) (by kernel_rfl) (fun _ _ _ h => h) (Or.inl ⟨by rfl, ?_⟩) (by assumption) ?_
  rotate_left
  · (intro w hSw; (try dsimp only at hSw); go_simp; try with_reducible rfl)
  try simp only [Act.put, List.setIfInBounds_toArray, List.set_cons_zero, List.set_cons_succ]
  refine wpAnyH_take (i := 14) (v := ?_) (by simp only [List.getElem?_toArray, List.getElem?_cons_succ, List.getElem?_cons_zero]; rfl) (by kernel_rfl) (by kernel_rfl) (by kernel_rfl) (fun _ _ _ h => h) (Or.inl ⟨by rfl, ?_⟩) (by assumption) ?_
  rotate_left
  · (intro w hSw; (try dsimp only at hSw); go_simp; try with_reducible rfl)
  try simp only [Act.put, List.setIfInBounds_toArray, List.set_cons_zero, List.set_cons_succ]
  refine wpAnyH_take (i := 15) (v := ?_) (by simp only [List.getElem?_toArray, List.getElem?_cons_succ, List.getElem?_cons_zero]; rfl) (by kernel_rfl) (by kernel_rfl) (by kernel_rfl) (fun _ _ _ h => h) (Or.inl ⟨by rfl, ?_⟩) (by assumption) ?_
  rotate_left
  · (intro w hSw; (try dsimp only at hSw); go_simp; try with_reducible rfl)
  try simp only [Act.put, List.setIfInBounds_toArray, List.set_cons_zero, List.set_cons_succ]
  refine wpAnyH_take (i := 16) (v := ?_) (by simp only [List.getElem?_toArray, List.getElem?_cons_succ, List.getElem?_cons_zero]; rfl) (by kernel_rfl) (by kernel_rfl) (by kernel_rfl) (fun _ _ _ h => h) (Or.inl ⟨by rfl, ?_⟩) (by assumption) ?_
  rotate_left
  · (intro w hSw; (try dsimp only at hSw); go_simp; try with_reducible rfl)
  try simp only [Act.put, List.setIfInBounds_toArray, List.set_cons_zero, List.set_cons_succ]
  refine wpAnyH_take (i := 17) (v := ?_) (by simp only [List.getElem?_toArray, List.getElem?_cons_succ, List.getElem?_cons_zero]; rfl) (by kernel_rfl) (by kernel_rfl) (by kernel_rfl) (fun _ _ _ h => h) (Or.inl ⟨by rfl, ?_⟩) (by assumption) ?_
  rotate_left
  · (intro w hSw; (try dsimp only at hSw); go_simp; try with_reducible rfl)
  try simp only [Act.put, List.setIfInBounds_toArray, List.set_cons_zero, List.set_cons_succ]
  refine wpAnyH_take (i := 18) (v := ?_) (by simp only [List.getElem?_toArray, List.getElem?_cons_succ, List.getElem?_cons_zero]; rfl) (by kernel_rfl) (by kernel_rfl) (by kernel_rfl) (fun _ _ _ h => h) (Or.inl ⟨by rfl, ?_⟩) (by assumption) ?_
  rotate_left
  · (intro w hSw; (try dsimp only at hSw); go_simp; try with_reducible rfl)
  try simp only [Act.put, List.setIfInBounds_toArray, List.set_cons_zero, List.set_cons_succ]
  refine wpAnyH_done (by kernel_rfl) ?_ _
  refine NoPanic.normal ?_
  clear hb
  have hb := hHeld
  clear hHeld
  go_wp2
  go_ret
  exact ⟨by rw [HV.out, ← ho]; rfl, hb⟩
theorem sum_any (a l : List UInt8) (w : World) (ha : a.length ≤ 9223372036854775807) (hl : l.length ≤ 9223372036854775807) (ht : Crc.Tab w) :
    Calls Tryd.prog 29 #[.string ⟨a.toArray⟩, .string ⟨l.toArray⟩] w fun e w' => e = .returned (.int .u32 (Crc.onN 0 (a ++ l) : Nat)) ∧ w = w' := by
  have C := Lib.hid (Crc.of_any a w ha ht)
  have D := Lib.hid (Crc.on_any (Crc.onN 0 a) l w hl ht)
  have HV := Lib.hid (Crc.onN_append 0 a l)
  clear ht
  go_enter Tryd.func29, Tryd.ntmps29
  go_wp2_with fail
  refine (C.out).mono ?_
  rintro e w' ⟨rfl, rfl⟩
  go_wp2_with fail
  refine (D.out).mono ?_
  rintro e w' ⟨rfl, rfl⟩
  go_wp2
  go_ret
  exact ⟨by rw [HV.out]; rfl, rfl⟩
theorem size_any (l : List UInt8) (w : World) (hl : l.length ≤ 1099511627776) :
    Calls Tryd.prog 38 #[.string ⟨l.toArray⟩] w fun e w' => e = .returned (.int .i64 ((8 + l.length : Nat) : Int)) ∧ w = w' := by
  have hsz := Str.size_mk l
  have hw : IntKind.i64.wrap (8 + (l.length : Int)) = ((8 + l.length : Nat) : Int) := by rw [IntKind.wrap_i64]; omega
  go_enter Tryd.func38, Tryd.ntmps38
  go_wp2
  go_ret
  exact ⟨by rfl, rfl⟩

end Frame
end Go.Proofs.YtcfimfoccbaepaaDoor
