/- crc: On, Of; its table; the reference's On, Of. -/
import Derived.Test.YtcfimfoccbaepaaDoorCrc
import Derived.Test.YtcfimfoccbaepaaDoorProg
import Derived.Test.YtcfimfoccbaepaaDoorStr
import Derived.WalkKit
import Derived.WalkSpells
import Derived.WalkLawsBesides
import Derived.Lib.Hide
import Derived.Lib.LaidTab
import Derived.Laws.Bits64b
namespace Go.Proofs.YtcfimfoccbaepaaDoor
namespace Crc
open Go.RowKit

def tab : List Int := [0, 274646895, 549293790, 820201905, 1098587580, 1361435347, 1640403810, 1905808397, 2197175160, 2460548119, 2722870694, 2987750089, 3280807620, 3553878443, 3811616794, 4084100981]
theorem tab_at : ∀ i : Fin 16, tab.getD i.val 0 = ((Pn 4 (BitVec.ofNat 32 i.val)).toNat : Int) := by decide
/-- The table lies as the program's text lays it. -/
def Tab (w : World) : Prop := Lib.TabIs Tryd.prog w "gossamer/crc.table" .u32 tab
theorem Tab.below {w w' : World} (h : Tab w) (k : Below w.heap.size w w') : Tab w' := by
  unfold Tab Lib.TabIs World.var? at h ⊢
  cases hg : Tryd.prog.globalNamed "gossamer/crc.table" with
  | none => rw [hg] at h; cases h
  | some g =>
    rw [hg] at h
    simp only [Option.bind_some] at h ⊢
    have hlt : g < w.heap.size := by
      rcases Nat.lt_or_ge g w.heap.size with h' | h'
      · exact h'
      · rw [Array.getElem?_eq_none h'] at h; cases h
    rw [k.block g hlt]
    exact h
theorem Tab.cell {w : World} (h : Tab w) (i : Nat) (hi : i < 16) : w.cell? ⟨0, i, none⟩ = some (.int .u32 (tab.getD i 0)) := by
  unfold Tab Lib.TabIs World.var? at h
  rw [show Tryd.prog.globalNamed "gossamer/crc.table" = some 0 by kernel_rfl] at h
  simp only [Option.bind_some] at h
  cases h0 : w.heap[0]? with
  | none => rw [h0] at h; cases h
  | some o =>
    rw [h0] at h
    cases o with
    | cells cs elem frozen =>
      simp only [Option.some.injEq] at h
      subst h
      have hv : (List.map (fun z => Value.int IntKind.u32 z) tab)[i]? = some (.int .u32 (tab.getD i 0)) := by
        rw [List.getElem?_map, List.getD_eq_getElem?_getD]
        have hlt : i < tab.length := hi
        rw [List.getElem?_eq_getElem hlt]; rfl
      rw [World.cell?]
      simp only [h0]
      rw [if_neg (by decide), List.getElem?_toArray]
      exact hv
    | _ => cases h

theorem xor32 (a b : BitVec 32) : bits .xor .u32 (a.toNat : Int) (b.toNat : Int) = ((a ^^^ b).toNat : Int) := by
  show IntKind.u32.wrap ((BitVec.ofInt 32 (a.toNat : Int) ^^^ BitVec.ofInt 32 (b.toNat : Int)).toNat : Int) = _
  rw [BitVec.ofInt_natCast, BitVec.ofInt_natCast, BitVec.ofNat_toNat, BitVec.ofNat_toNat, BitVec.setWidth_eq, BitVec.setWidth_eq, IntKind.wrap_u32]
  have := (a ^^^ b).isLt
  omega
theorem and32 (a b : BitVec 32) : bits .and .u32 (a.toNat : Int) (b.toNat : Int) = ((a &&& b).toNat : Int) := by
  show IntKind.u32.wrap ((BitVec.ofInt 32 (a.toNat : Int) &&& BitVec.ofInt 32 (b.toNat : Int)).toNat : Int) = _
  rw [BitVec.ofInt_natCast, BitVec.ofInt_natCast, BitVec.ofNat_toNat, BitVec.ofNat_toNat, BitVec.setWidth_eq, BitVec.setWidth_eq, IntKind.wrap_u32]
  have := (a &&& b).isLt
  omega

theorem not32 (s : Nat) : bits .xor .u32 IntKind.u32.max (s : Int) = ((~~~ (BitVec.ofNat 32 s)).toNat : Int) := by
  show IntKind.u32.wrap ((BitVec.ofInt 32 IntKind.u32.max ^^^ BitVec.ofInt 32 (s : Int)).toNat : Int) = _
  rw [show BitVec.ofInt 32 IntKind.u32.max = BitVec.allOnes 32 by decide, BitVec.ofInt_natCast, BitVec.allOnes_xor, IntKind.wrap_u32]
  have := (~~~ (BitVec.ofNat 32 s)).isLt
  omega
theorem byte32 (b : UInt8) : ((b.toNat : Nat) : Int) = ((BitVec.ofNat 32 b.toNat).toNat : Int) := by
  have := b.toNat_lt
  rw [BitVec.toNat_ofNat, Nat.mod_eq_of_lt (by omega)]
theorem shr4 (x : BitVec 32) : (x.toNat : Int) / (16 : Int) = ((x >>> 4).toNat : Int) := by
  rw [BitVec.toNat_ushiftRight, Nat.shiftRight_eq_div_pow]; omega
theorem low4 (x : BitVec 32) : (x &&& 15#32).toNat < 16 := by
  rw [BitVec.toNat_and]
  exact Nat.lt_of_le_of_lt Nat.and_le_right (by decide)
/-- What four bits do, in the walk's words. -/
theorem nib_walk (x : BitVec 32) : ∃ i : Nat, i < 16 ∧ bits .and .u32 (x.toNat : Int) 15 = (i : Int) ∧ bits .xor .u32 ((x.toNat : Int) / (16 : Int)) (tab.getD i 0) = ((nib x).toNat : Int) := by
  refine ⟨(x &&& 15#32).toNat, low4 x, and32 x 15#32, ?_⟩
  have h := tab_at ⟨(x &&& 15#32).toNat, low4 x⟩
  simp only at h
  rw [h, shr4, BitVec.ofNat_toNat, BitVec.setWidth_eq, xor32]
  rfl

set_option maxRecDepth 100000 in
set_option maxHeartbeats 1000000 in
theorem on_any (s : Nat) (l : List UInt8) (w : World) (hl : l.length ≤ 9223372036854775807) (ht : Tab w) :
    Calls Tryd.prog 47 #[.int .u32 (s : Nat), .string ⟨l.toArray⟩] w fun e w' => e = .returned (.int .u32 (onN s l : Nat)) ∧ w = w' := by
  have hsz := Str.size_mk l
  have C := Lib.hid (fun i hi => ht.cell i hi)
  clear ht
  have hsg : IntKind.u32.signed = false := rfl
  have hn1 := not32 s
  obtain ⟨X, hX⟩ : ∃ X, X = l.foldl step (~~~ (BitVec.ofNat 32 s)) := ⟨_, rfl⟩
  have HV : Hid (onN s l = (~~~ X).toNat) := Lib.hid (by rw [hX]; rfl)
  have hn2 := not32 X.toNat
  rw [BitVec.ofNat_toNat, BitVec.setWidth_eq] at hn2
  obtain ⟨N, hN⟩ : ∃ N, N = (~~~ X).toNat := ⟨_, rfl⟩
  rw [← hN] at hn2 HV
  clear hN
  obtain ⟨x0, hx0⟩ : ∃ x, x = ~~~ (BitVec.ofNat 32 s) := ⟨_, rfl⟩
  rw [← hx0] at hX hn1
  have HX := Lib.hid hX
  clear hX hx0
  have hget : ∀ (k : Nat) (h : k < ({ data := l.toArray } : ByteArray).size), ({ data := l.toArray } : ByteArray)[k]'h = l[k]'(by rw [Str.size_mk] at h; exact h) := fun _ _ => rfl
  have HG := Lib.hid hget
  clear hget
  obtain ⟨m, hm⟩ : ∃ m, m = l.length := ⟨_, rfl⟩
  rw [← hm] at hsz hl
  have HM := Lib.hid hm
  clear hm
  go_enter Tryd.func47, Tryd.ntmps47
  go_wp2_with fail
  go_loop [5, 11] (fun r i => ∃ (k : Nat) (x : BitVec 32), k ≤ m ∧ i = .int .i64 k ∧ r = .int .u32 (x.toNat : Int) ∧ Hid ((l.drop k).foldl step x = X)) (fun _ i => m - (intOf i).toNat)
  case atStart => exact ⟨0, x0, by omega, rfl, rfl, Lib.hid HX.out.symm⟩
  case round =>
    obtain ⟨k, x, hk, rfl, rfl, HD⟩ := hrel
    have hlen := HM.out
    by_cases hlt : k < m
    · have hd1 : decide ((k : Int) < (m : Int)) = true := decide_eq_true (by omega)
      have hkl : k < l.length := by omega
      obtain ⟨b, hx⟩ : ∃ b, b = l[k]'hkl := ⟨_, rfl⟩
      have hgk : ∀ h : k < ({ data := l.toArray } : ByteArray).size, ({ data := l.toArray } : ByteArray)[k]'h = b := fun h => (HG.out k h).trans hx.symm
      have hdr : l.drop k = b :: l.drop (k + 1) := by rw [List.drop_eq_getElem_cons hkl, ← hx]
      have HD2 : Hid ((l.drop (k + 1)).foldl step (step x b) = X) := Lib.hid (by rw [← HD.out, hdr, List.foldl_cons])
      obtain ⟨y, hy⟩ : ∃ y, y = x ^^^ BitVec.ofNat 32 b.toNat := ⟨_, rfl⟩
      have w1 : bits .xor .u32 (x.toNat : Int) (b.toNat : Int) = (y.toNat : Int) := by rw [byte32, xor32, hy]
      obtain ⟨i1, hi1, w2, w3⟩ := nib_walk y
      have c1 := C.out i1 hi1
      obtain ⟨i2, hi2, w4, w5⟩ := nib_walk (nib y)
      have c2 := C.out i2 hi2
      have HS : Hid (nib (nib y) = step x b) := Lib.hid (by rw [hy]; exact step_nib x b)
      obtain ⟨z, hz⟩ : ∃ z, z = nib y := ⟨_, rfl⟩
      obtain ⟨t1, ht1⟩ : ∃ t, t = tab.getD i1 0 := ⟨_, rfl⟩
      obtain ⟨t2, ht2⟩ : ∃ t, t = tab.getD i2 0 := ⟨_, rfl⟩
      rw [← hz] at w3 w4 w5 HS
      rw [← ht1] at c1 w3
      rw [← ht2] at c2 w5
      obtain ⟨v, hv⟩ : ∃ v, v = nib z := ⟨_, rfl⟩
      rw [← hv] at w5 HS
      have hx256 := b.toNat_lt
      have h0k : (0 : Int) ≤ (k : Int) := by omega
      have j1 : (0 : Int) ≤ (i1 : Int) := by omega
      have j2 : (i1 : Int) < 16 := by omega
      have j3 : (0 : Int) ≤ (i2 : Int) := by omega
      have j4 : (i2 : Int) < 16 := by omega
      clear hx hdr hlen hy hz ht1 ht2 hv HD
      go_wp2
      go_round
      case rel => exact ⟨k + 1, v, by omega, by go_num, rfl, Lib.hid (by rw [HS.out]; exact HD2.out)⟩
      case measure => simp [intOf]; omega
    · obtain rfl : k = m := by omega
      have hxX : x = X := by have := HD.out; rw [List.drop_of_length_le (by omega)] at this; exact this
      subst hxX
      have hd1 : decide ((k : Int) < (k : Int)) = false := decide_eq_false (by omega)
      clear hlen HD
      go_wp2
      go_ret
      exact ⟨by rw [HV.out]; rfl, rfl⟩
theorem of_any (l : List UInt8) (w : World) (hl : l.length ≤ 9223372036854775807) (ht : Tab w) :
    Calls Tryd.prog 48 #[.string ⟨l.toArray⟩] w fun e w' => e = .returned (.int .u32 (onN 0 l : Nat)) ∧ w = w' := by
  have C := Lib.hid (on_any 0 l w hl ht)
  clear ht
  go_enter Tryd.func48, Tryd.ntmps48
  go_wp2_with fail
  refine (C.out).mono ?_
  rintro e w' ⟨rfl, rfl⟩
  go_wp2
  go_ret
  exact ⟨rfl, rfl⟩
end Crc
namespace RefCrc
open Go.RowKit Go.Proofs.YtcfimfoccbaepaaDoor.Crc

theorem and1 (x : BitVec 32) : x &&& 1#32 = if x.getLsbD 0 then 1#32 else 0#32 := by
  apply BitVec.eq_of_getLsbD_eq
  intro i hi
  rw [BitVec.getLsbD_and]
  cases i with
  | zero => cases x.getLsbD 0 <;> rfl
  | succ i =>
    have h1 : (1#32).getLsbD (i + 1) = false := by simp
    rw [h1, Bool.and_false]
    cases x.getLsbD 0
    · simp
    · simp
/-- One bit, in the walk's words. -/
theorem bit_walk (y : BitVec 32) (b : UInt8) (j : Nat) : ∃ d e : Nat, bits .and .u32 ((b.toNat : Int) / 2 ^ j % 4294967296) 1 = (d : Int) ∧ bits .and .u32 (y.toNat : Int) 1 = (e : Int) ∧
    ((bits .xor .u32 (d : Int) (e : Int) = 1 ∧ bits .xor .u32 ((y.toNat : Int) / 2) 2197175160 = ((bitStep y b.toNat j).toNat : Int)) ∨
     (bits .xor .u32 (d : Int) (e : Int) = 0 ∧ (y.toNat : Int) / 2 = ((bitStep y b.toNat j).toNat : Int))) := by
  have hb : b.toNat < 256 := b.toNat_lt
  obtain ⟨q, hq⟩ : ∃ q, q = b.toNat / 2 ^ j := ⟨_, rfl⟩
  have hq2 : q < 256 := by rw [hq]; exact Nat.lt_of_le_of_lt (Nat.div_le_self _ _) hb
  have e1 : (b.toNat : Int) / 2 ^ j % 4294967296 = ((BitVec.ofNat 32 q).toNat : Int) := by
    rw [BitVec.toNat_ofNat, Nat.mod_eq_of_lt (by omega), hq]
    have : (b.toNat : Int) / 2 ^ j = ((b.toNat / 2 ^ j : Nat) : Int) := by simp
    rw [this, ← hq]; omega
  have e2 : (y.toNat : Int) / (2 : Int) = ((y >>> 1).toNat : Int) := by rw [BitVec.toNat_ushiftRight, Nat.shiftRight_eq_div_pow]; omega
  have e3 : (BitVec.ofNat 32 q).getLsbD 0 = b.toNat.testBit j := by
    rw [BitVec.getLsbD_ofNat, hq, ← Nat.shiftRight_eq_div_pow, Nat.testBit_shiftRight]; simp
  refine ⟨(BitVec.ofNat 32 q &&& 1#32).toNat, (y &&& 1#32).toNat, by rw [e1]; exact and32 _ 1#32, and32 y 1#32, ?_⟩
  rw [xor32, and1, and1, e3, e2]
  unfold bitStep
  cases b.toNat.testBit j <;> cases y.getLsbD 0
  · exact .inr ⟨by decide, by simp⟩
  · exact .inl ⟨by decide, xor32 (y >>> 1) 2197175160#32⟩
  · exact .inl ⟨by decide, xor32 (y >>> 1) 2197175160#32⟩
  · exact .inr ⟨by decide, by simp⟩

set_option maxRecDepth 100000 in
set_option maxHeartbeats 1000000 in
theorem on_any (s : Nat) (l : List UInt8) (w : World) (hl : l.length ≤ 1099511627776) :
    Calls Tryd.prog 57 #[.int .u32 (s : Nat), .string ⟨l.toArray⟩] w fun e w' => e = .returned (.int .u32 (onN s l : Nat)) ∧ w = w' := by
  have hsz := Str.size_mk l
  have hsg : IntKind.u32.signed = false := rfl
  have hn1 := not32 s
  obtain ⟨X, hX⟩ : ∃ X, X = l.foldl Crc.step (~~~ (BitVec.ofNat 32 s)) := ⟨_, rfl⟩
  have HV : Hid (onN s l = (~~~ X).toNat) := Lib.hid (by rw [hX]; rfl)
  have hn2 := not32 X.toNat
  rw [BitVec.ofNat_toNat, BitVec.setWidth_eq] at hn2
  obtain ⟨N, hN⟩ : ∃ N, N = (~~~ X).toNat := ⟨_, rfl⟩
  rw [← hN] at hn2 HV
  clear hN
  obtain ⟨x0, hx0⟩ : ∃ x, x = ~~~ (BitVec.ofNat 32 s) := ⟨_, rfl⟩
  rw [← hx0] at hX hn1
  have HX := Lib.hid hX
  clear hX hx0
  have hget : ∀ (k : Nat) (h : k < ({ data := l.toArray } : ByteArray).size), ({ data := l.toArray } : ByteArray)[k]'h = l[k]'(by rw [Str.size_mk] at h; exact h) := fun _ _ => rfl
  have HG := Lib.hid hget
  clear hget
  obtain ⟨m, hm⟩ : ∃ m, m = l.length := ⟨_, rfl⟩
  rw [← hm] at hsz hl
  have HM := Lib.hid hm
  clear hm
  go_enter Tryd.func57, Tryd.ntmps57
  go_wp2_with fail
  go_loop [5, 6] (fun r i => ∃ (k : Nat) (x : BitVec 32), k ≤ m ∧ i = .int .i64 k ∧ r = .int .u32 (x.toNat : Int) ∧ Hid ((l.drop k).foldl Crc.step x = X)) (fun _ i => m - (intOf i).toNat)
  case atStart => exact ⟨0, x0, by omega, rfl, rfl, Lib.hid HX.out.symm⟩
  case round =>
    obtain ⟨k, x, hk, rfl, rfl, HD⟩ := hrel
    have hlen := HM.out
    by_cases hlt : k < m
    · have hd1 : decide ((k : Int) < (m : Int)) = true := decide_eq_true (by omega)
      have hkl : k < l.length := by omega
      obtain ⟨b, hx⟩ : ∃ b, b = l[k]'hkl := ⟨_, rfl⟩
      have hgk : ∀ h : k < ({ data := l.toArray } : ByteArray).size, ({ data := l.toArray } : ByteArray)[k]'h = b := fun h => (HG.out k h).trans hx.symm
      have hdr : l.drop k = b :: l.drop (k + 1) := by rw [List.drop_eq_getElem_cons hkl, ← hx]
      have HD2 : Hid ((l.drop (k + 1)).foldl Crc.step (Crc.step x b) = X) := Lib.hid (by rw [← HD.out, hdr, List.foldl_cons])
      have hx256 := b.toNat_lt
      have h0k : (0 : Int) ≤ (k : Int) := by omega
      have hwk : IntKind.i64.wrap ((k : Int) + 1) = (k : Int) + 1 := by rw [IntKind.wrap_i64]; omega
      clear hx hdr hlen HD
      go_wp2_with fail
      go_loop [5, 7] (fun r i => ∃ j : Nat, j ≤ 8 ∧ i = .int .i64 j ∧ r = .int .u32 ((bitsOf b.toNat j x).toNat : Int)) (fun _ i => 8 - (intOf i).toNat)
      case atStart => exact ⟨0, by omega, rfl, rfl⟩
      case round =>
        obtain ⟨j, hj, rfl, rfl⟩ := hrel
        by_cases hlt8 : j < 8
        · have hd2 : decide ((j : Int) < 8) = true := decide_eq_true (by omega)
          obtain ⟨d, e, f1, f2, f3⟩ := bit_walk (bitsOf b.toNat j x) b j
          have HZ : Hid (bitStep (bitsOf b.toNat j x) b.toNat j = bitsOf b.toNat (j + 1) x) := Lib.hid rfl
          obtain ⟨z, hz⟩ : ∃ z, z = bitStep (bitsOf b.toNat j x) b.toNat j := ⟨_, rfl⟩
          rw [← hz] at f3 HZ
          clear hz
          obtain ⟨y, hy⟩ : ∃ y, y = bitsOf b.toNat j x := ⟨_, rfl⟩
          rw [← hy] at f2 f3 ⊢
          clear hy
          have h0j : (0 : Int) ≤ (j : Int) := by omega
          rcases f3 with ⟨f3, f4⟩ | ⟨f3, f4⟩
          · have f5 : ((1 : Int) == 1) = true := rfl
            go_wp2
            go_round
            case rel => exact ⟨j + 1, by omega, by go_num, by rw [← HZ.out]⟩
            case measure => simp [intOf]; omega
          · have f5 : ((0 : Int) == 1) = false := rfl
            go_wp2
            go_round
            case rel => exact ⟨j + 1, by omega, by go_num, by rw [← HZ.out]⟩
            case measure => simp [intOf]; omega
        · obtain rfl : j = 8 := by omega
          have hd2 : decide ((8 : Int) < 8) = false := rfl
          have HB : Hid (bitsOf b.toNat 8 x = Crc.step x b) := Lib.hid (bits_step b x)
          obtain ⟨z, hz⟩ : ∃ z, z = bitsOf b.toNat 8 x := ⟨_, rfl⟩
          rw [← hz] at HB ⊢
          clear hz
          go_wp2
          go_round
          case rel => exact ⟨k + 1, z, by omega, by go_num, rfl, Lib.hid (by rw [HB.out]; exact HD2.out)⟩
          case measure => simp [intOf]; omega
    · obtain rfl : k = m := by omega
      have hxX : x = X := by have := HD.out; rw [List.drop_of_length_le (by omega)] at this; exact this
      subst hxX
      have hd1 : decide ((k : Int) < (k : Int)) = false := decide_eq_false (by omega)
      clear hlen HD
      go_wp2
      go_ret
      exact ⟨by rw [HV.out]; rfl, rfl⟩
theorem of_any (l : List UInt8) (w : World) (hl : l.length ≤ 1099511627776) :
    Calls Tryd.prog 40 #[.string ⟨l.toArray⟩] w fun e w' => e = .returned (.int .u32 (onN 0 l : Nat)) ∧ w = w' := by
  have C := Lib.hid (on_any 0 l w hl)
  go_enter Tryd.func40, Tryd.ntmps40
  go_wp2_with fail
  refine (C.out).mono ?_
  rintro e w' ⟨rfl, rfl⟩
  go_wp2
  go_ret
  exact ⟨rfl, rfl⟩
end RefCrc
end Go.Proofs.YtcfimfoccbaepaaDoor
