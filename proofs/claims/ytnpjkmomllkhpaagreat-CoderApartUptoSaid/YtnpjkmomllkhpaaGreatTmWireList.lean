/- package wire's writers: numbers, texts, truths. -/
import Derived.Test.YtnpjkmomllkhpaaGreatTmNumA
import Derived.Test.YtnpjkmomllkhpaaGreatTmBuild
import Derived.Lib.Hide
namespace Go.Proofs.YtnpjkmomllkhpaaGreat
open Go.RowKit

/-- The elements of a slice of strings that came in, each with its cell. -/
def Txts (w : World) (a : Option Addr) (len : Nat) (l : List ByteArray) : Prop :=
  l.length = len ∧ (∀ t ∈ l, t.size ≤ maxLen) ∧ (0 < len → ∃ b off, a = some ⟨b, off, none⟩ ∧ b < w.heap.size ∧ ∀ j (h : j < l.length), w.cell? ⟨b, off + j, none⟩ = some (.string l[j]))

theorem IsStrs.txts {w : World} {a : Option Addr} {len cap : Nat} {zs : List ByteArray} (h : IsStrs w a len cap zs) : len ≤ maxLen ∧ ∃ l, Txts w a len l := by
  rcases h with ⟨rfl, rfl, rfl, rfl⟩ | ⟨x, rfl, h1, h2, h3, h4, h5⟩
  · exact ⟨by unfold maxLen; omega, [], rfl, (fun n h => by cases h), (fun h => absurd h (by omega))⟩
  · refine ⟨by omega, zs.take len, by simp; omega, fun t ht => h5 t (List.mem_of_mem_take ht), fun hl => ?_⟩
    obtain ⟨b, off, rfl, hc⟩ : ∃ b off, x = ⟨b, off, none⟩ ∧ ∀ i, i < zs.length → w.cell? ⟨b, off + i, none⟩ = some (.string (zs.getD i ByteArray.empty)) := by
      obtain ⟨b, off, sp⟩ := x
      cases sp with
      | none => exact ⟨b, off, rfl, fun i hi => by have := h4 i hi; rwa [Addr.add_lit] at this⟩
      | some s =>
        have := World.cell?_spot (h4 0 (by omega))
        simp [Addr.add] at this
    refine ⟨b, off, rfl, World.block_lt_of_cell? _ _ (hc 0 (by omega)), fun j hj => ?_⟩
    have hj' : j < len := by simp at hj; omega
    rw [hc j (by omega)]
    simp only [List.getElem_take, List.getD_eq_getElem?_getD, List.getElem?_eq_getElem (show j < zs.length by omega), Option.getD_some]

theorem Txts.below {w w' : World} {a : Option Addr} {len : Nat} {l : List ByteArray} (h : Txts w a len l) {B : Nat} (hB : B = w.heap.size) (hb : Below B w w') : Txts w' a len l := by
  refine ⟨h.1, h.2.1, fun hl => ?_⟩
  obtain ⟨b, off, e, hlt, hc⟩ := h.2.2 hl
  subst hB
  exact ⟨b, off, e, Nat.lt_of_lt_of_le hlt hb.size, fun j hj => by rw [hb.cell (p := ⟨b, off + j, none⟩) hlt]; exact hc j hj⟩

namespace Wire
open Num

/-- The bytes of texts, one behind the other. -/
def one (t : ByteArray) : List UInt8 := upL t.size ++ t.data.toList
def tcat (l : List ByteArray) : List UInt8 := l.flatMap one
theorem one_length (t : ByteArray) : t.size + 1 ≤ (one t).length ∧ (one t).length ≤ t.size + 10 := by
  have := upL_length t.size
  rw [one, List.length_append, ← Str.size_eq]; omega
theorem tcat_cons (t : ByteArray) (l : List ByteArray) : tcat (t :: l) = one t ++ tcat l := by simp [tcat]
theorem tcat_append (l m : List ByteArray) : tcat (l ++ m) = tcat l ++ tcat m := by simp [tcat]
theorem tcat_take (l : List ByteArray) (k : Nat) (h : k < l.length) : tcat (l.take (k + 1)) = tcat (l.take k) ++ one l[k] := by
  rw [List.take_succ_eq_append_getElem h, tcat_append]; simp [tcat]
theorem tcat_drop (l : List ByteArray) (k : Nat) (h : k < l.length) : tcat (l.drop k) = one l[k] ++ tcat (l.drop (k + 1)) := by
  rw [List.drop_eq_getElem_cons h, tcat_cons]
theorem tcat_le (l : List ByteArray) (k : Nat) : (tcat (l.take k)).length ≤ (tcat l).length := by
  conv => rhs; rw [← List.take_append_drop k l, tcat_append]
  rw [List.length_append]; omega

theorem isB_below {T e : TypeId} {B b : Nat} {bs : List Value} {W W' : World} (h : Lib.IsBuilderF T e B b bs W) (hb : Below W.heap.size W W') : Lib.IsBuilderF T e B b bs W' := by
  have go : ∀ p, Lib.BuilderAtF T e B b p bs W → Lib.BuilderAtF T e B b p bs W' := fun p h => by
    have hlt := h.lt
    obtain ⟨hB, v, hv, hown, hne⟩ := h
    exact ⟨hB, v, (hb.block b hlt).trans hv, hown.kept (row := none) ⟨hb.os, hb.tape, hb.output, hb.size, fun k hk _ => hb.block k hk⟩ (Classical.em _), hne⟩
  exact h.elim (fun x => .inl (go _ x)) (fun x => .inr (go _ x))
theorem byteCells_nil : Lib.byteCells ([] : List UInt8) = [] := rfl
theorem strCells_mk (l : List UInt8) : Lib.strCells ({ data := l.toArray } : ByteArray) = Lib.byteCells l := by simp [Lib.strCells, Lib.byteCells]
theorem strCells_of (s : ByteArray) : Lib.strCells s = Lib.byteCells s.data.toList := by simp [Lib.strCells, Lib.byteCells]

set_option maxRecDepth 100000 in
set_option maxHeartbeats 2000000 in
theorem nums_any (a : Option Addr) (len cap : Nat) (l : List Nat) (w : World) (h : Nats w a len l) (hl : len ≤ 1048576) :
    Calls Tryz.prog 55 #[.slice a len cap] w fun e w' => e = .returned (.string ⟨(cat l).toArray⟩) ∧ Below w.heap.size w w' := by
  have HN := Lib.hid h
  have hlen := h.1
  clear h
  go_enter Tryz.func55, Tryz.ntmps55
  go_wp2_with fail
  go_loopw [8] (fun i wr => ∃ k : Nat, k ≤ len ∧ i = .int .i64 k ∧ Lib.IsBuilderF 130 5 w.heap.size w.heap.size (Lib.byteCells (cat (l.take k))) wr ∧ Below w.heap.size w wr) (fun i _ => len - (intOf i).toNat)
  case atStart => exact ⟨0, by omega, rfl, by rw [List.take_zero]; exact Lib.IsBuilderF.of (Lib.fresh_isBuilder _ _ w), balloc (Below.refl _ _) _⟩
  case round =>
    obtain ⟨k, hk, rfl, hI, hb⟩ := hrel
    obtain ⟨_, hmem, hcell⟩ := HN.out.below rfl hb
    by_cases hlt : k < len
    · obtain ⟨b, off, rfl, hblt, hc⟩ := hcell (by omega)
      have hck := hc k (by omega)
      have hle : l[k] ≤ 18446744073709551615 := hmem _ (List.getElem_mem _)
      have Hct := Lib.hid (cat_take l k (by omega))
      have hcl := cat_length (l.take k)
      rw [List.length_take] at hcl
      obtain ⟨n, hn⟩ : ∃ n, n = l[k] := ⟨_, rfl⟩
      rw [← hn] at hck hle Hct
      have hul := (upL_length n).2
      have hsz := hb.size
      clear hn hc hcell hmem
      go_wp2_with fail
      refine (up_any n _ hle).mono ?_
      rintro e w1 ⟨rfl, b1⟩
      have hI1 : Lib.IsBuilderF 130 5 w.heap.size w.heap.size (Lib.byteCells (cat (l.take k))) w1 := isB_below hI b1
      go_wp2_with fail
      refine (Build.writeString_any w.heap.size w.heap.size _ _ _ hI1 (by rw [Lib.byteCells_length, Str.size_mk]; omega) (Nat.le_trans hsz b1.size)).mono ?_
      rintro e w2 ⟨rfl, hI2, b2, _⟩
      rw [strCells_mk, ← Lib.byteCells_append, ← Hct.out] at hI2
      go_wp2
      go_roundw
      case rel => exact ⟨k + 1, by omega, by go_num, hI2, (bstep hb b1).trans b2⟩
      case measure => simp [intOf]; omega
    · obtain rfl : k = len := by omega
      rw [List.take_of_length_le (by omega)] at hI
      have hsz := hb.size
      go_wp2_with fail
      refine (Tryz.Builder_String_any_k w.heap.size w.heap.size (cat l) _ hI hsz).mono ?_
      rintro e w1 ⟨rfl, _, b1, _⟩
      go_wp2
      go_ret
      exact ⟨rfl, hb.trans b1⟩

set_option maxRecDepth 100000 in
set_option maxHeartbeats 2000000 in
theorem texts_any (a : Option Addr) (len cap : Nat) (l : List ByteArray) (w : World) (h : Txts w a len l) (hl : (tcat l).length ≤ 1099511627776) (hlen0 : len ≤ 1099511627776) :
    Calls Tryz.prog 44 #[.slice a len cap] w fun e w' => e = .returned (.string ⟨(tcat l).toArray⟩) ∧ Below w.heap.size w w' := by
  have HN := Lib.hid h
  have hlen := h.1
  clear h
  go_enter Tryz.func44, Tryz.ntmps44
  go_wp2_with fail
  go_loopw [8] (fun i wr => ∃ k : Nat, k ≤ len ∧ i = .int .i64 k ∧ Lib.IsBuilderF 130 5 w.heap.size w.heap.size (Lib.byteCells (tcat (l.take k))) wr ∧ Below w.heap.size w wr) (fun i _ => len - (intOf i).toNat)
  case atStart => exact ⟨0, by omega, rfl, by rw [List.take_zero]; exact Lib.IsBuilderF.of (Lib.fresh_isBuilder _ _ w), balloc (Below.refl _ _) _⟩
  case round =>
    obtain ⟨k, hk, rfl, hI, hb⟩ := hrel
    obtain ⟨_, hmem, hcell⟩ := HN.out.below rfl hb
    by_cases hlt : k < len
    · obtain ⟨b, off, rfl, hblt, hc⟩ := hcell (by omega)
      have hck := hc k (by omega)
      have hct := tcat_take l k (by omega)
      have hcl := tcat_le l (k + 1)
      have hone := one_length l[k]
      rw [hct, List.length_append] at hcl
      have Hct := Lib.hid hct
      obtain ⟨t, hn⟩ : ∃ t, t = l[k] := ⟨_, rfl⟩
      rw [← hn] at hck Hct hone hcl
      have hw : IntKind.u64.wrap (t.size : Int) = (t.size : Int) := by rw [IntKind.wrap_u64]; omega
      have hul := upL_length t.size
      have hsz := hb.size
      obtain ⟨ks, hks⟩ : ∃ ks, ks = tcat (l.take k) := ⟨_, rfl⟩
      rw [← hks] at hI Hct hcl
      clear hn hc hcell hmem hct
      go_wp2_with fail
      refine (up_any t.size _ (by omega)).mono ?_
      rintro e w1 ⟨rfl, b1⟩
      have hI1 := isB_below hI b1
      have hs1 := Nat.le_trans hsz b1.size
      go_wp2_with fail
      refine (Build.writeString_any w.heap.size w.heap.size _ _ _ hI1 (by rw [Lib.byteCells_length, Str.size_mk]; omega) hs1).mono ?_
      rintro e w2 ⟨rfl, hI2, b2, _⟩
      rw [strCells_mk, ← Lib.byteCells_append] at hI2
      go_wp2_with fail
      refine (Build.writeString_any w.heap.size w.heap.size _ _ _ hI2 (by rw [Lib.byteCells_length, List.length_append]; omega) (Nat.le_trans hs1 b2.size)).mono ?_
      rintro e w3 ⟨rfl, hI3, b3, _⟩
      rw [strCells_of, ← Lib.byteCells_append, List.append_assoc] at hI3
      have hI4 : Lib.IsBuilderF 130 5 w.heap.size w.heap.size (Lib.byteCells (tcat (l.take (k + 1)))) w3 := by rw [Hct.out, one]; exact hI3
      clear hI3
      go_wp2
      go_roundw
      case rel => exact ⟨k + 1, by omega, by go_num, hI4, ((bstep hb b1).trans b2).trans b3⟩
      case measure => simp [intOf]; omega
    · obtain rfl : k = len := by omega
      rw [List.take_of_length_le (by omega)] at hI
      have hsz := hb.size
      go_wp2_with fail
      refine (Tryz.Builder_String_any_k w.heap.size w.heap.size (tcat l) _ hI hsz).mono ?_
      rintro e w1 ⟨rfl, _, b1, _⟩
      go_wp2
      go_ret
      exact ⟨rfl, hb.trans b1⟩

def tr (b : Bool) : UInt8 := if b then 1 else 0
theorem bool_w (b : Bool) (w : World) :
    Calls Tryz.prog 82 #[.bool b] w fun e w' => e = .returned (.string ⟨#[tr b]⟩) ∧ w = w' := by
  cases b
  · go_enter Tryz.func82, Tryz.ntmps82
    go_wp2
    go_ret
    exact ⟨rfl, rfl⟩
  · go_enter Tryz.func82, Tryz.ntmps82
    go_wp2
    go_ret
    exact ⟨rfl, rfl⟩

end Wire
end Go.Proofs.YtnpjkmomllkhpaaGreat
