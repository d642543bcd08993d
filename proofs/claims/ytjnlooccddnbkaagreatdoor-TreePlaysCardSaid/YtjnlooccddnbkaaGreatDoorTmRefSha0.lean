/- Merged texts: RefShaNum, Ones, RefShaBlock, RefShaFrac, RefShaConst, Parts. -/
import Derived.Test.YtjnlooccddnbkaaGreatDoorTmSha0
import Derived.LoopTactic
import Derived.Test.YtjnlooccddnbkaaGreatDoorTmBase
import Derived.Test.YtjnlooccddnbkaaGreatDoorProg
import Derived.BigQuiet
import Derived.StillTailTactics
import Derived.Deep.RegionHeld3
namespace Go.Proofs.YtjnlooccddnbkaaGreatDoor
namespace RefSha
open Go.RowKit Sha
def lo32 (x : Int) : Int := bits .and .u64 x 4294967295
def mLow (a b : Int) : Int := IntKind.u64.wrap (lo32 a * lo32 b)
def mMid (a b : Int) : Int := IntKind.u64.wrap (IntKind.u64.wrap (a / 4294967296 * lo32 b) + mLow a b / 4294967296)
def mMore (a b : Int) : Int := IntKind.u64.wrap (IntKind.u64.wrap (lo32 a * (b / 4294967296)) + lo32 (mMid a b))
def mHi (a b : Int) : Int := IntKind.u64.wrap (IntKind.u64.wrap (IntKind.u64.wrap (a / 4294967296 * (b / 4294967296)) + mMid a b / 4294967296) + mMore a b / 4294967296)
def mLo (a b : Int) : Int := bits .or .u64 (IntKind.u64.wrap (mMore a b * 4294967296)) (lo32 (mLow a b))
set_option maxRecDepth 100000 in
theorem mul_any (a b : Int) (w : World) :
    Calls Tryz.prog 114 #[.int .u64 a, .int .u64 b] w fun e w' => e = .returned (.tuple #[.int .u64 (mHi a b), .int .u64 (mLo a b)]) ∧ w = w' := by
  go_enter Tryz.func114, Tryz.ntmps114
  go_wp2
  go_ret2
  exact ⟨rfl, rfl⟩
def sqF (x p : Int) : Bool := decide (mHi x x < p) || (mHi x x == p && mLo x x == 0)
set_option maxRecDepth 100000 in
theorem square_any (x p : Int) (w : World) :
    Calls Tryz.prog 95 #[.int .u64 x, .int .u64 p] w fun e w' => e = .returned (.bool (sqF x p)) ∧ w = w' := by
  have M := Lib.hid (mul_any x x w)
  have HV : Hid (sqF x p = (decide (mHi x x < p) || (mHi x x == p && mLo x x == 0))) := Lib.hid rfl
  generalize mHi x x = u at M HV
  generalize mLo x x = r at M HV
  by_cases h1 : u < p
  · have d1 : decide (u < p) = true := decide_eq_true h1
    rw [d1, Bool.true_or] at HV
    go_enter Tryz.func95, Tryz.ntmps95
    go_wp2_with fail
    refine M.out.mono ?_
    rintro e w' ⟨rfl, rfl⟩
    go_wp2
    go_ret
    exact ⟨by rw [HV.out]; rfl, rfl⟩
  · have d1 : decide (u < p) = false := decide_eq_false h1
    rw [d1, Bool.false_or] at HV
    by_cases h2 : u = p
    · have d2 : (u == p) = true := beq_iff_eq.2 h2
      rw [d2, Bool.true_and] at HV
      have HH := Lib.hid h2
      clear h2
      cases h3 : r == 0
      all_goals
        rw [h3] at HV
        go_enter Tryz.func95, Tryz.ntmps95
        go_wp2_with fail
        refine M.out.mono ?_
        rintro e w' ⟨rfl, rfl⟩
        go_wp2
        go_ret
        exact ⟨by rw [HV.out]; rfl, rfl⟩
    · have d2 : (u == p) = false := beq_eq_false_iff_ne.2 h2
      rw [d2, Bool.false_and] at HV
      go_enter Tryz.func95, Tryz.ntmps95
      go_wp2_with fail
      refine M.out.mono ?_
      rintro e w' ⟨rfl, rfl⟩
      go_wp2
      go_ret
      exact ⟨by rw [HV.out]; rfl, rfl⟩
def topF (x : Int) : Int := IntKind.u64.wrap (IntKind.u64.wrap (mHi x x * x) + mHi (mLo x x) x)
def cuF (x p : Int) : Bool := decide (topF x < IntKind.u64.wrap (p * 4294967296)) || (topF x == IntKind.u64.wrap (p * 4294967296) && mLo (mLo x x) x == 0)
set_option maxRecDepth 100000 in
theorem cube_any (x p : Int) (w : World) :
    Calls Tryz.prog 94 #[.int .u64 x, .int .u64 p] w fun e w' => e = .returned (.bool (cuF x p)) ∧ w = w' := by
  have M := Lib.hid (mul_any x x w)
  have N := Lib.hid (mul_any (mLo x x) x w)
  have HV : Hid (cuF x p = (decide (IntKind.u64.wrap (IntKind.u64.wrap (mHi x x * x) + mHi (mLo x x) x) < IntKind.u64.wrap (p * 4294967296)) || (IntKind.u64.wrap (IntKind.u64.wrap (mHi x x * x) + mHi (mLo x x) x) == IntKind.u64.wrap (p * 4294967296) && mLo (mLo x x) x == 0))) := Lib.hid rfl
  generalize mHi (mLo x x) x = v at N HV
  generalize mLo (mLo x x) x = r at N HV
  generalize mHi x x = u at M HV
  generalize mLo x x = s at M N
  by_cases h1 : IntKind.u64.wrap (IntKind.u64.wrap (u * x) + v) < IntKind.u64.wrap (p * 4294967296)
  · have d1 := decide_eq_true h1
    rw [d1, Bool.true_or] at HV
    go_enter Tryz.func94, Tryz.ntmps94
    go_wp2_with fail
    refine M.out.mono ?_
    rintro e w' ⟨rfl, rfl⟩
    go_wp2_with fail
    refine N.out.mono ?_
    rintro e w' ⟨rfl, rfl⟩
    go_wp2
    go_ret
    exact ⟨by rw [HV.out]; rfl, rfl⟩
  · have d1 := decide_eq_false h1
    rw [d1, Bool.false_or] at HV
    by_cases h2 : IntKind.u64.wrap (IntKind.u64.wrap (u * x) + v) = IntKind.u64.wrap (p * 4294967296)
    · have d2 : (IntKind.u64.wrap (IntKind.u64.wrap (u * x) + v) == IntKind.u64.wrap (p * 4294967296)) = true := beq_iff_eq.2 h2
      rw [d2, Bool.true_and] at HV
      have HH := Lib.hid h2
      clear h2
      cases h3 : r == 0
      all_goals
        rw [h3] at HV
        go_enter Tryz.func94, Tryz.ntmps94
        go_wp2_with fail
        refine M.out.mono ?_
        rintro e w' ⟨rfl, rfl⟩
        go_wp2_with fail
        refine N.out.mono ?_
        rintro e w' ⟨rfl, rfl⟩
        go_wp2
        go_ret
        exact ⟨by rw [HV.out]; rfl, rfl⟩
    · have d2 : (IntKind.u64.wrap (IntKind.u64.wrap (u * x) + v) == IntKind.u64.wrap (p * 4294967296)) = false := beq_eq_false_iff_ne.2 h2
      rw [d2, Bool.false_and] at HV
      go_enter Tryz.func94, Tryz.ntmps94
      go_wp2_with fail
      refine M.out.mono ?_
      rintro e w' ⟨rfl, rfl⟩
      go_wp2_with fail
      refine N.out.mono ?_
      rintro e w' ⟨rfl, rfl⟩
      go_wp2
      go_ret
      exact ⟨by rw [HV.out]; rfl, rfl⟩
def testF (three : Bool) (y p : Int) : Bool := if three then cuF y p else sqF y p
def bitF (k : Nat) : Int := IntKind.u64.wrap (2 ^ (35 - k))
def fracN (p : Int) (three : Bool) : Nat → Int
  | 0 => 0
  | k + 1 => if testF three (bits .or .u64 (fracN p three k) (bitF k)) p then bits .or .u64 (fracN p three k) (bitF k) else fracN p three k
def fracF (p : Int) (three : Bool) : Int := fracN p three 36 % 4294967296
/-- The primes among the first k numbers from 2 on. -/
def pl : Nat → List Int
  | 0 => []
  | k + 1 => if (pl k).all (fun q => (2 + (k : Int)) % q != 0) then pl k ++ [2 + (k : Int)] else pl k
theorem pl_succ (k : Nat) : pl (k + 1) = if (pl k).all (fun q => (2 + (k : Int)) % q != 0) then pl k ++ [2 + (k : Int)] else pl k := rfl
theorem pl_pos : ∀ k, ∀ q ∈ pl k, 2 ≤ q ∧ q < 2 + (k : Int)
  | 0, q, h => by cases h
  | k + 1, q, h => by
    rw [pl_succ] at h
    split at h
    · rcases List.mem_append.1 h with h | h
      · have := pl_pos k q h; omega
      · simp only [List.mem_singleton] at h; omega
    · have := pl_pos k q h; omega
def PR : List Int := [2, 3, 5, 7, 11, 13, 17, 19, 23, 29, 31, 37, 41, 43, 47, 53, 59, 61, 67, 71, 73, 79, 83, 89, 97, 101, 103, 107, 109, 113, 127, 131, 137, 139, 149, 151, 157, 163, 167, 173, 179, 181, 191, 193, 197, 199, 211, 223, 227, 229, 233, 239, 241, 251, 257, 263, 269, 271, 277, 281, 283, 293, 307, 311]
theorem pl_309 : pl 309 = PR.take 63 := by decide +kernel
theorem pl_310 : pl 310 = PR := by decide +kernel
theorem pl_le (k : Nat) : ∀ m, (pl k).length ≤ (pl (k + m)).length
  | 0 => Nat.le_refl _
  | m + 1 => by
    refine Nat.le_trans (pl_le k m) ?_
    rw [show k + (m + 1) = (k + m) + 1 by omega, pl_succ]
    split
    · rw [List.length_append]; omega
    · exact Nat.le_refl _
theorem pl_short (k : Nat) (h : k ≤ 309) : (pl k).length ≤ 63 := by
  have := pl_le k (309 - k)
  rw [show k + (309 - k) = 309 by omega, pl_309] at this
  simpa [PR] using this
theorem k_all : PR.map (fun p => fracF p true) = K0 := by decide +kernel
theorem h_all : (PR.take 8).map (fun p => fracF p false) = H0.list := by decide +kernel
end RefSha
end Go.Proofs.YtjnlooccddnbkaaGreatDoor

namespace Go.Proofs.YtjnlooccddnbkaaGreatDoor
namespace Ones
open Go.RowKit
/-- A number in its cell. -/
def enc (k : IntKind) : Row.Enc Int := ⟨1, by decide, fun x => [.int k x], fun _ => rfl, fun x v hv => by
  simp only [List.mem_cons, List.not_mem_nil, or_false] at hv
  rw [hv]; rfl⟩
theorem flat_map (k : IntKind) (L : List Int) : Row.flat (enc k) L = L.map (fun x => .int k x) := by
  induction L with
  | nil => rfl
  | cons x L ih => rw [Row.flat_cons, ih]; rfl
theorem Lies.at {k : IntKind} {w : World} {n : Nat} {L : List Int} {a : Option Addr} (h : Row.Lies (enc k) w a n L) (hn : 0 < n) : ∃ b off, a = some ⟨b, off, none⟩ ∧ ∀ j, j < L.length → w.cell? ⟨b, off + j, none⟩ = some (.int k (L.getD j 0)) := by
  obtain ⟨b, off, e, hc⟩ := h.2 hn
  exact ⟨b, off, e, fun j hj => by
    have := hc j hj 0 _ rfl
    rw [List.getD_eq_getElem?_getD, List.getElem?_eq_getElem hj]
    simpa [enc] using this⟩
theorem Lies.of_cells {k : IntKind} {w : World} {b off : Nat} {L : List Int} (h : ∀ j, j < L.length → w.cell? ⟨b, off + j, none⟩ = some (.int k (L.getD j 0))) : Row.Lies (enc k) w (some ⟨b, off, none⟩) L.length L := by
  refine ⟨rfl, fun _ => ⟨b, off, rfl, fun j hj i u hu => ?_⟩⟩
  have hi : i = 0 := by
    have := (List.getElem?_eq_some_iff.1 hu).1
    simp [enc] at this; exact this
  subst hi
  simp only [enc, List.getElem?_cons_zero, Option.some.injEq] at hu
  have := h j hj
  rw [List.getD_eq_getElem?_getD, List.getElem?_eq_getElem hj] at this
  rw [← hu]
  simpa [enc] using this
/-- A call's own row that is not empty: its block, its cells. -/
theorem Own.at {k : IntKind} {te : TypeId} {w : World} {B : Nat} {v : Value} {L : List Int} (h : Row.Own (enc k) te w B v L) (hL : 0 < L.length) :
    ∃ g cap, v = .slice (some ⟨g, 0, none⟩) L.length cap ∧ B ≤ g ∧ g < w.heap.size ∧ L.length ≤ cap ∧ cap ≤ maxLen ∧ (∀ j, j < L.length → w.cell? ⟨g, j, none⟩ = some (.int k (L.getD j 0))) ∧ ∀ j, w.frozen? ⟨g, j, none⟩ = false := by
  have h0 := h
  rcases h.2 with ⟨rfl, hc⟩ | ⟨g, cap, cur, rfl, hB, hg, hle, hmx, _⟩
  · omega
  · refine ⟨g, cap, rfl, hB, (Array.getElem?_eq_some_iff.1 hg).1, hle, hmx, fun j hj => ?_, fun j => frozen_of_row w g j _ _ hg⟩
    have := h0.cellAt (j * 1 + 0) (by show _ < L.length * 1; omega)
    rw [Nat.mul_one, Nat.add_zero] at this
    rw [this, flat_map, List.getElem?_map, List.getElem?_eq_getElem hj, List.getD_eq_getElem?_getD, List.getElem?_eq_getElem hj]
    rfl
theorem Own.cell {k : IntKind} {te : TypeId} {w : World} {B g n cap : Nat} {L : List Int} (h : Row.Own (enc k) te w B (.slice (some ⟨g, 0, none⟩) n cap) L) (j : Nat) (hj : j < L.length) : w.cell? ⟨g, j, none⟩ = some (.int k (L.getD j 0)) := by
  obtain ⟨_, _, e, _, _, _, _, hc, -⟩ := Own.at h (by omega)
  simp only [Value.slice.injEq, Option.some.injEq, Addr.mk.injEq, and_true] at e
  obtain ⟨rfl, -, rfl⟩ := e
  exact hc j hj
/-- One number is set. -/
theorem Own.set {k : IntKind} {te : TypeId} {w : World} {B g n cap : Nat} {L : List Int} (h : Row.Own (enc k) te w B (.slice (some ⟨g, 0, none⟩) n cap) L) (i : Nat) (x : Int) :
    Row.Own (enc k) te (w.setCell ⟨g, i, none⟩ (.int k x)) B (.slice (some ⟨g, 0, none⟩) n cap) (L.set i x) := by
  obtain ⟨cur, hB, hg, hn, hc, hm, hs, ht⟩ := h.row
  refine Row.own_of hB (heap_setCell_same w g i cur te _ hg) (by rw [List.length_set]; exact hn) (by rw [List.length_set]; exact hc) hm (by rw [Array.size_setIfInBounds]; exact hs) ?_
  rw [List.length_set, Array.toList_setIfInBounds, List.take_set, ht, flat_map, flat_map, List.map_set]
/-- An append to an own row: what the row's block held ahead of it stands there still. -/
theorem run_app_keep {P : Program} {w : World} (base : Nat) (t ty e : TypeId) (i : TypeInfo) (z : Value) (size bytes : Nat) (ht : P.underlying t = some (.slice e)) (hi : P.info? e = some i) (hz : i.zero = some z)
    (hsize : i.size = size) (hby : i.bytes = bytes) (hzs : z.cells.size = size) (hsz : 0 < size)
    (g n cap : Nat) (xs : List Value) (hown : w.ownsRow base e size (.slice (some ⟨g, 0, none⟩) n cap) n xs)
    (a : Addr) (m c : Nat) (news : List Value) (hl : news.length = m * size) (hnews : ∀ j u, news[j]? = some u → w.cell? (a.add j) = some u) (h1 : ∀ u ∈ news, u.oneCell' = true)
    (h63 : n + m ≤ maxLen) (hbytes : (n + m) * bytes ≤ 140737488355328) (hbase : base ≤ w.heap.size) :
    ∃ v' w', (Builtin.append_ #[t, t] ty #[.slice (some ⟨g, 0, none⟩) n cap, .slice (some a) m c]).run P w = .ok v' w' ∧ w'.ownsRow base e size v' (n + m) (xs ++ news) ∧ w.grownBy w' (some g) ∧
      ∀ j, j < n * size → w'.cell? ⟨g, j, none⟩ = w.cell? ⟨g, j, none⟩ := by
  obtain ⟨v', w', hr, h2, h3, _⟩ := run_append_own (P := P) w base t ty e i z size bytes ht hi hz hsize hby hzs hsz _ n xs hown a m c news hl hnews h1 h63 hbytes hbase
  refine ⟨v', w', hr, h2, h3, fun j hj => ?_⟩
  subst hsize
  subst hby
  rcases hown.2 with ⟨h', _⟩ | ⟨g', cap', cur, h', hbg, hg, hnc, hcm, hcs, htake⟩
  · cases h'
  · simp only [Value.slice.injEq, Option.some.injEq, Addr.mk.injEq, and_true] at h'
    obtain ⟨rfl, -, rfl⟩ := h'
    have hlt : j < cur.size := by rw [hcs]; exact Nat.lt_of_lt_of_le hj (Nat.mul_le_mul_right _ hnc)
    by_cases hroom : n + m ≤ cap
    · have hfit : n * i.size + news.length ≤ cur.size := by rw [hl, hcs, ← Nat.add_mul]; exact Nat.mul_le_mul_right _ hroom
      have hr2 := run_append_room (P := P) w t ty e i ht hi g n cap cur hg a m c news hl hnews h1 hroom hfit
      rw [hr] at hr2
      injection hr2 with _ hw
      subst hw
      rw [cell_setRow_same w g j cur _ e _ hg, cell_of_row w g j cur e _ hg, List.getElem?_toArray, List.append_assoc, List.getElem?_append_left (by rw [List.length_take, Array.length_toList]; omega), List.getElem?_take_of_lt hj, Array.getElem?_toList]
    · have holds : ∀ j u, xs[j]? = some u → w.cell? ((⟨g, 0, none⟩ : Addr).add j) = some u := hown.cells (g := g) rfl
      have hr2 := run_append_grow (P := P) w t ty e i z ht hi hz ⟨g, 0, none⟩ n cap xs hown.1 holds a m c news hl hnews (by omega) (by simp only [maxLen] at h63; omega) (growslice_fits (by omega) hbytes)
      rw [hr] at hr2
      injection hr2 with _ hw
      subst hw
      exact World.cell?_of_block (Below.heap_alloc w.drew _ g (Array.getElem?_eq_some_iff.1 hg).1)
/-- An append to an own row: where the new row lies. -/
theorem run_app_place {P : Program} {w : World} (base : Nat) (t ty e : TypeId) (i : TypeInfo) (z : Value) (size bytes : Nat) (ht : P.underlying t = some (.slice e)) (hi : P.info? e = some i) (hz : i.zero = some z)
    (hsize : i.size = size) (hby : i.bytes = bytes) (hzs : z.cells.size = size) (hsz : 0 < size)
    (v : Value) (n : Nat) (xs : List Value) (hown : w.ownsRow base e size v n xs)
    (a : Addr) (m c : Nat) (news : List Value) (hl : news.length = m * size) (hnews : ∀ j u, news[j]? = some u → w.cell? (a.add j) = some u) (h1 : ∀ u ∈ news, u.oneCell' = true)
    (h63 : n + m ≤ maxLen) (hbytes : (n + m) * bytes ≤ 140737488355328) (hbase : base ≤ w.heap.size) :
    ∃ v' w', (Builtin.append_ #[t, t] ty #[v, .slice (some a) m c]).run P w = .ok v' w' ∧ w'.ownsRow base e size v' (n + m) (xs ++ news) ∧ w.grownBy w' v.ownBlock ∧ (v'.ownBlock = v.ownBlock ∨ v'.ownBlock = some w.heap.size) := by
  obtain ⟨v', w', hr, h2, h3, h4⟩ := run_append_own (P := P) w base t ty e i z size bytes ht hi hz hsize hby hzs hsz _ n xs hown a m c news hl hnews h1 h63 hbytes hbase
  refine ⟨v', w', hr, h2, h3, ?_⟩
  subst hsize
  subst hby
  rcases hown.2 with ⟨rfl, rfl⟩ | ⟨g, cap, cur, rfl, hbg, hg, hnc, hcm, hcs, htake⟩
  · by_cases hm : m = 0
    · rw [h4.2 ⟨rfl, hm⟩]; exact .inl rfl
    · have hr2 := run_append_nil (P := P) w t ty e i z ht hi hz a m c news hl hnews (by omega) (by simp only [maxLen] at h63; omega) (by have hb := hbytes; simp only [Nat.zero_add] at hb; omega)
      rw [hr] at hr2
      injection hr2 with hv _
      rw [hv]; exact .inr rfl
  · by_cases hroom : n + m ≤ cap
    · have hfit : n * i.size + news.length ≤ cur.size := by rw [hl, hcs, ← Nat.add_mul]; exact Nat.mul_le_mul_right _ hroom
      have hr2 := run_append_room (P := P) w t ty e i ht hi g n cap cur hg a m c news hl hnews h1 hroom hfit
      rw [hr] at hr2
      injection hr2 with hv _
      rw [hv]; exact .inl rfl
    · have holds : ∀ j u, xs[j]? = some u → w.cell? ((⟨g, 0, none⟩ : Addr).add j) = some u := hown.cells (g := g) rfl
      have hr2 := run_append_grow (P := P) w t ty e i z ht hi hz ⟨g, 0, none⟩ n cap xs hown.1 holds a m c news hl hnews (by omega) (by simp only [maxLen] at h63; omega) (growslice_fits (by omega) hbytes)
      rw [hr] at hr2
      injection hr2 with hv _
      rw [hv]; exact .inr rfl
section
variable {α : Type} {E : Row.Enc α} {P : Program} {ts te : TypeId} {z : Value} {bytes : Nat}
/-- .. at a plain region's list. -/
theorem wpList_app_place (T : Row.Typ P E ts te z bytes) {ops : Array Oper} {rest : List Oper} {o : Oper} {a : Act} {w : World} {Q : Exit → Act → World → Prop} (hgd : o.guard = none) (s x : Operand)
    (ho : o.op = .call { callee := .builtin .append, args := #[s, x], argTypes := #[ts, ts] }) (B : Nat) (v : Value) (L : List α) (hs : a.eval s = v) (hown : Row.Own E te w B v L)
    (q : Addr) (nx cx : Nat) (K : List α) (hx : a.eval x = .slice (some q) nx cx) (hK : Row.Lies E w (some q) nx K)
    (hlen : L.length + nx ≤ 1099511627776) (hbase : B ≤ w.heap.size)
    (h : ∀ v' w', Row.Own E te w' B v' (L ++ K) → w.grownBy w' v.ownBlock → Below B w w' → (v'.ownBlock = v.ownBlock ∨ v'.ownBlock = some w.heap.size) → wpList P ops Q rest (a.put o.dst v') w') : wpList P ops Q (o :: rest) a w := by
  obtain ⟨i0, hi, hz0, hz1, hz2⟩ := T.info
  have hnews : ∀ j u, (Row.flat E K)[j]? = some u → w.cell? (q.add j) = some u := fun j u hu => by
    have hj : j < K.length * E.k := by rw [← Row.flat_length]; exact (List.getElem?_eq_some_iff.1 hu).1
    have hK0 : 0 < K.length := by
      rcases Nat.eq_zero_or_pos K.length with h | h
      · rw [h] at hj; omega
      · exact h
    obtain ⟨b, off, e, _⟩ := hK.2 (by rw [hK.1]; exact hK0)
    obtain rfl : q = ⟨b, off, none⟩ := Option.some.inj e
    exact Row.Lies.at hK j u hu
  have hsm := T.small
  obtain ⟨v', w', hr, h2, h3, h4⟩ := run_app_place (P := P) (w := w) B ts o.type te i0 z E.k bytes T.und hi hz0 hz1 hz2 T.zsize E.pos v L.length (Row.flat E L) hown q nx cx (Row.flat E K) (by rw [Row.flat_length, hK.1]) hnews (Row.flat_one E K) (by unfold maxLen; omega) (Nat.le_trans (Nat.mul_le_mul hlen hsm) (by decide)) hbase
  refine wpList_plain hgd fun k hk => ?_
  unfold Oper.wp execOp
  simp only [ho, resolve, invoke, builtin, Sem.run_bind, Sem.run_pure, Result.andThen_ok, List.map_toArray, List.map_cons, List.map_nil, hs, hx, hr]
  refine hk _ _ (h v' w' ?_ h3 (Below.grown (Below.refl B w) h3 hbase (fun k e => (hown.lt k e).1)) h4)
  unfold Row.Own
  rw [Row.flat_append, List.length_append, ← hK.1]
  exact h2
/-- As one step of a region that draws its order. -/
theorem step_app_keep (T : Row.Typ P E ts te z bytes) {ops : Array Oper} {o : Oper} {a : Act} {w : World} {K0 : Act → World → Prop} {Q : Exit → Act → World → Prop} {F : Prop} (hgd : o.guard = none) (s x : Operand)
    (ho : o.op = .call { callee := .builtin .append, args := #[s, x], argTypes := #[ts, ts] }) (B g n cap : Nat) (L : List α) (hs : a.eval s = .slice (some ⟨g, 0, none⟩) n cap) (hown : Row.Own E te w B (.slice (some ⟨g, 0, none⟩) n cap) L)
    (q : Addr) (nx cx : Nat) (K : List α) (hx : a.eval x = .slice (some q) nx cx) (hK : Row.Lies E w (some q) nx K)
    (hlen : L.length + nx ≤ 1099511627776) (hbase : B ≤ w.heap.size)
    (h : ∀ v' w', Row.Own E te w' B v' (L ++ K) → Below B w w' → (∀ j, j < L.length * E.k → w'.cell? ⟨g, j, none⟩ = w.cell? ⟨g, j, none⟩) → K0 (a.put o.dst v') w') : if Region.wanted o (yielded ops a.tmps) = true then Oper.wp P o a w K0 Q else F := by
  have hw : Region.wanted o (yielded ops a.tmps) = true := by simp [Region.wanted, hgd]
  rw [if_pos hw]
  obtain ⟨i0, hi, hz0, hz1, hz2⟩ := T.info
  have hnews : ∀ j u, (Row.flat E K)[j]? = some u → w.cell? (q.add j) = some u := fun j u hu => by
    have hj : j < K.length * E.k := by rw [← Row.flat_length]; exact (List.getElem?_eq_some_iff.1 hu).1
    have hK0 : 0 < K.length := by
      rcases Nat.eq_zero_or_pos K.length with h | h
      · rw [h] at hj; omega
      · exact h
    obtain ⟨b, off, e, _⟩ := hK.2 (by rw [hK.1]; exact hK0)
    obtain rfl : q = ⟨b, off, none⟩ := Option.some.inj e
    exact Row.Lies.at hK j u hu
  have hsm := T.small
  obtain ⟨cur, hB, hg, hn, hc, hm, hcs, ht⟩ := hown.row
  subst hn
  obtain ⟨v', w', hr, h2, h3, h4⟩ := run_app_keep (P := P) (w := w) B ts o.type te i0 z E.k bytes T.und hi hz0 hz1 hz2 T.zsize E.pos g L.length cap (Row.flat E L) hown q nx cx (Row.flat E K) (by rw [Row.flat_length, hK.1]) hnews (Row.flat_one E K) (by unfold maxLen; omega) (Nat.le_trans (Nat.mul_le_mul hlen hsm) (by decide)) hbase
  unfold Oper.wp execOp
  simp only [ho, resolve, invoke, builtin, Sem.run_bind, Sem.run_pure, Result.andThen_ok, List.map_toArray, List.map_cons, List.map_nil, hs, hx, hr]
  refine h v' w' ?_ (Below.grown (Below.refl B w) h3 hbase (fun k e => by cases e; exact hB)) h4
  unfold Row.Own
  rw [Row.flat_append, List.length_append, ← hK.1]
  exact h2
end
/-- The types of rows of numbers. -/
theorem typ_of {k : IntKind} {ts te : TypeId} {bytes : Nat} (h1 : Tryz.prog.underlying ts = some (.slice te)) (h2 : (Tryz.prog.info? te).map (fun i => (i.zero, i.size, i.bytes)) = some (some (.int k 0), 1, bytes)) (h3 : bytes ≤ 128) :
    Row.Typ Tryz.prog (enc k) ts te (.int k 0) bytes := ⟨h1, Row.info_of h2, rfl, h3⟩
end Ones
end Go.Proofs.YtjnlooccddnbkaaGreatDoor

namespace Go.Proofs.YtjnlooccddnbkaaGreatDoor
namespace RefSha
open Go.RowKit Sha
theorem typ32 : Row.Typ Tryz.prog (Ones.enc .u32) 97 102 (.int .u32 0) 4 := Ones.typ_of Tryz.underlying97 (by kernel_rfl) (by decide)
theorem typ64 : Row.Typ Tryz.prog (Ones.enc .u64) 119 66 (.int .u64 0) 8 := Ones.typ_of Tryz.underlying119 (by kernel_rfl) (by decide)
theorem typ8 : Row.Typ Tryz.prog (Ones.enc .u8) 64 5 (.int .u8 0) 1 := Ones.typ_of Tryz.underlying64 (by kernel_rfl) (by decide)
abbrev Own32 := Row.Own (Ones.enc .u32) 102
abbrev Lies32 := Row.Lies (Ones.enc .u32)
theorem keepC {w w' : World} {p : Addr} {v : Value} (h : w.cell? p = some v) (k : Below w.heap.size w w') : w'.cell? p = some v := (k.cell (World.block_lt_of_cell? _ _ h)).trans h
theorem keepC0 {w w' : World} {p : Addr} {v : Value} (h : w.cell? p = some v) (k : Below w.heap.size w w') : w'.cell? p = some v := keepC h k
theorem new_lies {k : IntKind} (w : World) (x : Int) (T : TypeId) : Row.Lies (Ones.enc k) (w.alloc (.cells #[.int k x] T)).drew (some ⟨w.heap.size, 0, none⟩) 1 [x] := Row.Lies.below (Row.lies_new (E := Ones.enc k) w x T) (Below.drew (Below.refl _ _))
theorem own_new (W : World) (B : Nat) (hB : B ≤ W.heap.size) (l : List Int) (n : Nat) (hn : n = l.length) (hm : n ≤ maxLen) :
    Own32 (W.alloc (.cells (l.map (fun x => .int .u32 x)).toArray 102)) B (.slice (some ⟨W.heap.size, 0, none⟩) n n) l := by
  refine Row.own_of hB (heap_alloc_new W _) hn (by omega) hm (by simp [Ones.enc, hn]) ?_
  rw [List.toList_toArray, Ones.flat_map, List.take_of_length_le (by simp [Ones.enc])]
theorem right_quiet (n x : Int) (hn : n ∈ turns) (w : World) :
    Calls Tryz.prog 78 #[.int .u32 x, .int .u64 n] w fun e w' => e = .returned (.int .u32 (rr n x)) ∧ w' = w := (ref_right_any n x hn w).mono fun _ _ h => ⟨h.1, h.2.symm⟩
set_option maxRecDepth 100000 in
set_option maxHeartbeats 4000000 in
theorem block_any (ah ak : Option Addr) (ch ck bb bo bc : Nat) (s : St) (K : List Int) (bk : List UInt8) (w : World) (hh : Lies32 w ah 8 s.list) (hk : Lies32 w ak 64 K)
    (hb : ∀ i, i < 64 → w.cell? ⟨bb, bo + i, none⟩ = some (.int .u8 ((bk.getD i 0).toNat : Int))) :
    Calls Tryz.prog 54 #[.slice ah 8 ch, .slice ak 64 ck, .slice (some ⟨bb, bo, none⟩) 64 bc] w fun e w' => ∃ v, e = .returned v ∧ Own32 w' w.heap.size v (block K s bk).list ∧ Below w.heap.size w w' := by
  have h0 := Below.refl w.heap.size w
  have HH := Lib.hid hh
  have HK := Lib.hid hk
  have HB := Lib.hid hb
  clear hh hk hb
  go_enter Tryz.func54, Tryz.ntmps54
  go_wp2_with fail
  go_loopw [7, 8] (fun v i wx => ∃ (k : Nat) (x : Value), k ≤ 16 ∧ x = v ∧ i = .int .i64 (k : Int) ∧ Below w.heap.size w wx ∧ Hid (Own32 wx w.heap.size x (words bk k))) (fun _ i _ => 16 - (intOf i).toNat)
  case atStart => exact ⟨0, _, by omega, rfl, rfl, h0, Lib.hid (Row.Own.nil _ _)⟩
  case round =>
    obtain ⟨k, v, hk, rfl, rfl, hb, HO⟩ := hrel
    by_cases hlt : k < 16
    · have hd : decide ((k : Int) < 16) = true := decide_eq_true (by omega)
      have c0 := HB.out (4 * k) (by omega)
      have c1 := HB.out (4 * k + 1) (by omega)
      have c2 := HB.out (4 * k + 2) (by omega)
      have c3 := HB.out (4 * k + 3) (by omega)
      have hlb := World.block_lt_of_cell? _ _ c0
      replace c0 := (hb.cell (p := ⟨bb, bo + 4 * k, none⟩) hlb).trans c0
      replace c1 := (hb.cell (p := ⟨bb, bo + (4 * k + 1), none⟩) hlb).trans c1
      replace c2 := (hb.cell (p := ⟨bb, bo + (4 * k + 2), none⟩) hlb).trans c2
      replace c3 := (hb.cell (p := ⟨bb, bo + (4 * k + 3), none⟩) hlb).trans c3
      have hw : Hid (word bk k = be4 (bk.getD (4 * k) 0) (bk.getD (4 * k + 1) 0) (bk.getD (4 * k + 2) 0) (bk.getD (4 * k + 3) 0)) := Lib.hid rfl
      generalize bk.getD (4 * k) 0 = x0 at c0 hw
      generalize bk.getD (4 * k + 1) 0 = x1 at c1 hw
      generalize bk.getD (4 * k + 2) 0 = x2 at c2 hw
      generalize bk.getD (4 * k + 3) 0 = x3 at c3 hw
      have y0 := x0.toNat_lt
      have y1 := x1.toNat_lt
      have y2 := x2.toNat_lt
      have y3 := x3.toNat_lt
      have h0k : (0 : Int) ≤ (k : Int) := by omega
      have n0 : 4 * (k : Int) < 64 := by omega
      have n1 : 4 * (k : Int) + 1 < 64 := by omega
      have n2 : 4 * (k : Int) + 2 < 64 := by omega
      have n3 : 4 * (k : Int) + 3 < 64 := by omega
      have v0 : IntKind.i64.wrap (4 * (k : Int)) = 4 * (k : Int) := by rw [IntKind.wrap_i64]; omega
      have v1 : IntKind.i64.wrap (4 * (k : Int) + 1) = 4 * (k : Int) + 1 := by rw [IntKind.wrap_i64]; omega
      have v2 : IntKind.i64.wrap (4 * (k : Int) + 2) = 4 * (k : Int) + 2 := by rw [IntKind.wrap_i64]; omega
      have v3 : IntKind.i64.wrap (4 * (k : Int) + 3) = 4 * (k : Int) + 3 := by rw [IntKind.wrap_i64]; omega
      have p0 : (0 : Int) ≤ 4 * (k : Int) := by omega
      have p1 : (0 : Int) ≤ 4 * (k : Int) + 1 := by omega
      have p2 : (0 : Int) ≤ 4 * (k : Int) + 2 := by omega
      have p3 : (0 : Int) ≤ 4 * (k : Int) + 3 := by omega
      have t0 : (4 * (k : Int)).toNat = 4 * k := by omega
      have t1 : (4 * (k : Int) + 1).toNat = 4 * k + 1 := by omega
      have t2 : (4 * (k : Int) + 2).toNat = 4 * k + 2 := by omega
      have t3 : (4 * (k : Int) + 3).toNat = 4 * k + 3 := by omega
      have z0 : IntKind.u32.wrap (x0.toNat : Int) = (x0.toNat : Int) := by rw [IntKind.wrap_u32]; omega
      have z1 : IntKind.u32.wrap (x1.toNat : Int) = (x1.toNat : Int) := by rw [IntKind.wrap_u32]; omega
      have z2 : IntKind.u32.wrap (x2.toNat : Int) = (x2.toNat : Int) := by rw [IntKind.wrap_u32]; omega
      have z3 : IntKind.u32.wrap (x3.toNat : Int) = (x3.toNat : Int) := by rw [IntKind.wrap_u32]; omega
      have q0 : IntKind.u32.wrap ((x0.toNat : Int) * 16777216) = (x0.toNat : Int) * 16777216 := by rw [IntKind.wrap_u32]; omega
      have q1 : IntKind.u32.wrap ((x1.toNat : Int) * 65536) = (x1.toNat : Int) * 65536 := by rw [IntKind.wrap_u32]; omega
      have q2 : IntKind.u32.wrap ((x2.toNat : Int) * 256) = (x2.toNat : Int) * 256 := by rw [IntKind.wrap_u32]; omega
      have hb4 : Hid (be4 x0 x1 x2 x3 = bits .or .u32 (bits .or .u32 (bits .or .u32 ((x0.toNat : Int) * 16777216) ((x1.toNat : Int) * 65536)) ((x2.toNat : Int) * 256)) (x3.toNat : Int)) := Lib.hid rfl
      go_wp2_with fail
      have HO2 := Lib.hid (HO.out.drew)
      refine wp_region_noPanic ?_
      refine wp_region_held_drew (S := (fun w' => Below w.heap.size w w' ∧ w'.cell? ⟨bb, bo + 4 * k, none⟩ = some (.int .u8 (x0.toNat : Int)) ∧ w'.cell? ⟨bb, bo + (4 * k + 1), none⟩ = some (.int .u8 (x1.toNat : Int)) ∧ w'.cell? ⟨bb, bo + (4 * k + 2), none⟩ = some (.int .u8 (x2.toNat : Int)) ∧ w'.cell? ⟨bb, bo + (4 * k + 3), none⟩ = some (.int .u8 (x3.toNat : Int)))) (by kernel_rfl) (⟨Below.drew hb, c0, c1, c2, c3⟩) (fun hHeld => ?_)
      refine wpAnyH_take (i := 0) (v := ?_) (by simp only [List.getElem?_toArray, List.getElem?_cons_zero]; rfl) (by kernel_rfl) (by kernel_rfl) (by kernel_rfl) (fun _ _ _ h => h) (Or.inl ⟨by rfl, ?_⟩) (by assumption) ?_
      rotate_left
      · (intro w hSw; (try dsimp only at hSw); go_simp; try with_reducible rfl)
      try simp only [Act.put, List.setIfInBounds_toArray, List.set_cons_zero, List.set_cons_succ]
      refine wpAnyH_take (i := 1) (v := ?_) (by simp only [List.getElem?_toArray, List.getElem?_cons_succ, List.getElem?_cons_zero]; rfl) (by kernel_rfl) (by kernel_rfl) (by kernel_rfl) (fun _ _ _ h => h) (Or.inl ⟨by rfl, ?_⟩) (by assumption) ?_
      rotate_left
      · (intro w hSw; (try dsimp only at hSw); go_simp; try with_reducible rfl)
      try simp only [Act.put, List.setIfInBounds_toArray, List.set_cons_zero, List.set_cons_succ]
      refine wpAnyH_take (i := 2) (v := ?_) (by simp only [List.getElem?_toArray, List.getElem?_cons_succ, List.getElem?_cons_zero]; rfl) (by kernel_rfl) (by kernel_rfl) (by kernel_rfl) (fun _ _ _ h => h) (Or.inl ⟨by rfl, ?_⟩) (by assumption) ?_
      rotate_left
      · (intro w hSw; (try dsimp only at hSw); go_simp; try with_reducible rfl)
      try simp only [Act.put, List.setIfInBounds_toArray, List.set_cons_zero, List.set_cons_succ]
      refine wpAnyH_take (i := 3) (v := ?_) (by simp only [List.getElem?_toArray, List.getElem?_cons_succ, List.getElem?_cons_zero]; rfl) (by kernel_rfl) (by kernel_rfl) (by kernel_rfl) (fun _ _ _ h => h) (Or.inl ⟨by rfl, ?_⟩) (by assumption) ?_
      rotate_left
      · (intro w hSw; (try dsimp only at hSw); go_simp; try with_reducible rfl)
      try simp only [Act.put, List.setIfInBounds_toArray, List.set_cons_zero, List.set_cons_succ]
      refine wpAnyH_take (i := 4) (v := ?_) (by simp only [List.getElem?_toArray, List.getElem?_cons_succ, List.getElem?_cons_zero]; rfl) (by kernel_rfl) (by kernel_rfl) (by kernel_rfl) (fun _ _ _ h => h) (Or.inl ⟨by rfl, ?_⟩) (by assumption) ?_
      rotate_left
      · (intro w hSw; (try dsimp only at hSw); go_simp; try with_reducible rfl)
      try simp only [Act.put, List.setIfInBounds_toArray, List.set_cons_zero, List.set_cons_succ]
      refine wpAnyH_take (i := 5) (v := ?_) (by simp only [List.getElem?_toArray, List.getElem?_cons_succ, List.getElem?_cons_zero]; rfl) (by kernel_rfl) (by kernel_rfl) (by kernel_rfl) (fun _ _ _ h => h) (Or.inl ⟨by rfl, ?_⟩) (by assumption) ?_
      rotate_left
      · (intro w hSw; (try dsimp only at hSw); go_simp; try with_reducible rfl)
      try simp only [Act.put, List.setIfInBounds_toArray, List.set_cons_zero, List.set_cons_succ]
      refine wpAnyH_take (i := 6) (v := ?_) (by simp only [List.getElem?_toArray, List.getElem?_cons_succ, List.getElem?_cons_zero]; rfl) (by kernel_rfl) (by kernel_rfl) (by kernel_rfl) (fun _ _ _ h => h) (Or.inl ⟨by rfl, ?_⟩) (by assumption) ?_
      rotate_left
      · (intro w hSw; (try dsimp only at hSw); go_simp; try with_reducible rfl)
      try simp only [Act.put, List.setIfInBounds_toArray, List.set_cons_zero, List.set_cons_succ]
      refine wpAnyH_take (i := 7) (v := ?_) (by simp only [List.getElem?_toArray, List.getElem?_cons_succ, List.getElem?_cons_zero]; rfl) (by kernel_rfl) (by kernel_rfl) (by kernel_rfl) (fun _ _ _ h => h) (Or.inl ⟨by rfl, ?_⟩) (by assumption) ?_
      rotate_left
      · (intro w hSw; (try dsimp only at hSw); go_simp; try with_reducible rfl)
      try simp only [Act.put, List.setIfInBounds_toArray, List.set_cons_zero, List.set_cons_succ]
      refine wpAnyH_take (i := 8) (v := ?_) (by simp only [List.getElem?_toArray, List.getElem?_cons_succ, List.getElem?_cons_zero]; rfl) (by kernel_rfl) (by kernel_rfl) (by kernel_rfl) (fun _ _ _ h => h) (Or.inl ⟨by rfl, ?_⟩) (by assumption) ?_
      rotate_left
      · (intro w hSw; (try dsimp only at hSw); go_simp; try with_reducible rfl)
      try simp only [Act.put, List.setIfInBounds_toArray, List.set_cons_zero, List.set_cons_succ]
      refine wpAnyH_take (i := 9) (v := ?_) (by simp only [List.getElem?_toArray, List.getElem?_cons_succ, List.getElem?_cons_zero]; rfl) (by kernel_rfl) (by kernel_rfl) (by kernel_rfl) (fun _ _ _ h => h) (Or.inl ⟨by rfl, ?_⟩) (by assumption) ?_
      rotate_left
      · (intro w hSw; (try dsimp only at hSw); go_simp; try with_reducible rfl)
      try simp only [Act.put, List.setIfInBounds_toArray, List.set_cons_zero, List.set_cons_succ]
      refine wpAnyH_take (i := 10) (v := ?_) (by simp only [List.getElem?_toArray, List.getElem?_cons_succ, List.getElem?_cons_zero]; rfl) (by kernel_rfl) (by kernel_rfl) (by kernel_rfl) (fun _ _ _ h => h) (Or.inl ⟨by rfl, ?_⟩) (by assumption) ?_
      rotate_left
      · (intro w hSw; (try dsimp only at hSw); go_simp; try with_reducible rfl)
      try simp only [Act.put, List.setIfInBounds_toArray, List.set_cons_zero, List.set_cons_succ]
      refine wpAnyH_take (i := 11) (v := ?_) (by simp only [List.getElem?_toArray, List.getElem?_cons_succ, List.getElem?_cons_zero]; rfl) (by kernel_rfl) (by kernel_rfl) (by kernel_rfl) (fun _ _ _ h => h) (Or.inl ⟨by rfl, ?_⟩) (by assumption) ?_
      rotate_left
      · (intro w hSw; (try dsimp only at hSw); go_simp; try with_reducible rfl)
      try simp only [Act.put, List.setIfInBounds_toArray, List.set_cons_zero, List.set_cons_succ]
      refine wpAnyH_take (i := 12) (v := ?_) (by simp only [List.getElem?_toArray, List.getElem?_cons_succ, List.getElem?_cons_zero]; rfl) (by kernel_rfl) (by kernel_rfl) (by kernel_rfl) (fun _ _ _ h => h) (Or.inl ⟨by rfl, ?_⟩) (by assumption) ?_
      rotate_left
      · (intro w hSw; (try dsimp only at hSw); go_simp; try with_reducible rfl)
      try simp only [Act.put, List.setIfInBounds_toArray, List.set_cons_zero, List.set_cons_succ]
      refine wpAnyH_take (i := 13) (v := ?_) (by simp only [List.getElem?_toArray, List.getElem?_cons_succ, List.getElem?_cons_zero]; rfl) (by kernel_rfl) (by kernel_rfl) (by kernel_rfl) (fun _ _ _ h => h) (Or.inl ⟨by rfl, ?_⟩) (by assumption) ?_
      rotate_left
      · (intro w hSw; (try dsimp only at hSw); go_simp; try with_reducible rfl)
      try simp only [Act.put, List.setIfInBounds_toArray, List.set_cons_zero, List.set_cons_succ]
      refine wpAnyH_take (i := 14) (v := ?_) (by simp only [List.getElem?_toArray, List.getElem?_cons_succ, List.getElem?_cons_zero]; rfl) (by kernel_rfl) (by kernel_rfl) (by kernel_rfl) (fun _ _ _ h => h) (Or.inl ⟨by rfl, ?_⟩) (by assumption) ?_
      rotate_left
      · (intro w hSw; (try dsimp only at hSw); go_simp; try with_reducible rfl)
      try simp only [Act.put, List.setIfInBounds_toArray, List.set_cons_zero, List.set_cons_succ]
      refine wpAnyH_take (i := 15) (v := ?_) (by simp only [List.getElem?_toArray, List.getElem?_cons_succ, List.getElem?_cons_zero]; rfl) (by kernel_rfl) (by kernel_rfl) (by kernel_rfl) (fun _ _ _ h => h) (Or.inl ⟨by rfl, ?_⟩) (by assumption) ?_
      rotate_left
      · (intro w hSw; (try dsimp only at hSw); go_simp; try with_reducible rfl)
      try simp only [Act.put, List.setIfInBounds_toArray, List.set_cons_zero, List.set_cons_succ]
      refine wpAnyH_take (i := 16) (v := ?_) (by simp only [List.getElem?_toArray, List.getElem?_cons_succ, List.getElem?_cons_zero]; rfl) (by kernel_rfl) (by kernel_rfl) (by kernel_rfl) (fun _ _ _ h => h) (Or.inl ⟨by rfl, ?_⟩) (by assumption) ?_
      rotate_left
      · (intro w hSw; (try dsimp only at hSw); go_simp; try with_reducible rfl)
      try simp only [Act.put, List.setIfInBounds_toArray, List.set_cons_zero, List.set_cons_succ]
      refine wpAnyH_take (i := 17) (v := ?_) (by simp only [List.getElem?_toArray, List.getElem?_cons_succ, List.getElem?_cons_zero]; rfl) (by kernel_rfl) (by kernel_rfl) (by kernel_rfl) (fun _ _ _ h => h) (Or.inl ⟨by rfl, ?_⟩) (by assumption) ?_
      rotate_left
      · (intro w hSw; (try dsimp only at hSw); go_simp; try with_reducible rfl)
      try simp only [Act.put, List.setIfInBounds_toArray, List.set_cons_zero, List.set_cons_succ]
      refine wpAnyH_take (i := 18) (v := ?_) (by simp only [List.getElem?_toArray, List.getElem?_cons_succ, List.getElem?_cons_zero]; rfl) (by kernel_rfl) (by kernel_rfl) (by kernel_rfl) (fun _ _ _ h => h) (Or.inl ⟨by rfl, ?_⟩) (by assumption) ?_
      rotate_left
      · (intro w hSw; (try dsimp only at hSw); go_simp; try with_reducible rfl)
      try simp only [Act.put, List.setIfInBounds_toArray, List.set_cons_zero, List.set_cons_succ]
      refine wpAnyH_take (i := 19) (v := ?_) (by simp only [List.getElem?_toArray, List.getElem?_cons_succ, List.getElem?_cons_zero]; rfl) (by kernel_rfl) (by kernel_rfl) (by kernel_rfl) (fun _ _ _ h => h) (Or.inl ⟨by rfl, ?_⟩) (by assumption) ?_
      rotate_left
      · (intro w hSw; (try dsimp only at hSw); go_simp; try with_reducible rfl)
      try simp only [Act.put, List.setIfInBounds_toArray, List.set_cons_zero, List.set_cons_succ]
      refine wpAnyH_take (i := 20) (v := ?_) (by simp only [List.getElem?_toArray, List.getElem?_cons_succ, List.getElem?_cons_zero]; rfl) (by kernel_rfl) (by kernel_rfl) (by kernel_rfl) (fun _ _ _ h => h) (Or.inl ⟨by rfl, ?_⟩) (by assumption) ?_
      rotate_left
      · (intro w hSw; (try dsimp only at hSw); go_simp; try with_reducible rfl)
      try simp only [Act.put, List.setIfInBounds_toArray, List.set_cons_zero, List.set_cons_succ]
      refine wpAnyH_take (i := 21) (v := ?_) (by simp only [List.getElem?_toArray, List.getElem?_cons_succ, List.getElem?_cons_zero]; rfl) (by kernel_rfl) (by kernel_rfl) (by kernel_rfl) (fun _ _ _ h => h) (Or.inl ⟨by rfl, ?_⟩) (by assumption) ?_
      rotate_left
      · (intro w hSw; (try dsimp only at hSw); go_simp; try with_reducible rfl)
      try simp only [Act.put, List.setIfInBounds_toArray, List.set_cons_zero, List.set_cons_succ]
      refine wpAnyH_take (i := 22) (v := ?_) (by simp only [List.getElem?_toArray, List.getElem?_cons_succ, List.getElem?_cons_zero]; rfl) (by kernel_rfl) (by kernel_rfl) (by kernel_rfl) (fun _ _ _ h => h) (Or.inl ⟨by rfl, ?_⟩) (by assumption) ?_
      rotate_left
      · (intro w hSw; (try dsimp only at hSw); go_simp; try with_reducible rfl)
      try simp only [Act.put, List.setIfInBounds_toArray, List.set_cons_zero, List.set_cons_succ]
      refine wpAnyH_take (i := 23) (v := ?_) (by simp only [List.getElem?_toArray, List.getElem?_cons_succ, List.getElem?_cons_zero]; rfl) (by kernel_rfl) (by kernel_rfl) (by kernel_rfl) (fun _ _ _ h => h) (Or.inl ⟨by rfl, ?_⟩) (by assumption) ?_
      rotate_left
      · (intro w hSw; (try dsimp only at hSw); go_simp; try with_reducible rfl)
      try simp only [Act.put, List.setIfInBounds_toArray, List.set_cons_zero, List.set_cons_succ]
      refine wpAnyH_take (i := 24) (v := ?_) (by simp only [List.getElem?_toArray, List.getElem?_cons_succ, List.getElem?_cons_zero]; rfl) (by kernel_rfl) (by kernel_rfl) (by kernel_rfl) (fun _ _ _ h => h) (Or.inl ⟨by rfl, ?_⟩) (by assumption) ?_
      rotate_left
      · (intro w hSw; (try dsimp only at hSw); go_simp; try with_reducible rfl)
      try simp only [Act.put, List.setIfInBounds_toArray, List.set_cons_zero, List.set_cons_succ]
      refine wpAnyH_take (i := 25) (v := ?_) (by simp only [List.getElem?_toArray, List.getElem?_cons_succ, List.getElem?_cons_zero]; rfl) (by kernel_rfl) (by kernel_rfl) (by kernel_rfl) (fun _ _ _ h => h) (Or.inl ⟨by rfl, ?_⟩) (by assumption) ?_
      rotate_left
      · (intro w hSw; (try dsimp only at hSw); go_simp; try with_reducible rfl)
      try simp only [Act.put, List.setIfInBounds_toArray, List.set_cons_zero, List.set_cons_succ]
      refine wpAnyH_take (i := 26) (v := ?_) (by simp only [List.getElem?_toArray, List.getElem?_cons_succ, List.getElem?_cons_zero]; rfl) (by kernel_rfl) (by kernel_rfl) (by kernel_rfl) (fun _ _ _ h => h) (Or.inl ⟨by rfl, ?_⟩) (by assumption) ?_
      rotate_left
      · (intro w hSw; (try dsimp only at hSw); go_simp; try with_reducible rfl)
      try simp only [Act.put, List.setIfInBounds_toArray, List.set_cons_zero, List.set_cons_succ]
      refine wpAnyH_take (i := 27) (v := ?_) (by simp only [List.getElem?_toArray, List.getElem?_cons_succ, List.getElem?_cons_zero]; rfl) (by kernel_rfl) (by kernel_rfl) (by kernel_rfl) (fun _ _ _ h => h) (Or.inl ⟨by rfl, ?_⟩) (by assumption) ?_
      rotate_left
      · (intro w hSw; (try dsimp only at hSw); go_simp; try with_reducible rfl)
      try simp only [Act.put, List.setIfInBounds_toArray, List.set_cons_zero, List.set_cons_succ]
      refine wpAnyH_take (i := 28) (v := ?_) (by simp only [List.getElem?_toArray, List.getElem?_cons_succ, List.getElem?_cons_zero]; rfl) (by kernel_rfl) (by kernel_rfl) (by kernel_rfl) (fun _ _ _ h => h) (Or.inl ⟨by rfl, ?_⟩) (by assumption) ?_
      rotate_left
      · (intro w hSw; (try dsimp only at hSw); go_simp; try with_reducible rfl)
      try simp only [Act.put, List.setIfInBounds_toArray, List.set_cons_zero, List.set_cons_succ]
      refine wpAnyH_take (i := 29) (v := ?_) (by simp only [List.getElem?_toArray, List.getElem?_cons_succ, List.getElem?_cons_zero]; rfl) (by kernel_rfl) (by kernel_rfl) (by kernel_rfl) (fun _ _ _ h => h) (Or.inl ⟨by rfl, ?_⟩) (by assumption) ?_
      rotate_left
      · (intro w hSw; (try dsimp only at hSw); go_simp; try with_reducible rfl)
      try simp only [Act.put, List.setIfInBounds_toArray, List.set_cons_zero, List.set_cons_succ]
      refine wpAnyH_take (i := 30) (v := ?_) (by simp only [List.getElem?_toArray, List.getElem?_cons_succ, List.getElem?_cons_zero]; rfl) (by kernel_rfl) (by kernel_rfl) (by kernel_rfl) (fun _ _ _ h => h) (Or.inl ⟨by rfl, ?_⟩) (by assumption) ?_
      rotate_left
      · (intro w hSw; (try dsimp only at hSw); go_simp; try with_reducible rfl)
      try simp only [Act.put, List.setIfInBounds_toArray, List.set_cons_zero, List.set_cons_succ]
      refine wpAnyH_take (i := 31) (v := ?_) (by simp only [List.getElem?_toArray, List.getElem?_cons_succ, List.getElem?_cons_zero]; rfl) (by kernel_rfl) (by kernel_rfl) (by kernel_rfl) (fun _ _ _ h => h) (Or.inl ⟨by rfl, ?_⟩) (by assumption) ?_
      rotate_left
      · (intro w hSw; (try dsimp only at hSw); go_simp; try with_reducible rfl)
      try simp only [Act.put, List.setIfInBounds_toArray, List.set_cons_zero, List.set_cons_succ]
      refine wpAnyH_take (i := 32) (v := ?_) (by simp only [List.getElem?_toArray, List.getElem?_cons_succ, List.getElem?_cons_zero]; rfl) (by kernel_rfl) (by kernel_rfl) (by kernel_rfl) (fun _ _ _ h => h) (Or.inl ⟨by rfl, ?_⟩) (by assumption) ?_
      rotate_left
      · (intro w hSw; (try dsimp only at hSw); go_simp; try with_reducible rfl)
      try simp only [Act.put, List.setIfInBounds_toArray, List.set_cons_zero, List.set_cons_succ]
      refine wpAnyH_take (i := 33) (v := ?_) (by simp only [List.getElem?_toArray, List.getElem?_cons_succ, List.getElem?_cons_zero]; rfl) (by kernel_rfl) (by kernel_rfl) (by kernel_rfl) (fun _ _ _ h => h) (Or.inl ⟨by rfl, ?_⟩) (by assumption) ?_
      rotate_left
      · (intro w hSw; (try dsimp only at hSw); go_simp; try with_reducible rfl)
      try simp only [Act.put, List.setIfInBounds_toArray, List.set_cons_zero, List.set_cons_succ]
      refine wpAnyH_ready (rs := [34]) (by kernel_rfl) (by simp) ?_
      refine AllReadyH.cons (by simp only [List.getElem?_toArray, List.getElem?_cons_succ, List.getElem?_cons_zero]; rfl) (fun K hK => ?_) AllReadyH.nil
      go_simp
      refine hK.out _ _ (⟨Below.drew (balloc hb _), keepC c0 (Below.drew (balloc (Below.refl wr.heap.size wr) _)), keepC c1 (Below.drew (balloc (Below.refl wr.heap.size wr) _)), keepC c2 (Below.drew (balloc (Below.refl wr.heap.size wr) _)), keepC c3 (Below.drew (balloc (Below.refl wr.heap.size wr) _))⟩) (fun hHeld => ?_)
      clear hK K
      try simp only [Act.put, List.setIfInBounds_toArray, List.set_cons_zero, List.set_cons_succ]
      refine wpAnyH_ready (rs := [35]) (by kernel_rfl) (by simp) ?_
      refine AllReadyH.cons (by simp only [List.getElem?_toArray, List.getElem?_cons_succ, List.getElem?_cons_zero]; rfl) (fun K hK => ?_) AllReadyH.nil
      refine Row.step_app typ32 rfl (.tmp 25) (.tmp 59) rfl w.heap.size v (words bk k) rfl ((HO.out.alloc _).drew) _ 1 1 [(bits .or .u32 (bits .or .u32 (bits .or .u32 ((x0.toNat : Int) * 16777216) ((x1.toNat : Int) * 65536)) ((x2.toNat : Int) * 256)) (x3.toNat : Int))] rfl (new_lies wr _ _) (by rw [words_length]; omega) (by have := hb.size; show _ ≤ (wr.alloc _).heap.size; rw [World.size_alloc]; omega) ?_
      intro v9 w9 o9 _ k9
      refine hK.out _ _ (⟨hHeld.1.trans k9, (k9.cell (p := ⟨bb, bo + 4 * k, none⟩) hlb).trans hHeld.2.1, (k9.cell (p := ⟨bb, bo + (4 * k + 1), none⟩) hlb).trans hHeld.2.2.1, (k9.cell (p := ⟨bb, bo + (4 * k + 2), none⟩) hlb).trans hHeld.2.2.2.1, (k9.cell (p := ⟨bb, bo + (4 * k + 3), none⟩) hlb).trans hHeld.2.2.2.2⟩) (fun hHeld => ?_)
      clear hK K
      try simp only [Act.put, List.setIfInBounds_toArray, List.set_cons_zero, List.set_cons_succ]
      refine wpAnyH_take (i := 36) (v := ?_) (by simp only [List.getElem?_toArray, List.getElem?_cons_succ, List.getElem?_cons_zero]; rfl) (by kernel_rfl) (by kernel_rfl) (by kernel_rfl) (fun _ _ _ h => h) (Or.inl ⟨by rfl, ?_⟩) (by assumption) ?_
      rotate_left
      · (intro w hSw; (try dsimp only at hSw); go_simp; try with_reducible rfl)
      try simp only [Act.put, List.setIfInBounds_toArray, List.set_cons_zero, List.set_cons_succ]
      refine wpAnyH_done (by kernel_rfl) ?_ _
      refine NoPanic.normal ?_
      obtain ⟨hb9, -⟩ := hHeld
      have HO9 := Lib.hid o9
      clear o9 k9
      go_wp2_with fail
      go_roundw
      case rel =>
        exact ⟨k + 1, _, by omega, rfl, by go_num, hb9, Lib.hid (by have h := HO9.out; rw [← hb4.out, ← hw.out] at h; exact h)⟩
      case measure => simp [intOf]; omega
    · obtain rfl : k = 16 := by omega
      have hd : decide ((16 : Int) < 16) = false := by decide
      have HO16 := Lib.hid HO.out
      clear HO
      go_wp2_with fail
      rw [show ((16 : Nat) : Int) = 16 from rfl]
      go_loopw [7, 9] (fun v i wx => ∃ (t : Nat) (x : Value), 16 ≤ t ∧ t ≤ 64 ∧ x = v ∧ i = .int .i64 (t : Int) ∧ Below w.heap.size w wx ∧ Hid (Own32 wx w.heap.size x (sched (words bk 16) (t - 16)))) (fun _ i _ => 64 - (intOf i).toNat)
      case atStart => exact ⟨16, v, by omega, by omega, rfl, rfl, hb, HO16⟩
      case round =>
        clear hb HO16
        obtain ⟨t, v, ht, ht2, rfl, rfl, hb, HO⟩ := hrel
        have hlen : (sched (words bk 16) (t - 16)).length = t := by rw [sched_length, words_length]; omega
        by_cases hlt : t < 64
        · have hd : decide ((t : Int) < 64) = true := decide_eq_true (by omega)
          obtain ⟨g, cap, rfl, hgB, hgl, hcap, hcm, hcs, hfr⟩ := Ones.Own.at HO.out (by omega)
          rw [hlen] at hcap hcs
          have c2 := hcs (t - 2) (by omega)
          have c7 := hcs (t - 7) (by omega)
          have c15 := hcs (t - 15) (by omega)
          have c16 := hcs (t - 16) (by omega)
          clear hcs hfr
          have i2 : (0 : Int) ≤ (t : Int) - 2 := by omega
          have l2 : (2 : Int) ≤ (t : Int) := by omega
          have j2 : (t : Int) - 2 < (t : Int) := by omega
          have h2 : ((t : Int) - 2).toNat = t - 2 := by omega
          have v2 : IntKind.i64.wrap ((t : Int) - 2) = (t : Int) - 2 := by rw [IntKind.wrap_i64]; omega
          have i7 : (0 : Int) ≤ (t : Int) - 7 := by omega
          have l7 : (7 : Int) ≤ (t : Int) := by omega
          have j7 : (t : Int) - 7 < (t : Int) := by omega
          have h7 : ((t : Int) - 7).toNat = t - 7 := by omega
          have v7 : IntKind.i64.wrap ((t : Int) - 7) = (t : Int) - 7 := by rw [IntKind.wrap_i64]; omega
          have i15 : (0 : Int) ≤ (t : Int) - 15 := by omega
          have l15 : (15 : Int) ≤ (t : Int) := by omega
          have j15 : (t : Int) - 15 < (t : Int) := by omega
          have h15 : ((t : Int) - 15).toNat = t - 15 := by omega
          have v15 : IntKind.i64.wrap ((t : Int) - 15) = (t : Int) - 15 := by rw [IntKind.wrap_i64]; omega
          have i16 : (0 : Int) ≤ (t : Int) - 16 := by omega
          have l16 : (16 : Int) ≤ (t : Int) := by omega
          have j16 : (t : Int) - 16 < (t : Int) := by omega
          have h16 : ((t : Int) - 16).toNat = t - 16 := by omega
          have v16 : IntKind.i64.wrap ((t : Int) - 16) = (t : Int) - 16 := by rw [IntKind.wrap_i64]; omega
          have j0 : (t : Int) < 64 := by omega
          have HN : Hid (next (sched (words bk 16) (t - 16)) = add (add (add (sig1 ((sched (words bk 16) (t - 16)).getD (t - 2) 0)) ((sched (words bk 16) (t - 16)).getD (t - 7) 0)) (sig0 ((sched (words bk 16) (t - 16)).getD (t - 15) 0))) ((sched (words bk 16) (t - 16)).getD (t - 16) 0)) := Lib.hid (by unfold next; rw [hlen])
          generalize (sched (words bk 16) (t - 16)).getD (t - 2) 0 = x2 at c2 HN
          generalize (sched (words bk 16) (t - 16)).getD (t - 7) 0 = x7 at c7 HN
          generalize (sched (words bk 16) (t - 16)).getD (t - 15) 0 = x15 at c15 HN
          generalize (sched (words bk 16) (t - 16)).getD (t - 16) 0 = x16 at c16 HN
          have HL := Lib.hid hlen
          rw [hlen] at HO ⊢
          clear hlen
          go_wp2_with fail
          go_quiet (fail)
          generalize hW : wr.drewN _ = W1
          replace c2 : W1.cell? ⟨g, t - 2, none⟩ = some (.int .u32 x2) := by rw [← hW]; simpa using c2
          replace c7 : W1.cell? ⟨g, t - 7, none⟩ = some (.int .u32 x7) := by rw [← hW]; simpa using c7
          replace c15 : W1.cell? ⟨g, t - 15, none⟩ = some (.int .u32 x15) := by rw [← hW]; simpa using c15
          replace c16 : W1.cell? ⟨g, t - 16, none⟩ = some (.int .u32 x16) := by rw [← hW]; simpa using c16
          replace hb : Below w.heap.size w W1 := by rw [← hW]; exact bdrewN hb _
          replace HO : Hid (Own32 W1 w.heap.size (.slice (some ⟨g, 0, none⟩) t cap) (sched (words bk 16) (t - 16))) := by rw [← hW]; exact HO
          clear hW
          go_wp2_with (go_at_call 78; refine (ref_right_any _ _ (by decide) _).mono ?_; rintro e w' ⟨rfl, rfl⟩)
          have hsz : w.heap.size ≤ W1.heap.size := hb.size
          refine wp_region_noPanic ?_
          refine wp_region_held_drew (S := (fun w' => Below w.heap.size w w' ∧ w'.cell? ⟨g, t - 7, none⟩ = some (.int .u32 x7) ∧ w'.cell? ⟨g, t - 16, none⟩ = some (.int .u32 x16))) (by kernel_rfl) (⟨Below.drew hb, c7, c16⟩) (fun hHeld => ?_)
          refine wpAnyH_take (i := 0) (v := ?_) (by simp only [List.getElem?_toArray, List.getElem?_cons_zero]; rfl) (by kernel_rfl) (by kernel_rfl) (by kernel_rfl) (fun _ _ _ h => h) (Or.inl ⟨by rfl, ?_⟩) (by assumption) ?_
          rotate_left
          · (intro w hSw; (try dsimp only at hSw); go_simp; try with_reducible rfl)
          try simp only [Act.put, List.setIfInBounds_toArray, List.set_cons_zero, List.set_cons_succ]
          refine wpAnyH_take (i := 1) (v := ?_) (by simp only [List.getElem?_toArray, List.getElem?_cons_succ, List.getElem?_cons_zero]; rfl) (by kernel_rfl) (by kernel_rfl) (by kernel_rfl) (fun _ _ _ h => h) (Or.inl ⟨by rfl, ?_⟩) (by assumption) ?_
          rotate_left
          · (intro w hSw; (try dsimp only at hSw); go_simp; try with_reducible rfl)
          try simp only [Act.put, List.setIfInBounds_toArray, List.set_cons_zero, List.set_cons_succ]
          refine wpAnyH_take (i := 2) (v := ?_) (by simp only [List.getElem?_toArray, List.getElem?_cons_succ, List.getElem?_cons_zero]; rfl) (by kernel_rfl) (by kernel_rfl) (by kernel_rfl) (fun _ _ _ h => h) (Or.inl ⟨by rfl, ?_⟩) (by assumption) ?_
          rotate_left
          · (intro w hSw; (try dsimp only at hSw); go_simp; try with_reducible rfl)
          try simp only [Act.put, List.setIfInBounds_toArray, List.set_cons_zero, List.set_cons_succ]
          refine wpAnyH_take (i := 3) (v := ?_) (by simp only [List.getElem?_toArray, List.getElem?_cons_succ, List.getElem?_cons_zero]; rfl) (by kernel_rfl) (by kernel_rfl) (by kernel_rfl) (fun _ _ _ h => h) (Or.inl ⟨by rfl, ?_⟩) (by assumption) ?_
          rotate_left
          · (intro w hSw; (try dsimp only at hSw); go_simp; try with_reducible rfl)
          try simp only [Act.put, List.setIfInBounds_toArray, List.set_cons_zero, List.set_cons_succ]
          refine wpAnyH_take (i := 4) (v := ?_) (by simp only [List.getElem?_toArray, List.getElem?_cons_succ, List.getElem?_cons_zero]; rfl) (by kernel_rfl) (by kernel_rfl) (by kernel_rfl) (fun _ _ _ h => h) (Or.inl ⟨by rfl, ?_⟩) (by assumption) ?_
          rotate_left
          · (intro w hSw; (try dsimp only at hSw); go_simp; try with_reducible rfl)
          try simp only [Act.put, List.setIfInBounds_toArray, List.set_cons_zero, List.set_cons_succ]
          refine wpAnyH_take (i := 5) (v := ?_) (by simp only [List.getElem?_toArray, List.getElem?_cons_succ, List.getElem?_cons_zero]; rfl) (by kernel_rfl) (by kernel_rfl) (by kernel_rfl) (fun _ _ _ h => h) (Or.inl ⟨by rfl, ?_⟩) (by assumption) ?_
          rotate_left
          · (intro w hSw; (try dsimp only at hSw); go_simp; try with_reducible rfl)
          try simp only [Act.put, List.setIfInBounds_toArray, List.set_cons_zero, List.set_cons_succ]
          refine wpAnyH_take (i := 6) (v := ?_) (by simp only [List.getElem?_toArray, List.getElem?_cons_succ, List.getElem?_cons_zero]; rfl) (by kernel_rfl) (by kernel_rfl) (by kernel_rfl) (fun _ _ _ h => h) (Or.inl ⟨by rfl, ?_⟩) (by assumption) ?_
          rotate_left
          · (intro w hSw; (try dsimp only at hSw); go_simp; try with_reducible rfl)
          try simp only [Act.put, List.setIfInBounds_toArray, List.set_cons_zero, List.set_cons_succ]
          refine wpAnyH_take (i := 7) (v := ?_) (by simp only [List.getElem?_toArray, List.getElem?_cons_succ, List.getElem?_cons_zero]; rfl) (by kernel_rfl) (by kernel_rfl) (by kernel_rfl) (fun _ _ _ h => h) (Or.inl ⟨by rfl, ?_⟩) (by assumption) ?_
          rotate_left
          · (intro w hSw; (try dsimp only at hSw); go_simp; try with_reducible rfl)
          try simp only [Act.put, List.setIfInBounds_toArray, List.set_cons_zero, List.set_cons_succ]
          refine wpAnyH_take (i := 8) (v := ?_) (by simp only [List.getElem?_toArray, List.getElem?_cons_succ, List.getElem?_cons_zero]; rfl) (by kernel_rfl) (by kernel_rfl) (by kernel_rfl) (fun _ _ _ h => h) (Or.inl ⟨by rfl, ?_⟩) (by assumption) ?_
          rotate_left
          · (intro w hSw; (try dsimp only at hSw); go_simp; try with_reducible rfl)
          try simp only [Act.put, List.setIfInBounds_toArray, List.set_cons_zero, List.set_cons_succ]
          refine wpAnyH_take (i := 9) (v := ?_) (by simp only [List.getElem?_toArray, List.getElem?_cons_succ, List.getElem?_cons_zero]; rfl) (by kernel_rfl) (by kernel_rfl) (by kernel_rfl) (fun _ _ _ h => h) (Or.inl ⟨by rfl, ?_⟩) (by assumption) ?_
          rotate_left
          · (intro w hSw; (try dsimp only at hSw); go_simp; try with_reducible rfl)
          try simp only [Act.put, List.setIfInBounds_toArray, List.set_cons_zero, List.set_cons_succ]
          refine wpAnyH_take (i := 10) (v := ?_) (by simp only [List.getElem?_toArray, List.getElem?_cons_succ, List.getElem?_cons_zero]; rfl) (by kernel_rfl) (by kernel_rfl) (by kernel_rfl) (fun _ _ _ h => h) (Or.inl ⟨by rfl, ?_⟩) (by assumption) ?_
          rotate_left
          · (intro w hSw; (try dsimp only at hSw); go_simp; try with_reducible rfl)
          try simp only [Act.put, List.setIfInBounds_toArray, List.set_cons_zero, List.set_cons_succ]
          refine wpAnyH_take (i := 11) (v := ?_) (by simp only [List.getElem?_toArray, List.getElem?_cons_succ, List.getElem?_cons_zero]; rfl) (by kernel_rfl) (by kernel_rfl) (by kernel_rfl) (fun _ _ _ h => h) (Or.inl ⟨by rfl, ?_⟩) (by assumption) ?_
          rotate_left
          · (intro w hSw; (try dsimp only at hSw); go_simp; try with_reducible rfl)
          try simp only [Act.put, List.setIfInBounds_toArray, List.set_cons_zero, List.set_cons_succ]
          refine wpAnyH_take (i := 12) (v := ?_) (by simp only [List.getElem?_toArray, List.getElem?_cons_succ, List.getElem?_cons_zero]; rfl) (by kernel_rfl) (by kernel_rfl) (by kernel_rfl) (fun _ _ _ h => h) (Or.inl ⟨by rfl, ?_⟩) (by assumption) ?_
          rotate_left
          · (intro w hSw; (try dsimp only at hSw); go_simp; try with_reducible rfl)
          try simp only [Act.put, List.setIfInBounds_toArray, List.set_cons_zero, List.set_cons_succ]
          refine wpAnyH_take (i := 13) (v := ?_) (by simp only [List.getElem?_toArray, List.getElem?_cons_succ, List.getElem?_cons_zero]; rfl) (by kernel_rfl) (by kernel_rfl) (by kernel_rfl) (fun _ _ _ h => h) (Or.inl ⟨by rfl, ?_⟩) (by assumption) ?_
          rotate_left
          · (intro w hSw; (try dsimp only at hSw); go_simp; try with_reducible rfl)
          try simp only [Act.put, List.setIfInBounds_toArray, List.set_cons_zero, List.set_cons_succ]
          refine wpAnyH_take (i := 14) (v := ?_) (by simp only [List.getElem?_toArray, List.getElem?_cons_succ, List.getElem?_cons_zero]; rfl) (by kernel_rfl) (by kernel_rfl) (by kernel_rfl) (fun _ _ _ h => h) (Or.inl ⟨by rfl, ?_⟩) (by assumption) ?_
          rotate_left
          · (intro w hSw; (try dsimp only at hSw); go_simp; try with_reducible rfl)
          try simp only [Act.put, List.setIfInBounds_toArray, List.set_cons_zero, List.set_cons_succ]
          refine wpAnyH_take (i := 15) (v := ?_) (by simp only [List.getElem?_toArray, List.getElem?_cons_succ, List.getElem?_cons_zero]; rfl) (by kernel_rfl) (by kernel_rfl) (by kernel_rfl) (fun _ _ _ h => h) (Or.inl ⟨by rfl, ?_⟩) (by assumption) ?_
          rotate_left
          · (intro w hSw; (try dsimp only at hSw); go_simp; try with_reducible rfl)
          try simp only [Act.put, List.setIfInBounds_toArray, List.set_cons_zero, List.set_cons_succ]
          refine wpAnyH_ready (rs := [16]) (by kernel_rfl) (by simp) ?_
          refine AllReadyH.cons (by simp only [List.getElem?_toArray, List.getElem?_cons_succ, List.getElem?_cons_zero]; rfl) (fun K hK => ?_) AllReadyH.nil
          go_simp
          refine hK.out _ _ (⟨Below.drew (balloc hb _), keepC c7 (Below.drew (balloc (Below.refl W1.heap.size W1) _)), keepC c16 (Below.drew (balloc (Below.refl W1.heap.size W1) _))⟩) (fun hHeld => ?_)
          clear hK K
          try simp only [Act.put, List.setIfInBounds_toArray, List.set_cons_zero, List.set_cons_succ]
          refine wpAnyH_ready (rs := [17]) (by kernel_rfl) (by simp) ?_
          refine AllReadyH.cons (by simp only [List.getElem?_toArray, List.getElem?_cons_succ, List.getElem?_cons_zero]; rfl) (fun K hK => ?_) AllReadyH.nil
          refine Ones.step_app_keep typ32 rfl (.tmp 91) (.tmp 107) rfl w.heap.size g t cap (sched (words bk 16) (t - 16)) rfl ((HO.out.alloc _).drew) _ 1 1 [(IntKind.u32.wrap (IntKind.u32.wrap (IntKind.u32.wrap (bits .xor .u32 (bits .xor .u32 (rr 17 x2) (rr 19 x2)) (x2 / 1024) + x7) + bits .xor .u32 (bits .xor .u32 (rr 7 x15) (rr 18 x15)) (x15 / 8)) + x16))] rfl (new_lies W1 _ _) (by rw [HL.out]; omega) (by show _ ≤ (W1.alloc _).heap.size; rw [World.size_alloc]; omega) ?_
          intro v9 w9 o9 k9 e9
          refine hK.out _ _ (⟨hHeld.1.trans k9, (e9 (t - 7) (by rw [HL.out]; show _ < t * 1; omega)).trans hHeld.2.1, (e9 (t - 16) (by rw [HL.out]; show _ < t * 1; omega)).trans hHeld.2.2⟩) (fun hHeld => ?_)
          clear hK K
          try simp only [Act.put, List.setIfInBounds_toArray, List.set_cons_zero, List.set_cons_succ]
          refine wpAnyH_take (i := 18) (v := ?_) (by simp only [List.getElem?_toArray, List.getElem?_cons_succ, List.getElem?_cons_zero]; rfl) (by kernel_rfl) (by kernel_rfl) (by kernel_rfl) (fun _ _ _ h => h) (Or.inl ⟨by rfl, ?_⟩) (by assumption) ?_
          rotate_left
          · (intro w hSw; (try dsimp only at hSw); go_simp; try with_reducible rfl)
          try simp only [Act.put, List.setIfInBounds_toArray, List.set_cons_zero, List.set_cons_succ]
          refine wpAnyH_done (by kernel_rfl) ?_ _
          refine NoPanic.normal ?_
          obtain ⟨hb9, -⟩ := hHeld
          have HO9 := Lib.hid o9
          clear o9 k9 e9
          go_wp2_with fail
          go_roundw
          case rel =>
            refine ⟨t + 1, _, by omega, by omega, rfl, by go_num, hb9, Lib.hid ?_⟩
            rw [show t + 1 - 16 = (t - 16) + 1 by omega, sched, HN.out, add_w]
            exact HO9.out
          case measure => simp [intOf]; omega
        · obtain rfl : t = 64 := by omega
          have hd : decide ((64 : Int) < 64) = false := by decide
          have HOW : Hid (Own32 wr w.heap.size v (sched (words bk 16) 48)) := Lib.hid (by have h := HO.out; rwa [show 64 - 16 = 48 from rfl] at h)
          have hlW : (sched (words bk 16) 48).length = 64 := by rw [sched_length, words_length]
          obtain ⟨g, cap, rfl, hgB, hgl, hcap, hcm, -, -⟩ := Ones.Own.at HOW.out (by omega)
          rw [hlW] at hcap HOW ⊢
          have HLW := Lib.hid hlW
          clear HO hlen hlW
          go_wp2_with (at_builtin; refine Row.wpList_app typ32 rfl _ _ rfl w.heap.size _ _ rfl (Row.Own.nil _ _) ah 8 ch s.list rfl (HH.out.below hb) (by simp only [List.length_nil]; omega) hb.size ?_; intro v8 w8 o8 g8 k8)
          have HO8 := Lib.hid o8
          have HW8 : Hid (Own32 w8 w.heap.size (.slice (some ⟨g, 0, none⟩) 64 cap) (sched (words bk 16) 48)) := Lib.hid (World.ownsRow.kept HOW.out g8 (Or.inr (by show (some g : Option Nat) ≠ none; simp)))
          have hb8 := hb.trans k8
          clear o8 k8 g8 hb HOW
          go_loopw [14, 15] (fun v i wx => ∃ (t : Nat) (x : Value), t ≤ 64 ∧ x = v ∧ i = .int .i64 (t : Int) ∧ Below w.heap.size w wx ∧ Hid (Own32 wx w.heap.size x (rounds K (sched (words bk 16) 48) s t).list) ∧ Hid (Own32 wx w.heap.size (.slice (some ⟨g, 0, none⟩) 64 cap) (sched (words bk 16) 48))) (fun _ i _ => 64 - (intOf i).toNat)
          case atStart => exact ⟨0, v8, by omega, rfl, rfl, hb8, Lib.hid (by rw [Sha.rounds_zero]; exact HO8.out), HW8⟩
          case round =>
            clear hb8 HO8 HW8
            obtain ⟨t, x, ht, rfl, rfl, hb, HO, HW⟩ := hrel
            by_cases hlt : t < 64
            · have hd : decide ((t : Int) < 64) = true := decide_eq_true (by omega)
              obtain ⟨kb, ko, rfl, hkc⟩ := Ones.Lies.at HK.out (by decide)
              have hKl := HK.out.1
              have ck0 := hkc t (by omega)
              have ck := keepC0 ck0 hb
              obtain ⟨g2, cap2, rfl, hg2B, hg2l, hc2, hcm2, hcs2, -⟩ := Ones.Own.at HO.out (by show 0 < 8; decide)
              have s0 := hcs2 0 (by show 0 < 8; decide)
              have s1 := hcs2 1 (by show 1 < 8; decide)
              have s2 := hcs2 2 (by show 2 < 8; decide)
              have s3 := hcs2 3 (by show 3 < 8; decide)
              have s4 := hcs2 4 (by show 4 < 8; decide)
              have s5 := hcs2 5 (by show 5 < 8; decide)
              have s6 := hcs2 6 (by show 6 < 8; decide)
              have s7 := hcs2 7 (by show 7 < 8; decide)
              obtain ⟨_, _, e_, _, _, _, _, hcw, -⟩ := Ones.Own.at HW.out (by rw [HLW.out]; decide)
              simp only [Value.slice.injEq, Option.some.injEq, Addr.mk.injEq, and_true] at e_
              obtain ⟨rfl, -, rfl⟩ := e_
              have cw := hcw t (by rw [HLW.out]; omega)
              have HN : Hid (rounds K (sched (words bk 16) 48) s (t + 1) = rnd (rounds K (sched (words bk 16) 48) s t) (K.getD t 0) ((sched (words bk 16) 48).getD t 0)) := Lib.hid (Sha.rounds_succ _ _ _ _)
              simp only [St.list, List.getD_cons_zero, List.getD_cons_succ] at s0 s1 s2 s3 s4 s5 s6 s7
              generalize rounds K (sched (words bk 16) 48) s t = r at HO HN hc2 s0 s1 s2 s3 s4 s5 s6 s7 ⊢
              obtain ⟨ra, rb, rc, rd, re, rf, rg, rh⟩ := r
              simp only at s0 s1 s2 s3 s4 s5 s6 s7
              generalize K.getD t 0 = kt at ck HN
              generalize (sched (words bk 16) 48).getD t 0 = wt at cw HN
              have hl8 : (St.mk ra rb rc rd re rf rg rh).list.length = 8 := rfl
              rw [hl8] at hc2 HO ⊢
              have hsg : IntKind.u32.signed = false := rfl
              have j0 : (t : Int) < 64 := by omega
              have h0t : (0 : Int) ≤ (t : Int) := by omega
              clear hkc ck0 hKl hcs2 hcw hl8
              go_wp2_with fail
              go_quiet (fail)
              generalize hW : wr.drewN _ = W1
              replace s0 : W1.cell? ⟨g2, 0, none⟩ = some (.int .u32 ra) := by rw [← hW]; simpa using s0
              replace s1 : W1.cell? ⟨g2, 1, none⟩ = some (.int .u32 rb) := by rw [← hW]; simpa using s1
              replace s2 : W1.cell? ⟨g2, 2, none⟩ = some (.int .u32 rc) := by rw [← hW]; simpa using s2
              replace s3 : W1.cell? ⟨g2, 3, none⟩ = some (.int .u32 rd) := by rw [← hW]; simpa using s3
              replace s4 : W1.cell? ⟨g2, 4, none⟩ = some (.int .u32 re) := by rw [← hW]; simpa using s4
              replace s5 : W1.cell? ⟨g2, 5, none⟩ = some (.int .u32 rf) := by rw [← hW]; simpa using s5
              replace s6 : W1.cell? ⟨g2, 6, none⟩ = some (.int .u32 rg) := by rw [← hW]; simpa using s6
              replace s7 : W1.cell? ⟨g2, 7, none⟩ = some (.int .u32 rh) := by rw [← hW]; simpa using s7
              replace ck : W1.cell? ⟨kb, ko + t, none⟩ = some (.int .u32 kt) := by rw [← hW]; simpa using ck
              replace cw : W1.cell? ⟨g, t, none⟩ = some (.int .u32 wt) := by rw [← hW]; simpa using cw
              replace hb : Below w.heap.size w W1 := by rw [← hW]; exact bdrewN hb _
              replace HW : Hid (Own32 W1 w.heap.size (.slice (some ⟨g, 0, none⟩) 64 cap) (sched (words bk 16) 48)) := by rw [← hW]; exact HW
              clear hW
              go_wp2_with fail
              go_quiet ((go_at_call 78; exact Calls.quiet_of_same (right_quiet _ _ (by decide) _)))
              generalize hW : W1.drewN _ = W2
              replace s0 : W2.cell? ⟨g2, 0, none⟩ = some (.int .u32 ra) := by rw [← hW]; simpa using s0
              replace s1 : W2.cell? ⟨g2, 1, none⟩ = some (.int .u32 rb) := by rw [← hW]; simpa using s1
              replace s2 : W2.cell? ⟨g2, 2, none⟩ = some (.int .u32 rc) := by rw [← hW]; simpa using s2
              replace s3 : W2.cell? ⟨g2, 3, none⟩ = some (.int .u32 rd) := by rw [← hW]; simpa using s3
              replace s4 : W2.cell? ⟨g2, 4, none⟩ = some (.int .u32 re) := by rw [← hW]; simpa using s4
              replace s5 : W2.cell? ⟨g2, 5, none⟩ = some (.int .u32 rf) := by rw [← hW]; simpa using s5
              replace s6 : W2.cell? ⟨g2, 6, none⟩ = some (.int .u32 rg) := by rw [← hW]; simpa using s6
              replace s7 : W2.cell? ⟨g2, 7, none⟩ = some (.int .u32 rh) := by rw [← hW]; simpa using s7
              replace ck : W2.cell? ⟨kb, ko + t, none⟩ = some (.int .u32 kt) := by rw [← hW]; simpa using ck
              replace cw : W2.cell? ⟨g, t, none⟩ = some (.int .u32 wt) := by rw [← hW]; simpa using cw
              replace hb : Below w.heap.size w W2 := by rw [← hW]; exact bdrewN hb _
              replace HW : Hid (Own32 W2 w.heap.size (.slice (some ⟨g, 0, none⟩) 64 cap) (sched (words bk 16) 48)) := by rw [← hW]; exact HW
              clear hW
              go_wp2_with fail
              go_quiet ((go_at_call 78; exact Calls.quiet_of_same (right_quiet _ _ (by decide) _)))
              generalize hW : W2.drewN _ = W3
              replace s0 : W3.cell? ⟨g2, 0, none⟩ = some (.int .u32 ra) := by rw [← hW]; simpa using s0
              replace s1 : W3.cell? ⟨g2, 1, none⟩ = some (.int .u32 rb) := by rw [← hW]; simpa using s1
              replace s2 : W3.cell? ⟨g2, 2, none⟩ = some (.int .u32 rc) := by rw [← hW]; simpa using s2
              replace s3 : W3.cell? ⟨g2, 3, none⟩ = some (.int .u32 rd) := by rw [← hW]; simpa using s3
              replace s4 : W3.cell? ⟨g2, 4, none⟩ = some (.int .u32 re) := by rw [← hW]; simpa using s4
              replace s5 : W3.cell? ⟨g2, 5, none⟩ = some (.int .u32 rf) := by rw [← hW]; simpa using s5
              replace s6 : W3.cell? ⟨g2, 6, none⟩ = some (.int .u32 rg) := by rw [← hW]; simpa using s6
              replace s7 : W3.cell? ⟨g2, 7, none⟩ = some (.int .u32 rh) := by rw [← hW]; simpa using s7
              replace ck : W3.cell? ⟨kb, ko + t, none⟩ = some (.int .u32 kt) := by rw [← hW]; simpa using ck
              replace cw : W3.cell? ⟨g, t, none⟩ = some (.int .u32 wt) := by rw [← hW]; simpa using cw
              replace hb : Below w.heap.size w W3 := by rw [← hW]; exact bdrewN hb _
              replace HW : Hid (Own32 W3 w.heap.size (.slice (some ⟨g, 0, none⟩) 64 cap) (sched (words bk 16) 48)) := by rw [← hW]; exact HW
              clear hW
              go_wp2_with fail
              go_still_tail 22, (by kernel_rfl)
              go_wp2_with fail
              go_roundw
              case rel =>
                have e : (rnd ⟨ra, rb, rc, rd, re, rf, rg, rh⟩ kt wt).list = [(rnd ⟨ra, rb, rc, rd, re, rf, rg, rh⟩ kt wt).a, ra, rb, rc, (rnd ⟨ra, rb, rc, rd, re, rf, rg, rh⟩ kt wt).e, re, rf, rg] := rfl
                rw [rnd_a, rnd_e] at e
                refine ⟨t + 1, _, by omega, rfl, by go_num, Below.drew (balloc hb _), Lib.hid ?_, Lib.hid (Row.Own.drew (Row.Own.alloc HW.out _))⟩
                rw [HN.out, e]
                exact Row.Own.drew (own_new W3 _ hb.size _ 8 rfl (by decide))
              case measure => simp [intOf]; omega
            · obtain rfl : t = 64 := by omega
              have hd : decide ((64 : Int) < 64) = false := by decide
              have HB : Hid (block K s bk = s.plus (rounds K (sched (words bk 16) 48) s 64)) := Lib.hid rfl
              generalize rounds K (sched (words bk 16) 48) s 64 = r at HO HB
              obtain ⟨g2, cap2, rfl, hg2B, hg2l, hc2, hcm2, -, -⟩ := Ones.Own.at HO.out (by show 0 < 8; decide)
              have hl8 : r.list.length = 8 := rfl
              rw [hl8] at hc2 HO ⊢
              clear hl8 HW
              go_wp2_with fail
              rw [show ((64 : Nat) : Int) = 64 from rfl]
              go_loopw [20] (fun i wx => ∃ t : Nat, t ≤ 8 ∧ i = .int .i64 (t : Int) ∧ Below w.heap.size w wx ∧ Hid (Own32 wx w.heap.size (.slice (some ⟨g2, 0, none⟩) 8 cap2) ((r.plus s).list.take t ++ r.list.drop t))) (fun i _ => 8 - (intOf i).toNat)
              case atStart => exact ⟨0, by omega, rfl, hb, HO⟩
              case round =>
                clear HO hb
                obtain ⟨t, ht, rfl, hb, HO⟩ := hrel
                by_cases hlt : t < 8
                · have hd : decide ((t : Int) < 8) = true := decide_eq_true (by omega)
                  have hpl := plus_len r s t ht
                  obtain ⟨_, _, e_, _, _, _, _, hcw, hfw⟩ := Ones.Own.at HO.out (by omega)
                  simp only [Value.slice.injEq, Option.some.injEq, Addr.mk.injEq, and_true] at e_
                  obtain ⟨rfl, -, rfl⟩ := e_
                  have cv := hcw t (by omega)
                  have fv := hfw t
                  have HP := Lib.hid (plus_at r s t hlt)
                  rw [HP.out.1] at cv
                  obtain ⟨hb0, ho0, rfl, hhc⟩ := Ones.Lies.at HH.out (by decide)
                  have hs8 : s.list.length = 8 := rfl
                  have ch := keepC (hhc t (by omega)) hb
                  generalize r.list.getD t 0 = x at cv HP
                  generalize s.list.getD t 0 = y at ch HP
                  have j0 : (t : Int) < 8 := by omega
                  have h0t : (0 : Int) ≤ (t : Int) := by omega
                  clear hpl hcw hfw hhc hs8
                  go_wp2_with fail
                  go_still_tail 12, (by kernel_rfl)
                  go_wp2_with fail
                  go_roundw
                  case rel =>
                    refine ⟨t + 1, by omega, by go_num, Below.drew (bset hb hg2B _), Lib.hid ?_⟩
                    rw [← HP.out.2]
                    exact Row.Own.drew (Ones.Own.set HO.out t (add x y))
                  case measure => simp [intOf]; omega
                · obtain rfl : t = 8 := by omega
                  have hd : decide ((8 : Int) < 8) = false := by decide
                  have HE : Hid (Own32 wr w.heap.size (.slice (some ⟨g2, 0, none⟩) 8 cap2) (r.plus s).list) := HO
                  go_wp2
                  go_ret
                  exact ⟨_, rfl, by rw [HB.out, plus_comm]; exact HE.out, hb⟩
end RefSha
end Go.Proofs.YtjnlooccddnbkaaGreatDoor

namespace Go.Proofs.YtjnlooccddnbkaaGreatDoor
namespace RefSha
open Go.RowKit Sha
set_option maxRecDepth 100000 in
set_option maxHeartbeats 1000000 in
theorem fraction_any (p : Int) (three : Bool) (w : World) :
    Calls Tryz.prog 77 #[.int .u64 p, .bool three] w fun e w' => e = .returned (.int .u32 (fracF p three)) ∧ w = w' := by
  have C := Lib.hid (fun x => cube_any x p w)
  have S := Lib.hid (fun x => square_any x p w)
  have HV : Hid (fracF p three = fracN p three 36 % 4294967296) := Lib.hid rfl
  go_enter Tryz.func77, Tryz.ntmps77
  go_wp2_with fail
  go_loop [5, 6] (fun x i => ∃ j : Nat, j ≤ 36 ∧ i = .int .i64 ((j : Int) - 1) ∧ x = .int .u64 (fracN p three (36 - j))) (fun _ i => (intOf i + 1).toNat)
  case atStart => exact ⟨36, by omega, rfl, rfl⟩
  case round =>
    obtain ⟨j, hj, rfl, rfl⟩ := hrel
    cases j with
    | zero =>
      have hd : decide ((-1 : Int) ≥ 0) = false := by decide
      have hd2 : decide ((0 : Int) ≤ -1) = false := by decide
      rw [show ((0 : Nat) : Int) - 1 = -1 from rfl, show 36 - 0 = 36 from rfl]
      generalize fracN p three 36 = z at HV
      go_wp2
      go_ret
      exact ⟨by rw [HV.out]; rfl, rfl⟩
    | succ m =>
      rw [show ((m + 1 : Nat) : Int) - 1 = (m : Int) by omega]
      have hd : decide ((m : Int) ≥ 0) = true := by simp
      have hd2 : decide ((0 : Int) ≤ (m : Int)) = true := by simp
      have HF : Hid (fracN p three (36 - m) = if testF three (bits .or .u64 (fracN p three (36 - (m + 1))) (IntKind.u64.wrap (2 ^ m))) p then bits .or .u64 (fracN p three (36 - (m + 1))) (IntKind.u64.wrap (2 ^ m)) else fracN p three (36 - (m + 1))) := Lib.hid (by
        rw [show 36 - m = (36 - (m + 1)) + 1 by omega, fracN, bitF, show 35 - (36 - (m + 1)) = m by omega])
      generalize fracN p three (36 - (m + 1)) = x at HF
      have m0 : (0 : Int) ≤ (m : Int) := by omega
      have m64 : (m : Int) ≤ 64 := by omega
      cases three
      · have HC : ∃ c, sqF (bits .or .u64 x (IntKind.u64.wrap (2 ^ m))) p = c := ⟨_, rfl⟩
        obtain ⟨c, hc⟩ := HC
        have S1 := Lib.hid (S.out (bits .or .u64 x (IntKind.u64.wrap (2 ^ m))))
        rw [show testF false (bits .or .u64 x (IntKind.u64.wrap (2 ^ m))) p = c from hc] at HF
        rw [hc] at S1
        clear hc
        cases c
        all_goals
          go_wp2_with fail
          refine S1.out.mono ?_
          rintro e w' ⟨rfl, rfl⟩
          go_wp2_with fail
          go_round
          case rel => exact ⟨m, by omega, by go_num, by rw [HF.out]; rfl⟩
          case measure => simp [intOf]
      · have HC : ∃ c, cuF (bits .or .u64 x (IntKind.u64.wrap (2 ^ m))) p = c := ⟨_, rfl⟩
        obtain ⟨c, hc⟩ := HC
        have S1 := Lib.hid (C.out (bits .or .u64 x (IntKind.u64.wrap (2 ^ m))))
        rw [show testF true (bits .or .u64 x (IntKind.u64.wrap (2 ^ m))) p = c from hc] at HF
        rw [hc] at S1
        clear hc
        cases c
        all_goals
          go_wp2_with fail
          refine S1.out.mono ?_
          rintro e w' ⟨rfl, rfl⟩
          go_wp2_with fail
          go_round
          case rel => exact ⟨m, by omega, by go_num, by rw [HF.out]; rfl⟩
          case measure => simp [intOf]
abbrev Own64 := Row.Own (Ones.enc .u64) 66
set_option maxRecDepth 100000 in
set_option maxHeartbeats 1000000 in
theorem primes_any (w : World) :
    Calls Tryz.prog 76 #[.int .i64 64] w fun e w' => ∃ v, e = .returned v ∧ Own64 w' w.heap.size v PR ∧ Below w.heap.size w w' := by
  have h0 := Below.refl w.heap.size w
  go_enter Tryz.func76, Tryz.ntmps76
  go_wp2_with fail
  go_loopw [3, 4] (fun v p wx => ∃ (k : Nat) (x : Value), k ≤ 310 ∧ x = v ∧ p = .int .u64 (2 + (k : Int)) ∧ Below w.heap.size w wx ∧ Hid (Own64 wx w.heap.size x (pl k))) (fun _ p _ => 312 - (intOf p).toNat)
  case atStart => exact ⟨0, _, by omega, rfl, rfl, h0, Lib.hid (Row.Own.nil _ _)⟩
  case round =>
    obtain ⟨k, v, hk, rfl, rfl, hb, HO⟩ := hrel
    obtain ⟨a, c, rfl, -, -, hL, -⟩ := HO.out.lies
    obtain ⟨q, hq⟩ : ∃ q, q = (pl k).length := ⟨_, rfl⟩
    rw [← hq] at hL HO ⊢
    by_cases hlt : q < 64
    · have hk2 : k ≤ 309 := by
        rcases Nat.lt_or_ge 309 k with h | h
        · have : k = 310 := by omega
          subst this
          rw [pl_310] at hq
          have : PR.length = 64 := rfl
          omega
        · exact h
      have hd : decide ((q : Int) < 64) = true := decide_eq_true (by omega)
      have HQ := Lib.hid hq
      have HL := Lib.hid hL
      obtain ⟨p, hp⟩ : ∃ p : Int, p = 2 + (k : Int) := ⟨_, rfl⟩
      have HP : Hid (pl (k + 1) = if (pl k).all (fun x => p % x != 0) then pl k ++ [p] else pl k) := Lib.hid (by rw [pl_succ, hp])
      rw [← hp]
      have hp1 : IntKind.u64.wrap (p + 1) = p + 1 := by rw [IntKind.wrap_u64]; omega
      have hp0 : 0 ≤ p := by omega
      have hp3 : p ≤ 311 := by omega
      have HK := Lib.hid hp
      clear hq hL hp
      go_wp2_with fail
      go_loop [5, 6] (fun b i => ∃ j : Nat, j ≤ q ∧ i = .int .i64 (j : Int) ∧ b = .bool (((pl k).take j).all (fun x => p % x != 0))) (fun _ i => q - (intOf i).toNat)
      case atStart => exact ⟨0, by omega, rfl, rfl⟩
      case round =>
        obtain ⟨j, hj, rfl, rfl⟩ := hrel
        have hql := HQ.out
        by_cases hlt2 : j < q
        · have hd2 : decide ((j : Int) < (q : Int)) = true := decide_eq_true (by omega)
          obtain ⟨b, o, rfl, hc⟩ := Ones.Lies.at HL.out (by omega)
          have hcj := hc j (by omega)
          have hjl : j < (pl k).length := by omega
          have hx := pl_pos k ((pl k).getD j 0) (by rw [List.getD_eq_getElem?_getD, List.getElem?_eq_getElem hjl]; exact List.getElem_mem _)
          have HT : Hid (((pl k).take (j + 1)).all (fun x => p % x != 0) = (((pl k).take j).all (fun x => p % x != 0) && (p % (pl k).getD j 0 != 0))) := Lib.hid (by
            rw [List.take_succ_eq_append_getElem hjl, List.all_append, List.getD_eq_getElem?_getD, List.getElem?_eq_getElem hjl]; simp)
          generalize (pl k).getD j 0 = x at hcj hx HT
          obtain ⟨hx0, hx1⟩ := hx
          have h0j : (0 : Int) ≤ (j : Int) := by omega
          have hxn : x ≠ 0 := by omega
          have hxb : (x == 0) = false := beq_eq_false_iff_ne.2 hxn
          clear hc hql
          cases hc1 : ((pl k).take j).all (fun x => p % x != 0) with
          | false =>
            rw [hc1, Bool.false_and] at HT
            go_wp2_with fail
            go_round
            case rel => exact ⟨j + 1, by omega, by go_num, by rw [HT.out]⟩
            case measure => simp [intOf]; omega
          | true =>
            rw [hc1, Bool.true_and] at HT
            have HM := Lib.hid hx1
            clear hx1
            go_wp2_with fail
            go_round
            case rel => exact ⟨j + 1, by omega, by go_num, by rw [HT.out]⟩
            case measure => simp [intOf]; omega
        · obtain rfl : j = q := by omega
          have hd2 : decide ((j : Int) < (j : Int)) = false := decide_eq_false (by omega)
          rw [hql, List.take_length, ← hql]
          have HKo := HK.out
          cases hc1 : (pl k).all (fun x => p % x != 0) with
          | false =>
            have HE : Hid (Own64 wr w.heap.size (.slice a j c) (pl (k + 1))) := Lib.hid (by rw [HP.out, hc1]; exact HO.out)
            clear HKo hql
            go_wp2_with fail
            go_roundw
            case rel => exact ⟨k + 1, _, by omega, rfl, by rw [HK.out]; congr 1, hb, HE⟩
            case measure => simp [intOf]; omega
          | true =>
            have HP2 : Hid (pl (k + 1) = pl k ++ [p]) := Lib.hid (by rw [HP.out, hc1]; rfl)
            clear HKo hql hc1
            have hlp : (pl k).length ≤ 64 := by have := HQ.out; omega
            go_wp2_with (at_builtin; refine Row.wpList_app typ64 rfl _ _ rfl w.heap.size _ _ rfl (HO.out.alloc _) _ 1 1 [p] rfl (Row.lies_new (E := Ones.enc .u64) wr p _) (by omega) (by have := hb.size; rw [World.size_alloc]; omega) ?_; intro v9 w9 o9 _ k9)
            have HO9 := Lib.hid o9
            have hb9 := (balloc hb _).trans k9
            clear o9 k9
            go_wp2_with fail
            go_roundw
            case rel => exact ⟨k + 1, _, by omega, rfl, by rw [HK.out]; congr 1, hb9, Lib.hid (by rw [HP2.out]; exact HO9.out)⟩
            case measure => simp [intOf]; omega
    · have hd : decide ((q : Int) < 64) = false := decide_eq_false (by omega)
      have hk3 : k = 310 := by
        rcases Nat.lt_or_ge k 310 with h | h
        · have := pl_short k (by omega); omega
        · omega
      subst hk3
      have HE : Hid (Own64 wr w.heap.size (.slice a q c) PR) := Lib.hid (by rw [← pl_310]; exact HO.out)
      clear HO hL hq
      go_wp2
      go_ret
      exact ⟨_, rfl, HE.out, hb⟩
end RefSha
end Go.Proofs.YtjnlooccddnbkaaGreatDoor

namespace Go.Proofs.YtjnlooccddnbkaaGreatDoor
namespace RefSha
open Go.RowKit Sha
/-- Two rows lie in unlike blocks. -/
def Apart (a b : Value) : Prop := ∀ g, a.ownBlock = some g → b.ownBlock ≠ some g
theorem Apart.kept {α : Type} {E : Row.Enc α} {te : TypeId} {w w' : World} {B : Nat} {a b : Value} {L : List α} (h : Apart a b) (o : Row.Own E te w B b L) (k : w.grownBy w' a.ownBlock) : Row.Own E te w' B b L :=
  World.ownsRow.kept o k (by
    cases hb : b.ownBlock with
    | none => exact .inl rfl
    | some g => exact .inr (fun e => h g e.symm hb))
theorem Apart.symm {a b : Value} (h : Apart a b) : Apart b a := fun g e f => h g f e
theorem Apart.placed {α : Type} {E : Row.Enc α} {te : TypeId} {w : World} {B : Nat} {a a' b : Value} {L : List α} (h : Apart a b) (o : Row.Own E te w B b L) (k : a'.ownBlock = a.ownBlock ∨ a'.ownBlock = some w.heap.size) : Apart a' b := fun g e f => by
  rcases k with k | k
  · exact h g (k ▸ e) f
  · rw [k] at e
    have := (o.lt g f).2
    simp only [Option.some.injEq] at e
    omega
theorem apart_types {α β : Type} {E : Row.Enc α} {F : Row.Enc β} {te tf : TypeId} {w : World} {B C : Nat} {a b : Value} {L : List α} {M : List β} (h : Row.Own E te w B a L) (k : Row.Own F tf w C b M) (hne : te ≠ tf) : Apart a b := fun g e f => by
  rcases h.2 with ⟨rfl, _⟩ | ⟨g1, c1, cur1, rfl, _, hg1, _⟩
  · cases e
  · rcases k.2 with ⟨rfl, _⟩ | ⟨g2, c2, cur2, rfl, _, hg2, _⟩
    · cases f
    · simp only [Value.ownBlock, Option.some.injEq] at e f
      subst e f
      rw [hg1] at hg2
      simp only [Option.some.injEq, Obj.cells.injEq] at hg2
      exact hne hg2.2.1
theorem map_take_succ (f : Int → Int) (L : List Int) (j : Nat) (h : j < L.length) : (L.take (j + 1)).map f = (L.take j).map f ++ [f (L.getD j 0)] := by
  rw [List.take_succ_eq_append_getElem h, List.map_append, List.getD_eq_getElem?_getD, List.getElem?_eq_getElem h]; rfl
set_option maxRecDepth 100000 in
set_option maxHeartbeats 1000000 in
theorem constants_any (w : World) :
    Calls Tryz.prog 52 #[] w fun e w' => ∃ vk vh, e = .returned (.tuple #[vk, vh]) ∧ Own32 w' w.heap.size vk K0 ∧ Own32 w' w.heap.size vh H0.list ∧ Below w.heap.size w w' := by
  have FR := Lib.hid (fun p b w => fraction_any p b w)
  go_enter Tryz.func52, Tryz.ntmps52
  go_wp2_with fail
  refine (primes_any _).mono ?_
  rintro e w1 ⟨v, rfl, hP, k1⟩
  obtain ⟨g, cap, rfl, hgB, hgl, hcap, hcm, -, -⟩ := Ones.Own.at hP (by decide)
  rw [show PR.length = 64 from rfl] at hcap hP ⊢
  have HP1 := Lib.hid hP
  clear hP
  go_wp2_with fail
  go_loopw [2, 3, 5] (fun vk vh i wx => ∃ (j : Nat) (xk xh : Value), j ≤ 64 ∧ xk = vk ∧ xh = vh ∧ i = .int .i64 (j : Int) ∧ Below w.heap.size w wx ∧ Hid (Own32 wx w.heap.size xk ((PR.take j).map (fun p => fracF p true))) ∧ Hid (Own32 wx w.heap.size xh ((PR.take (min j 8)).map (fun p => fracF p false))) ∧
    Hid (Own64 wx w.heap.size (.slice (some ⟨g, 0, none⟩) 64 cap) PR) ∧ Hid (Apart xk xh)) (fun _ _ i _ => 64 - (intOf i).toNat)
  case atStart => exact ⟨0, _, _, by omega, rfl, rfl, rfl, k1, Lib.hid (Row.Own.nil _ _), Lib.hid (Row.Own.nil _ _), HP1, Lib.hid (fun g e => by cases e)⟩
  case round =>
    clear k1 HP1
    obtain ⟨j, xk, xh, hj, rfl, rfl, rfl, hb, HK, HH, HP, HA⟩ := hrel
    by_cases hlt : j < 64
    · have hd : decide ((j : Int) < 64) = true := decide_eq_true (by omega)
      have hPl : PR.length = 64 := rfl
      have hc := Ones.Own.cell HP.out j (by omega)
      have HKn := Lib.hid (map_take_succ (fun p => fracF p true) PR j (by omega))
      have HHn := Lib.hid (map_take_succ (fun p => fracF p false) PR j (by omega))
      have HAP := Lib.hid (apart_types HK.out HP.out (by decide))
      have HAH := Lib.hid (apart_types HH.out HP.out (by decide))
      obtain ⟨p, hp⟩ : ∃ p, p = PR.getD j 0 := ⟨_, rfl⟩
      have HG2 : Hid (∀ x, Own64 x w.heap.size (.slice (some ⟨g, 0, none⟩) 64 cap) PR → x.cell? ⟨g, j, none⟩ = some (.int .u64 p)) := Lib.hid (fun x h => by rw [hp]; exact Ones.Own.cell h j (by omega))
      rw [← hp] at hc HKn HHn
      have hlk : ((PR.take j).map (fun p => fracF p true)).length ≤ 64 := by rw [List.length_map, List.length_take]; omega
      have hlh : ((PR.take (min j 8)).map (fun p => fracF p false)).length ≤ 64 := by rw [List.length_map, List.length_take]; omega
      have hsz := hb.size
      have h0j : (0 : Int) ≤ (j : Int) := by omega
      have hj64 : (j : Int) < 64 := by omega
      clear hPl hp
      by_cases h8 : j < 8
      · have hd8 : decide ((j : Int) < 8) = true := decide_eq_true (by omega)
        have HN8 : Hid (min (j + 1) 8 = j + 1 ∧ min j 8 = j) := Lib.hid (by omega)
        go_wp2_with (first
          | (go_at_call 77; ((refine (FR.out _ _ _).mono ?_); rintro e w' ⟨rfl, rfl⟩))
          | (at_builtin
             refine Ones.wpList_app_place typ32 rfl (.tmp 11) _ rfl w.heap.size xk _ rfl (HK.out.alloc _) _ 1 1 [fracF p true] rfl (Row.lies_new (E := Ones.enc .u32) wr _ _) (by omega) (by rw [World.size_alloc]; omega) ?_
             intro v9 w9 o9 g9 k9 p9
             have P9 := Lib.hid (HAP.out.kept (HP.out.alloc _) g9)
             have H9 := Lib.hid (HA.out.kept (HH.out.alloc _) g9)
             have A9 := Lib.hid (HA.out.placed (HH.out.alloc _) p9)
             have c9 := HG2.out w9 P9.out
             have O9 := Lib.hid o9
             have hb9 := (balloc hb _).trans k9
             have hs9 := hb9.size
             clear o9 g9 k9 p9)
          | (at_builtin
             refine Ones.wpList_app_place typ32 rfl _ _ rfl w.heap.size xh _ rfl (H9.out.alloc _) _ 1 1 [fracF p false] rfl (Row.lies_new (E := Ones.enc .u32) w9 _ _) (by omega) (by rw [World.size_alloc]; omega) ?_
             intro v7 w7 o7 g7 k7 p7))
        go_roundw
        case rel => 
          refine ⟨j + 1, v9, v7, by omega, rfl, rfl, by go_num, (balloc hb9 _).trans k7, ?_, ?_, ?_, ?_⟩
          · exact Lib.hid (by rw [HKn.out]; exact A9.out.symm.kept (O9.out.alloc _) g7)
          · exact Lib.hid (by rw [HN8.out.1, HHn.out]; rw [HN8.out.2] at o7; exact o7)
          · exact Lib.hid (HAH.out.kept (P9.out.alloc _) g7)
          · exact Lib.hid (A9.out.symm.placed (O9.out.alloc _) p7).symm
        case measure => simp [intOf]; omega
      · have hd8 : decide ((j : Int) < 8) = false := decide_eq_false (by omega)
        have HN8 : Hid (min (j + 1) 8 = min j 8) := Lib.hid (by omega)
        go_wp2_with (first
          | (go_at_call 77; ((refine (FR.out _ _ _).mono ?_); rintro e w' ⟨rfl, rfl⟩))
          | (at_builtin
             refine Ones.wpList_app_place typ32 rfl (.tmp 11) _ rfl w.heap.size xk _ rfl (HK.out.alloc _) _ 1 1 [fracF p true] rfl (Row.lies_new (E := Ones.enc .u32) wr _ _) (by omega) (by rw [World.size_alloc]; omega) ?_
             intro v9 w9 o9 g9 k9 p9))
        go_roundw
        case rel =>
          refine ⟨j + 1, v9, xh, by omega, rfl, rfl, by go_num, (balloc hb _).trans k9, ?_, ?_, ?_, ?_⟩
          · exact Lib.hid (by rw [HKn.out]; exact o9)
          · exact Lib.hid (by rw [HN8.out]; exact HA.out.kept (HH.out.alloc _) g9)
          · exact Lib.hid (HAP.out.kept (HP.out.alloc _) g9)
          · exact Lib.hid (HA.out.placed (HH.out.alloc _) p9)
        case measure => simp [intOf]; omega
    · obtain rfl : j = 64 := by omega
      have hd : decide ((64 : Int) < 64) = false := by decide
      have HE : Hid (Own32 wr w.heap.size xk K0 ∧ Own32 wr w.heap.size xh H0.list) := Lib.hid ⟨by have h := HK.out; rwa [show PR.take 64 = PR from rfl, k_all] at h, by have h := HH.out; rwa [show min 64 8 = 8 from rfl, h_all] at h⟩
      clear HK HH HP HA
      go_wp2
      go_ret2
      exact ⟨_, _, rfl, HE.out.1, HE.out.2, hb⟩
end RefSha
end Go.Proofs.YtjnlooccddnbkaaGreatDoor

namespace Go.Proofs.YtjnlooccddnbkaaGreatDoor
namespace Parts
open Go.RowKit RefSha
def upd {β : Type} (f : Nat → β) (i : Nat) (x : β) : Nat → β := fun j => if j = i then x else f j
theorem upd_same {β : Type} (f : Nat → β) (i : Nat) (x : β) : upd f i x i = x := by simp [upd]
theorem upd_other {β : Type} (f : Nat → β) (i : Nat) (x : β) {j : Nat} (h : j ≠ i) : upd f i x j = f j := by simp [upd, h]
theorem own_at {α : Type} {E : Row.Enc α} {te : TypeId} {w w' : World} {B : Nat} {v : Value} {L : List α} (h : Row.Own E te w B v L) (k : ∀ b, v.ownBlock = some b → w'.heap[b]? = w.heap[b]?) : Row.Own E te w' B v L := by
  refine ⟨h.1, ?_⟩
  rcases h.2 with h' | ⟨g, cap, cur, rfl, hB, hg, hr⟩
  · exact .inl h'
  · exact .inr ⟨g, cap, cur, rfl, hB, by rw [k g rfl]; exact hg, hr⟩
/-- A row's cells, each a row of texts of its own. -/
structure Is (w : World) (B g m : Nat) (V : Nat → Value) (L : Nat → List (List UInt8)) : Prop where
  base : B ≤ g
  heap : ∃ cs, w.heap[g]? = some (.cells cs 42 (0, 0)) ∧ cs.size = m ∧ ∀ i, i < m → cs[i]? = some (V i)
  own : ∀ i, i < m → Words.Mine w (g + 1) (V i) (L i)
  apart : ∀ i j, i < m → j < m → i ≠ j → Apart (V i) (V j)
variable {w w1 : World} {B g m : Nat} {V : Nat → Value} {L : Nat → List (List UInt8)}
theorem Is.lt (h : Is w B g m V L) : g < w.heap.size := by
  obtain ⟨cs, h1, _⟩ := h.heap
  exact (Array.getElem?_eq_some_iff.1 h1).1
theorem Is.below (h : Is w B g m V L) (k : Below w.heap.size w w1) : Is w1 B g m V L := by
  obtain ⟨cs, h1, h2⟩ := h.heap
  exact ⟨h.base, ⟨cs, by rw [k.block g h.lt]; exact h1, h2⟩, fun i hi => (h.own i hi).below k, h.apart⟩
theorem Is.cell (h : Is w B g m V L) {i : Nat} (hi : i < m) : w.cell? ⟨g, i, none⟩ = some (V i) := by
  obtain ⟨cs, h1, _, h3⟩ := h.heap
  rw [cell_of_row w g i cs _ _ h1]
  exact h3 i hi
theorem Is.frozen (h : Is w B g m V L) (i : Nat) : w.frozen? ⟨g, i, none⟩ = false := by
  obtain ⟨cs, h1, _, _⟩ := h.heap
  exact frozen_of_row w g i _ _ h1
theorem Is.row (h : Is w B g m V L) {i : Nat} (hi : i < m) : ∃ a c, V i = .slice a (L i).length c ∧ Words.Lies w a (L i).length (L i) ∧ (∀ q, a = some q → g + 1 ≤ q.block) ∧ ∀ q, a = some q → q.block < w.heap.size := by
  obtain ⟨a, c, e, _, _, h1, h2, _⟩ := (h.own i hi).lies'
  refine ⟨a, c, e, h1, h2, fun q hq => ?_⟩
  subst hq
  rcases (h.own i hi).2 with ⟨e', _⟩ | ⟨g', c', cur, e', _, hg, _⟩
  · rw [e] at e'; cases e'
  · rw [e] at e'
    simp only [Value.slice.injEq, Option.some.injEq] at e'
    rw [e'.1]
    exact (Array.getElem?_eq_some_iff.1 hg).1
/-- A row that hangs on the same texts. -/
theorem Is.ext (h : Is w B g m V L) {M : Nat → List (List UInt8)} (k : ∀ i, i < m → L i = M i) : Is w B g m V M :=
  ⟨h.base, h.heap, fun i hi => by rw [← k i hi]; exact h.own i hi, h.apart⟩
/-- A row made new: no texts. -/
theorem Is.made (w : World) {cs : Array Value} (hg : w.heap[g]? = some (.cells cs 42 (0, 0))) (hc : cs.toList = List.replicate m (.slice none 0 0)) (hB : B ≤ g) : Is w B g m (fun _ => .slice none 0 0) (fun _ => []) :=
  ⟨hB, ⟨_, hg, by rw [← Array.length_toList, hc, List.length_replicate], fun i hi => by rw [← Array.getElem?_toList, hc, List.getElem?_replicate, if_pos hi]⟩, fun i _ => Row.Own.nil _ _, fun i j _ _ _ b e => by cases e⟩
theorem info_row : (Tryz.prog.info? 42).map (fun i => (i.zero, i.size, i.bytes)) = some (some (.slice none 0 0), 1, 24) := by kernel_rfl
theorem make_rows (n : Nat) (h : n ≤ 65536) (w : World) : (Instr.makeSlice 75 (.int .i64 (n : Int)) (.int .i64 (n : Int))).run Tryz.prog w = .ok (.slice (some ⟨w.heap.size, 0, none⟩) n n) (w.alloc (.cells (madeCells #[.slice none 0 0] n) 42)) := by
  obtain ⟨i0, hi, hz0, hz1, hz2⟩ := Row.info_of info_row
  have hr := run_make (P := Tryz.prog) w 75 42 i0 (.slice none 0 0) Tryz.underlying75 hi hz0 .i64 .i64 (n : Int) (n : Int) (by omega) (by omega) (by rw [hz2]; omega) (by omega)
  rw [hr, Int.toNat_natCast, hz1, Nat.mul_one]
  rfl
theorem Is.new (w : World) (hB : B ≤ w.heap.size) : Is (w.alloc (.cells (madeCells #[.slice none 0 0] m) 42)) B w.heap.size m (fun _ => .slice none 0 0) (fun _ => []) :=
  Is.made _ (heap_alloc_new w _) (toList_madeCells_one _ _) hB
theorem grown_set (W : World) (g i : Nat) (v : Value) (b : Nat) (h : b ≠ g) : (W.setCell ⟨g, i, none⟩ v).heap[b]? = W.heap[b]? := heap_setCell_other W _ b v h
/-- One row grows, and is set. -/
theorem Is.app (h : Is w B g m V L) {i : Nat} (hi : i < m) {v' : Value} {M : List (List UInt8)} (k : w.grownBy w1 (V i).ownBlock) (o : Words.Mine w1 (g + 1) v' M) (p : v'.ownBlock = (V i).ownBlock ∨ v'.ownBlock = some w.heap.size) :
    Is (w1.setCell ⟨g, i, none⟩ v') B g m (upd V i v') (upd L i M) := by
  have hne : some g ≠ (V i).ownBlock := fun e => by have := (h.own i hi).lt g e.symm; omega
  obtain ⟨cs, h1, h2, h3⟩ := h.heap
  have h1' : w1.heap[g]? = some (.cells cs 42 (0, 0)) := by rw [k.block g h.lt hne]; exact h1
  refine ⟨h.base, ⟨_, heap_setCell_same w1 g i cs _ _ h1', by rw [Array.size_setIfInBounds]; exact h2, fun j hj => ?_⟩, fun j hj => ?_, fun a b ha hb hab => ?_⟩
  · by_cases e : j = i
    · subst e; rw [upd_same, Array.getElem?_setIfInBounds_self_of_lt (by omega)]
    · rw [upd_other _ _ _ e, Array.getElem?_setIfInBounds_ne (by omega)]; exact h3 j hj
  · by_cases e : j = i
    · subst e; rw [upd_same, upd_same]
      exact own_at o (fun b hb => grown_set _ _ _ _ _ (by have := (o.lt b hb).1; omega))
    · rw [upd_other _ _ _ e, upd_other _ _ _ e]
      have o2 := (h.apart i j hi hj (fun x => e x.symm)).kept (h.own j hj) k
      exact own_at o2 (fun b hb => grown_set _ _ _ _ _ (by have := (o2.lt b hb).1; omega))
  · by_cases ea : a = i
    · subst ea
      have eb : b ≠ a := fun x => hab x.symm
      rw [upd_same, upd_other _ _ _ eb]
      exact (h.apart a b ha hb hab).placed (h.own b hb) p
    · rw [upd_other _ _ _ ea]
      by_cases eb : b = i
      · subst eb
        rw [upd_same]
        exact ((h.apart b a hb ha (fun x => ea x.symm)).placed (h.own a ha) p).symm
      · rw [upd_other _ _ _ eb]; exact h.apart a b ha hb hab
/-- What stands beside: another row. -/
theorem beside {i : Nat} (hi : i < m) {v' u : Value} {K : List (List UInt8)} (k : w.grownBy w1 (V i).ownBlock) (p : v'.ownBlock = (V i).ownBlock ∨ v'.ownBlock = some w.heap.size)
    (ou : Words.Mine w (g + 1) u K) (ha : ∀ j, j < m → Apart (V j) u) : Words.Mine (w1.setCell ⟨g, i, none⟩ v') (g + 1) u K ∧ ∀ j, j < m → Apart (upd V i v' j) u := by
  have o2 := (ha i hi).kept ou k
  refine ⟨own_at o2 (fun b hb => grown_set _ _ _ _ _ (by have := (o2.lt b hb).1; omega)), fun j hj => ?_⟩
  by_cases e : j = i
  · subst e; rw [upd_same]; exact (ha j hj).placed ou p
  · rw [upd_other _ _ _ e]; exact ha j hj
/-- As one step of a region that draws its order: an append, and where the new row lies. -/
theorem step_app_place {α : Type} {E : Row.Enc α} {P : Program} {ts te : TypeId} {z : Value} {bytes : Nat} (T : Row.Typ P E ts te z bytes) {ops : Array Oper} {o : Oper} {a : Act} {w : World} {K0 : Act → World → Prop} {Q : Exit → Act → World → Prop} {F : Prop} (hgd : o.guard = none) (s x : Operand)
    (ho : o.op = .call { callee := .builtin .append, args := #[s, x], argTypes := #[ts, ts] }) (B : Nat) (v : Value) (L : List α) (hs : a.eval s = v) (hown : Row.Own E te w B v L)
    (q : Addr) (nx cx : Nat) (K : List α) (hx : a.eval x = .slice (some q) nx cx) (hK : Row.Lies E w (some q) nx K)
    (hlen : L.length + nx ≤ 1099511627776) (hbase : B ≤ w.heap.size)
    (h : ∀ v' w', Row.Own E te w' B v' (L ++ K) → w.grownBy w' v.ownBlock → Below B w w' → (v'.ownBlock = v.ownBlock ∨ v'.ownBlock = some w.heap.size) → K0 (a.put o.dst v') w') : if Region.wanted o (yielded ops a.tmps) = true then Oper.wp P o a w K0 Q else F := by
  have hw : Region.wanted o (yielded ops a.tmps) = true := by simp [Region.wanted, hgd]
  rw [if_pos hw]
  obtain ⟨i0, hi, hz0, hz1, hz2⟩ := T.info
  have hnews : ∀ j u, (Row.flat E K)[j]? = some u → w.cell? (q.add j) = some u := fun j u hu => by
    have hj : j < K.length * E.k := by rw [← Row.flat_length]; exact (List.getElem?_eq_some_iff.1 hu).1
    have hK0 : 0 < K.length := by
      rcases Nat.eq_zero_or_pos K.length with h | h
      · rw [h] at hj; omega
      · exact h
    obtain ⟨b, off, e, _⟩ := hK.2 (by rw [hK.1]; exact hK0)
    obtain rfl : q = ⟨b, off, none⟩ := Option.some.inj e
    exact Row.Lies.at hK j u hu
  have hsm := T.small
  obtain ⟨v', w', hr, h2, h3, h4⟩ := Ones.run_app_place (P := P) (w := w) B ts o.type te i0 z E.k bytes T.und hi hz0 hz1 hz2 T.zsize E.pos v L.length (Row.flat E L) hown q nx cx (Row.flat E K) (by rw [Row.flat_length, hK.1]) hnews (Row.flat_one E K) (by unfold maxLen; omega) (Nat.le_trans (Nat.mul_le_mul hlen hsm) (by decide)) hbase
  unfold Oper.wp execOp
  simp only [ho, resolve, invoke, builtin, Sem.run_bind, Sem.run_pure, Result.andThen_ok, List.map_toArray, List.map_cons, List.map_nil, hs, hx, hr]
  refine h v' w' ?_ h3 (Below.grown (Below.refl B w) h3 hbase (fun k e => (hown.lt k e).1)) h4
  unfold Row.Own
  rw [Row.flat_append, List.length_append, ← hK.1]
  exact h2
/-- A text in a new block, behind a draw. -/
theorem new_text (W : World) (x : List UInt8) (T : TypeId) : Words.Lies (W.alloc (.cells #[.string ⟨x.toArray⟩] T)).drew (some ⟨W.heap.size, 0, none⟩) 1 [x] :=
  Row.Lies.below (Row.lies_new (E := Words.enc) W x T) (Below.drew (Below.refl _ _))
end Parts
end Go.Proofs.YtjnlooccddnbkaaGreatDoor
