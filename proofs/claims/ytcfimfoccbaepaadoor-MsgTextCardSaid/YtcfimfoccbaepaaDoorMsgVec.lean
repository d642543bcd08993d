/- msg.vector: a vector's bytes; the literals that wire's writers are handed. -/
import Derived.Test.YtcfimfoccbaepaaDoorMsgFits
import Derived.Test.YtcfimfoccbaepaaDoorWireList
namespace Go.Proofs.YtcfimfoccbaepaaDoor
namespace Msg
open Go.RowKit Go.Proofs.YtcfimfoccbaepaaDoor.Mark Go.Proofs.YtcfimfoccbaepaaDoor.Num Go.Proofs.YtcfimfoccbaepaaDoor.Wire

theorem nats_of (w : World) (l : List Nat) (hn : ∀ n ∈ l, n ≤ 18446744073709551615) (C : Array Value) (hC : C = (l.map fun n => Value.int .u64 ((n : Nat) : Int)).toArray) (t : TypeId) (len : Nat) (hl : l.length = len) :
    Nats (w.alloc (.cells C t)) (some ⟨w.heap.size, 0, none⟩) len l := by
  refine ⟨hl, hn, fun _ => ⟨w.heap.size, 0, rfl, by rw [World.size_alloc]; omega, fun j hj => ?_⟩⟩
  rw [World.cell?_alloc_new, hC]
  simp [hj]
theorem txts_of (w : World) (l : List (List UInt8)) (hn : ∀ n ∈ l, n.length ≤ 9223372036854775807) (C : Array Value) (hC : C = (l.map fun n => Value.string ⟨n.toArray⟩).toArray) (t : TypeId) (len : Nat) (hl : l.length = len) :
    Txts (w.alloc (.cells C t)) (some ⟨w.heap.size, 0, none⟩) len (l.map fun n => ⟨n.toArray⟩) := by
  refine ⟨by rw [List.length_map]; exact hl, fun n hm => ?_, fun _ => ⟨w.heap.size, 0, rfl, by rw [World.size_alloc]; omega, fun j hj => ?_⟩⟩
  · obtain ⟨x, hx, rfl⟩ := List.mem_map.1 hm
    rw [Str.size_mk]; exact hn x hx
  · rw [World.cell?_alloc_new, hC]
    rw [List.length_map] at hj
    simp [hj]
/-- A text's bytes, with its length ahead. -/
def txtL (p : List UInt8) : List UInt8 := upL p.length ++ p
theorem one_mk (p : List UInt8) : one ⟨p.toArray⟩ = txtL p := by unfold one txtL; rw [Str.size_mk]
def markL (m : M) : List UInt8 := txtL m.p ++ upL m.n
def mcat (L : List M) : List UInt8 := L.flatMap markL
/-- A vector's bytes. -/
def vecL (L : List M) : List UInt8 := upL L.length ++ mcat L
theorem mcat_take (L : List M) (k : Nat) (h : k < L.length) : mcat (L.take (k + 1)) = mcat (L.take k) ++ (txtL L[k].p ++ upL L[k].n) := by
  unfold mcat
  rw [List.take_succ_eq_append_getElem h, List.flatMap_append]
  simp [markL]
theorem mcat_le (L : List M) (k : Nat) : (mcat (L.take k)).length ≤ (mcat L).length := by
  unfold mcat
  conv => rhs; rw [← List.take_append_drop k L, List.flatMap_append]
  rw [List.length_append]; omega
theorem nums_of (l : List Nat) (hn : ∀ n ∈ l, n ≤ 18446744073709551615) (C : Array Value) (hC : C = (l.map fun n => Value.int .u64 ((n : Nat) : Int)).toArray) (t : TypeId) (len c : Nat) (hl : l.length = len) (hl2 : len ≤ 1048576) (r : List UInt8) (hr : cat l = r) (w : World) (B : Nat) (hB : B = w.heap.size) :
    Calls Tryd.prog 54 #[.slice (some ⟨B, 0, none⟩) len c] (w.alloc (.cells C t)) fun e w' => e = .returned (.string ⟨r.toArray⟩) ∧ Below (w.alloc (.cells C t)).heap.size (w.alloc (.cells C t)) w' := by
  subst hr hB
  exact nums_any _ len c l _ (nats_of w l hn C hC t len hl) hl2
theorem texts_of (l : List (List UInt8)) (C : Array Value) (hC : C = (l.map fun n => Value.string ⟨n.toArray⟩).toArray) (t : TypeId) (len c : Nat) (hl : l.length = len) (r : List UInt8) (hr : l.flatMap txtL = r) (hrl : r.length ≤ 1099511627776) (hlen : len ≤ 1099511627776) (w : World) (B : Nat) (hB : B = w.heap.size) :
    Calls Tryd.prog 55 #[.slice (some ⟨B, 0, none⟩) len c] (w.alloc (.cells C t)) fun e w' => e = .returned (.string ⟨r.toArray⟩) ∧ Below (w.alloc (.cells C t)).heap.size (w.alloc (.cells C t)) w' := by
  have e : tcat (l.map fun n => (⟨n.toArray⟩ : ByteArray)) = r := by
    rw [← hr]
    unfold tcat
    rw [List.flatMap_map]
    exact congrArg (fun f => l.flatMap f) (funext one_mk)
  have hp : ∀ n ∈ l, n.length ≤ 9223372036854775807 := fun n hn => by
    have : n.length ≤ (l.flatMap txtL).length := by
      clear hC hl hr hrl e
      induction l with
      | nil => cases hn
      | cons x l ih =>
        rw [List.flatMap_cons, List.length_append]
        rcases List.mem_cons.1 hn with rfl | hn
        · unfold txtL; rw [List.length_append]; omega
        · have := ih hn; omega
    rw [hr] at this; omega
  subst hB
  rw [← e]
  exact texts_any _ len c _ _ (txts_of w l hp C hC t len hl) (by rw [e]; exact hrl) hlen

theorem heap_at2 (w : World) (o p : Obj) : ((w.alloc o).alloc p).heap[w.heap.size]? = some o := by
  show ((w.heap.push o).push p)[w.heap.size]? = some o
  rw [Array.getElem?_push, if_neg (by rw [Array.size_push]; omega), Array.getElem?_push, if_pos rfl]
set_option maxRecDepth 100000 in
set_option maxHeartbeats 4000000 in
theorem vector_any (L : List M) (a : Option Addr) (n c : Nat) (w : World) (hL : Lies w a n L) (hn : n ≤ 1048576) (hok : Mark.Ok L) (hlen : (vecL L).length ≤ 1099511627776) :
    Calls Tryd.prog 56 #[.slice a n c] w fun e w' => e = .returned (.string ⟨(vecL L).toArray⟩) ∧ Below w.heap.size w w' := by
  have HL := Lib.hid hL
  have HO := Lib.hid hok
  have hln := hL.1
  have hw0 : IntKind.u64.wrap (n : Int) = (n : Int) := by rw [IntKind.wrap_u64]; omega
  obtain ⟨q, hq⟩ : ∃ q, q = upL n := ⟨_, rfl⟩
  have hql : q.length ≤ 10 := by rw [hq]; exact (upL_length n).2
  have HV : Hid (vecL L = q ++ mcat L) := Lib.hid (by unfold vecL; rw [hq, hln])
  have C1 := Lib.hid (fun w => nums_of [n] (by intro x hx; rw [List.mem_singleton] at hx; omega) #[.int .u64 (n : Int)] rfl 22 1 1 rfl (by omega) q (by rw [hq]; simp [cat]) w)
  have hml : q.length + (mcat L).length ≤ 1099511627776 := by have := HV.out; rw [this, List.length_append] at hlen; exact hlen
  have HLN := Lib.hid hln
  clear hL hok hq hlen hln
  go_enter Tryd.func56, Tryd.ntmps56
  go_wp2_with fail
  refine (C1.out _ _ ?_).mono ?_
  · simp
  rintro e w1 ⟨rfl, b1⟩
  have hI0 : Lib.IsBuilderF 87 5 w.heap.size w.heap.size (Lib.byteCells []) w1 := isB_below (isB_below (Lib.IsBuilderF.of (Lib.fresh_isBuilder _ _ w)) (balloc (Below.refl _ _) _)) b1
  have hb1 : Below w.heap.size w w1 := bstep (balloc (balloc (Below.refl _ _) _) _) b1
  have hs1 : w.heap.size < w1.heap.size := by have := b1.size; simp at this; omega
  clear b1
  go_wp2_with fail
  refine (Build.writeString_any w.heap.size w.heap.size _ _ _ hI0 (by rw [Lib.byteCells_length, Str.size_mk, List.length_nil]; omega) (by omega)).mono ?_
  rintro e w2 ⟨rfl, hI, b2, _⟩
  rw [strCells_mk, ← Lib.byteCells_append, List.nil_append] at hI
  have hb2 : Below w.heap.size w w2 := hb1.trans b2
  have hs2 : w.heap.size < w2.heap.size := by have := b2.size; omega
  clear hI0 hb1 hs1 b2
  go_wp2_with fail
  go_loopw [14] (fun iv wr => ∃ k : Nat, k ≤ n ∧ iv = .int .i64 k ∧ Lib.IsBuilderF 87 5 w.heap.size w.heap.size (Lib.byteCells (q ++ mcat (L.take k))) wr ∧ Below w.heap.size w wr ∧ w.heap.size < wr.heap.size) (fun iv _ => n - (intOf iv).toNat)
  case atStart => exact ⟨0, by omega, rfl, by rw [List.take_zero]; simpa [mcat] using hI, hb2, hs2⟩
  case round =>
    obtain ⟨k, hk, rfl, hI, hb, hs⟩ := hrel
    have hln := HLN.out
    by_cases hlt : k < n
    · obtain ⟨b, off, rfl, hcell⟩ := (HL.out.below hb).2 (by omega)
      obtain ⟨c1, c2⟩ := hcell k (by omega)
      have hct := mcat_take L k (by omega)
      have hcl := mcat_le L (k + 1)
      obtain ⟨m, hm⟩ : ∃ m, m = L[k]'(by omega) := ⟨_, rfl⟩
      have hmn : m.n ≤ 18446744073709551615 := (HO.out m (by rw [hm]; exact List.getElem_mem _)).1
      rw [← hm] at c1 c2 hct
      have Hct := Lib.hid hct
      rw [hct, List.length_append, List.length_append] at hcl
      obtain ⟨p, x⟩ := m
      simp only at c1 c2 hmn hcl
      replace Hct : Hid (mcat (L.take (k + 1)) = mcat (L.take k) ++ (txtL p ++ upL x)) := Hct
      obtain ⟨t1, ht1⟩ : ∃ t, t = txtL p := ⟨_, rfl⟩
      obtain ⟨t2, ht2⟩ : ∃ t, t = upL x := ⟨_, rfl⟩
      rw [← ht1, ← ht2] at hcl Hct
      have C2 := Lib.hid (fun w => texts_of [p] #[.string ⟨p.toArray⟩] rfl 9 1 1 rfl t1 (by rw [ht1]; simp) (by omega) (by omega) w)
      have C3 := Lib.hid (fun w => nums_of [x] (by intro y hy; rw [List.mem_singleton] at hy; omega) #[.int .u64 (x : Int)] rfl 22 1 1 rfl (by omega) t2 (by rw [ht2]; simp [cat]) w)
      obtain ⟨ks, hks⟩ : ∃ ks, ks = mcat (L.take k) := ⟨_, rfl⟩
      rw [← hks] at hI hcl Hct
      have j1 : (0 : Int) ≤ (k : Int) := by omega
      have j2 : (k : Int) < (n : Int) := by omega
      clear hm hct hcell hln ht1 ht2 hks
      go_wp2_with fail
      refine (C2.out _ _ ?_).mono ?_
      · simp
      rintro e v1 ⟨rfl, b1⟩
      have hx0 : ((wr.alloc (.cells #[.string ⟨p.toArray⟩, .int .u64 (x : Int)] 47)).alloc (.cells #[.string ⟨p.toArray⟩] 9)).heap[wr.heap.size]? = some (.cells #[.string ⟨p.toArray⟩, .int .u64 (x : Int)] 47) := heap_at2 wr _ _
      have hx1 := (b1.block wr.heap.size (by simp; omega)).trans hx0
      have hI1 := isB_below (isB_below hI (balloc (balloc (Below.refl _ _) (.cells #[.string ⟨p.toArray⟩, .int .u64 (x : Int)] 47)) (.cells #[.string ⟨p.toArray⟩] 9))) b1
      have hs1 : wr.heap.size + 2 ≤ v1.heap.size := by have := b1.size; simp at this; omega
      have hb1 : Below w.heap.size w v1 := bstep (balloc (balloc hb _) _) b1
      clear b1 hx0 hI
      go_wp2_with fail
      refine (Build.writeString_any w.heap.size w.heap.size _ _ _ hI1 (by rw [Lib.byteCells_length, List.length_append, Str.size_mk]; omega) (by omega)).mono ?_
      rintro e v2 ⟨rfl, hI2, bb2, ok2⟩
      rw [strCells_mk, ← Lib.byteCells_append] at hI2
      have hx2 := ok2 _ _ hx1 (by simp; omega) (fun c fz h => by cases h)
      have hd1 : v2.cell? ⟨wr.heap.size, 1, none⟩ = some (.int .u64 (x : Int)) := by rw [Lib.cell_of_heap hx2]; rfl
      have hb3 : Below w.heap.size w v2 := hb1.trans bb2
      have hs3 : w.heap.size < v2.heap.size := by have := bb2.size; omega
      clear hI1 ok2 bb2 hx1 hx2 hb1
      go_wp2_with fail
      refine (C3.out _ _ ?_).mono ?_
      · simp
      rintro e v3 ⟨rfl, b3⟩
      have hI3 := isB_below (isB_below hI2 (balloc (Below.refl _ _) (.cells #[.int .u64 (x : Int)] 22))) b3
      have hb4 : Below w.heap.size w v3 := bstep (balloc hb3 _) b3
      have hs4 : w.heap.size < v3.heap.size := by have := b3.size; simp at this; omega
      clear b3 hI2 hb3 hs3
      go_wp2_with fail
      refine (Build.writeString_any w.heap.size w.heap.size _ _ _ hI3 (by rw [Lib.byteCells_length, List.length_append, List.length_append, Str.size_mk]; omega) (by omega)).mono ?_
      rintro e v4 ⟨rfl, hI4, bb4, _⟩
      rw [strCells_mk, ← Lib.byteCells_append, List.append_assoc, List.append_assoc] at hI4
      have hI5 : Lib.IsBuilderF 87 5 w.heap.size w.heap.size (Lib.byteCells (q ++ mcat (L.take (k + 1)))) v4 := by rw [Hct.out]; exact hI4
      have hb5 : Below w.heap.size w v4 := hb4.trans bb4
      have hs5 : w.heap.size < v4.heap.size := by have := bb4.size; omega
      clear hI3 hI4 hb4 hs4 bb4
      go_wp2
      go_roundw
      case rel => exact ⟨k + 1, by omega, by go_num, hI5, hb5, hs5⟩
      case measure => simp [intOf]; omega
    · obtain rfl : k = n := by omega
      rw [List.take_of_length_le (by omega)] at hI
      have hd : decide ((k : Int) < (k : Int)) = false := decide_eq_false (by omega)
      clear hln
      go_wp2_with fail
      refine (Tryd.Builder_String_any_k w.heap.size w.heap.size (q ++ mcat L) _ hI (by omega)).mono ?_
      rintro e w3 ⟨rfl, _, b3, _⟩
      go_wp2
      go_ret
      exact ⟨by rw [HV.out]; rfl, hb.trans b3⟩

end Msg
end Go.Proofs.YtcfimfoccbaepaaDoor
