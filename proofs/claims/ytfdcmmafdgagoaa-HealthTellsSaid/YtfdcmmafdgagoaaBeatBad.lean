/- health.Bad; rows of strings. -/
import Derived.Test.YtfdcmmafdgagoaaBeatSuspect
namespace Go.Proofs.Ytfdcmmafdgagoaa
namespace Row
open Go.RowKit
theorem lies_new' {α : Type} {E : Enc α} (w : World) (x : α) (T : TypeId) {g : Nat} (hg : g = w.heap.size) : Lies E (w.alloc (.cells (E.cells x).toArray T)) (some ⟨g, 0, none⟩) 1 [x] := by subst hg; exact lies_new w x T
end Row
namespace Words
open Go.RowKit
/-- Rows of strings. -/
def enc : Row.Enc (List UInt8) := ⟨1, by decide, fun x => [.string ⟨x.toArray⟩], fun _ => rfl, fun x v hv => by
  simp only [List.mem_cons, List.not_mem_nil, or_false] at hv
  rw [hv]; rfl⟩
theorem info_str : (Try.prog.info? 9).map (fun i => (i.zero, i.size, i.bytes)) = some (some (.string ⟨#[]⟩), 1, 16) := by kernel_rfl
theorem typ : Row.Typ Try.prog enc 31 9 (.string ⟨#[]⟩) 16 := ⟨Try.underlying31, Row.info_of info_str, rfl, by decide⟩
abbrev Mine := Row.Own enc 9
abbrev Lies := Row.Lies enc
end Words
namespace Beat
open Go.RowKit Go.Proofs.Ytfdcmmafdgagoaa.Order
/-- Who is suspected. -/
def badL (L : List B) : List (List UInt8) := (L.filter (fun x => x.bad)).map B.p
def badS (L : List B) : List (List UInt8) := if mayB L then badL L else []
theorem badL_step (L : List B) (k : Nat) (h : k < L.length) : badL (L.take (k + 1)) = badL (L.take k) ++ (if L[k].bad then [L[k].p] else []) := by
  unfold badL
  rw [← List.take_append_getElem h, List.filter_append, List.map_append]
  cases hb : L[k].bad <;> simp [hb]
theorem badL_length (L : List B) : (badL L).length ≤ L.length := by unfold badL; rw [List.length_map]; exact List.length_filter_le _ _
set_option maxRecDepth 100000 in
set_option maxHeartbeats 8000000 in
theorem bad_any (L : List B) (a : Option Addr) (c : Nat) (w : World) (hL : Lies w a L.length L) (hW : Small L) :
    Calls Try.prog 11 #[.slice a L.length c] w fun e w' => ∃ v', e = .returned v' ∧ Words.Mine w' w.heap.size v' (badS L) ∧ Below w.heap.size w w' := by
  have hb := Below.refl w.heap.size w
  have lL := Lib.hid hL
  have C1 := Lib.hid (fun w h => may_any L a c w h hW)
  have HO : Hid (badS L = if mayB L then badL L else []) := Lib.hid rfl
  clear hL hW
  cases h1 : mayB L
  · have hm := h1
    have H2 : Hid (badS L = []) := Lib.hid (by rw [HO.out, h1]; rfl)
    clear h1
    go_enter Try.func11, Try.ntmps11
    go_wp2_with fail
    refine (C1.out _ (lL.out.below hb)).mono ?_
    rintro e v1 ⟨rfl, k1⟩
    replace hb := bstep hb k1
    clear k1
    rw [hm]
    go_wp2
    go_ret
    exact ⟨_, rfl, by rw [H2.out]; exact Row.Own.nil _ _, hb⟩
  have hm := h1
  have F1 := (may_facts h1).1
  have HV : Hid (badS L = badL L) := Lib.hid (by rw [HO.out, h1]; rfl)
  clear h1
  go_enter Try.func11, Try.ntmps11
  go_wp2_with fail
  refine (C1.out _ (lL.out.below hb)).mono ?_
  rintro e v1 ⟨rfl, k1⟩
  replace hb := bstep hb k1
  clear k1
  rw [hm]
  go_wp2_with fail
  go_loopw [3, 11] (fun lv iv wr => ∃ k : Nat, k ≤ L.length ∧ iv = .int .i64 k ∧ Hid (Words.Mine wr w.heap.size lv (badL (L.take k))) ∧ Below w.heap.size w wr) (fun _ iv _ => L.length - (intOf iv).toNat)
  case atStart => exact ⟨0, by omega, rfl, Lib.hid (Row.Own.nil _ _), hb⟩
  case round =>
    clear hb
    obtain ⟨k, hk, rfl, oO, hb⟩ := hrel
    by_cases hlt : k < L.length
    · obtain ⟨b, o, rfl, hcell⟩ := lies_at (lL.out.below hb) (by omega)
      obtain ⟨c1, c2, c3⟩ := hcell k (by omega)
      have HS := badL_step L k hlt
      have HN := badL_length (L.take k)
      rw [List.length_take] at HN
      obtain ⟨m, hm⟩ : ∃ m, m = L[k] := ⟨_, rfl⟩
      rw [← hm] at c1 c2 c3 HS
      have d1 : decide ((k : Int) < (L.length : Int)) = true := decide_eq_true (by omega)
      have j1 : (0 : Int) ≤ (k : Int) := by omega
      have j2 : (k : Int) < (L.length : Int) := by omega
      have HN := Lib.hid HN
      have HK := Lib.hid (And.intro hlt F1)
      clear hcell hm hlt
      cases e1 : m.bad
      · rw [e1] at c3 HS
        have HS := Lib.hid HS
        go_wp2
        go_roundw
        case rel => exact ⟨k + 1, by have := HK.out; omega, by go_num, Lib.hid (by rw [HS.out]; simpa using oO.out.alloc _), balloc hb _⟩
        case measure => have := HK.out; simp [intOf]; omega
      · rw [e1] at c3 HS
        have HS := Lib.hid HS
        go_wp2_with (at_builtin; refine Row.wpList_app Words.typ rfl _ _ rfl w.heap.size _ _ rfl ((oO.out.alloc _).alloc _) _ 1 1 [m.p] rfl (Row.lies_new' _ m.p _ (by simp only [World.size_alloc])) (by have := HN.out; have := HK.out; omega) (by have := hb.size; simp only [World.size_alloc]; omega) ?_; intro v9 w9 o9 _ k9)
        go_roundw
        case rel => exact ⟨k + 1, by have := HK.out; omega, by go_num, Lib.hid (by rw [HS.out]; exact o9), (balloc (balloc hb _) _).trans k9⟩
        case measure => have := HK.out; simp [intOf]; omega
    · obtain rfl : k = L.length := by omega
      have d1 : decide ((L.length : Int) < (L.length : Int)) = false := decide_eq_false (by omega)
      go_wp2
      go_ret
      exact ⟨_, rfl, by rw [HV.out]; simpa using oO.out, hb⟩
end Beat
end Go.Proofs.Ytfdcmmafdgagoaa
