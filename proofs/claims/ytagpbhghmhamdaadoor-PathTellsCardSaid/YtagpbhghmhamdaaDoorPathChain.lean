/- package path: Chain. -/
import Derived.Test.YtagpbhghmhamdaaDoorPathCompare
import Derived.Laws.AppendOwn
import Derived.Laws.OwnMore
namespace Go.Proofs.YtagpbhghmhamdaaDoor
namespace Path
open Go.RowKit

/-- The numbers of all ancestors, the parent first. -/
def ups : Nat → List Nat → List (List Nat)
  | 0, _ => []
  | n + 1, l => if l.length < 2 then [] else l.dropLast :: ups n l.dropLast
def rest (n : Nat) (cur : List Nat) : List (List Nat) := if cur = [] then [] else cur :: ups n cur
def strs (L : List (List Nat)) : List Value := L.map fun l => .string ⟨(write l).toArray⟩
theorem strs_snoc (L : List (List Nat)) (l : List Nat) : strs L ++ [.string ⟨(write l).toArray⟩] = strs (L ++ [l]) := by simp [strs]
theorem strs_length (L : List (List Nat)) : (strs L).length = L.length := by simp [strs]
theorem ups_length : ∀ n l, (ups n l).length ≤ n
  | 0, _ => by simp [ups]
  | n + 1, l => by
    unfold ups
    split
    · simp
    · have := ups_length n l.dropLast; simp only [List.length_cons]; omega
theorem ups_step {n : Nat} {l : List Nat} (h : ¬ l.length < 2) : ups (n + 1) l = l.dropLast :: ups n l.dropLast := by rw [ups, if_neg h]
theorem Valid.dropLast {l : List Nat} (h : Valid l) (h2 : 2 ≤ l.length) : Valid l.dropLast := by
  obtain ⟨e1, e2, e3⟩ := h
  refine ⟨?_, by rw [List.length_dropLast]; omega, fun x hx => e3 x ((List.dropLast_sublist l).subset hx)⟩
  rw [List.getD_eq_getElem?_getD] at e1 ⊢
  rw [List.getElem?_dropLast, if_pos (by omega)]; exact e1
theorem parent_write (l : List Nat) (h : Valid l) : parentL (write l) = write (if l.length < 2 then [] else l.dropLast) := by
  rw [parentL, parse_write l h]; split <;> rfl
theorem write_ne {l : List Nat} (h : Valid l) : write l ≠ [] := by
  intro e
  have := parse_write l h
  rw [e] at this
  have h2 : parse [] = [] := by decide
  rw [h2] at this
  exact h.ne this.symm

theorem info_str : (Tryd.prog.info? 9).map (fun i => (i.zero, i.size, i.bytes)) = some (some (.string ⟨#[]⟩), 1, 16) := by kernel_rfl

theorem write_lt (l : List Nat) (h : Valid l) : (write (if l.length < 2 then [] else l.dropLast)).length < (write l).length := by
  split
  · have := write_ne h
    show 0 < (write l).length
    exact List.length_pos_iff.2 this
  · rename_i h2
    have hs := List.dropLast_concat_getLast h.ne
    have hdn : l.dropLast ≠ [] := by intro e; have := congrArg List.length e; simp at this; omega
    conv => rhs; rw [← hs, write_snoc _ _ hdn]
    simp
/-- What Chain hands back: a row of its own that holds the ancestors' texts. -/
def ChainPost (L : List (List Nat)) (w : World) (e : Ending) (w' : World) : Prop :=
  ∃ v, e = .returned v ∧ w'.ownsRow w.heap.size 9 1 v L.length (strs L) ∧ Below w.heap.size w w'

theorem write_len (l : List Nat) (h : Valid l) : (write l).length ≤ 1099511627776 := by
  have key : ∀ r : List Nat, (∀ x ∈ r, x ≤ 1073741824) → (write r).length ≤ 11 * r.length := by
    intro r
    induction r with
    | nil => intro _; simp [write]
    | cons x r ih =>
      intro hr
      have hx := digits_len 10 x (by decide) (by have := hr x (List.mem_cons_self ..); omega)
      cases r with
      | nil => rw [write]; simp; omega
      | cons y s =>
        have := ih (fun z hz => hr z (List.mem_cons_of_mem _ hz))
        rw [write, List.length_append, List.length_cons]
        simp only [List.length_cons] at this ⊢
        omega
  have := key l (fun x hx => (h.2.2 x hx).2)
  have := h.2.1
  omega

set_option maxRecDepth 100000 in
set_option maxHeartbeats 2000000 in
theorem chain_any (p : List UInt8) (w : World) (hp : p.length ≤ 1099511627776) :
    Calls Tryd.prog 21 #[.string ⟨p.toArray⟩] w (ChainPost (ups 8 (parse p)) w) := by
  obtain ⟨i0, hi, hz0, hz1, hz2⟩ := info_parts info_str
  have C := Lib.hid (fun w => parent_any p w hp)
  have hstart : ∃ cur, parentL p = write cur ∧ (cur = [] ∨ Valid cur) ∧ rest 7 cur = ups 8 (parse p) ∧ cur.length ≤ 8 := by
    by_cases h2 : (parse p).length < 2
    · exact ⟨[], by rw [parentL, if_pos h2]; rfl, .inl rfl, by rw [rest, if_pos rfl, ups, if_pos h2], by simp⟩
    · have hv := (parse_valid p (by intro e; rw [e] at h2; simp at h2)).dropLast (by omega)
      exact ⟨(parse p).dropLast, by rw [parentL, if_neg h2], .inr hv, by rw [rest, if_neg hv.ne, ups_step (n := 7) h2], hv.2.1⟩
  obtain ⟨cur0, e0, hv0, hr0, hl0⟩ := hstart
  rw [e0] at C
  have HR := Lib.hid hr0
  have hL8 := ups_length 8 (parse p)
  obtain ⟨L, hL⟩ : ∃ L, L = ups 8 (parse p) := ⟨_, rfl⟩
  rw [← hL] at HR hL8
  rw [← hL]
  clear e0 hr0 hL
  go_enter Tryd.func21, Tryd.ntmps21
  go_wp2_with fail
  refine (C.out _).mono ?_
  rintro e w1 ⟨rfl, hb1⟩
  go_wp2_with fail
  go_loopw [3, 4] (fun v sv wr => ∃ (dn : List (List Nat)) (cur : List Nat) (n : Nat), sv = .string ⟨(write cur).toArray⟩ ∧ (cur = [] ∨ Valid cur) ∧ Hid (dn ++ rest n cur = L) ∧ cur.length ≤ n + 1 ∧ wr.ownsRow w.heap.size 9 1 v dn.length (strs dn) ∧ Below w.heap.size w wr) (fun _ sv _ => match sv with | .string t => t.size | _ => 0)
  case atStart => exact ⟨[], cur0, 7, rfl, hv0, HR, by omega, World.ownsRow_nil _ _ _ _, hb1⟩
  case round =>
    obtain ⟨dn, cur, n, rfl, hv, HI, hcn, hown, hb⟩ := hrel
    have hbs := hb.size
    rcases hv with rfl | hv
    · have hi := HI.out
      rw [rest, if_pos rfl, List.append_nil] at hi
      subst hi
      clear HI
      go_wp2
      go_ret
      exact ⟨_, rfl, hown, hb⟩
    · have hw0 := write_ne hv
      have hwl := write_len cur hv
      have hpw := parent_write cur hv
      have hi := HI.out
      rw [rest, if_neg hv.ne] at hi
      have hdl : dn.length + 1 ≤ 8 := by
        have := congrArg List.length hi
        simp only [List.length_append, List.length_cons] at this
        omega
      have C2 := Lib.hid (fun w => parent_any (write cur) w hwl)
      rw [hpw] at C2
      have HIN := Lib.hid hi
      have hcl := Str.size_mk (write cur)
      obtain ⟨ws, hws⟩ : ∃ ws, ws = write cur := ⟨_, rfl⟩
      have hemp : ws ≠ [] := by rw [hws]; exact hw0
      rw [← hws] at C2
      have hfact : (!ws.isEmpty) = true := by cases ws with | nil => exact absurd rfl hemp | cons _ _ => rfl
      have HWS := Lib.hid hws
      rw [← hws] at hcl
      rw [← hws]
      clear hws hpw hi HI hw0
      have hbs' := hbs
      go_wp2_with (at_builtin; refine wpList_append_own _ rfl _ _ 33 rfl w.heap.size 9 i0 (.string ⟨#[]⟩) 1 16 Tryd.underlying33 hi hz0 hz1 hz2 rfl (by decide) _ _ _ rfl (hown.alloc _) ⟨wr.heap.size, 0, none⟩ 1 1 [.string ⟨ws.toArray⟩] rfl rfl (cell_one_new _ _ _) (by simp [Value.oneCell']) (by unfold maxLen; omega) (by omega) (by simp; omega) ?_; intro v' w1 hown' hgrow _)
      have hb1 : Below w.heap.size w w1 := Below.grown (hb.alloc hbs _) hgrow (by simp; omega) (fun j hj => (hown.lt _ hj).1)
      go_wp2_with fail
      refine (C2.out _).mono ?_
      rintro e w3 ⟨rfl, b3⟩
      have hb3 := bstep hb1 b3
      have hown3 := hown'.kept (row := none) ⟨b3.os, b3.tape, b3.output, b3.size, fun k hk _ => b3.block k hk⟩ (Classical.em _)
      rw [HWS.out, strs_snoc] at hown3
      go_wp2
      go_roundw
      case rel =>
        refine ⟨dn ++ [cur], if cur.length < 2 then [] else cur.dropLast, n - 1, rfl, ?_, Lib.hid ?_, ?_, by simpa using hown3, hb3⟩
        · by_cases h2 : cur.length < 2
          · rw [if_pos h2]; exact .inl rfl
          · rw [if_neg h2]; exact .inr (hv.dropLast (by omega))
        · rw [← HIN.out, List.append_assoc]
          congr 1
          by_cases h2 : cur.length < 2
          · rw [if_pos h2, rest, if_pos rfl]
            cases n with
            | zero => rfl
            | succ n => rw [ups, if_pos h2]; rfl
          · rw [if_neg h2, rest, if_neg (hv.dropLast (by omega)).ne]
            obtain ⟨k, rfl⟩ : ∃ k, n = k + 1 := ⟨n - 1, by omega⟩
            rw [ups_step h2]; rfl
        · split
          · simp
          · rw [List.length_dropLast]; omega
      case measure =>
        have h := write_lt cur hv
        rw [HWS.out]
        show (ByteArray.size _) < ByteArray.size _
        rw [Str.size_mk, Str.size_mk]
        exact h

end Path
end Go.Proofs.YtagpbhghmhamdaaDoor
