/- package path: Parent, Under, Compare. -/
import Derived.Test.YtagpbhghmhamdaaDoorPathWrite
import Derived.Test.YtagpbhghmhamdaaDoorShelf
namespace Go.Proofs.YtagpbhghmhamdaaDoor
namespace Path
open Go.RowKit

/-- The parent's text. -/
def parentL (p : List UInt8) : List UInt8 := if (parse p).length < 2 then [] else write (parse p).dropLast

theorem write_snoc : ∀ (l : List Nat) (x : Nat), l ≠ [] → write (l ++ [x]) = write l ++ 46 :: Lib.decDigits x
  | [], _, h => absurd rfl h
  | [y], x, _ => rfl
  | y :: z :: r, x, _ => by
    have h := write_snoc (z :: r) x (by simp)
    rw [List.cons_append, List.cons_append, write, ← List.cons_append, h, write, List.append_assoc]; rfl
/-- Where a path's last point stands. -/
theorem last_point (p : List UInt8) (h : 2 ≤ (parse p).length) : Lib.lastIndexByte ({ data := p.toArray } : ByteArray) 46 = (((write (parse p).dropLast).length : Nat) : Int) ∧ p.take (write (parse p).dropLast).length = write (parse p).dropLast ∧ (write (parse p).dropLast).length < p.length := by
  have hne : parse p ≠ [] := by intro e; rw [e] at h; simp at h
  have hp := write_parse p hne
  obtain ⟨l, hl⟩ : ∃ l, l = parse p := ⟨_, rfl⟩
  rw [← hl] at h hne hp ⊢
  have hs := List.dropLast_concat_getLast hne
  have hdn : l.dropLast ≠ [] := by intro e; have := congrArg List.length e; simp at this; omega
  have hw : p = write l.dropLast ++ 46 :: Lib.decDigits (l.getLast hne) := by
    rw [← write_snoc _ _ hdn, hs, hp]
  obtain ⟨a, ha⟩ : ∃ a, a = write l.dropLast := ⟨_, rfl⟩
  obtain ⟨d, hd⟩ : ∃ d, d = Lib.decDigits (l.getLast hne) := ⟨_, rfl⟩
  have hdot := digits_dot (l.getLast hne)
  rw [← hd] at hw hdot
  rw [← ha] at hw ⊢
  refine ⟨?_, by rw [hw, List.take_left], by rw [hw]; simp⟩
  have hsz := Str.size_mk p
  rcases Lib.lastIndexByte_spec ({ data := p.toArray } : ByteArray) 46 with ⟨_, h2⟩ | ⟨i, h1, h2, h3, h4⟩
  · exfalso
    have := h2 a.length (by rw [hsz, hw]; simp)
    rw [hw] at this
    simp at this
  · rw [h2]
    rw [hsz] at h1 h4
    congr 1
    rcases Nat.lt_trichotomy i a.length with hlt | heq | hgt
    · exfalso
      have := h4 a.length hlt (by rw [hw]; simp)
      rw [hw] at this
      simp at this
    · exact heq
    · exfalso
      have hi : p[i]? = d[i - a.length - 1]? := by
        rw [hw, List.getElem?_append_right (by omega)]
        obtain ⟨k, hk⟩ : ∃ k, i - a.length = k + 1 := ⟨i - a.length - 1, by omega⟩
        rw [hk]; simp
      rw [List.getElem?_eq_getElem (by omega)] at hi
      have hm := List.mem_of_getElem? hi.symm
      refine hdot _ hm ?_
      apply UInt8.toNat_inj.1
      have : ((p.toArray[i]!).toNat : Int) = 46 := h3
      rw [getElem!_pos _ _ (by simpa using h1)] at this
      have h46 : (46 : UInt8).toNat = 46 := rfl
      simp at this
      omega

set_option maxRecDepth 100000 in
set_option maxHeartbeats 1000000 in
theorem parent_any (p : List UInt8) (w : World) (hp : p.length ≤ 1099511627776) :
    Calls Tryd.prog 14 #[.string ⟨p.toArray⟩] w fun e w' => e = .returned (.string ⟨(parentL p).toArray⟩) ∧ Below w.heap.size w w' := by
  have C := Lib.hid (fun w => deep_any p w hp)
  have hsz := Str.size_mk p
  by_cases h2 : (parse p).length < 2
  · have hv := Lib.hid (show parentL p = [] by rw [parentL, if_pos h2])
    obtain ⟨n, hn⟩ : ∃ n, n = (parse p).length := ⟨_, rfl⟩
    rw [← hn] at C h2
    clear hn
    have hd : decide ((n : Int) < 2) = true := decide_eq_true (by omega)
    go_enter Tryd.func14, Tryd.ntmps14
    go_wp2_with fail
    refine (C.out _).mono ?_
    rintro e w1 ⟨rfl, hb⟩
    go_wp2
    go_ret
    exact ⟨by rw [hv.out]; rfl, hb⟩
  · obtain ⟨e1, e2, e3⟩ := last_point p (by omega)
    have hv := Lib.hid (show parentL p = p.take (write (parse p).dropLast).length by rw [parentL, if_neg h2, e2])
    obtain ⟨n, hn⟩ : ∃ n, n = (parse p).length := ⟨_, rfl⟩
    rw [← hn] at C h2
    obtain ⟨k, hk⟩ : ∃ k, k = (write (parse p).dropLast).length := ⟨_, rfl⟩
    rw [← hk] at e1 e3 hv
    have L := Lib.hid (fun w => Tryd.strings_LastIndexByte ⟨p.toArray⟩ 46 (by rw [hsz]; omega) w)
    rw [e1] at L
    clear hn hk e1 e2
    have hd : decide ((n : Int) < 2) = false := decide_eq_false (by omega)
    have hk0 : (0 : Int) ≤ (k : Int) := by omega
    have hk1 : (k : Int) ≤ (p.length : Int) := by omega
    have hex := slice_upto p k
    go_enter Tryd.func14, Tryd.ntmps14
    go_wp2_with fail
    refine (C.out _).mono ?_
    rintro e w1 ⟨rfl, hb⟩
    go_wp2_with fail
    refine (L.out _).mono ?_
    rintro e w' ⟨rfl, rfl⟩
    go_wp2
    go_ret
    exact ⟨by rw [hv.out]; rfl, hb⟩

end Path
end Go.Proofs.YtagpbhghmhamdaaDoor
