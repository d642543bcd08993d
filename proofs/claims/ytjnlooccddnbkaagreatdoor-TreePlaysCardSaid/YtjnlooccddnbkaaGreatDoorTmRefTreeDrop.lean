/- The reference of Tree: Drop. -/
import Derived.Test.YtjnlooccddnbkaaGreatDoorTmRefTreePut
namespace Go.Proofs.YtjnlooccddnbkaaGreatDoor
namespace RefTree
open Go.RowKit Go.Proofs.YtjnlooccddnbkaaGreatDoor.Mark Go.Proofs.YtjnlooccddnbkaaGreatDoor.Dots Go.Proofs.YtjnlooccddnbkaaGreatDoor.Tree
theorem drop_none {l : List It} {q : List UInt8} (h : ∀ y ∈ l, y.k ≠ q) : Tree.drop q l = l := by
  unfold Tree.drop
  rw [List.filter_eq_self]
  intro y hy
  simpa using h y hy
set_option maxRecDepth 100000 in
set_option maxHeartbeats 8000000 in
theorem drop_any {w x : World} {rb : Nat} {L : List RI} (q : List UInt8) (h : Is w x rb L) (hu : Up (L.map RI.it)) (hn : L.length ≤ 256) (hwx : Below w.heap.size w x) :
    Calls Tryz.prog 26 #[.pointer (some ⟨rb, 0, none⟩), .string ⟨q.toArray⟩] x fun e y => e = .returned (.bool (find (L.map RI.it) q).isSome) ∧ (∃ L', L'.map RI.it = Tree.drop q (L.map RI.it) ∧ Is w y rb L') ∧ Turns w x y := by
  have H := Lib.hid h
  have HU := Lib.hid hu
  have HWX := Lib.hid hwx
  clear h hu hwx
  go_enter Tryz.func26, Tryz.ntmps26
  go_wp2_with fail
  refine (at_any q H.out hn).mono ?_
  rintro e x3 ⟨r, rfl, hat, rfl⟩
  rcases hat with ⟨i, hi, rfl, hik⟩ | ⟨rfl, hno⟩
  rotate_left
  · have d1 : decide ((-1 : Int) < 0) = true := by decide
    have hf : find (L.map RI.it) q = none := (find_none _ _).2 (fun y hy => by
      obtain ⟨z, hz, rfl⟩ := List.mem_map.1 hy
      exact hno z hz)
    have HR : Hid ((find (L.map RI.it) q).isSome = false ∧ L.map RI.it = Tree.drop q (L.map RI.it)) := Lib.hid ⟨by rw [hf]; rfl, (drop_none (fun y hy => by
      obtain ⟨z, hz, rfl⟩ := List.mem_map.1 hy
      exact hno z hz)).symm⟩
    clear hno hf
    go_wp2
    go_ret
    exact ⟨by rw [HR.out.1]; rfl, ⟨L, HR.out.2, H.out⟩, Turns.of (Below.refl _ _)⟩
  have d1 : decide ((i : Int) < 0) = false := decide_eq_false (by omega)
  have hf : (find (L.map RI.it) q).isSome = true := (mem_keys HU.out q).1 (List.mem_map.2 ⟨L[i].it, List.mem_map_of_mem (List.getElem_mem hi), hik⟩)
  have HR : Hid ((find (L.map RI.it) q).isSome = true ∧ (L.take i ++ L.drop (i + 1)).map RI.it = Tree.drop q (L.map RI.it)) := Lib.hid ⟨hf, by
    rw [List.map_append, List.map_take, List.map_drop]
    exact del_drop HU.out (by rw [List.length_map]; exact hi) q (by rw [List.getElem_map]; exact hik)⟩
  obtain ⟨i1, hi1⟩ : ∃ j, j = i + 1 := ⟨_, rfl⟩
  rw [← hi1] at HR
  obtain ⟨v, p1, p2⟩ := H.out.box
  obtain ⟨a, c, rfl, hlc, hcm, hl, -, hz⟩ := Row.Own.lies' p2
  have cb : x.cell? ⟨rb, 0, none⟩ = some (.slice a L.length c) := by rw [cell_of_row x rb 0 _ _ _ p1]; rfl
  have LL := Lib.hid hl
  obtain ⟨n, hnn⟩ : ∃ n, n = L.length := ⟨_, rfl⟩
  rw [← hnn] at LL cb hlc hn hi
  have HN := Lib.hid hnn
  have hto := fun w => slice_to a n c i (by omega) w
  have hfrom := fun w => slice_from a n c i1 (by omega) w
  have LF := Lib.hid (fun W (h : Row.Lies enc W a n L) => lies_from (k := i1) h (by omega) hlc)
  obtain ⟨a2, ha2⟩ : ∃ y : Option Addr, y = (if c = i1 then a else Option.map (fun y : Addr => y.add (i1 * 3)) a) := ⟨_, rfl⟩
  rw [← ha2] at hfrom LF
  have wi : IntKind.i64.wrap ((i : Int) + 1) = (i1 : Int) := by rw [IntKind.wrap_i64]; omega
  have HI := Lib.hid hi
  have HI1 : Hid (i1 = i + 1) := Lib.hid hi1
  clear hf hik p1 p2 hl hnn ha2 hi1
  go_upto_region 6 with (at_builtin; refine Row.wpList_app typ rfl _ _ rfl x.heap.size _ [] rfl (Row.Own.nil _ _) a i c (L.take i) rfl (LL.out.first (by omega)) (by simp only [List.length_nil]; omega) (Nat.le_refl _) ?_; intro v1 w1 o1 _ k1)
  rw [List.nil_append] at o1
  have O1 := Lib.hid o1
  have K1 := Lib.hid k1
  have HC := Lib.hid cb
  replace cb := Dots.keepC cb k1
  clear o1 k1
  go_wp2_with (at_builtin; refine Row.wpList_app typ rfl _ _ rfl x.heap.size v1 (L.take i) rfl O1.out a2 (n - i1) (c - i1) (L.drop i1) rfl (LF.out _ (LL.out.below K1.out)) (by rw [List.length_take]; have := HI1.out; omega) K1.out.size ?_; intro v3 w3 o3 _ k3; obtain ⟨a3, c3, rfl, -⟩ := Row.Own.lies o3; generalize (L.take i ++ L.drop i1).length = n3 at *; have K3 := Lib.hid (K1.out.trans k3); have cb3 := Dots.keepC HC.out K3.out; have fb3 : w3.frozen? ⟨rb, 0, none⟩ = false := box_frozen H.out K3.out; have O3 := Lib.hid o3; clear o3 k3)
  go_ret
  have HF := put_stored H.out K3.out O3.out HWX.out.size (fun y hy => by
    rcases List.mem_append.1 hy with hy | hy
    · exact H.out.seen y (List.mem_of_mem_take hy)
    · exact H.out.seen y (List.mem_of_mem_drop hy))
  exact ⟨by rw [HR.out.1]; rfl, ⟨_, HR.out.2, HF.1⟩, HF.2⟩
end RefTree
end Go.Proofs.YtjnlooccddnbkaaGreatDoor
