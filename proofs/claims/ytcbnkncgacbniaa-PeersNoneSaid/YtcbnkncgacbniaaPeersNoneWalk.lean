/- PeersNone: the walk. -/
import Derived.Test.YtcbnkncgacbniaaPeersIn
namespace Go.Proofs.Ytcbnkncgacbniaa
namespace PeersNone
open Go.RowKit Go.Proofs.Ytcbnkncgacbniaa.Mark Go.Proofs.Ytcbnkncgacbniaa.Peers Go.Proofs.Ytcbnkncgacbniaa.PeersLaw
/-- A step of a peer and a vector. -/
def one (q : List UInt8) (ms : Option Addr) (mc : Nat) (A : List M) : St := ⟨0, none, 0, [], q, ms, mc, A, [], 0, [], 0⟩
theorem one_sized {q : List UInt8} {ms : Option Addr} {mc : Nat} {A : List M} (hq : q.length ≤ 140737488351232) (hA : ∀ m ∈ A, m.Was) : (one q ms mc A).Sized :=
  ⟨hq, by show ([] : List UInt8).length ≤ _; simp, by show ([] : List UInt8).length ≤ _; simp, (fun t ht => by cases ht), (fun m hm => ⟨(hA m hm).2, (hA m hm).1⟩), by show 0 ≤ _; omega, by show 0 ≤ _; omega⟩

set_option maxRecDepth 100000 in
set_option maxHeartbeats 8000000 in
theorem walk (a0 : ByteArray) (a1 : List Mark.M) (s1 : Option Addr) (c1 : Nat) (w : World) (w0 : a0.size ≤ maxLen) (r0 : a0.size ≤ 140737488351232) (w1 : ∀ x ∈ a1, x.Was) (l1 : Mark.Lies w s1 a1.length a1) (_ : a1.length ≤ 140737488351232) :
    Calls Try.prog 6 #[.string a0, .slice s1 a1.length c1] w fun e w' => e = .returned (.bool true) ∧ Below w.heap.size w w' := by
  obtain ⟨q, rfl⟩ : ∃ l : List UInt8, a0 = ⟨l.toArray⟩ := ⟨a0.data.toList, (Str.mk_toList a0).symm⟩
  have hsz := Str.size_mk q
  have hb := Below.refl w.heap.size w
  have ST := Lib.hid (one_sized (q := q) (ms := s1) (mc := c1) (by omega) w1)
  obtain ⟨n, hn⟩ : ∃ n, n = a1.length := ⟨_, rfl⟩
  have HN := Lib.hid hn
  rw [← hn] at l1 ⊢
  replace l1 := Lib.hid l1
  clear w0 r0 w1 hsz hn
  go_enter Try.func6, Try.ntmps6
  go_wp2_with fail
  have L0 : Peers.Steps (w.alloc (.cells #[.int .i64 0, .slice none 0 0, .string ⟨q.toArray⟩, .slice s1 n c1, .string ⟨#[]⟩, .int .u64 0, .string ⟨#[]⟩, .int .u64 0] 30)) (some ⟨w.heap.size, 0, none⟩) 1 [one q s1 c1 a1] := by
    have := Row.lies_new (E := Peers.encS) w (one q s1 c1 a1) 30
    unfold one Peers.encS St.cells at this
    rw [HN.out]
    exact this
  have hk : Below w.heap.size w (w.alloc (.cells #[.int .i64 0, .slice none 0 0, .string ⟨q.toArray⟩, .slice s1 n c1, .string ⟨#[]⟩, .int .u64 0, .string ⟨#[]⟩, .int .u64 0] 30)) := balloc (Below.refl _ _) _
  replace l1 := Lib.hid ((l1.out).below hk)
  replace hb := bstep hb hk
  clear hk
  refine (heavy_any [one q s1 c1 a1] _ 1 _ L0 (fun x hx => by
    obtain rfl := List.mem_singleton.1 hx
    refine ⟨Row.Lies.nil _ _, ?_⟩
    show Mark.Lies _ s1 a1.length a1
    rw [← HN.out]; exact l1.out) (fun x hx => by obtain rfl := List.mem_singleton.1 hx; exact ST.out)).mono ?_
  rintro e v1 ⟨r, rfl, hr, k1⟩
  replace l1 := Lib.hid ((l1.out).below k1)
  replace hb := bstep hb k1
  clear k1 L0
  have HR := Lib.hid hr
  clear hr
  cases r
  rotate_left
  · skip
    go_wp2_with fail
    refine (works_any _).mono ?_
    rintro e v2 ⟨rfl, k2⟩
    replace l1 := Lib.hid ((l1.out).below k2)
    replace hb := bstep hb k2
    clear k2
    go_wp2
    go_ret
    exact ⟨rfl, hb⟩
  have LT := Lib.hid ((HR.out rfl).2 _ List.mem_cons_self)
  have HNL : Hid (n ≤ 1099511627776) := Lib.hid (by have := LT.out.2.1; unfold one at this; rw [HN.out]; simp only at this; omega)
  go_wp2_with fail
  refine (next_nil _).mono ?_
  rintro e w3 ⟨rfl, rfl⟩
  go_wp2_with fail
  refine (set_nil _ _).mono ?_
  rintro e w9 ⟨rfl, rfl⟩
  replace hb := balloc hb (.cells #[.string ⟨q.toArray⟩] 9)
  replace l1 := Lib.hid (l1.out.below (balloc (Below.refl _ _) (.cells #[.string ⟨q.toArray⟩] 9)))
  go_wp2_with fail
  refine (forget_nil _ _).mono ?_
  rintro e w9 ⟨rfl, rfl⟩
  go_wp2_with fail
  refine (turn_nil _).mono ?_
  rintro e v11 ⟨rfl, k11⟩
  replace l1 := Lib.hid ((l1.out).below k11)
  replace hb := bstep hb k11
  clear k11
  go_wp2_with fail
  refine (copied_any a1 s1 n c1 _ l1.out HNL.out).mono ?_
  rintro e v12 ⟨x1, y1, rfl, -, -, k12⟩
  replace l1 := Lib.hid ((l1.out).below k12)
  replace hb := bstep hb k12
  clear k12
  go_wp2_with fail
  refine (learn_nil _ _ _).mono ?_
  rintro e w9 ⟨rfl, rfl⟩
  go_wp2_with fail
  refine (known_nil _ _).mono ?_
  rintro e w9 ⟨rfl, rfl⟩
  go_wp2_with fail
  refine (copied_any a1 s1 n c1 _ l1.out HNL.out).mono ?_
  rintro e v13 ⟨x2, y2, rfl, -, -, k13⟩
  replace l1 := Lib.hid ((l1.out).below k13)
  replace hb := bstep hb k13
  clear k13
  go_wp2_with fail
  refine (lacks_nil _ _).mono ?_
  rintro e w9 ⟨rfl, rfl⟩
  go_wp2_with fail
  refine (all_nil _).mono ?_
  rintro e w9 ⟨rfl, rfl⟩
  go_wp2_with fail
  refine (works_any _).mono ?_
  rintro e v14 ⟨rfl, k14⟩
  replace l1 := Lib.hid ((l1.out).below k14)
  replace hb := bstep hb k14
  clear k14
  go_wp2
  go_ret
  exact ⟨rfl, hb⟩
end PeersNone
end Go.Proofs.Ytcbnkncgacbniaa
