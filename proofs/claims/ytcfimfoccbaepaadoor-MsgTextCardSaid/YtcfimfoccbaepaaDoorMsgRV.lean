/- msg.readVector. -/
import Derived.Test.YtcfimfoccbaepaaDoorMsgEnc
import Derived.Test.YtcfimfoccbaepaaDoorWireDo
import Derived.Laws.OwnMore
namespace Go.Proofs.YtcfimfoccbaepaaDoor
namespace Msg
open Go.RowKit Go.Proofs.YtcfimfoccbaepaaDoor.Mark Go.Proofs.YtcfimfoccbaepaaDoor.Wire

theorem cells2_new (W : World) (u v : Value) (T : TypeId) : ∀ j z, ([u, v] : List Value)[j]? = some z → (W.alloc (.cells #[u, v] T)).cell? ((⟨W.heap.size, 0, none⟩ : Addr).add j) = some z := by
  intro j z h
  rw [Go.WideShapes.add_plain, World.cell?_alloc_new, Nat.zero_add]
  simpa using h

theorem own_block {w : World} {B : Nat} {v : Value} {L : List M} (h : Mark.Own w B v L) : ∀ k, v.ownBlock = some k → B ≤ k := fun k e => (h.lt k e).1
/-- A mark appended to a call's own row. -/
theorem wpList_push {ops : Array Oper} {rest : List Oper} {o : Oper} {a : Act} {w : World} {Q : Exit → Act → World → Prop} (hgd : o.guard = none) (s x : Operand)
    (ho : o.op = .call { callee := .builtin .append, args := #[s, x], argTypes := #[23, 23] }) (B : Nat) (v : Value) (L : List M) (hs : a.eval s = v) (hown : Mark.Own w B v L)
    (ad : Addr) (c : Nat) (m : M) (hx : a.eval x = .slice (some ad) 1 c) (hnews : ∀ j u, ([.string ⟨m.p.toArray⟩, .int .u64 (m.n : Int)] : List Value)[j]? = some u → w.cell? (ad.add j) = some u)
    (hlen : L.length + 1 ≤ 1099511627780) (hbase : B ≤ w.heap.size)
    (h : ∀ v' w', Mark.Own w' B v' (L ++ [m]) → Below B w w' → wpList Tryd.prog ops Q rest (a.put o.dst v') w') : wpList Tryd.prog ops Q (o :: rest) a w := by
  obtain ⟨i0, hi, hz0, hz1, hz2⟩ := info_parts info_mark
  refine wpList_append_own w hgd s x 23 ho B 47 i0 (.agg #[.string ⟨#[]⟩, .int .u64 0]) 2 24 Tryd.underlying23 hi hz0 hz1 hz2 rfl (by decide) v L.length (flat L) hs hown ad 1 c _ hx rfl hnews (by simp [Value.oneCell']) (by unfold maxLen; omega) (by omega) hbase ?_
  intro v' w' h1 h2 _
  refine h v' w' ?_ (Below.grown (Below.refl B w) h2 hbase (own_block hown))
  unfold Mark.Own
  rw [← flat_snoc, List.length_append]
  exact h1


theorem own_but {w w' : World} {B b : Nat} {v : Value} {L : List M} (h : Mark.Own w B v L) (k : But b w w') (hb : b < B) : Mark.Own w' B v L :=
  World.ownsRow.kept (row := some b) h ⟨k.os, k.tape, k.output, k.size, fun j hj hne => k.block j hj (fun e => hne (by rw [e]))⟩ (by
    by_cases e : v.ownBlock = none
    · exact .inl e
    · refine .inr (fun e2 => ?_)
      have := own_block h b e2
      omega)
theorem but_below {b : Nat} {w x y : World} (h : But b w x) (k : Below w.heap.size x y) : But b w y :=
  ⟨k.os.trans h.os, k.tape.trans h.tape, k.output.trans h.output, Nat.le_trans h.size k.size, fun j hj hne => (k.block j hj).trans (h.block j hj hne)⟩
/-- The marks that are read, one behind the other. -/
def marksS : Nat → List UInt8 → Int → List M → List M × List UInt8 × Int
  | 0, l, E, K => (K, l, E)
  | k + 1, l, E, K => if E ≠ 0 then (K, l, E) else
    marksS k (numS 281474976710656 (textS 16384 l E).2.1 (textS 16384 l E).2.2).2.1 (numS 281474976710656 (textS 16384 l E).2.1 (textS 16384 l E).2.2).2.2
      (K ++ [⟨(textS 16384 l E).1, (numS 281474976710656 (textS 16384 l E).2.1 (textS 16384 l E).2.2).1.toNat⟩])
def rvS (l : List UInt8) (E : Int) : List M × List UInt8 × Int := marksS (numS 512 l E).1.toNat (numS 512 l E).2.1 (numS 512 l E).2.2 []

set_option maxRecDepth 100000 in
set_option maxHeartbeats 2000000 in
theorem rv_any (b : Nat) (l : List UInt8) (E : Int) (w : World) (h : Rd w b l E) (R : List M) (l1 : List UInt8) (E1 : Int) (hR : rvS l E = (R, l1, E1)) :
    Calls Tryd.prog 44 #[.pointer (some ⟨b, 0, none⟩)] w fun e w' => ∃ v : Value, e = .returned v ∧ Mark.Own w' w.heap.size v R ∧ R.length ≤ 512 ∧ Rd w' b l1 E1 ∧ But b w w' := by
  have hlt := h.lt
  obtain ⟨n, l2, E2, hn⟩ : ∃ n l2 E2, numS 512 l E = (n, l2, E2) := ⟨_, _, _, rfl⟩
  have hnb := numS_le hn (by omega)
  unfold rvS at hR
  rw [hn] at hR
  simp only at hR
  obtain ⟨n, rfl⟩ := Int.eq_ofNat_of_zero_le hnb.1
  rw [Int.toNat_natCast] at hR
  have HR := Lib.hid hR
  have C0 := Lib.hid (num_any b l E 512 w h n l2 E2 hn)
  clear hR hn h
  go_enter Tryd.func44, Tryd.ntmps44
  go_wp2_with fail
  refine C0.out.mono ?_
  rintro e w1 ⟨rfl, r1, b1⟩
  go_wp2_with fail
  go_loopw [3, 4] (fun vv nv wr => ∃ (k : Nat) (l' : List UInt8) (E' : Int) (K : List M), nv = .int .u64 k ∧ k + K.length ≤ 512 ∧ Mark.Own wr w.heap.size vv K ∧ Rd wr b l' E' ∧ Hid (marksS k l' E' K = (R, l1, E1)) ∧ But b w wr) (fun _ nv _ => (intOf nv).toNat)
  case atStart => exact ⟨n, l2, E2, [], rfl, by simp; omega, Mark.Own.nil _ _, r1, HR, b1⟩
  case round =>
    clear r1 b1 C0 HR
    obtain ⟨k, l', E', K, rfl, hk, hown, hr, HM, hbt⟩ := hrel
    cases k with
    | zero =>
      have hE : (K, l', E') = (R, l1, E1) := HM.out
      simp only [Prod.mk.injEq] at hE
      obtain ⟨rfl, rfl, rfl⟩ := hE
      go_wp2
      go_ret
      exact ⟨_, rfl, hown, by omega, hr, hbt⟩
    | succ k =>
      have hd : decide (((k + 1 : Nat) : Int) > 0) = true := decide_eq_true (by omega)
      have hd2 : decide ((0 : Int) < ((k + 1 : Nat) : Int)) = true := decide_eq_true (by omega)
      have hd3 : 0 < k + 1 := by omega
      obtain ⟨k1, hk1⟩ : ∃ k1, k1 = k + 1 := ⟨_, rfl⟩
      rw [← hk1] at hd hd2 hd3 hk ⊢
      have HK1 := Lib.hid hk1
      by_cases h0 : E' = 0
      · subst h0
        obtain ⟨p, l2, E2, hp⟩ : ∃ p l2 E2, textS 16384 l' 0 = (p, l2, E2) := ⟨_, _, _, rfl⟩
        obtain ⟨x, l3, E3, hx⟩ : ∃ x l3 E3, numS 281474976710656 l2 E2 = (x, l3, E3) := ⟨_, _, _, rfl⟩
        have hxb := numS_le hx (by omega)
        obtain ⟨x, rfl⟩ := Int.eq_ofNat_of_zero_le hxb.1
        have HM2 : Hid (marksS k l3 E3 (K ++ [⟨p, x⟩]) = (R, l1, E1)) := Lib.hid (by
          have := HM.out
          rw [marksS, if_neg (by simp), hp] at this
          simp only at this
          rw [hx] at this
          simpa using this)
        have hq := hr.lt
        clear HM hk1
        have hwk : IntKind.u64.wrap ((k1 : Int) - 1) = (k : Int) := by have := HK1.out; rw [IntKind.wrap_u64]; omega
        go_wp2_with fail
        refine (err_any b l' 0 _ hr).mono ?_
        rintro e w2 ⟨rfl, rfl⟩
        go_wp2_with fail
        refine (text_any b l' 0 16384 (by omega) (by omega) _ hr p l2 E2 hp).mono ?_
        rintro e w3 ⟨rfl, r3, b3⟩
        have o3 := own_but hown b3 hlt
        have hb3 := hbt.trans b3
        clear hown hr hbt b3
        go_wp2_with fail
        refine (num_any b l2 E2 281474976710656 _ r3 x l3 E3 hx).mono ?_
        rintro e w4 ⟨rfl, r4, b4⟩
        have o4 := own_but o3 b4 hlt
        have hb4 := hb3.trans b4
        have hs4 := hb4.size
        clear o3 hb3 b4 r3
        go_wp2_with (at_builtin; refine wpList_push rfl _ _ rfl w.heap.size _ _ rfl (o4.alloc _) _ _ ⟨p, x⟩ rfl (cells2_new _ _ _ _) (by omega) (by simp; omega) ?_; intro v5 w5 o5 k5)
        have k6 : Below w.heap.size w4 w5 := ((balloc (Below.refl _ _) _).mono hs4).trans k5
        have hb5 := but_below hb4 k6
        have r5 := r4.below k6 hlt
        clear o4 hb4 hs4 r4 k5 k6
        go_wp2
        go_roundw
        case rel => exact ⟨k, l3, E3, K ++ [⟨p, x⟩], by first | rfl | (rw [hwk]), by have := HK1.out; rw [List.length_append]; simp; omega, o5, r5, HM2, hb5⟩
        case measure => have := HK1.out; simp [intOf]; omega
      · have hE : (K, l', E') = (R, l1, E1) := by
          have := HM.out
          rw [marksS, if_pos h0] at this
          exact this
        simp only [Prod.mk.injEq] at hE
        obtain ⟨rfl, rfl, rfl⟩ := hE
        have hne : (E' == 0) = false := by rw [beq_eq_false_iff_ne]; exact h0
        clear hk1 HM
        go_wp2_with fail
        refine (err_any b l' E' _ hr).mono ?_
        rintro e w2 ⟨rfl, rfl⟩
        go_wp2
        go_ret
        exact ⟨_, rfl, hown, by omega, hr, hbt⟩

end Msg
end Go.Proofs.YtcfimfoccbaepaaDoor
