/- A message that came in; the laws' helpers in terms of one message. -/
import Derived.Test.YtcfimfoccbaepaaDoorMsgKind
import Derived.Test.YtcfimfoccbaepaaDoorMarkIn
namespace Go.Proofs.YtcfimfoccbaepaaDoor
namespace Msg
open Go.RowKit Go.Proofs.YtcfimfoccbaepaaDoor.Mark Go.Proofs.YtcfimfoccbaepaaDoor.Num Go.Proofs.YtcfimfoccbaepaaDoor.Wire

/-- What a message that came in is. -/
structure G.Was (m : G) : Prop where
  kind : m.kind ≤ 255
  src : m.src.length ≤ 140737488351232
  dst : m.dst.length ≤ 140737488351232
  fr : m.fr.length ≤ 140737488351232
  seq : m.seq ≤ 18446744073709551615
  all : ∀ k ∈ m.all, k.Was
  len : m.all.length ≤ 140737488351232
  id : m.id ≤ 18446744073709551615
  i : -9223372036854775808 ≤ m.i ∧ m.i ≤ 9223372036854775807
  n : -9223372036854775808 ≤ m.n ∧ m.n ≤ 9223372036854775807
  tx : m.tx.length ≤ 140737488351232
theorem c_u8 : Tryd.prog.cellsOf 5 = 1 := by kernel_rfl
theorem c_part : Tryd.prog.cellsOf 25 = 4 := by kernel_rfl
theorem c_msg : Tryd.prog.cellsOf 27 = 10 := by kernel_rfl

section
variable {H : Type} {enc : TypeId × Value → H} {w : World} {base : Nat} {spare : Nat → Bool} {held : Bool} {cs : List Value}
theorem part_in (h : Tr enc Tryd.prog w base spare held 25 cs) : ∃ (id : Nat) (i n : Int) (tx : List UInt8), cs = [.int .u64 (id : Int), .int .i64 i, .int .i64 n, .string ⟨tx.toArray⟩] ∧ id ≤ 18446744073709551615 ∧
    (-9223372036854775808 ≤ i ∧ i ≤ 9223372036854775807) ∧ (-9223372036854775808 ≤ n ∧ n ≤ 9223372036854775807) ∧ tx.length ≤ 140737488351232 := by
  have hl := (Tr.struct Tryd.underlying25 h).1.trans c_part
  have h0 := Tr.field Tryd.underlying25 h 0 _ rfl rfl rfl c_u64
  have h1 := Tr.field Tryd.underlying25 h 1 _ rfl rfl rfl c_int
  have h2 := Tr.field Tryd.underlying25 h 2 _ rfl rfl rfl c_int
  have h3 := Tr.field Tryd.underlying25 h 3 _ rfl rfl rfl c_str
  match cs, hl with
  | [x0, x1, x2, x3], _ =>
    obtain ⟨id, e0, w0⟩ := Tr.int Tryd.underlying22 h0
    obtain ⟨i, e1, w1⟩ := Tr.int Tryd.underlying3 h1
    obtain ⟨n, e2, w2⟩ := Tr.int Tryd.underlying3 h2
    obtain ⟨tx, e3, w3⟩ := Tr.str Tryd.underlying9 h3
    obtain rfl : x0 = _ := List.head_eq_of_cons_eq e0
    obtain rfl : x1 = _ := List.head_eq_of_cons_eq e1
    obtain rfl : x2 = _ := List.head_eq_of_cons_eq e2
    obtain rfl : x3 = _ := List.head_eq_of_cons_eq e3
    obtain ⟨n0, n1⟩ := bounds_u64 w0
    obtain ⟨id, rfl⟩ := Int.eq_ofNat_of_zero_le n0
    exact ⟨id, i, n, tx, rfl, by omega, bounds_i64 w1, bounds_i64 w2, w3⟩
theorem msg_in (h : Tr enc Tryd.prog w base spare held 27 cs) : ∃ (m : G) (a : Option Addr) (c : Nat), cs = (m.cells a c).toList ∧ Lies w a m.all.length m.all ∧ m.Was := by
  have hl := (Tr.struct Tryd.underlying27 h).1.trans c_msg
  have h0 := Tr.field Tryd.underlying27 h 0 _ rfl rfl rfl c_u8
  have h1 := Tr.field Tryd.underlying27 h 1 _ rfl rfl rfl c_str
  have h2 := Tr.field Tryd.underlying27 h 2 _ rfl rfl rfl c_str
  have h3 := Tr.field Tryd.underlying27 h 3 _ rfl rfl rfl c_str
  have h4 := Tr.field Tryd.underlying27 h 4 _ rfl rfl rfl c_u64
  have h5 := Tr.field Tryd.underlying27 h 5 _ rfl rfl rfl c_marks
  have h6 := Tr.field Tryd.underlying27 h 6 _ rfl rfl rfl c_part
  match cs, hl with
  | [x0, x1, x2, x3, x4, x5, x6, x7, x8, x9], _ =>
    obtain ⟨k, e0, w0⟩ := Tr.int Tryd.underlying5 h0
    obtain ⟨src, e1, w1⟩ := Tr.str Tryd.underlying9 h1
    obtain ⟨dst, e2, w2⟩ := Tr.str Tryd.underlying9 h2
    obtain ⟨fr, e3, w3⟩ := Tr.str Tryd.underlying9 h3
    obtain ⟨sq, e4, w4⟩ := Tr.int Tryd.underlying22 h4
    obtain ⟨a, c, L, e5, lies, wL, wl⟩ := marks_in h5
    obtain ⟨id, i, n, tx, e6, wid, wi, wn, wtx⟩ := part_in h6
    obtain rfl : x0 = _ := List.head_eq_of_cons_eq e0
    obtain rfl : x1 = _ := List.head_eq_of_cons_eq e1
    obtain rfl : x2 = _ := List.head_eq_of_cons_eq e2
    obtain rfl : x3 = _ := List.head_eq_of_cons_eq e3
    obtain rfl : x4 = _ := List.head_eq_of_cons_eq e4
    obtain rfl : x5 = _ := List.head_eq_of_cons_eq e5
    have e6' : [x6, x7, x8, x9] = _ := e6
    simp only [List.cons.injEq, and_true] at e6'
    obtain ⟨rfl, rfl, rfl, rfl⟩ := e6'
    obtain ⟨n0, n1⟩ := bounds_u8 w0
    obtain ⟨k, rfl⟩ := Int.eq_ofNat_of_zero_le n0
    obtain ⟨n2, n3⟩ := bounds_u64 w4
    obtain ⟨sq, rfl⟩ := Int.eq_ofNat_of_zero_le n2
    exact ⟨⟨k, src, dst, fr, sq, L, id, i, n, tx⟩, a, c, rfl, lies, ⟨by show k ≤ _; omega, w1, w2, w3, by show sq ≤ _; omega, wL, wl, wid, wi, wn, wtx⟩⟩
end
set_option maxRecDepth 100000 in
/-- A message by value, opened: the frame's word. -/
theorem open_msg {H : Type} {enc : TypeId × Value → H} {w : World} {base b0 : Nat} {spare : Nat → Bool} {held : Bool} {r : Reach} {v : Value} {d : DataW H} {ps : List MemPlace} {ts : List TypeId} {ds : List (DataW H)} {j : Nat}
    (hz : (DataW.weightsEach Tryd.prog ts ds).all (· ≤ reachBytes) = true) (ht : ts[j]? = some 27) (hd : ds[j]? = some d) (hv : Value.okWide Tryd.prog w r b0 27 v)
    (h : DataW.Trod enc Tryd.prog w base spare held 27 v d ps) : ∃ (m : G) (a : Option Addr) (c : Nat), v = .agg (m.cells a c) ∧ Lies w a m.all.length m.all ∧ m.Was := by
  obtain ⟨cs, rfl, hT⟩ := open_struct hz ht hd Tryd.underlying27 hv h
  obtain ⟨m, a, c, e, hl, hw⟩ := msg_in hT
  refine ⟨m, a, c, ?_, hl, hw⟩
  have : cs = m.cells a c := Array.ext' e
  rw [this]

theorem light {m : G} (h : heavyB m = false) : m.all.length ≤ 1000 ∧ m.src.length + m.dst.length + m.fr.length + m.tx.length + sumH m.all ≤ 65536 := by
  unfold heavyB at h
  rw [Bool.or_eq_false_iff, decide_eq_false_iff_not, decide_eq_false_iff_not] at h
  omega
theorem G.Was.mod {m : G} (h : m.Was) (hv : heavyB m = false) : m.Mod := by
  obtain ⟨h1, h2⟩ := light hv
  have := h.kind
  refine ⟨⟨by omega, by omega, by omega, by omega, h.seq, fun k hk => ⟨(h.all k hk).1, Nat.le_trans (h.all k hk).2 (by omega)⟩, by omega, h.id, h.i, h.n, by omega⟩, by omega, by omega⟩
/-- A message's cells, opened. -/
theorem heavy_is {m : G} {a : Option Addr} {c : Nat} (r : Bool) (h : heavyB m = r) (hm : m.Was) (W : World) (hL : Lies W a m.all.length m.all) :
    Calls Tryd.prog 8 #[.agg (m.cells a c)] W fun e w' => e = .returned (.bool r) ∧ Below W.heap.size W w' := by
  have h1 := hm.src
  have h2 := hm.dst
  have h3 := hm.fr
  have h4 := hm.tx
  have q := heavy_any m.kind m.src m.dst m.fr m.seq m.all m.id m.i m.n m.tx a c W hL (by omega) (fun k hk => Nat.le_trans (hm.all k hk).2 (by omega))
  rw [← h]; exact q
/-- A message of its own, far away. -/
def Fresh (W W' : World) (m : G) (e : Ending) : Prop := ∃ a c, e = .returned (.agg #[.int .u8 (m.kind : Int), .string ⟨m.src.toArray⟩, .string ⟨m.dst.toArray⟩, .string ⟨m.fr.toArray⟩, .int .u64 (m.seq : Int), .slice a m.all.length c, .int .u64 (m.id : Int), .int .i64 m.i, .int .i64 m.n, .string ⟨m.tx.toArray⟩]) ∧ Lies W' a m.all.length m.all ∧ (∀ q, a = some q → W.heap.size ≤ q.block) ∧ Below W.heap.size W W'
theorem copied_is {m : G} {a : Option Addr} {c : Nat} (hm : m.Mod) (W : World) (hL : Lies W a m.all.length m.all) :
    Calls Tryd.prog 12 #[.agg (m.cells a c)] W (fun e w' => Fresh W w' m e) := by
  have := hm.len
  exact copied_any m.kind m.src m.dst m.fr m.seq m.all m.id m.i m.n m.tx a c W hL (by omega)
theorem may_eq {m : G} {a : Option Addr} {c : Nat} (r : Bool) (h : mayM m = r) (hm : m.Mod) (W : World) (hL : Lies W a m.all.length m.all) :
    Calls Tryd.prog 14 #[.agg (m.cells a c)] W fun e w' => e = .returned (.bool r) ∧ Below W.heap.size W w' := by
  have q := may_any m.kind m.src m.dst m.fr m.seq m.all m.id m.i m.n m.tx a c W hm hL
  rw [← h]; exact q

/-- Cells of a block, set one by one. -/
def setAll (w : World) (b : Nat) : Nat → List Value → World
  | _, [] => w
  | k, v :: l => setAll (w.setCell ⟨b, k, none⟩ v) b (k + 1) l
theorem setAll_heap (b : Nat) (T : TypeId) : ∀ (l : List Value) (k : Nat) (w : World) (A B : List Value), A.length = k → B.length = l.length → w.heap[b]? = some (.cells (A ++ B).toArray T (0, 0)) →
    (setAll w b k l).heap[b]? = some (.cells (A ++ l).toArray T (0, 0))
  | [], _, _, _, B, _, hB, h => by
    obtain rfl : B = [] := List.length_eq_zero_iff.1 hB
    exact h
  | _ :: _, _, _, _, [], _, hB, _ => by simp at hB
  | v :: l, k, w, A, x :: B, hA, hB, h => by
    have h2 := Joins.block_setCell (i := k) h v
    have e : (A ++ x :: B).toArray.setIfInBounds k v = ((A ++ [v]) ++ B).toArray := by
      subst hA
      simp
    rw [e] at h2
    have := setAll_heap b T l (k + 1) (w.setCell ⟨b, k, none⟩ v) (A ++ [v]) B (by simp [hA]) (by simpa using hB) h2
    simpa [setAll] using this
theorem setAll_mid (b : Nat) (T : TypeId) : ∀ (l : List Value) (k : Nat) (w : World) (A B C : List Value), A.length = k → B.length = l.length → w.heap[b]? = some (.cells (A ++ B ++ C).toArray T (0, 0)) →
    (setAll w b k l).heap[b]? = some (.cells (A ++ l ++ C).toArray T (0, 0))
  | [], _, _, _, B, _, _, hB, h => by
    obtain rfl : B = [] := List.length_eq_zero_iff.1 hB
    exact h
  | _ :: _, _, _, _, [], _, _, hB, _ => by simp at hB
  | v :: l, k, w, A, x :: B, C, hA, hB, h => by
    have h2 := Joins.block_setCell (i := k) h v
    have e : (A ++ x :: B ++ C).toArray.setIfInBounds k v = ((A ++ [v]) ++ B ++ C).toArray := by
      subst hA
      simp
    rw [e] at h2
    have := setAll_mid b T l (k + 1) (w.setCell ⟨b, k, none⟩ v) (A ++ [v]) B C (by simp [hA]) (by simpa using hB) h2
    simpa [setAll] using this
theorem setAll_below (b n : Nat) (hn : n ≤ b) : ∀ (l : List Value) (k : Nat) (w0 w : World), Below n w0 w → Below n w0 (setAll w b k l)
  | [], _, _, _, h => h
  | v :: l, k, w0, _, h => setAll_below b n hn l (k + 1) w0 _ (h.setCell hn v)
end Msg
end Go.Proofs.YtcfimfoccbaepaaDoor
