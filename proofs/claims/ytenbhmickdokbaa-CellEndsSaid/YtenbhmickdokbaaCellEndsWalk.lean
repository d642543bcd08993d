/- The walk of CellEnds: it answers true. -/
import Derived.Test.YtenbhmickdokbaaCellAlive
import Derived.Deep.DeepCutAuto
import Derived.Laws.MakeOwn
import Derived.Laws.OwnMore
import Derived.Laws.IdiomStrings
namespace Go.Proofs.Ytenbhmickdokbaa.CellEnds
open Go.RowKit Go.Proofs.Ytenbhmickdokbaa.Cell

theorem may_x {s : Int} {g : Bool} (h0 : 0 ≤ s) (h1 : s < 281474976710656) : may (s + 1) (if g then ⟨#[]⟩ else ⟨#[120]⟩) g = true := by
  unfold may
  rw [if_neg (by omega), decide_eq_true (show s + 1 ≤ 281474976710656 by omega)]
  cases g
  · rw [if_neg (by decide)]; rfl
  · rw [if_pos rfl]; simp [Lib.toList_data]; decide
theorem may_c {s : Int} (h0 : 0 < s) : may s ⟨#[]⟩ false = decide (s ≤ 281474976710656) := by
  unfold may
  rw [if_neg (by omega)]
  simp [Lib.toList_data]
  intro h; decide
theorem may_t {t : ByteArray} : may 1 t false = decide ((t.size : Int) ≤ 4096) := by
  unfold may
  rw [if_neg (by decide), decide_eq_true (show (1 : Int) ≤ 281474976710656 by decide)]
  simp
theorem wrote_x {s : Int} {g : Bool} (h : s < 281474976710656) : wrote s ⟨#[120]⟩ g = ((s + 1, (if g then ⟨#[]⟩ else ⟨#[120]⟩), g), 0) := by
  unfold wrote; rw [if_neg (by decide), if_neg (by omega)]
theorem wrote_no {s : Int} {g : Bool} (h : 281474976710656 ≤ s) : wrote s ⟨#[120]⟩ g = ((0, ⟨#[]⟩, false), 9) := by
  unfold wrote; rw [if_neg (by decide), if_pos h]
theorem wrote_t {t : ByteArray} {g : Bool} (h : (t.size : Int) ≤ 4096) : wrote 0 t g = ((1, (if g then ⟨#[]⟩ else t), g), 0) := by
  unfold wrote; rw [if_neg (by omega), if_neg (by decide)]; rfl
theorem wrote_long {t : ByteArray} {g : Bool} (h : 4096 < (t.size : Int)) : wrote 0 t g = ((0, ⟨#[]⟩, false), 4) := by
  unfold wrote; rw [if_pos h]

theorem info_u8 : (Try.prog.info? 5).map (fun i => (i.zero, i.size, i.bytes)) = some (some (.int .u8 0), 1, 1) := by kernel_rfl
theorem make_bytes (n : Nat) (h : n ≤ 65536) (w : World) : (Instr.makeSlice 39 (.int .i64 (n : Int)) (.int .i64 (n : Int))).run Try.prog w = .ok (.slice (some ⟨w.heap.size, 0, none⟩) n n) (w.alloc (.cells (madeCells #[.int .u8 0] n) 5)) := by
  obtain ⟨i0, hi, hz0, hz1, hz2⟩ := info_parts info_u8
  have hr := run_make (P := Try.prog) w 39 5 i0 (.int .u8 0) Try.underlying39 hi hz0 .i64 .i64 (n : Int) (n : Int) (by omega) (by omega) (by rw [hz2]; omega) (by omega)
  rw [hr, Int.toNat_natCast, hz1, Nat.mul_one]
  rfl
theorem text_of (n : Nat) (W : World) : (convert 39 9 (.slice (some ⟨W.heap.size, 0, none⟩) n n)).run Try.prog (W.alloc (.cells (madeCells #[.int .u8 0] n) 5)) = .ok (.string ⟨(List.replicate n (0 : UInt8)).toArray⟩) (W.alloc (.cells (madeCells #[.int .u8 0] n) 5)) := by
  have h := run_convert_bytes_back (P := Try.prog) (W.alloc (.cells (madeCells #[.int .u8 0] n) 5)) 39 9 5 ⟨W.heap.size, 0, none⟩ n (List.replicate n 0) Try.underlying39 Try.underlying5 Try.underlying9 (fun j hj => by
    have hj' : j < n := by simpa using hj
    have hm : (madeCells #[.int .u8 0] n)[j]? = some (.int .u8 0) := by
      rw [← Array.getElem?_toList, toList_madeCells_one, List.getElem?_replicate, if_pos hj']
    rw [Addr.add_lit]
    simp [World.cell?_alloc_at, hm, List.getElem_replicate])
  rw [List.length_replicate] at h
  exact h

set_option maxRecDepth 100000 in
set_option maxHeartbeats 8000000 in
theorem walk (a0 : Int) (a1 : Bool) (w : World) (w0 : (Lit.int .i8 a0).wf = true) :
    Calls Try.prog 5 #[.int .i8 a0, .bool a1] w fun e w' => e = .returned (.bool true) ∧ Below w.heap.size w w' := by
  obtain ⟨l0, u0⟩ : -128 ≤ a0 ∧ a0 ≤ 127 := bounds_i8 w0
  obtain ⟨s, hs⟩ : ∃ s, s = 281474976710656 + a0 := ⟨_, rfl⟩
  obtain ⟨n, hn⟩ : ∃ n : Nat, (n : Int) = 4096 + a0 := ⟨(4096 + a0).toNat, by omega⟩
  have hc1 : IntKind.i64.wrap a0 = a0 := by rw [IntKind.wrap_i64]; omega
  have hc2 : IntKind.i64.wrap (281474976710656 + a0) = s := by rw [IntKind.wrap_i64]; omega
  have hc3 : IntKind.u64.wrap s = s := by rw [IntKind.wrap_u64]; omega
  have hc4 : IntKind.i64.wrap (4096 + a0) = (n : Int) := by rw [IntKind.wrap_i64]; omega
  have hmk := fun W => make_bytes n (by omega) W
  have hcv : ∀ (W : World) (o : Obj), (convert 39 9 (.slice (some ⟨W.heap.size + 1, 0, none⟩) n n)).run Try.prog ((W.alloc o).alloc (.cells (madeCells #[.int .u8 0] n) 5)) = .ok (.string ⟨(List.replicate n (0 : UInt8)).toArray⟩) ((W.alloc o).alloc (.cells (madeCells #[.int .u8 0] n) 5)) := fun W o => by
    have h := text_of n (W.alloc o)
    rw [show (W.alloc o).heap.size = W.heap.size + 1 by simp] at h
    exact h
  obtain ⟨t, ht⟩ : ∃ t : ByteArray, t = ⟨(List.replicate n (0 : UInt8)).toArray⟩ := ⟨_, rfl⟩
  have htn : (t.size : Int) = 4096 + a0 := by rw [ht, Str.size_mk, List.length_replicate]; exact hn
  rw [← ht] at hcv
  clear ht
  generalize madeCells #[.int .u8 0] n = mc at hmk hcv
  have h0 := Below.refl w.heap.size w
  have hd1 : decide (a0 < 0) = decide (a0 ≤ -1) := by congr 1; exact propext ⟨fun h => by omega, fun h => by omega⟩
  clear hd1
  by_cases c1 : a0 < 0
  · have hlt : decide (a0 < 0) = true := decide_eq_true (by omega)
    have hle : decide (a0 ≤ 0) = true := decide_eq_true (by omega)
    obtain ⟨tx, htx⟩ : ∃ tx : ByteArray, tx = if a1 then ⟨#[]⟩ else ⟨#[120]⟩ := ⟨_, rfl⟩
    have W1 := Lib.hid (write_to ((wrote_x (s := s) (g := a1) (by omega)).trans (by rw [← htx])) (by omega))
    have Ma := Lib.hid (may_to (show may (s + 1) tx a1 = true by rw [htx]; exact may_x (by omega) (by omega)))
    obtain ⟨ty, hty⟩ : ∃ ty : ByteArray, ty = if a1 then ⟨#[]⟩ else t := ⟨_, rfl⟩
    have W2 := Lib.hid (write_to ((wrote_t (t := t) (g := a1) (by omega)).trans (by rw [← hty])) (by decide))
    clear hty
    have Mc := Lib.hid (may_to (show may s ⟨#[]⟩ false = true from (may_c (by omega)).trans (decide_eq_true (by omega))))
    have Mt := Lib.hid (may_to (show may 1 t false = true from may_t.trans (decide_eq_true (by omega))))
    clear htx
    generalize hz : s + 1 = z at W1 Ma
    have hz0 : decide (z = 0) = false := decide_eq_false (by omega)
    clear hs hn htn c1
    go_enter Try.func5, Try.ntmps5
    go_wp2_with fail
    refine (W1.out _ _ _).mono ?_
    rintro e w1 ⟨rfl, k1⟩
    have I1 := (In.new w s ⟨#[]⟩ false _ rfl).below k1
    have h1 := bstep (balloc h0 _) k1
    obtain ⟨_, _, _⟩ := id I1
    have q1 := I1.lt
    clear k1
    go_wp2_with fail
    refine (W2.out _ _ _).mono ?_
    rintro e w2 ⟨rfl, k2⟩
    have I2 := ((In.new w1 z tx a1 _ rfl).alloc (.cells mc 5)).below k2
    have h2 := bstep (balloc (balloc h1 _) _) k2
    have I1 := ((I1.alloc (.cells #[.int .u64 (z), .string tx, .bool a1] 24)).alloc (.cells mc 5)).below k2
    have I3 := In.new w2 1 ty a1 _ rfl
    have I1 := I1.alloc (.cells #[.int .u64 (1), .string ty, .bool a1] 24)
    have I2 := I2.alloc (.cells #[.int .u64 (1), .string ty, .bool a1] 24)
    have h2 := balloc h2 (.cells #[.int .u64 (1), .string ty, .bool a1] 24)
    obtain ⟨_, _, _⟩ := id I1
    have q1 := I1.lt
    obtain ⟨_, _, _⟩ := id I2
    have q2 := I2.lt
    obtain ⟨_, _, _⟩ := id I3
    have q3 := I3.lt
    clear k2
    go_wp2_with fail
    refine (Mc.out _).mono ?_
    rintro e w3 ⟨rfl, k3⟩
    have h3 := bstep h2 k3
    have I1 := I1.below k3
    obtain ⟨_, _, _⟩ := id I1
    have q1 := I1.lt
    have I2 := I2.below k3
    obtain ⟨_, _, _⟩ := id I2
    have q2 := I2.lt
    have I3 := I3.below k3
    obtain ⟨_, _, _⟩ := id I3
    have q3 := I3.lt
    clear k3
    go_wp2_with fail
    refine (Mt.out _).mono ?_
    rintro e w4 ⟨rfl, k4⟩
    have h4 := bstep h3 k4
    have I1 := I1.below k4
    obtain ⟨_, _, _⟩ := id I1
    have q1 := I1.lt
    have I2 := I2.below k4
    obtain ⟨_, _, _⟩ := id I2
    have q2 := I2.lt
    have I3 := I3.below k4
    obtain ⟨_, _, _⟩ := id I3
    have q3 := I3.lt
    clear k4
    go_wp2_with fail
    refine (Ma.out _).mono ?_
    rintro e w5 ⟨rfl, k5⟩
    have h5 := bstep h4 k5
    have I1 := I1.below k5
    obtain ⟨_, _, _⟩ := id I1
    have q1 := I1.lt
    have I2 := I2.below k5
    obtain ⟨_, _, _⟩ := id I2
    have q2 := I2.lt
    have I3 := I3.below k5
    obtain ⟨_, _, _⟩ := id I3
    have q3 := I3.lt
    clear k5
    go_wp2_with fail
    refine (alive_any _).mono ?_
    rintro e w6 ⟨rfl, k6⟩
    have h6 := bstep h5 k6
    clear k6
    go_wp2
    go_ret
    exact ⟨rfl, h6⟩
  by_cases c2 : a0 = 0
  · have hlt : decide (a0 < 0) = false := decide_eq_false (by omega)
    have hle : decide (a0 ≤ 0) = true := decide_eq_true (by omega)
    have W1 := Lib.hid (write_to (wrote_no (s := s) (g := a1) (by omega)) (by omega))
    obtain ⟨ty, hty⟩ : ∃ ty : ByteArray, ty = if a1 then ⟨#[]⟩ else t := ⟨_, rfl⟩
    have W2 := Lib.hid (write_to ((wrote_t (t := t) (g := a1) (by omega)).trans (by rw [← hty])) (by decide))
    clear hty
    have Mc := Lib.hid (may_to (show may s ⟨#[]⟩ false = true from (may_c (by omega)).trans (decide_eq_true (by omega))))
    have Mt := Lib.hid (may_to (show may 1 t false = true from may_t.trans (decide_eq_true (by omega))))
    clear hs hn htn c1 c2
    go_enter Try.func5, Try.ntmps5
    go_wp2_with fail
    refine (W1.out _ _ _).mono ?_
    rintro e w1 ⟨rfl, k1⟩
    have I1 := (In.new w s ⟨#[]⟩ false _ rfl).below k1
    have h1 := bstep (balloc h0 _) k1
    obtain ⟨_, _, _⟩ := id I1
    have q1 := I1.lt
    clear k1
    go_wp2_with fail
    refine (W2.out _ _ _).mono ?_
    rintro e w2 ⟨rfl, k2⟩
    have I2 := ((In.new w1 0 ⟨#[]⟩ false _ rfl).alloc (.cells mc 5)).below k2
    have h2 := bstep (balloc (balloc h1 _) _) k2
    have I1 := ((I1.alloc (.cells #[.int .u64 (0), .string ⟨#[]⟩, .bool false] 24)).alloc (.cells mc 5)).below k2
    have I3 := In.new w2 1 ty a1 _ rfl
    have I1 := I1.alloc (.cells #[.int .u64 (1), .string ty, .bool a1] 24)
    have I2 := I2.alloc (.cells #[.int .u64 (1), .string ty, .bool a1] 24)
    have h2 := balloc h2 (.cells #[.int .u64 (1), .string ty, .bool a1] 24)
    obtain ⟨_, _, _⟩ := id I1
    have q1 := I1.lt
    obtain ⟨_, _, _⟩ := id I2
    have q2 := I2.lt
    obtain ⟨_, _, _⟩ := id I3
    have q3 := I3.lt
    clear k2
    go_wp2_with fail
    refine (Mc.out _).mono ?_
    rintro e w3 ⟨rfl, k3⟩
    have h3 := bstep h2 k3
    have I1 := I1.below k3
    obtain ⟨_, _, _⟩ := id I1
    have q1 := I1.lt
    have I2 := I2.below k3
    obtain ⟨_, _, _⟩ := id I2
    have q2 := I2.lt
    have I3 := I3.below k3
    obtain ⟨_, _, _⟩ := id I3
    have q3 := I3.lt
    clear k3
    go_wp2_with fail
    refine (Mt.out _).mono ?_
    rintro e w4 ⟨rfl, k4⟩
    have h4 := bstep h3 k4
    have I1 := I1.below k4
    obtain ⟨_, _, _⟩ := id I1
    have q1 := I1.lt
    have I2 := I2.below k4
    obtain ⟨_, _, _⟩ := id I2
    have q2 := I2.lt
    have I3 := I3.below k4
    obtain ⟨_, _, _⟩ := id I3
    have q3 := I3.lt
    clear k4
    go_wp2_with fail
    refine (alive_any _).mono ?_
    rintro e w6 ⟨rfl, k6⟩
    have h6 := bstep h4 k6
    clear k6
    go_wp2
    go_ret
    exact ⟨rfl, h6⟩
  · have hlt : decide (a0 < 0) = false := decide_eq_false (by omega)
    have hle : decide (a0 ≤ 0) = false := decide_eq_false (by omega)
    have W1 := Lib.hid (write_to (wrote_no (s := s) (g := a1) (by omega)) (by omega))
    have W2 := Lib.hid (write_to (wrote_long (t := t) (g := a1) (by omega)) (by decide))
    have Mc := Lib.hid (may_to (show may s ⟨#[]⟩ false = false from (may_c (by omega)).trans (decide_eq_false (by omega))))
    have Mt := Lib.hid (may_to (show may 1 t false = false from may_t.trans (decide_eq_false (by omega))))
    clear hs hn htn c1 c2
    go_enter Try.func5, Try.ntmps5
    go_wp2_with fail
    refine (W1.out _ _ _).mono ?_
    rintro e w1 ⟨rfl, k1⟩
    have I1 := (In.new w s ⟨#[]⟩ false _ rfl).below k1
    have h1 := bstep (balloc h0 _) k1
    obtain ⟨_, _, _⟩ := id I1
    have q1 := I1.lt
    clear k1
    go_wp2_with fail
    refine (W2.out _ _ _).mono ?_
    rintro e w2 ⟨rfl, k2⟩
    have I2 := ((In.new w1 0 ⟨#[]⟩ false _ rfl).alloc (.cells mc 5)).below k2
    have h2 := bstep (balloc (balloc h1 _) _) k2
    have I1 := ((I1.alloc (.cells #[.int .u64 (0), .string ⟨#[]⟩, .bool false] 24)).alloc (.cells mc 5)).below k2
    have I3 := In.new w2 0 ⟨#[]⟩ false _ rfl
    have I1 := I1.alloc (.cells #[.int .u64 (0), .string ⟨#[]⟩, .bool false] 24)
    have I2 := I2.alloc (.cells #[.int .u64 (0), .string ⟨#[]⟩, .bool false] 24)
    have h2 := balloc h2 (.cells #[.int .u64 (0), .string ⟨#[]⟩, .bool false] 24)
    obtain ⟨_, _, _⟩ := id I1
    have q1 := I1.lt
    obtain ⟨_, _, _⟩ := id I2
    have q2 := I2.lt
    obtain ⟨_, _, _⟩ := id I3
    have q3 := I3.lt
    clear k2
    go_wp2_with fail
    refine (Mc.out _).mono ?_
    rintro e w3 ⟨rfl, k3⟩
    have h3 := bstep h2 k3
    have I1 := I1.below k3
    obtain ⟨_, _, _⟩ := id I1
    have q1 := I1.lt
    have I2 := I2.below k3
    obtain ⟨_, _, _⟩ := id I2
    have q2 := I2.lt
    have I3 := I3.below k3
    obtain ⟨_, _, _⟩ := id I3
    have q3 := I3.lt
    clear k3
    go_wp2_with fail
    refine (Mt.out _).mono ?_
    rintro e w4 ⟨rfl, k4⟩
    have h4 := bstep h3 k4
    have I1 := I1.below k4
    obtain ⟨_, _, _⟩ := id I1
    have q1 := I1.lt
    have I2 := I2.below k4
    obtain ⟨_, _, _⟩ := id I2
    have q2 := I2.lt
    have I3 := I3.below k4
    obtain ⟨_, _, _⟩ := id I3
    have q3 := I3.lt
    clear k4
    go_wp2_with fail
    refine (alive_any _).mono ?_
    rintro e w6 ⟨rfl, k6⟩
    have h6 := bstep h4 k6
    clear k6
    go_wp2
    go_ret
    exact ⟨rfl, h6⟩

end Go.Proofs.Ytenbhmickdokbaa.CellEnds
