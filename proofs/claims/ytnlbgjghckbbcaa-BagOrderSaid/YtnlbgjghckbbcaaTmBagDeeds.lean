/- BagModel, BagOrder: the start; a deed that came in; the law's model over replicas in memory. -/
import Derived.Test.YtnlbgjghckbbcaaTmBagDoes
import Derived.Test.YtnlbgjghckbbcaaTmSim
import Derived.Test.YtnlbgjghckbbcaaTmBagAlive
import Derived.Test.YtnlbgjghckbbcaaTmBase
namespace Go.Proofs.Ytnlbgjghckbbcaa
namespace BagLaw
open Go.RowKit Go.Proofs.Ytnlbgjghckbbcaa.Mark Go.Proofs.Ytnlbgjghckbbcaa.Dots Go.Proofs.Ytnlbgjghckbbcaa.Bag Go.Proofs.Ytnlbgjghckbbcaa.BagEv
theorem own_lies {α : Type} {E : Row.Enc α} {te : TypeId} {w : World} {B : Nat} {a : Option Addr} {n c : Nat} {L : List α} (h : Row.Own E te w B (.slice a n c) L) : Row.Lies E w a n L := by
  obtain ⟨a', c', e, -, -, hl, -⟩ := Row.Own.lies h
  simp only [Value.slice.injEq] at e
  obtain ⟨rfl, rfl, rfl⟩ := e
  exact hl
theorem info_rep : (Try.prog.info? 56).map (fun i => (i.zero, i.size, i.bytes)) = some (some (.agg #[.slice none 0 0, .slice none 0 0, .slice none 0 0]), 3, 72) := by kernel_rfl
def repZ (n : Nat) : Array Value := madeCells #[.slice none 0 0, .slice none 0 0, .slice none 0 0] (n * 3)
theorem make_reps (n : Nat) (h : n ≤ 4) (w : World) : (Instr.makeSlice 48 (.int .i64 (n : Int)) (.int .i64 (n : Int))).run Try.prog w = .ok (.slice (some ⟨w.heap.size, 0, none⟩) n n) (w.alloc (.cells (repZ n) 56)) := by
  obtain ⟨i0, hi, hz0, hz1, hz2⟩ := Row.info_of info_rep
  have hr := run_make (P := Try.prog) w 48 56 i0 (.agg #[.slice none 0 0, .slice none 0 0, .slice none 0 0]) Try.underlying48 hi hz0 .i64 .i64 (n : Int) (n : Int) (by omega) (by omega) (by rw [hz2]; omega) (by omega)
  rw [hr, Int.toNat_natCast, hz1]
  rfl
theorem repZ_list (n : Nat) : (repZ n).toList = List.replicate (n * 3) (.slice none 0 0) := by
  apply List.ext_getElem?
  intro j
  have h3 : ∀ k, k < 3 → (#[Value.slice none 0 0, .slice none 0 0, .slice none 0 0] : Array Value)[k]? = some (.slice none 0 0) := fun k hk => by
    have h : k = 0 ∨ k = 1 ∨ k = 2 := by omega
    rcases h with rfl | rfl | rfl <;> rfl
  have hm := h3 (j % 3) (Nat.mod_lt _ (by decide))
  by_cases hj : j < n * 3
  · rw [List.getElem?_replicate, if_pos hj]
    unfold repZ madeCells
    simp [hj]
    simp at hm
    rw [hm]; rfl
  · simp [repZ, madeCells, hj]
def rep0 : Rp := ⟨none, 0, [], none, 0, [], none, 0, []⟩
theorem play_start (N : Nat) (hN : N ≤ 4) (w : World) : Play none (w.alloc (.cells (repZ N) 56)) w.heap.size w.heap.size (.slice none 0 0) (List.replicate N rep0) [] := by
  have hrow : OwnR (w.alloc (.cells (repZ N) 56)) w.heap.size (.slice (some ⟨w.heap.size, 0, none⟩) N N) (List.replicate N rep0) := by
    have h5 : N = 0 ∨ N = 1 ∨ N = 2 ∨ N = 3 ∨ N = 4 := by omega
    have key : ∀ n, repZ n = repZ N → OwnR (w.alloc (.cells (repZ N) 56)) w.heap.size (.slice (some ⟨w.heap.size, 0, none⟩) N N) (List.replicate N rep0) ∨ n ≠ N := fun n _ => by
      by_cases e : n = N
      · refine .inl (Row.own_of (cur := repZ N) (Nat.le_refl _) (by unfold World.alloc; simp) (by rw [List.length_replicate]) (by rw [List.length_replicate]; exact Nat.le_refl _) (by have : 10 ≤ maxLen := (by decide); omega) ?_ ?_)
        · rw [← Array.length_toList, repZ_list, List.length_replicate]; rfl
        · rw [repZ_list, List.length_replicate]
          rcases h5 with rfl | rfl | rfl | rfl | rfl <;> rfl
      · exact .inr e
    rcases key N rfl with h | h
    · exact h
    · exact absurd rfl h
  refine ⟨by rw [List.length_replicate]; exact hrow, fun x hx => ?_, fun x hx => ?_, fun j hj _ => ?_, fun i j hi hj _ => ?_, Row.Own.nil _ _, fun e he => (by cases he), fun e he => (by cases he)⟩
  · rw [List.eq_of_mem_replicate hx]; exact Had.nil _ _
  · rw [List.eq_of_mem_replicate hx]; exact Mark.Own.nil _ _
  · rw [List.getElem_replicate]; exact Row.Own.nil _ _
  · rw [List.getElem_replicate]; exact .inl rfl
theorem wf_u8 {z : Int} (h : (Lit.int .u8 z).wf = true) : 0 ≤ z ∧ z ≤ 255 := by
  simp only [Lit.wf, Bool.and_eq_true, decide_eq_true_eq] at h
  obtain ⟨h1, h2⟩ := h
  exact ⟨h1, h2⟩
/-- A deed's cells. -/
theorem deed_at {w : World} {a : Option Addr} {n : Nat} (h : Recs w [.int .u8, .int .u8, .int .u8, .int .u8] a n) (hn : 0 < n) : ∃ b off, a = some ⟨b, off, none⟩ ∧ b < w.heap.size ∧ ∀ i, i < n → ∃ d k t o : Int, (0 ≤ d ∧ d ≤ 255) ∧ (0 ≤ k ∧ k ≤ 255) ∧ (0 ≤ t ∧ t ≤ 255) ∧ (0 ≤ o ∧ o ≤ 255) ∧
    w.cell? ⟨b, off + i * 4, none⟩ = some (.int .u8 d) ∧ w.cell? ⟨b, off + i * 4 + 1, none⟩ = some (.int .u8 k) ∧ w.cell? ⟨b, off + i * 4 + 2, none⟩ = some (.int .u8 t) ∧ w.cell? ⟨b, off + i * 4 + 3, none⟩ = some (.int .u8 o) := by
  obtain ⟨b, off, e, hb, hc⟩ := h.2 hn
  refine ⟨b, off, e, hb, fun i hi => ?_⟩
  obtain ⟨_, c0, d, rfl, hd⟩ := hc i hi 0 _ rfl
  obtain ⟨_, c1, k, rfl, hk⟩ := hc i hi 1 _ rfl
  obtain ⟨_, c2, t, rfl, ht⟩ := hc i hi 2 _ rfl
  obtain ⟨_, c3, o, rfl, ho⟩ := hc i hi 3 _ rfl
  exact ⟨d, k, t, o, wf_u8 hd, wf_u8 hk, wf_u8 ht, wf_u8 ho, c0, c1, c2, c3⟩
/-- The model, of a replica in memory. -/
theorem model_is {N B rb : Nat} {Ls : List Rp} {Es : List Er} {es : List Ev} {K : Nat → List Bool} {v : Nat → Nat → Nat} {aa : Option Addr} {ac : Nat} {W : World} (hp : Play none W B rb (.slice aa Es.length ac) Ls Es) (h : Rel N Ls Es es K v) {k : Nat} (hk : k < Ls.length) (he : es.length ≤ 100) (b : UInt8) :
    Calls Try.prog 20 #[.slice aa Es.length ac, .slice Ls[k].ka Es.length Ls[k].kc, .string ⟨#[b]⟩] W fun e w' => e = .returned (.bool (decide ([b] ∈ Ls[k].R.map It.t))) ∧ Below W.heap.size W w' := by
  have hl : Ls[k].K.length = Es.length := by rw [h.evl]; exact (h.sizes hk he).2.2.2.2.2
  have hK := own_lies (hp.knew k hk (by simp))
  rw [hl] at hK
  refine (model_any Es Ls[k].K [b] aa Ls[k].ka Es.length ac Ls[k].kc W (own_lies hp.evs) (fun e hx => own_lies (hp.seen e hx)) hK (fun j hj => ?_) (by rw [h.evl]; exact he)).mono ?_
  · obtain ⟨e, he', -, -, e3⟩ := h.event (List.getElem?_eq_getElem hj)
    rw [e3]
    exact h.inv.past.seen j e he'
  · rintro e w' ⟨z, rfl, hz, k'⟩
    refine ⟨?_, k'⟩
    rw [h.alive hk] at hz
    cases z with
    | true => rw [decide_eq_true (hz.1 rfl)]
    | false => rw [decide_eq_false (fun hh => by have := hz.2 hh; cases this)]
end BagLaw
end Go.Proofs.Ytnlbgjghckbbcaa
