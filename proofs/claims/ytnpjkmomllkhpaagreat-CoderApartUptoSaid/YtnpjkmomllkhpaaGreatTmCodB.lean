/- Merged texts: CoderSeen, CoderSeenI, CoderMayOp. -/
import Derived.Test.YtnpjkmomllkhpaaGreatTmCoderEntry
import Derived.Test.YtnpjkmomllkhpaaGreatTmCodA
import Derived.Test.YtnpjkmomllkhpaaGreatTmCoderOp
namespace Go.Proofs.YtnpjkmomllkhpaaGreat
namespace Coder
open Go.RowKit Go.Proofs.YtnpjkmomllkhpaaGreat.Mark Go.Proofs.YtnpjkmomllkhpaaGreat.Num Go.Proofs.YtnpjkmomllkhpaaGreat.Wire Go.Proofs.YtnpjkmomllkhpaaGreat.Bag Go.Proofs.YtnpjkmomllkhpaaGreat.Dots
theorem seenC_step (s : List M) {l : List C} {k : Nat} (h : k < l.length) : seenC s (l.drop k) = ((decide (l[k].p = []) || !decide (ofL s l[k].p = 0)) && seenC s (l.drop (k + 1))) := by
  rw [List.drop_eq_getElem_cons h]; rfl
set_option maxRecDepth 100000 in
set_option maxHeartbeats 4000000 in
theorem seenC_any (kk : List UInt8) (sa : Option Addr) (sc : Nat) (s : List M) (ca : Option Addr) (cc : Nat) (cs : List C) (ia : Option Addr) (ic : Nat) (js : List RI) (lg : Cl) (w : World) (his : Mark.Lies w sa s.length s) (hic : Row.Lies cE w ca cs.length cs) (hs : s.length ≤ 1048576) (hsm : ∀ m ∈ s, m.p.length ≤ 1048576 ∧ m.n ≤ 18446744073709551615) (hcn : cs.length ≤ 1048576) :
    Calls Tryz.prog 37 #[.agg #[.string ⟨kk.toArray⟩, .slice sa s.length sc, .slice ca cs.length cc, .slice ia js.length ic, .int .u64 (lg.s : Int), .string ⟨lg.t.toArray⟩, .bool lg.g]] w fun e w' => e = .returned (.bool (seenC s cs)) ∧ Below w.heap.size w w' := by
  have X1 := Lib.hid (box_cells w #[.string ⟨kk.toArray⟩, .slice sa s.length sc, .slice ca cs.length cc, .slice ia js.length ic, .int .u64 (lg.s : Int), .string ⟨lg.t.toArray⟩, .bool lg.g] 29 1 (.slice sa s.length sc) rfl)
  have LS := Lib.hid his
  have LC := Lib.hid hic
  have OKS : Hid (Ok s) := Lib.hid (fun m hm => ⟨(hsm m hm).2, by have := (hsm m hm).1; omega⟩)
  clear his hic hsm
  obtain ⟨V, hV⟩ : ∃ V, V = seenC s cs := ⟨_, rfl⟩
  have HV0 : Hid (V = seenC s (cs.drop 0)) := Lib.hid (by rw [hV]; rfl)
  rw [← hV]
  clear hV
  have hb := balloc (Below.refl w.heap.size w) (.cells #[.string ⟨kk.toArray⟩, .slice sa s.length sc, .slice ca cs.length cc, .slice ia js.length ic, .int .u64 (lg.s : Int), .string ⟨lg.t.toArray⟩, .bool lg.g] 29)
  go_enter Tryz.func37, Tryz.ntmps37
  go_wp2_with fail
  go_loopw [8] (fun i wr => ∃ k : Nat, k ≤ cs.length ∧ i = .int .i64 k ∧ Hid (V = seenC s (cs.drop k)) ∧ Hid (wr.cell? ⟨w.heap.size, 1, none⟩ = some (.slice sa s.length sc)) ∧ Below w.heap.size w wr) (fun i _ => cs.length - (intOf i).toNat)
  case atStart => exact ⟨0, by omega, rfl, HV0, X1, hb⟩
  case round =>
    clear hb X1 HV0
    obtain ⟨k, hk, rfl, HV, HX, hb⟩ := hrel
    by_cases hlt : k < cs.length
    · have hst := seenC_step s hlt
      obtain ⟨b, off, rfl, hc⟩ := (LC.out.below hb).2 (by omega)
      have hc0 : wr.cell? ⟨b, off + k * 3, none⟩ = some (.string ⟨(cs[k]).p.toArray⟩) := hc k hlt 0 _ rfl
      have hc1 : wr.cell? ⟨b, off + k * 3 + 1, none⟩ = some (.int .u64 ((cs[k]).a : Int)) := hc k hlt 1 _ rfl
      have hc2 : wr.cell? ⟨b, off + k * 3 + 2, none⟩ = some (.int .u64 ((cs[k]).b : Int)) := hc k hlt 2 _ rfl
      obtain ⟨m, hm⟩ : ∃ m, m = cs[k] := ⟨_, rfl⟩
      rw [← hm] at hst hc0 hc1 hc2
      clear hm hc
      have hx := Dots.keepC HX.out (balloc (Below.refl _ wr) (.cells #[.string ⟨m.p.toArray⟩, .int .u64 (m.a : Int), .int .u64 (m.b : Int)] 56))
      by_cases hp : m.p = []
      · have HV2 : Hid (V = seenC s (cs.drop (k + 1))) := Lib.hid (by rw [HV.out, hst, decide_eq_true hp]; rfl)
        have e0 : (m.p != []) = false := by rw [hp]; rfl
        have e1 : (m.p == []) = true := by rw [hp]; rfl
        clear hst HV hp
        go_wp2
        go_roundw
        case rel => exact ⟨k + 1, by omega, by go_num, HV2, Lib.hid hx, balloc hb _⟩
        case measure => simp [intOf]; omega
      · have e0 : (m.p != []) = true := by rw [bne_iff_ne]; exact hp
        have e1 : (m.p == []) = false := by rw [beq_eq_false_iff_ne]; exact hp
        have HP := Lib.hid hp
        clear hp
        go_wp2_with fail
        refine (Dots.of_any m.p s sa s.length sc _ ((LS.out.below hb).below (balloc (Below.refl _ _) _)) (by omega) OKS.out).mono ?_
        rintro e w1 ⟨rfl, k1⟩
        have hx1 := Dots.keepC hx k1
        have hb1 := bstep (balloc hb _) k1
        by_cases hz : ofL s m.p = 0
        · have HV2 : Hid (V = false) := Lib.hid (by rw [HV.out, hst, decide_eq_false HP.out, decide_eq_true hz]; rfl)
          have z1 : (((ofL s m.p : Nat) : Int) == 0) = true := by rw [beq_iff_eq]; omega
          clear hst HV k1 hz hx hb
          go_wp2
          go_ret
          exact ⟨by rw [HV2.out]; rfl, hb1⟩
        · have HV2 : Hid (V = seenC s (cs.drop (k + 1))) := Lib.hid (by rw [HV.out, hst, decide_eq_false HP.out, decide_eq_false hz]; rfl)
          have z1 : (((ofL s m.p : Nat) : Int) == 0) = false := by rw [beq_eq_false_iff_ne]; omega
          clear hst HV k1 hz hx hb
          go_wp2
          go_roundw
          case rel => exact ⟨k + 1, by omega, by go_num, HV2, Lib.hid hx1, hb1⟩
          case measure => simp [intOf]; omega
    · have e : k = cs.length := by omega
      have HV2 : Hid (V = true) := Lib.hid (by rw [HV.out, e, List.drop_length]; rfl)
      go_wp2
      go_ret
      exact ⟨by rw [HV2.out]; rfl, hb⟩
end Coder
end Go.Proofs.YtnpjkmomllkhpaaGreat

namespace Go.Proofs.YtnpjkmomllkhpaaGreat
namespace Coder
open Go.RowKit Go.Proofs.YtnpjkmomllkhpaaGreat.Mark Go.Proofs.YtnpjkmomllkhpaaGreat.Num Go.Proofs.YtnpjkmomllkhpaaGreat.Wire Go.Proofs.YtnpjkmomllkhpaaGreat.Bag Go.Proofs.YtnpjkmomllkhpaaGreat.Dots
def seenD (s d : List M) : Bool := d.all fun m => hasL s m.p m.n
def seenJ (s : List M) (l : List RI) : Bool := l.all fun x => seenD s x.d
theorem seenJ_is (s : List M) (l : List RI) : seenI s (l.map RI.it) = seenJ s l := by
  unfold seenI seenJ; rw [List.all_map]; rfl
theorem seenD_step (s : List M) {l : List M} {k : Nat} (h : k < l.length) : seenD s (l.drop k) = (hasL s l[k].p l[k].n && seenD s (l.drop (k + 1))) := by
  rw [List.drop_eq_getElem_cons h]; rfl
theorem seenJ_step (s : List M) {l : List RI} {k : Nat} (h : k < l.length) : seenJ s (l.drop k) = (seenD s l[k].d && seenJ s (l.drop (k + 1))) := by
  rw [List.drop_eq_getElem_cons h]; rfl
set_option maxRecDepth 100000 in
set_option maxHeartbeats 4000000 in
theorem seenI_any (kk : List UInt8) (sa : Option Addr) (sc : Nat) (s : List M) (ca : Option Addr) (cc : Nat) (cs : List C) (ia : Option Addr) (ic : Nat) (js : List RI) (lg : Cl) (w : World) (his : Mark.Lies w sa s.length s) (hij : Row.Lies iE w ia js.length js) (hin : ∀ y ∈ js, Inner w y) (hs : s.length ≤ 1048576) (hsm : ∀ m ∈ s, m.p.length ≤ 1048576 ∧ m.n ≤ 18446744073709551615) (hjn : js.length ≤ 1048576) (hjd : ∀ y ∈ js, y.d.length ≤ 1048576) :
    Calls Tryz.prog 40 #[.agg #[.string ⟨kk.toArray⟩, .slice sa s.length sc, .slice ca cs.length cc, .slice ia js.length ic, .int .u64 (lg.s : Int), .string ⟨lg.t.toArray⟩, .bool lg.g]] w fun e w' => e = .returned (.bool (seenJ s js)) ∧ Below w.heap.size w w' := by
  have X1 := Lib.hid (box_cells w #[.string ⟨kk.toArray⟩, .slice sa s.length sc, .slice ca cs.length cc, .slice ia js.length ic, .int .u64 (lg.s : Int), .string ⟨lg.t.toArray⟩, .bool lg.g] 29 1 (.slice sa s.length sc) rfl)
  have LS := Lib.hid his
  have LJ := Lib.hid hij
  have LI := Lib.hid hin
  have LD := Lib.hid hjd
  have OKS : Hid (Ok s) := Lib.hid (fun m hm => ⟨(hsm m hm).2, by have := (hsm m hm).1; omega⟩)
  clear his hij hin hsm hjd
  obtain ⟨V, hV⟩ : ∃ V, V = seenJ s js := ⟨_, rfl⟩
  have HV0 : Hid (V = seenJ s (js.drop 0)) := Lib.hid (by rw [hV]; rfl)
  rw [← hV]
  clear hV
  have hb := balloc (Below.refl w.heap.size w) (.cells #[.string ⟨kk.toArray⟩, .slice sa s.length sc, .slice ca cs.length cc, .slice ia js.length ic, .int .u64 (lg.s : Int), .string ⟨lg.t.toArray⟩, .bool lg.g] 29)
  go_enter Tryz.func40, Tryz.ntmps40
  go_wp2_with fail
  go_loopw [10] (fun i wr => ∃ k : Nat, k ≤ js.length ∧ i = .int .i64 k ∧ Hid (V = seenJ s (js.drop k)) ∧ Hid (wr.cell? ⟨w.heap.size, 1, none⟩ = some (.slice sa s.length sc)) ∧ Below w.heap.size w wr) (fun i _ => js.length - (intOf i).toNat)
  case atStart => exact ⟨0, by omega, rfl, HV0, X1, hb⟩
  case round =>
    clear hb X1 HV0
    obtain ⟨k, hk, rfl, HV, HX, hb⟩ := hrel
    by_cases hlt : k < js.length
    · have hst := Lib.hid (seenJ_step s hlt)
      obtain ⟨b, off, rfl, hc⟩ := (LJ.out.below hb).2 (by omega)
      have hc0 : wr.cell? ⟨b, off + k * 2, none⟩ = some (.string ⟨(js[k]).t.toArray⟩) := hc k hlt 0 _ rfl
      have hc1 : wr.cell? ⟨b, off + k * 2 + 1, none⟩ = some (.slice (js[k]).a (js[k]).d.length (js[k]).c) := hc k hlt 1 _ rfl
      have hin := (LI.out _ (List.getElem_mem hlt)).below hb
      have hdn := LD.out _ (List.getElem_mem hlt)
      obtain ⟨m, hm⟩ : ∃ m, m = js[k] := ⟨_, rfl⟩
      rw [← hm] at hst hc0 hc1 hin hdn
      obtain ⟨mt, ma, mc, md⟩ := m
      dsimp only at hst hc0 hc1 hdn
      have LD1 : Hid (Row.Lies dE wr ma md.length md) := Lib.hid hin
      clear hm hc hin
      have hx := Dots.keepC HX.out (balloc (Below.refl _ wr) (.cells #[.string ⟨mt.toArray⟩, .slice ma md.length mc] 74))
      have LD2 := Lib.hid (LD1.out.below (balloc (Below.refl _ wr) (.cells #[.string ⟨mt.toArray⟩, .slice ma md.length mc] 74)))
      have hb2 := balloc hb (.cells #[.string ⟨mt.toArray⟩, .slice ma md.length mc] 74)
      have HX2 := Lib.hid hx
      have HV2 : Hid (V = (seenD s (md.drop 0) && seenJ s (js.drop (k + 1)))) := Lib.hid (by rw [HV.out, hst.out]; rfl)
      clear hb HX HV hst hx LD1
      go_wp2_with fail
      generalize wr.alloc _ = wq at HX2 LD2 hb2 ⊢
      go_loopw [17] (fun i wr => ∃ k2 : Nat, k2 ≤ md.length ∧ i = .int .i64 k2 ∧ Hid (V = (seenD s (md.drop k2) && seenJ s (js.drop (k + 1)))) ∧ Hid (wr.cell? ⟨w.heap.size, 1, none⟩ = some (.slice sa s.length sc)) ∧ Hid (Row.Lies dE wr ma md.length md) ∧ Below w.heap.size w wr) (fun i _ => md.length - (intOf i).toNat)
      case atStart => exact ⟨0, by omega, rfl, HV2, HX2, LD2, hb2⟩
      case round =>
        clear HV2 HX2 LD2 hb2
        obtain ⟨k2, hk2, rfl, HV, HX, LD1, hb⟩ := hrel
        by_cases hlt2 : k2 < md.length
        · have hst := Lib.hid (seenD_step s hlt2)
          obtain ⟨b2, off2, rfl, hc⟩ := LD1.out.2 (by omega)
          have hd0 := hc k2 hlt2 0 (.string ⟨(md[k2]).p.toArray⟩) rfl
          have hd1 := hc k2 hlt2 1 (.int .u64 ((md[k2]).n : Int)) rfl
          rw [show off2 + k2 * dE.k + 0 = off2 + k2 * 2 from rfl] at hd0
          rw [show off2 + k2 * dE.k + 1 = off2 + k2 * 2 + 1 from rfl] at hd1
          obtain ⟨m, hm⟩ : ∃ m, m = md[k2] := ⟨_, rfl⟩
          rw [← hm] at hst hd0 hd1
          clear hm hc
          have hx := Dots.keepC HX.out (balloc (Below.refl _ _) (.cells #[.string ⟨m.p.toArray⟩, .int .u64 (m.n : Int)] 96))
          have LD2 := Lib.hid (LD1.out.below (balloc (Below.refl _ _) (.cells #[.string ⟨m.p.toArray⟩, .int .u64 (m.n : Int)] 96)))
          have hb2 := balloc hb (.cells #[.string ⟨m.p.toArray⟩, .int .u64 (m.n : Int)] 96)
          have HV2 : Hid (V = (hasL s m.p m.n && seenD s (md.drop (k2 + 1)) && seenJ s (js.drop (k + 1)))) := Lib.hid (by rw [HV.out, hst.out])
          clear HV HX LD1 hb hst
          go_wp2_with fail
          refine (Dots.has_any m.p m.n s sa s.length sc _ (LS.out.below hb2) (by omega) OKS.out).mono ?_
          rintro e w1 ⟨rfl, k1⟩
          have HX3 := Lib.hid (Dots.keepC hx k1)
          have LD3 := Lib.hid (LD2.out.below k1)
          have hb3 := bstep hb2 k1
          clear hx LD2 hb2 k1
          cases hz : hasL s m.p m.n
          · have HV3 : Hid (V = false) := Lib.hid (by rw [HV2.out, hz]; rfl)
            clear HV2 hz
            go_wp2
            go_ret
            exact ⟨by rw [HV3.out]; rfl, hb3⟩
          · have HV3 : Hid (V = (seenD s (md.drop (k2 + 1)) && seenJ s (js.drop (k + 1)))) := Lib.hid (by rw [HV2.out, hz]; rfl)
            clear HV2 hz
            go_wp2
            go_roundw
            case rel => exact ⟨k2 + 1, by omega, by go_num, HV3, HX3, LD3, hb3⟩
            case measure => simp [intOf]; omega
        · have e : k2 = md.length := by omega
          have HV3 : Hid (V = seenJ s (js.drop (k + 1))) := Lib.hid (by rw [HV.out, e, List.drop_length]; rfl)
          go_wp2
          go_roundw
          case rel => exact ⟨k + 1, by omega, by go_num, HV3, HX, hb⟩
          case measure => simp [intOf]; omega
    · have e : k = js.length := by omega
      have HV2 : Hid (V = true) := Lib.hid (by rw [HV.out, e, List.drop_length]; rfl)
      go_wp2
      go_ret
      exact ⟨by rw [HV2.out]; rfl, hb⟩
end Coder
end Go.Proofs.YtnpjkmomllkhpaaGreat

namespace Go.Proofs.YtnpjkmomllkhpaaGreat
namespace Coder
open Go.RowKit Go.Proofs.YtnpjkmomllkhpaaGreat.Mark Go.Proofs.YtnpjkmomllkhpaaGreat.Num Go.Proofs.YtnpjkmomllkhpaaGreat.Wire Go.Proofs.YtnpjkmomllkhpaaGreat.Bag Go.Proofs.YtnpjkmomllkhpaaGreat.Dots
set_option maxRecDepth 100000 in
set_option maxHeartbeats 4000000 in
theorem mayO_any (d : Nat) (k : List UInt8) (n : Int) (t : List UInt8) (w : World) (hk : k.length ≤ 1048576) :
    Calls Tryz.prog 28 #[.agg #[.int .u8 (d : Int), .string ⟨k.toArray⟩, .int .i64 n, .string ⟨t.toArray⟩]] w fun e w' => e = .returned (.bool (mayO ⟨d, k, n, t⟩)) ∧ Below w.heap.size w w' := by
  have KD : Hid (∀ W, Calls Tryz.prog 54 #[.string ⟨k.toArray⟩] W fun e W' => e = .returned (.bool (!(kd k == 0))) ∧ Below W.heap.size W W') := Lib.hid (fun W => Text.key_any ⟨k.toArray⟩ W (by rw [Str.size_mk]; unfold maxLen; omega))
  have hz := Str.size_mk t
  have hb := balloc (Below.refl w.heap.size w) (.cells #[.int .u8 (d : Int), .string ⟨k.toArray⟩, .int .i64 n, .string ⟨t.toArray⟩] 37)
  by_cases h1 : 1 ≤ d
  · by_cases h2 : d ≤ 5
    · have HV : Hid (mayO ⟨d, k, n, t⟩ = ((!(kd k == 0)) && decide (t.length ≤ 4096))) := Lib.hid (by
        unfold mayO
        simp only [h1, h2, decide_true, Bool.true_and]
        congr 1)
      obtain ⟨q, hq⟩ : ∃ q, q = (!(kd k == 0)) := ⟨_, rfl⟩
      rw [← hq] at KD HV
      have X3 := box_cells w #[.int .u8 (d : Int), .string ⟨k.toArray⟩, .int .i64 n, .string ⟨t.toArray⟩] 37 3 (.string ⟨t.toArray⟩) rfl
      clear hq
      go_enter Tryz.func28, Tryz.ntmps28
      go_wp2_with fail
      refine (KD.out _).mono ?_
      rintro e w1 ⟨rfl, k1⟩
      replace X3 := keepC X3 k1
      replace hb := bstep hb k1
      cases q
      · have HV2 : Hid (mayO ⟨d, k, n, t⟩ = false) := Lib.hid (by rw [HV.out]; rfl)
        go_wp2
        go_ret
        exact ⟨by rw [HV2.out]; rfl, hb⟩
      · by_cases h3 : t.length ≤ 4096
        · have HV2 : Hid (mayO ⟨d, k, n, t⟩ = true) := Lib.hid (by rw [HV.out, decide_eq_true h3]; rfl)
          have j3 : decide ((t.length : Int) ≤ 4096) = true := decide_eq_true (by omega)
          go_wp2
          go_ret
          exact ⟨by rw [HV2.out]; rfl, hb⟩
        · have HV2 : Hid (mayO ⟨d, k, n, t⟩ = false) := Lib.hid (by rw [HV.out, decide_eq_false h3]; rfl)
          have j3 : decide ((t.length : Int) ≤ 4096) = false := decide_eq_false (by omega)
          go_wp2
          go_ret
          exact ⟨by rw [HV2.out]; rfl, hb⟩
    · have HV : Hid (mayO ⟨d, k, n, t⟩ = false) := Lib.hid (by unfold mayO; simp only [h2, decide_false, Bool.false_and, Bool.and_false])
      go_enter Tryz.func28, Tryz.ntmps28
      go_wp2
      go_ret
      exact ⟨by rw [HV.out]; rfl, hb⟩
  · have HV : Hid (mayO ⟨d, k, n, t⟩ = false) := Lib.hid (by unfold mayO; simp only [h1, decide_false, Bool.false_and])
    go_enter Tryz.func28, Tryz.ntmps28
    go_wp2
    go_ret
    exact ⟨by rw [HV.out]; rfl, hb⟩
end Coder
end Go.Proofs.YtnpjkmomllkhpaaGreat
