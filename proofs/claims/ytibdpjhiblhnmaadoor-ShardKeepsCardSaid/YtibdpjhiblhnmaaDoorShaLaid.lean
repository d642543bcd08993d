/- sha: its two tables, out of what a card lays. -/
import Derived.Test.YtibdpjhiblhnmaaDoorShaAdd
import Derived.Lib.LaidTab
import Derived.LaidSub
namespace Go.Proofs.YtibdpjhiblhnmaaDoor
namespace Sha
theorem row_of_head {P : Program} {W : World} {name : String} {k : IntKind} {zs : List Int} {rest : List (String × DataW Unit)} {g : Nat} {t e : TypeId} {n : Nat}
    (hg : P.globalNamed name = some g) (hty : (P.globals[g]?).map (·.type) = some t) (ht : P.underlying t = some (.array n e)) (he : P.underlying e = some (.int k)) (hce : P.cellsOf e = 1) (hct : P.cellsOf t = n)
    (hz : 0 < zs.length) (h : laidMet P ((name, Lib.tabData k zs) :: rest) W) : ∃ t, W.heap[g]? = some (.cells (zs.map fun z => Value.int k z).toArray t (0, 0)) := by
  have hv := Lib.tabIs_of_head hg hty ht he hce hct h
  obtain ⟨ps, ⟨g', t', cs, fuel, p, q, hg', -, hvar, -, -, hps⟩, -, hall⟩ := h
  obtain rfl := Option.some.inj (hg.symm.trans hg')
  unfold Lib.TabIs at hv
  rw [hv] at hvar
  obtain rfl := Option.some.inj hvar
  have hm : MemPlace.cell g 0 ∈ ps := by
    rw [hps]
    refine List.mem_append_left _ (List.mem_append_left _ ?_)
    unfold MemPlace.row
    exact List.mem_map.2 ⟨0, List.mem_range.2 (by simpa using hz), rfl⟩
  obtain ⟨⟨c, t2, hc⟩, -⟩ := hall g 0 hm
  unfold World.var? at hv
  rw [hg] at hv
  simp only [Option.bind_some, hc, Option.some.injEq] at hv
  exact ⟨t2, by rw [hc, hv]⟩
theorem start_of {W : World} (h : laidMet Tryd.prog [("gossamer/sha.start", Lib.tabData .u32 H0.list)] W) : ∃ t, Row W 0 t H0.list :=
  row_of_head (g := 0) (t := 50) (e := 47) (n := 8) (by kernel_rfl) (by kernel_rfl) Tryd.underlying50 Tryd.underlying47 (by kernel_rfl) (by kernel_rfl) (by decide) h
theorem consts_of {W : World} (h : laidMet Tryd.prog [("gossamer/sha.consts", Lib.tabData .u32 K0)] W) : Tab W K0 := by
  obtain ⟨t, h⟩ := row_of_head (g := 1) (t := 65) (e := 47) (n := 64) (by kernel_rfl) (by kernel_rfl) Tryd.underlying65 Tryd.underlying47 (by kernel_rfl) (by kernel_rfl) (by decide) h
  exact ⟨t, h, rfl⟩
end Sha
end Go.Proofs.YtibdpjhiblhnmaaDoor
