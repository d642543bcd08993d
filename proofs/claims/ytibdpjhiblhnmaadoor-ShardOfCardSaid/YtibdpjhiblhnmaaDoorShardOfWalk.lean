/- ShardOf: the walk. -/
import Derived.Test.YtibdpjhiblhnmaaDoorShardWorks
import Derived.Test.YtibdpjhiblhnmaaDoorShaLaid
namespace Go.Proofs.YtibdpjhiblhnmaaDoor
namespace ShardOf
open Go.RowKit Shard
set_option maxRecDepth 100000 in
theorem walk (a0 : ByteArray) (w : World) (w0 : a0.size ≤ maxLen) (ht : Sha.Tabs w) :
    Calls Tryd.prog 3 #[.string a0] w fun e w' => e = .returned (.bool true) ∧ Below w.heap.size w w' := by
  obtain ⟨l, rfl⟩ : ∃ l : List UInt8, a0 = ⟨l.toArray⟩ := ⟨a0.data.toList, by cases a0; rfl⟩
  have hsz := Str.size_mk l
  have hb := Below.refl w.heap.size w
  have h1 : (0 : Int) ≤ ((l.length : Nat) : Int) := by omega
  have hml : (l.length : Int) ≤ 9223372036854775807 := by rw [hsz] at w0; unfold maxLen at w0; omega
  have HT := Lib.hid ht
  have HW := Lib.hid (fun w ht => works_any w ht)
  by_cases hl : l.length > 1024
  · have hd : decide ((l.length : Int) > 1024) = true := decide_eq_true (by omega)
    have hd2 : decide ((1024 : Int) < (l.length : Int)) = true := decide_eq_true (by omega)
    clear w0 ht
    go_enter Tryd.func3, Tryd.ntmps3
    go_wp2_with fail
    refine (HW.out _ HT.out).mono ?_
    rintro e w1 ⟨rfl, k1⟩
    go_wp2
    go_ret
    exact ⟨rfl, k1⟩
  · have hd : decide ((l.length : Int) > 1024) = false := decide_eq_false (by omega)
    have hd2 : decide ((1024 : Int) < (l.length : Int)) = false := decide_eq_false (by omega)
    have HA := Lib.hid (fun w ht => of_any l w ht (by omega))
    have HR := Lib.hid (fun w => refOf_any l w (by omega))
    have hn := no_lt l
    obtain ⟨n, hnn⟩ : ∃ n, n = no l := ⟨_, rfl⟩
    rw [← hnn] at hn HA HR
    have h0n : (0 : Int) ≤ (n : Int) := by omega
    have hge : decide ((n : Int) ≥ 0) = true := decide_eq_true h0n
    have hge2 : decide ((0 : Int) ≤ (n : Int)) = true := decide_eq_true h0n
    have hlt : decide ((n : Int) < 16) = true := decide_eq_true (by omega)
    clear w0 ht hnn
    go_enter Tryd.func3, Tryd.ntmps3
    go_wp2_with fail
    refine (HA.out _ HT.out).mono ?_
    rintro e w1 ⟨rfl, k1⟩
    go_wp2_with fail
    refine (HR.out _).mono ?_
    rintro e w2 ⟨rfl, k2⟩
    have hb2 := bstep k1 k2
    go_wp2_with fail
    refine (HW.out _ (HT.out.below hb2)).mono ?_
    rintro e w3 ⟨rfl, k3⟩
    go_wp2
    go_ret
    exact ⟨rfl, bstep hb2 k3⟩
end ShardOf
end Go.Proofs.YtibdpjhiblhnmaaDoor
