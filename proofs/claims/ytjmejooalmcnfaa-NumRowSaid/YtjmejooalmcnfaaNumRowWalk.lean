/- The walk of NumRow: it answers true. -/
import Derived.Test.YtjmejooalmcnfaaNumWorks
import Derived.Test.YtjmejooalmcnfaaNumSize
import Derived.Test.YtjmejooalmcnfaaFrame
namespace Go.Proofs.Ytjmejooalmcnfaa.NumRow
open Go.RowKit Num

set_option maxRecDepth 100000 in
set_option maxHeartbeats 1000000 in
theorem walk (a0 : Option Addr) (len0 cap0 : Nat) (z0 : List Int) (w : World) (w0 : IsRow .u64 w a0 len0 cap0 z0) :
    Calls Try.prog 4 #[.slice a0 len0 cap0] w fun e w' => e = .returned (.bool true) ∧ Below w.heap.size w w' := by
  obtain ⟨hm, l, hN⟩ := w0.nats
  clear w0
  unfold maxLen at hm
  by_cases hs : 500 < len0
  · go_enter Try.func4, Try.ntmps4
    go_wp2_with fail
    refine (works_any _).mono ?_
    rintro e w' ⟨rfl, hb⟩
    go_wp2
    go_ret
    exact ⟨rfl, hb⟩
  · have HN := Lib.hid hN
    clear hN
    go_enter Try.func4, Try.ntmps4
    go_wp2_with fail
    go_loopw [3, 4] (fun s i wr => ∃ k : Nat, k ≤ len0 ∧ i = .int .i64 k ∧ s = .string ⟨(cat (l.take k)).toArray⟩ ∧ Below w.heap.size w wr) (fun _ i _ => len0 - (intOf i).toNat)
    case atStart => exact ⟨0, by omega, rfl, rfl, Below.refl _ _⟩
    case round =>
      obtain ⟨k, hk, rfl, rfl, hb⟩ := hrel
      obtain ⟨hl, hmem, hcell⟩ := HN.out.below rfl hb
      by_cases hlt : k < len0
      · obtain ⟨b, off, rfl, hblt, hc⟩ := hcell (by omega)
        have hck := hc k (by omega)
        have hle : l[k] ≤ 18446744073709551615 := hmem _ (List.getElem_mem _)
        have hcl := cat_length (l.take k)
        have hct := cat_take l k (by omega)
        have htl : (l.take k).length = k := by rw [List.length_take]; omega
        obtain ⟨n, hn⟩ : ∃ n, n = l[k] := ⟨_, rfl⟩
        rw [← hn] at hck hle hct
        obtain ⟨sk, hsk⟩ : ∃ sk, sk = cat (l.take k) := ⟨_, rfl⟩
        rw [← hsk] at hct hcl ⊢
        have hb1 : sk.length ≤ 5000 := by omega
        have Hct := Lib.hid hct
        have hul := upL_length n
        obtain ⟨hu1, hu2⟩ := hul
        clear hct hcl htl hsk hn hc hcell hmem hl
        go_wp2_with fail
        refine (up_any n _ hle).mono ?_
        rintro e w1 ⟨rfl, hb2⟩
        go_wp2_with fail
        go_loop [6] (fun j => ∃ m : Nat, m ≤ (upL n).length ∧ j = .int .i64 m) (fun j => (upL n).length - (intOf j).toNat)
        case atStart => exact ⟨0, by omega, rfl⟩
        case round =>
          obtain ⟨m, hm', rfl⟩ := hrel
          by_cases hmlt : m < (upL n).length
          · go_wp2_with fail
            refine (read_cut n _ _ (by omega)).mono ?_
            rintro e w' ⟨rfl, rfl⟩
            go_wp2_with fail
            go_round
            case rel => exact ⟨m + 1, by omega, by go_num⟩
            case measure => simp [intOf]; omega
          · go_wp2_with fail
            exact ⟨⟨k + 1, by omega, by go_num, by rw [Str.mk_append_mk, Hct.out], hb.trans (hb2.mono hb.size)⟩, by simp [intOf]; omega⟩
      · obtain rfl : k = len0 := by omega
        rw [show l.take k = l from by rw [List.take_of_length_le (by omega)]]
        have hle0 := cat_length l
        have hle1 : (cat l).length ≤ 5000 := by omega
        clear hcell hmem hl hle0 hlt hk
        go_wp2_with fail
        go_loop [3, 10] (fun s i => ∃ j : Nat, j ≤ k ∧ i = .int .i64 j ∧ s = .string ⟨(cat (l.drop j)).toArray⟩) (fun _ i => k - (intOf i).toNat)
        case atStart => exact ⟨0, by omega, rfl, rfl⟩
        case round =>
          obtain ⟨j, hj, rfl, rfl⟩ := hrel
          obtain ⟨hl, hmem, hcell⟩ := HN.out.below rfl hb
          by_cases hlt : j < k
          · obtain ⟨b, off, rfl, hblt, hc⟩ := hcell (by omega)
            have hck := hc j (by omega)
            have hle : l[j] ≤ 18446744073709551615 := hmem _ (List.getElem_mem _)
            have hcd := cat_drop l j (by omega)
            have hcl := cat_length (l.drop (j + 1))
            have hdl : (l.drop (j + 1)).length = k - (j + 1) := by rw [List.length_drop]; omega
            obtain ⟨n, hn⟩ : ∃ n, n = l[j] := ⟨_, rfl⟩
            rw [← hn] at hck hle hcd
            rw [hcd]
            have Hcd := Lib.hid hcd
            obtain ⟨t, ht⟩ : ∃ t, t = cat (l.drop (j + 1)) := ⟨_, rfl⟩
            rw [← ht] at hcl ⊢
            have Ht := Lib.hid ht
            have hb1 : t.length ≤ 5000 := by omega
            obtain ⟨hu1, hu2⟩ := upL_length n
            have hsz : ({ data := (upL n ++ t).toArray } : ByteArray).size = (upL n).length + t.length := by rw [Str.size_mk, List.length_append]
            clear hcd hcl hdl hn hc hcell hmem hl ht
            go_wp2_with fail
            refine (read_row n t _ hle (by omega)).mono ?_
            rintro e w' ⟨rfl, rfl⟩
            go_wp2_with fail
            refine (size_any n _ hle).mono ?_
            rintro e w' ⟨rfl, rfl⟩
            go_wp2_with fail
            exact ⟨⟨j + 1, by omega, by go_num, by rw [Str.drop_mk, Ht.out]⟩, by simp [intOf]; omega⟩
          · obtain rfl : j = k := by omega
            rw [show l.drop j = [] from List.drop_eq_nil_of_le (by omega)]
            clear hcell hmem hl hlt hj
            go_wp2_with fail
            refine (works_any _).mono ?_
            rintro e w' ⟨rfl, hb'⟩
            go_wp2
            go_ret
            exact ⟨rfl, hb.trans (hb'.mono hb.size)⟩

end Go.Proofs.Ytjmejooalmcnfaa.NumRow
