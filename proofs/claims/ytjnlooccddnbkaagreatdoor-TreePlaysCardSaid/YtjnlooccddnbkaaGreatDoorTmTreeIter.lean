/- Tree: its shards; the iterator over keys and what they have. -/
import Derived.RangeFuncNested
import Derived.RangeFuncBound
import Derived.RangeFuncCalls
import Derived.RangeFuncLeaves
import Derived.Shelf.Abstract
import Derived.Shelf.RegionOpen
import Derived.WalkKit
import Derived.OwnWalkIn
import Derived.TacticsInMore
import Derived.LoopNIn
import Derived.LoopIn
import Derived.Shelf.SlIter.Collect
import Derived.Test.YtjnlooccddnbkaaGreatDoorTmTreeFns
import Derived.Test.YtjnlooccddnbkaaGreatDoorTmShard
namespace Go.Proofs.YtjnlooccddnbkaaGreatDoor
namespace Tree
open Go.RowKit Go.Shelf Go.Maps Go.Sort Go.Proofs.YtjnlooccddnbkaaGreatDoor.Mark Go.Proofs.YtjnlooccddnbkaaGreatDoor.Dots
attribute [local go_sem] Oper.semAt_some
theorem keys_any (mb : Option Nat) (W : World) : Calls Tryz.prog 49 #[.map mb] W fun e w' => e = .returned (.func (.func 75) #[] #[.pointer (some ⟨W.heap.size, 0, none⟩)]) ∧ w' = W.alloc (.cells #[.map mb] 69) :=
  callsIn_wide.1 (AnyZ.keys_in Tryz.keysP Fence.wide 5 trivial rfl mb W)
set_option maxHeartbeats 1000000 in
theorem collect_any {H : Type} (b nn : Nat) (D0 : DataW H) (R : Value → Option (DataW H × List MemPlace)) (w : World) (hown : w.ownsMap Tryz.prog 9 R b nn D0) (hmax : Maps.size D0 ≤ maxLen) (hbytes : Maps.size D0 * 16 ≤ 140737488355328) :
    Calls Tryz.prog 48 #[.func (.func 75) #[] #[.pointer (some ⟨w.heap.size, 0, none⟩)]] (w.alloc (.cells #[.map (some b)] 69)) fun e w' => ∃ (v : Value) (ss : List (List UInt8)), e = .returned v ∧ ss.Perm (strKeys D0) ∧
      w'.ownsRow (w.alloc (.cells #[.map (some b)] 69)).heap.size 9 1 v ss.length (ss.map encStr) ∧ (v = .slice none 0 0 ↔ ss = []) ∧ Below (w.alloc (.cells #[.map (some b)] 69)).heap.size (w.alloc (.cells #[.map (some b)] 69)) w' := by
  have hbl := hown.lt
  have hseq : SeqGives Fence.wide 2 Tryz.prog 75 #[.pointer (some ⟨w.heap.size, 0, none⟩)] encStr (fun ss => ss.Perm (strKeys D0)) (Maps.size D0) (w.alloc (.cells #[.map (some b)] 69)) :=
    AnyZ.keys_gives (ρ := Tryz.keysP_ren) { Tryz.keysP with } Fence.wide _ trivial rfl (by omega) w.heap.size b nn D0 _ (by simp) (by simp) (by
      obtain ⟨es, clock, hb, Ft, hs, hD⟩ := hown
      exact ⟨es, clock, (Below.heap_alloc _ _ b hbl).trans hb, Ft, hs, hD⟩)
  exact callsIn_wide.1 (AnyZ.collect_in Tryz.collectP Fence.wide 4 trivial trivial rfl (by omega) 75 #[.pointer (some ⟨w.heap.size, 0, none⟩)] trivial (enters_of Tryz.func75 (by kernel_rfl) rfl) _ _ hmax hbytes _ hseq)
theorem words_low {w : World} {B n cap : Nat} {a : Option Addr} {L : List (List UInt8)} (h : Words.Mine w B (.slice a n cap) L) : ∀ x, a = some x → x.block < w.heap.size := fun x hx => by
  subst hx
  rcases h.2 with ⟨e, _⟩ | ⟨g, c, cur, e, _, hg, _⟩
  · cases e
  · simp only [Value.slice.injEq, Option.some.injEq] at e
    rw [e.1]
    exact (Array.getElem?_eq_some_iff.1 hg).1
theorem Is.perm {w : World} {tb mb n : Nat} {l : List It} (h : Is w tb mb n l) : ∃ D, w.ownsMap Tryz.prog 9 TextMap.RV mb n D ∧ Maps.size D = l.length ∧ ∀ ss : List (List UInt8), ss.Perm (strKeys D) → ss.Perm (l.map It.k) := by
  obtain ⟨f, hf, he⟩ := h.map
  obtain ⟨D, hD, hs, hk⟩ := hf.keys Tryz.underlying9 (up_keys h.up) (h.mem he)
  refine ⟨D, hD, by rw [hs, List.length_map], fun ss hp => ?_⟩
  have e := hk ss hp
  rw [← e]
  exact (List.mergeSort_perm _ _).symm
set_option maxRecDepth 100000 in
/-- The keys of each shard, rising. -/
theorem shards_any (w : World) (tb mb n : Nat) (l : List It) (h : Is w tb mb n l) (ht : Sha.Tabs w) :
    Calls Tryz.prog 35 #[.pointer (some ⟨tb, 0, none⟩)] w fun e w' => ∃ g V, e = .returned (.slice (some ⟨g, 0, none⟩) 16 16) ∧ Parts.Is w' w.heap.size g 16 V (Shard.part (l.map It.k)) ∧ Below w.heap.size w w' := by
  have hc := h.cell
  obtain ⟨D, hD, hs, hk⟩ := h.perm
  have hsm := h.small
  have CO := Lib.hid (collect_any mb _ D _ w hD (by rw [hs]; unfold maxLen; omega) (by rw [hs]; omega))
  have HK := Lib.hid hk
  have HU := Lib.hid (up_keys h.up)
  have HF : Hid (∀ x ∈ l.map It.k, x.length ≤ 1099511627776) := Lib.hid (fun x hx => by obtain ⟨y, hy, rfl⟩ := List.mem_map.1 hx; exact Nat.le_trans (h.fine y hy).1 (by decide))
  have HT := Lib.hid ht
  have HL : Hid ((l.map It.k).length ≤ 256) := Lib.hid (by rw [List.length_map]; exact hsm)
  clear h ht hk hD hs hsm
  go_enter Tryz.func35, Tryz.ntmps35
  go_wp2_with fail
  refine (keys_any _ _).mono ?_
  rintro e w2 ⟨rfl, rfl⟩
  go_wp2_with fail
  refine CO.out.mono ?_
  rintro e w3 ⟨v, ss, rfl, hp, ho, -, k3⟩
  have hb3 : Below w.heap.size w w3 := (balloc (Below.refl _ _) _).trans (k3.mono (by rw [World.size_alloc]; omega))
  have hperm := HK.out ss hp
  rw [← WordSeq.flat_enc] at ho
  have hO : Words.Mine w3 (w.alloc (.cells #[.map (some mb)] 69)).heap.size v ss := ho
  obtain ⟨a, c, rfl, -, -, hl, -, -⟩ := hO.lies'
  have hlow := words_low hO
  have HP := Lib.hid hperm
  have SP := Lib.hid (Shard.split_any a ss.length c ss w3 hl hlow (HT.out.below hb3) (by have := HL.out; rw [hperm.length_eq]; omega) (fun x hx => HF.out x (hperm.mem_iff.1 hx)))
  clear hO hl hlow hperm hp ho k3
  go_wp2_with fail
  refine SP.out.mono ?_
  rintro e w4 ⟨g, V, rfl, hI, k4⟩
  rw [Shard.keys_of_perm HP.out HU.out] at hI
  have HI := Lib.hid hI
  clear hI
  go_wp2
  go_ret
  obtain ⟨b1, b2, b3, b4⟩ := HI.out
  exact ⟨g, V, rfl, ⟨Nat.le_trans hb3.size b1, b2, b3, b4⟩, bstep hb3 k4⟩
/-- The blocks that p names stand. -/
structure Kept (p : Nat → Prop) (w w' : World) : Prop where
  size : w.heap.size ≤ w'.heap.size
  block : ∀ k, p k → k < w.heap.size → w'.heap[k]? = w.heap[k]?
theorem Kept.refl (p : Nat → Prop) (w : World) : Kept p w w := ⟨Nat.le_refl _, fun _ _ _ => rfl⟩
theorem Kept.trans {p : Nat → Prop} {a b c : World} (h : Kept p a b) (k : Kept p b c) : Kept p a c := ⟨Nat.le_trans h.size k.size, fun j hp hj => (k.block j hp (Nat.lt_of_lt_of_le hj h.size)).trans (h.block j hp hj)⟩
theorem Kept.of {p : Nat → Prop} {w w' : World} (k : Below w.heap.size w w') : Kept p w w' := ⟨k.size, fun j _ hj => k.block j hj⟩
theorem Kept.below {p : Nat → Prop} {B : Nat} {w w' : World} (k : Below B w w') (hp : ∀ j, p j → j < B) : Kept p w w' := ⟨k.size, fun j pj _ => k.block j (hp j pj)⟩
theorem Kept.grown {p : Nat → Prop} {w w' : World} {r : Option Nat} (k : w.grownBy w' r) (hr : ∀ j, p j → some j ≠ r) : Kept p w w' := ⟨k.size, fun j pj hj => k.block j hj (hr j pj)⟩
theorem Kept.but {p : Nat → Prop} {w w' : World} {b : Nat} (k : But b w w') (hr : ∀ j, p j → j ≠ b) : Kept p w w' := ⟨k.size, fun j pj hj => k.block j hj (hr j pj)⟩
theorem Kept.cell {p : Nat → Prop} {w w' : World} (k : Kept p w w') {q : Addr} (hp : p q.block) {v : Value} (h : w.cell? q = some v) : w'.cell? q = some v := (World.cell?_of_block (w := w) (k.block q.block hp (World.block_lt_of_cell? _ _ h))).trans h
theorem kept_b {p : Nat → Prop} {n₀ : Nat} {w : World} (hp : ∀ k, p k → k < n₀) (hn : n₀ ≤ w.heap.size) (W : World) (l : Nat) (o o' : Obj) (hl : w.heap.size ≤ l) (_ : W.heap[l]? = some o) (_ : o.isCells = false) (_ : o.isWalk = false) : Kept p W (W.putObj l o') :=
  Kept.grown (grownBy_putObj' W l o') (fun j pj e => by have := hp j pj; cases e; omega)
set_option maxRecDepth 100000 in
/-- Keys and what they have, one by one. -/
theorem pairs_any (tb : Nat) (a : Option Addr) (n c : Nat) (w : World) :
    Calls Tryz.prog 36 #[.pointer (some ⟨tb, 0, none⟩), .slice a n c] w fun e w' => e = .returned (.func (.func 50) #[] #[.pointer (some ⟨w.heap.size + 1, 0, none⟩), .pointer (some ⟨w.heap.size, 0, none⟩)]) ∧ w' = (w.alloc (.cells #[.pointer (some ⟨tb, 0, none⟩)] 29)).alloc (.cells #[.slice a n c] 42) := by
  have hmf : ∀ (fn : Fn) (first cap : Array Value) (w : World), (Instr.makeFunc fn first cap).run Tryz.prog w = .ok (.func fn first cap) w := fun _ _ _ _ => rfl
  go_enter Tryz.func36, Tryz.ntmps36
  go_wp2
  go_ret
  exact ⟨rfl, rfl⟩
def nil : Value := .agg #[.string ⟨#[]⟩, .slice none 0 0]
/-- What a key has, with where its vector lies. -/
structure Got (w : World) (l : List It) where
  it : It
  a : Option Addr
  c : Nat
  mem : it ∈ l
  lies : Mark.Lies w a it.s.length it.s
  low : ∀ p, a = some p → p.block < w.heap.size
def Got.val {w : World} {l : List It} (x : Got w l) : Value := .agg #[.string ⟨x.it.b.toArray⟩, .slice x.a x.it.s.length x.c]
theorem got_list {w : World} {tb mb n : Nat} {l : List It} (h : Is w tb mb n l) {f : List UInt8 → Option Value} (he : ∀ q, Ent w tb mb (f q) (find l q)) : ∀ its : List It, (∀ x ∈ its, x ∈ l) →
    ∃ zs : List (Got w l), zs.map Got.it = its ∧ ∀ z ∈ zs, f z.it.k = some z.val
  | [], _ => ⟨[], rfl, fun z hz => by cases hz⟩
  | x :: its, hm => by
    obtain ⟨zs, h1, h2⟩ := got_list h he its (fun y hy => hm y (List.mem_cons_of_mem _ hy))
    have hx := hm x (List.mem_cons_self ..)
    have e := he x.k
    rw [(find_some h.up x.k x).2 ⟨hx, rfl⟩] at e
    obtain ⟨a, c, e1, e2, e3⟩ := e
    refine ⟨⟨x, a, c, hx, e2, fun p ep => (e3 p ep).2.2.1⟩ :: zs, by rw [List.map_cons, h1], fun z hz => ?_⟩
    rcases List.mem_cons.1 hz with rfl | hz
    · exact e1
    · exact h2 z hz
set_option maxRecDepth 100000 in
set_option maxHeartbeats 2000000 in
theorem pairs_stops {w0 : World} {l0 : List It} (n : Nat) (hn : 1 ≤ n) (Bk Bt tb mb m : Nat) (p : Nat → Prop) (a : Option Addr) (len cap : Nat) (zs : List (Got w0 l0)) (f : List UInt8 → Option Value) (w : World)
    (hBk : w.cell? ⟨Bk, 0, none⟩ = some (.slice a len cap)) (hBt : w.cell? ⟨Bt, 0, none⟩ = some (.pointer (some ⟨tb, 0, none⟩))) (htb : w.cell? ⟨tb, 0, none⟩ = some (.map (some mb))) (hm : TextMap.Is Tryz.prog 9 w mb m f)
    (hL : Words.Lies w a len (zs.map (fun x => x.it.k))) (hf : ∀ z ∈ zs, f z.it.k = some z.val) (hks : ∀ z ∈ zs, z.it.k.length ≤ maxLen) (hlen : len ≤ 1099511627776) (p1 : p Bt) (p2 : p tb) (p3 : p mb) (p4 : ∀ x, a = some x → p x.block) :
    SeqStopsK Fence.wide n Tryz.prog 50 #[.pointer (some ⟨Bk, 0, none⟩), .pointer (some ⟨Bt, 0, none⟩)] (fun x : Got w0 l0 => #[Value.string ⟨x.it.k.toArray⟩, x.val]) (Kept p) (fun ys => ys = zs) (fun pre => pre <+: zs) zs.length w := fun l J Jx W hW _ _ hY h0 => by
  have hBk' := (hW.cell (p := ⟨Bk, 0, none⟩) (World.block_lt_of_cell? _ _ hBk)).trans hBk
  have hBt' := (hW.cell (p := ⟨Bt, 0, none⟩) (World.block_lt_of_cell? _ _ hBt)).trans hBt
  have htb' := (hW.cell (p := ⟨tb, 0, none⟩) (World.block_lt_of_cell? _ _ htb)).trans htb
  have HM := Lib.hid (hm.below hW)
  have HL := Lib.hid (hL.below hW)
  have HN : Hid (len = zs.length) := Lib.hid (by have := hL.1; rwa [List.length_map] at this)
  have HKS := Lib.hid hks
  have HFS := Lib.hid hf
  have HP := Lib.hid (And.intro p1 (And.intro p2 (And.intro p3 p4)))
  clear hBk hBt htb hm hL hks p1 p2 p3 p4 hf
  refine callsIn_of_wp Tryz.func50 rfl trivial ?_ rfl
  simp only [Tryz.ntmps50, List.size_toArray, List.length_cons, List.length_nil, Nat.reduceAdd, Nat.reduceSub, Array.replicate_succ, Array.replicate_zero, List.push_toArray, List.append_toArray, List.nil_append, List.cons_append]
  gi_wp2_with fail
  gi_loopw [8] (fun i wr => ∃ k : Nat, k ≤ len ∧ i = .int .i64 (k : Int) ∧ J (zs.take k) wr ∧ Kept p W wr) (fun i _ => len - (intOf i).toNat)
  case atStart => exact ⟨0, Nat.zero_le _, rfl, by rw [List.take_zero]; exact h0, Kept.refl _ _⟩
  case round =>
    obtain ⟨k, hk, rfl, hJs, hnx⟩ := hrel
    by_cases hlt : k < len
    · have hzl : k < zs.length := by have := HN.out; omega
      have hkl : k < (zs.map (fun x => x.it.k)).length := by rw [List.length_map]; exact hzl
      obtain ⟨b, o, rfl, hcs⟩ := Words.words_at HL.out (by omega)
      have hcx := hnx.cell (q := ⟨b, o + k, none⟩) (show p b from HP.out.2.2.2 ⟨b, o, none⟩ rfl) (hcs k hkl)
      rw [List.getElem_map] at hcx
      have c1 := hnx.cell (q := ⟨Bt, 0, none⟩) HP.out.1 hBt'
      have c2 := hnx.cell (q := ⟨tb, 0, none⟩) HP.out.2.1 htb'
      have HT := Lib.hid (List.take_succ_eq_append_getElem hzl)
      have hxl := HKS.out zs[k] (List.getElem_mem _)
      have hfx := HFS.out zs[k] (List.getElem_mem _)
      obtain ⟨x, hx⟩ : ∃ x, x = zs[k] := ⟨_, rfl⟩
      rw [← hx] at hcx HT hxl hfx
      have hmw := HM.out.moved (hnx.block mb HP.out.2.2.1 HM.out.lt)
      have hlk := TextMap.run_look Tryz.underlying69 Tryz.underlying9 (z := nil) zero_known hmw hxl
      rw [hfx, Option.getD_some] at hlk
      have h0k : (0 : Int) ≤ (k : Int) := by omega
      have hd : decide ((k : Int) < (len : Int)) = true := decide_eq_true (by omega)
      obtain ⟨fn, tmps, assign, body, hy, hR⟩ := hY _ x wr hJs (by rw [List.length_take]; omega)
      obtain ⟨key, hkey⟩ : ∃ q, q = x.it.k := ⟨_, rfl⟩
      obtain ⟨v, hv⟩ : ∃ v, v = x.val := ⟨_, rfl⟩
      rw [← hkey] at hcx hlk hy
      rw [← hv] at hlk hy
      clear hcs hx hmw hkl hzl hxl hfx hkey hv
      gi_wp2_with fail
      refine hR.mono ?_
      rintro e W3 (⟨rfl, hJ3, hk3⟩ | ⟨rfl, hJx3⟩)
      · gi_wp2
        go_roundw
        case rel => exact ⟨k + 1, by omega, by go_num, by rw [HT.out]; exact hJ3, hnx.trans hk3⟩
        case measure => simp [intOf]; omega
      · gi_wp2
        refine bodyPost_ret (results_none rfl _ _ _) rfl ?_
        exact ⟨⟨_, rfl⟩, .inr ⟨_, by rw [← HT.out]; exact List.take_prefix _ _, hJx3⟩⟩
    · obtain rfl : k = len := by omega
      have hd : decide ((k : Int) < (k : Int)) = false := decide_eq_false (by omega)
      gi_wp2
      go_end0
      exact ⟨⟨_, rfl⟩, .inl ⟨_, List.take_of_length_le (by have := HN.out; omega), hJs⟩⟩
end Tree
end Go.Proofs.YtjnlooccddnbkaaGreatDoor
