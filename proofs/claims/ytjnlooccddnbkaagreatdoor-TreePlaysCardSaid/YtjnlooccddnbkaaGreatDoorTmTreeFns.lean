/- Tree: New, there, Len, Put, Drop. -/
import Derived.Test.YtjnlooccddnbkaaGreatDoorTmTree0
import Derived.Test.YtjnlooccddnbkaaGreatDoorTmMark
import Derived.LaidMore
namespace Go.Proofs.YtjnlooccddnbkaaGreatDoor
namespace Tree
open Go.RowKit Go.Proofs.YtjnlooccddnbkaaGreatDoor.Mark Go.Proofs.YtjnlooccddnbkaaGreatDoor.Dots
def putE (l : List It) (x : It) : Int := if mayL x.s then (if (find l x.k).isSome = false ∧ 256 ≤ l.length then 6 else 0) else 2
def putL (l : List It) (x : It) : List It := if putE l x = 0 then put x l else l
theorem zero_known {w : World} : (zeroValue 73).run Tryz.prog w = .ok (.agg #[.string ⟨#[]⟩, .slice none 0 0]) w := by kernel_rfl
theorem put_less (l : List It) (q : List UInt8) : (drop q l).length ≤ l.length := List.length_filter_le _ _

set_option maxRecDepth 100000 in
theorem there_any (w : World) (tb mb : Nat) (hc : w.cell? ⟨tb, 0, none⟩ = some (.map (some mb))) :
    Calls Tryz.prog 33 #[.pointer (some ⟨tb, 0, none⟩)] w fun e w' => e = .returned (.bool true) ∧ w = w' := by
  have qm := fun (w : World) (r : Option Nat) => run_neq_map_nil (P := Tryz.prog) w 69 _ _ r Tryz.underlying69
  go_enter Tryz.func33, Tryz.ntmps33
  go_wp2
  go_ret
  exact ⟨rfl, rfl⟩
set_option maxRecDepth 100000 in
theorem there_nil (w : World) :
    Calls Tryz.prog 33 #[.pointer none] w fun e w' => e = .returned (.bool false) ∧ w = w' := by
  go_enter Tryz.func33, Tryz.ntmps33
  go_wp2
  go_ret
  exact ⟨rfl, rfl⟩
set_option maxRecDepth 100000 in
theorem new_any (w : World) :
    Calls Tryz.prog 12 #[] w fun e w' => ∃ tb mb, e = .returned (.pointer (some ⟨tb, 0, none⟩)) ∧ Is w' tb mb 0 [] ∧ w.heap.size ≤ tb ∧ w.heap.size ≤ mb ∧ Below w.heap.size w w' := by
  have hmm := @run_makeMap Tryz.prog
  go_enter Tryz.func12, Tryz.ntmps12
  go_wp2
  go_ret
  refine ⟨w.heap.size + 1, w.heap.size, rfl, ?_, Nat.le_succ _, Nat.le_refl _, balloc (balloc (Below.refl _ _) _) _⟩
  have hm := TextMap.Is.made (P := Tryz.prog) (ks := 9) w
  have hb := heap_alloc_new (w.alloc (.map #[] 0)) (.cells #[.map (some w.heap.size)] 71)
  rw [World.size_alloc] at hb
  exact ⟨hb, ⟨_, hm.alloc _, fun q => rfl⟩, List.Pairwise.nil, by decide, fun x hx => by cases hx⟩
set_option maxRecDepth 100000 in
theorem len_any (w : World) (tb mb n : Nat) (l : List It) (h : Is w tb mb n l) :
    Calls Tryz.prog 21 #[.pointer (some ⟨tb, 0, none⟩)] w fun e w' => e = .returned (.int .i64 (l.length : Int)) ∧ w = w' := by
  have hc := h.cell
  have TH := Lib.hid (there_any w tb mb hc)
  have HU := Lib.hid (up_keys h.up)
  have HM : Hid (∃ f, TextMap.Is Tryz.prog 9 w mb n f ∧ ∀ q, q ∈ l.map It.k ↔ (f q).isSome = true) := by
    obtain ⟨f, hf, he⟩ := h.map
    refine Lib.hid ⟨f, hf, fun q => ?_⟩
    rw [mem_keys h.up]
    have := he q
    cases e : find l q with
    | none => rw [e] at this; rw [show f q = none from this]; simp
    | some x => rw [e] at this; obtain ⟨a, c, e2, _⟩ := this; rw [e2]; simp
  obtain ⟨f, hf, hk⟩ := HM.out
  have HF := Lib.hid hf
  have HK := Lib.hid hk
  have HL : Hid ((l.map It.k).length = l.length) := Lib.hid (List.length_map _)
  clear h hf hk HM
  go_enter Tryz.func21, Tryz.ntmps21
  go_wp2_with fail
  refine TH.out.mono ?_
  rintro e w1 ⟨rfl, rfl⟩
  go_wp2_with (at_len; refine TextMap.wpList_len Tryz.underlying69 Tryz.underlying9 rfl _ rfl mb n f rfl HF.out HU.out HK.out l.length HL.out ?_)
  go_ret
  exact ⟨rfl, rfl⟩
set_option maxRecDepth 100000 in
theorem len_nil (w : World) :
    Calls Tryz.prog 21 #[.pointer none] w fun e w' => e = .returned (.int .i64 0) ∧ w = w' := by
  go_enter Tryz.func21, Tryz.ntmps21
  go_wp2_with fail
  refine (there_nil _).mono ?_
  rintro e w1 ⟨rfl, rfl⟩
  go_wp2
  go_ret
  exact ⟨rfl, rfl⟩
set_option maxRecDepth 100000 in
theorem put_nil (key bs : ByteArray) (v : Value) (w : World) :
    Calls Tryz.prog 13 #[.pointer none, .string key, .string bs, v] w fun e w' => e = .returned (.int .i64 1) ∧ w = w' := by
  go_enter Tryz.func13, Tryz.ntmps13
  go_wp2_with fail
  refine (there_nil _).mono ?_
  rintro e w1 ⟨rfl, rfl⟩
  go_wp2
  go_ret
  exact ⟨rfl, rfl⟩
set_option maxRecDepth 100000 in
set_option maxHeartbeats 2000000 in
theorem put_any (key bs : List UInt8) (s : List M) (a : Option Addr) (c : Nat) (w : World) (tb mb n : Nat) (l : List It) (h : Is w tb mb n l) (hs : Mark.Lies w a s.length s) (hok : Ok s) (hk : key.length ≤ 4294967296) (hbs : bs.length ≤ 4294967296) (hsn : s.length ≤ 1099511627776) (hn : n < 1099511627776) :
    Calls Tryz.prog 13 #[.pointer (some ⟨tb, 0, none⟩), .string ⟨key.toArray⟩, .string ⟨bs.toArray⟩, .slice a s.length c] w fun e w' => e = .returned (.int .i64 (putE l ⟨key, bs, s⟩)) ∧ Is w' tb mb (n + 1) (putL l ⟨key, bs, s⟩) ∧ But mb w w' := by
  have TH := Lib.hid (there_any w tb mb h.cell)
  have MA := Lib.hid (may_any s a s.length c w hs hsn hok)
  have HS := Lib.hid hs
  have OK := Lib.hid hok
  have hkm : key.length ≤ maxLen := by unfold maxLen; omega
  obtain ⟨sn, hsn2⟩ : ∃ sn, sn = s.length := ⟨_, rfl⟩
  rw [← hsn2] at MA HS ⊢
  have HSN := Lib.hid hsn2
  have HSL := Lib.hid hsn
  have HH := Lib.hid h
  have HKM := Lib.hid hkm
  have HKB := Lib.hid (And.intro hk hbs)
  have HN := Lib.hid hn
  obtain ⟨mb1, hmb1⟩ : ∃ b, b = mayL s := ⟨_, rfl⟩
  rw [← hmb1] at MA
  have HM := Lib.hid hmb1
  clear h hs hok hsn hsn2 hkm hk hbs hmb1 hn
  go_enter Tryz.func13, Tryz.ntmps13
  go_wp2_with fail
  refine TH.out.mono ?_
  rintro e w1 ⟨rfl, rfl⟩
  go_wp2_with fail
  refine MA.out.mono ?_
  rintro e w2 ⟨rfl, k2⟩
  have h2 := HH.out.below k2
  have HB := Lib.hid k2
  have HS2 := Lib.hid (HS.out.below k2)
  clear MA k2 TH
  cases mb1
  · go_wp2
    go_ret
    refine ⟨by unfold putE; rw [← HM.out]; rfl, ?_, But.of HB.out⟩
    have e : putE l ⟨key, bs, s⟩ = 2 := by unfold putE; rw [← HM.out]; rfl
    unfold putL
    rw [e]
    exact h2.more (Nat.le_succ _)
  have c0 := h2.cell
  obtain ⟨f, hf, he⟩ := h2.map
  have HF := Lib.hid hf
  have HE := Lib.hid he
  have HMEM := Lib.hid (h2.mem he)
  have H2 := Lib.hid h2
  have HUP := Lib.hid (up_keys h2.up)
  have heq := he key
  have hsm := h2.small
  clear h2 he hf
  cases hfi : find l key with
  | none =>
    rw [hfi] at heq
    have HV : Hid (f key = none) := Lib.hid heq
    clear heq
    have HG : Hid ((f key).getD (.agg #[.string ⟨#[]⟩, .slice none 0 0]) = .agg #[.string ⟨#[]⟩, .slice none 0 0]) := Lib.hid (by rw [HV.out]; rfl)
    have HI : Hid ((f key).isSome = false) := Lib.hid (by rw [HV.out]; rfl)
    have HFI := Lib.hid hfi
    have HLN : (Builtin.len_ #[69] 3 #[.map (some mb)]).run Tryz.prog (w2.alloc (.cells #[.string ⟨#[]⟩, .slice none 0 0] 73)) = .ok (.int .i64 (l.length : Int)) (w2.alloc (.cells #[.string ⟨#[]⟩, .slice none 0 0] 73)) := TextMap.run_len Tryz.underlying69 Tryz.underlying9 (HF.out.alloc _) HUP.out HMEM.out l.length (List.length_map _) _
    have c1 : (w2.alloc (.cells #[.string ⟨#[]⟩, .slice none 0 0] 73)).cell? ⟨tb, 0, none⟩ = some (.map (some mb)) := (World.cell?_alloc_lt _ _ _ H2.out.tlt).trans c0
    by_cases hfull : 256 ≤ l.length
    · have d1 : decide ((l.length : Int) ≥ 256) = true := decide_eq_true (by omega)
      have d2 : decide ((256 : Int) ≤ (l.length : Int)) = true := decide_eq_true (by omega)
      go_wp2_with (at_lookup; refine TextMap.wpList_look_ok Tryz.underlying69 Tryz.underlying9 zero_known rfl _ _ rfl mb n f key rfl HF.out rfl HKM.out (.agg #[.string ⟨#[]⟩, .slice none 0 0]) HG.out false HI.out ?_)
      go_ret
      have e6 : putE l ⟨key, bs, s⟩ = 6 := by unfold putE; rw [← HM.out, if_pos rfl, if_pos ⟨by show (find l key).isSome = false; rw [HFI.out]; rfl, hfull⟩]
      refine ⟨by rw [e6]; rfl, ?_, But.of (balloc HB.out _)⟩
      unfold putL
      rw [e6]
      exact (H2.out.below (balloc (Below.refl _ _) _)).more (Nat.le_succ _)
    · have d1 : decide ((l.length : Int) ≥ 256) = false := decide_eq_false (by omega)
      have d2 : decide ((256 : Int) ≤ (l.length : Int)) = false := decide_eq_false (by omega)
      have ROOM : Hid ((find l key).isSome = false → l.length < 256) := Lib.hid (fun _ => by omega)
      go_upto_region 8 with (at_lookup; refine TextMap.wpList_look_ok Tryz.underlying69 Tryz.underlying9 zero_known rfl _ _ rfl mb n f key rfl HF.out rfl HKM.out (.agg #[.string ⟨#[]⟩, .slice none 0 0]) HG.out false HI.out ?_)
      obtain ⟨w9, hw9⟩ : ∃ v, v = w2.alloc (.cells #[.string ⟨#[]⟩, .slice none 0 0] 73) := ⟨_, rfl⟩
      have KB : Hid (Below w2.heap.size w2 w9) := Lib.hid (by rw [hw9]; exact balloc (Below.refl _ _) _)
      have H9 := Lib.hid (H2.out.below KB.out)
      have HF9 := Lib.hid (HF.out.below KB.out)
      have HE9 : Hid (∀ q, Ent w9 tb mb (f q) (find l q)) := Lib.hid (fun q => (HE.out q).moved KB.out.size (fun j _ _ hj => .inl (KB.out.block j hj)))
      have HB9 := Lib.hid (bstep HB.out KB.out)
      rw [← hw9]
      clear hw9 HLN c1 hfull d1 d2
      have hcw := H9.out.cell
      go_wp2_with fail
      have LS := Lib.hid (HS2.out.below KB.out)
      have c9 := hcw
      refine wp_region_noPanic ?_
      refine wp_region_held_drew (S := (fun w' => w'.cell? ⟨tb, 0, none⟩ = some (.map (some mb)))) (by kernel_rfl) ((Below.drew (Below.refl _ _)).cell (p := ⟨tb, 0, none⟩) H9.out.tlt |>.trans hcw) (fun hHeld => ?_)
      refine wpAnyH_take (i := 0) (v := ?_) (by simp only [List.getElem?_toArray, List.getElem?_cons_zero]; rfl) (by kernel_rfl) (by kernel_rfl) (by kernel_rfl) (fun _ _ _ h => h) (Or.inl ⟨by rfl, ?_⟩) (by assumption) ?_
      rotate_left
      · (intro w hSw; (try dsimp only at hSw); go_simp; try with_reducible rfl)
      try simp only [Act.put, List.setIfInBounds_toArray, List.set_cons_zero, List.set_cons_succ]
      refine wpAnyH_take (i := 1) (v := ?_) (by simp only [List.getElem?_toArray, List.getElem?_cons_succ, List.getElem?_cons_zero]; rfl) (by kernel_rfl) (by kernel_rfl) (by kernel_rfl) (fun _ _ _ h => h) (Or.inl ⟨by rfl, ?_⟩) (by assumption) ?_
      rotate_left
      · (intro w hSw; (try dsimp only at hSw); go_simp; try with_reducible rfl)
      try simp only [Act.put, List.setIfInBounds_toArray, List.set_cons_zero, List.set_cons_succ]
      refine wpAnyH_take (i := 2) (v := ?_) (by simp only [List.getElem?_toArray, List.getElem?_cons_succ, List.getElem?_cons_zero]; rfl) (by kernel_rfl) (by kernel_rfl) (by kernel_rfl) (fun _ _ _ h => h) (Or.inl ⟨by rfl, ?_⟩) (by assumption) ?_
      rotate_left
      · (intro w hSw; (try dsimp only at hSw); go_simp; try with_reducible rfl)
      try simp only [Act.put, List.setIfInBounds_toArray, List.set_cons_zero, List.set_cons_succ]
      refine wpAnyH_take (i := 3) (v := ?_) (by simp only [List.getElem?_toArray, List.getElem?_cons_succ, List.getElem?_cons_zero]; rfl) (by kernel_rfl) (by kernel_rfl) (by kernel_rfl) (fun _ _ _ h => h) (Or.inl ⟨by rfl, ?_⟩) (by assumption) ?_
      rotate_left
      · (intro w hSw; (try dsimp only at hSw); go_simp; try with_reducible rfl)
      try simp only [Act.put, List.setIfInBounds_toArray, List.set_cons_zero, List.set_cons_succ]
      refine wpAnyH_take (i := 4) (v := ?_) (by simp only [List.getElem?_toArray, List.getElem?_cons_succ, List.getElem?_cons_zero]; rfl) (by kernel_rfl) (by kernel_rfl) (by kernel_rfl) (fun _ _ _ h => h) (Or.inl ⟨by rfl, ?_⟩) (by assumption) ?_
      rotate_left
      · (intro w hSw; (try dsimp only at hSw); go_simp; try with_reducible rfl)
      try simp only [Act.put, List.setIfInBounds_toArray, List.set_cons_zero, List.set_cons_succ]
      refine wpAnyH_take (i := 5) (v := ?_) (by simp only [List.getElem?_toArray, List.getElem?_cons_succ, List.getElem?_cons_zero]; rfl) (by kernel_rfl) (by kernel_rfl) (by kernel_rfl) (fun _ _ _ h => h) (Or.inl ⟨by rfl, ?_⟩) (by assumption) ?_
      rotate_left
      · (intro w hSw; (try dsimp only at hSw); go_simp; try with_reducible rfl)
      try simp only [Act.put, List.setIfInBounds_toArray, List.set_cons_zero, List.set_cons_succ]
      refine wpAnyH_take (i := 6) (v := ?_) (by simp only [List.getElem?_toArray, List.getElem?_cons_succ, List.getElem?_cons_zero]; rfl) (by kernel_rfl) (by kernel_rfl) (by kernel_rfl) (fun _ _ _ h => h) (Or.inl ⟨by rfl, ?_⟩) (by assumption) ?_
      rotate_left
      · (intro w hSw; (try dsimp only at hSw); go_simp; try with_reducible rfl)
      try simp only [Act.put, List.setIfInBounds_toArray, List.set_cons_zero, List.set_cons_succ]
      refine wpAnyH_ready (rs := [7]) (by kernel_rfl) (by simp) ?_
      refine AllReadyH.cons (by simp only [List.getElem?_toArray, List.getElem?_cons_succ, List.getElem?_cons_zero]; rfl) (fun K hK => ?_) AllReadyH.nil
      go_simp
      go_at_call 34
      refine (clone_any s a sn c _ (LS.out.below (Below.drew (Below.refl _ _))) (by have := HSL.out; have := HSN.out; omega)).mono ?_
      rintro e v7 ⟨v, rfl, ho, k7⟩
      obtain ⟨a7, c7, rfl, -, -, hl7, hp7⟩ := ho.lies
      have k8 := (Below.drew (Below.refl _ w9)).trans k7
      have HA := Lib.hid (H9.out.below k8)
      have c10 := HA.out.cell
      have HEA : Hid (∀ q, Ent v7 tb mb (f q) (find l q)) := Lib.hid (fun q => (HE9.out q).moved k8.size (fun j _ _ hj => .inl (k8.block j hj)))
      have HFA := Lib.hid (HF9.out.below k8)
      have HX7 : Hid (Ent v7 tb mb (some (.agg #[.string ⟨bs.toArray⟩, .slice a7 s.length c7])) (some ⟨key, bs, s⟩)) := Lib.hid ⟨a7, c7, rfl, hl7, fun p ep => by have h1 := hp7 p ep; have := H9.out.tlt; have := H9.out.mlt; have h2 : w9.heap.size ≤ p.block := h1; exact ⟨by omega, by omega, own_low ho p ep, own_typed ho p ep⟩⟩
      have HB8 := Lib.hid (bstep HB9.out k8)
      clear ho k7 k8 hl7 hp7
      go_wp2_with fail
      refine hK.out _ _ (c10) (fun hHeld => ?_)
      clear hK K
      try simp only [Act.put, List.setIfInBounds_toArray, List.set_cons_zero, List.set_cons_succ]
      refine wpAnyH_take (i := 8) (v := ?_) (by simp only [List.getElem?_toArray, List.getElem?_cons_succ, List.getElem?_cons_zero]; rfl) (by kernel_rfl) (by kernel_rfl) (by kernel_rfl) (fun _ _ _ h => h) (Or.inl ⟨by rfl, ?_⟩) (by assumption) ?_
      rotate_left
      · (intro w hSw; (try dsimp only at hSw); go_simp; try with_reducible rfl)
      try simp only [Act.put, List.setIfInBounds_toArray, List.set_cons_zero, List.set_cons_succ]
      refine wpAnyH_ready (rs := [9]) (by kernel_rfl) (by simp) ?_
      refine AllReadyH.cons (by simp only [List.getElem?_toArray, List.getElem?_cons_succ, List.getElem?_cons_zero]; rfl) (fun K hK => ?_) AllReadyH.nil
      refine TextMap.step_put Tryz.underlying69 Tryz.underlying9 rfl _ _ _ rfl mb n f key (.agg #[.string ⟨bs.toArray⟩, .slice a7 s.length c7]) rfl HFA.out (by have := HN.out; unfold maxLen; omega) rfl HKM.out rfl ?_
      intro w8 S8 k8
      have R := Lib.hid (HA.out.put HEA.out ⟨key, bs, s⟩ HX7.out S8 k8 ROOM.out ⟨HKB.out.1, HKB.out.2, HM.out.symm, OK.out⟩)
      have BT := Lib.hid ((But.of HB8.out).trans (but_grown k8))
      refine hK.out _ _ (R.out.cell) (fun hHeld => ?_)
      clear hK K
      refine wpAnyH_done (by kernel_rfl) ?_ _
      refine NoPanic.normal ?_
      clear hHeld
      go_wp2
      go_ret
      have e0 : putE l ⟨key, bs, s⟩ = 0 := by unfold putE; rw [← HM.out, if_pos rfl, if_neg (fun h => by have := ROOM.out h.1; omega)]
      exact ⟨by rw [e0]; rfl, by unfold putL; rw [if_pos e0]; exact R.out, BT.out⟩
  | some x0 =>
    rw [hfi] at heq
    obtain ⟨a0, cp0, hv0, -, -⟩ := heq
    have HG : Hid ((f key).getD (.agg #[.string ⟨#[]⟩, .slice none 0 0]) = .agg #[.string ⟨x0.b.toArray⟩, .slice a0 x0.s.length cp0]) := Lib.hid (by rw [hv0]; rfl)
    have HI : Hid ((f key).isSome = true) := Lib.hid (by rw [hv0]; rfl)
    have ROOM : Hid ((find l key).isSome = false → l.length < 256) := Lib.hid (fun h => by rw [hfi] at h; cases h)
    clear hv0 hfi
    go_upto_region 8 with (at_lookup; refine TextMap.wpList_look_ok Tryz.underlying69 Tryz.underlying9 zero_known rfl _ _ rfl mb n f key rfl HF.out rfl HKM.out (.agg #[.string ⟨x0.b.toArray⟩, .slice a0 x0.s.length cp0]) HG.out true HI.out ?_)
    obtain ⟨w9, hw9⟩ : ∃ v, v = w2.alloc (.cells #[.string ⟨x0.b.toArray⟩, .slice a0 x0.s.length cp0] 73) := ⟨_, rfl⟩
    have KB : Hid (Below w2.heap.size w2 w9) := Lib.hid (by rw [hw9]; exact balloc (Below.refl _ _) _)
    have H9 := Lib.hid (H2.out.below KB.out)
    have HF9 := Lib.hid (HF.out.below KB.out)
    have HE9 : Hid (∀ q, Ent w9 tb mb (f q) (find l q)) := Lib.hid (fun q => (HE.out q).moved KB.out.size (fun j _ _ hj => .inl (KB.out.block j hj)))
    have HB9 := Lib.hid (bstep HB.out KB.out)
    rw [← hw9]
    clear hw9
    have hcw := H9.out.cell
    go_wp2_with fail
    have LS := Lib.hid (HS2.out.below KB.out)
    have c9 := hcw
    refine wp_region_noPanic ?_
    refine wp_region_held_drew (S := (fun w' => w'.cell? ⟨tb, 0, none⟩ = some (.map (some mb)))) (by kernel_rfl) ((Below.drew (Below.refl _ _)).cell (p := ⟨tb, 0, none⟩) H9.out.tlt |>.trans hcw) (fun hHeld => ?_)
    refine wpAnyH_take (i := 0) (v := ?_) (by simp only [List.getElem?_toArray, List.getElem?_cons_zero]; rfl) (by kernel_rfl) (by kernel_rfl) (by kernel_rfl) (fun _ _ _ h => h) (Or.inl ⟨by rfl, ?_⟩) (by assumption) ?_
    rotate_left
    · (intro w hSw; (try dsimp only at hSw); go_simp; try with_reducible rfl)
    try simp only [Act.put, List.setIfInBounds_toArray, List.set_cons_zero, List.set_cons_succ]
    refine wpAnyH_take (i := 1) (v := ?_) (by simp only [List.getElem?_toArray, List.getElem?_cons_succ, List.getElem?_cons_zero]; rfl) (by kernel_rfl) (by kernel_rfl) (by kernel_rfl) (fun _ _ _ h => h) (Or.inl ⟨by rfl, ?_⟩) (by assumption) ?_
    rotate_left
    · (intro w hSw; (try dsimp only at hSw); go_simp; try with_reducible rfl)
    try simp only [Act.put, List.setIfInBounds_toArray, List.set_cons_zero, List.set_cons_succ]
    refine wpAnyH_take (i := 2) (v := ?_) (by simp only [List.getElem?_toArray, List.getElem?_cons_succ, List.getElem?_cons_zero]; rfl) (by kernel_rfl) (by kernel_rfl) (by kernel_rfl) (fun _ _ _ h => h) (Or.inl ⟨by rfl, ?_⟩) (by assumption) ?_
    rotate_left
    · (intro w hSw; (try dsimp only at hSw); go_simp; try with_reducible rfl)
    try simp only [Act.put, List.setIfInBounds_toArray, List.set_cons_zero, List.set_cons_succ]
    refine wpAnyH_take (i := 3) (v := ?_) (by simp only [List.getElem?_toArray, List.getElem?_cons_succ, List.getElem?_cons_zero]; rfl) (by kernel_rfl) (by kernel_rfl) (by kernel_rfl) (fun _ _ _ h => h) (Or.inl ⟨by rfl, ?_⟩) (by assumption) ?_
    rotate_left
    · (intro w hSw; (try dsimp only at hSw); go_simp; try with_reducible rfl)
    try simp only [Act.put, List.setIfInBounds_toArray, List.set_cons_zero, List.set_cons_succ]
    refine wpAnyH_take (i := 4) (v := ?_) (by simp only [List.getElem?_toArray, List.getElem?_cons_succ, List.getElem?_cons_zero]; rfl) (by kernel_rfl) (by kernel_rfl) (by kernel_rfl) (fun _ _ _ h => h) (Or.inl ⟨by rfl, ?_⟩) (by assumption) ?_
    rotate_left
    · (intro w hSw; (try dsimp only at hSw); go_simp; try with_reducible rfl)
    try simp only [Act.put, List.setIfInBounds_toArray, List.set_cons_zero, List.set_cons_succ]
    refine wpAnyH_take (i := 5) (v := ?_) (by simp only [List.getElem?_toArray, List.getElem?_cons_succ, List.getElem?_cons_zero]; rfl) (by kernel_rfl) (by kernel_rfl) (by kernel_rfl) (fun _ _ _ h => h) (Or.inl ⟨by rfl, ?_⟩) (by assumption) ?_
    rotate_left
    · (intro w hSw; (try dsimp only at hSw); go_simp; try with_reducible rfl)
    try simp only [Act.put, List.setIfInBounds_toArray, List.set_cons_zero, List.set_cons_succ]
    refine wpAnyH_take (i := 6) (v := ?_) (by simp only [List.getElem?_toArray, List.getElem?_cons_succ, List.getElem?_cons_zero]; rfl) (by kernel_rfl) (by kernel_rfl) (by kernel_rfl) (fun _ _ _ h => h) (Or.inl ⟨by rfl, ?_⟩) (by assumption) ?_
    rotate_left
    · (intro w hSw; (try dsimp only at hSw); go_simp; try with_reducible rfl)
    try simp only [Act.put, List.setIfInBounds_toArray, List.set_cons_zero, List.set_cons_succ]
    refine wpAnyH_ready (rs := [7]) (by kernel_rfl) (by simp) ?_
    refine AllReadyH.cons (by simp only [List.getElem?_toArray, List.getElem?_cons_succ, List.getElem?_cons_zero]; rfl) (fun K hK => ?_) AllReadyH.nil
    go_simp
    go_at_call 34
    refine (clone_any s a sn c _ (LS.out.below (Below.drew (Below.refl _ _))) (by have := HSL.out; have := HSN.out; omega)).mono ?_
    rintro e v7 ⟨v, rfl, ho, k7⟩
    obtain ⟨a7, c7, rfl, -, -, hl7, hp7⟩ := ho.lies
    have k8 := (Below.drew (Below.refl _ w9)).trans k7
    have HA := Lib.hid (H9.out.below k8)
    have c10 := HA.out.cell
    have HEA : Hid (∀ q, Ent v7 tb mb (f q) (find l q)) := Lib.hid (fun q => (HE9.out q).moved k8.size (fun j _ _ hj => .inl (k8.block j hj)))
    have HFA := Lib.hid (HF9.out.below k8)
    have HX7 : Hid (Ent v7 tb mb (some (.agg #[.string ⟨bs.toArray⟩, .slice a7 s.length c7])) (some ⟨key, bs, s⟩)) := Lib.hid ⟨a7, c7, rfl, hl7, fun p ep => by have h1 := hp7 p ep; have := H9.out.tlt; have := H9.out.mlt; have h2 : w9.heap.size ≤ p.block := h1; exact ⟨by omega, by omega, own_low ho p ep, own_typed ho p ep⟩⟩
    have HB8 := Lib.hid (bstep HB9.out k8)
    clear ho k7 k8 hl7 hp7
    go_wp2_with fail
    refine hK.out _ _ (c10) (fun hHeld => ?_)
    clear hK K
    try simp only [Act.put, List.setIfInBounds_toArray, List.set_cons_zero, List.set_cons_succ]
    refine wpAnyH_take (i := 8) (v := ?_) (by simp only [List.getElem?_toArray, List.getElem?_cons_succ, List.getElem?_cons_zero]; rfl) (by kernel_rfl) (by kernel_rfl) (by kernel_rfl) (fun _ _ _ h => h) (Or.inl ⟨by rfl, ?_⟩) (by assumption) ?_
    rotate_left
    · (intro w hSw; (try dsimp only at hSw); go_simp; try with_reducible rfl)
    try simp only [Act.put, List.setIfInBounds_toArray, List.set_cons_zero, List.set_cons_succ]
    refine wpAnyH_ready (rs := [9]) (by kernel_rfl) (by simp) ?_
    refine AllReadyH.cons (by simp only [List.getElem?_toArray, List.getElem?_cons_succ, List.getElem?_cons_zero]; rfl) (fun K hK => ?_) AllReadyH.nil
    refine TextMap.step_put Tryz.underlying69 Tryz.underlying9 rfl _ _ _ rfl mb n f key (.agg #[.string ⟨bs.toArray⟩, .slice a7 s.length c7]) rfl HFA.out (by have := HN.out; unfold maxLen; omega) rfl HKM.out rfl ?_
    intro w8 S8 k8
    have R := Lib.hid (HA.out.put HEA.out ⟨key, bs, s⟩ HX7.out S8 k8 ROOM.out ⟨HKB.out.1, HKB.out.2, HM.out.symm, OK.out⟩)
    have BT := Lib.hid ((But.of HB8.out).trans (but_grown k8))
    refine hK.out _ _ (R.out.cell) (fun hHeld => ?_)
    clear hK K
    refine wpAnyH_done (by kernel_rfl) ?_ _
    refine NoPanic.normal ?_
    clear hHeld
    go_wp2
    go_ret
    have e0 : putE l ⟨key, bs, s⟩ = 0 := by unfold putE; rw [← HM.out, if_pos rfl, if_neg (fun h => by have := ROOM.out h.1; omega)]
    exact ⟨by rw [e0]; rfl, by unfold putL; rw [if_pos e0]; exact R.out, BT.out⟩
set_option maxRecDepth 100000 in
theorem drop_nil (key : ByteArray) (w : World) :
    Calls Tryz.prog 20 #[.pointer none, .string key] w fun e w' => e = .returned (.bool false) ∧ w = w' := by
  go_enter Tryz.func20, Tryz.ntmps20
  go_wp2_with fail
  refine (there_nil _).mono ?_
  rintro e w1 ⟨rfl, rfl⟩
  go_wp2
  go_ret
  exact ⟨rfl, rfl⟩
set_option maxRecDepth 100000 in
set_option maxHeartbeats 2000000 in
theorem drop_any (key : List UInt8) (w : World) (tb mb n : Nat) (l : List It) (h : Is w tb mb n l) (hk : key.length ≤ 1099511627776) :
    Calls Tryz.prog 20 #[.pointer (some ⟨tb, 0, none⟩), .string ⟨key.toArray⟩] w fun e w' => e = .returned (.bool (find l key).isSome) ∧ Is w' tb mb n (drop key l) ∧ But mb w w' := by
  have TH := Lib.hid (there_any w tb mb h.cell)
  have HKM : Hid (key.length ≤ maxLen) := Lib.hid (by unfold maxLen; omega)
  have c0 := h.cell
  have H2 := Lib.hid h
  have hlt := h.tlt
  obtain ⟨f, hf, he⟩ := h.map
  have HF := Lib.hid hf
  have HE := Lib.hid he
  have heq := he key
  clear h he hf
  go_enter Tryz.func20, Tryz.ntmps20
  go_wp2_with fail
  refine TH.out.mono ?_
  rintro e w1 ⟨rfl, rfl⟩
  cases hfi : find l key with
  | none =>
    rw [hfi] at heq
    have hv0 : f key = none := heq
    clear heq
    have HG : Hid ((f key).getD (.agg #[.string ⟨#[]⟩, .slice none 0 0]) = .agg #[.string ⟨#[]⟩, .slice none 0 0]) := Lib.hid (by rw [hv0]; rfl)
    have HI : Hid ((f key).isSome = false) := Lib.hid (by rw [hv0]; rfl)
    have HFI := Lib.hid hfi
    have c1 : (w.alloc (.cells #[.string ⟨#[]⟩, .slice none 0 0] 73)).cell? ⟨tb, 0, none⟩ = some (.map (some mb)) := (World.cell?_alloc_lt _ _ _ hlt).trans c0
    clear hv0 hfi
    go_wp2_with (first | (at_lookup; refine TextMap.wpList_look_ok Tryz.underlying69 Tryz.underlying9 zero_known rfl _ _ rfl mb n f key rfl HF.out rfl HKM.out (.agg #[.string ⟨#[]⟩, .slice none 0 0]) HG.out false HI.out ?_) | (at_delete; refine TextMap.wpList_drop Tryz.underlying69 Tryz.underlying9 rfl _ _ rfl mb n f key rfl (HF.out.alloc _) rfl HKM.out ?_; intro w8 S8 k8))
    go_ret
    have kb := balloc (Below.refl w.heap.size w) (.cells #[.string ⟨#[]⟩, .slice none 0 0] 73)
    exact ⟨by rw [HFI.out]; rfl, (H2.out.below kb).drop (fun q => (HE.out q).moved kb.size (fun j _ _ hj => .inl (kb.block j hj))) key S8 k8, (But.of kb).trans (but_grown k8)⟩
  | some x0 =>
    rw [hfi] at heq
    obtain ⟨a0, cp0, hv0, -, -⟩ := heq
    have HG : Hid ((f key).getD (.agg #[.string ⟨#[]⟩, .slice none 0 0]) = .agg #[.string ⟨x0.b.toArray⟩, .slice a0 x0.s.length cp0]) := Lib.hid (by rw [hv0]; rfl)
    have HI : Hid ((f key).isSome = true) := Lib.hid (by rw [hv0]; rfl)
    have HFI := Lib.hid hfi
    have c1 : (w.alloc (.cells #[.string ⟨x0.b.toArray⟩, .slice a0 x0.s.length cp0] 73)).cell? ⟨tb, 0, none⟩ = some (.map (some mb)) := (World.cell?_alloc_lt _ _ _ hlt).trans c0
    clear hv0 hfi
    go_wp2_with (first | (at_lookup; refine TextMap.wpList_look_ok Tryz.underlying69 Tryz.underlying9 zero_known rfl _ _ rfl mb n f key rfl HF.out rfl HKM.out (.agg #[.string ⟨x0.b.toArray⟩, .slice a0 x0.s.length cp0]) HG.out true HI.out ?_) | (at_delete; refine TextMap.wpList_drop Tryz.underlying69 Tryz.underlying9 rfl _ _ rfl mb n f key rfl (HF.out.alloc _) rfl HKM.out ?_; intro w8 S8 k8))
    go_ret
    have kb := balloc (Below.refl w.heap.size w) (.cells #[.string ⟨x0.b.toArray⟩, .slice a0 x0.s.length cp0] 73)
    exact ⟨by rw [HFI.out]; rfl, (H2.out.below kb).drop (fun q => (HE.out q).moved kb.size (fun j _ _ hj => .inl (kb.block j hj))) key S8 k8, (But.of kb).trans (but_grown k8)⟩
end Tree
end Go.Proofs.YtjnlooccddnbkaaGreatDoor
