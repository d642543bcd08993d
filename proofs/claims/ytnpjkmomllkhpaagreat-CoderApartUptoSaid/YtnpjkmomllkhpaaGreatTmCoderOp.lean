/- coder: updates as bytes. -/
import Derived.Test.YtnpjkmomllkhpaaGreatTake
import Derived.Test.YtnpjkmomllkhpaaGreatTmCoderWrite
import Derived.Test.YtnpjkmomllkhpaaGreatTmNumA
namespace Go.Proofs.YtnpjkmomllkhpaaGreat
namespace Coder
open Go.RowKit Go.Proofs.YtnpjkmomllkhpaaGreat.Mark Go.Proofs.YtnpjkmomllkhpaaGreat.Num Go.Proofs.YtnpjkmomllkhpaaGreat.Wire
structure O.Ok (x : O) : Prop where
  d : x.d ≤ 255
  k : x.k.length ≤ 1048576
  n : -9223372036854775808 ≤ x.n ∧ x.n ≤ 9223372036854775807
  t : x.t.length ≤ 1048576
set_option maxRecDepth 100000 in
set_option maxHeartbeats 40000000 in
theorem op_any (x : O) (w : World) (ok : x.Ok) :
    Calls Tryz.prog 29 #[.agg #[.int .u8 (x.d : Int), .string ⟨x.k.toArray⟩, .int .i64 x.n, .string ⟨x.t.toArray⟩]] w fun e w' => e = .returned (.string ⟨(opb x).toArray⟩) ∧ Below w.heap.size w w' := by
  have hb := Below.refl w.heap.size w
  have ok1 := ok.d
  have ok2 := ok.k
  have ok3 := ok.t
  have OK := Lib.hid ok
  have tb := turn_bound x.n ok.n.1 ok.n.2
  clear ok
  have w8 : IntKind.u64.wrap (x.d : Int) = (x.d : Int) := by rw [IntKind.wrap_u64]; omega
  obtain ⟨q, hq⟩ : ∃ q, q = (turn x.n).toNat := ⟨_, rfl⟩
  have hq2 : turn x.n = (q : Int) := by omega
  have hq3 : q ≤ 18446744073709551615 := by omega
  have TU := Lib.hid (fun W => (by rw [← hq2]; exact turn_any x.n W OK.out.n.1 OK.out.n.2 : Calls Tryz.prog 56 #[.int .i64 x.n] W fun e W' => e = .returned (.int .u64 (q : Nat)) ∧ W = W'))
  obtain ⟨p0, hp0⟩ : ∃ p, p = upL x.d := ⟨_, rfl⟩
  obtain ⟨p1, hp1⟩ : ∃ p, p = tx x.k := ⟨_, rfl⟩
  obtain ⟨p2, hp2⟩ : ∃ p, p = upL q := ⟨_, rfl⟩
  obtain ⟨p3, hp3⟩ : ∃ p, p = tx x.t := ⟨_, rfl⟩
  have b0 : p0.length ≤ 1048586 := by rw [hp0]; have := up_len x.d; omega
  have b1 : p1.length ≤ 1048586 := by rw [hp1]; have := tx_len x.k; omega
  have b2 : p2.length ≤ 1048586 := by rw [hp2]; have := up_len q; omega
  have b3 : p3.length ≤ 1048586 := by rw [hp3]; have := tx_len x.t; omega
  have R0 : Hid (cat [x.d] = p0) := Lib.hid (by rw [hp0]; simp [cat])
  have R1 : Hid ([x.k].flatMap tx = p1) := Lib.hid (by rw [hp1]; simp)
  have R2 : Hid (cat [q] = p2) := Lib.hid (by rw [hp2]; simp [cat])
  have R3 : Hid ([x.t].flatMap tx = p3) := Lib.hid (by rw [hp3]; simp)
  have z0 := Str.size_mk p0
  have z1 := Str.size_mk p1
  have z2 := Str.size_mk p2
  have z3 := Str.size_mk p3
  obtain ⟨C1, hC1⟩ : ∃ p, p = p0 ++ p1 := ⟨_, rfl⟩
  have lC1 : C1.length = p0.length + p1.length := by rw [hC1, List.length_append]
  have aC1 : (({ data := p0.toArray } : ByteArray)) ++ { data := p1.toArray } = { data := C1.toArray } := by rw [hC1]; exact Str.mk_append_mk p0 p1
  have zC1 := Str.size_mk C1
  have nC1 : ¬ (9223372036854775807 < p0.length + p1.length) := by omega
  have mC1 : ¬ (p0.length + p1.length > 9223372036854775807) := by omega
  obtain ⟨C2, hC2⟩ : ∃ p, p = C1 ++ p2 := ⟨_, rfl⟩
  have lC2 : C2.length = C1.length + p2.length := by rw [hC2, List.length_append]
  have aC2 : (({ data := C1.toArray } : ByteArray)) ++ { data := p2.toArray } = { data := C2.toArray } := by rw [hC2]; exact Str.mk_append_mk C1 p2
  have zC2 := Str.size_mk C2
  have nC2 : ¬ (9223372036854775807 < C1.length + p2.length) := by omega
  have mC2 : ¬ (C1.length + p2.length > 9223372036854775807) := by omega
  obtain ⟨C3, hC3⟩ : ∃ p, p = C2 ++ p3 := ⟨_, rfl⟩
  have lC3 : C3.length = C2.length + p3.length := by rw [hC3, List.length_append]
  have aC3 : (({ data := C2.toArray } : ByteArray)) ++ { data := p3.toArray } = { data := C3.toArray } := by rw [hC3]; exact Str.mk_append_mk C2 p3
  have zC3 := Str.size_mk C3
  have nC3 : ¬ (9223372036854775807 < C2.length + p3.length) := by omega
  have mC3 : ¬ (C2.length + p3.length > 9223372036854775807) := by omega
  have HV : Hid (opb x = C3) := Lib.hid (by rw [hC3, hC2, hC1, hp0, hp1, hp2, hp3, hq]; rfl)
  replace hC1 := Lib.hid hC1
  replace lC1 := Lib.hid lC1
  replace hC2 := Lib.hid hC2
  replace lC2 := Lib.hid lC2
  replace hC3 := Lib.hid hC3
  replace lC3 := Lib.hid lC3
  clear hp0 hp1 hp2 hp3 hq hq2 tb
  have X0 := Lib.hid (box_cells w #[.int .u8 (x.d : Int), .string ⟨x.k.toArray⟩, .int .i64 x.n, .string ⟨x.t.toArray⟩] 37 0 (.int .u8 (x.d : Int)) rfl)
  have X1 := Lib.hid (box_cells w #[.int .u8 (x.d : Int), .string ⟨x.k.toArray⟩, .int .i64 x.n, .string ⟨x.t.toArray⟩] 37 1 (.string ⟨x.k.toArray⟩) rfl)
  have X2 := Lib.hid (box_cells w #[.int .u8 (x.d : Int), .string ⟨x.k.toArray⟩, .int .i64 x.n, .string ⟨x.t.toArray⟩] 37 2 (.int .i64 x.n) rfl)
  have X3 := Lib.hid (box_cells w #[.int .u8 (x.d : Int), .string ⟨x.k.toArray⟩, .int .i64 x.n, .string ⟨x.t.toArray⟩] 37 3 (.string ⟨x.t.toArray⟩) rfl)
  go_enter Tryz.func29, Tryz.ntmps29
  go_wp2_with fail
  replace hb := bstep hb (balloc (Below.refl _ _) (.cells #[.int .u8 (x.d : Int), .string ⟨x.k.toArray⟩, .int .i64 x.n, .string ⟨x.t.toArray⟩] 37))
  have x0 := X0.out
  have x1 := X1.out
  have x2 := X2.out
  have x3 := X3.out
  clear X0 X1 X2 X3
  refine wp_region_noPanic ?_
  refine wp_region_held_drew (S := (fun w' => Below w.heap.size w w' ∧ w'.cell? ⟨w.heap.size, 0, none⟩ = some (.int .u8 (x.d : Int)) ∧ w'.cell? ⟨w.heap.size, 1, none⟩ = some (.string ⟨x.k.toArray⟩) ∧ w'.cell? ⟨w.heap.size, 2, none⟩ = some (.int .i64 x.n) ∧ w'.cell? ⟨w.heap.size, 3, none⟩ = some (.string ⟨x.t.toArray⟩))) (by kernel_rfl) (⟨Below.drew hb, Coder.keepC x0 (Below.drew (Below.refl _ _)), Coder.keepC x1 (Below.drew (Below.refl _ _)), Coder.keepC x2 (Below.drew (Below.refl _ _)), Coder.keepC x3 (Below.drew (Below.refl _ _))⟩) (fun hHeld => ?_)
  revert hHeld
  generalize World.drew _ = wd
  intro hHeld
  refine tk 0 ?_
  try simp only [Act.put, List.setIfInBounds_toArray, List.set_cons_zero, List.set_cons_succ]
  refine tk 1 ?_
  try simp only [Act.put, List.setIfInBounds_toArray, List.set_cons_zero, List.set_cons_succ]
  refine tk 2 ?_
  try simp only [Act.put, List.setIfInBounds_toArray, List.set_cons_zero, List.set_cons_succ]
  refine tk 5 ?_
  try simp only [Act.put, List.setIfInBounds_toArray, List.set_cons_zero, List.set_cons_succ]
  refine tk 6 ?_
  try simp only [Act.put, List.setIfInBounds_toArray, List.set_cons_zero, List.set_cons_succ]
  refine tk 10 ?_
  try simp only [Act.put, List.setIfInBounds_toArray, List.set_cons_zero, List.set_cons_succ]
  refine tk 11 ?_
  try simp only [Act.put, List.setIfInBounds_toArray, List.set_cons_zero, List.set_cons_succ]
  refine tk 16 ?_
  try simp only [Act.put, List.setIfInBounds_toArray, List.set_cons_zero, List.set_cons_succ]
  refine tk 17 ?_
  try simp only [Act.put, List.setIfInBounds_toArray, List.set_cons_zero, List.set_cons_succ]
  refine wpAnyH_ready (rs := [3, 7, 18]) (by kernel_rfl) (by simp) ?_
  refine AllReadyH.cons (by simp only [List.getElem?_toArray, List.getElem?_cons_succ, List.getElem?_cons_zero]; rfl) (fun K hK => ?_) (AllReadyH.cons (by simp only [List.getElem?_toArray, List.getElem?_cons_succ, List.getElem?_cons_zero]; rfl) (fun K hK => ?_) (AllReadyH.cons (by simp only [List.getElem?_toArray, List.getElem?_cons_succ, List.getElem?_cons_zero]; rfl) (fun K hK => ?_) (AllReadyH.nil)))
  · skip
    go_simp
    refine hK.out _ _ (⟨bstep hHeld.1 (balloc (Below.refl _ _) _), Coder.keepC hHeld.2.1 (balloc (Below.refl _ _) _), Coder.keepC hHeld.2.2.1 (balloc (Below.refl _ _) _), Coder.keepC hHeld.2.2.2.1 (balloc (Below.refl _ _) _), Coder.keepC hHeld.2.2.2.2 (balloc (Below.refl _ _) _)⟩) (fun hHeld => ?_)
    clear hK K
    try simp only [Act.put, List.setIfInBounds_toArray, List.set_cons_zero, List.set_cons_succ]
    have N3 := nats_here [x.d] (by intro y hy; simp at hy; omega) rfl 1 rfl hHeld.1
    try simp only [World.size_alloc] at N3
    refine wpAnyH_ready (rs := [4, 7, 18]) (by kernel_rfl) (by simp) ?_
    refine AllReadyH.cons (by simp only [List.getElem?_toArray, List.getElem?_cons_succ, List.getElem?_cons_zero]; rfl) (fun K hK => ?_) (AllReadyH.cons (by simp only [List.getElem?_toArray, List.getElem?_cons_succ, List.getElem?_cons_zero]; rfl) (fun K hK => ?_) (AllReadyH.cons (by simp only [List.getElem?_toArray, List.getElem?_cons_succ, List.getElem?_cons_zero]; rfl) (fun K hK => ?_) (AllReadyH.nil)))
    · skip
      go_simp
      go_at_call 55
      refine (nums_w N3 (by omega) p0 R0.out).mono ?_
      rintro e v1 ⟨rfl, k1⟩
      replace N3 := (N3).below rfl k1
      go_wp2_with fail
      refine hK.out _ _ (⟨bstep hHeld.1 k1, Coder.keepC hHeld.2.1 k1, Coder.keepC hHeld.2.2.1 k1, Coder.keepC hHeld.2.2.2.1 k1, Coder.keepC hHeld.2.2.2.2 k1⟩) (fun hHeld => ?_)
      clear hK K k1
      try simp only [Act.put, List.setIfInBounds_toArray, List.set_cons_zero, List.set_cons_succ]
      refine wpAnyH_ready (rs := [7, 18]) (by kernel_rfl) (by simp) ?_
      refine AllReadyH.cons (by simp only [List.getElem?_toArray, List.getElem?_cons_succ, List.getElem?_cons_zero]; rfl) (fun K hK => ?_) (AllReadyH.cons (by simp only [List.getElem?_toArray, List.getElem?_cons_succ, List.getElem?_cons_zero]; rfl) (fun K hK => ?_) (AllReadyH.nil))
      · skip
        go_simp
        refine hK.out _ _ (⟨bstep hHeld.1 (balloc (Below.refl _ _) _), Coder.keepC hHeld.2.1 (balloc (Below.refl _ _) _), Coder.keepC hHeld.2.2.1 (balloc (Below.refl _ _) _), Coder.keepC hHeld.2.2.2.1 (balloc (Below.refl _ _) _), Coder.keepC hHeld.2.2.2.2 (balloc (Below.refl _ _) _)⟩) (fun hHeld => ?_)
        clear hK K
        try simp only [Act.put, List.setIfInBounds_toArray, List.set_cons_zero, List.set_cons_succ]
        replace N3 := nats_move N3 hHeld.1
        have N7 := txts_here [x.k] (by intro y hy; simp at hy; subst hy; omega) rfl 1 rfl hHeld.1
        try simp only [World.size_alloc] at N7
        refine wpAnyH_ready (rs := [8, 18]) (by kernel_rfl) (by simp) ?_
        refine AllReadyH.cons (by simp only [List.getElem?_toArray, List.getElem?_cons_succ, List.getElem?_cons_zero]; rfl) (fun K hK => ?_) (AllReadyH.cons (by simp only [List.getElem?_toArray, List.getElem?_cons_succ, List.getElem?_cons_zero]; rfl) (fun K hK => ?_) (AllReadyH.nil))
        · skip
          go_simp
          go_at_call 44
          refine (texts_w N7 p1 R1.out (by omega) (by omega)).mono ?_
          rintro e v2 ⟨rfl, k2⟩
          replace N3 := (N3).below rfl k2
          replace N7 := (N7).below rfl k2
          go_wp2_with fail
          refine hK.out _ _ (⟨bstep hHeld.1 k2, Coder.keepC hHeld.2.1 k2, Coder.keepC hHeld.2.2.1 k2, Coder.keepC hHeld.2.2.2.1 k2, Coder.keepC hHeld.2.2.2.2 k2⟩) (fun hHeld => ?_)
          clear hK K k2
          try simp only [Act.put, List.setIfInBounds_toArray, List.set_cons_zero, List.set_cons_succ]
          refine tk 9 ?_
          try simp only [Act.put, List.setIfInBounds_toArray, List.set_cons_zero, List.set_cons_succ]
          refine wpAnyH_ready (rs := [12, 18]) (by kernel_rfl) (by simp) ?_
          refine AllReadyH.cons (by simp only [List.getElem?_toArray, List.getElem?_cons_succ, List.getElem?_cons_zero]; rfl) (fun K hK => ?_) (AllReadyH.cons (by simp only [List.getElem?_toArray, List.getElem?_cons_succ, List.getElem?_cons_zero]; rfl) (fun K hK => ?_) (AllReadyH.nil))
          · skip
            go_simp
            go_at_call 56
            refine (TU.out _).mono ?_
            rintro e w3 ⟨rfl, rfl⟩
            go_wp2_with fail
            refine hK.out _ _ hHeld (fun hHeld => ?_)
            clear hK K
            try simp only [Act.put, List.setIfInBounds_toArray, List.set_cons_zero, List.set_cons_succ]
            refine wpAnyH_ready (rs := [13, 18]) (by kernel_rfl) (by simp) ?_
            refine AllReadyH.cons (by simp only [List.getElem?_toArray, List.getElem?_cons_succ, List.getElem?_cons_zero]; rfl) (fun K hK => ?_) (AllReadyH.cons (by simp only [List.getElem?_toArray, List.getElem?_cons_succ, List.getElem?_cons_zero]; rfl) (fun K hK => ?_) (AllReadyH.nil))
            · skip
              go_simp
              refine hK.out _ _ (⟨bstep hHeld.1 (balloc (Below.refl _ _) _), Coder.keepC hHeld.2.1 (balloc (Below.refl _ _) _), Coder.keepC hHeld.2.2.1 (balloc (Below.refl _ _) _), Coder.keepC hHeld.2.2.2.1 (balloc (Below.refl _ _) _), Coder.keepC hHeld.2.2.2.2 (balloc (Below.refl _ _) _)⟩) (fun hHeld => ?_)
              clear hK K
              try simp only [Act.put, List.setIfInBounds_toArray, List.set_cons_zero, List.set_cons_succ]
              replace N3 := nats_move N3 hHeld.1
              replace N7 := txts_move N7 hHeld.1
              have N13 := nats_here [q] (by intro y hy; simp at hy; omega) rfl 1 rfl hHeld.1
              try simp only [World.size_alloc] at N13
              refine wpAnyH_ready (rs := [14, 18]) (by kernel_rfl) (by simp) ?_
              refine AllReadyH.cons (by simp only [List.getElem?_toArray, List.getElem?_cons_succ, List.getElem?_cons_zero]; rfl) (fun K hK => ?_) (AllReadyH.cons (by simp only [List.getElem?_toArray, List.getElem?_cons_succ, List.getElem?_cons_zero]; rfl) (fun K hK => ?_) (AllReadyH.nil))
              · skip
                go_simp
                go_at_call 55
                refine (nums_w N13 (by omega) p2 R2.out).mono ?_
                rintro e v4 ⟨rfl, k4⟩
                replace N3 := (N3).below rfl k4
                replace N7 := (N7).below rfl k4
                replace N13 := (N13).below rfl k4
                go_wp2_with fail
                refine hK.out _ _ (⟨bstep hHeld.1 k4, Coder.keepC hHeld.2.1 k4, Coder.keepC hHeld.2.2.1 k4, Coder.keepC hHeld.2.2.2.1 k4, Coder.keepC hHeld.2.2.2.2 k4⟩) (fun hHeld => ?_)
                clear hK K k4
                try simp only [Act.put, List.setIfInBounds_toArray, List.set_cons_zero, List.set_cons_succ]
                refine tk 15 ?_
                try simp only [Act.put, List.setIfInBounds_toArray, List.set_cons_zero, List.set_cons_succ]
                refine wpAnyH_ready (rs := [18]) (by kernel_rfl) (by simp) ?_
                refine AllReadyH.cons (by simp only [List.getElem?_toArray, List.getElem?_cons_succ, List.getElem?_cons_zero]; rfl) (fun K hK => ?_) AllReadyH.nil
                go_simp
                refine hK.out _ _ (⟨bstep hHeld.1 (balloc (Below.refl _ _) _), Coder.keepC hHeld.2.1 (balloc (Below.refl _ _) _), Coder.keepC hHeld.2.2.1 (balloc (Below.refl _ _) _), Coder.keepC hHeld.2.2.2.1 (balloc (Below.refl _ _) _), Coder.keepC hHeld.2.2.2.2 (balloc (Below.refl _ _) _)⟩) (fun hHeld => ?_)
                clear hK K
                try simp only [Act.put, List.setIfInBounds_toArray, List.set_cons_zero, List.set_cons_succ]
                replace N3 := nats_move N3 hHeld.1
                replace N7 := txts_move N7 hHeld.1
                replace N13 := nats_move N13 hHeld.1
                have N18 := txts_here [x.t] (by intro y hy; simp at hy; subst hy; omega) rfl 1 rfl hHeld.1
                try simp only [World.size_alloc] at N18
                refine wpAnyH_ready (rs := [19]) (by kernel_rfl) (by simp) ?_
                refine AllReadyH.cons (by simp only [List.getElem?_toArray, List.getElem?_cons_succ, List.getElem?_cons_zero]; rfl) (fun K hK => ?_) AllReadyH.nil
                go_simp
                go_at_call 44
                refine (texts_w N18 p3 R3.out (by omega) (by omega)).mono ?_
                rintro e v5 ⟨rfl, k5⟩
                replace N3 := (N3).below rfl k5
                replace N7 := (N7).below rfl k5
                replace N13 := (N13).below rfl k5
                replace N18 := (N18).below rfl k5
                go_wp2_with fail
                refine hK.out _ _ (⟨bstep hHeld.1 k5, Coder.keepC hHeld.2.1 k5, Coder.keepC hHeld.2.2.1 k5, Coder.keepC hHeld.2.2.2.1 k5, Coder.keepC hHeld.2.2.2.2 k5⟩) (fun hHeld => ?_)
                clear hK K k5
                try simp only [Act.put, List.setIfInBounds_toArray, List.set_cons_zero, List.set_cons_succ]
                refine tk 20 ?_
                try simp only [Act.put, List.setIfInBounds_toArray, List.set_cons_zero, List.set_cons_succ]
                refine tk 21 ?_
                try simp only [Act.put, List.setIfInBounds_toArray, List.set_cons_zero, List.set_cons_succ]
                refine wpAnyH_done (by kernel_rfl) ?_ _
                refine NoPanic.normal ?_
                clear hb x0 x1 x2 x3
                obtain ⟨hb, x0, x1, x2, x3⟩ := hHeld
                go_wp2
                go_ret
                exact ⟨by rw [HV.out]; rfl, hb⟩
              · skip
                go_simp
                refine hK.out _ _ (⟨bstep hHeld.1 (balloc (Below.refl _ _) _), Coder.keepC hHeld.2.1 (balloc (Below.refl _ _) _), Coder.keepC hHeld.2.2.1 (balloc (Below.refl _ _) _), Coder.keepC hHeld.2.2.2.1 (balloc (Below.refl _ _) _), Coder.keepC hHeld.2.2.2.2 (balloc (Below.refl _ _) _)⟩) (fun hHeld => ?_)
                clear hK K
                try simp only [Act.put, List.setIfInBounds_toArray, List.set_cons_zero, List.set_cons_succ]
                replace N3 := nats_move N3 hHeld.1
                replace N7 := txts_move N7 hHeld.1
                replace N13 := nats_move N13 hHeld.1
                have N18 := txts_here [x.t] (by intro y hy; simp at hy; subst hy; omega) rfl 1 rfl hHeld.1
                try simp only [World.size_alloc] at N18
                refine wpAnyH_ready (rs := [14]) (by kernel_rfl) (by simp) ?_
                refine AllReadyH.cons (by simp only [List.getElem?_toArray, List.getElem?_cons_succ, List.getElem?_cons_zero]; rfl) (fun K hK => ?_) AllReadyH.nil
                go_simp
                go_at_call 55
                refine (nums_w N13 (by omega) p2 R2.out).mono ?_
                rintro e v6 ⟨rfl, k6⟩
                replace N3 := (N3).below rfl k6
                replace N7 := (N7).below rfl k6
                replace N13 := (N13).below rfl k6
                replace N18 := (N18).below rfl k6
                go_wp2_with fail
                refine hK.out _ _ (⟨bstep hHeld.1 k6, Coder.keepC hHeld.2.1 k6, Coder.keepC hHeld.2.2.1 k6, Coder.keepC hHeld.2.2.2.1 k6, Coder.keepC hHeld.2.2.2.2 k6⟩) (fun hHeld => ?_)
                clear hK K k6
                try simp only [Act.put, List.setIfInBounds_toArray, List.set_cons_zero, List.set_cons_succ]
                refine tk 15 ?_
                try simp only [Act.put, List.setIfInBounds_toArray, List.set_cons_zero, List.set_cons_succ]
                refine wpAnyH_ready (rs := [19]) (by kernel_rfl) (by simp) ?_
                refine AllReadyH.cons (by simp only [List.getElem?_toArray, List.getElem?_cons_succ, List.getElem?_cons_zero]; rfl) (fun K hK => ?_) AllReadyH.nil
                go_simp
                go_at_call 44
                refine (texts_w N18 p3 R3.out (by omega) (by omega)).mono ?_
                rintro e v7 ⟨rfl, k7⟩
                replace N3 := (N3).below rfl k7
                replace N7 := (N7).below rfl k7
                replace N13 := (N13).below rfl k7
                replace N18 := (N18).below rfl k7
                go_wp2_with fail
                refine hK.out _ _ (⟨bstep hHeld.1 k7, Coder.keepC hHeld.2.1 k7, Coder.keepC hHeld.2.2.1 k7, Coder.keepC hHeld.2.2.2.1 k7, Coder.keepC hHeld.2.2.2.2 k7⟩) (fun hHeld => ?_)
                clear hK K k7
                try simp only [Act.put, List.setIfInBounds_toArray, List.set_cons_zero, List.set_cons_succ]
                refine tk 20 ?_
                try simp only [Act.put, List.setIfInBounds_toArray, List.set_cons_zero, List.set_cons_succ]
                refine tk 21 ?_
                try simp only [Act.put, List.setIfInBounds_toArray, List.set_cons_zero, List.set_cons_succ]
                refine wpAnyH_done (by kernel_rfl) ?_ _
                refine NoPanic.normal ?_
                clear hb x0 x1 x2 x3
                obtain ⟨hb, x0, x1, x2, x3⟩ := hHeld
                go_wp2
                go_ret
                exact ⟨by rw [HV.out]; rfl, hb⟩
            · skip
              go_simp
              refine hK.out _ _ (⟨bstep hHeld.1 (balloc (Below.refl _ _) _), Coder.keepC hHeld.2.1 (balloc (Below.refl _ _) _), Coder.keepC hHeld.2.2.1 (balloc (Below.refl _ _) _), Coder.keepC hHeld.2.2.2.1 (balloc (Below.refl _ _) _), Coder.keepC hHeld.2.2.2.2 (balloc (Below.refl _ _) _)⟩) (fun hHeld => ?_)
              clear hK K
              try simp only [Act.put, List.setIfInBounds_toArray, List.set_cons_zero, List.set_cons_succ]
              replace N3 := nats_move N3 hHeld.1
              replace N7 := txts_move N7 hHeld.1
              have N18 := txts_here [x.t] (by intro y hy; simp at hy; subst hy; omega) rfl 1 rfl hHeld.1
              try simp only [World.size_alloc] at N18
              refine wpAnyH_ready (rs := [13]) (by kernel_rfl) (by simp) ?_
              refine AllReadyH.cons (by simp only [List.getElem?_toArray, List.getElem?_cons_succ, List.getElem?_cons_zero]; rfl) (fun K hK => ?_) AllReadyH.nil
              go_simp
              refine hK.out _ _ (⟨bstep hHeld.1 (balloc (Below.refl _ _) _), Coder.keepC hHeld.2.1 (balloc (Below.refl _ _) _), Coder.keepC hHeld.2.2.1 (balloc (Below.refl _ _) _), Coder.keepC hHeld.2.2.2.1 (balloc (Below.refl _ _) _), Coder.keepC hHeld.2.2.2.2 (balloc (Below.refl _ _) _)⟩) (fun hHeld => ?_)
              clear hK K
              try simp only [Act.put, List.setIfInBounds_toArray, List.set_cons_zero, List.set_cons_succ]
              replace N3 := nats_move N3 hHeld.1
              replace N7 := txts_move N7 hHeld.1
              replace N18 := txts_move N18 hHeld.1
              have N13 := nats_here [q] (by intro y hy; simp at hy; omega) rfl 1 rfl hHeld.1
              try simp only [World.size_alloc] at N13
              refine wpAnyH_ready (rs := [14]) (by kernel_rfl) (by simp) ?_
              refine AllReadyH.cons (by simp only [List.getElem?_toArray, List.getElem?_cons_succ, List.getElem?_cons_zero]; rfl) (fun K hK => ?_) AllReadyH.nil
              go_simp
              go_at_call 55
              refine (nums_w N13 (by omega) p2 R2.out).mono ?_
              rintro e v8 ⟨rfl, k8⟩
              replace N3 := (N3).below rfl k8
              replace N7 := (N7).below rfl k8
              replace N18 := (N18).below rfl k8
              replace N13 := (N13).below rfl k8
              go_wp2_with fail
              refine hK.out _ _ (⟨bstep hHeld.1 k8, Coder.keepC hHeld.2.1 k8, Coder.keepC hHeld.2.2.1 k8, Coder.keepC hHeld.2.2.2.1 k8, Coder.keepC hHeld.2.2.2.2 k8⟩) (fun hHeld => ?_)
              clear hK K k8
              try simp only [Act.put, List.setIfInBounds_toArray, List.set_cons_zero, List.set_cons_succ]
              refine tk 15 ?_
              try simp only [Act.put, List.setIfInBounds_toArray, List.set_cons_zero, List.set_cons_succ]
              refine wpAnyH_ready (rs := [19]) (by kernel_rfl) (by simp) ?_
              refine AllReadyH.cons (by simp only [List.getElem?_toArray, List.getElem?_cons_succ, List.getElem?_cons_zero]; rfl) (fun K hK => ?_) AllReadyH.nil
              go_simp
              go_at_call 44
              refine (texts_w N18 p3 R3.out (by omega) (by omega)).mono ?_
              rintro e v9 ⟨rfl, k9⟩
              replace N3 := (N3).below rfl k9
              replace N7 := (N7).below rfl k9
              replace N18 := (N18).below rfl k9
              replace N13 := (N13).below rfl k9
              go_wp2_with fail
              refine hK.out _ _ (⟨bstep hHeld.1 k9, Coder.keepC hHeld.2.1 k9, Coder.keepC hHeld.2.2.1 k9, Coder.keepC hHeld.2.2.2.1 k9, Coder.keepC hHeld.2.2.2.2 k9⟩) (fun hHeld => ?_)
              clear hK K k9
              try simp only [Act.put, List.setIfInBounds_toArray, List.set_cons_zero, List.set_cons_succ]
              refine tk 20 ?_
              try simp only [Act.put, List.setIfInBounds_toArray, List.set_cons_zero, List.set_cons_succ]
              refine tk 21 ?_
              try simp only [Act.put, List.setIfInBounds_toArray, List.set_cons_zero, List.set_cons_succ]
              refine wpAnyH_done (by kernel_rfl) ?_ _
              refine NoPanic.normal ?_
              clear hb x0 x1 x2 x3
              obtain ⟨hb, x0, x1, x2, x3⟩ := hHeld
              go_wp2
              go_ret
              exact ⟨by rw [HV.out]; rfl, hb⟩
          · skip
            go_simp
            refine hK.out _ _ (⟨bstep hHeld.1 (balloc (Below.refl _ _) _), Coder.keepC hHeld.2.1 (balloc (Below.refl _ _) _), Coder.keepC hHeld.2.2.1 (balloc (Below.refl _ _) _), Coder.keepC hHeld.2.2.2.1 (balloc (Below.refl _ _) _), Coder.keepC hHeld.2.2.2.2 (balloc (Below.refl _ _) _)⟩) (fun hHeld => ?_)
            clear hK K
            try simp only [Act.put, List.setIfInBounds_toArray, List.set_cons_zero, List.set_cons_succ]
            replace N3 := nats_move N3 hHeld.1
            replace N7 := txts_move N7 hHeld.1
            have N18 := txts_here [x.t] (by intro y hy; simp at hy; subst hy; omega) rfl 1 rfl hHeld.1
            try simp only [World.size_alloc] at N18
            refine wpAnyH_ready (rs := [12]) (by kernel_rfl) (by simp) ?_
            refine AllReadyH.cons (by simp only [List.getElem?_toArray, List.getElem?_cons_succ, List.getElem?_cons_zero]; rfl) (fun K hK => ?_) AllReadyH.nil
            go_simp
            go_at_call 56
            refine (TU.out _).mono ?_
            rintro e w10 ⟨rfl, rfl⟩
            go_wp2_with fail
            refine hK.out _ _ hHeld (fun hHeld => ?_)
            clear hK K
            try simp only [Act.put, List.setIfInBounds_toArray, List.set_cons_zero, List.set_cons_succ]
            refine wpAnyH_ready (rs := [13]) (by kernel_rfl) (by simp) ?_
            refine AllReadyH.cons (by simp only [List.getElem?_toArray, List.getElem?_cons_succ, List.getElem?_cons_zero]; rfl) (fun K hK => ?_) AllReadyH.nil
            go_simp
            refine hK.out _ _ (⟨bstep hHeld.1 (balloc (Below.refl _ _) _), Coder.keepC hHeld.2.1 (balloc (Below.refl _ _) _), Coder.keepC hHeld.2.2.1 (balloc (Below.refl _ _) _), Coder.keepC hHeld.2.2.2.1 (balloc (Below.refl _ _) _), Coder.keepC hHeld.2.2.2.2 (balloc (Below.refl _ _) _)⟩) (fun hHeld => ?_)
            clear hK K
            try simp only [Act.put, List.setIfInBounds_toArray, List.set_cons_zero, List.set_cons_succ]
            replace N3 := nats_move N3 hHeld.1
            replace N7 := txts_move N7 hHeld.1
            replace N18 := txts_move N18 hHeld.1
            have N13 := nats_here [q] (by intro y hy; simp at hy; omega) rfl 1 rfl hHeld.1
            try simp only [World.size_alloc] at N13
            refine wpAnyH_ready (rs := [14]) (by kernel_rfl) (by simp) ?_
            refine AllReadyH.cons (by simp only [List.getElem?_toArray, List.getElem?_cons_succ, List.getElem?_cons_zero]; rfl) (fun K hK => ?_) AllReadyH.nil
            go_simp
            go_at_call 55
            refine (nums_w N13 (by omega) p2 R2.out).mono ?_
            rintro e v11 ⟨rfl, k11⟩
            replace N3 := (N3).below rfl k11
            replace N7 := (N7).below rfl k11
            replace N18 := (N18).below rfl k11
            replace N13 := (N13).below rfl k11
            go_wp2_with fail
            refine hK.out _ _ (⟨bstep hHeld.1 k11, Coder.keepC hHeld.2.1 k11, Coder.keepC hHeld.2.2.1 k11, Coder.keepC hHeld.2.2.2.1 k11, Coder.keepC hHeld.2.2.2.2 k11⟩) (fun hHeld => ?_)
            clear hK K k11
            try simp only [Act.put, List.setIfInBounds_toArray, List.set_cons_zero, List.set_cons_succ]
            refine tk 15 ?_
            try simp only [Act.put, List.setIfInBounds_toArray, List.set_cons_zero, List.set_cons_succ]
            refine wpAnyH_ready (rs := [19]) (by kernel_rfl) (by simp) ?_
            refine AllReadyH.cons (by simp only [List.getElem?_toArray, List.getElem?_cons_succ, List.getElem?_cons_zero]; rfl) (fun K hK => ?_) AllReadyH.nil
            go_simp
            go_at_call 44
            refine (texts_w N18 p3 R3.out (by omega) (by omega)).mono ?_
            rintro e v12 ⟨rfl, k12⟩
            replace N3 := (N3).below rfl k12
            replace N7 := (N7).below rfl k12
            replace N18 := (N18).below rfl k12
            replace N13 := (N13).below rfl k12
            go_wp2_with fail
            refine hK.out _ _ (⟨bstep hHeld.1 k12, Coder.keepC hHeld.2.1 k12, Coder.keepC hHeld.2.2.1 k12, Coder.keepC hHeld.2.2.2.1 k12, Coder.keepC hHeld.2.2.2.2 k12⟩) (fun hHeld => ?_)
            clear hK K k12
            try simp only [Act.put, List.setIfInBounds_toArray, List.set_cons_zero, List.set_cons_succ]
            refine tk 20 ?_
            try simp only [Act.put, List.setIfInBounds_toArray, List.set_cons_zero, List.set_cons_succ]
            refine tk 21 ?_
            try simp only [Act.put, List.setIfInBounds_toArray, List.set_cons_zero, List.set_cons_succ]
            refine wpAnyH_done (by kernel_rfl) ?_ _
            refine NoPanic.normal ?_
            clear hb x0 x1 x2 x3
            obtain ⟨hb, x0, x1, x2, x3⟩ := hHeld
            go_wp2
            go_ret
            exact ⟨by rw [HV.out]; rfl, hb⟩
        · skip
          go_simp
          refine hK.out _ _ (⟨bstep hHeld.1 (balloc (Below.refl _ _) _), Coder.keepC hHeld.2.1 (balloc (Below.refl _ _) _), Coder.keepC hHeld.2.2.1 (balloc (Below.refl _ _) _), Coder.keepC hHeld.2.2.2.1 (balloc (Below.refl _ _) _), Coder.keepC hHeld.2.2.2.2 (balloc (Below.refl _ _) _)⟩) (fun hHeld => ?_)
          clear hK K
          try simp only [Act.put, List.setIfInBounds_toArray, List.set_cons_zero, List.set_cons_succ]
          replace N3 := nats_move N3 hHeld.1
          replace N7 := txts_move N7 hHeld.1
          have N18 := txts_here [x.t] (by intro y hy; simp at hy; subst hy; omega) rfl 1 rfl hHeld.1
          try simp only [World.size_alloc] at N18
          refine wpAnyH_ready (rs := [8]) (by kernel_rfl) (by simp) ?_
          refine AllReadyH.cons (by simp only [List.getElem?_toArray, List.getElem?_cons_succ, List.getElem?_cons_zero]; rfl) (fun K hK => ?_) AllReadyH.nil
          go_simp
          go_at_call 44
          refine (texts_w N7 p1 R1.out (by omega) (by omega)).mono ?_
          rintro e v13 ⟨rfl, k13⟩
          replace N3 := (N3).below rfl k13
          replace N7 := (N7).below rfl k13
          replace N18 := (N18).below rfl k13
          go_wp2_with fail
          refine hK.out _ _ (⟨bstep hHeld.1 k13, Coder.keepC hHeld.2.1 k13, Coder.keepC hHeld.2.2.1 k13, Coder.keepC hHeld.2.2.2.1 k13, Coder.keepC hHeld.2.2.2.2 k13⟩) (fun hHeld => ?_)
          clear hK K k13
          try simp only [Act.put, List.setIfInBounds_toArray, List.set_cons_zero, List.set_cons_succ]
          refine tk 9 ?_
          try simp only [Act.put, List.setIfInBounds_toArray, List.set_cons_zero, List.set_cons_succ]
          refine wpAnyH_ready (rs := [12]) (by kernel_rfl) (by simp) ?_
          refine AllReadyH.cons (by simp only [List.getElem?_toArray, List.getElem?_cons_succ, List.getElem?_cons_zero]; rfl) (fun K hK => ?_) AllReadyH.nil
          go_simp
          go_at_call 56
          refine (TU.out _).mono ?_
          rintro e w14 ⟨rfl, rfl⟩
          go_wp2_with fail
          refine hK.out _ _ hHeld (fun hHeld => ?_)
          clear hK K
          try simp only [Act.put, List.setIfInBounds_toArray, List.set_cons_zero, List.set_cons_succ]
          refine wpAnyH_ready (rs := [13]) (by kernel_rfl) (by simp) ?_
          refine AllReadyH.cons (by simp only [List.getElem?_toArray, List.getElem?_cons_succ, List.getElem?_cons_zero]; rfl) (fun K hK => ?_) AllReadyH.nil
          go_simp
          refine hK.out _ _ (⟨bstep hHeld.1 (balloc (Below.refl _ _) _), Coder.keepC hHeld.2.1 (balloc (Below.refl _ _) _), Coder.keepC hHeld.2.2.1 (balloc (Below.refl _ _) _), Coder.keepC hHeld.2.2.2.1 (balloc (Below.refl _ _) _), Coder.keepC hHeld.2.2.2.2 (balloc (Below.refl _ _) _)⟩) (fun hHeld => ?_)
          clear hK K
          try simp only [Act.put, List.setIfInBounds_toArray, List.set_cons_zero, List.set_cons_succ]
          replace N3 := nats_move N3 hHeld.1
          replace N7 := txts_move N7 hHeld.1
          replace N18 := txts_move N18 hHeld.1
          have N13 := nats_here [q] (by intro y hy; simp at hy; omega) rfl 1 rfl hHeld.1
          try simp only [World.size_alloc] at N13
          refine wpAnyH_ready (rs := [14]) (by kernel_rfl) (by simp) ?_
          refine AllReadyH.cons (by simp only [List.getElem?_toArray, List.getElem?_cons_succ, List.getElem?_cons_zero]; rfl) (fun K hK => ?_) AllReadyH.nil
          go_simp
          go_at_call 55
          refine (nums_w N13 (by omega) p2 R2.out).mono ?_
          rintro e v15 ⟨rfl, k15⟩
          replace N3 := (N3).below rfl k15
          replace N7 := (N7).below rfl k15
          replace N18 := (N18).below rfl k15
          replace N13 := (N13).below rfl k15
          go_wp2_with fail
          refine hK.out _ _ (⟨bstep hHeld.1 k15, Coder.keepC hHeld.2.1 k15, Coder.keepC hHeld.2.2.1 k15, Coder.keepC hHeld.2.2.2.1 k15, Coder.keepC hHeld.2.2.2.2 k15⟩) (fun hHeld => ?_)
          clear hK K k15
          try simp only [Act.put, List.setIfInBounds_toArray, List.set_cons_zero, List.set_cons_succ]
          refine tk 15 ?_
          try simp only [Act.put, List.setIfInBounds_toArray, List.set_cons_zero, List.set_cons_succ]
          refine wpAnyH_ready (rs := [19]) (by kernel_rfl) (by simp) ?_
          refine AllReadyH.cons (by simp only [List.getElem?_toArray, List.getElem?_cons_succ, List.getElem?_cons_zero]; rfl) (fun K hK => ?_) AllReadyH.nil
          go_simp
          go_at_call 44
          refine (texts_w N18 p3 R3.out (by omega) (by omega)).mono ?_
          rintro e v16 ⟨rfl, k16⟩
          replace N3 := (N3).below rfl k16
          replace N7 := (N7).below rfl k16
          replace N18 := (N18).below rfl k16
          replace N13 := (N13).below rfl k16
          go_wp2_with fail
          refine hK.out _ _ (⟨bstep hHeld.1 k16, Coder.keepC hHeld.2.1 k16, Coder.keepC hHeld.2.2.1 k16, Coder.keepC hHeld.2.2.2.1 k16, Coder.keepC hHeld.2.2.2.2 k16⟩) (fun hHeld => ?_)
          clear hK K k16
          try simp only [Act.put, List.setIfInBounds_toArray, List.set_cons_zero, List.set_cons_succ]
          refine tk 20 ?_
          try simp only [Act.put, List.setIfInBounds_toArray, List.set_cons_zero, List.set_cons_succ]
          refine tk 21 ?_
          try simp only [Act.put, List.setIfInBounds_toArray, List.set_cons_zero, List.set_cons_succ]
          refine wpAnyH_done (by kernel_rfl) ?_ _
          refine NoPanic.normal ?_
          clear hb x0 x1 x2 x3
          obtain ⟨hb, x0, x1, x2, x3⟩ := hHeld
          go_wp2
          go_ret
          exact ⟨by rw [HV.out]; rfl, hb⟩
      · skip
        go_simp
        refine hK.out _ _ (⟨bstep hHeld.1 (balloc (Below.refl _ _) _), Coder.keepC hHeld.2.1 (balloc (Below.refl _ _) _), Coder.keepC hHeld.2.2.1 (balloc (Below.refl _ _) _), Coder.keepC hHeld.2.2.2.1 (balloc (Below.refl _ _) _), Coder.keepC hHeld.2.2.2.2 (balloc (Below.refl _ _) _)⟩) (fun hHeld => ?_)
        clear hK K
        try simp only [Act.put, List.setIfInBounds_toArray, List.set_cons_zero, List.set_cons_succ]
        replace N3 := nats_move N3 hHeld.1
        have N18 := txts_here [x.t] (by intro y hy; simp at hy; subst hy; omega) rfl 1 rfl hHeld.1
        try simp only [World.size_alloc] at N18
        refine wpAnyH_ready (rs := [7]) (by kernel_rfl) (by simp) ?_
        refine AllReadyH.cons (by simp only [List.getElem?_toArray, List.getElem?_cons_succ, List.getElem?_cons_zero]; rfl) (fun K hK => ?_) AllReadyH.nil
        go_simp
        refine hK.out _ _ (⟨bstep hHeld.1 (balloc (Below.refl _ _) _), Coder.keepC hHeld.2.1 (balloc (Below.refl _ _) _), Coder.keepC hHeld.2.2.1 (balloc (Below.refl _ _) _), Coder.keepC hHeld.2.2.2.1 (balloc (Below.refl _ _) _), Coder.keepC hHeld.2.2.2.2 (balloc (Below.refl _ _) _)⟩) (fun hHeld => ?_)
        clear hK K
        try simp only [Act.put, List.setIfInBounds_toArray, List.set_cons_zero, List.set_cons_succ]
        replace N3 := nats_move N3 hHeld.1
        replace N18 := txts_move N18 hHeld.1
        have N7 := txts_here [x.k] (by intro y hy; simp at hy; subst hy; omega) rfl 1 rfl hHeld.1
        try simp only [World.size_alloc] at N7
        refine wpAnyH_ready (rs := [8]) (by kernel_rfl) (by simp) ?_
        refine AllReadyH.cons (by simp only [List.getElem?_toArray, List.getElem?_cons_succ, List.getElem?_cons_zero]; rfl) (fun K hK => ?_) AllReadyH.nil
        go_simp
        go_at_call 44
        refine (texts_w N7 p1 R1.out (by omega) (by omega)).mono ?_
        rintro e v17 ⟨rfl, k17⟩
        replace N3 := (N3).below rfl k17
        replace N18 := (N18).below rfl k17
        replace N7 := (N7).below rfl k17
        go_wp2_with fail
        refine hK.out _ _ (⟨bstep hHeld.1 k17, Coder.keepC hHeld.2.1 k17, Coder.keepC hHeld.2.2.1 k17, Coder.keepC hHeld.2.2.2.1 k17, Coder.keepC hHeld.2.2.2.2 k17⟩) (fun hHeld => ?_)
        clear hK K k17
        try simp only [Act.put, List.setIfInBounds_toArray, List.set_cons_zero, List.set_cons_succ]
        refine tk 9 ?_
        try simp only [Act.put, List.setIfInBounds_toArray, List.set_cons_zero, List.set_cons_succ]
        refine wpAnyH_ready (rs := [12]) (by kernel_rfl) (by simp) ?_
        refine AllReadyH.cons (by simp only [List.getElem?_toArray, List.getElem?_cons_succ, List.getElem?_cons_zero]; rfl) (fun K hK => ?_) AllReadyH.nil
        go_simp
        go_at_call 56
        refine (TU.out _).mono ?_
        rintro e w18 ⟨rfl, rfl⟩
        go_wp2_with fail
        refine hK.out _ _ hHeld (fun hHeld => ?_)
        clear hK K
        try simp only [Act.put, List.setIfInBounds_toArray, List.set_cons_zero, List.set_cons_succ]
        refine wpAnyH_ready (rs := [13]) (by kernel_rfl) (by simp) ?_
        refine AllReadyH.cons (by simp only [List.getElem?_toArray, List.getElem?_cons_succ, List.getElem?_cons_zero]; rfl) (fun K hK => ?_) AllReadyH.nil
        go_simp
        refine hK.out _ _ (⟨bstep hHeld.1 (balloc (Below.refl _ _) _), Coder.keepC hHeld.2.1 (balloc (Below.refl _ _) _), Coder.keepC hHeld.2.2.1 (balloc (Below.refl _ _) _), Coder.keepC hHeld.2.2.2.1 (balloc (Below.refl _ _) _), Coder.keepC hHeld.2.2.2.2 (balloc (Below.refl _ _) _)⟩) (fun hHeld => ?_)
        clear hK K
        try simp only [Act.put, List.setIfInBounds_toArray, List.set_cons_zero, List.set_cons_succ]
        replace N3 := nats_move N3 hHeld.1
        replace N18 := txts_move N18 hHeld.1
        replace N7 := txts_move N7 hHeld.1
        have N13 := nats_here [q] (by intro y hy; simp at hy; omega) rfl 1 rfl hHeld.1
        try simp only [World.size_alloc] at N13
        refine wpAnyH_ready (rs := [14]) (by kernel_rfl) (by simp) ?_
        refine AllReadyH.cons (by simp only [List.getElem?_toArray, List.getElem?_cons_succ, List.getElem?_cons_zero]; rfl) (fun K hK => ?_) AllReadyH.nil
        go_simp
        go_at_call 55
        refine (nums_w N13 (by omega) p2 R2.out).mono ?_
        rintro e v19 ⟨rfl, k19⟩
        replace N3 := (N3).below rfl k19
        replace N18 := (N18).below rfl k19
        replace N7 := (N7).below rfl k19
        replace N13 := (N13).below rfl k19
        go_wp2_with fail
        refine hK.out _ _ (⟨bstep hHeld.1 k19, Coder.keepC hHeld.2.1 k19, Coder.keepC hHeld.2.2.1 k19, Coder.keepC hHeld.2.2.2.1 k19, Coder.keepC hHeld.2.2.2.2 k19⟩) (fun hHeld => ?_)
        clear hK K k19
        try simp only [Act.put, List.setIfInBounds_toArray, List.set_cons_zero, List.set_cons_succ]
        refine tk 15 ?_
        try simp only [Act.put, List.setIfInBounds_toArray, List.set_cons_zero, List.set_cons_succ]
        refine wpAnyH_ready (rs := [19]) (by kernel_rfl) (by simp) ?_
        refine AllReadyH.cons (by simp only [List.getElem?_toArray, List.getElem?_cons_succ, List.getElem?_cons_zero]; rfl) (fun K hK => ?_) AllReadyH.nil
        go_simp
        go_at_call 44
        refine (texts_w N18 p3 R3.out (by omega) (by omega)).mono ?_
        rintro e v20 ⟨rfl, k20⟩
        replace N3 := (N3).below rfl k20
        replace N18 := (N18).below rfl k20
        replace N7 := (N7).below rfl k20
        replace N13 := (N13).below rfl k20
        go_wp2_with fail
        refine hK.out _ _ (⟨bstep hHeld.1 k20, Coder.keepC hHeld.2.1 k20, Coder.keepC hHeld.2.2.1 k20, Coder.keepC hHeld.2.2.2.1 k20, Coder.keepC hHeld.2.2.2.2 k20⟩) (fun hHeld => ?_)
        clear hK K k20
        try simp only [Act.put, List.setIfInBounds_toArray, List.set_cons_zero, List.set_cons_succ]
        refine tk 20 ?_
        try simp only [Act.put, List.setIfInBounds_toArray, List.set_cons_zero, List.set_cons_succ]
        refine tk 21 ?_
        try simp only [Act.put, List.setIfInBounds_toArray, List.set_cons_zero, List.set_cons_succ]
        refine wpAnyH_done (by kernel_rfl) ?_ _
        refine NoPanic.normal ?_
        clear hb x0 x1 x2 x3
        obtain ⟨hb, x0, x1, x2, x3⟩ := hHeld
        go_wp2
        go_ret
        exact ⟨by rw [HV.out]; rfl, hb⟩
    · skip
      go_simp
      refine hK.out _ _ (⟨bstep hHeld.1 (balloc (Below.refl _ _) _), Coder.keepC hHeld.2.1 (balloc (Below.refl _ _) _), Coder.keepC hHeld.2.2.1 (balloc (Below.refl _ _) _), Coder.keepC hHeld.2.2.2.1 (balloc (Below.refl _ _) _), Coder.keepC hHeld.2.2.2.2 (balloc (Below.refl _ _) _)⟩) (fun hHeld => ?_)
      clear hK K
      try simp only [Act.put, List.setIfInBounds_toArray, List.set_cons_zero, List.set_cons_succ]
      replace N3 := nats_move N3 hHeld.1
      have N7 := txts_here [x.k] (by intro y hy; simp at hy; subst hy; omega) rfl 1 rfl hHeld.1
      try simp only [World.size_alloc] at N7
      refine wpAnyH_ready (rs := [4, 18]) (by kernel_rfl) (by simp) ?_
      refine AllReadyH.cons (by simp only [List.getElem?_toArray, List.getElem?_cons_succ, List.getElem?_cons_zero]; rfl) (fun K hK => ?_) (AllReadyH.cons (by simp only [List.getElem?_toArray, List.getElem?_cons_succ, List.getElem?_cons_zero]; rfl) (fun K hK => ?_) (AllReadyH.nil))
      · skip
        go_simp
        go_at_call 55
        refine (nums_w N3 (by omega) p0 R0.out).mono ?_
        rintro e v21 ⟨rfl, k21⟩
        replace N3 := (N3).below rfl k21
        replace N7 := (N7).below rfl k21
        go_wp2_with fail
        refine hK.out _ _ (⟨bstep hHeld.1 k21, Coder.keepC hHeld.2.1 k21, Coder.keepC hHeld.2.2.1 k21, Coder.keepC hHeld.2.2.2.1 k21, Coder.keepC hHeld.2.2.2.2 k21⟩) (fun hHeld => ?_)
        clear hK K k21
        try simp only [Act.put, List.setIfInBounds_toArray, List.set_cons_zero, List.set_cons_succ]
        refine wpAnyH_ready (rs := [8, 18]) (by kernel_rfl) (by simp) ?_
        refine AllReadyH.cons (by simp only [List.getElem?_toArray, List.getElem?_cons_succ, List.getElem?_cons_zero]; rfl) (fun K hK => ?_) (AllReadyH.cons (by simp only [List.getElem?_toArray, List.getElem?_cons_succ, List.getElem?_cons_zero]; rfl) (fun K hK => ?_) (AllReadyH.nil))
        · skip
          go_simp
          go_at_call 44
          refine (texts_w N7 p1 R1.out (by omega) (by omega)).mono ?_
          rintro e v22 ⟨rfl, k22⟩
          replace N3 := (N3).below rfl k22
          replace N7 := (N7).below rfl k22
          go_wp2_with fail
          refine hK.out _ _ (⟨bstep hHeld.1 k22, Coder.keepC hHeld.2.1 k22, Coder.keepC hHeld.2.2.1 k22, Coder.keepC hHeld.2.2.2.1 k22, Coder.keepC hHeld.2.2.2.2 k22⟩) (fun hHeld => ?_)
          clear hK K k22
          try simp only [Act.put, List.setIfInBounds_toArray, List.set_cons_zero, List.set_cons_succ]
          refine tk 9 ?_
          try simp only [Act.put, List.setIfInBounds_toArray, List.set_cons_zero, List.set_cons_succ]
          refine wpAnyH_ready (rs := [12, 18]) (by kernel_rfl) (by simp) ?_
          refine AllReadyH.cons (by simp only [List.getElem?_toArray, List.getElem?_cons_succ, List.getElem?_cons_zero]; rfl) (fun K hK => ?_) (AllReadyH.cons (by simp only [List.getElem?_toArray, List.getElem?_cons_succ, List.getElem?_cons_zero]; rfl) (fun K hK => ?_) (AllReadyH.nil))
          · skip
            go_simp
            go_at_call 56
            refine (TU.out _).mono ?_
            rintro e w23 ⟨rfl, rfl⟩
            go_wp2_with fail
            refine hK.out _ _ hHeld (fun hHeld => ?_)
            clear hK K
            try simp only [Act.put, List.setIfInBounds_toArray, List.set_cons_zero, List.set_cons_succ]
            refine wpAnyH_ready (rs := [13, 18]) (by kernel_rfl) (by simp) ?_
            refine AllReadyH.cons (by simp only [List.getElem?_toArray, List.getElem?_cons_succ, List.getElem?_cons_zero]; rfl) (fun K hK => ?_) (AllReadyH.cons (by simp only [List.getElem?_toArray, List.getElem?_cons_succ, List.getElem?_cons_zero]; rfl) (fun K hK => ?_) (AllReadyH.nil))
            · skip
              go_simp
              refine hK.out _ _ (⟨bstep hHeld.1 (balloc (Below.refl _ _) _), Coder.keepC hHeld.2.1 (balloc (Below.refl _ _) _), Coder.keepC hHeld.2.2.1 (balloc (Below.refl _ _) _), Coder.keepC hHeld.2.2.2.1 (balloc (Below.refl _ _) _), Coder.keepC hHeld.2.2.2.2 (balloc (Below.refl _ _) _)⟩) (fun hHeld => ?_)
              clear hK K
              try simp only [Act.put, List.setIfInBounds_toArray, List.set_cons_zero, List.set_cons_succ]
              replace N3 := nats_move N3 hHeld.1
              replace N7 := txts_move N7 hHeld.1
              have N13 := nats_here [q] (by intro y hy; simp at hy; omega) rfl 1 rfl hHeld.1
              try simp only [World.size_alloc] at N13
              refine wpAnyH_ready (rs := [14, 18]) (by kernel_rfl) (by simp) ?_
              refine AllReadyH.cons (by simp only [List.getElem?_toArray, List.getElem?_cons_succ, List.getElem?_cons_zero]; rfl) (fun K hK => ?_) (AllReadyH.cons (by simp only [List.getElem?_toArray, List.getElem?_cons_succ, List.getElem?_cons_zero]; rfl) (fun K hK => ?_) (AllReadyH.nil))
              · skip
                go_simp
                go_at_call 55
                refine (nums_w N13 (by omega) p2 R2.out).mono ?_
                rintro e v24 ⟨rfl, k24⟩
                replace N3 := (N3).below rfl k24
                replace N7 := (N7).below rfl k24
                replace N13 := (N13).below rfl k24
                go_wp2_with fail
                refine hK.out _ _ (⟨bstep hHeld.1 k24, Coder.keepC hHeld.2.1 k24, Coder.keepC hHeld.2.2.1 k24, Coder.keepC hHeld.2.2.2.1 k24, Coder.keepC hHeld.2.2.2.2 k24⟩) (fun hHeld => ?_)
                clear hK K k24
                try simp only [Act.put, List.setIfInBounds_toArray, List.set_cons_zero, List.set_cons_succ]
                refine tk 15 ?_
                try simp only [Act.put, List.setIfInBounds_toArray, List.set_cons_zero, List.set_cons_succ]
                refine wpAnyH_ready (rs := [18]) (by kernel_rfl) (by simp) ?_
                refine AllReadyH.cons (by simp only [List.getElem?_toArray, List.getElem?_cons_succ, List.getElem?_cons_zero]; rfl) (fun K hK => ?_) AllReadyH.nil
                go_simp
                refine hK.out _ _ (⟨bstep hHeld.1 (balloc (Below.refl _ _) _), Coder.keepC hHeld.2.1 (balloc (Below.refl _ _) _), Coder.keepC hHeld.2.2.1 (balloc (Below.refl _ _) _), Coder.keepC hHeld.2.2.2.1 (balloc (Below.refl _ _) _), Coder.keepC hHeld.2.2.2.2 (balloc (Below.refl _ _) _)⟩) (fun hHeld => ?_)
                clear hK K
                try simp only [Act.put, List.setIfInBounds_toArray, List.set_cons_zero, List.set_cons_succ]
                replace N3 := nats_move N3 hHeld.1
                replace N7 := txts_move N7 hHeld.1
                replace N13 := nats_move N13 hHeld.1
                have N18 := txts_here [x.t] (by intro y hy; simp at hy; subst hy; omega) rfl 1 rfl hHeld.1
                try simp only [World.size_alloc] at N18
                refine wpAnyH_ready (rs := [19]) (by kernel_rfl) (by simp) ?_
                refine AllReadyH.cons (by simp only [List.getElem?_toArray, List.getElem?_cons_succ, List.getElem?_cons_zero]; rfl) (fun K hK => ?_) AllReadyH.nil
                go_simp
                go_at_call 44
                refine (texts_w N18 p3 R3.out (by omega) (by omega)).mono ?_
                rintro e v25 ⟨rfl, k25⟩
                replace N3 := (N3).below rfl k25
                replace N7 := (N7).below rfl k25
                replace N13 := (N13).below rfl k25
                replace N18 := (N18).below rfl k25
                go_wp2_with fail
                refine hK.out _ _ (⟨bstep hHeld.1 k25, Coder.keepC hHeld.2.1 k25, Coder.keepC hHeld.2.2.1 k25, Coder.keepC hHeld.2.2.2.1 k25, Coder.keepC hHeld.2.2.2.2 k25⟩) (fun hHeld => ?_)
                clear hK K k25
                try simp only [Act.put, List.setIfInBounds_toArray, List.set_cons_zero, List.set_cons_succ]
                refine tk 20 ?_
                try simp only [Act.put, List.setIfInBounds_toArray, List.set_cons_zero, List.set_cons_succ]
                refine tk 21 ?_
                try simp only [Act.put, List.setIfInBounds_toArray, List.set_cons_zero, List.set_cons_succ]
                refine wpAnyH_done (by kernel_rfl) ?_ _
                refine NoPanic.normal ?_
                clear hb x0 x1 x2 x3
                obtain ⟨hb, x0, x1, x2, x3⟩ := hHeld
                go_wp2
                go_ret
                exact ⟨by rw [HV.out]; rfl, hb⟩
              · skip
                go_simp
                refine hK.out _ _ (⟨bstep hHeld.1 (balloc (Below.refl _ _) _), Coder.keepC hHeld.2.1 (balloc (Below.refl _ _) _), Coder.keepC hHeld.2.2.1 (balloc (Below.refl _ _) _), Coder.keepC hHeld.2.2.2.1 (balloc (Below.refl _ _) _), Coder.keepC hHeld.2.2.2.2 (balloc (Below.refl _ _) _)⟩) (fun hHeld => ?_)
                clear hK K
                try simp only [Act.put, List.setIfInBounds_toArray, List.set_cons_zero, List.set_cons_succ]
                replace N3 := nats_move N3 hHeld.1
                replace N7 := txts_move N7 hHeld.1
                replace N13 := nats_move N13 hHeld.1
                have N18 := txts_here [x.t] (by intro y hy; simp at hy; subst hy; omega) rfl 1 rfl hHeld.1
                try simp only [World.size_alloc] at N18
                refine wpAnyH_ready (rs := [14]) (by kernel_rfl) (by simp) ?_
                refine AllReadyH.cons (by simp only [List.getElem?_toArray, List.getElem?_cons_succ, List.getElem?_cons_zero]; rfl) (fun K hK => ?_) AllReadyH.nil
                go_simp
                go_at_call 55
                refine (nums_w N13 (by omega) p2 R2.out).mono ?_
                rintro e v26 ⟨rfl, k26⟩
                replace N3 := (N3).below rfl k26
                replace N7 := (N7).below rfl k26
                replace N13 := (N13).below rfl k26
                replace N18 := (N18).below rfl k26
                go_wp2_with fail
                refine hK.out _ _ (⟨bstep hHeld.1 k26, Coder.keepC hHeld.2.1 k26, Coder.keepC hHeld.2.2.1 k26, Coder.keepC hHeld.2.2.2.1 k26, Coder.keepC hHeld.2.2.2.2 k26⟩) (fun hHeld => ?_)
                clear hK K k26
                try simp only [Act.put, List.setIfInBounds_toArray, List.set_cons_zero, List.set_cons_succ]
                refine tk 15 ?_
                try simp only [Act.put, List.setIfInBounds_toArray, List.set_cons_zero, List.set_cons_succ]
                refine wpAnyH_ready (rs := [19]) (by kernel_rfl) (by simp) ?_
                refine AllReadyH.cons (by simp only [List.getElem?_toArray, List.getElem?_cons_succ, List.getElem?_cons_zero]; rfl) (fun K hK => ?_) AllReadyH.nil
                go_simp
                go_at_call 44
                refine (texts_w N18 p3 R3.out (by omega) (by omega)).mono ?_
                rintro e v27 ⟨rfl, k27⟩
                replace N3 := (N3).below rfl k27
                replace N7 := (N7).below rfl k27
                replace N13 := (N13).below rfl k27
                replace N18 := (N18).below rfl k27
                go_wp2_with fail
                refine hK.out _ _ (⟨bstep hHeld.1 k27, Coder.keepC hHeld.2.1 k27, Coder.keepC hHeld.2.2.1 k27, Coder.keepC hHeld.2.2.2.1 k27, Coder.keepC hHeld.2.2.2.2 k27⟩) (fun hHeld => ?_)
                clear hK K k27
                try simp only [Act.put, List.setIfInBounds_toArray, List.set_cons_zero, List.set_cons_succ]
                refine tk 20 ?_
                try simp only [Act.put, List.setIfInBounds_toArray, List.set_cons_zero, List.set_cons_succ]
                refine tk 21 ?_
                try simp only [Act.put, List.setIfInBounds_toArray, List.set_cons_zero, List.set_cons_succ]
                refine wpAnyH_done (by kernel_rfl) ?_ _
                refine NoPanic.normal ?_
                clear hb x0 x1 x2 x3
                obtain ⟨hb, x0, x1, x2, x3⟩ := hHeld
                go_wp2
                go_ret
                exact ⟨by rw [HV.out]; rfl, hb⟩
            · skip
              go_simp
              refine hK.out _ _ (⟨bstep hHeld.1 (balloc (Below.refl _ _) _), Coder.keepC hHeld.2.1 (balloc (Below.refl _ _) _), Coder.keepC hHeld.2.2.1 (balloc (Below.refl _ _) _), Coder.keepC hHeld.2.2.2.1 (balloc (Below.refl _ _) _), Coder.keepC hHeld.2.2.2.2 (balloc (Below.refl _ _) _)⟩) (fun hHeld => ?_)
              clear hK K
              try simp only [Act.put, List.setIfInBounds_toArray, List.set_cons_zero, List.set_cons_succ]
              replace N3 := nats_move N3 hHeld.1
              replace N7 := txts_move N7 hHeld.1
              have N18 := txts_here [x.t] (by intro y hy; simp at hy; subst hy; omega) rfl 1 rfl hHeld.1
              try simp only [World.size_alloc] at N18
              refine wpAnyH_ready (rs := [13]) (by kernel_rfl) (by simp) ?_
              refine AllReadyH.cons (by simp only [List.getElem?_toArray, List.getElem?_cons_succ, List.getElem?_cons_zero]; rfl) (fun K hK => ?_) AllReadyH.nil
              go_simp
              refine hK.out _ _ (⟨bstep hHeld.1 (balloc (Below.refl _ _) _), Coder.keepC hHeld.2.1 (balloc (Below.refl _ _) _), Coder.keepC hHeld.2.2.1 (balloc (Below.refl _ _) _), Coder.keepC hHeld.2.2.2.1 (balloc (Below.refl _ _) _), Coder.keepC hHeld.2.2.2.2 (balloc (Below.refl _ _) _)⟩) (fun hHeld => ?_)
              clear hK K
              try simp only [Act.put, List.setIfInBounds_toArray, List.set_cons_zero, List.set_cons_succ]
              replace N3 := nats_move N3 hHeld.1
              replace N7 := txts_move N7 hHeld.1
              replace N18 := txts_move N18 hHeld.1
              have N13 := nats_here [q] (by intro y hy; simp at hy; omega) rfl 1 rfl hHeld.1
              try simp only [World.size_alloc] at N13
              refine wpAnyH_ready (rs := [14]) (by kernel_rfl) (by simp) ?_
              refine AllReadyH.cons (by simp only [List.getElem?_toArray, List.getElem?_cons_succ, List.getElem?_cons_zero]; rfl) (fun K hK => ?_) AllReadyH.nil
              go_simp
              go_at_call 55
              refine (nums_w N13 (by omega) p2 R2.out).mono ?_
              rintro e v28 ⟨rfl, k28⟩
              replace N3 := (N3).below rfl k28
              replace N7 := (N7).below rfl k28
              replace N18 := (N18).below rfl k28
              replace N13 := (N13).below rfl k28
              go_wp2_with fail
              refine hK.out _ _ (⟨bstep hHeld.1 k28, Coder.keepC hHeld.2.1 k28, Coder.keepC hHeld.2.2.1 k28, Coder.keepC hHeld.2.2.2.1 k28, Coder.keepC hHeld.2.2.2.2 k28⟩) (fun hHeld => ?_)
              clear hK K k28
              try simp only [Act.put, List.setIfInBounds_toArray, List.set_cons_zero, List.set_cons_succ]
              refine tk 15 ?_
              try simp only [Act.put, List.setIfInBounds_toArray, List.set_cons_zero, List.set_cons_succ]
              refine wpAnyH_ready (rs := [19]) (by kernel_rfl) (by simp) ?_
              refine AllReadyH.cons (by simp only [List.getElem?_toArray, List.getElem?_cons_succ, List.getElem?_cons_zero]; rfl) (fun K hK => ?_) AllReadyH.nil
              go_simp
              go_at_call 44
              refine (texts_w N18 p3 R3.out (by omega) (by omega)).mono ?_
              rintro e v29 ⟨rfl, k29⟩
              replace N3 := (N3).below rfl k29
              replace N7 := (N7).below rfl k29
              replace N18 := (N18).below rfl k29
              replace N13 := (N13).below rfl k29
              go_wp2_with fail
              refine hK.out _ _ (⟨bstep hHeld.1 k29, Coder.keepC hHeld.2.1 k29, Coder.keepC hHeld.2.2.1 k29, Coder.keepC hHeld.2.2.2.1 k29, Coder.keepC hHeld.2.2.2.2 k29⟩) (fun hHeld => ?_)
              clear hK K k29
              try simp only [Act.put, List.setIfInBounds_toArray, List.set_cons_zero, List.set_cons_succ]
              refine tk 20 ?_
              try simp only [Act.put, List.setIfInBounds_toArray, List.set_cons_zero, List.set_cons_succ]
              refine tk 21 ?_
              try simp only [Act.put, List.setIfInBounds_toArray, List.set_cons_zero, List.set_cons_succ]
              refine wpAnyH_done (by kernel_rfl) ?_ _
              refine NoPanic.normal ?_
              clear hb x0 x1 x2 x3
              obtain ⟨hb, x0, x1, x2, x3⟩ := hHeld
              go_wp2
              go_ret
              exact ⟨by rw [HV.out]; rfl, hb⟩
          · skip
            go_simp
            refine hK.out _ _ (⟨bstep hHeld.1 (balloc (Below.refl _ _) _), Coder.keepC hHeld.2.1 (balloc (Below.refl _ _) _), Coder.keepC hHeld.2.2.1 (balloc (Below.refl _ _) _), Coder.keepC hHeld.2.2.2.1 (balloc (Below.refl _ _) _), Coder.keepC hHeld.2.2.2.2 (balloc (Below.refl _ _) _)⟩) (fun hHeld => ?_)
            clear hK K
            try simp only [Act.put, List.setIfInBounds_toArray, List.set_cons_zero, List.set_cons_succ]
            replace N3 := nats_move N3 hHeld.1
            replace N7 := txts_move N7 hHeld.1
            have N18 := txts_here [x.t] (by intro y hy; simp at hy; subst hy; omega) rfl 1 rfl hHeld.1
            try simp only [World.size_alloc] at N18
            refine wpAnyH_ready (rs := [12]) (by kernel_rfl) (by simp) ?_
            refine AllReadyH.cons (by simp only [List.getElem?_toArray, List.getElem?_cons_succ, List.getElem?_cons_zero]; rfl) (fun K hK => ?_) AllReadyH.nil
            go_simp
            go_at_call 56
            refine (TU.out _).mono ?_
            rintro e w30 ⟨rfl, rfl⟩
            go_wp2_with fail
            refine hK.out _ _ hHeld (fun hHeld => ?_)
            clear hK K
            try simp only [Act.put, List.setIfInBounds_toArray, List.set_cons_zero, List.set_cons_succ]
            refine wpAnyH_ready (rs := [13]) (by kernel_rfl) (by simp) ?_
            refine AllReadyH.cons (by simp only [List.getElem?_toArray, List.getElem?_cons_succ, List.getElem?_cons_zero]; rfl) (fun K hK => ?_) AllReadyH.nil
            go_simp
            refine hK.out _ _ (⟨bstep hHeld.1 (balloc (Below.refl _ _) _), Coder.keepC hHeld.2.1 (balloc (Below.refl _ _) _), Coder.keepC hHeld.2.2.1 (balloc (Below.refl _ _) _), Coder.keepC hHeld.2.2.2.1 (balloc (Below.refl _ _) _), Coder.keepC hHeld.2.2.2.2 (balloc (Below.refl _ _) _)⟩) (fun hHeld => ?_)
            clear hK K
            try simp only [Act.put, List.setIfInBounds_toArray, List.set_cons_zero, List.set_cons_succ]
            replace N3 := nats_move N3 hHeld.1
            replace N7 := txts_move N7 hHeld.1
            replace N18 := txts_move N18 hHeld.1
            have N13 := nats_here [q] (by intro y hy; simp at hy; omega) rfl 1 rfl hHeld.1
            try simp only [World.size_alloc] at N13
            refine wpAnyH_ready (rs := [14]) (by kernel_rfl) (by simp) ?_
            refine AllReadyH.cons (by simp only [List.getElem?_toArray, List.getElem?_cons_succ, List.getElem?_cons_zero]; rfl) (fun K hK => ?_) AllReadyH.nil
            go_simp
            go_at_call 55
            refine (nums_w N13 (by omega) p2 R2.out).mono ?_
            rintro e v31 ⟨rfl, k31⟩
            replace N3 := (N3).below rfl k31
            replace N7 := (N7).below rfl k31
            replace N18 := (N18).below rfl k31
            replace N13 := (N13).below rfl k31
            go_wp2_with fail
            refine hK.out _ _ (⟨bstep hHeld.1 k31, Coder.keepC hHeld.2.1 k31, Coder.keepC hHeld.2.2.1 k31, Coder.keepC hHeld.2.2.2.1 k31, Coder.keepC hHeld.2.2.2.2 k31⟩) (fun hHeld => ?_)
            clear hK K k31
            try simp only [Act.put, List.setIfInBounds_toArray, List.set_cons_zero, List.set_cons_succ]
            refine tk 15 ?_
            try simp only [Act.put, List.setIfInBounds_toArray, List.set_cons_zero, List.set_cons_succ]
            refine wpAnyH_ready (rs := [19]) (by kernel_rfl) (by simp) ?_
            refine AllReadyH.cons (by simp only [List.getElem?_toArray, List.getElem?_cons_succ, List.getElem?_cons_zero]; rfl) (fun K hK => ?_) AllReadyH.nil
            go_simp
            go_at_call 44
            refine (texts_w N18 p3 R3.out (by omega) (by omega)).mono ?_
            rintro e v32 ⟨rfl, k32⟩
            replace N3 := (N3).below rfl k32
            replace N7 := (N7).below rfl k32
            replace N18 := (N18).below rfl k32
            replace N13 := (N13).below rfl k32
            go_wp2_with fail
            refine hK.out _ _ (⟨bstep hHeld.1 k32, Coder.keepC hHeld.2.1 k32, Coder.keepC hHeld.2.2.1 k32, Coder.keepC hHeld.2.2.2.1 k32, Coder.keepC hHeld.2.2.2.2 k32⟩) (fun hHeld => ?_)
            clear hK K k32
            try simp only [Act.put, List.setIfInBounds_toArray, List.set_cons_zero, List.set_cons_succ]
            refine tk 20 ?_
            try simp only [Act.put, List.setIfInBounds_toArray, List.set_cons_zero, List.set_cons_succ]
            refine tk 21 ?_
            try simp only [Act.put, List.setIfInBounds_toArray, List.set_cons_zero, List.set_cons_succ]
            refine wpAnyH_done (by kernel_rfl) ?_ _
            refine NoPanic.normal ?_
            clear hb x0 x1 x2 x3
            obtain ⟨hb, x0, x1, x2, x3⟩ := hHeld
            go_wp2
            go_ret
            exact ⟨by rw [HV.out]; rfl, hb⟩
        · skip
          go_simp
          refine hK.out _ _ (⟨bstep hHeld.1 (balloc (Below.refl _ _) _), Coder.keepC hHeld.2.1 (balloc (Below.refl _ _) _), Coder.keepC hHeld.2.2.1 (balloc (Below.refl _ _) _), Coder.keepC hHeld.2.2.2.1 (balloc (Below.refl _ _) _), Coder.keepC hHeld.2.2.2.2 (balloc (Below.refl _ _) _)⟩) (fun hHeld => ?_)
          clear hK K
          try simp only [Act.put, List.setIfInBounds_toArray, List.set_cons_zero, List.set_cons_succ]
          replace N3 := nats_move N3 hHeld.1
          replace N7 := txts_move N7 hHeld.1
          have N18 := txts_here [x.t] (by intro y hy; simp at hy; subst hy; omega) rfl 1 rfl hHeld.1
          try simp only [World.size_alloc] at N18
          refine wpAnyH_ready (rs := [8]) (by kernel_rfl) (by simp) ?_
          refine AllReadyH.cons (by simp only [List.getElem?_toArray, List.getElem?_cons_succ, List.getElem?_cons_zero]; rfl) (fun K hK => ?_) AllReadyH.nil
          go_simp
          go_at_call 44
          refine (texts_w N7 p1 R1.out (by omega) (by omega)).mono ?_
          rintro e v33 ⟨rfl, k33⟩
          replace N3 := (N3).below rfl k33
          replace N7 := (N7).below rfl k33
          replace N18 := (N18).below rfl k33
          go_wp2_with fail
          refine hK.out _ _ (⟨bstep hHeld.1 k33, Coder.keepC hHeld.2.1 k33, Coder.keepC hHeld.2.2.1 k33, Coder.keepC hHeld.2.2.2.1 k33, Coder.keepC hHeld.2.2.2.2 k33⟩) (fun hHeld => ?_)
          clear hK K k33
          try simp only [Act.put, List.setIfInBounds_toArray, List.set_cons_zero, List.set_cons_succ]
          refine tk 9 ?_
          try simp only [Act.put, List.setIfInBounds_toArray, List.set_cons_zero, List.set_cons_succ]
          refine wpAnyH_ready (rs := [12]) (by kernel_rfl) (by simp) ?_
          refine AllReadyH.cons (by simp only [List.getElem?_toArray, List.getElem?_cons_succ, List.getElem?_cons_zero]; rfl) (fun K hK => ?_) AllReadyH.nil
          go_simp
          go_at_call 56
          refine (TU.out _).mono ?_
          rintro e w34 ⟨rfl, rfl⟩
          go_wp2_with fail
          refine hK.out _ _ hHeld (fun hHeld => ?_)
          clear hK K
          try simp only [Act.put, List.setIfInBounds_toArray, List.set_cons_zero, List.set_cons_succ]
          refine wpAnyH_ready (rs := [13]) (by kernel_rfl) (by simp) ?_
          refine AllReadyH.cons (by simp only [List.getElem?_toArray, List.getElem?_cons_succ, List.getElem?_cons_zero]; rfl) (fun K hK => ?_) AllReadyH.nil
          go_simp
          refine hK.out _ _ (⟨bstep hHeld.1 (balloc (Below.refl _ _) _), Coder.keepC hHeld.2.1 (balloc (Below.refl _ _) _), Coder.keepC hHeld.2.2.1 (balloc (Below.refl _ _) _), Coder.keepC hHeld.2.2.2.1 (balloc (Below.refl _ _) _), Coder.keepC hHeld.2.2.2.2 (balloc (Below.refl _ _) _)⟩) (fun hHeld => ?_)
          clear hK K
          try simp only [Act.put, List.setIfInBounds_toArray, List.set_cons_zero, List.set_cons_succ]
          replace N3 := nats_move N3 hHeld.1
          replace N7 := txts_move N7 hHeld.1
          replace N18 := txts_move N18 hHeld.1
          have N13 := nats_here [q] (by intro y hy; simp at hy; omega) rfl 1 rfl hHeld.1
          try simp only [World.size_alloc] at N13
          refine wpAnyH_ready (rs := [14]) (by kernel_rfl) (by simp) ?_
          refine AllReadyH.cons (by simp only [List.getElem?_toArray, List.getElem?_cons_succ, List.getElem?_cons_zero]; rfl) (fun K hK => ?_) AllReadyH.nil
          go_simp
          go_at_call 55
          refine (nums_w N13 (by omega) p2 R2.out).mono ?_
          rintro e v35 ⟨rfl, k35⟩
          replace N3 := (N3).below rfl k35
          replace N7 := (N7).below rfl k35
          replace N18 := (N18).below rfl k35
          replace N13 := (N13).below rfl k35
          go_wp2_with fail
          refine hK.out _ _ (⟨bstep hHeld.1 k35, Coder.keepC hHeld.2.1 k35, Coder.keepC hHeld.2.2.1 k35, Coder.keepC hHeld.2.2.2.1 k35, Coder.keepC hHeld.2.2.2.2 k35⟩) (fun hHeld => ?_)
          clear hK K k35
          try simp only [Act.put, List.setIfInBounds_toArray, List.set_cons_zero, List.set_cons_succ]
          refine tk 15 ?_
          try simp only [Act.put, List.setIfInBounds_toArray, List.set_cons_zero, List.set_cons_succ]
          refine wpAnyH_ready (rs := [19]) (by kernel_rfl) (by simp) ?_
          refine AllReadyH.cons (by simp only [List.getElem?_toArray, List.getElem?_cons_succ, List.getElem?_cons_zero]; rfl) (fun K hK => ?_) AllReadyH.nil
          go_simp
          go_at_call 44
          refine (texts_w N18 p3 R3.out (by omega) (by omega)).mono ?_
          rintro e v36 ⟨rfl, k36⟩
          replace N3 := (N3).below rfl k36
          replace N7 := (N7).below rfl k36
          replace N18 := (N18).below rfl k36
          replace N13 := (N13).below rfl k36
          go_wp2_with fail
          refine hK.out _ _ (⟨bstep hHeld.1 k36, Coder.keepC hHeld.2.1 k36, Coder.keepC hHeld.2.2.1 k36, Coder.keepC hHeld.2.2.2.1 k36, Coder.keepC hHeld.2.2.2.2 k36⟩) (fun hHeld => ?_)
          clear hK K k36
          try simp only [Act.put, List.setIfInBounds_toArray, List.set_cons_zero, List.set_cons_succ]
          refine tk 20 ?_
          try simp only [Act.put, List.setIfInBounds_toArray, List.set_cons_zero, List.set_cons_succ]
          refine tk 21 ?_
          try simp only [Act.put, List.setIfInBounds_toArray, List.set_cons_zero, List.set_cons_succ]
          refine wpAnyH_done (by kernel_rfl) ?_ _
          refine NoPanic.normal ?_
          clear hb x0 x1 x2 x3
          obtain ⟨hb, x0, x1, x2, x3⟩ := hHeld
          go_wp2
          go_ret
          exact ⟨by rw [HV.out]; rfl, hb⟩
      · skip
        go_simp
        refine hK.out _ _ (⟨bstep hHeld.1 (balloc (Below.refl _ _) _), Coder.keepC hHeld.2.1 (balloc (Below.refl _ _) _), Coder.keepC hHeld.2.2.1 (balloc (Below.refl _ _) _), Coder.keepC hHeld.2.2.2.1 (balloc (Below.refl _ _) _), Coder.keepC hHeld.2.2.2.2 (balloc (Below.refl _ _) _)⟩) (fun hHeld => ?_)
        clear hK K
        try simp only [Act.put, List.setIfInBounds_toArray, List.set_cons_zero, List.set_cons_succ]
        replace N3 := nats_move N3 hHeld.1
        replace N7 := txts_move N7 hHeld.1
        have N18 := txts_here [x.t] (by intro y hy; simp at hy; subst hy; omega) rfl 1 rfl hHeld.1
        try simp only [World.size_alloc] at N18
        refine wpAnyH_ready (rs := [4]) (by kernel_rfl) (by simp) ?_
        refine AllReadyH.cons (by simp only [List.getElem?_toArray, List.getElem?_cons_succ, List.getElem?_cons_zero]; rfl) (fun K hK => ?_) AllReadyH.nil
        go_simp
        go_at_call 55
        refine (nums_w N3 (by omega) p0 R0.out).mono ?_
        rintro e v37 ⟨rfl, k37⟩
        replace N3 := (N3).below rfl k37
        replace N7 := (N7).below rfl k37
        replace N18 := (N18).below rfl k37
        go_wp2_with fail
        refine hK.out _ _ (⟨bstep hHeld.1 k37, Coder.keepC hHeld.2.1 k37, Coder.keepC hHeld.2.2.1 k37, Coder.keepC hHeld.2.2.2.1 k37, Coder.keepC hHeld.2.2.2.2 k37⟩) (fun hHeld => ?_)
        clear hK K k37
        try simp only [Act.put, List.setIfInBounds_toArray, List.set_cons_zero, List.set_cons_succ]
        refine wpAnyH_ready (rs := [8]) (by kernel_rfl) (by simp) ?_
        refine AllReadyH.cons (by simp only [List.getElem?_toArray, List.getElem?_cons_succ, List.getElem?_cons_zero]; rfl) (fun K hK => ?_) AllReadyH.nil
        go_simp
        go_at_call 44
        refine (texts_w N7 p1 R1.out (by omega) (by omega)).mono ?_
        rintro e v38 ⟨rfl, k38⟩
        replace N3 := (N3).below rfl k38
        replace N7 := (N7).below rfl k38
        replace N18 := (N18).below rfl k38
        go_wp2_with fail
        refine hK.out _ _ (⟨bstep hHeld.1 k38, Coder.keepC hHeld.2.1 k38, Coder.keepC hHeld.2.2.1 k38, Coder.keepC hHeld.2.2.2.1 k38, Coder.keepC hHeld.2.2.2.2 k38⟩) (fun hHeld => ?_)
        clear hK K k38
        try simp only [Act.put, List.setIfInBounds_toArray, List.set_cons_zero, List.set_cons_succ]
        refine tk 9 ?_
        try simp only [Act.put, List.setIfInBounds_toArray, List.set_cons_zero, List.set_cons_succ]
        refine wpAnyH_ready (rs := [12]) (by kernel_rfl) (by simp) ?_
        refine AllReadyH.cons (by simp only [List.getElem?_toArray, List.getElem?_cons_succ, List.getElem?_cons_zero]; rfl) (fun K hK => ?_) AllReadyH.nil
        go_simp
        go_at_call 56
        refine (TU.out _).mono ?_
        rintro e w39 ⟨rfl, rfl⟩
        go_wp2_with fail
        refine hK.out _ _ hHeld (fun hHeld => ?_)
        clear hK K
        try simp only [Act.put, List.setIfInBounds_toArray, List.set_cons_zero, List.set_cons_succ]
        refine wpAnyH_ready (rs := [13]) (by kernel_rfl) (by simp) ?_
        refine AllReadyH.cons (by simp only [List.getElem?_toArray, List.getElem?_cons_succ, List.getElem?_cons_zero]; rfl) (fun K hK => ?_) AllReadyH.nil
        go_simp
        refine hK.out _ _ (⟨bstep hHeld.1 (balloc (Below.refl _ _) _), Coder.keepC hHeld.2.1 (balloc (Below.refl _ _) _), Coder.keepC hHeld.2.2.1 (balloc (Below.refl _ _) _), Coder.keepC hHeld.2.2.2.1 (balloc (Below.refl _ _) _), Coder.keepC hHeld.2.2.2.2 (balloc (Below.refl _ _) _)⟩) (fun hHeld => ?_)
        clear hK K
        try simp only [Act.put, List.setIfInBounds_toArray, List.set_cons_zero, List.set_cons_succ]
        replace N3 := nats_move N3 hHeld.1
        replace N7 := txts_move N7 hHeld.1
        replace N18 := txts_move N18 hHeld.1
        have N13 := nats_here [q] (by intro y hy; simp at hy; omega) rfl 1 rfl hHeld.1
        try simp only [World.size_alloc] at N13
        refine wpAnyH_ready (rs := [14]) (by kernel_rfl) (by simp) ?_
        refine AllReadyH.cons (by simp only [List.getElem?_toArray, List.getElem?_cons_succ, List.getElem?_cons_zero]; rfl) (fun K hK => ?_) AllReadyH.nil
        go_simp
        go_at_call 55
        refine (nums_w N13 (by omega) p2 R2.out).mono ?_
        rintro e v40 ⟨rfl, k40⟩
        replace N3 := (N3).below rfl k40
        replace N7 := (N7).below rfl k40
        replace N18 := (N18).below rfl k40
        replace N13 := (N13).below rfl k40
        go_wp2_with fail
        refine hK.out _ _ (⟨bstep hHeld.1 k40, Coder.keepC hHeld.2.1 k40, Coder.keepC hHeld.2.2.1 k40, Coder.keepC hHeld.2.2.2.1 k40, Coder.keepC hHeld.2.2.2.2 k40⟩) (fun hHeld => ?_)
        clear hK K k40
        try simp only [Act.put, List.setIfInBounds_toArray, List.set_cons_zero, List.set_cons_succ]
        refine tk 15 ?_
        try simp only [Act.put, List.setIfInBounds_toArray, List.set_cons_zero, List.set_cons_succ]
        refine wpAnyH_ready (rs := [19]) (by kernel_rfl) (by simp) ?_
        refine AllReadyH.cons (by simp only [List.getElem?_toArray, List.getElem?_cons_succ, List.getElem?_cons_zero]; rfl) (fun K hK => ?_) AllReadyH.nil
        go_simp
        go_at_call 44
        refine (texts_w N18 p3 R3.out (by omega) (by omega)).mono ?_
        rintro e v41 ⟨rfl, k41⟩
        replace N3 := (N3).below rfl k41
        replace N7 := (N7).below rfl k41
        replace N18 := (N18).below rfl k41
        replace N13 := (N13).below rfl k41
        go_wp2_with fail
        refine hK.out _ _ (⟨bstep hHeld.1 k41, Coder.keepC hHeld.2.1 k41, Coder.keepC hHeld.2.2.1 k41, Coder.keepC hHeld.2.2.2.1 k41, Coder.keepC hHeld.2.2.2.2 k41⟩) (fun hHeld => ?_)
        clear hK K k41
        try simp only [Act.put, List.setIfInBounds_toArray, List.set_cons_zero, List.set_cons_succ]
        refine tk 20 ?_
        try simp only [Act.put, List.setIfInBounds_toArray, List.set_cons_zero, List.set_cons_succ]
        refine tk 21 ?_
        try simp only [Act.put, List.setIfInBounds_toArray, List.set_cons_zero, List.set_cons_succ]
        refine wpAnyH_done (by kernel_rfl) ?_ _
        refine NoPanic.normal ?_
        clear hb x0 x1 x2 x3
        obtain ⟨hb, x0, x1, x2, x3⟩ := hHeld
        go_wp2
        go_ret
        exact ⟨by rw [HV.out]; rfl, hb⟩
    · skip
      go_simp
      refine hK.out _ _ (⟨bstep hHeld.1 (balloc (Below.refl _ _) _), Coder.keepC hHeld.2.1 (balloc (Below.refl _ _) _), Coder.keepC hHeld.2.2.1 (balloc (Below.refl _ _) _), Coder.keepC hHeld.2.2.2.1 (balloc (Below.refl _ _) _), Coder.keepC hHeld.2.2.2.2 (balloc (Below.refl _ _) _)⟩) (fun hHeld => ?_)
      clear hK K
      try simp only [Act.put, List.setIfInBounds_toArray, List.set_cons_zero, List.set_cons_succ]
      replace N3 := nats_move N3 hHeld.1
      have N18 := txts_here [x.t] (by intro y hy; simp at hy; subst hy; omega) rfl 1 rfl hHeld.1
      try simp only [World.size_alloc] at N18
      refine wpAnyH_ready (rs := [4, 7]) (by kernel_rfl) (by simp) ?_
      refine AllReadyH.cons (by simp only [List.getElem?_toArray, List.getElem?_cons_succ, List.getElem?_cons_zero]; rfl) (fun K hK => ?_) (AllReadyH.cons (by simp only [List.getElem?_toArray, List.getElem?_cons_succ, List.getElem?_cons_zero]; rfl) (fun K hK => ?_) (AllReadyH.nil))
      · skip
        go_simp
        go_at_call 55
        refine (nums_w N3 (by omega) p0 R0.out).mono ?_
        rintro e v42 ⟨rfl, k42⟩
        replace N3 := (N3).below rfl k42
        replace N18 := (N18).below rfl k42
        go_wp2_with fail
        refine hK.out _ _ (⟨bstep hHeld.1 k42, Coder.keepC hHeld.2.1 k42, Coder.keepC hHeld.2.2.1 k42, Coder.keepC hHeld.2.2.2.1 k42, Coder.keepC hHeld.2.2.2.2 k42⟩) (fun hHeld => ?_)
        clear hK K k42
        try simp only [Act.put, List.setIfInBounds_toArray, List.set_cons_zero, List.set_cons_succ]
        refine wpAnyH_ready (rs := [7]) (by kernel_rfl) (by simp) ?_
        refine AllReadyH.cons (by simp only [List.getElem?_toArray, List.getElem?_cons_succ, List.getElem?_cons_zero]; rfl) (fun K hK => ?_) AllReadyH.nil
        go_simp
        refine hK.out _ _ (⟨bstep hHeld.1 (balloc (Below.refl _ _) _), Coder.keepC hHeld.2.1 (balloc (Below.refl _ _) _), Coder.keepC hHeld.2.2.1 (balloc (Below.refl _ _) _), Coder.keepC hHeld.2.2.2.1 (balloc (Below.refl _ _) _), Coder.keepC hHeld.2.2.2.2 (balloc (Below.refl _ _) _)⟩) (fun hHeld => ?_)
        clear hK K
        try simp only [Act.put, List.setIfInBounds_toArray, List.set_cons_zero, List.set_cons_succ]
        replace N3 := nats_move N3 hHeld.1
        replace N18 := txts_move N18 hHeld.1
        have N7 := txts_here [x.k] (by intro y hy; simp at hy; subst hy; omega) rfl 1 rfl hHeld.1
        try simp only [World.size_alloc] at N7
        refine wpAnyH_ready (rs := [8]) (by kernel_rfl) (by simp) ?_
        refine AllReadyH.cons (by simp only [List.getElem?_toArray, List.getElem?_cons_succ, List.getElem?_cons_zero]; rfl) (fun K hK => ?_) AllReadyH.nil
        go_simp
        go_at_call 44
        refine (texts_w N7 p1 R1.out (by omega) (by omega)).mono ?_
        rintro e v43 ⟨rfl, k43⟩
        replace N3 := (N3).below rfl k43
        replace N18 := (N18).below rfl k43
        replace N7 := (N7).below rfl k43
        go_wp2_with fail
        refine hK.out _ _ (⟨bstep hHeld.1 k43, Coder.keepC hHeld.2.1 k43, Coder.keepC hHeld.2.2.1 k43, Coder.keepC hHeld.2.2.2.1 k43, Coder.keepC hHeld.2.2.2.2 k43⟩) (fun hHeld => ?_)
        clear hK K k43
        try simp only [Act.put, List.setIfInBounds_toArray, List.set_cons_zero, List.set_cons_succ]
        refine tk 9 ?_
        try simp only [Act.put, List.setIfInBounds_toArray, List.set_cons_zero, List.set_cons_succ]
        refine wpAnyH_ready (rs := [12]) (by kernel_rfl) (by simp) ?_
        refine AllReadyH.cons (by simp only [List.getElem?_toArray, List.getElem?_cons_succ, List.getElem?_cons_zero]; rfl) (fun K hK => ?_) AllReadyH.nil
        go_simp
        go_at_call 56
        refine (TU.out _).mono ?_
        rintro e w44 ⟨rfl, rfl⟩
        go_wp2_with fail
        refine hK.out _ _ hHeld (fun hHeld => ?_)
        clear hK K
        try simp only [Act.put, List.setIfInBounds_toArray, List.set_cons_zero, List.set_cons_succ]
        refine wpAnyH_ready (rs := [13]) (by kernel_rfl) (by simp) ?_
        refine AllReadyH.cons (by simp only [List.getElem?_toArray, List.getElem?_cons_succ, List.getElem?_cons_zero]; rfl) (fun K hK => ?_) AllReadyH.nil
        go_simp
        refine hK.out _ _ (⟨bstep hHeld.1 (balloc (Below.refl _ _) _), Coder.keepC hHeld.2.1 (balloc (Below.refl _ _) _), Coder.keepC hHeld.2.2.1 (balloc (Below.refl _ _) _), Coder.keepC hHeld.2.2.2.1 (balloc (Below.refl _ _) _), Coder.keepC hHeld.2.2.2.2 (balloc (Below.refl _ _) _)⟩) (fun hHeld => ?_)
        clear hK K
        try simp only [Act.put, List.setIfInBounds_toArray, List.set_cons_zero, List.set_cons_succ]
        replace N3 := nats_move N3 hHeld.1
        replace N18 := txts_move N18 hHeld.1
        replace N7 := txts_move N7 hHeld.1
        have N13 := nats_here [q] (by intro y hy; simp at hy; omega) rfl 1 rfl hHeld.1
        try simp only [World.size_alloc] at N13
        refine wpAnyH_ready (rs := [14]) (by kernel_rfl) (by simp) ?_
        refine AllReadyH.cons (by simp only [List.getElem?_toArray, List.getElem?_cons_succ, List.getElem?_cons_zero]; rfl) (fun K hK => ?_) AllReadyH.nil
        go_simp
        go_at_call 55
        refine (nums_w N13 (by omega) p2 R2.out).mono ?_
        rintro e v45 ⟨rfl, k45⟩
        replace N3 := (N3).below rfl k45
        replace N18 := (N18).below rfl k45
        replace N7 := (N7).below rfl k45
        replace N13 := (N13).below rfl k45
        go_wp2_with fail
        refine hK.out _ _ (⟨bstep hHeld.1 k45, Coder.keepC hHeld.2.1 k45, Coder.keepC hHeld.2.2.1 k45, Coder.keepC hHeld.2.2.2.1 k45, Coder.keepC hHeld.2.2.2.2 k45⟩) (fun hHeld => ?_)
        clear hK K k45
        try simp only [Act.put, List.setIfInBounds_toArray, List.set_cons_zero, List.set_cons_succ]
        refine tk 15 ?_
        try simp only [Act.put, List.setIfInBounds_toArray, List.set_cons_zero, List.set_cons_succ]
        refine wpAnyH_ready (rs := [19]) (by kernel_rfl) (by simp) ?_
        refine AllReadyH.cons (by simp only [List.getElem?_toArray, List.getElem?_cons_succ, List.getElem?_cons_zero]; rfl) (fun K hK => ?_) AllReadyH.nil
        go_simp
        go_at_call 44
        refine (texts_w N18 p3 R3.out (by omega) (by omega)).mono ?_
        rintro e v46 ⟨rfl, k46⟩
        replace N3 := (N3).below rfl k46
        replace N18 := (N18).below rfl k46
        replace N7 := (N7).below rfl k46
        replace N13 := (N13).below rfl k46
        go_wp2_with fail
        refine hK.out _ _ (⟨bstep hHeld.1 k46, Coder.keepC hHeld.2.1 k46, Coder.keepC hHeld.2.2.1 k46, Coder.keepC hHeld.2.2.2.1 k46, Coder.keepC hHeld.2.2.2.2 k46⟩) (fun hHeld => ?_)
        clear hK K k46
        try simp only [Act.put, List.setIfInBounds_toArray, List.set_cons_zero, List.set_cons_succ]
        refine tk 20 ?_
        try simp only [Act.put, List.setIfInBounds_toArray, List.set_cons_zero, List.set_cons_succ]
        refine tk 21 ?_
        try simp only [Act.put, List.setIfInBounds_toArray, List.set_cons_zero, List.set_cons_succ]
        refine wpAnyH_done (by kernel_rfl) ?_ _
        refine NoPanic.normal ?_
        clear hb x0 x1 x2 x3
        obtain ⟨hb, x0, x1, x2, x3⟩ := hHeld
        go_wp2
        go_ret
        exact ⟨by rw [HV.out]; rfl, hb⟩
      · skip
        go_simp
        refine hK.out _ _ (⟨bstep hHeld.1 (balloc (Below.refl _ _) _), Coder.keepC hHeld.2.1 (balloc (Below.refl _ _) _), Coder.keepC hHeld.2.2.1 (balloc (Below.refl _ _) _), Coder.keepC hHeld.2.2.2.1 (balloc (Below.refl _ _) _), Coder.keepC hHeld.2.2.2.2 (balloc (Below.refl _ _) _)⟩) (fun hHeld => ?_)
        clear hK K
        try simp only [Act.put, List.setIfInBounds_toArray, List.set_cons_zero, List.set_cons_succ]
        replace N3 := nats_move N3 hHeld.1
        replace N18 := txts_move N18 hHeld.1
        have N7 := txts_here [x.k] (by intro y hy; simp at hy; subst hy; omega) rfl 1 rfl hHeld.1
        try simp only [World.size_alloc] at N7
        refine wpAnyH_ready (rs := [4]) (by kernel_rfl) (by simp) ?_
        refine AllReadyH.cons (by simp only [List.getElem?_toArray, List.getElem?_cons_succ, List.getElem?_cons_zero]; rfl) (fun K hK => ?_) AllReadyH.nil
        go_simp
        go_at_call 55
        refine (nums_w N3 (by omega) p0 R0.out).mono ?_
        rintro e v47 ⟨rfl, k47⟩
        replace N3 := (N3).below rfl k47
        replace N18 := (N18).below rfl k47
        replace N7 := (N7).below rfl k47
        go_wp2_with fail
        refine hK.out _ _ (⟨bstep hHeld.1 k47, Coder.keepC hHeld.2.1 k47, Coder.keepC hHeld.2.2.1 k47, Coder.keepC hHeld.2.2.2.1 k47, Coder.keepC hHeld.2.2.2.2 k47⟩) (fun hHeld => ?_)
        clear hK K k47
        try simp only [Act.put, List.setIfInBounds_toArray, List.set_cons_zero, List.set_cons_succ]
        refine wpAnyH_ready (rs := [8]) (by kernel_rfl) (by simp) ?_
        refine AllReadyH.cons (by simp only [List.getElem?_toArray, List.getElem?_cons_succ, List.getElem?_cons_zero]; rfl) (fun K hK => ?_) AllReadyH.nil
        go_simp
        go_at_call 44
        refine (texts_w N7 p1 R1.out (by omega) (by omega)).mono ?_
        rintro e v48 ⟨rfl, k48⟩
        replace N3 := (N3).below rfl k48
        replace N18 := (N18).below rfl k48
        replace N7 := (N7).below rfl k48
        go_wp2_with fail
        refine hK.out _ _ (⟨bstep hHeld.1 k48, Coder.keepC hHeld.2.1 k48, Coder.keepC hHeld.2.2.1 k48, Coder.keepC hHeld.2.2.2.1 k48, Coder.keepC hHeld.2.2.2.2 k48⟩) (fun hHeld => ?_)
        clear hK K k48
        try simp only [Act.put, List.setIfInBounds_toArray, List.set_cons_zero, List.set_cons_succ]
        refine tk 9 ?_
        try simp only [Act.put, List.setIfInBounds_toArray, List.set_cons_zero, List.set_cons_succ]
        refine wpAnyH_ready (rs := [12]) (by kernel_rfl) (by simp) ?_
        refine AllReadyH.cons (by simp only [List.getElem?_toArray, List.getElem?_cons_succ, List.getElem?_cons_zero]; rfl) (fun K hK => ?_) AllReadyH.nil
        go_simp
        go_at_call 56
        refine (TU.out _).mono ?_
        rintro e w49 ⟨rfl, rfl⟩
        go_wp2_with fail
        refine hK.out _ _ hHeld (fun hHeld => ?_)
        clear hK K
        try simp only [Act.put, List.setIfInBounds_toArray, List.set_cons_zero, List.set_cons_succ]
        refine wpAnyH_ready (rs := [13]) (by kernel_rfl) (by simp) ?_
        refine AllReadyH.cons (by simp only [List.getElem?_toArray, List.getElem?_cons_succ, List.getElem?_cons_zero]; rfl) (fun K hK => ?_) AllReadyH.nil
        go_simp
        refine hK.out _ _ (⟨bstep hHeld.1 (balloc (Below.refl _ _) _), Coder.keepC hHeld.2.1 (balloc (Below.refl _ _) _), Coder.keepC hHeld.2.2.1 (balloc (Below.refl _ _) _), Coder.keepC hHeld.2.2.2.1 (balloc (Below.refl _ _) _), Coder.keepC hHeld.2.2.2.2 (balloc (Below.refl _ _) _)⟩) (fun hHeld => ?_)
        clear hK K
        try simp only [Act.put, List.setIfInBounds_toArray, List.set_cons_zero, List.set_cons_succ]
        replace N3 := nats_move N3 hHeld.1
        replace N18 := txts_move N18 hHeld.1
        replace N7 := txts_move N7 hHeld.1
        have N13 := nats_here [q] (by intro y hy; simp at hy; omega) rfl 1 rfl hHeld.1
        try simp only [World.size_alloc] at N13
        refine wpAnyH_ready (rs := [14]) (by kernel_rfl) (by simp) ?_
        refine AllReadyH.cons (by simp only [List.getElem?_toArray, List.getElem?_cons_succ, List.getElem?_cons_zero]; rfl) (fun K hK => ?_) AllReadyH.nil
        go_simp
        go_at_call 55
        refine (nums_w N13 (by omega) p2 R2.out).mono ?_
        rintro e v50 ⟨rfl, k50⟩
        replace N3 := (N3).below rfl k50
        replace N18 := (N18).below rfl k50
        replace N7 := (N7).below rfl k50
        replace N13 := (N13).below rfl k50
        go_wp2_with fail
        refine hK.out _ _ (⟨bstep hHeld.1 k50, Coder.keepC hHeld.2.1 k50, Coder.keepC hHeld.2.2.1 k50, Coder.keepC hHeld.2.2.2.1 k50, Coder.keepC hHeld.2.2.2.2 k50⟩) (fun hHeld => ?_)
        clear hK K k50
        try simp only [Act.put, List.setIfInBounds_toArray, List.set_cons_zero, List.set_cons_succ]
        refine tk 15 ?_
        try simp only [Act.put, List.setIfInBounds_toArray, List.set_cons_zero, List.set_cons_succ]
        refine wpAnyH_ready (rs := [19]) (by kernel_rfl) (by simp) ?_
        refine AllReadyH.cons (by simp only [List.getElem?_toArray, List.getElem?_cons_succ, List.getElem?_cons_zero]; rfl) (fun K hK => ?_) AllReadyH.nil
        go_simp
        go_at_call 44
        refine (texts_w N18 p3 R3.out (by omega) (by omega)).mono ?_
        rintro e v51 ⟨rfl, k51⟩
        replace N3 := (N3).below rfl k51
        replace N18 := (N18).below rfl k51
        replace N7 := (N7).below rfl k51
        replace N13 := (N13).below rfl k51
        go_wp2_with fail
        refine hK.out _ _ (⟨bstep hHeld.1 k51, Coder.keepC hHeld.2.1 k51, Coder.keepC hHeld.2.2.1 k51, Coder.keepC hHeld.2.2.2.1 k51, Coder.keepC hHeld.2.2.2.2 k51⟩) (fun hHeld => ?_)
        clear hK K k51
        try simp only [Act.put, List.setIfInBounds_toArray, List.set_cons_zero, List.set_cons_succ]
        refine tk 20 ?_
        try simp only [Act.put, List.setIfInBounds_toArray, List.set_cons_zero, List.set_cons_succ]
        refine tk 21 ?_
        try simp only [Act.put, List.setIfInBounds_toArray, List.set_cons_zero, List.set_cons_succ]
        refine wpAnyH_done (by kernel_rfl) ?_ _
        refine NoPanic.normal ?_
        clear hb x0 x1 x2 x3
        obtain ⟨hb, x0, x1, x2, x3⟩ := hHeld
        go_wp2
        go_ret
        exact ⟨by rw [HV.out]; rfl, hb⟩
  · skip
    go_simp
    refine hK.out _ _ (⟨bstep hHeld.1 (balloc (Below.refl _ _) _), Coder.keepC hHeld.2.1 (balloc (Below.refl _ _) _), Coder.keepC hHeld.2.2.1 (balloc (Below.refl _ _) _), Coder.keepC hHeld.2.2.2.1 (balloc (Below.refl _ _) _), Coder.keepC hHeld.2.2.2.2 (balloc (Below.refl _ _) _)⟩) (fun hHeld => ?_)
    clear hK K
    try simp only [Act.put, List.setIfInBounds_toArray, List.set_cons_zero, List.set_cons_succ]
    have N7 := txts_here [x.k] (by intro y hy; simp at hy; subst hy; omega) rfl 1 rfl hHeld.1
    try simp only [World.size_alloc] at N7
    refine wpAnyH_ready (rs := [3, 18]) (by kernel_rfl) (by simp) ?_
    refine AllReadyH.cons (by simp only [List.getElem?_toArray, List.getElem?_cons_succ, List.getElem?_cons_zero]; rfl) (fun K hK => ?_) (AllReadyH.cons (by simp only [List.getElem?_toArray, List.getElem?_cons_succ, List.getElem?_cons_zero]; rfl) (fun K hK => ?_) (AllReadyH.nil))
    · skip
      go_simp
      refine hK.out _ _ (⟨bstep hHeld.1 (balloc (Below.refl _ _) _), Coder.keepC hHeld.2.1 (balloc (Below.refl _ _) _), Coder.keepC hHeld.2.2.1 (balloc (Below.refl _ _) _), Coder.keepC hHeld.2.2.2.1 (balloc (Below.refl _ _) _), Coder.keepC hHeld.2.2.2.2 (balloc (Below.refl _ _) _)⟩) (fun hHeld => ?_)
      clear hK K
      try simp only [Act.put, List.setIfInBounds_toArray, List.set_cons_zero, List.set_cons_succ]
      replace N7 := txts_move N7 hHeld.1
      have N3 := nats_here [x.d] (by intro y hy; simp at hy; omega) rfl 1 rfl hHeld.1
      try simp only [World.size_alloc] at N3
      refine wpAnyH_ready (rs := [4, 18]) (by kernel_rfl) (by simp) ?_
      refine AllReadyH.cons (by simp only [List.getElem?_toArray, List.getElem?_cons_succ, List.getElem?_cons_zero]; rfl) (fun K hK => ?_) (AllReadyH.cons (by simp only [List.getElem?_toArray, List.getElem?_cons_succ, List.getElem?_cons_zero]; rfl) (fun K hK => ?_) (AllReadyH.nil))
      · skip
        go_simp
        go_at_call 55
        refine (nums_w N3 (by omega) p0 R0.out).mono ?_
        rintro e v52 ⟨rfl, k52⟩
        replace N7 := (N7).below rfl k52
        replace N3 := (N3).below rfl k52
        go_wp2_with fail
        refine hK.out _ _ (⟨bstep hHeld.1 k52, Coder.keepC hHeld.2.1 k52, Coder.keepC hHeld.2.2.1 k52, Coder.keepC hHeld.2.2.2.1 k52, Coder.keepC hHeld.2.2.2.2 k52⟩) (fun hHeld => ?_)
        clear hK K k52
        try simp only [Act.put, List.setIfInBounds_toArray, List.set_cons_zero, List.set_cons_succ]
        refine wpAnyH_ready (rs := [8, 18]) (by kernel_rfl) (by simp) ?_
        refine AllReadyH.cons (by simp only [List.getElem?_toArray, List.getElem?_cons_succ, List.getElem?_cons_zero]; rfl) (fun K hK => ?_) (AllReadyH.cons (by simp only [List.getElem?_toArray, List.getElem?_cons_succ, List.getElem?_cons_zero]; rfl) (fun K hK => ?_) (AllReadyH.nil))
        · skip
          go_simp
          go_at_call 44
          refine (texts_w N7 p1 R1.out (by omega) (by omega)).mono ?_
          rintro e v53 ⟨rfl, k53⟩
          replace N7 := (N7).below rfl k53
          replace N3 := (N3).below rfl k53
          go_wp2_with fail
          refine hK.out _ _ (⟨bstep hHeld.1 k53, Coder.keepC hHeld.2.1 k53, Coder.keepC hHeld.2.2.1 k53, Coder.keepC hHeld.2.2.2.1 k53, Coder.keepC hHeld.2.2.2.2 k53⟩) (fun hHeld => ?_)
          clear hK K k53
          try simp only [Act.put, List.setIfInBounds_toArray, List.set_cons_zero, List.set_cons_succ]
          refine tk 9 ?_
          try simp only [Act.put, List.setIfInBounds_toArray, List.set_cons_zero, List.set_cons_succ]
          refine wpAnyH_ready (rs := [12, 18]) (by kernel_rfl) (by simp) ?_
          refine AllReadyH.cons (by simp only [List.getElem?_toArray, List.getElem?_cons_succ, List.getElem?_cons_zero]; rfl) (fun K hK => ?_) (AllReadyH.cons (by simp only [List.getElem?_toArray, List.getElem?_cons_succ, List.getElem?_cons_zero]; rfl) (fun K hK => ?_) (AllReadyH.nil))
          · skip
            go_simp
            go_at_call 56
            refine (TU.out _).mono ?_
            rintro e w54 ⟨rfl, rfl⟩
            go_wp2_with fail
            refine hK.out _ _ hHeld (fun hHeld => ?_)
            clear hK K
            try simp only [Act.put, List.setIfInBounds_toArray, List.set_cons_zero, List.set_cons_succ]
            refine wpAnyH_ready (rs := [13, 18]) (by kernel_rfl) (by simp) ?_
            refine AllReadyH.cons (by simp only [List.getElem?_toArray, List.getElem?_cons_succ, List.getElem?_cons_zero]; rfl) (fun K hK => ?_) (AllReadyH.cons (by simp only [List.getElem?_toArray, List.getElem?_cons_succ, List.getElem?_cons_zero]; rfl) (fun K hK => ?_) (AllReadyH.nil))
            · skip
              go_simp
              refine hK.out _ _ (⟨bstep hHeld.1 (balloc (Below.refl _ _) _), Coder.keepC hHeld.2.1 (balloc (Below.refl _ _) _), Coder.keepC hHeld.2.2.1 (balloc (Below.refl _ _) _), Coder.keepC hHeld.2.2.2.1 (balloc (Below.refl _ _) _), Coder.keepC hHeld.2.2.2.2 (balloc (Below.refl _ _) _)⟩) (fun hHeld => ?_)
              clear hK K
              try simp only [Act.put, List.setIfInBounds_toArray, List.set_cons_zero, List.set_cons_succ]
              replace N7 := txts_move N7 hHeld.1
              replace N3 := nats_move N3 hHeld.1
              have N13 := nats_here [q] (by intro y hy; simp at hy; omega) rfl 1 rfl hHeld.1
              try simp only [World.size_alloc] at N13
              refine wpAnyH_ready (rs := [14, 18]) (by kernel_rfl) (by simp) ?_
              refine AllReadyH.cons (by simp only [List.getElem?_toArray, List.getElem?_cons_succ, List.getElem?_cons_zero]; rfl) (fun K hK => ?_) (AllReadyH.cons (by simp only [List.getElem?_toArray, List.getElem?_cons_succ, List.getElem?_cons_zero]; rfl) (fun K hK => ?_) (AllReadyH.nil))
              · skip
                go_simp
                go_at_call 55
                refine (nums_w N13 (by omega) p2 R2.out).mono ?_
                rintro e v55 ⟨rfl, k55⟩
                replace N7 := (N7).below rfl k55
                replace N3 := (N3).below rfl k55
                replace N13 := (N13).below rfl k55
                go_wp2_with fail
                refine hK.out _ _ (⟨bstep hHeld.1 k55, Coder.keepC hHeld.2.1 k55, Coder.keepC hHeld.2.2.1 k55, Coder.keepC hHeld.2.2.2.1 k55, Coder.keepC hHeld.2.2.2.2 k55⟩) (fun hHeld => ?_)
                clear hK K k55
                try simp only [Act.put, List.setIfInBounds_toArray, List.set_cons_zero, List.set_cons_succ]
                refine tk 15 ?_
                try simp only [Act.put, List.setIfInBounds_toArray, List.set_cons_zero, List.set_cons_succ]
                refine wpAnyH_ready (rs := [18]) (by kernel_rfl) (by simp) ?_
                refine AllReadyH.cons (by simp only [List.getElem?_toArray, List.getElem?_cons_succ, List.getElem?_cons_zero]; rfl) (fun K hK => ?_) AllReadyH.nil
                go_simp
                refine hK.out _ _ (⟨bstep hHeld.1 (balloc (Below.refl _ _) _), Coder.keepC hHeld.2.1 (balloc (Below.refl _ _) _), Coder.keepC hHeld.2.2.1 (balloc (Below.refl _ _) _), Coder.keepC hHeld.2.2.2.1 (balloc (Below.refl _ _) _), Coder.keepC hHeld.2.2.2.2 (balloc (Below.refl _ _) _)⟩) (fun hHeld => ?_)
                clear hK K
                try simp only [Act.put, List.setIfInBounds_toArray, List.set_cons_zero, List.set_cons_succ]
                replace N7 := txts_move N7 hHeld.1
                replace N3 := nats_move N3 hHeld.1
                replace N13 := nats_move N13 hHeld.1
                have N18 := txts_here [x.t] (by intro y hy; simp at hy; subst hy; omega) rfl 1 rfl hHeld.1
                try simp only [World.size_alloc] at N18
                refine wpAnyH_ready (rs := [19]) (by kernel_rfl) (by simp) ?_
                refine AllReadyH.cons (by simp only [List.getElem?_toArray, List.getElem?_cons_succ, List.getElem?_cons_zero]; rfl) (fun K hK => ?_) AllReadyH.nil
                go_simp
                go_at_call 44
                refine (texts_w N18 p3 R3.out (by omega) (by omega)).mono ?_
                rintro e v56 ⟨rfl, k56⟩
                replace N7 := (N7).below rfl k56
                replace N3 := (N3).below rfl k56
                replace N13 := (N13).below rfl k56
                replace N18 := (N18).below rfl k56
                go_wp2_with fail
                refine hK.out _ _ (⟨bstep hHeld.1 k56, Coder.keepC hHeld.2.1 k56, Coder.keepC hHeld.2.2.1 k56, Coder.keepC hHeld.2.2.2.1 k56, Coder.keepC hHeld.2.2.2.2 k56⟩) (fun hHeld => ?_)
                clear hK K k56
                try simp only [Act.put, List.setIfInBounds_toArray, List.set_cons_zero, List.set_cons_succ]
                refine tk 20 ?_
                try simp only [Act.put, List.setIfInBounds_toArray, List.set_cons_zero, List.set_cons_succ]
                refine tk 21 ?_
                try simp only [Act.put, List.setIfInBounds_toArray, List.set_cons_zero, List.set_cons_succ]
                refine wpAnyH_done (by kernel_rfl) ?_ _
                refine NoPanic.normal ?_
                clear hb x0 x1 x2 x3
                obtain ⟨hb, x0, x1, x2, x3⟩ := hHeld
                go_wp2
                go_ret
                exact ⟨by rw [HV.out]; rfl, hb⟩
              · skip
                go_simp
                refine hK.out _ _ (⟨bstep hHeld.1 (balloc (Below.refl _ _) _), Coder.keepC hHeld.2.1 (balloc (Below.refl _ _) _), Coder.keepC hHeld.2.2.1 (balloc (Below.refl _ _) _), Coder.keepC hHeld.2.2.2.1 (balloc (Below.refl _ _) _), Coder.keepC hHeld.2.2.2.2 (balloc (Below.refl _ _) _)⟩) (fun hHeld => ?_)
                clear hK K
                try simp only [Act.put, List.setIfInBounds_toArray, List.set_cons_zero, List.set_cons_succ]
                replace N7 := txts_move N7 hHeld.1
                replace N3 := nats_move N3 hHeld.1
                replace N13 := nats_move N13 hHeld.1
                have N18 := txts_here [x.t] (by intro y hy; simp at hy; subst hy; omega) rfl 1 rfl hHeld.1
                try simp only [World.size_alloc] at N18
                refine wpAnyH_ready (rs := [14]) (by kernel_rfl) (by simp) ?_
                refine AllReadyH.cons (by simp only [List.getElem?_toArray, List.getElem?_cons_succ, List.getElem?_cons_zero]; rfl) (fun K hK => ?_) AllReadyH.nil
                go_simp
                go_at_call 55
                refine (nums_w N13 (by omega) p2 R2.out).mono ?_
                rintro e v57 ⟨rfl, k57⟩
                replace N7 := (N7).below rfl k57
                replace N3 := (N3).below rfl k57
                replace N13 := (N13).below rfl k57
                replace N18 := (N18).below rfl k57
                go_wp2_with fail
                refine hK.out _ _ (⟨bstep hHeld.1 k57, Coder.keepC hHeld.2.1 k57, Coder.keepC hHeld.2.2.1 k57, Coder.keepC hHeld.2.2.2.1 k57, Coder.keepC hHeld.2.2.2.2 k57⟩) (fun hHeld => ?_)
                clear hK K k57
                try simp only [Act.put, List.setIfInBounds_toArray, List.set_cons_zero, List.set_cons_succ]
                refine tk 15 ?_
                try simp only [Act.put, List.setIfInBounds_toArray, List.set_cons_zero, List.set_cons_succ]
                refine wpAnyH_ready (rs := [19]) (by kernel_rfl) (by simp) ?_
                refine AllReadyH.cons (by simp only [List.getElem?_toArray, List.getElem?_cons_succ, List.getElem?_cons_zero]; rfl) (fun K hK => ?_) AllReadyH.nil
                go_simp
                go_at_call 44
                refine (texts_w N18 p3 R3.out (by omega) (by omega)).mono ?_
                rintro e v58 ⟨rfl, k58⟩
                replace N7 := (N7).below rfl k58
                replace N3 := (N3).below rfl k58
                replace N13 := (N13).below rfl k58
                replace N18 := (N18).below rfl k58
                go_wp2_with fail
                refine hK.out _ _ (⟨bstep hHeld.1 k58, Coder.keepC hHeld.2.1 k58, Coder.keepC hHeld.2.2.1 k58, Coder.keepC hHeld.2.2.2.1 k58, Coder.keepC hHeld.2.2.2.2 k58⟩) (fun hHeld => ?_)
                clear hK K k58
                try simp only [Act.put, List.setIfInBounds_toArray, List.set_cons_zero, List.set_cons_succ]
                refine tk 20 ?_
                try simp only [Act.put, List.setIfInBounds_toArray, List.set_cons_zero, List.set_cons_succ]
                refine tk 21 ?_
                try simp only [Act.put, List.setIfInBounds_toArray, List.set_cons_zero, List.set_cons_succ]
                refine wpAnyH_done (by kernel_rfl) ?_ _
                refine NoPanic.normal ?_
                clear hb x0 x1 x2 x3
                obtain ⟨hb, x0, x1, x2, x3⟩ := hHeld
                go_wp2
                go_ret
                exact ⟨by rw [HV.out]; rfl, hb⟩
            · skip
              go_simp
              refine hK.out _ _ (⟨bstep hHeld.1 (balloc (Below.refl _ _) _), Coder.keepC hHeld.2.1 (balloc (Below.refl _ _) _), Coder.keepC hHeld.2.2.1 (balloc (Below.refl _ _) _), Coder.keepC hHeld.2.2.2.1 (balloc (Below.refl _ _) _), Coder.keepC hHeld.2.2.2.2 (balloc (Below.refl _ _) _)⟩) (fun hHeld => ?_)
              clear hK K
              try simp only [Act.put, List.setIfInBounds_toArray, List.set_cons_zero, List.set_cons_succ]
              replace N7 := txts_move N7 hHeld.1
              replace N3 := nats_move N3 hHeld.1
              have N18 := txts_here [x.t] (by intro y hy; simp at hy; subst hy; omega) rfl 1 rfl hHeld.1
              try simp only [World.size_alloc] at N18
              refine wpAnyH_ready (rs := [13]) (by kernel_rfl) (by simp) ?_
              refine AllReadyH.cons (by simp only [List.getElem?_toArray, List.getElem?_cons_succ, List.getElem?_cons_zero]; rfl) (fun K hK => ?_) AllReadyH.nil
              go_simp
              refine hK.out _ _ (⟨bstep hHeld.1 (balloc (Below.refl _ _) _), Coder.keepC hHeld.2.1 (balloc (Below.refl _ _) _), Coder.keepC hHeld.2.2.1 (balloc (Below.refl _ _) _), Coder.keepC hHeld.2.2.2.1 (balloc (Below.refl _ _) _), Coder.keepC hHeld.2.2.2.2 (balloc (Below.refl _ _) _)⟩) (fun hHeld => ?_)
              clear hK K
              try simp only [Act.put, List.setIfInBounds_toArray, List.set_cons_zero, List.set_cons_succ]
              replace N7 := txts_move N7 hHeld.1
              replace N3 := nats_move N3 hHeld.1
              replace N18 := txts_move N18 hHeld.1
              have N13 := nats_here [q] (by intro y hy; simp at hy; omega) rfl 1 rfl hHeld.1
              try simp only [World.size_alloc] at N13
              refine wpAnyH_ready (rs := [14]) (by kernel_rfl) (by simp) ?_
              refine AllReadyH.cons (by simp only [List.getElem?_toArray, List.getElem?_cons_succ, List.getElem?_cons_zero]; rfl) (fun K hK => ?_) AllReadyH.nil
              go_simp
              go_at_call 55
              refine (nums_w N13 (by omega) p2 R2.out).mono ?_
              rintro e v59 ⟨rfl, k59⟩
              replace N7 := (N7).below rfl k59
              replace N3 := (N3).below rfl k59
              replace N18 := (N18).below rfl k59
              replace N13 := (N13).below rfl k59
              go_wp2_with fail
              refine hK.out _ _ (⟨bstep hHeld.1 k59, Coder.keepC hHeld.2.1 k59, Coder.keepC hHeld.2.2.1 k59, Coder.keepC hHeld.2.2.2.1 k59, Coder.keepC hHeld.2.2.2.2 k59⟩) (fun hHeld => ?_)
              clear hK K k59
              try simp only [Act.put, List.setIfInBounds_toArray, List.set_cons_zero, List.set_cons_succ]
              refine tk 15 ?_
              try simp only [Act.put, List.setIfInBounds_toArray, List.set_cons_zero, List.set_cons_succ]
              refine wpAnyH_ready (rs := [19]) (by kernel_rfl) (by simp) ?_
              refine AllReadyH.cons (by simp only [List.getElem?_toArray, List.getElem?_cons_succ, List.getElem?_cons_zero]; rfl) (fun K hK => ?_) AllReadyH.nil
              go_simp
              go_at_call 44
              refine (texts_w N18 p3 R3.out (by omega) (by omega)).mono ?_
              rintro e v60 ⟨rfl, k60⟩
              replace N7 := (N7).below rfl k60
              replace N3 := (N3).below rfl k60
              replace N18 := (N18).below rfl k60
              replace N13 := (N13).below rfl k60
              go_wp2_with fail
              refine hK.out _ _ (⟨bstep hHeld.1 k60, Coder.keepC hHeld.2.1 k60, Coder.keepC hHeld.2.2.1 k60, Coder.keepC hHeld.2.2.2.1 k60, Coder.keepC hHeld.2.2.2.2 k60⟩) (fun hHeld => ?_)
              clear hK K k60
              try simp only [Act.put, List.setIfInBounds_toArray, List.set_cons_zero, List.set_cons_succ]
              refine tk 20 ?_
              try simp only [Act.put, List.setIfInBounds_toArray, List.set_cons_zero, List.set_cons_succ]
              refine tk 21 ?_
              try simp only [Act.put, List.setIfInBounds_toArray, List.set_cons_zero, List.set_cons_succ]
              refine wpAnyH_done (by kernel_rfl) ?_ _
              refine NoPanic.normal ?_
              clear hb x0 x1 x2 x3
              obtain ⟨hb, x0, x1, x2, x3⟩ := hHeld
              go_wp2
              go_ret
              exact ⟨by rw [HV.out]; rfl, hb⟩
          · skip
            go_simp
            refine hK.out _ _ (⟨bstep hHeld.1 (balloc (Below.refl _ _) _), Coder.keepC hHeld.2.1 (balloc (Below.refl _ _) _), Coder.keepC hHeld.2.2.1 (balloc (Below.refl _ _) _), Coder.keepC hHeld.2.2.2.1 (balloc (Below.refl _ _) _), Coder.keepC hHeld.2.2.2.2 (balloc (Below.refl _ _) _)⟩) (fun hHeld => ?_)
            clear hK K
            try simp only [Act.put, List.setIfInBounds_toArray, List.set_cons_zero, List.set_cons_succ]
            replace N7 := txts_move N7 hHeld.1
            replace N3 := nats_move N3 hHeld.1
            have N18 := txts_here [x.t] (by intro y hy; simp at hy; subst hy; omega) rfl 1 rfl hHeld.1
            try simp only [World.size_alloc] at N18
            refine wpAnyH_ready (rs := [12]) (by kernel_rfl) (by simp) ?_
            refine AllReadyH.cons (by simp only [List.getElem?_toArray, List.getElem?_cons_succ, List.getElem?_cons_zero]; rfl) (fun K hK => ?_) AllReadyH.nil
            go_simp
            go_at_call 56
            refine (TU.out _).mono ?_
            rintro e w61 ⟨rfl, rfl⟩
            go_wp2_with fail
            refine hK.out _ _ hHeld (fun hHeld => ?_)
            clear hK K
            try simp only [Act.put, List.setIfInBounds_toArray, List.set_cons_zero, List.set_cons_succ]
            refine wpAnyH_ready (rs := [13]) (by kernel_rfl) (by simp) ?_
            refine AllReadyH.cons (by simp only [List.getElem?_toArray, List.getElem?_cons_succ, List.getElem?_cons_zero]; rfl) (fun K hK => ?_) AllReadyH.nil
            go_simp
            refine hK.out _ _ (⟨bstep hHeld.1 (balloc (Below.refl _ _) _), Coder.keepC hHeld.2.1 (balloc (Below.refl _ _) _), Coder.keepC hHeld.2.2.1 (balloc (Below.refl _ _) _), Coder.keepC hHeld.2.2.2.1 (balloc (Below.refl _ _) _), Coder.keepC hHeld.2.2.2.2 (balloc (Below.refl _ _) _)⟩) (fun hHeld => ?_)
            clear hK K
            try simp only [Act.put, List.setIfInBounds_toArray, List.set_cons_zero, List.set_cons_succ]
            replace N7 := txts_move N7 hHeld.1
            replace N3 := nats_move N3 hHeld.1
            replace N18 := txts_move N18 hHeld.1
            have N13 := nats_here [q] (by intro y hy; simp at hy; omega) rfl 1 rfl hHeld.1
            try simp only [World.size_alloc] at N13
            refine wpAnyH_ready (rs := [14]) (by kernel_rfl) (by simp) ?_
            refine AllReadyH.cons (by simp only [List.getElem?_toArray, List.getElem?_cons_succ, List.getElem?_cons_zero]; rfl) (fun K hK => ?_) AllReadyH.nil
            go_simp
            go_at_call 55
            refine (nums_w N13 (by omega) p2 R2.out).mono ?_
            rintro e v62 ⟨rfl, k62⟩
            replace N7 := (N7).below rfl k62
            replace N3 := (N3).below rfl k62
            replace N18 := (N18).below rfl k62
            replace N13 := (N13).below rfl k62
            go_wp2_with fail
            refine hK.out _ _ (⟨bstep hHeld.1 k62, Coder.keepC hHeld.2.1 k62, Coder.keepC hHeld.2.2.1 k62, Coder.keepC hHeld.2.2.2.1 k62, Coder.keepC hHeld.2.2.2.2 k62⟩) (fun hHeld => ?_)
            clear hK K k62
            try simp only [Act.put, List.setIfInBounds_toArray, List.set_cons_zero, List.set_cons_succ]
            refine tk 15 ?_
            try simp only [Act.put, List.setIfInBounds_toArray, List.set_cons_zero, List.set_cons_succ]
            refine wpAnyH_ready (rs := [19]) (by kernel_rfl) (by simp) ?_
            refine AllReadyH.cons (by simp only [List.getElem?_toArray, List.getElem?_cons_succ, List.getElem?_cons_zero]; rfl) (fun K hK => ?_) AllReadyH.nil
            go_simp
            go_at_call 44
            refine (texts_w N18 p3 R3.out (by omega) (by omega)).mono ?_
            rintro e v63 ⟨rfl, k63⟩
            replace N7 := (N7).below rfl k63
            replace N3 := (N3).below rfl k63
            replace N18 := (N18).below rfl k63
            replace N13 := (N13).below rfl k63
            go_wp2_with fail
            refine hK.out _ _ (⟨bstep hHeld.1 k63, Coder.keepC hHeld.2.1 k63, Coder.keepC hHeld.2.2.1 k63, Coder.keepC hHeld.2.2.2.1 k63, Coder.keepC hHeld.2.2.2.2 k63⟩) (fun hHeld => ?_)
            clear hK K k63
            try simp only [Act.put, List.setIfInBounds_toArray, List.set_cons_zero, List.set_cons_succ]
            refine tk 20 ?_
            try simp only [Act.put, List.setIfInBounds_toArray, List.set_cons_zero, List.set_cons_succ]
            refine tk 21 ?_
            try simp only [Act.put, List.setIfInBounds_toArray, List.set_cons_zero, List.set_cons_succ]
            refine wpAnyH_done (by kernel_rfl) ?_ _
            refine NoPanic.normal ?_
            clear hb x0 x1 x2 x3
            obtain ⟨hb, x0, x1, x2, x3⟩ := hHeld
            go_wp2
            go_ret
            exact ⟨by rw [HV.out]; rfl, hb⟩
        · skip
          go_simp
          refine hK.out _ _ (⟨bstep hHeld.1 (balloc (Below.refl _ _) _), Coder.keepC hHeld.2.1 (balloc (Below.refl _ _) _), Coder.keepC hHeld.2.2.1 (balloc (Below.refl _ _) _), Coder.keepC hHeld.2.2.2.1 (balloc (Below.refl _ _) _), Coder.keepC hHeld.2.2.2.2 (balloc (Below.refl _ _) _)⟩) (fun hHeld => ?_)
          clear hK K
          try simp only [Act.put, List.setIfInBounds_toArray, List.set_cons_zero, List.set_cons_succ]
          replace N7 := txts_move N7 hHeld.1
          replace N3 := nats_move N3 hHeld.1
          have N18 := txts_here [x.t] (by intro y hy; simp at hy; subst hy; omega) rfl 1 rfl hHeld.1
          try simp only [World.size_alloc] at N18
          refine wpAnyH_ready (rs := [8]) (by kernel_rfl) (by simp) ?_
          refine AllReadyH.cons (by simp only [List.getElem?_toArray, List.getElem?_cons_succ, List.getElem?_cons_zero]; rfl) (fun K hK => ?_) AllReadyH.nil
          go_simp
          go_at_call 44
          refine (texts_w N7 p1 R1.out (by omega) (by omega)).mono ?_
          rintro e v64 ⟨rfl, k64⟩
          replace N7 := (N7).below rfl k64
          replace N3 := (N3).below rfl k64
          replace N18 := (N18).below rfl k64
          go_wp2_with fail
          refine hK.out _ _ (⟨bstep hHeld.1 k64, Coder.keepC hHeld.2.1 k64, Coder.keepC hHeld.2.2.1 k64, Coder.keepC hHeld.2.2.2.1 k64, Coder.keepC hHeld.2.2.2.2 k64⟩) (fun hHeld => ?_)
          clear hK K k64
          try simp only [Act.put, List.setIfInBounds_toArray, List.set_cons_zero, List.set_cons_succ]
          refine tk 9 ?_
          try simp only [Act.put, List.setIfInBounds_toArray, List.set_cons_zero, List.set_cons_succ]
          refine wpAnyH_ready (rs := [12]) (by kernel_rfl) (by simp) ?_
          refine AllReadyH.cons (by simp only [List.getElem?_toArray, List.getElem?_cons_succ, List.getElem?_cons_zero]; rfl) (fun K hK => ?_) AllReadyH.nil
          go_simp
          go_at_call 56
          refine (TU.out _).mono ?_
          rintro e w65 ⟨rfl, rfl⟩
          go_wp2_with fail
          refine hK.out _ _ hHeld (fun hHeld => ?_)
          clear hK K
          try simp only [Act.put, List.setIfInBounds_toArray, List.set_cons_zero, List.set_cons_succ]
          refine wpAnyH_ready (rs := [13]) (by kernel_rfl) (by simp) ?_
          refine AllReadyH.cons (by simp only [List.getElem?_toArray, List.getElem?_cons_succ, List.getElem?_cons_zero]; rfl) (fun K hK => ?_) AllReadyH.nil
          go_simp
          refine hK.out _ _ (⟨bstep hHeld.1 (balloc (Below.refl _ _) _), Coder.keepC hHeld.2.1 (balloc (Below.refl _ _) _), Coder.keepC hHeld.2.2.1 (balloc (Below.refl _ _) _), Coder.keepC hHeld.2.2.2.1 (balloc (Below.refl _ _) _), Coder.keepC hHeld.2.2.2.2 (balloc (Below.refl _ _) _)⟩) (fun hHeld => ?_)
          clear hK K
          try simp only [Act.put, List.setIfInBounds_toArray, List.set_cons_zero, List.set_cons_succ]
          replace N7 := txts_move N7 hHeld.1
          replace N3 := nats_move N3 hHeld.1
          replace N18 := txts_move N18 hHeld.1
          have N13 := nats_here [q] (by intro y hy; simp at hy; omega) rfl 1 rfl hHeld.1
          try simp only [World.size_alloc] at N13
          refine wpAnyH_ready (rs := [14]) (by kernel_rfl) (by simp) ?_
          refine AllReadyH.cons (by simp only [List.getElem?_toArray, List.getElem?_cons_succ, List.getElem?_cons_zero]; rfl) (fun K hK => ?_) AllReadyH.nil
          go_simp
          go_at_call 55
          refine (nums_w N13 (by omega) p2 R2.out).mono ?_
          rintro e v66 ⟨rfl, k66⟩
          replace N7 := (N7).below rfl k66
          replace N3 := (N3).below rfl k66
          replace N18 := (N18).below rfl k66
          replace N13 := (N13).below rfl k66
          go_wp2_with fail
          refine hK.out _ _ (⟨bstep hHeld.1 k66, Coder.keepC hHeld.2.1 k66, Coder.keepC hHeld.2.2.1 k66, Coder.keepC hHeld.2.2.2.1 k66, Coder.keepC hHeld.2.2.2.2 k66⟩) (fun hHeld => ?_)
          clear hK K k66
          try simp only [Act.put, List.setIfInBounds_toArray, List.set_cons_zero, List.set_cons_succ]
          refine tk 15 ?_
          try simp only [Act.put, List.setIfInBounds_toArray, List.set_cons_zero, List.set_cons_succ]
          refine wpAnyH_ready (rs := [19]) (by kernel_rfl) (by simp) ?_
          refine AllReadyH.cons (by simp only [List.getElem?_toArray, List.getElem?_cons_succ, List.getElem?_cons_zero]; rfl) (fun K hK => ?_) AllReadyH.nil
          go_simp
          go_at_call 44
          refine (texts_w N18 p3 R3.out (by omega) (by omega)).mono ?_
          rintro e v67 ⟨rfl, k67⟩
          replace N7 := (N7).below rfl k67
          replace N3 := (N3).below rfl k67
          replace N18 := (N18).below rfl k67
          replace N13 := (N13).below rfl k67
          go_wp2_with fail
          refine hK.out _ _ (⟨bstep hHeld.1 k67, Coder.keepC hHeld.2.1 k67, Coder.keepC hHeld.2.2.1 k67, Coder.keepC hHeld.2.2.2.1 k67, Coder.keepC hHeld.2.2.2.2 k67⟩) (fun hHeld => ?_)
          clear hK K k67
          try simp only [Act.put, List.setIfInBounds_toArray, List.set_cons_zero, List.set_cons_succ]
          refine tk 20 ?_
          try simp only [Act.put, List.setIfInBounds_toArray, List.set_cons_zero, List.set_cons_succ]
          refine tk 21 ?_
          try simp only [Act.put, List.setIfInBounds_toArray, List.set_cons_zero, List.set_cons_succ]
          refine wpAnyH_done (by kernel_rfl) ?_ _
          refine NoPanic.normal ?_
          clear hb x0 x1 x2 x3
          obtain ⟨hb, x0, x1, x2, x3⟩ := hHeld
          go_wp2
          go_ret
          exact ⟨by rw [HV.out]; rfl, hb⟩
      · skip
        go_simp
        refine hK.out _ _ (⟨bstep hHeld.1 (balloc (Below.refl _ _) _), Coder.keepC hHeld.2.1 (balloc (Below.refl _ _) _), Coder.keepC hHeld.2.2.1 (balloc (Below.refl _ _) _), Coder.keepC hHeld.2.2.2.1 (balloc (Below.refl _ _) _), Coder.keepC hHeld.2.2.2.2 (balloc (Below.refl _ _) _)⟩) (fun hHeld => ?_)
        clear hK K
        try simp only [Act.put, List.setIfInBounds_toArray, List.set_cons_zero, List.set_cons_succ]
        replace N7 := txts_move N7 hHeld.1
        replace N3 := nats_move N3 hHeld.1
        have N18 := txts_here [x.t] (by intro y hy; simp at hy; subst hy; omega) rfl 1 rfl hHeld.1
        try simp only [World.size_alloc] at N18
        refine wpAnyH_ready (rs := [4]) (by kernel_rfl) (by simp) ?_
        refine AllReadyH.cons (by simp only [List.getElem?_toArray, List.getElem?_cons_succ, List.getElem?_cons_zero]; rfl) (fun K hK => ?_) AllReadyH.nil
        go_simp
        go_at_call 55
        refine (nums_w N3 (by omega) p0 R0.out).mono ?_
        rintro e v68 ⟨rfl, k68⟩
        replace N7 := (N7).below rfl k68
        replace N3 := (N3).below rfl k68
        replace N18 := (N18).below rfl k68
        go_wp2_with fail
        refine hK.out _ _ (⟨bstep hHeld.1 k68, Coder.keepC hHeld.2.1 k68, Coder.keepC hHeld.2.2.1 k68, Coder.keepC hHeld.2.2.2.1 k68, Coder.keepC hHeld.2.2.2.2 k68⟩) (fun hHeld => ?_)
        clear hK K k68
        try simp only [Act.put, List.setIfInBounds_toArray, List.set_cons_zero, List.set_cons_succ]
        refine wpAnyH_ready (rs := [8]) (by kernel_rfl) (by simp) ?_
        refine AllReadyH.cons (by simp only [List.getElem?_toArray, List.getElem?_cons_succ, List.getElem?_cons_zero]; rfl) (fun K hK => ?_) AllReadyH.nil
        go_simp
        go_at_call 44
        refine (texts_w N7 p1 R1.out (by omega) (by omega)).mono ?_
        rintro e v69 ⟨rfl, k69⟩
        replace N7 := (N7).below rfl k69
        replace N3 := (N3).below rfl k69
        replace N18 := (N18).below rfl k69
        go_wp2_with fail
        refine hK.out _ _ (⟨bstep hHeld.1 k69, Coder.keepC hHeld.2.1 k69, Coder.keepC hHeld.2.2.1 k69, Coder.keepC hHeld.2.2.2.1 k69, Coder.keepC hHeld.2.2.2.2 k69⟩) (fun hHeld => ?_)
        clear hK K k69
        try simp only [Act.put, List.setIfInBounds_toArray, List.set_cons_zero, List.set_cons_succ]
        refine tk 9 ?_
        try simp only [Act.put, List.setIfInBounds_toArray, List.set_cons_zero, List.set_cons_succ]
        refine wpAnyH_ready (rs := [12]) (by kernel_rfl) (by simp) ?_
        refine AllReadyH.cons (by simp only [List.getElem?_toArray, List.getElem?_cons_succ, List.getElem?_cons_zero]; rfl) (fun K hK => ?_) AllReadyH.nil
        go_simp
        go_at_call 56
        refine (TU.out _).mono ?_
        rintro e w70 ⟨rfl, rfl⟩
        go_wp2_with fail
        refine hK.out _ _ hHeld (fun hHeld => ?_)
        clear hK K
        try simp only [Act.put, List.setIfInBounds_toArray, List.set_cons_zero, List.set_cons_succ]
        refine wpAnyH_ready (rs := [13]) (by kernel_rfl) (by simp) ?_
        refine AllReadyH.cons (by simp only [List.getElem?_toArray, List.getElem?_cons_succ, List.getElem?_cons_zero]; rfl) (fun K hK => ?_) AllReadyH.nil
        go_simp
        refine hK.out _ _ (⟨bstep hHeld.1 (balloc (Below.refl _ _) _), Coder.keepC hHeld.2.1 (balloc (Below.refl _ _) _), Coder.keepC hHeld.2.2.1 (balloc (Below.refl _ _) _), Coder.keepC hHeld.2.2.2.1 (balloc (Below.refl _ _) _), Coder.keepC hHeld.2.2.2.2 (balloc (Below.refl _ _) _)⟩) (fun hHeld => ?_)
        clear hK K
        try simp only [Act.put, List.setIfInBounds_toArray, List.set_cons_zero, List.set_cons_succ]
        replace N7 := txts_move N7 hHeld.1
        replace N3 := nats_move N3 hHeld.1
        replace N18 := txts_move N18 hHeld.1
        have N13 := nats_here [q] (by intro y hy; simp at hy; omega) rfl 1 rfl hHeld.1
        try simp only [World.size_alloc] at N13
        refine wpAnyH_ready (rs := [14]) (by kernel_rfl) (by simp) ?_
        refine AllReadyH.cons (by simp only [List.getElem?_toArray, List.getElem?_cons_succ, List.getElem?_cons_zero]; rfl) (fun K hK => ?_) AllReadyH.nil
        go_simp
        go_at_call 55
        refine (nums_w N13 (by omega) p2 R2.out).mono ?_
        rintro e v71 ⟨rfl, k71⟩
        replace N7 := (N7).below rfl k71
        replace N3 := (N3).below rfl k71
        replace N18 := (N18).below rfl k71
        replace N13 := (N13).below rfl k71
        go_wp2_with fail
        refine hK.out _ _ (⟨bstep hHeld.1 k71, Coder.keepC hHeld.2.1 k71, Coder.keepC hHeld.2.2.1 k71, Coder.keepC hHeld.2.2.2.1 k71, Coder.keepC hHeld.2.2.2.2 k71⟩) (fun hHeld => ?_)
        clear hK K k71
        try simp only [Act.put, List.setIfInBounds_toArray, List.set_cons_zero, List.set_cons_succ]
        refine tk 15 ?_
        try simp only [Act.put, List.setIfInBounds_toArray, List.set_cons_zero, List.set_cons_succ]
        refine wpAnyH_ready (rs := [19]) (by kernel_rfl) (by simp) ?_
        refine AllReadyH.cons (by simp only [List.getElem?_toArray, List.getElem?_cons_succ, List.getElem?_cons_zero]; rfl) (fun K hK => ?_) AllReadyH.nil
        go_simp
        go_at_call 44
        refine (texts_w N18 p3 R3.out (by omega) (by omega)).mono ?_
        rintro e v72 ⟨rfl, k72⟩
        replace N7 := (N7).below rfl k72
        replace N3 := (N3).below rfl k72
        replace N18 := (N18).below rfl k72
        replace N13 := (N13).below rfl k72
        go_wp2_with fail
        refine hK.out _ _ (⟨bstep hHeld.1 k72, Coder.keepC hHeld.2.1 k72, Coder.keepC hHeld.2.2.1 k72, Coder.keepC hHeld.2.2.2.1 k72, Coder.keepC hHeld.2.2.2.2 k72⟩) (fun hHeld => ?_)
        clear hK K k72
        try simp only [Act.put, List.setIfInBounds_toArray, List.set_cons_zero, List.set_cons_succ]
        refine tk 20 ?_
        try simp only [Act.put, List.setIfInBounds_toArray, List.set_cons_zero, List.set_cons_succ]
        refine tk 21 ?_
        try simp only [Act.put, List.setIfInBounds_toArray, List.set_cons_zero, List.set_cons_succ]
        refine wpAnyH_done (by kernel_rfl) ?_ _
        refine NoPanic.normal ?_
        clear hb x0 x1 x2 x3
        obtain ⟨hb, x0, x1, x2, x3⟩ := hHeld
        go_wp2
        go_ret
        exact ⟨by rw [HV.out]; rfl, hb⟩
    · skip
      go_simp
      refine hK.out _ _ (⟨bstep hHeld.1 (balloc (Below.refl _ _) _), Coder.keepC hHeld.2.1 (balloc (Below.refl _ _) _), Coder.keepC hHeld.2.2.1 (balloc (Below.refl _ _) _), Coder.keepC hHeld.2.2.2.1 (balloc (Below.refl _ _) _), Coder.keepC hHeld.2.2.2.2 (balloc (Below.refl _ _) _)⟩) (fun hHeld => ?_)
      clear hK K
      try simp only [Act.put, List.setIfInBounds_toArray, List.set_cons_zero, List.set_cons_succ]
      replace N7 := txts_move N7 hHeld.1
      have N18 := txts_here [x.t] (by intro y hy; simp at hy; subst hy; omega) rfl 1 rfl hHeld.1
      try simp only [World.size_alloc] at N18
      refine wpAnyH_ready (rs := [3]) (by kernel_rfl) (by simp) ?_
      refine AllReadyH.cons (by simp only [List.getElem?_toArray, List.getElem?_cons_succ, List.getElem?_cons_zero]; rfl) (fun K hK => ?_) AllReadyH.nil
      go_simp
      refine hK.out _ _ (⟨bstep hHeld.1 (balloc (Below.refl _ _) _), Coder.keepC hHeld.2.1 (balloc (Below.refl _ _) _), Coder.keepC hHeld.2.2.1 (balloc (Below.refl _ _) _), Coder.keepC hHeld.2.2.2.1 (balloc (Below.refl _ _) _), Coder.keepC hHeld.2.2.2.2 (balloc (Below.refl _ _) _)⟩) (fun hHeld => ?_)
      clear hK K
      try simp only [Act.put, List.setIfInBounds_toArray, List.set_cons_zero, List.set_cons_succ]
      replace N7 := txts_move N7 hHeld.1
      replace N18 := txts_move N18 hHeld.1
      have N3 := nats_here [x.d] (by intro y hy; simp at hy; omega) rfl 1 rfl hHeld.1
      try simp only [World.size_alloc] at N3
      refine wpAnyH_ready (rs := [4]) (by kernel_rfl) (by simp) ?_
      refine AllReadyH.cons (by simp only [List.getElem?_toArray, List.getElem?_cons_succ, List.getElem?_cons_zero]; rfl) (fun K hK => ?_) AllReadyH.nil
      go_simp
      go_at_call 55
      refine (nums_w N3 (by omega) p0 R0.out).mono ?_
      rintro e v73 ⟨rfl, k73⟩
      replace N7 := (N7).below rfl k73
      replace N18 := (N18).below rfl k73
      replace N3 := (N3).below rfl k73
      go_wp2_with fail
      refine hK.out _ _ (⟨bstep hHeld.1 k73, Coder.keepC hHeld.2.1 k73, Coder.keepC hHeld.2.2.1 k73, Coder.keepC hHeld.2.2.2.1 k73, Coder.keepC hHeld.2.2.2.2 k73⟩) (fun hHeld => ?_)
      clear hK K k73
      try simp only [Act.put, List.setIfInBounds_toArray, List.set_cons_zero, List.set_cons_succ]
      refine wpAnyH_ready (rs := [8]) (by kernel_rfl) (by simp) ?_
      refine AllReadyH.cons (by simp only [List.getElem?_toArray, List.getElem?_cons_succ, List.getElem?_cons_zero]; rfl) (fun K hK => ?_) AllReadyH.nil
      go_simp
      go_at_call 44
      refine (texts_w N7 p1 R1.out (by omega) (by omega)).mono ?_
      rintro e v74 ⟨rfl, k74⟩
      replace N7 := (N7).below rfl k74
      replace N18 := (N18).below rfl k74
      replace N3 := (N3).below rfl k74
      go_wp2_with fail
      refine hK.out _ _ (⟨bstep hHeld.1 k74, Coder.keepC hHeld.2.1 k74, Coder.keepC hHeld.2.2.1 k74, Coder.keepC hHeld.2.2.2.1 k74, Coder.keepC hHeld.2.2.2.2 k74⟩) (fun hHeld => ?_)
      clear hK K k74
      try simp only [Act.put, List.setIfInBounds_toArray, List.set_cons_zero, List.set_cons_succ]
      refine tk 9 ?_
      try simp only [Act.put, List.setIfInBounds_toArray, List.set_cons_zero, List.set_cons_succ]
      refine wpAnyH_ready (rs := [12]) (by kernel_rfl) (by simp) ?_
      refine AllReadyH.cons (by simp only [List.getElem?_toArray, List.getElem?_cons_succ, List.getElem?_cons_zero]; rfl) (fun K hK => ?_) AllReadyH.nil
      go_simp
      go_at_call 56
      refine (TU.out _).mono ?_
      rintro e w75 ⟨rfl, rfl⟩
      go_wp2_with fail
      refine hK.out _ _ hHeld (fun hHeld => ?_)
      clear hK K
      try simp only [Act.put, List.setIfInBounds_toArray, List.set_cons_zero, List.set_cons_succ]
      refine wpAnyH_ready (rs := [13]) (by kernel_rfl) (by simp) ?_
      refine AllReadyH.cons (by simp only [List.getElem?_toArray, List.getElem?_cons_succ, List.getElem?_cons_zero]; rfl) (fun K hK => ?_) AllReadyH.nil
      go_simp
      refine hK.out _ _ (⟨bstep hHeld.1 (balloc (Below.refl _ _) _), Coder.keepC hHeld.2.1 (balloc (Below.refl _ _) _), Coder.keepC hHeld.2.2.1 (balloc (Below.refl _ _) _), Coder.keepC hHeld.2.2.2.1 (balloc (Below.refl _ _) _), Coder.keepC hHeld.2.2.2.2 (balloc (Below.refl _ _) _)⟩) (fun hHeld => ?_)
      clear hK K
      try simp only [Act.put, List.setIfInBounds_toArray, List.set_cons_zero, List.set_cons_succ]
      replace N7 := txts_move N7 hHeld.1
      replace N18 := txts_move N18 hHeld.1
      replace N3 := nats_move N3 hHeld.1
      have N13 := nats_here [q] (by intro y hy; simp at hy; omega) rfl 1 rfl hHeld.1
      try simp only [World.size_alloc] at N13
      refine wpAnyH_ready (rs := [14]) (by kernel_rfl) (by simp) ?_
      refine AllReadyH.cons (by simp only [List.getElem?_toArray, List.getElem?_cons_succ, List.getElem?_cons_zero]; rfl) (fun K hK => ?_) AllReadyH.nil
      go_simp
      go_at_call 55
      refine (nums_w N13 (by omega) p2 R2.out).mono ?_
      rintro e v76 ⟨rfl, k76⟩
      replace N7 := (N7).below rfl k76
      replace N18 := (N18).below rfl k76
      replace N3 := (N3).below rfl k76
      replace N13 := (N13).below rfl k76
      go_wp2_with fail
      refine hK.out _ _ (⟨bstep hHeld.1 k76, Coder.keepC hHeld.2.1 k76, Coder.keepC hHeld.2.2.1 k76, Coder.keepC hHeld.2.2.2.1 k76, Coder.keepC hHeld.2.2.2.2 k76⟩) (fun hHeld => ?_)
      clear hK K k76
      try simp only [Act.put, List.setIfInBounds_toArray, List.set_cons_zero, List.set_cons_succ]
      refine tk 15 ?_
      try simp only [Act.put, List.setIfInBounds_toArray, List.set_cons_zero, List.set_cons_succ]
      refine wpAnyH_ready (rs := [19]) (by kernel_rfl) (by simp) ?_
      refine AllReadyH.cons (by simp only [List.getElem?_toArray, List.getElem?_cons_succ, List.getElem?_cons_zero]; rfl) (fun K hK => ?_) AllReadyH.nil
      go_simp
      go_at_call 44
      refine (texts_w N18 p3 R3.out (by omega) (by omega)).mono ?_
      rintro e v77 ⟨rfl, k77⟩
      replace N7 := (N7).below rfl k77
      replace N18 := (N18).below rfl k77
      replace N3 := (N3).below rfl k77
      replace N13 := (N13).below rfl k77
      go_wp2_with fail
      refine hK.out _ _ (⟨bstep hHeld.1 k77, Coder.keepC hHeld.2.1 k77, Coder.keepC hHeld.2.2.1 k77, Coder.keepC hHeld.2.2.2.1 k77, Coder.keepC hHeld.2.2.2.2 k77⟩) (fun hHeld => ?_)
      clear hK K k77
      try simp only [Act.put, List.setIfInBounds_toArray, List.set_cons_zero, List.set_cons_succ]
      refine tk 20 ?_
      try simp only [Act.put, List.setIfInBounds_toArray, List.set_cons_zero, List.set_cons_succ]
      refine tk 21 ?_
      try simp only [Act.put, List.setIfInBounds_toArray, List.set_cons_zero, List.set_cons_succ]
      refine wpAnyH_done (by kernel_rfl) ?_ _
      refine NoPanic.normal ?_
      clear hb x0 x1 x2 x3
      obtain ⟨hb, x0, x1, x2, x3⟩ := hHeld
      go_wp2
      go_ret
      exact ⟨by rw [HV.out]; rfl, hb⟩
  · skip
    go_simp
    refine hK.out _ _ (⟨bstep hHeld.1 (balloc (Below.refl _ _) _), Coder.keepC hHeld.2.1 (balloc (Below.refl _ _) _), Coder.keepC hHeld.2.2.1 (balloc (Below.refl _ _) _), Coder.keepC hHeld.2.2.2.1 (balloc (Below.refl _ _) _), Coder.keepC hHeld.2.2.2.2 (balloc (Below.refl _ _) _)⟩) (fun hHeld => ?_)
    clear hK K
    try simp only [Act.put, List.setIfInBounds_toArray, List.set_cons_zero, List.set_cons_succ]
    have N18 := txts_here [x.t] (by intro y hy; simp at hy; subst hy; omega) rfl 1 rfl hHeld.1
    try simp only [World.size_alloc] at N18
    refine wpAnyH_ready (rs := [3, 7]) (by kernel_rfl) (by simp) ?_
    refine AllReadyH.cons (by simp only [List.getElem?_toArray, List.getElem?_cons_succ, List.getElem?_cons_zero]; rfl) (fun K hK => ?_) (AllReadyH.cons (by simp only [List.getElem?_toArray, List.getElem?_cons_succ, List.getElem?_cons_zero]; rfl) (fun K hK => ?_) (AllReadyH.nil))
    · skip
      go_simp
      refine hK.out _ _ (⟨bstep hHeld.1 (balloc (Below.refl _ _) _), Coder.keepC hHeld.2.1 (balloc (Below.refl _ _) _), Coder.keepC hHeld.2.2.1 (balloc (Below.refl _ _) _), Coder.keepC hHeld.2.2.2.1 (balloc (Below.refl _ _) _), Coder.keepC hHeld.2.2.2.2 (balloc (Below.refl _ _) _)⟩) (fun hHeld => ?_)
      clear hK K
      try simp only [Act.put, List.setIfInBounds_toArray, List.set_cons_zero, List.set_cons_succ]
      replace N18 := txts_move N18 hHeld.1
      have N3 := nats_here [x.d] (by intro y hy; simp at hy; omega) rfl 1 rfl hHeld.1
      try simp only [World.size_alloc] at N3
      refine wpAnyH_ready (rs := [4, 7]) (by kernel_rfl) (by simp) ?_
      refine AllReadyH.cons (by simp only [List.getElem?_toArray, List.getElem?_cons_succ, List.getElem?_cons_zero]; rfl) (fun K hK => ?_) (AllReadyH.cons (by simp only [List.getElem?_toArray, List.getElem?_cons_succ, List.getElem?_cons_zero]; rfl) (fun K hK => ?_) (AllReadyH.nil))
      · skip
        go_simp
        go_at_call 55
        refine (nums_w N3 (by omega) p0 R0.out).mono ?_
        rintro e v78 ⟨rfl, k78⟩
        replace N18 := (N18).below rfl k78
        replace N3 := (N3).below rfl k78
        go_wp2_with fail
        refine hK.out _ _ (⟨bstep hHeld.1 k78, Coder.keepC hHeld.2.1 k78, Coder.keepC hHeld.2.2.1 k78, Coder.keepC hHeld.2.2.2.1 k78, Coder.keepC hHeld.2.2.2.2 k78⟩) (fun hHeld => ?_)
        clear hK K k78
        try simp only [Act.put, List.setIfInBounds_toArray, List.set_cons_zero, List.set_cons_succ]
        refine wpAnyH_ready (rs := [7]) (by kernel_rfl) (by simp) ?_
        refine AllReadyH.cons (by simp only [List.getElem?_toArray, List.getElem?_cons_succ, List.getElem?_cons_zero]; rfl) (fun K hK => ?_) AllReadyH.nil
        go_simp
        refine hK.out _ _ (⟨bstep hHeld.1 (balloc (Below.refl _ _) _), Coder.keepC hHeld.2.1 (balloc (Below.refl _ _) _), Coder.keepC hHeld.2.2.1 (balloc (Below.refl _ _) _), Coder.keepC hHeld.2.2.2.1 (balloc (Below.refl _ _) _), Coder.keepC hHeld.2.2.2.2 (balloc (Below.refl _ _) _)⟩) (fun hHeld => ?_)
        clear hK K
        try simp only [Act.put, List.setIfInBounds_toArray, List.set_cons_zero, List.set_cons_succ]
        replace N18 := txts_move N18 hHeld.1
        replace N3 := nats_move N3 hHeld.1
        have N7 := txts_here [x.k] (by intro y hy; simp at hy; subst hy; omega) rfl 1 rfl hHeld.1
        try simp only [World.size_alloc] at N7
        refine wpAnyH_ready (rs := [8]) (by kernel_rfl) (by simp) ?_
        refine AllReadyH.cons (by simp only [List.getElem?_toArray, List.getElem?_cons_succ, List.getElem?_cons_zero]; rfl) (fun K hK => ?_) AllReadyH.nil
        go_simp
        go_at_call 44
        refine (texts_w N7 p1 R1.out (by omega) (by omega)).mono ?_
        rintro e v79 ⟨rfl, k79⟩
        replace N18 := (N18).below rfl k79
        replace N3 := (N3).below rfl k79
        replace N7 := (N7).below rfl k79
        go_wp2_with fail
        refine hK.out _ _ (⟨bstep hHeld.1 k79, Coder.keepC hHeld.2.1 k79, Coder.keepC hHeld.2.2.1 k79, Coder.keepC hHeld.2.2.2.1 k79, Coder.keepC hHeld.2.2.2.2 k79⟩) (fun hHeld => ?_)
        clear hK K k79
        try simp only [Act.put, List.setIfInBounds_toArray, List.set_cons_zero, List.set_cons_succ]
        refine tk 9 ?_
        try simp only [Act.put, List.setIfInBounds_toArray, List.set_cons_zero, List.set_cons_succ]
        refine wpAnyH_ready (rs := [12]) (by kernel_rfl) (by simp) ?_
        refine AllReadyH.cons (by simp only [List.getElem?_toArray, List.getElem?_cons_succ, List.getElem?_cons_zero]; rfl) (fun K hK => ?_) AllReadyH.nil
        go_simp
        go_at_call 56
        refine (TU.out _).mono ?_
        rintro e w80 ⟨rfl, rfl⟩
        go_wp2_with fail
        refine hK.out _ _ hHeld (fun hHeld => ?_)
        clear hK K
        try simp only [Act.put, List.setIfInBounds_toArray, List.set_cons_zero, List.set_cons_succ]
        refine wpAnyH_ready (rs := [13]) (by kernel_rfl) (by simp) ?_
        refine AllReadyH.cons (by simp only [List.getElem?_toArray, List.getElem?_cons_succ, List.getElem?_cons_zero]; rfl) (fun K hK => ?_) AllReadyH.nil
        go_simp
        refine hK.out _ _ (⟨bstep hHeld.1 (balloc (Below.refl _ _) _), Coder.keepC hHeld.2.1 (balloc (Below.refl _ _) _), Coder.keepC hHeld.2.2.1 (balloc (Below.refl _ _) _), Coder.keepC hHeld.2.2.2.1 (balloc (Below.refl _ _) _), Coder.keepC hHeld.2.2.2.2 (balloc (Below.refl _ _) _)⟩) (fun hHeld => ?_)
        clear hK K
        try simp only [Act.put, List.setIfInBounds_toArray, List.set_cons_zero, List.set_cons_succ]
        replace N18 := txts_move N18 hHeld.1
        replace N3 := nats_move N3 hHeld.1
        replace N7 := txts_move N7 hHeld.1
        have N13 := nats_here [q] (by intro y hy; simp at hy; omega) rfl 1 rfl hHeld.1
        try simp only [World.size_alloc] at N13
        refine wpAnyH_ready (rs := [14]) (by kernel_rfl) (by simp) ?_
        refine AllReadyH.cons (by simp only [List.getElem?_toArray, List.getElem?_cons_succ, List.getElem?_cons_zero]; rfl) (fun K hK => ?_) AllReadyH.nil
        go_simp
        go_at_call 55
        refine (nums_w N13 (by omega) p2 R2.out).mono ?_
        rintro e v81 ⟨rfl, k81⟩
        replace N18 := (N18).below rfl k81
        replace N3 := (N3).below rfl k81
        replace N7 := (N7).below rfl k81
        replace N13 := (N13).below rfl k81
        go_wp2_with fail
        refine hK.out _ _ (⟨bstep hHeld.1 k81, Coder.keepC hHeld.2.1 k81, Coder.keepC hHeld.2.2.1 k81, Coder.keepC hHeld.2.2.2.1 k81, Coder.keepC hHeld.2.2.2.2 k81⟩) (fun hHeld => ?_)
        clear hK K k81
        try simp only [Act.put, List.setIfInBounds_toArray, List.set_cons_zero, List.set_cons_succ]
        refine tk 15 ?_
        try simp only [Act.put, List.setIfInBounds_toArray, List.set_cons_zero, List.set_cons_succ]
        refine wpAnyH_ready (rs := [19]) (by kernel_rfl) (by simp) ?_
        refine AllReadyH.cons (by simp only [List.getElem?_toArray, List.getElem?_cons_succ, List.getElem?_cons_zero]; rfl) (fun K hK => ?_) AllReadyH.nil
        go_simp
        go_at_call 44
        refine (texts_w N18 p3 R3.out (by omega) (by omega)).mono ?_
        rintro e v82 ⟨rfl, k82⟩
        replace N18 := (N18).below rfl k82
        replace N3 := (N3).below rfl k82
        replace N7 := (N7).below rfl k82
        replace N13 := (N13).below rfl k82
        go_wp2_with fail
        refine hK.out _ _ (⟨bstep hHeld.1 k82, Coder.keepC hHeld.2.1 k82, Coder.keepC hHeld.2.2.1 k82, Coder.keepC hHeld.2.2.2.1 k82, Coder.keepC hHeld.2.2.2.2 k82⟩) (fun hHeld => ?_)
        clear hK K k82
        try simp only [Act.put, List.setIfInBounds_toArray, List.set_cons_zero, List.set_cons_succ]
        refine tk 20 ?_
        try simp only [Act.put, List.setIfInBounds_toArray, List.set_cons_zero, List.set_cons_succ]
        refine tk 21 ?_
        try simp only [Act.put, List.setIfInBounds_toArray, List.set_cons_zero, List.set_cons_succ]
        refine wpAnyH_done (by kernel_rfl) ?_ _
        refine NoPanic.normal ?_
        clear hb x0 x1 x2 x3
        obtain ⟨hb, x0, x1, x2, x3⟩ := hHeld
        go_wp2
        go_ret
        exact ⟨by rw [HV.out]; rfl, hb⟩
      · skip
        go_simp
        refine hK.out _ _ (⟨bstep hHeld.1 (balloc (Below.refl _ _) _), Coder.keepC hHeld.2.1 (balloc (Below.refl _ _) _), Coder.keepC hHeld.2.2.1 (balloc (Below.refl _ _) _), Coder.keepC hHeld.2.2.2.1 (balloc (Below.refl _ _) _), Coder.keepC hHeld.2.2.2.2 (balloc (Below.refl _ _) _)⟩) (fun hHeld => ?_)
        clear hK K
        try simp only [Act.put, List.setIfInBounds_toArray, List.set_cons_zero, List.set_cons_succ]
        replace N18 := txts_move N18 hHeld.1
        replace N3 := nats_move N3 hHeld.1
        have N7 := txts_here [x.k] (by intro y hy; simp at hy; subst hy; omega) rfl 1 rfl hHeld.1
        try simp only [World.size_alloc] at N7
        refine wpAnyH_ready (rs := [4]) (by kernel_rfl) (by simp) ?_
        refine AllReadyH.cons (by simp only [List.getElem?_toArray, List.getElem?_cons_succ, List.getElem?_cons_zero]; rfl) (fun K hK => ?_) AllReadyH.nil
        go_simp
        go_at_call 55
        refine (nums_w N3 (by omega) p0 R0.out).mono ?_
        rintro e v83 ⟨rfl, k83⟩
        replace N18 := (N18).below rfl k83
        replace N3 := (N3).below rfl k83
        replace N7 := (N7).below rfl k83
        go_wp2_with fail
        refine hK.out _ _ (⟨bstep hHeld.1 k83, Coder.keepC hHeld.2.1 k83, Coder.keepC hHeld.2.2.1 k83, Coder.keepC hHeld.2.2.2.1 k83, Coder.keepC hHeld.2.2.2.2 k83⟩) (fun hHeld => ?_)
        clear hK K k83
        try simp only [Act.put, List.setIfInBounds_toArray, List.set_cons_zero, List.set_cons_succ]
        refine wpAnyH_ready (rs := [8]) (by kernel_rfl) (by simp) ?_
        refine AllReadyH.cons (by simp only [List.getElem?_toArray, List.getElem?_cons_succ, List.getElem?_cons_zero]; rfl) (fun K hK => ?_) AllReadyH.nil
        go_simp
        go_at_call 44
        refine (texts_w N7 p1 R1.out (by omega) (by omega)).mono ?_
        rintro e v84 ⟨rfl, k84⟩
        replace N18 := (N18).below rfl k84
        replace N3 := (N3).below rfl k84
        replace N7 := (N7).below rfl k84
        go_wp2_with fail
        refine hK.out _ _ (⟨bstep hHeld.1 k84, Coder.keepC hHeld.2.1 k84, Coder.keepC hHeld.2.2.1 k84, Coder.keepC hHeld.2.2.2.1 k84, Coder.keepC hHeld.2.2.2.2 k84⟩) (fun hHeld => ?_)
        clear hK K k84
        try simp only [Act.put, List.setIfInBounds_toArray, List.set_cons_zero, List.set_cons_succ]
        refine tk 9 ?_
        try simp only [Act.put, List.setIfInBounds_toArray, List.set_cons_zero, List.set_cons_succ]
        refine wpAnyH_ready (rs := [12]) (by kernel_rfl) (by simp) ?_
        refine AllReadyH.cons (by simp only [List.getElem?_toArray, List.getElem?_cons_succ, List.getElem?_cons_zero]; rfl) (fun K hK => ?_) AllReadyH.nil
        go_simp
        go_at_call 56
        refine (TU.out _).mono ?_
        rintro e w85 ⟨rfl, rfl⟩
        go_wp2_with fail
        refine hK.out _ _ hHeld (fun hHeld => ?_)
        clear hK K
        try simp only [Act.put, List.setIfInBounds_toArray, List.set_cons_zero, List.set_cons_succ]
        refine wpAnyH_ready (rs := [13]) (by kernel_rfl) (by simp) ?_
        refine AllReadyH.cons (by simp only [List.getElem?_toArray, List.getElem?_cons_succ, List.getElem?_cons_zero]; rfl) (fun K hK => ?_) AllReadyH.nil
        go_simp
        refine hK.out _ _ (⟨bstep hHeld.1 (balloc (Below.refl _ _) _), Coder.keepC hHeld.2.1 (balloc (Below.refl _ _) _), Coder.keepC hHeld.2.2.1 (balloc (Below.refl _ _) _), Coder.keepC hHeld.2.2.2.1 (balloc (Below.refl _ _) _), Coder.keepC hHeld.2.2.2.2 (balloc (Below.refl _ _) _)⟩) (fun hHeld => ?_)
        clear hK K
        try simp only [Act.put, List.setIfInBounds_toArray, List.set_cons_zero, List.set_cons_succ]
        replace N18 := txts_move N18 hHeld.1
        replace N3 := nats_move N3 hHeld.1
        replace N7 := txts_move N7 hHeld.1
        have N13 := nats_here [q] (by intro y hy; simp at hy; omega) rfl 1 rfl hHeld.1
        try simp only [World.size_alloc] at N13
        refine wpAnyH_ready (rs := [14]) (by kernel_rfl) (by simp) ?_
        refine AllReadyH.cons (by simp only [List.getElem?_toArray, List.getElem?_cons_succ, List.getElem?_cons_zero]; rfl) (fun K hK => ?_) AllReadyH.nil
        go_simp
        go_at_call 55
        refine (nums_w N13 (by omega) p2 R2.out).mono ?_
        rintro e v86 ⟨rfl, k86⟩
        replace N18 := (N18).below rfl k86
        replace N3 := (N3).below rfl k86
        replace N7 := (N7).below rfl k86
        replace N13 := (N13).below rfl k86
        go_wp2_with fail
        refine hK.out _ _ (⟨bstep hHeld.1 k86, Coder.keepC hHeld.2.1 k86, Coder.keepC hHeld.2.2.1 k86, Coder.keepC hHeld.2.2.2.1 k86, Coder.keepC hHeld.2.2.2.2 k86⟩) (fun hHeld => ?_)
        clear hK K k86
        try simp only [Act.put, List.setIfInBounds_toArray, List.set_cons_zero, List.set_cons_succ]
        refine tk 15 ?_
        try simp only [Act.put, List.setIfInBounds_toArray, List.set_cons_zero, List.set_cons_succ]
        refine wpAnyH_ready (rs := [19]) (by kernel_rfl) (by simp) ?_
        refine AllReadyH.cons (by simp only [List.getElem?_toArray, List.getElem?_cons_succ, List.getElem?_cons_zero]; rfl) (fun K hK => ?_) AllReadyH.nil
        go_simp
        go_at_call 44
        refine (texts_w N18 p3 R3.out (by omega) (by omega)).mono ?_
        rintro e v87 ⟨rfl, k87⟩
        replace N18 := (N18).below rfl k87
        replace N3 := (N3).below rfl k87
        replace N7 := (N7).below rfl k87
        replace N13 := (N13).below rfl k87
        go_wp2_with fail
        refine hK.out _ _ (⟨bstep hHeld.1 k87, Coder.keepC hHeld.2.1 k87, Coder.keepC hHeld.2.2.1 k87, Coder.keepC hHeld.2.2.2.1 k87, Coder.keepC hHeld.2.2.2.2 k87⟩) (fun hHeld => ?_)
        clear hK K k87
        try simp only [Act.put, List.setIfInBounds_toArray, List.set_cons_zero, List.set_cons_succ]
        refine tk 20 ?_
        try simp only [Act.put, List.setIfInBounds_toArray, List.set_cons_zero, List.set_cons_succ]
        refine tk 21 ?_
        try simp only [Act.put, List.setIfInBounds_toArray, List.set_cons_zero, List.set_cons_succ]
        refine wpAnyH_done (by kernel_rfl) ?_ _
        refine NoPanic.normal ?_
        clear hb x0 x1 x2 x3
        obtain ⟨hb, x0, x1, x2, x3⟩ := hHeld
        go_wp2
        go_ret
        exact ⟨by rw [HV.out]; rfl, hb⟩
    · skip
      go_simp
      refine hK.out _ _ (⟨bstep hHeld.1 (balloc (Below.refl _ _) _), Coder.keepC hHeld.2.1 (balloc (Below.refl _ _) _), Coder.keepC hHeld.2.2.1 (balloc (Below.refl _ _) _), Coder.keepC hHeld.2.2.2.1 (balloc (Below.refl _ _) _), Coder.keepC hHeld.2.2.2.2 (balloc (Below.refl _ _) _)⟩) (fun hHeld => ?_)
      clear hK K
      try simp only [Act.put, List.setIfInBounds_toArray, List.set_cons_zero, List.set_cons_succ]
      replace N18 := txts_move N18 hHeld.1
      have N7 := txts_here [x.k] (by intro y hy; simp at hy; subst hy; omega) rfl 1 rfl hHeld.1
      try simp only [World.size_alloc] at N7
      refine wpAnyH_ready (rs := [3]) (by kernel_rfl) (by simp) ?_
      refine AllReadyH.cons (by simp only [List.getElem?_toArray, List.getElem?_cons_succ, List.getElem?_cons_zero]; rfl) (fun K hK => ?_) AllReadyH.nil
      go_simp
      refine hK.out _ _ (⟨bstep hHeld.1 (balloc (Below.refl _ _) _), Coder.keepC hHeld.2.1 (balloc (Below.refl _ _) _), Coder.keepC hHeld.2.2.1 (balloc (Below.refl _ _) _), Coder.keepC hHeld.2.2.2.1 (balloc (Below.refl _ _) _), Coder.keepC hHeld.2.2.2.2 (balloc (Below.refl _ _) _)⟩) (fun hHeld => ?_)
      clear hK K
      try simp only [Act.put, List.setIfInBounds_toArray, List.set_cons_zero, List.set_cons_succ]
      replace N18 := txts_move N18 hHeld.1
      replace N7 := txts_move N7 hHeld.1
      have N3 := nats_here [x.d] (by intro y hy; simp at hy; omega) rfl 1 rfl hHeld.1
      try simp only [World.size_alloc] at N3
      refine wpAnyH_ready (rs := [4]) (by kernel_rfl) (by simp) ?_
      refine AllReadyH.cons (by simp only [List.getElem?_toArray, List.getElem?_cons_succ, List.getElem?_cons_zero]; rfl) (fun K hK => ?_) AllReadyH.nil
      go_simp
      go_at_call 55
      refine (nums_w N3 (by omega) p0 R0.out).mono ?_
      rintro e v88 ⟨rfl, k88⟩
      replace N18 := (N18).below rfl k88
      replace N7 := (N7).below rfl k88
      replace N3 := (N3).below rfl k88
      go_wp2_with fail
      refine hK.out _ _ (⟨bstep hHeld.1 k88, Coder.keepC hHeld.2.1 k88, Coder.keepC hHeld.2.2.1 k88, Coder.keepC hHeld.2.2.2.1 k88, Coder.keepC hHeld.2.2.2.2 k88⟩) (fun hHeld => ?_)
      clear hK K k88
      try simp only [Act.put, List.setIfInBounds_toArray, List.set_cons_zero, List.set_cons_succ]
      refine wpAnyH_ready (rs := [8]) (by kernel_rfl) (by simp) ?_
      refine AllReadyH.cons (by simp only [List.getElem?_toArray, List.getElem?_cons_succ, List.getElem?_cons_zero]; rfl) (fun K hK => ?_) AllReadyH.nil
      go_simp
      go_at_call 44
      refine (texts_w N7 p1 R1.out (by omega) (by omega)).mono ?_
      rintro e v89 ⟨rfl, k89⟩
      replace N18 := (N18).below rfl k89
      replace N7 := (N7).below rfl k89
      replace N3 := (N3).below rfl k89
      go_wp2_with fail
      refine hK.out _ _ (⟨bstep hHeld.1 k89, Coder.keepC hHeld.2.1 k89, Coder.keepC hHeld.2.2.1 k89, Coder.keepC hHeld.2.2.2.1 k89, Coder.keepC hHeld.2.2.2.2 k89⟩) (fun hHeld => ?_)
      clear hK K k89
      try simp only [Act.put, List.setIfInBounds_toArray, List.set_cons_zero, List.set_cons_succ]
      refine tk 9 ?_
      try simp only [Act.put, List.setIfInBounds_toArray, List.set_cons_zero, List.set_cons_succ]
      refine wpAnyH_ready (rs := [12]) (by kernel_rfl) (by simp) ?_
      refine AllReadyH.cons (by simp only [List.getElem?_toArray, List.getElem?_cons_succ, List.getElem?_cons_zero]; rfl) (fun K hK => ?_) AllReadyH.nil
      go_simp
      go_at_call 56
      refine (TU.out _).mono ?_
      rintro e w90 ⟨rfl, rfl⟩
      go_wp2_with fail
      refine hK.out _ _ hHeld (fun hHeld => ?_)
      clear hK K
      try simp only [Act.put, List.setIfInBounds_toArray, List.set_cons_zero, List.set_cons_succ]
      refine wpAnyH_ready (rs := [13]) (by kernel_rfl) (by simp) ?_
      refine AllReadyH.cons (by simp only [List.getElem?_toArray, List.getElem?_cons_succ, List.getElem?_cons_zero]; rfl) (fun K hK => ?_) AllReadyH.nil
      go_simp
      refine hK.out _ _ (⟨bstep hHeld.1 (balloc (Below.refl _ _) _), Coder.keepC hHeld.2.1 (balloc (Below.refl _ _) _), Coder.keepC hHeld.2.2.1 (balloc (Below.refl _ _) _), Coder.keepC hHeld.2.2.2.1 (balloc (Below.refl _ _) _), Coder.keepC hHeld.2.2.2.2 (balloc (Below.refl _ _) _)⟩) (fun hHeld => ?_)
      clear hK K
      try simp only [Act.put, List.setIfInBounds_toArray, List.set_cons_zero, List.set_cons_succ]
      replace N18 := txts_move N18 hHeld.1
      replace N7 := txts_move N7 hHeld.1
      replace N3 := nats_move N3 hHeld.1
      have N13 := nats_here [q] (by intro y hy; simp at hy; omega) rfl 1 rfl hHeld.1
      try simp only [World.size_alloc] at N13
      refine wpAnyH_ready (rs := [14]) (by kernel_rfl) (by simp) ?_
      refine AllReadyH.cons (by simp only [List.getElem?_toArray, List.getElem?_cons_succ, List.getElem?_cons_zero]; rfl) (fun K hK => ?_) AllReadyH.nil
      go_simp
      go_at_call 55
      refine (nums_w N13 (by omega) p2 R2.out).mono ?_
      rintro e v91 ⟨rfl, k91⟩
      replace N18 := (N18).below rfl k91
      replace N7 := (N7).below rfl k91
      replace N3 := (N3).below rfl k91
      replace N13 := (N13).below rfl k91
      go_wp2_with fail
      refine hK.out _ _ (⟨bstep hHeld.1 k91, Coder.keepC hHeld.2.1 k91, Coder.keepC hHeld.2.2.1 k91, Coder.keepC hHeld.2.2.2.1 k91, Coder.keepC hHeld.2.2.2.2 k91⟩) (fun hHeld => ?_)
      clear hK K k91
      try simp only [Act.put, List.setIfInBounds_toArray, List.set_cons_zero, List.set_cons_succ]
      refine tk 15 ?_
      try simp only [Act.put, List.setIfInBounds_toArray, List.set_cons_zero, List.set_cons_succ]
      refine wpAnyH_ready (rs := [19]) (by kernel_rfl) (by simp) ?_
      refine AllReadyH.cons (by simp only [List.getElem?_toArray, List.getElem?_cons_succ, List.getElem?_cons_zero]; rfl) (fun K hK => ?_) AllReadyH.nil
      go_simp
      go_at_call 44
      refine (texts_w N18 p3 R3.out (by omega) (by omega)).mono ?_
      rintro e v92 ⟨rfl, k92⟩
      replace N18 := (N18).below rfl k92
      replace N7 := (N7).below rfl k92
      replace N3 := (N3).below rfl k92
      replace N13 := (N13).below rfl k92
      go_wp2_with fail
      refine hK.out _ _ (⟨bstep hHeld.1 k92, Coder.keepC hHeld.2.1 k92, Coder.keepC hHeld.2.2.1 k92, Coder.keepC hHeld.2.2.2.1 k92, Coder.keepC hHeld.2.2.2.2 k92⟩) (fun hHeld => ?_)
      clear hK K k92
      try simp only [Act.put, List.setIfInBounds_toArray, List.set_cons_zero, List.set_cons_succ]
      refine tk 20 ?_
      try simp only [Act.put, List.setIfInBounds_toArray, List.set_cons_zero, List.set_cons_succ]
      refine tk 21 ?_
      try simp only [Act.put, List.setIfInBounds_toArray, List.set_cons_zero, List.set_cons_succ]
      refine wpAnyH_done (by kernel_rfl) ?_ _
      refine NoPanic.normal ?_
      clear hb x0 x1 x2 x3
      obtain ⟨hb, x0, x1, x2, x3⟩ := hHeld
      go_wp2
      go_ret
      exact ⟨by rw [HV.out]; rfl, hb⟩
end Coder
end Go.Proofs.YtnpjkmomllkhpaaGreat
