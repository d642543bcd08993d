/- MsgKinds: the walk. -/
import Derived.Test.YtcfimfoccbaepaaDoorMsgIn
import Derived.Deep.DeepCutAuto
namespace Go.Proofs.YtcfimfoccbaepaaDoor
namespace MsgKinds
open Go.RowKit Go.Proofs.YtcfimfoccbaepaaDoor.Mark Go.Proofs.YtcfimfoccbaepaaDoor.Num Go.Proofs.YtcfimfoccbaepaaDoor.Wire Go.Proofs.YtcfimfoccbaepaaDoor.Msg

/-- A message lies in a block. -/
def At (W : World) (b : Nat) (g : G) : Prop := ∃ a c, W.heap[b]? = some (.cells (g.cells a c) 27 (0, 0)) ∧ Lies W a g.all.length g.all
theorem At.below {W W' : World} {b : Nat} {g : G} (h : At W b g) (k : Below W.heap.size W W') : At W' b g := by
  obtain ⟨a, c, h1, h2⟩ := h
  have hlt : b < W.heap.size := by
    rcases Nat.lt_or_ge b W.heap.size with h | h
    · exact h
    · rw [Array.getElem?_eq_none h] at h1; cases h1
  exact ⟨a, c, (k.block b hlt).trans h1, h2.below k⟩
/-- What stands at every step: the table, the two messages' marks and cells, the messages that were made. -/
structure St (W : World) (s : Nat) (m x : G) (a : Option Addr) (c : Nat) (a' : Option Addr) (c' : Nat) (l : List (Nat × G)) : Prop where
  tab : Crc.Tab W
  lm : Lies W a m.all.length m.all
  lx : Lies W a' x.all.length x.all
  bm : Box W s (m.cells a c)
  bx : Box W (s + 1) (x.cells a' c')
  all : ∀ y ∈ l, At W y.1 y.2
theorem St.below {W W' : World} {s : Nat} {m x : G} {a : Option Addr} {c : Nat} {a' : Option Addr} {c' : Nat} {l : List (Nat × G)} (h : St W s m x a c a' c' l) (k : Below W.heap.size W W') : St W' s m x a c a' c' l :=
  ⟨h.tab.below k, h.lm.below k, h.lx.below k, h.bm.below k, h.bx.below k, fun y hy => (h.all y hy).below k⟩
theorem St.add {W : World} {s : Nat} {m x : G} {a : Option Addr} {c : Nat} {a' : Option Addr} {c' : Nat} {l : List (Nat × G)} (h : St W s m x a c a' c' l) {b : Nat} {g : G} (k : At W b g) : St W s m x a c a' c' ((b, g) :: l) :=
  ⟨h.tab, h.lm, h.lx, h.bm, h.bx, fun y hy => by
    rcases List.mem_cons.1 hy with e | e
    · rw [e]; exact k
    · exact h.all y e⟩
theorem St.get {W : World} {s : Nat} {m x : G} {a : Option Addr} {c : Nat} {a' : Option Addr} {c' : Nat} {l : List (Nat × G)} (h : St W s m x a c a' c' l) (b : Nat) (g : G) (k : (b, g) ∈ l) :
    ∃ a c, W.heap[b]? = some (.cells (g.cells a c) 27 (0, 0)) ∧ Lies W a g.all.length g.all := h.all (b, g) k
theorem St.put {w v wx : World} {s : Nat} {m x : G} {a : Option Addr} {c : Nat} {a' : Option Addr} {c' : Nat} {l : List (Nat × G)} (st : St v s m x a c a' c' l) (hb : Below w.heap.size w v) (kx : Below v.heap.size v wx)
    (vals : List Value) (field : Nat) (A B C : List Value) (hA : A.length = field) (hB : B.length = vals.length) (hx : wx.heap[v.heap.size]? = some (.cells (A ++ B ++ C).toArray 27 (0, 0)))
    (g : G) (a2 : Option Addr) (c2 : Nat) (hg : (A ++ vals ++ C).toArray = g.cells a2 c2) (hl : Below v.heap.size v (setAll wx v.heap.size field vals) → Lies (setAll wx v.heap.size field vals) a2 g.all.length g.all) :
    Below w.heap.size w (setAll wx v.heap.size field vals) ∧ St (setAll wx v.heap.size field vals) s m x a c a' c' ((v.heap.size, g) :: l) := by
  have K : Below v.heap.size v (setAll wx v.heap.size field vals) := setAll_below v.heap.size v.heap.size (Nat.le_refl _) vals field v wx kx
  have HP := setAll_mid v.heap.size 27 vals field wx A B C hA hB hx
  rw [hg] at HP
  exact ⟨bstep hb K, (st.below K).add ⟨a2, c2, HP, hl K⟩⟩
/-- A message has been made in the newest block. -/
def Mid (p : Value) (wx : World) (w : World) (s : Nat) (m x : G) (a : Option Addr) (c : Nat) (a' : Option Addr) (c' : Nat) (l : List (Nat × G)) : Prop :=
  ∃ v a2 c2, St v s m x a c a' c' l ∧ Below w.heap.size w v ∧ p = .pointer (some ⟨v.heap.size, 0, none⟩) ∧ Lies v a2 m.all.length m.all ∧
    wx.heap[v.heap.size]? = some (.cells (m.cells a2 c2) 27 (0, 0)) ∧ wx.heap.size = v.heap.size + 1 ∧ Below v.heap.size v wx
theorem mod_part {m x : G} (h : m.Mod) (k : x.Mod) (hm : heavyB m = false) (hx : heavyB x = false) : ({ m with id := x.id, i := x.i, n := x.n, tx := x.tx } : G).Mod := by
  have h1 := light hm
  have h2 := light hx
  exact ⟨⟨h.ok.kind, h.ok.src, h.ok.dst, h.ok.fr, h.ok.seq, h.ok.all, h.ok.len, k.ok.id, k.ok.i, k.ok.n, k.ok.tx⟩, by show m.src.length + m.dst.length + m.fr.length + x.tx.length ≤ _; omega, h.len⟩
theorem mod_fr {m x : G} (h : m.Mod) (k : x.Mod) (hm : heavyB m = false) (hx : heavyB x = false) : ({ m with fr := x.fr } : G).Mod := by
  have h1 := light hm
  have h2 := light hx
  exact ⟨⟨h.ok.kind, h.ok.src, h.ok.dst, k.ok.fr, h.ok.seq, h.ok.all, h.ok.len, h.ok.id, h.ok.i, h.ok.n, h.ok.tx⟩, by show m.src.length + m.dst.length + x.fr.length + m.tx.length ≤ _; omega, h.len⟩
theorem mod_all {m x : G} (h : m.Mod) (k : x.Mod) : ({ m with all := x.all } : G).Mod := ⟨⟨h.ok.kind, h.ok.src, h.ok.dst, h.ok.fr, h.ok.seq, k.ok.all, k.ok.len, h.ok.id, h.ok.i, h.ok.n, h.ok.tx⟩, h.tx, k.len⟩
theorem mod_seq {m x : G} (h : m.Mod) (k : x.Mod) : ({ m with seq := x.seq } : G).Mod := ⟨⟨h.ok.kind, h.ok.src, h.ok.dst, h.ok.fr, k.ok.seq, h.ok.all, h.ok.len, h.ok.id, h.ok.i, h.ok.n, h.ok.tx⟩, h.tx, h.len⟩
theorem mod_zero {m : G} (h : m.Mod) : ({ m with kind := 0 } : G).Mod := ⟨⟨by show 0 < 256; decide, h.ok.src, h.ok.dst, h.ok.fr, h.ok.seq, h.ok.all, h.ok.len, h.ok.id, h.ok.i, h.ok.n, h.ok.tx⟩, h.tx, h.len⟩

set_option maxRecDepth 100000 in
set_option maxHeartbeats 16000000 in
theorem walk (m : G) (a : Option Addr) (c : Nat) (x : G) (a' : Option Addr) (c' : Nat) (w : World) (hm : m.Was) (hlm : Lies w a m.all.length m.all) (hx : x.Was) (hlx : Lies w a' x.all.length x.all) (ht : Crc.Tab w) :
    Calls Tryd.prog 7 #[.agg (m.cells a c), .agg (x.cells a' c')] w fun e w' => e = .returned (.bool true) ∧ Below w.heap.size w w' := by
  show Calls Tryd.prog 7 #[.agg #[.int .u8 (m.kind : Int), .string ⟨m.src.toArray⟩, .string ⟨m.dst.toArray⟩, .string ⟨m.fr.toArray⟩, .int .u64 (m.seq : Int), .slice a m.all.length c, .int .u64 (m.id : Int), .int .i64 m.i, .int .i64 m.n, .string ⟨m.tx.toArray⟩], .agg #[.int .u8 (x.kind : Int), .string ⟨x.src.toArray⟩, .string ⟨x.dst.toArray⟩, .string ⟨x.fr.toArray⟩, .int .u64 (x.seq : Int), .slice a' x.all.length c', .int .u64 (x.id : Int), .int .i64 x.i, .int .i64 x.n, .string ⟨x.tx.toArray⟩]] w fun e w' => e = .returned (.bool true) ∧ Below w.heap.size w w'
  have k0 : Below w.heap.size w ((w.alloc (.cells #[.int .u8 (m.kind : Int), .string ⟨m.src.toArray⟩, .string ⟨m.dst.toArray⟩, .string ⟨m.fr.toArray⟩, .int .u64 (m.seq : Int), .slice a m.all.length c, .int .u64 (m.id : Int), .int .i64 m.i, .int .i64 m.n, .string ⟨m.tx.toArray⟩] 27)).alloc (.cells #[.int .u8 (x.kind : Int), .string ⟨x.src.toArray⟩, .string ⟨x.dst.toArray⟩, .string ⟨x.fr.toArray⟩, .int .u64 (x.seq : Int), .slice a' x.all.length c', .int .u64 (x.id : Int), .int .i64 x.i, .int .i64 x.n, .string ⟨x.tx.toArray⟩] 27)) := balloc (balloc (Below.refl w.heap.size w) _) _
  have bm : Box ((w.alloc (.cells #[.int .u8 (m.kind : Int), .string ⟨m.src.toArray⟩, .string ⟨m.dst.toArray⟩, .string ⟨m.fr.toArray⟩, .int .u64 (m.seq : Int), .slice a m.all.length c, .int .u64 (m.id : Int), .int .i64 m.i, .int .i64 m.n, .string ⟨m.tx.toArray⟩] 27)).alloc (.cells #[.int .u8 (x.kind : Int), .string ⟨x.src.toArray⟩, .string ⟨x.dst.toArray⟩, .string ⟨x.fr.toArray⟩, .int .u64 (x.seq : Int), .slice a' x.all.length c', .int .u64 (x.id : Int), .int .i64 x.i, .int .i64 x.n, .string ⟨x.tx.toArray⟩] 27)) w.heap.size #[.int .u8 (m.kind : Int), .string ⟨m.src.toArray⟩, .string ⟨m.dst.toArray⟩, .string ⟨m.fr.toArray⟩, .int .u64 (m.seq : Int), .slice a m.all.length c, .int .u64 (m.id : Int), .int .i64 m.i, .int .i64 m.n, .string ⟨m.tx.toArray⟩] := (Box.new w _ _).below (balloc (Below.refl _ _) _)
  have bx : Box ((w.alloc (.cells #[.int .u8 (m.kind : Int), .string ⟨m.src.toArray⟩, .string ⟨m.dst.toArray⟩, .string ⟨m.fr.toArray⟩, .int .u64 (m.seq : Int), .slice a m.all.length c, .int .u64 (m.id : Int), .int .i64 m.i, .int .i64 m.n, .string ⟨m.tx.toArray⟩] 27)).alloc (.cells #[.int .u8 (x.kind : Int), .string ⟨x.src.toArray⟩, .string ⟨x.dst.toArray⟩, .string ⟨x.fr.toArray⟩, .int .u64 (x.seq : Int), .slice a' x.all.length c', .int .u64 (x.id : Int), .int .i64 x.i, .int .i64 x.n, .string ⟨x.tx.toArray⟩] 27)) (w.heap.size + 1) #[.int .u8 (x.kind : Int), .string ⟨x.src.toArray⟩, .string ⟨x.dst.toArray⟩, .string ⟨x.fr.toArray⟩, .int .u64 (x.seq : Int), .slice a' x.all.length c', .int .u64 (x.id : Int), .int .i64 x.i, .int .i64 x.n, .string ⟨x.tx.toArray⟩] := by have := Box.new (w.alloc (.cells #[.int .u8 (m.kind : Int), .string ⟨m.src.toArray⟩, .string ⟨m.dst.toArray⟩, .string ⟨m.fr.toArray⟩, .int .u64 (m.seq : Int), .slice a m.all.length c, .int .u64 (m.id : Int), .int .i64 m.i, .int .i64 m.n, .string ⟨m.tx.toArray⟩] 27)) #[.int .u8 (x.kind : Int), .string ⟨x.src.toArray⟩, .string ⟨x.dst.toArray⟩, .string ⟨x.fr.toArray⟩, .int .u64 (x.seq : Int), .slice a' x.all.length c', .int .u64 (x.id : Int), .int .i64 x.i, .int .i64 x.n, .string ⟨x.tx.toArray⟩] 27; simpa using this
  have st : Hid (St ((w.alloc (.cells #[.int .u8 (m.kind : Int), .string ⟨m.src.toArray⟩, .string ⟨m.dst.toArray⟩, .string ⟨m.fr.toArray⟩, .int .u64 (m.seq : Int), .slice a m.all.length c, .int .u64 (m.id : Int), .int .i64 m.i, .int .i64 m.n, .string ⟨m.tx.toArray⟩] 27)).alloc (.cells #[.int .u8 (x.kind : Int), .string ⟨x.src.toArray⟩, .string ⟨x.dst.toArray⟩, .string ⟨x.fr.toArray⟩, .int .u64 (x.seq : Int), .slice a' x.all.length c', .int .u64 (x.id : Int), .int .i64 x.i, .int .i64 x.n, .string ⟨x.tx.toArray⟩] 27)) w.heap.size m x a c a' c' []) := Lib.hid ⟨ht.below k0, hlm.below k0, hlx.below k0, bm, bx, fun y hy => by cases hy⟩
  have hb := k0
  have WM := Lib.hid hm
  have WX := Lib.hid hx
  clear hlm hlx ht k0 hm hx bm bx
  cases v1 : heavyB m
  rotate_left
  · replace v1 := Lib.hid v1
    go_enter Tryd.func7, Tryd.ntmps7
    have x0 := st.out.bm 0 (.int .u8 (m.kind : Int)) rfl
    have x1 := st.out.bm 1 (.string ⟨m.src.toArray⟩) rfl
    have x2 := st.out.bm 2 (.string ⟨m.dst.toArray⟩) rfl
    have x3 := st.out.bm 3 (.string ⟨m.fr.toArray⟩) rfl
    have x4 := st.out.bm 4 (.int .u64 (m.seq : Int)) rfl
    have x5 := st.out.bm 5 (.slice a m.all.length c) rfl
    have x6 := st.out.bm 6 (.int .u64 (m.id : Int)) rfl
    have x7 := st.out.bm 7 (.int .i64 m.i) rfl
    have x8 := st.out.bm 8 (.int .i64 m.n) rfl
    have x9 := st.out.bm 9 (.string ⟨m.tx.toArray⟩) rfl
    have y0 := st.out.bx 0 (.int .u8 (x.kind : Int)) rfl
    have y1 := st.out.bx 1 (.string ⟨x.src.toArray⟩) rfl
    have y2 := st.out.bx 2 (.string ⟨x.dst.toArray⟩) rfl
    have y3 := st.out.bx 3 (.string ⟨x.fr.toArray⟩) rfl
    have y4 := st.out.bx 4 (.int .u64 (x.seq : Int)) rfl
    have y5 := st.out.bx 5 (.slice a' x.all.length c') rfl
    have y6 := st.out.bx 6 (.int .u64 (x.id : Int)) rfl
    have y7 := st.out.bx 7 (.int .i64 x.i) rfl
    have y8 := st.out.bx 8 (.int .i64 x.n) rfl
    have y9 := st.out.bx 9 (.string ⟨x.tx.toArray⟩) rfl
    go_wp2_with fail
    refine (heavy_is true v1.out WM.out _ st.out.lm).mono ?_
    rintro e v1 ⟨rfl, k1⟩
    replace st := Lib.hid ((st.out).below k1)
    replace x0 := (Msg.keepC x0 k1)
    replace x1 := (Msg.keepC x1 k1)
    replace x2 := (Msg.keepC x2 k1)
    replace x3 := (Msg.keepC x3 k1)
    replace x4 := (Msg.keepC x4 k1)
    replace x5 := (Msg.keepC x5 k1)
    replace x6 := (Msg.keepC x6 k1)
    replace x7 := (Msg.keepC x7 k1)
    replace x8 := (Msg.keepC x8 k1)
    replace x9 := (Msg.keepC x9 k1)
    replace y0 := (Msg.keepC y0 k1)
    replace y1 := (Msg.keepC y1 k1)
    replace y2 := (Msg.keepC y2 k1)
    replace y3 := (Msg.keepC y3 k1)
    replace y4 := (Msg.keepC y4 k1)
    replace y5 := (Msg.keepC y5 k1)
    replace y6 := (Msg.keepC y6 k1)
    replace y7 := (Msg.keepC y7 k1)
    replace y8 := (Msg.keepC y8 k1)
    replace y9 := (Msg.keepC y9 k1)
    replace hb := bstep hb k1
    clear k1
    go_wp2_with fail
    refine (works_any _ st.out.tab).mono ?_
    rintro e v2 ⟨rfl, k2⟩
    replace st := Lib.hid ((st.out).below k2)
    replace x0 := (Msg.keepC x0 k2)
    replace x1 := (Msg.keepC x1 k2)
    replace x2 := (Msg.keepC x2 k2)
    replace x3 := (Msg.keepC x3 k2)
    replace x4 := (Msg.keepC x4 k2)
    replace x5 := (Msg.keepC x5 k2)
    replace x6 := (Msg.keepC x6 k2)
    replace x7 := (Msg.keepC x7 k2)
    replace x8 := (Msg.keepC x8 k2)
    replace x9 := (Msg.keepC x9 k2)
    replace y0 := (Msg.keepC y0 k2)
    replace y1 := (Msg.keepC y1 k2)
    replace y2 := (Msg.keepC y2 k2)
    replace y3 := (Msg.keepC y3 k2)
    replace y4 := (Msg.keepC y4 k2)
    replace y5 := (Msg.keepC y5 k2)
    replace y6 := (Msg.keepC y6 k2)
    replace y7 := (Msg.keepC y7 k2)
    replace y8 := (Msg.keepC y8 k2)
    replace y9 := (Msg.keepC y9 k2)
    replace hb := bstep hb k2
    clear k2
    go_wp2
    go_ret
    exact ⟨rfl, hb⟩
  replace v1 := Lib.hid v1
  cases v2 : heavyB x
  rotate_left
  · replace v2 := Lib.hid v2
    go_enter Tryd.func7, Tryd.ntmps7
    have x0 := st.out.bm 0 (.int .u8 (m.kind : Int)) rfl
    have x1 := st.out.bm 1 (.string ⟨m.src.toArray⟩) rfl
    have x2 := st.out.bm 2 (.string ⟨m.dst.toArray⟩) rfl
    have x3 := st.out.bm 3 (.string ⟨m.fr.toArray⟩) rfl
    have x4 := st.out.bm 4 (.int .u64 (m.seq : Int)) rfl
    have x5 := st.out.bm 5 (.slice a m.all.length c) rfl
    have x6 := st.out.bm 6 (.int .u64 (m.id : Int)) rfl
    have x7 := st.out.bm 7 (.int .i64 m.i) rfl
    have x8 := st.out.bm 8 (.int .i64 m.n) rfl
    have x9 := st.out.bm 9 (.string ⟨m.tx.toArray⟩) rfl
    have y0 := st.out.bx 0 (.int .u8 (x.kind : Int)) rfl
    have y1 := st.out.bx 1 (.string ⟨x.src.toArray⟩) rfl
    have y2 := st.out.bx 2 (.string ⟨x.dst.toArray⟩) rfl
    have y3 := st.out.bx 3 (.string ⟨x.fr.toArray⟩) rfl
    have y4 := st.out.bx 4 (.int .u64 (x.seq : Int)) rfl
    have y5 := st.out.bx 5 (.slice a' x.all.length c') rfl
    have y6 := st.out.bx 6 (.int .u64 (x.id : Int)) rfl
    have y7 := st.out.bx 7 (.int .i64 x.i) rfl
    have y8 := st.out.bx 8 (.int .i64 x.n) rfl
    have y9 := st.out.bx 9 (.string ⟨x.tx.toArray⟩) rfl
    go_wp2_with fail
    refine (heavy_is false v1.out WM.out _ st.out.lm).mono ?_
    rintro e v3 ⟨rfl, k3⟩
    replace st := Lib.hid ((st.out).below k3)
    replace x0 := (Msg.keepC x0 k3)
    replace x1 := (Msg.keepC x1 k3)
    replace x2 := (Msg.keepC x2 k3)
    replace x3 := (Msg.keepC x3 k3)
    replace x4 := (Msg.keepC x4 k3)
    replace x5 := (Msg.keepC x5 k3)
    replace x6 := (Msg.keepC x6 k3)
    replace x7 := (Msg.keepC x7 k3)
    replace x8 := (Msg.keepC x8 k3)
    replace x9 := (Msg.keepC x9 k3)
    replace y0 := (Msg.keepC y0 k3)
    replace y1 := (Msg.keepC y1 k3)
    replace y2 := (Msg.keepC y2 k3)
    replace y3 := (Msg.keepC y3 k3)
    replace y4 := (Msg.keepC y4 k3)
    replace y5 := (Msg.keepC y5 k3)
    replace y6 := (Msg.keepC y6 k3)
    replace y7 := (Msg.keepC y7 k3)
    replace y8 := (Msg.keepC y8 k3)
    replace y9 := (Msg.keepC y9 k3)
    replace hb := bstep hb k3
    clear k3
    go_wp2_with fail
    refine (heavy_is true v2.out WX.out _ st.out.lx).mono ?_
    rintro e v4 ⟨rfl, k4⟩
    replace st := Lib.hid ((st.out).below k4)
    replace x0 := (Msg.keepC x0 k4)
    replace x1 := (Msg.keepC x1 k4)
    replace x2 := (Msg.keepC x2 k4)
    replace x3 := (Msg.keepC x3 k4)
    replace x4 := (Msg.keepC x4 k4)
    replace x5 := (Msg.keepC x5 k4)
    replace x6 := (Msg.keepC x6 k4)
    replace x7 := (Msg.keepC x7 k4)
    replace x8 := (Msg.keepC x8 k4)
    replace x9 := (Msg.keepC x9 k4)
    replace y0 := (Msg.keepC y0 k4)
    replace y1 := (Msg.keepC y1 k4)
    replace y2 := (Msg.keepC y2 k4)
    replace y3 := (Msg.keepC y3 k4)
    replace y4 := (Msg.keepC y4 k4)
    replace y5 := (Msg.keepC y5 k4)
    replace y6 := (Msg.keepC y6 k4)
    replace y7 := (Msg.keepC y7 k4)
    replace y8 := (Msg.keepC y8 k4)
    replace y9 := (Msg.keepC y9 k4)
    replace hb := bstep hb k4
    clear k4
    go_wp2_with fail
    refine (works_any _ st.out.tab).mono ?_
    rintro e v5 ⟨rfl, k5⟩
    replace st := Lib.hid ((st.out).below k5)
    replace x0 := (Msg.keepC x0 k5)
    replace x1 := (Msg.keepC x1 k5)
    replace x2 := (Msg.keepC x2 k5)
    replace x3 := (Msg.keepC x3 k5)
    replace x4 := (Msg.keepC x4 k5)
    replace x5 := (Msg.keepC x5 k5)
    replace x6 := (Msg.keepC x6 k5)
    replace x7 := (Msg.keepC x7 k5)
    replace x8 := (Msg.keepC x8 k5)
    replace x9 := (Msg.keepC x9 k5)
    replace y0 := (Msg.keepC y0 k5)
    replace y1 := (Msg.keepC y1 k5)
    replace y2 := (Msg.keepC y2 k5)
    replace y3 := (Msg.keepC y3 k5)
    replace y4 := (Msg.keepC y4 k5)
    replace y5 := (Msg.keepC y5 k5)
    replace y6 := (Msg.keepC y6 k5)
    replace y7 := (Msg.keepC y7 k5)
    replace y8 := (Msg.keepC y8 k5)
    replace y9 := (Msg.keepC y9 k5)
    replace hb := bstep hb k5
    clear k5
    go_wp2
    go_ret
    exact ⟨rfl, hb⟩
  replace v2 := Lib.hid v2
  have MM := Lib.hid (WM.out.mod v1.out)
  have MX := Lib.hid (WX.out.mod v2.out)
  cases v3 : mayM m
  · replace v3 := Lib.hid v3
    go_enter Tryd.func7, Tryd.ntmps7
    have x0 := st.out.bm 0 (.int .u8 (m.kind : Int)) rfl
    have x1 := st.out.bm 1 (.string ⟨m.src.toArray⟩) rfl
    have x2 := st.out.bm 2 (.string ⟨m.dst.toArray⟩) rfl
    have x3 := st.out.bm 3 (.string ⟨m.fr.toArray⟩) rfl
    have x4 := st.out.bm 4 (.int .u64 (m.seq : Int)) rfl
    have x5 := st.out.bm 5 (.slice a m.all.length c) rfl
    have x6 := st.out.bm 6 (.int .u64 (m.id : Int)) rfl
    have x7 := st.out.bm 7 (.int .i64 m.i) rfl
    have x8 := st.out.bm 8 (.int .i64 m.n) rfl
    have x9 := st.out.bm 9 (.string ⟨m.tx.toArray⟩) rfl
    have y0 := st.out.bx 0 (.int .u8 (x.kind : Int)) rfl
    have y1 := st.out.bx 1 (.string ⟨x.src.toArray⟩) rfl
    have y2 := st.out.bx 2 (.string ⟨x.dst.toArray⟩) rfl
    have y3 := st.out.bx 3 (.string ⟨x.fr.toArray⟩) rfl
    have y4 := st.out.bx 4 (.int .u64 (x.seq : Int)) rfl
    have y5 := st.out.bx 5 (.slice a' x.all.length c') rfl
    have y6 := st.out.bx 6 (.int .u64 (x.id : Int)) rfl
    have y7 := st.out.bx 7 (.int .i64 x.i) rfl
    have y8 := st.out.bx 8 (.int .i64 x.n) rfl
    have y9 := st.out.bx 9 (.string ⟨x.tx.toArray⟩) rfl
    go_wp2_with fail
    refine (heavy_is false v1.out WM.out _ st.out.lm).mono ?_
    rintro e v6 ⟨rfl, k6⟩
    replace st := Lib.hid ((st.out).below k6)
    replace x0 := (Msg.keepC x0 k6)
    replace x1 := (Msg.keepC x1 k6)
    replace x2 := (Msg.keepC x2 k6)
    replace x3 := (Msg.keepC x3 k6)
    replace x4 := (Msg.keepC x4 k6)
    replace x5 := (Msg.keepC x5 k6)
    replace x6 := (Msg.keepC x6 k6)
    replace x7 := (Msg.keepC x7 k6)
    replace x8 := (Msg.keepC x8 k6)
    replace x9 := (Msg.keepC x9 k6)
    replace y0 := (Msg.keepC y0 k6)
    replace y1 := (Msg.keepC y1 k6)
    replace y2 := (Msg.keepC y2 k6)
    replace y3 := (Msg.keepC y3 k6)
    replace y4 := (Msg.keepC y4 k6)
    replace y5 := (Msg.keepC y5 k6)
    replace y6 := (Msg.keepC y6 k6)
    replace y7 := (Msg.keepC y7 k6)
    replace y8 := (Msg.keepC y8 k6)
    replace y9 := (Msg.keepC y9 k6)
    replace hb := bstep hb k6
    clear k6
    go_wp2_with fail
    refine (heavy_is false v2.out WX.out _ st.out.lx).mono ?_
    rintro e v7 ⟨rfl, k7⟩
    replace st := Lib.hid ((st.out).below k7)
    replace x0 := (Msg.keepC x0 k7)
    replace x1 := (Msg.keepC x1 k7)
    replace x2 := (Msg.keepC x2 k7)
    replace x3 := (Msg.keepC x3 k7)
    replace x4 := (Msg.keepC x4 k7)
    replace x5 := (Msg.keepC x5 k7)
    replace x6 := (Msg.keepC x6 k7)
    replace x7 := (Msg.keepC x7 k7)
    replace x8 := (Msg.keepC x8 k7)
    replace x9 := (Msg.keepC x9 k7)
    replace y0 := (Msg.keepC y0 k7)
    replace y1 := (Msg.keepC y1 k7)
    replace y2 := (Msg.keepC y2 k7)
    replace y3 := (Msg.keepC y3 k7)
    replace y4 := (Msg.keepC y4 k7)
    replace y5 := (Msg.keepC y5 k7)
    replace y6 := (Msg.keepC y6 k7)
    replace y7 := (Msg.keepC y7 k7)
    replace y8 := (Msg.keepC y8 k7)
    replace y9 := (Msg.keepC y9 k7)
    replace hb := bstep hb k7
    clear k7
    go_wp2_with fail
    refine (copied_is MM.out _ st.out.lm).mono ?_
    rintro e v8 ⟨b8, d8, rfl, l8, -, k8⟩
    replace st := Lib.hid ((st.out).below k8)
    replace x0 := (Msg.keepC x0 k8)
    replace x1 := (Msg.keepC x1 k8)
    replace x2 := (Msg.keepC x2 k8)
    replace x3 := (Msg.keepC x3 k8)
    replace x4 := (Msg.keepC x4 k8)
    replace x5 := (Msg.keepC x5 k8)
    replace x6 := (Msg.keepC x6 k8)
    replace x7 := (Msg.keepC x7 k8)
    replace x8 := (Msg.keepC x8 k8)
    replace x9 := (Msg.keepC x9 k8)
    replace y0 := (Msg.keepC y0 k8)
    replace y1 := (Msg.keepC y1 k8)
    replace y2 := (Msg.keepC y2 k8)
    replace y3 := (Msg.keepC y3 k8)
    replace y4 := (Msg.keepC y4 k8)
    replace y5 := (Msg.keepC y5 k8)
    replace y6 := (Msg.keepC y6 k8)
    replace y7 := (Msg.keepC y7 k8)
    replace y8 := (Msg.keepC y8 k8)
    replace y9 := (Msg.keepC y9 k8)
    replace hb := bstep hb k8
    clear k8
    replace l8 := Lib.hid l8
    go_wp2_with fail
    refine (may_eq false v3.out MM.out _ l8.out).mono ?_
    rintro e v9 ⟨rfl, k9⟩
    replace st := Lib.hid ((st.out).below k9)
    replace x0 := (Msg.keepC x0 k9)
    replace x1 := (Msg.keepC x1 k9)
    replace x2 := (Msg.keepC x2 k9)
    replace x3 := (Msg.keepC x3 k9)
    replace x4 := (Msg.keepC x4 k9)
    replace x5 := (Msg.keepC x5 k9)
    replace x6 := (Msg.keepC x6 k9)
    replace x7 := (Msg.keepC x7 k9)
    replace x8 := (Msg.keepC x8 k9)
    replace x9 := (Msg.keepC x9 k9)
    replace y0 := (Msg.keepC y0 k9)
    replace y1 := (Msg.keepC y1 k9)
    replace y2 := (Msg.keepC y2 k9)
    replace y3 := (Msg.keepC y3 k9)
    replace y4 := (Msg.keepC y4 k9)
    replace y5 := (Msg.keepC y5 k9)
    replace y6 := (Msg.keepC y6 k9)
    replace y7 := (Msg.keepC y7 k9)
    replace y8 := (Msg.keepC y8 k9)
    replace y9 := (Msg.keepC y9 k9)
    replace l8 := Lib.hid ((l8.out).below k9)
    replace hb := bstep hb k9
    clear k9
    go_wp2_with fail
    refine (works_any _ st.out.tab).mono ?_
    rintro e v10 ⟨rfl, k10⟩
    replace st := Lib.hid ((st.out).below k10)
    replace x0 := (Msg.keepC x0 k10)
    replace x1 := (Msg.keepC x1 k10)
    replace x2 := (Msg.keepC x2 k10)
    replace x3 := (Msg.keepC x3 k10)
    replace x4 := (Msg.keepC x4 k10)
    replace x5 := (Msg.keepC x5 k10)
    replace x6 := (Msg.keepC x6 k10)
    replace x7 := (Msg.keepC x7 k10)
    replace x8 := (Msg.keepC x8 k10)
    replace x9 := (Msg.keepC x9 k10)
    replace y0 := (Msg.keepC y0 k10)
    replace y1 := (Msg.keepC y1 k10)
    replace y2 := (Msg.keepC y2 k10)
    replace y3 := (Msg.keepC y3 k10)
    replace y4 := (Msg.keepC y4 k10)
    replace y5 := (Msg.keepC y5 k10)
    replace y6 := (Msg.keepC y6 k10)
    replace y7 := (Msg.keepC y7 k10)
    replace y8 := (Msg.keepC y8 k10)
    replace y9 := (Msg.keepC y9 k10)
    replace hb := bstep hb k10
    clear k10
    go_wp2
    go_ret
    exact ⟨rfl, hb⟩
  replace v3 := Lib.hid v3
  cases v4 : mayM x
  · replace v4 := Lib.hid v4
    go_enter Tryd.func7, Tryd.ntmps7
    have x0 := st.out.bm 0 (.int .u8 (m.kind : Int)) rfl
    have x1 := st.out.bm 1 (.string ⟨m.src.toArray⟩) rfl
    have x2 := st.out.bm 2 (.string ⟨m.dst.toArray⟩) rfl
    have x3 := st.out.bm 3 (.string ⟨m.fr.toArray⟩) rfl
    have x4 := st.out.bm 4 (.int .u64 (m.seq : Int)) rfl
    have x5 := st.out.bm 5 (.slice a m.all.length c) rfl
    have x6 := st.out.bm 6 (.int .u64 (m.id : Int)) rfl
    have x7 := st.out.bm 7 (.int .i64 m.i) rfl
    have x8 := st.out.bm 8 (.int .i64 m.n) rfl
    have x9 := st.out.bm 9 (.string ⟨m.tx.toArray⟩) rfl
    have y0 := st.out.bx 0 (.int .u8 (x.kind : Int)) rfl
    have y1 := st.out.bx 1 (.string ⟨x.src.toArray⟩) rfl
    have y2 := st.out.bx 2 (.string ⟨x.dst.toArray⟩) rfl
    have y3 := st.out.bx 3 (.string ⟨x.fr.toArray⟩) rfl
    have y4 := st.out.bx 4 (.int .u64 (x.seq : Int)) rfl
    have y5 := st.out.bx 5 (.slice a' x.all.length c') rfl
    have y6 := st.out.bx 6 (.int .u64 (x.id : Int)) rfl
    have y7 := st.out.bx 7 (.int .i64 x.i) rfl
    have y8 := st.out.bx 8 (.int .i64 x.n) rfl
    have y9 := st.out.bx 9 (.string ⟨x.tx.toArray⟩) rfl
    go_wp2_with fail
    refine (heavy_is false v1.out WM.out _ st.out.lm).mono ?_
    rintro e v11 ⟨rfl, k11⟩
    replace st := Lib.hid ((st.out).below k11)
    replace x0 := (Msg.keepC x0 k11)
    replace x1 := (Msg.keepC x1 k11)
    replace x2 := (Msg.keepC x2 k11)
    replace x3 := (Msg.keepC x3 k11)
    replace x4 := (Msg.keepC x4 k11)
    replace x5 := (Msg.keepC x5 k11)
    replace x6 := (Msg.keepC x6 k11)
    replace x7 := (Msg.keepC x7 k11)
    replace x8 := (Msg.keepC x8 k11)
    replace x9 := (Msg.keepC x9 k11)
    replace y0 := (Msg.keepC y0 k11)
    replace y1 := (Msg.keepC y1 k11)
    replace y2 := (Msg.keepC y2 k11)
    replace y3 := (Msg.keepC y3 k11)
    replace y4 := (Msg.keepC y4 k11)
    replace y5 := (Msg.keepC y5 k11)
    replace y6 := (Msg.keepC y6 k11)
    replace y7 := (Msg.keepC y7 k11)
    replace y8 := (Msg.keepC y8 k11)
    replace y9 := (Msg.keepC y9 k11)
    replace hb := bstep hb k11
    clear k11
    go_wp2_with fail
    refine (heavy_is false v2.out WX.out _ st.out.lx).mono ?_
    rintro e v12 ⟨rfl, k12⟩
    replace st := Lib.hid ((st.out).below k12)
    replace x0 := (Msg.keepC x0 k12)
    replace x1 := (Msg.keepC x1 k12)
    replace x2 := (Msg.keepC x2 k12)
    replace x3 := (Msg.keepC x3 k12)
    replace x4 := (Msg.keepC x4 k12)
    replace x5 := (Msg.keepC x5 k12)
    replace x6 := (Msg.keepC x6 k12)
    replace x7 := (Msg.keepC x7 k12)
    replace x8 := (Msg.keepC x8 k12)
    replace x9 := (Msg.keepC x9 k12)
    replace y0 := (Msg.keepC y0 k12)
    replace y1 := (Msg.keepC y1 k12)
    replace y2 := (Msg.keepC y2 k12)
    replace y3 := (Msg.keepC y3 k12)
    replace y4 := (Msg.keepC y4 k12)
    replace y5 := (Msg.keepC y5 k12)
    replace y6 := (Msg.keepC y6 k12)
    replace y7 := (Msg.keepC y7 k12)
    replace y8 := (Msg.keepC y8 k12)
    replace y9 := (Msg.keepC y9 k12)
    replace hb := bstep hb k12
    clear k12
    go_wp2_with fail
    refine (copied_is MM.out _ st.out.lm).mono ?_
    rintro e v13 ⟨b13, d13, rfl, l13, -, k13⟩
    replace st := Lib.hid ((st.out).below k13)
    replace x0 := (Msg.keepC x0 k13)
    replace x1 := (Msg.keepC x1 k13)
    replace x2 := (Msg.keepC x2 k13)
    replace x3 := (Msg.keepC x3 k13)
    replace x4 := (Msg.keepC x4 k13)
    replace x5 := (Msg.keepC x5 k13)
    replace x6 := (Msg.keepC x6 k13)
    replace x7 := (Msg.keepC x7 k13)
    replace x8 := (Msg.keepC x8 k13)
    replace x9 := (Msg.keepC x9 k13)
    replace y0 := (Msg.keepC y0 k13)
    replace y1 := (Msg.keepC y1 k13)
    replace y2 := (Msg.keepC y2 k13)
    replace y3 := (Msg.keepC y3 k13)
    replace y4 := (Msg.keepC y4 k13)
    replace y5 := (Msg.keepC y5 k13)
    replace y6 := (Msg.keepC y6 k13)
    replace y7 := (Msg.keepC y7 k13)
    replace y8 := (Msg.keepC y8 k13)
    replace y9 := (Msg.keepC y9 k13)
    replace hb := bstep hb k13
    clear k13
    replace l13 := Lib.hid l13
    go_wp2_with fail
    refine (may_eq true v3.out MM.out _ l13.out).mono ?_
    rintro e v14 ⟨rfl, k14⟩
    replace st := Lib.hid ((st.out).below k14)
    replace x0 := (Msg.keepC x0 k14)
    replace x1 := (Msg.keepC x1 k14)
    replace x2 := (Msg.keepC x2 k14)
    replace x3 := (Msg.keepC x3 k14)
    replace x4 := (Msg.keepC x4 k14)
    replace x5 := (Msg.keepC x5 k14)
    replace x6 := (Msg.keepC x6 k14)
    replace x7 := (Msg.keepC x7 k14)
    replace x8 := (Msg.keepC x8 k14)
    replace x9 := (Msg.keepC x9 k14)
    replace y0 := (Msg.keepC y0 k14)
    replace y1 := (Msg.keepC y1 k14)
    replace y2 := (Msg.keepC y2 k14)
    replace y3 := (Msg.keepC y3 k14)
    replace y4 := (Msg.keepC y4 k14)
    replace y5 := (Msg.keepC y5 k14)
    replace y6 := (Msg.keepC y6 k14)
    replace y7 := (Msg.keepC y7 k14)
    replace y8 := (Msg.keepC y8 k14)
    replace y9 := (Msg.keepC y9 k14)
    replace l13 := Lib.hid ((l13.out).below k14)
    replace hb := bstep hb k14
    clear k14
    clear l13
    go_wp2_with fail
    refine (copied_is MX.out _ st.out.lx).mono ?_
    rintro e v15 ⟨b15, d15, rfl, l15, -, k15⟩
    replace st := Lib.hid ((st.out).below k15)
    replace x0 := (Msg.keepC x0 k15)
    replace x1 := (Msg.keepC x1 k15)
    replace x2 := (Msg.keepC x2 k15)
    replace x3 := (Msg.keepC x3 k15)
    replace x4 := (Msg.keepC x4 k15)
    replace x5 := (Msg.keepC x5 k15)
    replace x6 := (Msg.keepC x6 k15)
    replace x7 := (Msg.keepC x7 k15)
    replace x8 := (Msg.keepC x8 k15)
    replace x9 := (Msg.keepC x9 k15)
    replace y0 := (Msg.keepC y0 k15)
    replace y1 := (Msg.keepC y1 k15)
    replace y2 := (Msg.keepC y2 k15)
    replace y3 := (Msg.keepC y3 k15)
    replace y4 := (Msg.keepC y4 k15)
    replace y5 := (Msg.keepC y5 k15)
    replace y6 := (Msg.keepC y6 k15)
    replace y7 := (Msg.keepC y7 k15)
    replace y8 := (Msg.keepC y8 k15)
    replace y9 := (Msg.keepC y9 k15)
    replace hb := bstep hb k15
    clear k15
    replace l15 := Lib.hid l15
    go_wp2_with fail
    refine (may_eq false v4.out MX.out _ l15.out).mono ?_
    rintro e v16 ⟨rfl, k16⟩
    replace st := Lib.hid ((st.out).below k16)
    replace x0 := (Msg.keepC x0 k16)
    replace x1 := (Msg.keepC x1 k16)
    replace x2 := (Msg.keepC x2 k16)
    replace x3 := (Msg.keepC x3 k16)
    replace x4 := (Msg.keepC x4 k16)
    replace x5 := (Msg.keepC x5 k16)
    replace x6 := (Msg.keepC x6 k16)
    replace x7 := (Msg.keepC x7 k16)
    replace x8 := (Msg.keepC x8 k16)
    replace x9 := (Msg.keepC x9 k16)
    replace y0 := (Msg.keepC y0 k16)
    replace y1 := (Msg.keepC y1 k16)
    replace y2 := (Msg.keepC y2 k16)
    replace y3 := (Msg.keepC y3 k16)
    replace y4 := (Msg.keepC y4 k16)
    replace y5 := (Msg.keepC y5 k16)
    replace y6 := (Msg.keepC y6 k16)
    replace y7 := (Msg.keepC y7 k16)
    replace y8 := (Msg.keepC y8 k16)
    replace y9 := (Msg.keepC y9 k16)
    replace l15 := Lib.hid ((l15.out).below k16)
    replace hb := bstep hb k16
    clear k16
    clear l15
    go_wp2_with fail
    refine (works_any _ st.out.tab).mono ?_
    rintro e v17 ⟨rfl, k17⟩
    replace st := Lib.hid ((st.out).below k17)
    replace x0 := (Msg.keepC x0 k17)
    replace x1 := (Msg.keepC x1 k17)
    replace x2 := (Msg.keepC x2 k17)
    replace x3 := (Msg.keepC x3 k17)
    replace x4 := (Msg.keepC x4 k17)
    replace x5 := (Msg.keepC x5 k17)
    replace x6 := (Msg.keepC x6 k17)
    replace x7 := (Msg.keepC x7 k17)
    replace x8 := (Msg.keepC x8 k17)
    replace x9 := (Msg.keepC x9 k17)
    replace y0 := (Msg.keepC y0 k17)
    replace y1 := (Msg.keepC y1 k17)
    replace y2 := (Msg.keepC y2 k17)
    replace y3 := (Msg.keepC y3 k17)
    replace y4 := (Msg.keepC y4 k17)
    replace y5 := (Msg.keepC y5 k17)
    replace y6 := (Msg.keepC y6 k17)
    replace y7 := (Msg.keepC y7 k17)
    replace y8 := (Msg.keepC y8 k17)
    replace y9 := (Msg.keepC y9 k17)
    replace hb := bstep hb k17
    clear k17
    go_wp2
    go_ret
    exact ⟨rfl, hb⟩
  replace v4 := Lib.hid v4
  go_enter Tryd.func7, Tryd.ntmps7
  go_upto_region 1 with fail
  go_cut [27] (fun q wx => q = .bool false ∧ Below w.heap.size w wx ∧ St wx w.heap.size m x a c a' c' [])
  case first =>
    have x0 := st.out.bm 0 (.int .u8 (m.kind : Int)) rfl
    have x1 := st.out.bm 1 (.string ⟨m.src.toArray⟩) rfl
    have x2 := st.out.bm 2 (.string ⟨m.dst.toArray⟩) rfl
    have x3 := st.out.bm 3 (.string ⟨m.fr.toArray⟩) rfl
    have x4 := st.out.bm 4 (.int .u64 (m.seq : Int)) rfl
    have x5 := st.out.bm 5 (.slice a m.all.length c) rfl
    have x6 := st.out.bm 6 (.int .u64 (m.id : Int)) rfl
    have x7 := st.out.bm 7 (.int .i64 m.i) rfl
    have x8 := st.out.bm 8 (.int .i64 m.n) rfl
    have x9 := st.out.bm 9 (.string ⟨m.tx.toArray⟩) rfl
    have y0 := st.out.bx 0 (.int .u8 (x.kind : Int)) rfl
    have y1 := st.out.bx 1 (.string ⟨x.src.toArray⟩) rfl
    have y2 := st.out.bx 2 (.string ⟨x.dst.toArray⟩) rfl
    have y3 := st.out.bx 3 (.string ⟨x.fr.toArray⟩) rfl
    have y4 := st.out.bx 4 (.int .u64 (x.seq : Int)) rfl
    have y5 := st.out.bx 5 (.slice a' x.all.length c') rfl
    have y6 := st.out.bx 6 (.int .u64 (x.id : Int)) rfl
    have y7 := st.out.bx 7 (.int .i64 x.i) rfl
    have y8 := st.out.bx 8 (.int .i64 x.n) rfl
    have y9 := st.out.bx 9 (.string ⟨x.tx.toArray⟩) rfl
    go_wp2_with fail
    refine (heavy_is false v1.out WM.out _ st.out.lm).mono ?_
    rintro e v18 ⟨rfl, k18⟩
    replace st := Lib.hid ((st.out).below k18)
    replace x0 := (Msg.keepC x0 k18)
    replace x1 := (Msg.keepC x1 k18)
    replace x2 := (Msg.keepC x2 k18)
    replace x3 := (Msg.keepC x3 k18)
    replace x4 := (Msg.keepC x4 k18)
    replace x5 := (Msg.keepC x5 k18)
    replace x6 := (Msg.keepC x6 k18)
    replace x7 := (Msg.keepC x7 k18)
    replace x8 := (Msg.keepC x8 k18)
    replace x9 := (Msg.keepC x9 k18)
    replace y0 := (Msg.keepC y0 k18)
    replace y1 := (Msg.keepC y1 k18)
    replace y2 := (Msg.keepC y2 k18)
    replace y3 := (Msg.keepC y3 k18)
    replace y4 := (Msg.keepC y4 k18)
    replace y5 := (Msg.keepC y5 k18)
    replace y6 := (Msg.keepC y6 k18)
    replace y7 := (Msg.keepC y7 k18)
    replace y8 := (Msg.keepC y8 k18)
    replace y9 := (Msg.keepC y9 k18)
    replace hb := bstep hb k18
    clear k18
    go_wp2_with fail
    refine (heavy_is false v2.out WX.out _ st.out.lx).mono ?_
    rintro e v19 ⟨rfl, k19⟩
    replace st := Lib.hid ((st.out).below k19)
    replace x0 := (Msg.keepC x0 k19)
    replace x1 := (Msg.keepC x1 k19)
    replace x2 := (Msg.keepC x2 k19)
    replace x3 := (Msg.keepC x3 k19)
    replace x4 := (Msg.keepC x4 k19)
    replace x5 := (Msg.keepC x5 k19)
    replace x6 := (Msg.keepC x6 k19)
    replace x7 := (Msg.keepC x7 k19)
    replace x8 := (Msg.keepC x8 k19)
    replace x9 := (Msg.keepC x9 k19)
    replace y0 := (Msg.keepC y0 k19)
    replace y1 := (Msg.keepC y1 k19)
    replace y2 := (Msg.keepC y2 k19)
    replace y3 := (Msg.keepC y3 k19)
    replace y4 := (Msg.keepC y4 k19)
    replace y5 := (Msg.keepC y5 k19)
    replace y6 := (Msg.keepC y6 k19)
    replace y7 := (Msg.keepC y7 k19)
    replace y8 := (Msg.keepC y8 k19)
    replace y9 := (Msg.keepC y9 k19)
    replace hb := bstep hb k19
    clear k19
    go_wp2_with fail
    refine (copied_is MM.out _ st.out.lm).mono ?_
    rintro e v20 ⟨b20, d20, rfl, l20, -, k20⟩
    replace st := Lib.hid ((st.out).below k20)
    replace x0 := (Msg.keepC x0 k20)
    replace x1 := (Msg.keepC x1 k20)
    replace x2 := (Msg.keepC x2 k20)
    replace x3 := (Msg.keepC x3 k20)
    replace x4 := (Msg.keepC x4 k20)
    replace x5 := (Msg.keepC x5 k20)
    replace x6 := (Msg.keepC x6 k20)
    replace x7 := (Msg.keepC x7 k20)
    replace x8 := (Msg.keepC x8 k20)
    replace x9 := (Msg.keepC x9 k20)
    replace y0 := (Msg.keepC y0 k20)
    replace y1 := (Msg.keepC y1 k20)
    replace y2 := (Msg.keepC y2 k20)
    replace y3 := (Msg.keepC y3 k20)
    replace y4 := (Msg.keepC y4 k20)
    replace y5 := (Msg.keepC y5 k20)
    replace y6 := (Msg.keepC y6 k20)
    replace y7 := (Msg.keepC y7 k20)
    replace y8 := (Msg.keepC y8 k20)
    replace y9 := (Msg.keepC y9 k20)
    replace hb := bstep hb k20
    clear k20
    replace l20 := Lib.hid l20
    go_wp2_with fail
    refine (may_eq true v3.out MM.out _ l20.out).mono ?_
    rintro e v21 ⟨rfl, k21⟩
    replace st := Lib.hid ((st.out).below k21)
    replace x0 := (Msg.keepC x0 k21)
    replace x1 := (Msg.keepC x1 k21)
    replace x2 := (Msg.keepC x2 k21)
    replace x3 := (Msg.keepC x3 k21)
    replace x4 := (Msg.keepC x4 k21)
    replace x5 := (Msg.keepC x5 k21)
    replace x6 := (Msg.keepC x6 k21)
    replace x7 := (Msg.keepC x7 k21)
    replace x8 := (Msg.keepC x8 k21)
    replace x9 := (Msg.keepC x9 k21)
    replace y0 := (Msg.keepC y0 k21)
    replace y1 := (Msg.keepC y1 k21)
    replace y2 := (Msg.keepC y2 k21)
    replace y3 := (Msg.keepC y3 k21)
    replace y4 := (Msg.keepC y4 k21)
    replace y5 := (Msg.keepC y5 k21)
    replace y6 := (Msg.keepC y6 k21)
    replace y7 := (Msg.keepC y7 k21)
    replace y8 := (Msg.keepC y8 k21)
    replace y9 := (Msg.keepC y9 k21)
    replace l20 := Lib.hid ((l20.out).below k21)
    replace hb := bstep hb k21
    clear k21
    clear l20
    go_wp2_with fail
    refine (copied_is MX.out _ st.out.lx).mono ?_
    rintro e v22 ⟨b22, d22, rfl, l22, -, k22⟩
    replace st := Lib.hid ((st.out).below k22)
    replace x0 := (Msg.keepC x0 k22)
    replace x1 := (Msg.keepC x1 k22)
    replace x2 := (Msg.keepC x2 k22)
    replace x3 := (Msg.keepC x3 k22)
    replace x4 := (Msg.keepC x4 k22)
    replace x5 := (Msg.keepC x5 k22)
    replace x6 := (Msg.keepC x6 k22)
    replace x7 := (Msg.keepC x7 k22)
    replace x8 := (Msg.keepC x8 k22)
    replace x9 := (Msg.keepC x9 k22)
    replace y0 := (Msg.keepC y0 k22)
    replace y1 := (Msg.keepC y1 k22)
    replace y2 := (Msg.keepC y2 k22)
    replace y3 := (Msg.keepC y3 k22)
    replace y4 := (Msg.keepC y4 k22)
    replace y5 := (Msg.keepC y5 k22)
    replace y6 := (Msg.keepC y6 k22)
    replace y7 := (Msg.keepC y7 k22)
    replace y8 := (Msg.keepC y8 k22)
    replace y9 := (Msg.keepC y9 k22)
    replace hb := bstep hb k22
    clear k22
    replace l22 := Lib.hid l22
    go_wp2_with fail
    refine (may_eq true v4.out MX.out _ l22.out).mono ?_
    rintro e v23 ⟨rfl, k23⟩
    replace st := Lib.hid ((st.out).below k23)
    replace x0 := (Msg.keepC x0 k23)
    replace x1 := (Msg.keepC x1 k23)
    replace x2 := (Msg.keepC x2 k23)
    replace x3 := (Msg.keepC x3 k23)
    replace x4 := (Msg.keepC x4 k23)
    replace x5 := (Msg.keepC x5 k23)
    replace x6 := (Msg.keepC x6 k23)
    replace x7 := (Msg.keepC x7 k23)
    replace x8 := (Msg.keepC x8 k23)
    replace x9 := (Msg.keepC x9 k23)
    replace y0 := (Msg.keepC y0 k23)
    replace y1 := (Msg.keepC y1 k23)
    replace y2 := (Msg.keepC y2 k23)
    replace y3 := (Msg.keepC y3 k23)
    replace y4 := (Msg.keepC y4 k23)
    replace y5 := (Msg.keepC y5 k23)
    replace y6 := (Msg.keepC y6 k23)
    replace y7 := (Msg.keepC y7 k23)
    replace y8 := (Msg.keepC y8 k23)
    replace y9 := (Msg.keepC y9 k23)
    replace l22 := Lib.hid ((l22.out).below k23)
    replace hb := bstep hb k23
    clear k23
    clear l22
    clear x0 x1 x2 x3 x4 x5 x6 x7 x8 x9 y0 y1 y2 y3 y4 y5 y6 y7 y8 y9
    go_wp2_with fail
    go_meet
    exact ⟨rfl, hb, st.out⟩
  clear hb st
  obtain ⟨rfl, hb, st⟩ := hcut
  replace st := Lib.hid st
  go_upto_region 3 with fail
  go_cut [5] (fun q wx => Mid q wx w w.heap.size m x a c a' c' [])
  case first =>
    have x0 := st.out.bm 0 (.int .u8 (m.kind : Int)) rfl
    have x1 := st.out.bm 1 (.string ⟨m.src.toArray⟩) rfl
    have x2 := st.out.bm 2 (.string ⟨m.dst.toArray⟩) rfl
    have x3 := st.out.bm 3 (.string ⟨m.fr.toArray⟩) rfl
    have x4 := st.out.bm 4 (.int .u64 (m.seq : Int)) rfl
    have x5 := st.out.bm 5 (.slice a m.all.length c) rfl
    have x6 := st.out.bm 6 (.int .u64 (m.id : Int)) rfl
    have x7 := st.out.bm 7 (.int .i64 m.i) rfl
    have x8 := st.out.bm 8 (.int .i64 m.n) rfl
    have x9 := st.out.bm 9 (.string ⟨m.tx.toArray⟩) rfl
    go_wp2_with fail
    refine (copied_is MM.out _ st.out.lm).mono ?_
    rintro e v24 ⟨b24, d24, rfl, l24, -, k24⟩
    replace st := Lib.hid ((st.out).below k24)
    replace x0 := (Msg.keepC x0 k24)
    replace x1 := (Msg.keepC x1 k24)
    replace x2 := (Msg.keepC x2 k24)
    replace x3 := (Msg.keepC x3 k24)
    replace x4 := (Msg.keepC x4 k24)
    replace x5 := (Msg.keepC x5 k24)
    replace x6 := (Msg.keepC x6 k24)
    replace x7 := (Msg.keepC x7 k24)
    replace x8 := (Msg.keepC x8 k24)
    replace x9 := (Msg.keepC x9 k24)
    replace hb := bstep hb k24
    clear k24
    replace l24 := Lib.hid l24
    clear x0 x1 x2 x3 x4 x5 x6 x7 x8 x9
    go_wp2_with fail
    go_meet
    exact ⟨v24, b24, d24, st.out, hb, rfl, l24.out, heap_at1 v24 _, by simp, balloc (Below.refl _ _) _⟩
  clear hb st
  obtain ⟨vA, bA, dA, st, hb, rfl, lA, hx, hsz, kx⟩ := hcut
  replace st := Lib.hid st
  replace lA := Lib.hid lA
  replace hx := Lib.hid hx
  replace hsz := Lib.hid hsz
  replace kx := Lib.hid kx
  go_upto_region 4 with fail
  go_cut [] (fun wx => Below w.heap.size w wx ∧ St wx w.heap.size m x a c a' c' [(vA.heap.size, { m with id := x.id, i := x.i, n := x.n, tx := x.tx })])
  case first =>
    have hx2 := hx.out
    simp only [G.cells] at hx2
    have z6 := Msg.keepC (st.out.bx 6 (.int .u64 (x.id : Int)) rfl) kx.out
    have z7 := Msg.keepC (st.out.bx 7 (.int .i64 x.i) rfl) kx.out
    have z8 := Msg.keepC (st.out.bx 8 (.int .i64 x.n) rfl) kx.out
    have z9 := Msg.keepC (st.out.bx 9 (.string ⟨x.tx.toArray⟩) rfl) kx.out
    have t6 : _ = (some (.int .u64 (m.id : Int)) : Option Value) := (Lib.cell_of_heap hx2 6).trans rfl
    have f6 := Lib.frozen_of_heap hx2 6
    have t7 : _ = (some (.int .i64 m.i) : Option Value) := (Lib.cell_of_heap hx2 7).trans rfl
    have f7 := Lib.frozen_of_heap hx2 7
    have t8 : _ = (some (.int .i64 m.n) : Option Value) := (Lib.cell_of_heap hx2 8).trans rfl
    have f8 := Lib.frozen_of_heap hx2 8
    have t9 : _ = (some (.string ⟨m.tx.toArray⟩) : Option Value) := (Lib.cell_of_heap hx2 9).trans rfl
    have f9 := Lib.frozen_of_heap hx2 9
    replace hx2 := Lib.hid hx2
    go_wp2_with fail
    go_meet
    exact st.out.put hb kx.out [.int .u64 (x.id : Int), .int .i64 x.i, .int .i64 x.n, .string ⟨x.tx.toArray⟩] 6 [.int .u8 (m.kind : Int), .string ⟨m.src.toArray⟩, .string ⟨m.dst.toArray⟩, .string ⟨m.fr.toArray⟩, .int .u64 (m.seq : Int), .slice bA m.all.length dA] [.int .u64 (m.id : Int), .int .i64 m.i, .int .i64 m.n, .string ⟨m.tx.toArray⟩] [] rfl rfl hx2.out { m with id := x.id, i := x.i, n := x.n, tx := x.tx } bA dA rfl (fun K => lA.out.below K)
  clear hb st hx hsz
  obtain ⟨hb, st⟩ := hcut
  replace st := Lib.hid st
  go_upto_region 5 with fail
  go_cut [6] (fun q wx => Mid q wx w w.heap.size m x a c a' c' [(vA.heap.size, { m with id := x.id, i := x.i, n := x.n, tx := x.tx })])
  case first =>
    have x0 := st.out.bm 0 (.int .u8 (m.kind : Int)) rfl
    have x1 := st.out.bm 1 (.string ⟨m.src.toArray⟩) rfl
    have x2 := st.out.bm 2 (.string ⟨m.dst.toArray⟩) rfl
    have x3 := st.out.bm 3 (.string ⟨m.fr.toArray⟩) rfl
    have x4 := st.out.bm 4 (.int .u64 (m.seq : Int)) rfl
    have x5 := st.out.bm 5 (.slice a m.all.length c) rfl
    have x6 := st.out.bm 6 (.int .u64 (m.id : Int)) rfl
    have x7 := st.out.bm 7 (.int .i64 m.i) rfl
    have x8 := st.out.bm 8 (.int .i64 m.n) rfl
    have x9 := st.out.bm 9 (.string ⟨m.tx.toArray⟩) rfl
    go_wp2_with fail
    refine (copied_is MM.out _ st.out.lm).mono ?_
    rintro e v25 ⟨b25, d25, rfl, l25, -, k25⟩
    replace st := Lib.hid ((st.out).below k25)
    replace x0 := (Msg.keepC x0 k25)
    replace x1 := (Msg.keepC x1 k25)
    replace x2 := (Msg.keepC x2 k25)
    replace x3 := (Msg.keepC x3 k25)
    replace x4 := (Msg.keepC x4 k25)
    replace x5 := (Msg.keepC x5 k25)
    replace x6 := (Msg.keepC x6 k25)
    replace x7 := (Msg.keepC x7 k25)
    replace x8 := (Msg.keepC x8 k25)
    replace x9 := (Msg.keepC x9 k25)
    replace hb := bstep hb k25
    clear k25
    replace l25 := Lib.hid l25
    clear x0 x1 x2 x3 x4 x5 x6 x7 x8 x9
    go_wp2_with fail
    go_meet
    exact ⟨v25, b25, d25, st.out, hb, rfl, l25.out, heap_at1 v25 _, by simp, balloc (Below.refl _ _) _⟩
  clear hb st
  obtain ⟨vB, bB, dB, st, hb, rfl, lB, hx, hsz, kx⟩ := hcut
  replace st := Lib.hid st
  replace lB := Lib.hid lB
  replace hx := Lib.hid hx
  replace hsz := Lib.hid hsz
  replace kx := Lib.hid kx
  go_upto_region 6 with fail
  go_cut [] (fun wx => Below w.heap.size w wx ∧ St wx w.heap.size m x a c a' c' [(vB.heap.size, { m with fr := x.fr }), (vA.heap.size, { m with id := x.id, i := x.i, n := x.n, tx := x.tx })])
  case first =>
    have hx2 := hx.out
    simp only [G.cells] at hx2
    have z3 := Msg.keepC (st.out.bx 3 (.string ⟨x.fr.toArray⟩) rfl) kx.out
    have t3 : _ = (some (.string ⟨m.fr.toArray⟩) : Option Value) := (Lib.cell_of_heap hx2 3).trans rfl
    have f3 := Lib.frozen_of_heap hx2 3
    replace hx2 := Lib.hid hx2
    go_wp2_with fail
    go_meet
    exact st.out.put hb kx.out [.string ⟨x.fr.toArray⟩] 3 [.int .u8 (m.kind : Int), .string ⟨m.src.toArray⟩, .string ⟨m.dst.toArray⟩] [.string ⟨m.fr.toArray⟩] [.int .u64 (m.seq : Int), .slice bB m.all.length dB, .int .u64 (m.id : Int), .int .i64 m.i, .int .i64 m.n, .string ⟨m.tx.toArray⟩] rfl rfl hx2.out { m with fr := x.fr } bB dB rfl (fun K => lB.out.below K)
  clear hb st hx hsz
  obtain ⟨hb, st⟩ := hcut
  replace st := Lib.hid st
  go_upto_region 7 with fail
  go_cut [7] (fun q wx => Mid q wx w w.heap.size m x a c a' c' [(vB.heap.size, { m with fr := x.fr }), (vA.heap.size, { m with id := x.id, i := x.i, n := x.n, tx := x.tx })])
  case first =>
    have x0 := st.out.bm 0 (.int .u8 (m.kind : Int)) rfl
    have x1 := st.out.bm 1 (.string ⟨m.src.toArray⟩) rfl
    have x2 := st.out.bm 2 (.string ⟨m.dst.toArray⟩) rfl
    have x3 := st.out.bm 3 (.string ⟨m.fr.toArray⟩) rfl
    have x4 := st.out.bm 4 (.int .u64 (m.seq : Int)) rfl
    have x5 := st.out.bm 5 (.slice a m.all.length c) rfl
    have x6 := st.out.bm 6 (.int .u64 (m.id : Int)) rfl
    have x7 := st.out.bm 7 (.int .i64 m.i) rfl
    have x8 := st.out.bm 8 (.int .i64 m.n) rfl
    have x9 := st.out.bm 9 (.string ⟨m.tx.toArray⟩) rfl
    go_wp2_with fail
    refine (copied_is MM.out _ st.out.lm).mono ?_
    rintro e v26 ⟨b26, d26, rfl, l26, -, k26⟩
    replace st := Lib.hid ((st.out).below k26)
    replace x0 := (Msg.keepC x0 k26)
    replace x1 := (Msg.keepC x1 k26)
    replace x2 := (Msg.keepC x2 k26)
    replace x3 := (Msg.keepC x3 k26)
    replace x4 := (Msg.keepC x4 k26)
    replace x5 := (Msg.keepC x5 k26)
    replace x6 := (Msg.keepC x6 k26)
    replace x7 := (Msg.keepC x7 k26)
    replace x8 := (Msg.keepC x8 k26)
    replace x9 := (Msg.keepC x9 k26)
    replace hb := bstep hb k26
    clear k26
    replace l26 := Lib.hid l26
    clear x0 x1 x2 x3 x4 x5 x6 x7 x8 x9
    go_wp2_with fail
    go_meet
    exact ⟨v26, b26, d26, st.out, hb, rfl, l26.out, heap_at1 v26 _, by simp, balloc (Below.refl _ _) _⟩
  clear hb st
  obtain ⟨vC, bC, dC, st, hb, rfl, lC, hx, hsz, kx⟩ := hcut
  replace st := Lib.hid st
  replace lC := Lib.hid lC
  replace hx := Lib.hid hx
  replace hsz := Lib.hid hsz
  replace kx := Lib.hid kx
  go_upto_region 8 with fail
  go_cut [] (fun wx => Below w.heap.size w wx ∧ St wx w.heap.size m x a c a' c' [(vC.heap.size, { m with all := x.all }), (vB.heap.size, { m with fr := x.fr }), (vA.heap.size, { m with id := x.id, i := x.i, n := x.n, tx := x.tx })])
  case first =>
    have hx2 := hx.out
    simp only [G.cells] at hx2
    have z5 := Msg.keepC (st.out.bx 5 (.slice a' x.all.length c') rfl) kx.out
    have t5 : _ = (some (.slice bC m.all.length dC) : Option Value) := (Lib.cell_of_heap hx2 5).trans rfl
    have f5 := Lib.frozen_of_heap hx2 5
    replace hx2 := Lib.hid hx2
    obtain ⟨i0, hi, hz0, hz1, hz2⟩ := info_parts info_mark
    have lz := st.out.lx.below kx.out
    cases a' with
    | none =>
      have hl0 : x.all.length = 0 := by
        rcases Nat.eq_zero_or_pos x.all.length with h | h
        · exact h
        · obtain ⟨_, _, e, _⟩ := lz.2 h; cases e
      rw [hl0] at z5
      have HL0 := Lib.hid hl0
      clear hl0 lz
      go_wp2_with (at_builtin; refine wpList_nil rfl _ _ 23 47 rfl i0 Tryd.underlying23 hi c' rfl rfl ?_)
      go_meet
      exact st.out.put hb kx.out [.slice none 0 0] 5 [.int .u8 (m.kind : Int), .string ⟨m.src.toArray⟩, .string ⟨m.dst.toArray⟩, .string ⟨m.fr.toArray⟩, .int .u64 (m.seq : Int)] [.slice bC m.all.length dC] [.int .u64 (m.id : Int), .int .i64 m.i, .int .i64 m.n, .string ⟨m.tx.toArray⟩] rfl rfl hx2.out { m with all := x.all } none 0 (by simp only [G.cells, HL0.out]; rfl) (fun K => st.out.lx.below K)
    | some q =>
      have hnl := lz.1
      have hnews : Hid (∀ j u, (flat x.all)[j]? = some u → World.cell? _ (q.add j) = some u) := Lib.hid (fun j u hu => by
        have hj : j < x.all.length * 2 := by rw [← flat_length]; exact (List.getElem?_eq_some_iff.1 hu).1
        obtain ⟨b, off, e, _⟩ := lz.2 (by omega)
        obtain rfl : q = ⟨b, off, none⟩ := Option.some.inj e
        exact lz.at j u hu)
      have HF := Lib.hid (flat_length x.all)
      have hxl : x.all.length ≤ 1048576 := MX.out.len
      clear hnl lz
      go_wp2_with (at_builtin; refine wpList_append_own _ rfl _ _ 23 rfl (vC.heap.size + 1) 47 i0 (.agg #[.string ⟨#[]⟩, .int .u64 0]) 2 24 Tryd.underlying23 hi hz0 hz1 hz2 rfl (by decide) _ 0 [] rfl (World.ownsRow_nil _ _ _ _) q x.all.length c' (flat x.all) rfl HF.out hnews.out (flat_one x.all) (by unfold maxLen; omega) (by omega) (by rw [hsz.out]; exact Nat.le_refl _) ?_; intro u1 w1 hown hgrow _; rw [Nat.zero_add, List.nil_append] at hown; obtain ⟨a2, c2, rfl, _, _, lies, far⟩ := lies_own hown; have kb : Below (vC.heap.size + 1) _ w1 := Below.grown (Below.refl _ _) hgrow (by rw [hsz.out]; exact Nat.le_refl _) (fun k hk => by cases hk); have hx3 := (kb.block vC.heap.size (by omega)).trans hx2.out; have k1 := kx.out.trans (kb.mono (by omega)); have fx := Lib.frozen_of_heap hx3 5; have cx : w1.cell? ⟨vC.heap.size, 5, none⟩ = some (.slice bC m.all.length dC) := (Lib.cell_of_heap hx3 5).trans rfl)
      go_meet
      have far2 : ∀ p, a2 = some p → p.block ≠ vC.heap.size := fun p e => by have := far p e; omega
      have lz2 := lies_set lies (p := ⟨vC.heap.size, 5, none⟩) far2 (.slice a2 x.all.length c2)
      exact st.out.put hb k1 [.slice a2 x.all.length c2] 5 [.int .u8 (m.kind : Int), .string ⟨m.src.toArray⟩, .string ⟨m.dst.toArray⟩, .string ⟨m.fr.toArray⟩, .int .u64 (m.seq : Int)] [.slice bC m.all.length dC] [.int .u64 (m.id : Int), .int .i64 m.i, .int .i64 m.n, .string ⟨m.tx.toArray⟩] rfl rfl hx3 { m with all := x.all } a2 c2 rfl (fun _ => lz2)
  clear hb st hx hsz
  obtain ⟨hb, st⟩ := hcut
  replace st := Lib.hid st
  go_upto_region 9 with fail
  go_cut [8] (fun q wx => Mid q wx w w.heap.size m x a c a' c' [(vC.heap.size, { m with all := x.all }), (vB.heap.size, { m with fr := x.fr }), (vA.heap.size, { m with id := x.id, i := x.i, n := x.n, tx := x.tx })])
  case first =>
    have x0 := st.out.bm 0 (.int .u8 (m.kind : Int)) rfl
    have x1 := st.out.bm 1 (.string ⟨m.src.toArray⟩) rfl
    have x2 := st.out.bm 2 (.string ⟨m.dst.toArray⟩) rfl
    have x3 := st.out.bm 3 (.string ⟨m.fr.toArray⟩) rfl
    have x4 := st.out.bm 4 (.int .u64 (m.seq : Int)) rfl
    have x5 := st.out.bm 5 (.slice a m.all.length c) rfl
    have x6 := st.out.bm 6 (.int .u64 (m.id : Int)) rfl
    have x7 := st.out.bm 7 (.int .i64 m.i) rfl
    have x8 := st.out.bm 8 (.int .i64 m.n) rfl
    have x9 := st.out.bm 9 (.string ⟨m.tx.toArray⟩) rfl
    go_wp2_with fail
    refine (copied_is MM.out _ st.out.lm).mono ?_
    rintro e v27 ⟨b27, d27, rfl, l27, -, k27⟩
    replace st := Lib.hid ((st.out).below k27)
    replace x0 := (Msg.keepC x0 k27)
    replace x1 := (Msg.keepC x1 k27)
    replace x2 := (Msg.keepC x2 k27)
    replace x3 := (Msg.keepC x3 k27)
    replace x4 := (Msg.keepC x4 k27)
    replace x5 := (Msg.keepC x5 k27)
    replace x6 := (Msg.keepC x6 k27)
    replace x7 := (Msg.keepC x7 k27)
    replace x8 := (Msg.keepC x8 k27)
    replace x9 := (Msg.keepC x9 k27)
    replace hb := bstep hb k27
    clear k27
    replace l27 := Lib.hid l27
    clear x0 x1 x2 x3 x4 x5 x6 x7 x8 x9
    go_wp2_with fail
    go_meet
    exact ⟨v27, b27, d27, st.out, hb, rfl, l27.out, heap_at1 v27 _, by simp, balloc (Below.refl _ _) _⟩
  clear hb st
  obtain ⟨vD, bD, dD, st, hb, rfl, lD, hx, hsz, kx⟩ := hcut
  replace st := Lib.hid st
  replace lD := Lib.hid lD
  replace hx := Lib.hid hx
  replace hsz := Lib.hid hsz
  replace kx := Lib.hid kx
  go_upto_region 10 with fail
  go_cut [] (fun wx => Below w.heap.size w wx ∧ St wx w.heap.size m x a c a' c' [(vD.heap.size, { m with seq := x.seq }), (vC.heap.size, { m with all := x.all }), (vB.heap.size, { m with fr := x.fr }), (vA.heap.size, { m with id := x.id, i := x.i, n := x.n, tx := x.tx })])
  case first =>
    have hx2 := hx.out
    simp only [G.cells] at hx2
    have z4 := Msg.keepC (st.out.bx 4 (.int .u64 (x.seq : Int)) rfl) kx.out
    have t4 : _ = (some (.int .u64 (m.seq : Int)) : Option Value) := (Lib.cell_of_heap hx2 4).trans rfl
    have f4 := Lib.frozen_of_heap hx2 4
    replace hx2 := Lib.hid hx2
    go_wp2_with fail
    go_meet
    exact st.out.put hb kx.out [.int .u64 (x.seq : Int)] 4 [.int .u8 (m.kind : Int), .string ⟨m.src.toArray⟩, .string ⟨m.dst.toArray⟩, .string ⟨m.fr.toArray⟩] [.int .u64 (m.seq : Int)] [.slice bD m.all.length dD, .int .u64 (m.id : Int), .int .i64 m.i, .int .i64 m.n, .string ⟨m.tx.toArray⟩] rfl rfl hx2.out { m with seq := x.seq } bD dD rfl (fun K => lD.out.below K)
  clear hb st hx hsz
  obtain ⟨hb, st⟩ := hcut
  replace st := Lib.hid st
  go_upto_region 11 with fail
  go_cut [9] (fun q wx => Mid q wx w w.heap.size m x a c a' c' [(vD.heap.size, { m with seq := x.seq }), (vC.heap.size, { m with all := x.all }), (vB.heap.size, { m with fr := x.fr }), (vA.heap.size, { m with id := x.id, i := x.i, n := x.n, tx := x.tx })])
  case first =>
    have x0 := st.out.bm 0 (.int .u8 (m.kind : Int)) rfl
    have x1 := st.out.bm 1 (.string ⟨m.src.toArray⟩) rfl
    have x2 := st.out.bm 2 (.string ⟨m.dst.toArray⟩) rfl
    have x3 := st.out.bm 3 (.string ⟨m.fr.toArray⟩) rfl
    have x4 := st.out.bm 4 (.int .u64 (m.seq : Int)) rfl
    have x5 := st.out.bm 5 (.slice a m.all.length c) rfl
    have x6 := st.out.bm 6 (.int .u64 (m.id : Int)) rfl
    have x7 := st.out.bm 7 (.int .i64 m.i) rfl
    have x8 := st.out.bm 8 (.int .i64 m.n) rfl
    have x9 := st.out.bm 9 (.string ⟨m.tx.toArray⟩) rfl
    go_wp2_with fail
    refine (copied_is MM.out _ st.out.lm).mono ?_
    rintro e v28 ⟨b28, d28, rfl, l28, -, k28⟩
    replace st := Lib.hid ((st.out).below k28)
    replace x0 := (Msg.keepC x0 k28)
    replace x1 := (Msg.keepC x1 k28)
    replace x2 := (Msg.keepC x2 k28)
    replace x3 := (Msg.keepC x3 k28)
    replace x4 := (Msg.keepC x4 k28)
    replace x5 := (Msg.keepC x5 k28)
    replace x6 := (Msg.keepC x6 k28)
    replace x7 := (Msg.keepC x7 k28)
    replace x8 := (Msg.keepC x8 k28)
    replace x9 := (Msg.keepC x9 k28)
    replace hb := bstep hb k28
    clear k28
    replace l28 := Lib.hid l28
    clear x0 x1 x2 x3 x4 x5 x6 x7 x8 x9
    go_wp2_with fail
    go_meet
    exact ⟨v28, b28, d28, st.out, hb, rfl, l28.out, heap_at1 v28 _, by simp, balloc (Below.refl _ _) _⟩
  clear hb st
  obtain ⟨vE, bE, dE, st, hb, rfl, lE, hx, hsz, kx⟩ := hcut
  replace st := Lib.hid st
  replace lE := Lib.hid lE
  replace hx := Lib.hid hx
  replace hsz := Lib.hid hsz
  replace kx := Lib.hid kx
  go_upto_region 12 with fail
  go_cut [] (fun wx => Below w.heap.size w wx ∧ St wx w.heap.size m x a c a' c' [(vE.heap.size, { m with kind := 0 }), (vD.heap.size, { m with seq := x.seq }), (vC.heap.size, { m with all := x.all }), (vB.heap.size, { m with fr := x.fr }), (vA.heap.size, { m with id := x.id, i := x.i, n := x.n, tx := x.tx })])
  case first =>
    have hx2 := hx.out
    simp only [G.cells] at hx2
    have t0 : _ = (some (.int .u8 (m.kind : Int)) : Option Value) := (Lib.cell_of_heap hx2 0).trans rfl
    have f0 := Lib.frozen_of_heap hx2 0
    replace hx2 := Lib.hid hx2
    go_wp2_with fail
    go_meet
    exact st.out.put hb kx.out [.int .u8 0] 0 [] [.int .u8 (m.kind : Int)] [.string ⟨m.src.toArray⟩, .string ⟨m.dst.toArray⟩, .string ⟨m.fr.toArray⟩, .int .u64 (m.seq : Int), .slice bE m.all.length dE, .int .u64 (m.id : Int), .int .i64 m.i, .int .i64 m.n, .string ⟨m.tx.toArray⟩] rfl rfl hx2.out { m with kind := 0 } bE dE rfl (fun K => lE.out.below K)
  clear hb st hx hsz
  obtain ⟨hb, st⟩ := hcut
  replace st := Lib.hid st
  go_upto_region 13 with fail
  go_cut [78] (fun q wx => q = .bool false ∧ Below w.heap.size w wx ∧ St wx w.heap.size m x a c a' c' [(vE.heap.size, { m with kind := 0 }), (vD.heap.size, { m with seq := x.seq }), (vC.heap.size, { m with all := x.all }), (vB.heap.size, { m with fr := x.fr }), (vA.heap.size, { m with id := x.id, i := x.i, n := x.n, tx := x.tx })])
  case first =>
    by_cases h1 : m.kind = 1
    · skip
      have e1 : ((m.kind : Int) == 1) = true := by rw [beq_iff_eq]; omega
      have n1 : ((m.kind : Int) != 1) = false := by rw [bne, e1]; rfl
      have H1 := Lib.hid h1
      clear h1
      by_cases h3 : m.kind ≤ 2
      · skip
        have e3 : decide ((m.kind : Int) ≤ 2) = true := decide_eq_true (by omega)
        have H3 := Lib.hid h3
        clear h3
        cases e4 : (x.fr == [])
        · skip
          have x0 := st.out.bm 0 (.int .u8 (m.kind : Int)) rfl
          have y0 := st.out.bx 0 (.int .u8 (x.kind : Int)) rfl
          have y3 := st.out.bx 3 (.string ⟨x.fr.toArray⟩) rfl
          have n4 : (x.fr != []) = true := by rw [bne, e4]; rfl
          have H4 : Hid (x.fr ≠ []) := Lib.hid (by intro h; rw [h] at e4; cases e4)
          obtain ⟨aB, cB, hB, lB⟩ := st.out.get vB.heap.size { m with fr := x.fr } (List.mem_cons_of_mem _ (List.mem_cons_of_mem _ (List.mem_cons_of_mem _ (List.mem_cons_self ..))))
          replace lB := Lib.hid lB
          have q0 : World.cell? _ ⟨vB.heap.size, 0, none⟩ = some (.int .u8 (m.kind : Int)) := (Lib.cell_of_heap hB 0).trans rfl
          have q1 : World.cell? _ ⟨vB.heap.size, 1, none⟩ = some (.string ⟨m.src.toArray⟩) := (Lib.cell_of_heap hB 1).trans rfl
          have q2 : World.cell? _ ⟨vB.heap.size, 2, none⟩ = some (.string ⟨m.dst.toArray⟩) := (Lib.cell_of_heap hB 2).trans rfl
          have q3 : World.cell? _ ⟨vB.heap.size, 3, none⟩ = some (.string ⟨x.fr.toArray⟩) := (Lib.cell_of_heap hB 3).trans rfl
          have q4 : World.cell? _ ⟨vB.heap.size, 4, none⟩ = some (.int .u64 (m.seq : Int)) := (Lib.cell_of_heap hB 4).trans rfl
          have q5 : World.cell? _ ⟨vB.heap.size, 5, none⟩ = some (.slice aB m.all.length cB) := (Lib.cell_of_heap hB 5).trans rfl
          have q6 : World.cell? _ ⟨vB.heap.size, 6, none⟩ = some (.int .u64 (m.id : Int)) := (Lib.cell_of_heap hB 6).trans rfl
          have q7 : World.cell? _ ⟨vB.heap.size, 7, none⟩ = some (.int .i64 m.i) := (Lib.cell_of_heap hB 7).trans rfl
          have q8 : World.cell? _ ⟨vB.heap.size, 8, none⟩ = some (.int .i64 m.n) := (Lib.cell_of_heap hB 8).trans rfl
          have q9 : World.cell? _ ⟨vB.heap.size, 9, none⟩ = some (.string ⟨m.tx.toArray⟩) := (Lib.cell_of_heap hB 9).trans rfl
          clear hB
          go_wp2_with fail
          refine (may_eq (m := { m with fr := x.fr }) false (kind_fr v3.out H3.out H4.out) (mod_fr MM.out MX.out v1.out v2.out) _ lB.out).mono ?_
          rintro e v29 ⟨rfl, k29⟩
          replace st := Lib.hid ((st.out).below k29)
          replace x0 := (Msg.keepC x0 k29)
          replace y0 := (Msg.keepC y0 k29)
          replace y3 := (Msg.keepC y3 k29)
          replace lB := Lib.hid ((lB.out).below k29)
          replace q0 := (Msg.keepC q0 k29)
          replace q1 := (Msg.keepC q1 k29)
          replace q2 := (Msg.keepC q2 k29)
          replace q3 := (Msg.keepC q3 k29)
          replace q4 := (Msg.keepC q4 k29)
          replace q5 := (Msg.keepC q5 k29)
          replace q6 := (Msg.keepC q6 k29)
          replace q7 := (Msg.keepC q7 k29)
          replace q8 := (Msg.keepC q8 k29)
          replace q9 := (Msg.keepC q9 k29)
          replace hb := bstep hb k29
          clear k29
          clear q0 q1 q2 q3 q4 q5 q6 q7 q8 q9 lB
          go_wp2_with fail
          go_meet
          exact ⟨rfl, hb, st.out⟩
        · skip
          have x0 := st.out.bm 0 (.int .u8 (m.kind : Int)) rfl
          have y0 := st.out.bx 0 (.int .u8 (x.kind : Int)) rfl
          have y3 := st.out.bx 3 (.string ⟨x.fr.toArray⟩) rfl
          have n4 : (x.fr != []) = false := by rw [bne, e4]; rfl
          go_wp2_with fail
          go_meet
          exact ⟨rfl, hb, st.out⟩
      · skip
        have e3 : decide ((m.kind : Int) ≤ 2) = false := decide_eq_false (by omega)
        have H3 := Lib.hid h3
        clear h3
        have x0 := st.out.bm 0 (.int .u8 (m.kind : Int)) rfl
        have y0 := st.out.bx 0 (.int .u8 (x.kind : Int)) rfl
        have y3 := st.out.bx 3 (.string ⟨x.fr.toArray⟩) rfl
        go_wp2_with fail
        go_meet
        exact ⟨rfl, hb, st.out⟩
    · skip
      have e1 : ((m.kind : Int) == 1) = false := by rw [beq_eq_false_iff_ne]; omega
      have n1 : ((m.kind : Int) != 1) = true := by rw [bne, e1]; rfl
      have H1 := Lib.hid h1
      clear h1
      by_cases h2 : x.kind = 1
      · skip
        have e2 : ((x.kind : Int) == 1) = true := by rw [beq_iff_eq]; omega
        have H2 := Lib.hid h2
        clear h2
        by_cases h3 : m.kind ≤ 2
        · skip
          have e3 : decide ((m.kind : Int) ≤ 2) = true := decide_eq_true (by omega)
          have H3 := Lib.hid h3
          clear h3
          cases e4 : (x.fr == [])
          · skip
            have x0 := st.out.bm 0 (.int .u8 (m.kind : Int)) rfl
            have y0 := st.out.bx 0 (.int .u8 (x.kind : Int)) rfl
            have y3 := st.out.bx 3 (.string ⟨x.fr.toArray⟩) rfl
            have n4 : (x.fr != []) = true := by rw [bne, e4]; rfl
            obtain ⟨aA, cA, hA, lA⟩ := st.out.get vA.heap.size { m with id := x.id, i := x.i, n := x.n, tx := x.tx } (List.mem_cons_of_mem _ (List.mem_cons_of_mem _ (List.mem_cons_of_mem _ (List.mem_cons_of_mem _ (List.mem_cons_self ..)))))
            replace lA := Lib.hid lA
            have q0 : World.cell? _ ⟨vA.heap.size, 0, none⟩ = some (.int .u8 (m.kind : Int)) := (Lib.cell_of_heap hA 0).trans rfl
            have q1 : World.cell? _ ⟨vA.heap.size, 1, none⟩ = some (.string ⟨m.src.toArray⟩) := (Lib.cell_of_heap hA 1).trans rfl
            have q2 : World.cell? _ ⟨vA.heap.size, 2, none⟩ = some (.string ⟨m.dst.toArray⟩) := (Lib.cell_of_heap hA 2).trans rfl
            have q3 : World.cell? _ ⟨vA.heap.size, 3, none⟩ = some (.string ⟨m.fr.toArray⟩) := (Lib.cell_of_heap hA 3).trans rfl
            have q4 : World.cell? _ ⟨vA.heap.size, 4, none⟩ = some (.int .u64 (m.seq : Int)) := (Lib.cell_of_heap hA 4).trans rfl
            have q5 : World.cell? _ ⟨vA.heap.size, 5, none⟩ = some (.slice aA m.all.length cA) := (Lib.cell_of_heap hA 5).trans rfl
            have q6 : World.cell? _ ⟨vA.heap.size, 6, none⟩ = some (.int .u64 (x.id : Int)) := (Lib.cell_of_heap hA 6).trans rfl
            have q7 : World.cell? _ ⟨vA.heap.size, 7, none⟩ = some (.int .i64 x.i) := (Lib.cell_of_heap hA 7).trans rfl
            have q8 : World.cell? _ ⟨vA.heap.size, 8, none⟩ = some (.int .i64 x.n) := (Lib.cell_of_heap hA 8).trans rfl
            have q9 : World.cell? _ ⟨vA.heap.size, 9, none⟩ = some (.string ⟨x.tx.toArray⟩) := (Lib.cell_of_heap hA 9).trans rfl
            clear hA
            go_wp2_with fail
            refine (may_eq (m := { m with id := x.id, i := x.i, n := x.n, tx := x.tx }) false (kind_part v4.out H1.out H2.out) (mod_part MM.out MX.out v1.out v2.out) _ lA.out).mono ?_
            rintro e v30 ⟨rfl, k30⟩
            replace st := Lib.hid ((st.out).below k30)
            replace x0 := (Msg.keepC x0 k30)
            replace y0 := (Msg.keepC y0 k30)
            replace y3 := (Msg.keepC y3 k30)
            replace lA := Lib.hid ((lA.out).below k30)
            replace q0 := (Msg.keepC q0 k30)
            replace q1 := (Msg.keepC q1 k30)
            replace q2 := (Msg.keepC q2 k30)
            replace q3 := (Msg.keepC q3 k30)
            replace q4 := (Msg.keepC q4 k30)
            replace q5 := (Msg.keepC q5 k30)
            replace q6 := (Msg.keepC q6 k30)
            replace q7 := (Msg.keepC q7 k30)
            replace q8 := (Msg.keepC q8 k30)
            replace q9 := (Msg.keepC q9 k30)
            replace hb := bstep hb k30
            clear k30
            clear q0 q1 q2 q3 q4 q5 q6 q7 q8 q9 lA
            have H4 : Hid (x.fr ≠ []) := Lib.hid (by intro h; rw [h] at e4; cases e4)
            obtain ⟨aB, cB, hB, lB⟩ := st.out.get vB.heap.size { m with fr := x.fr } (List.mem_cons_of_mem _ (List.mem_cons_of_mem _ (List.mem_cons_of_mem _ (List.mem_cons_self ..))))
            replace lB := Lib.hid lB
            have q0 : World.cell? _ ⟨vB.heap.size, 0, none⟩ = some (.int .u8 (m.kind : Int)) := (Lib.cell_of_heap hB 0).trans rfl
            have q1 : World.cell? _ ⟨vB.heap.size, 1, none⟩ = some (.string ⟨m.src.toArray⟩) := (Lib.cell_of_heap hB 1).trans rfl
            have q2 : World.cell? _ ⟨vB.heap.size, 2, none⟩ = some (.string ⟨m.dst.toArray⟩) := (Lib.cell_of_heap hB 2).trans rfl
            have q3 : World.cell? _ ⟨vB.heap.size, 3, none⟩ = some (.string ⟨x.fr.toArray⟩) := (Lib.cell_of_heap hB 3).trans rfl
            have q4 : World.cell? _ ⟨vB.heap.size, 4, none⟩ = some (.int .u64 (m.seq : Int)) := (Lib.cell_of_heap hB 4).trans rfl
            have q5 : World.cell? _ ⟨vB.heap.size, 5, none⟩ = some (.slice aB m.all.length cB) := (Lib.cell_of_heap hB 5).trans rfl
            have q6 : World.cell? _ ⟨vB.heap.size, 6, none⟩ = some (.int .u64 (m.id : Int)) := (Lib.cell_of_heap hB 6).trans rfl
            have q7 : World.cell? _ ⟨vB.heap.size, 7, none⟩ = some (.int .i64 m.i) := (Lib.cell_of_heap hB 7).trans rfl
            have q8 : World.cell? _ ⟨vB.heap.size, 8, none⟩ = some (.int .i64 m.n) := (Lib.cell_of_heap hB 8).trans rfl
            have q9 : World.cell? _ ⟨vB.heap.size, 9, none⟩ = some (.string ⟨m.tx.toArray⟩) := (Lib.cell_of_heap hB 9).trans rfl
            clear hB
            go_wp2_with fail
            refine (may_eq (m := { m with fr := x.fr }) false (kind_fr v3.out H3.out H4.out) (mod_fr MM.out MX.out v1.out v2.out) _ lB.out).mono ?_
            rintro e v31 ⟨rfl, k31⟩
            replace st := Lib.hid ((st.out).below k31)
            replace x0 := (Msg.keepC x0 k31)
            replace y0 := (Msg.keepC y0 k31)
            replace y3 := (Msg.keepC y3 k31)
            replace lB := Lib.hid ((lB.out).below k31)
            replace q0 := (Msg.keepC q0 k31)
            replace q1 := (Msg.keepC q1 k31)
            replace q2 := (Msg.keepC q2 k31)
            replace q3 := (Msg.keepC q3 k31)
            replace q4 := (Msg.keepC q4 k31)
            replace q5 := (Msg.keepC q5 k31)
            replace q6 := (Msg.keepC q6 k31)
            replace q7 := (Msg.keepC q7 k31)
            replace q8 := (Msg.keepC q8 k31)
            replace q9 := (Msg.keepC q9 k31)
            replace hb := bstep hb k31
            clear k31
            clear q0 q1 q2 q3 q4 q5 q6 q7 q8 q9 lB
            go_wp2_with fail
            go_meet
            exact ⟨rfl, hb, st.out⟩
          · skip
            have x0 := st.out.bm 0 (.int .u8 (m.kind : Int)) rfl
            have y0 := st.out.bx 0 (.int .u8 (x.kind : Int)) rfl
            have y3 := st.out.bx 3 (.string ⟨x.fr.toArray⟩) rfl
            have n4 : (x.fr != []) = false := by rw [bne, e4]; rfl
            obtain ⟨aA, cA, hA, lA⟩ := st.out.get vA.heap.size { m with id := x.id, i := x.i, n := x.n, tx := x.tx } (List.mem_cons_of_mem _ (List.mem_cons_of_mem _ (List.mem_cons_of_mem _ (List.mem_cons_of_mem _ (List.mem_cons_self ..)))))
            replace lA := Lib.hid lA
            have q0 : World.cell? _ ⟨vA.heap.size, 0, none⟩ = some (.int .u8 (m.kind : Int)) := (Lib.cell_of_heap hA 0).trans rfl
            have q1 : World.cell? _ ⟨vA.heap.size, 1, none⟩ = some (.string ⟨m.src.toArray⟩) := (Lib.cell_of_heap hA 1).trans rfl
            have q2 : World.cell? _ ⟨vA.heap.size, 2, none⟩ = some (.string ⟨m.dst.toArray⟩) := (Lib.cell_of_heap hA 2).trans rfl
            have q3 : World.cell? _ ⟨vA.heap.size, 3, none⟩ = some (.string ⟨m.fr.toArray⟩) := (Lib.cell_of_heap hA 3).trans rfl
            have q4 : World.cell? _ ⟨vA.heap.size, 4, none⟩ = some (.int .u64 (m.seq : Int)) := (Lib.cell_of_heap hA 4).trans rfl
            have q5 : World.cell? _ ⟨vA.heap.size, 5, none⟩ = some (.slice aA m.all.length cA) := (Lib.cell_of_heap hA 5).trans rfl
            have q6 : World.cell? _ ⟨vA.heap.size, 6, none⟩ = some (.int .u64 (x.id : Int)) := (Lib.cell_of_heap hA 6).trans rfl
            have q7 : World.cell? _ ⟨vA.heap.size, 7, none⟩ = some (.int .i64 x.i) := (Lib.cell_of_heap hA 7).trans rfl
            have q8 : World.cell? _ ⟨vA.heap.size, 8, none⟩ = some (.int .i64 x.n) := (Lib.cell_of_heap hA 8).trans rfl
            have q9 : World.cell? _ ⟨vA.heap.size, 9, none⟩ = some (.string ⟨x.tx.toArray⟩) := (Lib.cell_of_heap hA 9).trans rfl
            clear hA
            go_wp2_with fail
            refine (may_eq (m := { m with id := x.id, i := x.i, n := x.n, tx := x.tx }) false (kind_part v4.out H1.out H2.out) (mod_part MM.out MX.out v1.out v2.out) _ lA.out).mono ?_
            rintro e v32 ⟨rfl, k32⟩
            replace st := Lib.hid ((st.out).below k32)
            replace x0 := (Msg.keepC x0 k32)
            replace y0 := (Msg.keepC y0 k32)
            replace y3 := (Msg.keepC y3 k32)
            replace lA := Lib.hid ((lA.out).below k32)
            replace q0 := (Msg.keepC q0 k32)
            replace q1 := (Msg.keepC q1 k32)
            replace q2 := (Msg.keepC q2 k32)
            replace q3 := (Msg.keepC q3 k32)
            replace q4 := (Msg.keepC q4 k32)
            replace q5 := (Msg.keepC q5 k32)
            replace q6 := (Msg.keepC q6 k32)
            replace q7 := (Msg.keepC q7 k32)
            replace q8 := (Msg.keepC q8 k32)
            replace q9 := (Msg.keepC q9 k32)
            replace hb := bstep hb k32
            clear k32
            clear q0 q1 q2 q3 q4 q5 q6 q7 q8 q9 lA
            go_wp2_with fail
            go_meet
            exact ⟨rfl, hb, st.out⟩
        · skip
          have e3 : decide ((m.kind : Int) ≤ 2) = false := decide_eq_false (by omega)
          have H3 := Lib.hid h3
          clear h3
          have x0 := st.out.bm 0 (.int .u8 (m.kind : Int)) rfl
          have y0 := st.out.bx 0 (.int .u8 (x.kind : Int)) rfl
          have y3 := st.out.bx 3 (.string ⟨x.fr.toArray⟩) rfl
          obtain ⟨aA, cA, hA, lA⟩ := st.out.get vA.heap.size { m with id := x.id, i := x.i, n := x.n, tx := x.tx } (List.mem_cons_of_mem _ (List.mem_cons_of_mem _ (List.mem_cons_of_mem _ (List.mem_cons_of_mem _ (List.mem_cons_self ..)))))
          replace lA := Lib.hid lA
          have q0 : World.cell? _ ⟨vA.heap.size, 0, none⟩ = some (.int .u8 (m.kind : Int)) := (Lib.cell_of_heap hA 0).trans rfl
          have q1 : World.cell? _ ⟨vA.heap.size, 1, none⟩ = some (.string ⟨m.src.toArray⟩) := (Lib.cell_of_heap hA 1).trans rfl
          have q2 : World.cell? _ ⟨vA.heap.size, 2, none⟩ = some (.string ⟨m.dst.toArray⟩) := (Lib.cell_of_heap hA 2).trans rfl
          have q3 : World.cell? _ ⟨vA.heap.size, 3, none⟩ = some (.string ⟨m.fr.toArray⟩) := (Lib.cell_of_heap hA 3).trans rfl
          have q4 : World.cell? _ ⟨vA.heap.size, 4, none⟩ = some (.int .u64 (m.seq : Int)) := (Lib.cell_of_heap hA 4).trans rfl
          have q5 : World.cell? _ ⟨vA.heap.size, 5, none⟩ = some (.slice aA m.all.length cA) := (Lib.cell_of_heap hA 5).trans rfl
          have q6 : World.cell? _ ⟨vA.heap.size, 6, none⟩ = some (.int .u64 (x.id : Int)) := (Lib.cell_of_heap hA 6).trans rfl
          have q7 : World.cell? _ ⟨vA.heap.size, 7, none⟩ = some (.int .i64 x.i) := (Lib.cell_of_heap hA 7).trans rfl
          have q8 : World.cell? _ ⟨vA.heap.size, 8, none⟩ = some (.int .i64 x.n) := (Lib.cell_of_heap hA 8).trans rfl
          have q9 : World.cell? _ ⟨vA.heap.size, 9, none⟩ = some (.string ⟨x.tx.toArray⟩) := (Lib.cell_of_heap hA 9).trans rfl
          clear hA
          go_wp2_with fail
          refine (may_eq (m := { m with id := x.id, i := x.i, n := x.n, tx := x.tx }) false (kind_part v4.out H1.out H2.out) (mod_part MM.out MX.out v1.out v2.out) _ lA.out).mono ?_
          rintro e v33 ⟨rfl, k33⟩
          replace st := Lib.hid ((st.out).below k33)
          replace x0 := (Msg.keepC x0 k33)
          replace y0 := (Msg.keepC y0 k33)
          replace y3 := (Msg.keepC y3 k33)
          replace lA := Lib.hid ((lA.out).below k33)
          replace q0 := (Msg.keepC q0 k33)
          replace q1 := (Msg.keepC q1 k33)
          replace q2 := (Msg.keepC q2 k33)
          replace q3 := (Msg.keepC q3 k33)
          replace q4 := (Msg.keepC q4 k33)
          replace q5 := (Msg.keepC q5 k33)
          replace q6 := (Msg.keepC q6 k33)
          replace q7 := (Msg.keepC q7 k33)
          replace q8 := (Msg.keepC q8 k33)
          replace q9 := (Msg.keepC q9 k33)
          replace hb := bstep hb k33
          clear k33
          clear q0 q1 q2 q3 q4 q5 q6 q7 q8 q9 lA
          go_wp2_with fail
          go_meet
          exact ⟨rfl, hb, st.out⟩
      · skip
        have e2 : ((x.kind : Int) == 1) = false := by rw [beq_eq_false_iff_ne]; omega
        have H2 := Lib.hid h2
        clear h2
        by_cases h3 : m.kind ≤ 2
        · skip
          have e3 : decide ((m.kind : Int) ≤ 2) = true := decide_eq_true (by omega)
          have H3 := Lib.hid h3
          clear h3
          cases e4 : (x.fr == [])
          · skip
            have x0 := st.out.bm 0 (.int .u8 (m.kind : Int)) rfl
            have y0 := st.out.bx 0 (.int .u8 (x.kind : Int)) rfl
            have y3 := st.out.bx 3 (.string ⟨x.fr.toArray⟩) rfl
            have n4 : (x.fr != []) = true := by rw [bne, e4]; rfl
            have H4 : Hid (x.fr ≠ []) := Lib.hid (by intro h; rw [h] at e4; cases e4)
            obtain ⟨aB, cB, hB, lB⟩ := st.out.get vB.heap.size { m with fr := x.fr } (List.mem_cons_of_mem _ (List.mem_cons_of_mem _ (List.mem_cons_of_mem _ (List.mem_cons_self ..))))
            replace lB := Lib.hid lB
            have q0 : World.cell? _ ⟨vB.heap.size, 0, none⟩ = some (.int .u8 (m.kind : Int)) := (Lib.cell_of_heap hB 0).trans rfl
            have q1 : World.cell? _ ⟨vB.heap.size, 1, none⟩ = some (.string ⟨m.src.toArray⟩) := (Lib.cell_of_heap hB 1).trans rfl
            have q2 : World.cell? _ ⟨vB.heap.size, 2, none⟩ = some (.string ⟨m.dst.toArray⟩) := (Lib.cell_of_heap hB 2).trans rfl
            have q3 : World.cell? _ ⟨vB.heap.size, 3, none⟩ = some (.string ⟨x.fr.toArray⟩) := (Lib.cell_of_heap hB 3).trans rfl
            have q4 : World.cell? _ ⟨vB.heap.size, 4, none⟩ = some (.int .u64 (m.seq : Int)) := (Lib.cell_of_heap hB 4).trans rfl
            have q5 : World.cell? _ ⟨vB.heap.size, 5, none⟩ = some (.slice aB m.all.length cB) := (Lib.cell_of_heap hB 5).trans rfl
            have q6 : World.cell? _ ⟨vB.heap.size, 6, none⟩ = some (.int .u64 (m.id : Int)) := (Lib.cell_of_heap hB 6).trans rfl
            have q7 : World.cell? _ ⟨vB.heap.size, 7, none⟩ = some (.int .i64 m.i) := (Lib.cell_of_heap hB 7).trans rfl
            have q8 : World.cell? _ ⟨vB.heap.size, 8, none⟩ = some (.int .i64 m.n) := (Lib.cell_of_heap hB 8).trans rfl
            have q9 : World.cell? _ ⟨vB.heap.size, 9, none⟩ = some (.string ⟨m.tx.toArray⟩) := (Lib.cell_of_heap hB 9).trans rfl
            clear hB
            go_wp2_with fail
            refine (may_eq (m := { m with fr := x.fr }) false (kind_fr v3.out H3.out H4.out) (mod_fr MM.out MX.out v1.out v2.out) _ lB.out).mono ?_
            rintro e v34 ⟨rfl, k34⟩
            replace st := Lib.hid ((st.out).below k34)
            replace x0 := (Msg.keepC x0 k34)
            replace y0 := (Msg.keepC y0 k34)
            replace y3 := (Msg.keepC y3 k34)
            replace lB := Lib.hid ((lB.out).below k34)
            replace q0 := (Msg.keepC q0 k34)
            replace q1 := (Msg.keepC q1 k34)
            replace q2 := (Msg.keepC q2 k34)
            replace q3 := (Msg.keepC q3 k34)
            replace q4 := (Msg.keepC q4 k34)
            replace q5 := (Msg.keepC q5 k34)
            replace q6 := (Msg.keepC q6 k34)
            replace q7 := (Msg.keepC q7 k34)
            replace q8 := (Msg.keepC q8 k34)
            replace q9 := (Msg.keepC q9 k34)
            replace hb := bstep hb k34
            clear k34
            clear q0 q1 q2 q3 q4 q5 q6 q7 q8 q9 lB
            go_wp2_with fail
            go_meet
            exact ⟨rfl, hb, st.out⟩
          · skip
            have x0 := st.out.bm 0 (.int .u8 (m.kind : Int)) rfl
            have y0 := st.out.bx 0 (.int .u8 (x.kind : Int)) rfl
            have y3 := st.out.bx 3 (.string ⟨x.fr.toArray⟩) rfl
            have n4 : (x.fr != []) = false := by rw [bne, e4]; rfl
            go_wp2_with fail
            go_meet
            exact ⟨rfl, hb, st.out⟩
        · skip
          have e3 : decide ((m.kind : Int) ≤ 2) = false := decide_eq_false (by omega)
          have H3 := Lib.hid h3
          clear h3
          have x0 := st.out.bm 0 (.int .u8 (m.kind : Int)) rfl
          have y0 := st.out.bx 0 (.int .u8 (x.kind : Int)) rfl
          have y3 := st.out.bx 3 (.string ⟨x.fr.toArray⟩) rfl
          go_wp2_with fail
          go_meet
          exact ⟨rfl, hb, st.out⟩
  clear hb st
  obtain ⟨rfl, hb, st⟩ := hcut
  replace st := Lib.hid st
  go_upto_region 15 with fail
  go_cut [110] (fun q wx => q = .bool false ∧ Below w.heap.size w wx ∧ St wx w.heap.size m x a c a' c' [(vE.heap.size, { m with kind := 0 }), (vD.heap.size, { m with seq := x.seq }), (vC.heap.size, { m with all := x.all }), (vB.heap.size, { m with fr := x.fr }), (vA.heap.size, { m with id := x.id, i := x.i, n := x.n, tx := x.tx })])
  case first =>
    by_cases h : m.kind = 1
    · skip
      have e1 : ((m.kind : Int) == 1) = true := by rw [beq_iff_eq]; omega
      have e2 : ((m.kind : Int) == 2) = false := by rw [beq_eq_false_iff_ne]; omega
      have e3 : ((m.kind : Int) == 3) = false := by rw [beq_eq_false_iff_ne]; omega
      have H := Lib.hid h
      clear h
      by_cases ha : 0 < x.seq
      · skip
        have d1 : decide ((0 : Int) < (x.seq : Int)) = true := decide_eq_true (by omega)
        have d2 : decide ((x.seq : Int) > 0) = true := decide_eq_true (by omega)
        have d3 : decide (0 < x.seq) = true := decide_eq_true (by omega)
        have HA := Lib.hid ha
        clear ha
        have x0 := st.out.bm 0 (.int .u8 (m.kind : Int)) rfl
        have y4 := st.out.bx 4 (.int .u64 (x.seq : Int)) rfl
        have y5 := st.out.bx 5 (.slice a' x.all.length c') rfl
        obtain ⟨aD, cD, hD, lD⟩ := st.out.get vD.heap.size { m with seq := x.seq } (List.mem_cons_of_mem _ (List.mem_cons_self ..))
        replace lD := Lib.hid lD
        have q0 : World.cell? _ ⟨vD.heap.size, 0, none⟩ = some (.int .u8 (m.kind : Int)) := (Lib.cell_of_heap hD 0).trans rfl
        have q1 : World.cell? _ ⟨vD.heap.size, 1, none⟩ = some (.string ⟨m.src.toArray⟩) := (Lib.cell_of_heap hD 1).trans rfl
        have q2 : World.cell? _ ⟨vD.heap.size, 2, none⟩ = some (.string ⟨m.dst.toArray⟩) := (Lib.cell_of_heap hD 2).trans rfl
        have q3 : World.cell? _ ⟨vD.heap.size, 3, none⟩ = some (.string ⟨m.fr.toArray⟩) := (Lib.cell_of_heap hD 3).trans rfl
        have q4 : World.cell? _ ⟨vD.heap.size, 4, none⟩ = some (.int .u64 (x.seq : Int)) := (Lib.cell_of_heap hD 4).trans rfl
        have q5 : World.cell? _ ⟨vD.heap.size, 5, none⟩ = some (.slice aD m.all.length cD) := (Lib.cell_of_heap hD 5).trans rfl
        have q6 : World.cell? _ ⟨vD.heap.size, 6, none⟩ = some (.int .u64 (m.id : Int)) := (Lib.cell_of_heap hD 6).trans rfl
        have q7 : World.cell? _ ⟨vD.heap.size, 7, none⟩ = some (.int .i64 m.i) := (Lib.cell_of_heap hD 7).trans rfl
        have q8 : World.cell? _ ⟨vD.heap.size, 8, none⟩ = some (.int .i64 m.n) := (Lib.cell_of_heap hD 8).trans rfl
        have q9 : World.cell? _ ⟨vD.heap.size, 9, none⟩ = some (.string ⟨m.tx.toArray⟩) := (Lib.cell_of_heap hD 9).trans rfl
        clear hD
        go_wp2_with fail
        refine (may_eq (m := { m with seq := x.seq }) false (kind_seq H.out HA.out) (mod_seq MM.out MX.out) _ lD.out).mono ?_
        rintro e v35 ⟨rfl, k35⟩
        replace st := Lib.hid ((st.out).below k35)
        replace x0 := (Msg.keepC x0 k35)
        replace y4 := (Msg.keepC y4 k35)
        replace y5 := (Msg.keepC y5 k35)
        replace lD := Lib.hid ((lD.out).below k35)
        replace q0 := (Msg.keepC q0 k35)
        replace q1 := (Msg.keepC q1 k35)
        replace q2 := (Msg.keepC q2 k35)
        replace q3 := (Msg.keepC q3 k35)
        replace q4 := (Msg.keepC q4 k35)
        replace q5 := (Msg.keepC q5 k35)
        replace q6 := (Msg.keepC q6 k35)
        replace q7 := (Msg.keepC q7 k35)
        replace q8 := (Msg.keepC q8 k35)
        replace q9 := (Msg.keepC q9 k35)
        replace hb := bstep hb k35
        clear k35
        clear q0 q1 q2 q3 q4 q5 q6 q7 q8 q9 lD
        go_wp2_with fail
        go_meet
        exact ⟨rfl, hb, st.out⟩
      · skip
        have d1 : decide ((0 : Int) < (x.seq : Int)) = false := decide_eq_false (by omega)
        have d2 : decide ((x.seq : Int) > 0) = false := decide_eq_false (by omega)
        have d3 : decide (0 < x.seq) = false := decide_eq_false (by omega)
        have HA := Lib.hid ha
        clear ha
        have x0 := st.out.bm 0 (.int .u8 (m.kind : Int)) rfl
        have y4 := st.out.bx 4 (.int .u64 (x.seq : Int)) rfl
        have y5 := st.out.bx 5 (.slice a' x.all.length c') rfl
        go_wp2_with fail
        go_meet
        exact ⟨rfl, hb, st.out⟩
    have N1 := h
    clear h
    by_cases h : m.kind = 2
    · skip
      clear N1
      have e1 : ((m.kind : Int) == 1) = false := by rw [beq_eq_false_iff_ne]; omega
      have e2 : ((m.kind : Int) == 2) = true := by rw [beq_iff_eq]; omega
      have e3 : ((m.kind : Int) == 3) = false := by rw [beq_eq_false_iff_ne]; omega
      have H := Lib.hid h
      clear h
      by_cases ha : 0 < x.all.length
      · skip
        have d1 : decide ((0 : Int) < (x.all.length : Int)) = true := decide_eq_true (by omega)
        have d2 : decide ((x.all.length : Int) > 0) = true := decide_eq_true (by omega)
        have d3 : decide (0 < x.all.length) = true := decide_eq_true (by omega)
        have HA := Lib.hid ha
        clear ha
        have x0 := st.out.bm 0 (.int .u8 (m.kind : Int)) rfl
        have y4 := st.out.bx 4 (.int .u64 (x.seq : Int)) rfl
        have y5 := st.out.bx 5 (.slice a' x.all.length c') rfl
        obtain ⟨aC, cC, hC, lC⟩ := st.out.get vC.heap.size { m with all := x.all } (List.mem_cons_of_mem _ (List.mem_cons_of_mem _ (List.mem_cons_self ..)))
        replace lC := Lib.hid lC
        have q0 : World.cell? _ ⟨vC.heap.size, 0, none⟩ = some (.int .u8 (m.kind : Int)) := (Lib.cell_of_heap hC 0).trans rfl
        have q1 : World.cell? _ ⟨vC.heap.size, 1, none⟩ = some (.string ⟨m.src.toArray⟩) := (Lib.cell_of_heap hC 1).trans rfl
        have q2 : World.cell? _ ⟨vC.heap.size, 2, none⟩ = some (.string ⟨m.dst.toArray⟩) := (Lib.cell_of_heap hC 2).trans rfl
        have q3 : World.cell? _ ⟨vC.heap.size, 3, none⟩ = some (.string ⟨m.fr.toArray⟩) := (Lib.cell_of_heap hC 3).trans rfl
        have q4 : World.cell? _ ⟨vC.heap.size, 4, none⟩ = some (.int .u64 (m.seq : Int)) := (Lib.cell_of_heap hC 4).trans rfl
        have q5 : World.cell? _ ⟨vC.heap.size, 5, none⟩ = some (.slice aC x.all.length cC) := (Lib.cell_of_heap hC 5).trans rfl
        have q6 : World.cell? _ ⟨vC.heap.size, 6, none⟩ = some (.int .u64 (m.id : Int)) := (Lib.cell_of_heap hC 6).trans rfl
        have q7 : World.cell? _ ⟨vC.heap.size, 7, none⟩ = some (.int .i64 m.i) := (Lib.cell_of_heap hC 7).trans rfl
        have q8 : World.cell? _ ⟨vC.heap.size, 8, none⟩ = some (.int .i64 m.n) := (Lib.cell_of_heap hC 8).trans rfl
        have q9 : World.cell? _ ⟨vC.heap.size, 9, none⟩ = some (.string ⟨m.tx.toArray⟩) := (Lib.cell_of_heap hC 9).trans rfl
        clear hC
        go_wp2_with fail
        refine (may_eq (m := { m with all := x.all }) false (kind_all (Or.inl H.out) HA.out) (mod_all MM.out MX.out) _ lC.out).mono ?_
        rintro e v36 ⟨rfl, k36⟩
        replace st := Lib.hid ((st.out).below k36)
        replace x0 := (Msg.keepC x0 k36)
        replace y4 := (Msg.keepC y4 k36)
        replace y5 := (Msg.keepC y5 k36)
        replace lC := Lib.hid ((lC.out).below k36)
        replace q0 := (Msg.keepC q0 k36)
        replace q1 := (Msg.keepC q1 k36)
        replace q2 := (Msg.keepC q2 k36)
        replace q3 := (Msg.keepC q3 k36)
        replace q4 := (Msg.keepC q4 k36)
        replace q5 := (Msg.keepC q5 k36)
        replace q6 := (Msg.keepC q6 k36)
        replace q7 := (Msg.keepC q7 k36)
        replace q8 := (Msg.keepC q8 k36)
        replace q9 := (Msg.keepC q9 k36)
        replace hb := bstep hb k36
        clear k36
        clear q0 q1 q2 q3 q4 q5 q6 q7 q8 q9 lC
        go_wp2_with fail
        go_meet
        exact ⟨rfl, hb, st.out⟩
      · skip
        have d1 : decide ((0 : Int) < (x.all.length : Int)) = false := decide_eq_false (by omega)
        have d2 : decide ((x.all.length : Int) > 0) = false := decide_eq_false (by omega)
        have d3 : decide (0 < x.all.length) = false := decide_eq_false (by omega)
        have HA := Lib.hid ha
        clear ha
        have x0 := st.out.bm 0 (.int .u8 (m.kind : Int)) rfl
        have y4 := st.out.bx 4 (.int .u64 (x.seq : Int)) rfl
        have y5 := st.out.bx 5 (.slice a' x.all.length c') rfl
        go_wp2_with fail
        go_meet
        exact ⟨rfl, hb, st.out⟩
    have N2 := h
    clear h
    by_cases h : m.kind = 3
    · skip
      clear N1 N2
      have e1 : ((m.kind : Int) == 1) = false := by rw [beq_eq_false_iff_ne]; omega
      have e2 : ((m.kind : Int) == 2) = false := by rw [beq_eq_false_iff_ne]; omega
      have e3 : ((m.kind : Int) == 3) = true := by rw [beq_iff_eq]; omega
      have H := Lib.hid h
      clear h
      by_cases ha : 0 < x.all.length
      · skip
        have d1 : decide ((0 : Int) < (x.all.length : Int)) = true := decide_eq_true (by omega)
        have d2 : decide ((x.all.length : Int) > 0) = true := decide_eq_true (by omega)
        have d3 : decide (0 < x.all.length) = true := decide_eq_true (by omega)
        have HA := Lib.hid ha
        clear ha
        have x0 := st.out.bm 0 (.int .u8 (m.kind : Int)) rfl
        have y4 := st.out.bx 4 (.int .u64 (x.seq : Int)) rfl
        have y5 := st.out.bx 5 (.slice a' x.all.length c') rfl
        obtain ⟨aC, cC, hC, lC⟩ := st.out.get vC.heap.size { m with all := x.all } (List.mem_cons_of_mem _ (List.mem_cons_of_mem _ (List.mem_cons_self ..)))
        replace lC := Lib.hid lC
        have q0 : World.cell? _ ⟨vC.heap.size, 0, none⟩ = some (.int .u8 (m.kind : Int)) := (Lib.cell_of_heap hC 0).trans rfl
        have q1 : World.cell? _ ⟨vC.heap.size, 1, none⟩ = some (.string ⟨m.src.toArray⟩) := (Lib.cell_of_heap hC 1).trans rfl
        have q2 : World.cell? _ ⟨vC.heap.size, 2, none⟩ = some (.string ⟨m.dst.toArray⟩) := (Lib.cell_of_heap hC 2).trans rfl
        have q3 : World.cell? _ ⟨vC.heap.size, 3, none⟩ = some (.string ⟨m.fr.toArray⟩) := (Lib.cell_of_heap hC 3).trans rfl
        have q4 : World.cell? _ ⟨vC.heap.size, 4, none⟩ = some (.int .u64 (m.seq : Int)) := (Lib.cell_of_heap hC 4).trans rfl
        have q5 : World.cell? _ ⟨vC.heap.size, 5, none⟩ = some (.slice aC x.all.length cC) := (Lib.cell_of_heap hC 5).trans rfl
        have q6 : World.cell? _ ⟨vC.heap.size, 6, none⟩ = some (.int .u64 (m.id : Int)) := (Lib.cell_of_heap hC 6).trans rfl
        have q7 : World.cell? _ ⟨vC.heap.size, 7, none⟩ = some (.int .i64 m.i) := (Lib.cell_of_heap hC 7).trans rfl
        have q8 : World.cell? _ ⟨vC.heap.size, 8, none⟩ = some (.int .i64 m.n) := (Lib.cell_of_heap hC 8).trans rfl
        have q9 : World.cell? _ ⟨vC.heap.size, 9, none⟩ = some (.string ⟨m.tx.toArray⟩) := (Lib.cell_of_heap hC 9).trans rfl
        clear hC
        go_wp2_with fail
        refine (may_eq (m := { m with all := x.all }) false (kind_all (Or.inr H.out) HA.out) (mod_all MM.out MX.out) _ lC.out).mono ?_
        rintro e v37 ⟨rfl, k37⟩
        replace st := Lib.hid ((st.out).below k37)
        replace x0 := (Msg.keepC x0 k37)
        replace y4 := (Msg.keepC y4 k37)
        replace y5 := (Msg.keepC y5 k37)
        replace lC := Lib.hid ((lC.out).below k37)
        replace q0 := (Msg.keepC q0 k37)
        replace q1 := (Msg.keepC q1 k37)
        replace q2 := (Msg.keepC q2 k37)
        replace q3 := (Msg.keepC q3 k37)
        replace q4 := (Msg.keepC q4 k37)
        replace q5 := (Msg.keepC q5 k37)
        replace q6 := (Msg.keepC q6 k37)
        replace q7 := (Msg.keepC q7 k37)
        replace q8 := (Msg.keepC q8 k37)
        replace q9 := (Msg.keepC q9 k37)
        replace hb := bstep hb k37
        clear k37
        clear q0 q1 q2 q3 q4 q5 q6 q7 q8 q9 lC
        go_wp2_with fail
        go_meet
        exact ⟨rfl, hb, st.out⟩
      · skip
        have d1 : decide ((0 : Int) < (x.all.length : Int)) = false := decide_eq_false (by omega)
        have d2 : decide ((x.all.length : Int) > 0) = false := decide_eq_false (by omega)
        have d3 : decide (0 < x.all.length) = false := decide_eq_false (by omega)
        have HA := Lib.hid ha
        clear ha
        have x0 := st.out.bm 0 (.int .u8 (m.kind : Int)) rfl
        have y4 := st.out.bx 4 (.int .u64 (x.seq : Int)) rfl
        have y5 := st.out.bx 5 (.slice a' x.all.length c') rfl
        go_wp2_with fail
        go_meet
        exact ⟨rfl, hb, st.out⟩
    have N3 := h
    clear h
    skip
    have e1 : ((m.kind : Int) == 1) = false := by rw [beq_eq_false_iff_ne]; omega
    have e2 : ((m.kind : Int) == 2) = false := by rw [beq_eq_false_iff_ne]; omega
    have e3 : ((m.kind : Int) == 3) = false := by rw [beq_eq_false_iff_ne]; omega
    clear N1 N2 N3
    have x0 := st.out.bm 0 (.int .u8 (m.kind : Int)) rfl
    have y4 := st.out.bx 4 (.int .u64 (x.seq : Int)) rfl
    have y5 := st.out.bx 5 (.slice a' x.all.length c') rfl
    go_wp2_with fail
    go_meet
    exact ⟨rfl, hb, st.out⟩
  clear hb st
  obtain ⟨rfl, hb, st⟩ := hcut
  replace st := Lib.hid st
  obtain ⟨aE, cE, hE, lE⟩ := st.out.get vE.heap.size { m with kind := 0 } (List.mem_cons_self ..)
  replace lE := Lib.hid lE
  have q0 : World.cell? _ ⟨vE.heap.size, 0, none⟩ = some (.int .u8 0) := (Lib.cell_of_heap hE 0).trans rfl
  have q1 : World.cell? _ ⟨vE.heap.size, 1, none⟩ = some (.string ⟨m.src.toArray⟩) := (Lib.cell_of_heap hE 1).trans rfl
  have q2 : World.cell? _ ⟨vE.heap.size, 2, none⟩ = some (.string ⟨m.dst.toArray⟩) := (Lib.cell_of_heap hE 2).trans rfl
  have q3 : World.cell? _ ⟨vE.heap.size, 3, none⟩ = some (.string ⟨m.fr.toArray⟩) := (Lib.cell_of_heap hE 3).trans rfl
  have q4 : World.cell? _ ⟨vE.heap.size, 4, none⟩ = some (.int .u64 (m.seq : Int)) := (Lib.cell_of_heap hE 4).trans rfl
  have q5 : World.cell? _ ⟨vE.heap.size, 5, none⟩ = some (.slice aE m.all.length cE) := (Lib.cell_of_heap hE 5).trans rfl
  have q6 : World.cell? _ ⟨vE.heap.size, 6, none⟩ = some (.int .u64 (m.id : Int)) := (Lib.cell_of_heap hE 6).trans rfl
  have q7 : World.cell? _ ⟨vE.heap.size, 7, none⟩ = some (.int .i64 m.i) := (Lib.cell_of_heap hE 7).trans rfl
  have q8 : World.cell? _ ⟨vE.heap.size, 8, none⟩ = some (.int .i64 m.n) := (Lib.cell_of_heap hE 8).trans rfl
  have q9 : World.cell? _ ⟨vE.heap.size, 9, none⟩ = some (.string ⟨m.tx.toArray⟩) := (Lib.cell_of_heap hE 9).trans rfl
  clear hE
  go_wp2_with fail
  refine (may_eq (m := { m with kind := 0 }) false (kind_zero m) (mod_zero MM.out) _ lE.out).mono ?_
  rintro e v38 ⟨rfl, k38⟩
  replace st := Lib.hid ((st.out).below k38)
  replace lE := Lib.hid ((lE.out).below k38)
  replace q0 := (Msg.keepC q0 k38)
  replace q1 := (Msg.keepC q1 k38)
  replace q2 := (Msg.keepC q2 k38)
  replace q3 := (Msg.keepC q3 k38)
  replace q4 := (Msg.keepC q4 k38)
  replace q5 := (Msg.keepC q5 k38)
  replace q6 := (Msg.keepC q6 k38)
  replace q7 := (Msg.keepC q7 k38)
  replace q8 := (Msg.keepC q8 k38)
  replace q9 := (Msg.keepC q9 k38)
  replace hb := bstep hb k38
  clear k38
  clear q0 q1 q2 q3 q4 q5 q6 q7 q8 q9 lE
  go_wp2_with fail
  refine (works_any _ st.out.tab).mono ?_
  rintro e v39 ⟨rfl, k39⟩
  replace st := Lib.hid ((st.out).below k39)
  replace hb := bstep hb k39
  clear k39
  go_wp2
  go_ret
  exact ⟨rfl, hb⟩

end MsgKinds
end Go.Proofs.YtcfimfoccbaepaaDoor
