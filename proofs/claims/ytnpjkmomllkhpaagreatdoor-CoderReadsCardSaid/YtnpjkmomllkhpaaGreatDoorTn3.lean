/- Frame, But. -/
import Derived.Test.YtnpjkmomllkhpaaGreatDoorTn0
import Derived.SliceStrings
import Derived.OpenShut
import Derived.WalkSmall
set_option linter.unusedVariables false
set_option linter.unusedSimpArgs false
namespace Go.Proofs.YtnpjkmomllkhpaaGreatDoor
section
open RowKit
theorem bstep {w a b:World} (h:Below w.heap.size w a) (k:Below a.heap.size a b):Below w.heap.size w b:=h.trans (k.mono h.size)
theorem balloc {w a:World} (h:Below w.heap.size w a) (o:Obj):Below w.heap.size w (a.alloc o):=h.alloc h.size o
theorem bdrewN {w a:World} (h:Below w.heap.size w a) (n:Nat):Below w.heap.size w (a.drewN n):=below_drewN h n
theorem bset {w a:World} (h:Below w.heap.size w a) {p:Addr} (hp:w.heap.size≤p.block) (v:Value):Below w.heap.size w (a.setCell p v):=h.setCell hp v
def Nats (w:World) (a:Option Addr) (len:Nat) (l:List Nat):Prop :=
 l.length=len∧(∀ n ∈ l,n≤18446744073709551615)∧(0<len→∃ b off,a=some ⟨b,off,none⟩∧b<w.heap.size∧∀ j (h:j<l.length),w.cell? ⟨b,off+j,none⟩=some ↑(l[j]:Nat))
theorem Nats.below {w w':World} {a:Option Addr} {len:Nat} {l:List Nat} (h:Nats w a len l) {B:Nat} (hB:B=w.heap.size) (hb:Below B w w'):Nats w' a len l:=by
 refine ⟨h.1,h.2.1,fun hl=>?_⟩;obtain ⟨b,off,e,hlt,hc⟩:=h.2.2 hl;subst hB;exact ⟨b,off,e,Nat.lt_of_lt_of_le hlt hb.size,fun j hj=>by rw[hb.cell (p:=⟨b,off+j,none⟩) hlt];exact hc j hj⟩
end
section
open RowKit
structure But (b:Nat) (w w':World):Prop where
 os:w'.os=w.os
 tape:w'.tape=w.tape
 output:w'.output=w.output
 size:w.heap.size≤w'.heap.size
 block:∀ k,k<w.heap.size→k≠b→w'.heap[k]?=w.heap[k]?
namespace But
theorem refl (b:Nat) (w:World):But b w w:=⟨rfl,rfl,rfl,Nat.le_refl _,fun _ _ _=>rfl⟩
theorem trans {b:Nat} {w x y:World} (h:But b w x) (k:But b x y):But b w y :=
 ⟨k.os.trans h.os,k.tape.trans h.tape,k.output.trans h.output,Nat.le_trans h.size k.size,fun j hj hb=>(k.block j (Nat.lt_of_lt_of_le hj h.size) hb).trans (h.block j hj hb)⟩
theorem of {b:Nat} {w x:World} (k:Below w.heap.size w x):But b w x:=⟨k.os,k.tape,k.output,k.size,fun j hj _=>k.block j hj⟩
theorem alloc {b:Nat} {w x:World} (h:But b w x) (o:Obj):But b w (x.alloc o):=h.trans (of (balloc (Below.refl _ _) o))
theorem set {b:Nat} {w x:World} (h:But b w x) (p:Addr) (hp:p.block=b) (v:Value):But b w (x.setCell p v) :=
 h.trans ⟨rfl,rfl,rfl,by simp[World.setCell],fun j _ hb=>Below.heap_setCell _ _ _ _ (by rw[hp];exact hb)⟩
theorem put {b:Nat} {w x:World} (h:But b w x) (p:Addr) (hp:w.heap.size≤p.block) (v:Value):But b w (x.setCell p v) :=
 ⟨h.os,h.tape,h.output,by simpa [World.setCell] using h.size,fun j hj hb=>(Below.heap_setCell _ _ _ _ (by omega)).trans (h.block j hj hb)⟩
theorem below {B b:Nat} {w x y:World} (h:Below B w x) (k:But b x y) (hb:B≤b) (hB:B≤x.heap.size):Below B w y :=
 h.trans ⟨k.os,k.tape,k.output,k.size,fun j hj=>k.block j (by omega) (by omega)⟩
theorem cell {b:Nat} {w x:World} (h:But b w x) {p:Addr} (hp:p.block<w.heap.size) (hb:p.block≠b):x.cell? p=w.cell? p:=World.cell?_of_block (w:=w) (h.block p.block hp hb)
theorem frozen {b:Nat} {w x:World} (h:But b w x) {p:Addr} (hp:p.block<w.heap.size) (hb:p.block≠b):x.frozen? p=w.frozen? p:=World.frozen?_of_block (w:=w) (h.block p.block hp hb)
theorem drewN {b:Nat} {w x:World} (h:But b w x) (n:Nat):But b w (x.drewN n):=h.trans (of (bdrewN (Below.refl _ _) n))
end But
end
end Go.Proofs.YtnpjkmomllkhpaaGreatDoor
