/- ReadMem, ReadPlainM, ReadG, RefMany, ReadWhole, ReadFit. -/
import Derived.Test.YtnpjkmomllkhpaaGreatDoorTn33
import Derived.Test.YtnpjkmomllkhpaaGreatDoorTn26
set_option linter.unusedVariables false
set_option linter.unusedSimpArgs false
set_option maxRecDepth 100000
set_option maxHeartbeats 8000000
namespace Go.Proofs.YtnpjkmomllkhpaaGreatDoor
namespace Taker
open RowKit Num Wire Coder Mem
variable {w w':World} {B B' b:Nat} {a:Option Addr} {c:Nat}
def sizeS (l:List UInt8) (E:Int):Nat × List UInt8 × Int:=((numS 9223372036854775807 l E).1.toNat,(numS 9223372036854775807 l E).2)
theorem size_eats:Eats sizeS:=⟨⟨fun l E hE=>(numS_eats _).keeps.stay l E hE,fun l=>(numS_eats 9223372036854775807).keeps.most l⟩,fun l h=>(numS_eats 9223372036854775807).less l h⟩
theorem size_any (b:Nat) (l:List UInt8) (E:Int) (w:World) (h:Rd w b l E) (x:Nat) (l':List UInt8) (E':Int) (hn:sizeS l E=(x,l',E')) :
  Calls Tryz.prog 217 #[.agg #[.pointer (some ⟨b,0,none⟩)]] w fun e w'=>e=.returned (.int .i64 (x:Nat))∧Rd w' b l' E'∧But b w w':=by
 have C:=hid (int_any b l E 9223372036854775807 (by decide) (by decide) (w.alloc (.cells #[.pointer (some ⟨b,0,none⟩)] 124)) (h.alloc _) (x:Int) l' E' (by unfold intS;rw[if_neg (by decide)];exact (nat_of (by decide) hn).1));have K:=hid ((But.refl b w).alloc (.cells #[.pointer (some ⟨b,0,none⟩)] 124));go_enter Tryz.func217,Tryz.ntmps217;go_wp2_with fail
 refine C.out.mono ?_;rintro e w1 ⟨rfl,r,k⟩;replace K:=hid (K.out.trans k);clear k;go_wp2;go_ret;exact ⟨rfl,r,K.out⟩
def spanS (l:List UInt8) (E:Int):Sn × List UInt8 × Int:=bindR (sizeS l E) fun x0 l0 E0=>bindR (sizeS l0 E0) fun x1 l1 E1=>((⟨(x0:Nat),(x1:Nat)⟩:Sn),l1,E1)
theorem span_eats:Eats spanS:=size_eats.bind fun _=>size_eats.keeps.bind fun _=>keeps_pure _
theorem span_read (b:Nat) (l:List UInt8) (E:Int) (w:World) (h:Rd w b l E) (x:Sn) (l':List UInt8) (E':Int) (hn:spanS l E=(x,l',E')) :
  Calls Tryz.prog 219 #[.agg #[.pointer (some ⟨b,0,none⟩)]] w fun e w'=>e=.returned (.agg x)∧Rd w' b l' E'∧But b w w':=by
 obtain ⟨x0,l0,E0,q0⟩:=tr (sizeS l E);obtain ⟨x1,l1,E1,q1⟩:=tr (sizeS l0 E0);simp only[spanS,bindR,q0,q1,Prod.mk.injEq] at hn;obtain ⟨rfl,rfl,rfl⟩:=hn;replace q0:=hid q0;replace q1:=hid q1;go_enter Tryz.func219,Tryz.ntmps219;go_upto_region 1 with (fail)
 obtain ⟨bp,br,W,hbp,hbr,hW,G⟩:=Tk.new h [.int .i64 0,.int .i64 0] 191;rw[← hW,← hbr,← hbp];clear hW hbr hbp h;have p0:=G.out.p.at 0 _ rfl;go_wp2_with fail
 refine (size_any b _ _ _ G.out.r _ _ _ q0.out).mono ?_;rintro e w1 ⟨rfl,R1,k1⟩;obtain ⟨H,p1,c0,z0⟩:=G.out.go R1 k1 0;clear G p0 k1 R1;go_upto_region 2 with (fail)
 obtain ⟨w2,hw2,G⟩:=H.out.put 0 (.int .i64 (x0:Nat));rw[← hw2];clear H hw2 p1 c0 z0;have p0:=G.out.p.at 0 _ rfl;go_wp2_with fail
 refine (size_any b _ _ _ G.out.r _ _ _ q1.out).mono ?_;rintro e w1 ⟨rfl,R1,k1⟩;obtain ⟨H,p1,c1,z1⟩:=G.out.go R1 k1 1;clear G p0 k1 R1;go_upto_region 3 with (fail)
 obtain ⟨w2,hw2,G⟩:=H.out.put 1 (.int .i64 (x1:Nat));rw[← hw2];clear H hw2 p1 c1 z1;obtain ⟨c0,c1⟩:=al2 G.out.s.at;have z:=G.out.s.2.2;go_wp2;refine bodyPost_ret (v:=.agg #[.int .i64 (x0:Nat),.int .i64 (x1:Nat)]) (by simp[results,Tryz.results219,go_sem,c0,c1]) rfl ?_;exact ⟨rfl,((G.out.e.put 0 _).put 1 _).r,((G.out.e.put 0 _).put 1 _).k⟩
def prunedS (l:List UInt8) (E:Int):Pr × List UInt8 × Int:=bindR (wordS l E) fun x0 l0 E0=>bindR (natS l0 E0) fun x1 l1 E1=>bindR (wordS l1 E1) fun x2 l2 E2=>bindR (natS l2 E2) fun x3 l3 E3=>((⟨x0,x1,x2,x3⟩:Pr),l3,E3)
theorem pruned_eats:Eats prunedS:=word_eats.bind fun _=>nat_eats.keeps.bind fun _=>word_eats.keeps.bind fun _=>nat_eats.keeps.bind fun _=>keeps_pure _
theorem pruned_read (b:Nat) (l:List UInt8) (E:Int) (w:World) (h:Rd w b l E) (x:Pr) (l':List UInt8) (E':Int) (hn:prunedS l E=(x,l',E')) :
  Calls Tryz.prog 255 #[.agg #[.pointer (some ⟨b,0,none⟩)]] w fun e w'=>e=.returned (.agg x)∧Rd w' b l' E'∧But b w w':=by
 obtain ⟨x0,l0,E0,q0⟩:=tr (wordS l E);obtain ⟨x1,l1,E1,q1⟩:=tr (natS l0 E0);obtain ⟨x2,l2,E2,q2⟩:=tr (wordS l1 E1);obtain ⟨x3,l3,E3,q3⟩:=tr (natS l2 E2);simp only[prunedS,bindR,q0,q1,q2,q3,Prod.mk.injEq] at hn;obtain ⟨rfl,rfl,rfl⟩:=hn;replace q0:=hid q0;replace q1:=hid q1;replace q2:=hid q2;replace q3:=hid q3;go_enter Tryz.func255,Tryz.ntmps255;go_upto_region 1 with (fail)
 obtain ⟨bp,br,W,hbp,hbr,hW,G⟩:=Tk.new h [.string ⟨#[]⟩,.int .u64 0,.string ⟨#[]⟩,.int .u64 0] 87;rw[← hW,← hbr,← hbp];clear hW hbr hbp h;have p0:=G.out.p.at 0 _ rfl;go_wp2_with fail
 refine (word_any b _ _ _ G.out.r _ _ _ q0.out).mono ?_;rintro e w1 ⟨rfl,R1,k1⟩;obtain ⟨H,p1,c0,z0⟩:=G.out.go R1 k1 0;clear G p0 k1 R1;go_upto_region 2 with (fail)
 obtain ⟨w2,hw2,G⟩:=H.out.put 0 x0;rw[← hw2];clear H hw2 p1 c0 z0;have p0:=G.out.p.at 0 _ rfl;go_wp2_with fail
 refine (nat_any b _ _ _ G.out.r _ _ _ q1.out).mono ?_;rintro e w1 ⟨rfl,R1,k1⟩;obtain ⟨H,p1,c1,z1⟩:=G.out.go R1 k1 1;clear G p0 k1 R1;go_upto_region 3 with (fail)
 obtain ⟨w2,hw2,G⟩:=H.out.put 1 x1;rw[← hw2];clear H hw2 p1 c1 z1;have p0:=G.out.p.at 0 _ rfl;go_wp2_with fail
 refine (word_any b _ _ _ G.out.r _ _ _ q2.out).mono ?_;rintro e w1 ⟨rfl,R1,k1⟩;obtain ⟨H,p1,c2,z2⟩:=G.out.go R1 k1 2;clear G p0 k1 R1;go_upto_region 4 with (fail)
 obtain ⟨w2,hw2,G⟩:=H.out.put 2 x2;rw[← hw2];clear H hw2 p1 c2 z2;have p0:=G.out.p.at 0 _ rfl;go_wp2_with fail
 refine (nat_any b _ _ _ G.out.r _ _ _ q3.out).mono ?_;rintro e w1 ⟨rfl,R1,k1⟩;obtain ⟨H,p1,c3,z3⟩:=G.out.go R1 k1 3;clear G p0 k1 R1;go_upto_region 5 with (fail)
 obtain ⟨w2,hw2,G⟩:=H.out.put 3 x3;rw[← hw2];clear H hw2 p1 c3 z3;obtain ⟨c0,c1,c2,c3⟩:=al4 G.out.s.at;have z:=G.out.s.2.2;go_wp2;refine bodyPost_ret (v:=.agg #[x0,x1,x2,x3]) (by simp[results,Tryz.results255,go_sem,c0,c1,c2,c3]) rfl ?_;exact ⟨rfl,((((G.out.e.put 0 _).put 1 _).put 2 _).put 3 _).r,((((G.out.e.put 0 _).put 1 _).put 2 _).put 3 _).k⟩
def saidS (l:List UInt8) (E:Int):Wd × List UInt8 × Int:=bindR (wordS l E) fun x0 l0 E0=>bindR (natS l0 E0) fun x1 l1 E1=>bindR (wordS l1 E1) fun x2 l2 E2=>bindR (natS l2 E2) fun x3 l3 E3=>bindR (truthS l3 E3) fun x4 l4 E4=>bindR (natS l4 E4) fun x5 l5 E5=>bindR (truthS l5 E5) fun x6 l6 E6=>((⟨x0,x1,x2,x3,x4,x5,x6⟩:Wd),l6,E6)
theorem said_eats:Eats saidS:=word_eats.bind fun _=>nat_eats.keeps.bind fun _=>word_eats.keeps.bind fun _=>nat_eats.keeps.bind fun _=>truth_eats.keeps.bind fun _=>nat_eats.keeps.bind fun _=>truth_eats.keeps.bind fun _=>keeps_pure _
theorem said_read (b:Nat) (l:List UInt8) (E:Int) (w:World) (h:Rd w b l E) (x:Wd) (l':List UInt8) (E':Int) (hn:saidS l E=(x,l',E')) :
  Calls Tryz.prog 222 #[.agg #[.pointer (some ⟨b,0,none⟩)]] w fun e w'=>e=.returned (.agg x)∧Rd w' b l' E'∧But b w w':=by
 obtain ⟨x0,l0,E0,q0⟩:=tr (wordS l E);obtain ⟨x1,l1,E1,q1⟩:=tr (natS l0 E0);obtain ⟨x2,l2,E2,q2⟩:=tr (wordS l1 E1);obtain ⟨x3,l3,E3,q3⟩:=tr (natS l2 E2);obtain ⟨x4,l4,E4,q4⟩:=tr (truthS l3 E3);obtain ⟨x5,l5,E5,q5⟩:=tr (natS l4 E4);obtain ⟨x6,l6,E6,q6⟩:=tr (truthS l5 E5);simp only[saidS,bindR,q0,q1,q2,q3,q4,q5,q6,Prod.mk.injEq] at hn;obtain ⟨rfl,rfl,rfl⟩:=hn;replace q0:=hid q0;replace q1:=hid q1;replace q2:=hid q2;replace q3:=hid q3;replace q4:=hid q4;replace q5:=hid q5;replace q6:=hid q6;go_enter Tryz.func222,Tryz.ntmps222;go_upto_region 1 with (fail)
 obtain ⟨bp,br,W,hbp,hbr,hW,G⟩:=Tk.new h [.string ⟨#[]⟩,.int .u64 0,.string ⟨#[]⟩,.int .u64 0,.bool false,.int .u64 0,.bool false] 94;rw[← hW,← hbr,← hbp];clear hW hbr hbp h;have p0:=G.out.p.at 0 _ rfl;go_wp2_with fail
 refine (word_any b _ _ _ G.out.r _ _ _ q0.out).mono ?_;rintro e w1 ⟨rfl,R1,k1⟩;obtain ⟨H,p1,c0,z0⟩:=G.out.go R1 k1 0;clear G p0 k1 R1;go_upto_region 2 with (fail)
 obtain ⟨w2,hw2,G⟩:=H.out.put 0 x0;rw[← hw2];clear H hw2 p1 c0 z0;have p0:=G.out.p.at 0 _ rfl;go_wp2_with fail
 refine (nat_any b _ _ _ G.out.r _ _ _ q1.out).mono ?_;rintro e w1 ⟨rfl,R1,k1⟩;obtain ⟨H,p1,c1,z1⟩:=G.out.go R1 k1 1;clear G p0 k1 R1;go_upto_region 3 with (fail)
 obtain ⟨w2,hw2,G⟩:=H.out.put 1 x1;rw[← hw2];clear H hw2 p1 c1 z1;have p0:=G.out.p.at 0 _ rfl;go_wp2_with fail
 refine (word_any b _ _ _ G.out.r _ _ _ q2.out).mono ?_;rintro e w1 ⟨rfl,R1,k1⟩;obtain ⟨H,p1,c2,z2⟩:=G.out.go R1 k1 2;clear G p0 k1 R1;go_upto_region 4 with (fail)
 obtain ⟨w2,hw2,G⟩:=H.out.put 2 x2;rw[← hw2];clear H hw2 p1 c2 z2;have p0:=G.out.p.at 0 _ rfl;go_wp2_with fail
 refine (nat_any b _ _ _ G.out.r _ _ _ q3.out).mono ?_;rintro e w1 ⟨rfl,R1,k1⟩;obtain ⟨H,p1,c3,z3⟩:=G.out.go R1 k1 3;clear G p0 k1 R1;go_upto_region 5 with (fail)
 obtain ⟨w2,hw2,G⟩:=H.out.put 3 x3;rw[← hw2];clear H hw2 p1 c3 z3;have p0:=G.out.p.at 0 _ rfl;go_wp2_with fail
 refine (bool_any b _ _ _ G.out.r _ _ _ q4.out).mono ?_;rintro e w1 ⟨rfl,R1,k1⟩;obtain ⟨H,p1,c4,z4⟩:=G.out.go R1 k1 4;clear G p0 k1 R1;go_upto_region 6 with (fail)
 obtain ⟨w2,hw2,G⟩:=H.out.put 4 x4;rw[← hw2];clear H hw2 p1 c4 z4;have p0:=G.out.p.at 0 _ rfl;go_wp2_with fail
 refine (nat_any b _ _ _ G.out.r _ _ _ q5.out).mono ?_;rintro e w1 ⟨rfl,R1,k1⟩;obtain ⟨H,p1,c5,z5⟩:=G.out.go R1 k1 5;clear G p0 k1 R1;go_upto_region 7 with (fail)
 obtain ⟨w2,hw2,G⟩:=H.out.put 5 x5;rw[← hw2];clear H hw2 p1 c5 z5;have p0:=G.out.p.at 0 _ rfl;go_wp2_with fail
 refine (bool_any b _ _ _ G.out.r _ _ _ q6.out).mono ?_;rintro e w1 ⟨rfl,R1,k1⟩;obtain ⟨H,p1,c6,z6⟩:=G.out.go R1 k1 6;clear G p0 k1 R1;go_upto_region 8 with (fail)
 obtain ⟨w2,hw2,G⟩:=H.out.put 6 x6;rw[← hw2];clear H hw2 p1 c6 z6;obtain ⟨c0,c1,c2,c3,c4,c5,c6⟩:=al7 G.out.s.at;have z:=G.out.s.2.2;go_wp2;refine bodyPost_ret (v:=.agg #[x0,x1,x2,x3,x4,x5,x6]) (by simp[results,Tryz.results222,go_sem,c0,c1,c2,c3,c4,c5,c6]) rfl ?_;exact ⟨rfl,(((((((G.out.e.put 0 _).put 1 _).put 2 _).put 3 _).put 4 _).put 5 _).put 6 _).r,(((((((G.out.e.put 0 _).put 1 _).put 2 _).put 3 _).put 4 _).put 5 _).put 6 _).k⟩
def planS (l:List UInt8) (E:Int):Pl × List UInt8 × Int:=bindR (wordS l E) fun x0 l0 E0=>bindR (natS l0 E0) fun x1 l1 E1=>bindR (wordS l1 E1) fun x2 l2 E2=>bindR (prunedS l2 E2) fun x3 l3 E3=>bindR (truthS l3 E3) fun x4 l4 E4=>((⟨x0,x1,x2,x3,x4⟩:Pl),l4,E4)
theorem plan_eats:Eats planS:=word_eats.bind fun _=>nat_eats.keeps.bind fun _=>word_eats.keeps.bind fun _=>pruned_eats.keeps.bind fun _=>truth_eats.keeps.bind fun _=>keeps_pure _
theorem plan_read (b:Nat) (l:List UInt8) (E:Int) (w:World) (h:Rd w b l E) (x:Pl) (l':List UInt8) (E':Int) (hn:planS l E=(x,l',E')) :
  Calls Tryz.prog 220 #[.agg #[.pointer (some ⟨b,0,none⟩)]] w fun e w'=>e=.returned (.agg x)∧Rd w' b l' E'∧But b w w':=by
 obtain ⟨x0,l0,E0,q0⟩:=tr (wordS l E);obtain ⟨x1,l1,E1,q1⟩:=tr (natS l0 E0);obtain ⟨x2,l2,E2,q2⟩:=tr (wordS l1 E1);obtain ⟨x3,l3,E3,q3⟩:=tr (prunedS l2 E2);obtain ⟨x4,l4,E4,q4⟩:=tr (truthS l3 E3);simp only[planS,bindR,q0,q1,q2,q3,q4,Prod.mk.injEq] at hn;obtain ⟨rfl,rfl,rfl⟩:=hn;replace q0:=hid q0;replace q1:=hid q1;replace q2:=hid q2;replace q3:=hid q3;replace q4:=hid q4;go_enter Tryz.func220,Tryz.ntmps220;go_upto_region 1 with (fail)
 obtain ⟨bp,br,W,hbp,hbr,hW,G⟩:=Tk.new h [.string ⟨#[]⟩,.int .u64 0,.string ⟨#[]⟩,.string ⟨#[]⟩,.int .u64 0,.string ⟨#[]⟩,.int .u64 0,.bool false] 89;rw[← hW,← hbr,← hbp];clear hW hbr hbp h;have p0:=G.out.p.at 0 _ rfl;go_wp2_with fail
 refine (word_any b _ _ _ G.out.r _ _ _ q0.out).mono ?_;rintro e w1 ⟨rfl,R1,k1⟩;obtain ⟨H,p1,c0,z0⟩:=G.out.go R1 k1 0;clear G p0 k1 R1;go_upto_region 2 with (fail)
 obtain ⟨w2,hw2,G⟩:=H.out.put 0 x0;rw[← hw2];clear H hw2 p1 c0 z0;have p0:=G.out.p.at 0 _ rfl;go_wp2_with fail
 refine (nat_any b _ _ _ G.out.r _ _ _ q1.out).mono ?_;rintro e w1 ⟨rfl,R1,k1⟩;obtain ⟨H,p1,c1,z1⟩:=G.out.go R1 k1 1;clear G p0 k1 R1;go_upto_region 3 with (fail)
 obtain ⟨w2,hw2,G⟩:=H.out.put 1 x1;rw[← hw2];clear H hw2 p1 c1 z1;have p0:=G.out.p.at 0 _ rfl;go_wp2_with fail
 refine (word_any b _ _ _ G.out.r _ _ _ q2.out).mono ?_;rintro e w1 ⟨rfl,R1,k1⟩;obtain ⟨H,p1,c2,z2⟩:=G.out.go R1 k1 2;clear G p0 k1 R1;go_upto_region 4 with (fail)
 obtain ⟨w2,hw2,G⟩:=H.out.put 2 x2;rw[← hw2];clear H hw2 p1 c2 z2;have p0:=G.out.p.at 0 _ rfl;go_wp2_with fail
 refine (pruned_read b _ _ _ G.out.r _ _ _ q3.out).mono ?_;rintro e w1 ⟨rfl,R1,k1⟩;obtain ⟨H,p1,c3,z3⟩:=G.out.go R1 k1 3;obtain ⟨-,-,c4,z4⟩:=G.out.go R1 k1 4;obtain ⟨-,-,c5,z5⟩:=G.out.go R1 k1 5;obtain ⟨-,-,c6,z6⟩:=G.out.go R1 k1 6;clear G p0 k1 R1;go_upto_region 5 with (fail)
 obtain ⟨w2,hw2,G⟩:=H.out.put 3 x3.b;rw[← hw2];clear H hw2;have H:=G;clear G;obtain ⟨w2,hw2,G⟩:=H.out.put 4 x3.n;rw[← hw2];clear H hw2;have H:=G;clear G;obtain ⟨w2,hw2,G⟩:=H.out.put 5 x3.o;rw[← hw2];clear H hw2;have H:=G;clear G;obtain ⟨w2,hw2,G⟩:=H.out.put 6 x3.m;rw[← hw2];clear H hw2 p1 c3 z3 c4 z4 c5 z5 c6 z6;have p0:=G.out.p.at 0 _ rfl;go_wp2_with fail
 refine (bool_any b _ _ _ G.out.r _ _ _ q4.out).mono ?_;rintro e w1 ⟨rfl,R1,k1⟩;obtain ⟨H,p1,c7,z7⟩:=G.out.go R1 k1 7;clear G p0 k1 R1;go_upto_region 6 with (fail)
 obtain ⟨w2,hw2,G⟩:=H.out.put 7 x4;rw[← hw2];clear H hw2 p1 c7 z7;obtain ⟨c0,c1,c2,c3,c4,c5,c6,c7⟩:=al8 G.out.s.at;have z:=G.out.s.2.2;go_wp2;refine bodyPost_ret (v:=.agg #[x0,x1,x2,x3.b,x3.n,x3.o,x3.m,x4]) (by simp[results,Tryz.results220,go_sem,c0,c1,c2,c3,c4,c5,c6,c7]) rfl ?_;exact ⟨rfl,((((((((G.out.e.put 0 _).put 1 _).put 2 _).put 3 _).put 4 _).put 5 _).put 6 _).put 7 _).r,((((((((G.out.e.put 0 _).put 1 _).put 2 _).put 3 _).put 4 _).put 5 _).put 6 _).put 7 _).k⟩
theorem typSpan:Row.Typ Tryz.prog snE 85 191 (.agg #[.int .i64 0,.int .i64 0]) 16:=⟨Tryz.underlying85,Row.info_of (by kernel_rfl),rfl,by decide⟩
theorem typSaid:Row.Typ Tryz.prog wdE 90 94 (.agg #[.string ⟨#[]⟩,.int .u64 0,.string ⟨#[]⟩,.int .u64 0,.bool false,.int .u64 0,.bool false]) 72:=⟨Tryz.underlying90,Row.info_of (by kernel_rfl),rfl,by decide⟩
theorem typMember:Row.Typ Tryz.prog mbE 36 92 (.agg #[.string ⟨#[]⟩,.int .u8 0,.int .i64 0,.int .i64 0,.int .u64 0,.slice none 0 0,.string ⟨#[]⟩,.int .u64 0,.string ⟨#[]⟩,.string ⟨#[]⟩,.int .u64 0,.string ⟨#[]⟩,.int .u64 0,.bool false,.slice none 0 0]) 192:=⟨Tryz.underlying36,Row.info_of (by kernel_rfl),rfl,by decide⟩
theorem many_span (b:Nat) (l:List UInt8) (E:Int) (w:World) (h:Rd w b l E) (hz:l.length≤1048576) (xs:List Sn) (l':List UInt8) (E':Int) (hn:manyS spanS l E=(xs,l',E')) :
  Calls Tryz.prog 218 #[.agg #[.pointer (some ⟨b,0,none⟩)],.func (.func 219) #[] #[]] w fun e w'=>∃ v,e=.returned v∧Row.Own snE 191 w' w.heap.size v xs∧Rd w' b l' E'∧But b w w':=by
 refine (manyT snE typSpan id (fun m=>.agg m) (fun _ _ _=>True) span_eats Tryz.func218 Tryz.ntmps218 (fun l E W h _ y l' E' hn=>(span_read b l E W h y l' E' hn).mono fun e w' h=>⟨y,h.1,rfl,trivial,h.2⟩) (fun _ _ _ _ _ _ _=>trivial) (fun _ _ _ _ _ _=>trivial) (fun _ _ _ _ _ _ _ _ _=>trivial) h hz hn).mono ?_;rintro e w' ⟨v,L,rfl,rfl,ho,-,hr⟩;exact ⟨v,rfl,by rw[List.map_id];exact ho,hr⟩
theorem many_said (b:Nat) (l:List UInt8) (E:Int) (w:World) (h:Rd w b l E) (hz:l.length≤1048576) (xs:List Wd) (l':List UInt8) (E':Int) (hn:manyS saidS l E=(xs,l',E')) :
  Calls Tryz.prog 221 #[.agg #[.pointer (some ⟨b,0,none⟩)],.func (.func 222) #[] #[]] w fun e w'=>∃ v,e=.returned v∧Row.Own wdE 94 w' w.heap.size v xs∧Rd w' b l' E'∧But b w w':=by
 refine (manyT wdE typSaid id (fun m=>.agg m) (fun _ _ _=>True) said_eats Tryz.func221 Tryz.ntmps221 (fun l E W h _ y l' E' hn=>(said_read b l E W h y l' E' hn).mono fun e w' h=>⟨y,h.1,rfl,trivial,h.2⟩) (fun _ _ _ _ _ _ _=>trivial) (fun _ _ _ _ _ _=>trivial) (fun _ _ _ _ _ _ _ _ _=>trivial) h hz hn).mono ?_;rintro e w' ⟨v,L,rfl,rfl,ho,-,hr⟩;exact ⟨v,rfl,by rw[List.map_id];exact ho,hr⟩
def OwnG (w:World) (B:Nat) (a:Option Addr) (c:Nat) (L:List Sn):Prop:=Row.Own snE 191 w B (.slice a L.length c) L
def OwnQ (w:World) (B:Nat) (a:Option Addr) (c:Nat) (L:List Wd):Prop:=Row.Own wdE 94 w B (.slice a L.length c) L
theorem OwnG.but {L:List Sn} (h:OwnG w B a c L) (k:But b w w') (hb:b<B):OwnG w' B a c L:=own_but h k hb
theorem OwnQ.but {L:List Wd} (h:OwnQ w B a c L) (k:But b w w') (hb:b<B):OwnQ w' B a c L:=own_but h k hb
structure OwnB (w:World) (B:Nat) (x:RM):Prop where
 g:OwnG w B x.ga x.gc x.g
 w:OwnQ w B x.wa x.wc x.w
theorem OwnB.but {x:RM} (h:OwnB w B x) (k:But b w w') (hb:b<B):OwnB w' B x:=⟨own_but h.g k hb,own_but h.w k hb⟩
theorem OwnB.base {x:RM} (h:OwnB w B x) (hB:B'≤B):OwnB w B' x:=⟨Row.Own.base h.g hB,Row.Own.base h.w hB⟩
theorem OwnB.inner {x:RM} (h:OwnB w B x):InnerM w x:=⟨lies_of h.g,lies_of h.w⟩
theorem OwnB.kept {F:Type} {E2:Row.Enc F} {tf:TypeId} {u:Value} {K:List F} {x:RM} (h:OwnB w B x) (ho:Row.Own E2 tf w B' u K) (hg:w.grownBy w' u.ownBlock) (h1:191≠tf) (h2:94≠tf):OwnB w' B x:=⟨kept_by h.g ho hg h1,kept_by h.w ho hg h2⟩
def memberS (l:List UInt8) (E:Int):Mb × List UInt8 × Int:=bindR (wordS l E) fun x0 l0 E0=>bindR (smallS l0 E0) fun x1 l1 E1=>bindR (sizeS l1 E1) fun x2 l2 E2=>bindR (sizeS l2 E2) fun x3 l3 E3=>bindR (natS l3 E3) fun x4 l4 E4=>bindR (manyS spanS l4 E4) fun x5 l5 E5=>bindR (planS l5 E5) fun x6 l6 E6=>bindR (manyS saidS l6 E6) fun x7 l7 E7=>((⟨x0,x1,(x2:Nat),(x3:Nat),x4,x5,x6,x7⟩:Mb),l7,E7)
theorem member_eats:Eats memberS:=word_eats.bind fun _=>small_eats.keeps.bind fun _=>size_eats.keeps.bind fun _=>size_eats.keeps.bind fun _=>nat_eats.keeps.bind fun _=>(many_eats span_eats).keeps.bind fun _=>plan_eats.keeps.bind fun _=>(many_eats said_eats).keeps.bind fun _=>keeps_pure _
theorem member_read (b:Nat) (l:List UInt8) (E:Int) (w:World) (h:Rd w b l E) (hz:l.length≤1048576) (y:Mb) (l':List UInt8) (E':Int) (hn:memberS l E=(y,l',E')) :
  Calls Tryz.prog 159 #[.agg #[.pointer (some ⟨b,0,none⟩)]] w fun e w'=>∃ x:RM,e=.returned (.agg x)∧x.m=y∧OwnB w' w.heap.size x∧Rd w' b l' E'∧But b w w':=by
 obtain ⟨x0,l0,E0,q0⟩:=tr (wordS l E);obtain ⟨x1,l1,E1,q1⟩:=tr (smallS l0 E0);obtain ⟨x2,l2,E2,q2⟩:=tr (sizeS l1 E1);obtain ⟨x3,l3,E3,q3⟩:=tr (sizeS l2 E2);obtain ⟨x4,l4,E4,q4⟩:=tr (natS l3 E3);obtain ⟨x5,l5,E5,q5⟩:=tr (manyS spanS l4 E4);obtain ⟨x6,l6,E6,q6⟩:=tr (planS l5 E5);obtain ⟨x7,l7,E7,q7⟩:=tr (manyS saidS l6 E6);simp only[memberS,bindR,q0,q1,q2,q3,q4,q5,q6,q7,Prod.mk.injEq] at hn;obtain ⟨rfl,rfl,rfl⟩:=hn;have hz4:Hid (l4.length≤1048576):=hid (by have:=word_eats.keeps.len q0;have:=small_eats.keeps.len q1;have:=size_eats.keeps.len q2;have:=size_eats.keeps.len q3;have:=nat_eats.keeps.len q4;omega);have hz6:Hid (l6.length≤1048576):=hid (by have:=(many_eats span_eats).keeps.len q5;have:=plan_eats.keeps.len q6;have:=hz4.out;omega);replace q0:=hid q0;replace q1:=hid q1;replace q2:=hid q2;replace q3:=hid q3;replace q4:=hid q4;replace q5:=hid q5;replace q6:=hid q6;replace q7:=hid q7;clear hz;go_enter Tryz.func159,Tryz.ntmps159;go_upto_region 1 with (fail)
 obtain ⟨bp,br,W,hbp,hbr,hW,G⟩:=Tk.new h [.string ⟨#[]⟩,.int .u8 0,.int .i64 0,.int .i64 0,.int .u64 0,.slice none 0 0,.string ⟨#[]⟩,.int .u64 0,.string ⟨#[]⟩,.string ⟨#[]⟩,.int .u64 0,.string ⟨#[]⟩,.int .u64 0,.bool false,.slice none 0 0] 92;rw[← hW,← hbr,← hbp];clear hW hbr hbp h;have p0:=G.out.p.at 0 _ rfl;go_wp2_with fail
 refine (word_any b _ _ _ G.out.r _ _ _ q0.out).mono ?_;rintro e w1 ⟨rfl,R1,k1⟩;obtain ⟨H,p1,c0,z0⟩:=G.out.go R1 k1 0;clear G p0 k1 R1;go_upto_region 2 with (fail)
 obtain ⟨w2,hw2,G⟩:=H.out.put 0 x0;rw[← hw2];clear H hw2 p1 c0 z0;have p0:=G.out.p.at 0 _ rfl;go_wp2_with fail
 refine (small_any b _ _ _ G.out.r _ _ _ q1.out).mono ?_;rintro e w1 ⟨rfl,R1,k1⟩;obtain ⟨H,p1,c1,z1⟩:=G.out.go R1 k1 1;clear G p0 k1 R1;go_upto_region 3 with (fail)
 obtain ⟨w2,hw2,G⟩:=H.out.put 1 (.int .u8 x1);rw[← hw2];clear H hw2 p1 c1 z1;have p0:=G.out.p.at 0 _ rfl;go_wp2_with fail
 refine (size_any b _ _ _ G.out.r _ _ _ q2.out).mono ?_;rintro e w1 ⟨rfl,R1,k1⟩;obtain ⟨H,p1,c2,z2⟩:=G.out.go R1 k1 2;clear G p0 k1 R1;go_upto_region 4 with (fail)
 obtain ⟨w2,hw2,G⟩:=H.out.put 2 (.int .i64 (x2:Nat));rw[← hw2];clear H hw2 p1 c2 z2;have p0:=G.out.p.at 0 _ rfl;go_wp2_with fail
 refine (size_any b _ _ _ G.out.r _ _ _ q3.out).mono ?_;rintro e w1 ⟨rfl,R1,k1⟩;obtain ⟨H,p1,c3,z3⟩:=G.out.go R1 k1 3;clear G p0 k1 R1;go_upto_region 5 with (fail)
 obtain ⟨w2,hw2,G⟩:=H.out.put 3 (.int .i64 (x3:Nat));rw[← hw2];clear H hw2 p1 c3 z3;have p0:=G.out.p.at 0 _ rfl;go_wp2_with fail
 refine (nat_any b _ _ _ G.out.r _ _ _ q4.out).mono ?_;rintro e w1 ⟨rfl,R1,k1⟩;obtain ⟨H,p1,c4,z4⟩:=G.out.go R1 k1 4;clear G p0 k1 R1;go_upto_region 6 with (fail)
 obtain ⟨w2,hw2,G⟩:=H.out.put 4 x4;rw[← hw2];clear H hw2 p1 c4 z4;have p0:=G.out.p.at 0 _ rfl;go_wp2_with fail
 refine (many_span b _ _ _ G.out.r hz4.out _ _ _ q5.out).mono ?_;rintro e w1 ⟨v,rfl,o1,R1,k1⟩;replace o1:=o1.base G.out.s.1;obtain ⟨a5,u5,rfl,-,-,-,-⟩:=o1.lies;have O5:Hid (OwnG w1 (br+1) a5 u5 x5):=hid o1;clear o1;obtain ⟨H,p1,c5,z5⟩:=G.out.go R1 k1 5;clear G p0 k1 R1;go_upto_region 7 with (fail)
 obtain ⟨w2,hw2,G⟩:=H.out.put 5 (.slice a5 x5.length u5);rw[← hw2];replace O5:=hid (O5.out.but (bsetB hw2) (Nat.lt_succ_self br));clear H hw2 p1 c5 z5;have p0:=G.out.p.at 0 _ rfl;go_wp2_with fail
 refine (plan_read b _ _ _ G.out.r _ _ _ q6.out).mono ?_;rintro e w1 ⟨rfl,R1,k1⟩;replace O5:=hid (O5.out.but k1 G.out.n.2.2.2.2.1);obtain ⟨H,p1,c6,z6⟩:=G.out.go R1 k1 6;obtain ⟨-,-,c7,z7⟩:=G.out.go R1 k1 7;obtain ⟨-,-,c8,z8⟩:=G.out.go R1 k1 8;obtain ⟨-,-,c9,z9⟩:=G.out.go R1 k1 9;obtain ⟨-,-,c10,z10⟩:=G.out.go R1 k1 10;obtain ⟨-,-,c11,z11⟩:=G.out.go R1 k1 11;obtain ⟨-,-,c12,z12⟩:=G.out.go R1 k1 12;obtain ⟨-,-,c13,z13⟩:=G.out.go R1 k1 13;clear G p0 k1 R1;go_upto_region 8 with (fail)
 obtain ⟨w2,hw2,G⟩:=H.out.put 6 x6.k;rw[← hw2];replace O5:=hid (O5.out.but (bsetB hw2) (Nat.lt_succ_self br));clear H hw2;have H:=G;clear G;obtain ⟨w2,hw2,G⟩:=H.out.put 7 x6.r;rw[← hw2];replace O5:=hid (O5.out.but (bsetB hw2) (Nat.lt_succ_self br));clear H hw2;have H:=G;clear G;obtain ⟨w2,hw2,G⟩:=H.out.put 8 x6.l;rw[← hw2];replace O5:=hid (O5.out.but (bsetB hw2) (Nat.lt_succ_self br));clear H hw2;have H:=G;clear G;obtain ⟨w2,hw2,G⟩:=H.out.put 9 x6.a.b;rw[← hw2];replace O5:=hid (O5.out.but (bsetB hw2) (Nat.lt_succ_self br));clear H hw2;have H:=G;clear G;obtain ⟨w2,hw2,G⟩:=H.out.put 10 x6.a.n;rw[← hw2];replace O5:=hid (O5.out.but (bsetB hw2) (Nat.lt_succ_self br));clear H hw2;have H:=G;clear G;obtain ⟨w2,hw2,G⟩:=H.out.put 11 x6.a.o;rw[← hw2];replace O5:=hid (O5.out.but (bsetB hw2) (Nat.lt_succ_self br));clear H hw2;have H:=G;clear G;obtain ⟨w2,hw2,G⟩:=H.out.put 12 x6.a.m;rw[← hw2];replace O5:=hid (O5.out.but (bsetB hw2) (Nat.lt_succ_self br));clear H hw2;have H:=G;clear G;obtain ⟨w2,hw2,G⟩:=H.out.put 13 x6.d;rw[← hw2];replace O5:=hid (O5.out.but (bsetB hw2) (Nat.lt_succ_self br));clear H hw2 p1 c6 z6 c7 z7 c8 z8 c9 z9 c10 z10 c11 z11 c12 z12 c13 z13;have p0:=G.out.p.at 0 _ rfl;go_wp2_with fail
 refine (many_said b _ _ _ G.out.r hz6.out _ _ _ q7.out).mono ?_;rintro e w1 ⟨v,rfl,o1,R1,k1⟩;replace o1:=o1.base G.out.s.1;obtain ⟨a7,u7,rfl,-,-,-,-⟩:=o1.lies;have O7:Hid (OwnQ w1 (br+1) a7 u7 x7):=hid o1;clear o1;replace O5:=hid (O5.out.but k1 G.out.n.2.2.2.2.1);obtain ⟨H,p1,c14,z14⟩:=G.out.go R1 k1 14;clear G p0 k1 R1;go_upto_region 9 with (fail)
 obtain ⟨w2,hw2,G⟩:=H.out.put 14 (.slice a7 x7.length u7);rw[← hw2];replace O5:=hid (O5.out.but (bsetB hw2) (Nat.lt_succ_self br));replace O7:=hid (O7.out.but (bsetB hw2) (Nat.lt_succ_self br));clear H hw2 p1 c14 z14;obtain ⟨c0,c1,c2,c3,c4,c5,c6,c7,c8,c9,c10,c11,c12,c13,c14⟩:=al15 G.out.s.at;have z:=G.out.s.2.2;go_wp2;refine bodyPost_ret (v:=.agg #[x0,.int .u8 x1,.int .i64 (x2:Nat),.int .i64 (x3:Nat),x4,.slice a5 x5.length u5,x6.k,x6.r,x6.l,x6.a.b,x6.a.n,x6.a.o,x6.a.m,x6.d,.slice a7 x7.length u7]) (by simp[results,Tryz.results159,go_sem,c0,c1,c2,c3,c4,c5,c6,c7,c8,c9,c10,c11,c12,c13,c14]) rfl ?_;exact ⟨⟨x0,x1,(x2:Nat),(x3:Nat),x4,a5,u5,x5,x6,a7,u7,x7⟩,rfl,rfl,OwnB.base (OwnB.but (b:=br) (B:=br+1) ⟨O5.out,O7.out⟩ (((((((((((((((G.out.e.put 0 _).put 1 _).put 2 _).put 3 _).put 4 _).put 5 _).put 6 _).put 7 _).put 8 _).put 9 _).put 10 _).put 11 _).put 12 _).put 13 _).put 14 _).o (Nat.lt_succ_self br)) G.out.n.2.2.2.2.2,(((((((((((((((G.out.e.put 0 _).put 1 _).put 2 _).put 3 _).put 4 _).put 5 _).put 6 _).put 7 _).put 8 _).put 9 _).put 10 _).put 11 _).put 12 _).put 13 _).put 14 _).r,(((((((((((((((G.out.e.put 0 _).put 1 _).put 2 _).put 3 _).put 4 _).put 5 _).put 6 _).put 7 _).put 8 _).put 9 _).put 10 _).put 11 _).put 12 _).put 13 _).put 14 _).k⟩
theorem many_member (b:Nat) (l:List UInt8) (E:Int) (w:World) (h:Rd w b l E) (hz:l.length≤1048576) (xs:List Mb) (l':List UInt8) (E':Int) (hn:manyS memberS l E=(xs,l',E')) :
  Calls Tryz.prog 158 #[.agg #[.pointer (some ⟨b,0,none⟩)],.func (.func 159) #[] #[]] w fun e w'=>∃ (v:Value) (L:List RM),e=.returned v∧L.map RM.m=xs∧Row.Own mbE 92 w' w.heap.size v L∧(∀ z ∈ L,OwnB w' w.heap.size z)∧Rd w' b l' E'∧But b w w' :=
 manyT mbE typMember RM.m (fun m=>.agg m) (fun W B z=>OwnB W B z) member_eats Tryz.func158 Tryz.ntmps158 (fun l E W h hz y l' E' hn=>member_read b l E W h hz y l' E' hn) (fun _ _ _ _ q k hb=>q.but k hb) (fun _ _ _ _ q hB=>q.base hB) (fun _ _ _ _ _ _ ho g q=>OwnB.kept q ho g (by decide) (by decide)) h hz hn
end Taker
namespace Taker
open RowKit Num Wire Coder Mem
theorem size_canon:Canon sizeS upL:=fun _ _ _ h=>num_canon h
theorem delta_canon:Canon deltaS (fun d=>dl d.1 d.2):=fun l x l' h=>by
 obtain ⟨x0,l0,e0,h⟩:=bind_ok h (fun _=>state_keeps.bind fun _=>keeps_pure _);obtain ⟨x1,l1,e1,h⟩:=bind_ok h (fun _=>keeps_pure _);simp only[Prod.mk.injEq,and_true] at h;obtain ⟨rfl,rfl⟩:=h;rw[many_canon mark_eats mark_canon _ _ _ e0,state_canon _ _ _ e1];simp only[dl,List.append_assoc]
theorem turnB (n:Nat) (h:n<18446744073709551616):(turn (back (n:Nat))).toNat=n:=by unfold turn back;split <;> split <;> omega
theorem op_canon:Canon opS opb:=fun l x l' h=>by
 obtain ⟨x0,l0,e0,h⟩:=bind_ok h (fun _=>word_eats.keeps.bind fun _=>nat_eats.keeps.bind fun _=>word_eats.keeps.bind fun _=>keeps_pure _);obtain ⟨x1,l1,e1,h⟩:=bind_ok h (fun _=>nat_eats.keeps.bind fun _=>word_eats.keeps.bind fun _=>keeps_pure _);obtain ⟨x2,l2,e2,h⟩:=bind_ok h (fun _=>word_eats.keeps.bind fun _=>keeps_pure _);obtain ⟨x3,l3,e3,h⟩:=bind_ok h (fun _=>keeps_pure _);simp only[Prod.mk.injEq,and_true] at h;obtain ⟨rfl,rfl⟩:=h;rw[small_canon _ _ _ e0,word_canon _ _ _ e1,nat_canon _ _ _ e2,word_canon _ _ _ e3];have hx2:x2≤18446744073709551615:=by have:=(nat_of (by decide) e2).2;omega
 simp only[opb,turnB x2 (by omega),List.append_assoc]
theorem span_canon:Canon spanS snb:=fun l x l' h=>by
 obtain ⟨x0,l0,e0,h⟩:=bind_ok h (fun _=>size_eats.keeps.bind fun _=>keeps_pure _);obtain ⟨x1,l1,e1,h⟩:=bind_ok h (fun _=>keeps_pure _);simp only[Prod.mk.injEq,and_true] at h;obtain ⟨rfl,rfl⟩:=h;rw[size_canon _ _ _ e0,size_canon _ _ _ e1];simp only[snb,Int.toNat_natCast,List.append_assoc]
theorem pruned_canon:Canon prunedS prb:=fun l x l' h=>by
 obtain ⟨x0,l0,e0,h⟩:=bind_ok h (fun _=>nat_eats.keeps.bind fun _=>word_eats.keeps.bind fun _=>nat_eats.keeps.bind fun _=>keeps_pure _);obtain ⟨x1,l1,e1,h⟩:=bind_ok h (fun _=>word_eats.keeps.bind fun _=>nat_eats.keeps.bind fun _=>keeps_pure _);obtain ⟨x2,l2,e2,h⟩:=bind_ok h (fun _=>nat_eats.keeps.bind fun _=>keeps_pure _);obtain ⟨x3,l3,e3,h⟩:=bind_ok h (fun _=>keeps_pure _);simp only[Prod.mk.injEq,and_true] at h;obtain ⟨rfl,rfl⟩:=h;rw[word_canon _ _ _ e0,nat_canon _ _ _ e1,word_canon _ _ _ e2,nat_canon _ _ _ e3];simp only[prb,List.append_assoc]
theorem said_canon:Canon saidS wdb:=fun l x l' h=>by
 obtain ⟨x0,l0,e0,h⟩:=bind_ok h (fun _=>nat_eats.keeps.bind fun _=>word_eats.keeps.bind fun _=>nat_eats.keeps.bind fun _=>truth_eats.keeps.bind fun _=>nat_eats.keeps.bind fun _=>truth_eats.keeps.bind fun _=>keeps_pure _);obtain ⟨x1,l1,e1,h⟩:=bind_ok h (fun _=>word_eats.keeps.bind fun _=>nat_eats.keeps.bind fun _=>truth_eats.keeps.bind fun _=>nat_eats.keeps.bind fun _=>truth_eats.keeps.bind fun _=>keeps_pure _);obtain ⟨x2,l2,e2,h⟩:=bind_ok h (fun _=>nat_eats.keeps.bind fun _=>truth_eats.keeps.bind fun _=>nat_eats.keeps.bind fun _=>truth_eats.keeps.bind fun _=>keeps_pure _);obtain ⟨x3,l3,e3,h⟩:=bind_ok h (fun _=>truth_eats.keeps.bind fun _=>nat_eats.keeps.bind fun _=>truth_eats.keeps.bind fun _=>keeps_pure _);obtain ⟨x4,l4,e4,h⟩:=bind_ok h (fun _=>nat_eats.keeps.bind fun _=>truth_eats.keeps.bind fun _=>keeps_pure _);obtain ⟨x5,l5,e5,h⟩:=bind_ok h (fun _=>truth_eats.keeps.bind fun _=>keeps_pure _);obtain ⟨x6,l6,e6,h⟩:=bind_ok h (fun _=>keeps_pure _);simp only[Prod.mk.injEq,and_true] at h;obtain ⟨rfl,rfl⟩:=h;rw[word_canon _ _ _ e0,nat_canon _ _ _ e1,word_canon _ _ _ e2,nat_canon _ _ _ e3,truth_canon _ _ _ e4,nat_canon _ _ _ e5,truth_canon _ _ _ e6];simp only[wdb,List.append_assoc]
theorem plan_canon:Canon planS plb:=fun l x l' h=>by
 obtain ⟨x0,l0,e0,h⟩:=bind_ok h (fun _=>nat_eats.keeps.bind fun _=>word_eats.keeps.bind fun _=>pruned_eats.keeps.bind fun _=>truth_eats.keeps.bind fun _=>keeps_pure _);obtain ⟨x1,l1,e1,h⟩:=bind_ok h (fun _=>word_eats.keeps.bind fun _=>pruned_eats.keeps.bind fun _=>truth_eats.keeps.bind fun _=>keeps_pure _);obtain ⟨x2,l2,e2,h⟩:=bind_ok h (fun _=>pruned_eats.keeps.bind fun _=>truth_eats.keeps.bind fun _=>keeps_pure _);obtain ⟨x3,l3,e3,h⟩:=bind_ok h (fun _=>truth_eats.keeps.bind fun _=>keeps_pure _);obtain ⟨x4,l4,e4,h⟩:=bind_ok h (fun _=>keeps_pure _);simp only[Prod.mk.injEq,and_true] at h;obtain ⟨rfl,rfl⟩:=h;rw[word_canon _ _ _ e0,nat_canon _ _ _ e1,word_canon _ _ _ e2,pruned_canon _ _ _ e3,truth_canon _ _ _ e4];simp only[plb,List.append_assoc]
theorem member_canon:Canon memberS mbb:=fun l x l' h=>by
 obtain ⟨x0,l0,e0,h⟩:=bind_ok h (fun _=>small_eats.keeps.bind fun _=>size_eats.keeps.bind fun _=>size_eats.keeps.bind fun _=>nat_eats.keeps.bind fun _=>(many_eats span_eats).keeps.bind fun _=>plan_eats.keeps.bind fun _=>(many_eats said_eats).keeps.bind fun _=>keeps_pure _);obtain ⟨x1,l1,e1,h⟩:=bind_ok h (fun _=>size_eats.keeps.bind fun _=>size_eats.keeps.bind fun _=>nat_eats.keeps.bind fun _=>(many_eats span_eats).keeps.bind fun _=>plan_eats.keeps.bind fun _=>(many_eats said_eats).keeps.bind fun _=>keeps_pure _);obtain ⟨x2,l2,e2,h⟩:=bind_ok h (fun _=>size_eats.keeps.bind fun _=>nat_eats.keeps.bind fun _=>(many_eats span_eats).keeps.bind fun _=>plan_eats.keeps.bind fun _=>(many_eats said_eats).keeps.bind fun _=>keeps_pure _);obtain ⟨x3,l3,e3,h⟩:=bind_ok h (fun _=>nat_eats.keeps.bind fun _=>(many_eats span_eats).keeps.bind fun _=>plan_eats.keeps.bind fun _=>(many_eats said_eats).keeps.bind fun _=>keeps_pure _);obtain ⟨x4,l4,e4,h⟩:=bind_ok h (fun _=>(many_eats span_eats).keeps.bind fun _=>plan_eats.keeps.bind fun _=>(many_eats said_eats).keeps.bind fun _=>keeps_pure _);obtain ⟨x5,l5,e5,h⟩:=bind_ok h (fun _=>plan_eats.keeps.bind fun _=>(many_eats said_eats).keeps.bind fun _=>keeps_pure _);obtain ⟨x6,l6,e6,h⟩:=bind_ok h (fun _=>(many_eats said_eats).keeps.bind fun _=>keeps_pure _);obtain ⟨x7,l7,e7,h⟩:=bind_ok h (fun _=>keeps_pure _);simp only[Prod.mk.injEq,and_true] at h;obtain ⟨rfl,rfl⟩:=h;rw[word_canon _ _ _ e0,small_canon _ _ _ e1,size_canon _ _ _ e2,size_canon _ _ _ e3,nat_canon _ _ _ e4,many_canon span_eats span_canon _ _ _ e5,plan_canon _ _ _ e6,many_canon said_eats said_canon _ _ _ e7];simp only[mbb,Int.toNat_natCast,List.append_assoc]
theorem members_canon:Canon (manyS memberS) msb:=many_canon member_eats member_canon
end Taker
namespace Taker
open RowKit YtnpjkmomllkhpaaGreatDoor.Mark Num Wire Bag Coder Mem
abbrev Rdr (α:Type):=List UInt8→Int→α × List UInt8 × Int
def manyG {α:Type} (cnt:Rdr Nat) (each:Rdr α):Rdr (List α):=fun l E=>bindR (cnt l E) fun n l1 E1=>loopS each n l1 E1
def itemG (cnt:Rdr Nat):Rdr It:=fun l E=>bindR (wordS l E) fun x0 l0 E0=>bindR (manyG cnt dotS l0 E0) fun x1 l1 E1=>((⟨x0,x1⟩:It),l1,E1)
def entryG (cnt:Rdr Nat) (Z:List UInt8→List M→Rdr Coder.E):Rdr Coder.E:=fun l E=>bindR (wordS l E) fun k l0 E0=>bindR (manyG cnt markS l0 E0) fun s l1 E1 =>
 if kd k=1 then bindR (manyG cnt countS l1 E1) fun c l2 E2=>((⟨k,s,c,[],Cl.zero⟩:Coder.E),l2,E2)
 else if kd k=2 then bindR (manyG cnt (itemG cnt) l1 E1) fun i l2 E2=>((⟨k,s,[],i,Cl.zero⟩:Coder.E),l2,E2)
 else if kd k=3 then bindR (cellS l1 E1) fun c l2 E2=>((⟨k,s,[],[],c⟩:Coder.E),l2,E2)
 else Z k s l1 E1
def zS (k:List UInt8) (s:List M):Rdr Coder.E:=fun l1 E1=>((⟨k,s,[],[],Cl.zero⟩:Coder.E),l1,if E1≠0 then E1 else 8)
def zR (k:List UInt8) (s:List M):Rdr Coder.E:=fun l1 E1=>bindR (cellS l1 E1) fun c l2 E2=>((⟨k,s,[],[],c⟩:Coder.E),l2,E2)
def stateG (cnt:Rdr Nat) (Z:List UInt8→List M→Rdr Coder.E):Rdr S:=fun l E=>bindR (manyG cnt markS l E) fun x0 l0 E0=>bindR (manyG cnt (entryG cnt Z) l0 E0) fun x1 l1 E1=>bindR (manyG cnt wordS l1 E1) fun x2 l2 E2=>((⟨x0,x1,x2⟩:S),l2,E2)
def deltaG (cnt:Rdr Nat) (Z:List UInt8→List M→Rdr Coder.E):Rdr (List M × S):=fun l E=>bindR (manyG cnt markS l E) fun x0 l0 E0=>bindR (stateG cnt Z l0 E0) fun x1 l1 E1=>((x0,x1),l1,E1)
def spanG (sz:Rdr Nat):Rdr Sn:=fun l E=>bindR (sz l E) fun x0 l0 E0=>bindR (sz l0 E0) fun x1 l1 E1=>((⟨(x0:Nat),(x1:Nat)⟩:Sn),l1,E1)
def memberG (cnt sz:Rdr Nat):Rdr Mb:=fun l E=>bindR (wordS l E) fun x0 l0 E0=>bindR (smallS l0 E0) fun x1 l1 E1=>bindR (sz l1 E1) fun x2 l2 E2=>bindR (sz l2 E2) fun x3 l3 E3=>bindR (natS l3 E3) fun x4 l4 E4=>bindR (manyG cnt (spanG sz) l4 E4) fun x5 l5 E5=>bindR (planS l5 E5) fun x6 l6 E6=>bindR (manyG cnt saidS l6 E6) fun x7 l7 E7=>((⟨x0,x1,(x2:Nat),(x3:Nat),x4,x5,x6,x7⟩:Mb),l7,E7)
def cntS:Rdr Nat:=fun l E=>((numS (l.length:Nat) l E).1.toNat,(numS (l.length:Nat) l E).2)
def halfS:Rdr Nat:=fun l E=>((numS 2147483648 l E).1.toNat,(numS 2147483648 l E).2)
theorem state_is:stateS=stateG natS zS:=rfl
theorem delta_is:deltaS=deltaG natS zS:=rfl
theorem entry_is:entryS=entryG natS zS:=rfl
theorem members_is:manyS memberS=manyG natS (memberG natS sizeS):=rfl
theorem cnt_eats:Eats cntS:=⟨⟨fun l E hE=>(numS_eats _).keeps.stay l E hE,fun l=>(numS_eats (l.length:Nat)).keeps.most l⟩,fun l h=>(numS_eats (l.length:Nat)).less l h⟩
theorem half_eats:Eats halfS:=⟨⟨fun l E hE=>(numS_eats _).keeps.stay l E hE,fun l=>(numS_eats 2147483648).keeps.most l⟩,fun l h=>(numS_eats 2147483648).less l h⟩
variable {cnt cnt' sz sz':Rdr Nat} {Z Z':List UInt8→List M→Rdr Coder.E}
theorem manyG_eats {α:Type} {each:Rdr α} (hc:Eats cnt) (h:Eats each):Eats (manyG cnt each):=hc.bind fun n=>loopS_keeps h n
theorem itemG_eats (hc:Eats cnt):Eats (itemG cnt):=word_eats.bind fun _=>(manyG_eats hc dot_eats).keeps.bind fun _=>keeps_pure _
theorem tailG (hc:Eats cnt) (hZ:∀ k s,Keeps (Z k s)) (k:List UInt8) (s:List M):Keeps (fun l1 E1=>if kd k=1 then bindR (manyG cnt countS l1 E1) fun c l2 E2=>((⟨k,s,c,[],Cl.zero⟩:Coder.E),l2,E2)
 else if kd k=2 then bindR (manyG cnt (itemG cnt) l1 E1) fun i l2 E2=>((⟨k,s,[],i,Cl.zero⟩:Coder.E),l2,E2)
 else if kd k=3 then bindR (cellS l1 E1) fun c l2 E2=>((⟨k,s,[],[],c⟩:Coder.E),l2,E2)
 else Z k s l1 E1):=by
 by_cases k1:kd k=1
 ·simp only[if_pos k1];exact (manyG_eats hc count_eats).keeps.bind fun _=>keeps_pure _
 by_cases k2:kd k=2
 ·simp only[if_neg k1,if_pos k2];exact (manyG_eats hc (itemG_eats hc)).keeps.bind fun _=>keeps_pure _
 by_cases k3:kd k=3
 ·simp only[if_neg k1,if_neg k2,if_pos k3];exact cell_eats.keeps.bind fun _=>keeps_pure _
 simp only[if_neg k1,if_neg k2,if_neg k3];exact hZ k s
theorem entryG_eats (hc:Eats cnt) (hZ:∀ k s,Keeps (Z k s)):Eats (entryG cnt Z):=word_eats.bind fun k=>(manyG_eats hc mark_eats).keeps.bind fun s=>tailG hc hZ k s
theorem zS_keeps (k:List UInt8) (s:List M):Keeps (zS k s):=⟨fun l E hE=>by show (l,if E≠0 then E else 8)=(l,E);rw[if_pos hE],fun l=>Nat.le_refl _⟩
theorem zR_keeps (k:List UInt8) (s:List M):Keeps (zR k s):=cell_eats.keeps.bind fun _=>keeps_pure _
theorem stateG_keeps (hc:Eats cnt) (hZ:∀ k s,Keeps (Z k s)):Keeps (stateG cnt Z):=(manyG_eats hc mark_eats).keeps.bind fun _=>(manyG_eats hc (entryG_eats hc hZ)).keeps.bind fun _=>(manyG_eats hc word_eats).keeps.bind fun _=>keeps_pure _
theorem spanG_eats (hs:Eats sz):Eats (spanG sz):=hs.bind fun _=>hs.keeps.bind fun _=>keeps_pure _
theorem memberG_eats (hc:Eats cnt) (hs:Eats sz):Eats (memberG cnt sz):=word_eats.bind fun _=>small_eats.keeps.bind fun _=>hs.keeps.bind fun _=>hs.keeps.bind fun _=>nat_eats.keeps.bind fun _=>(manyG_eats hc (spanG_eats hs)).keeps.bind fun _=>plan_eats.keeps.bind fun _=>(manyG_eats hc said_eats).keeps.bind fun _=>keeps_pure _
def Sim {α:Type} (f g:Rdr α) (ok:α→Prop):Prop:=∀ l y l',l.length≤65536→ok y→f l 0=(y,l',0)→g l 0=(y,l',0)
def CSim (f g:Rdr Nat):Prop:=∀ l n l',l.length≤65536→n≤l.length→f l 0=(n,l',0)→g l 0=(n,l',0)
theorem num_sim {m m':Int} {l l':List UInt8} {n:Nat} (h0:0≤m) (hm:(n:Int)≤m') (h:((numS m l 0).1.toNat,(numS m l 0).2)=(n,l',0)):((numS m' l 0).1.toNat,(numS m' l 0).2)=(n,l',0):=by
 obtain ⟨e,-⟩:=nat_of h0 h;unfold numS at e ⊢;rw[if_neg (by simp)] at e ⊢;unfold numT at e ⊢;by_cases q:(rdL l).2.2=0
 ·simp only[q,ne_eq,not_true,if_false] at e ⊢;by_cases q2:m<(rdL l).1
  · rw[if_pos q2] at e;simp at e
  rw[if_neg q2] at e;simp only[Prod.mk.injEq,and_true,if_true] at e;rw[if_neg (by omega)];simp only[if_true,Prod.mk.injEq,and_true];exact ⟨by omega,e.2⟩
 simp[q] at e
theorem csim_SR:CSim natS cntS:=fun _ _ _ _ hn h=>num_sim (by decide) (by omega) h
theorem csim_RS:CSim cntS natS:=fun _ _ _ hl hn h=>num_sim (by omega) (by omega) h
theorem loop_max {α:Type} {each:Rdr α} (he:Eats each):∀ (n:Nat) (l:List UInt8) (E:Int) (xs:List α) (l':List UInt8),loopS each n l E=(xs,l',0)→xs.length=n∧n≤l.length
 | 0,l,E,xs,l',h=>by
  have h':(([]:List α),l,E)=(xs,l',0):=h;simp only[Prod.mk.injEq] at h';rw[← h'.1];simp
 | n+1,l,E,xs,l',h=>by
  have h':(if E≠0 then (([]:List α),l,E) else bindR (each l E) fun x l1 E1=>bindR (loopS each n l1 E1) fun xs l2 E2=>(x::xs,l2,E2))=(xs,l',0):=h;by_cases hE:E=0
  ·subst hE;rw[if_neg (by simp)] at h';obtain ⟨y,l1,e1,h1⟩:=bind_ok h' (fun x=>(loopS_keeps he n).bind fun xs=>keeps_pure _);obtain ⟨ys,l2,e2,h2⟩:=bind_ok h1 (fun xs=>keeps_pure _);simp only[Prod.mk.injEq,and_true] at h2;obtain ⟨rfl,rfl⟩:=h2;have i:=loop_max he n _ _ _ _ e2;have:=he.less l (by rw[e1]);rw[e1] at this;simp only at this;rw[List.length_cons];omega
  rw[if_pos hE] at h';simp only[Prod.mk.injEq] at h';exact absurd h'.2.2 hE
theorem loop_sim {α:Type} {f g:Rdr α} {ok:α→Prop} (he:Eats f) (hs:Sim f g ok):∀ (n:Nat) (l:List UInt8) (xs:List α) (l':List UInt8),l.length≤65536→(∀ x ∈ xs,ok x)→loopS f n l 0=(xs,l',0)→loopS g n l 0=(xs,l',0)
 | 0,_,_,_,_,_,h=>h
 | n+1,l,xs,l',hl,hx,h=>by
  have h':(if (0:Int)≠0 then (([]:List α),l,(0:Int)) else bindR (f l 0) fun x l1 E1=>bindR (loopS f n l1 E1) fun xs l2 E2=>(x::xs,l2,E2))=(xs,l',0):=h;rw[if_neg (by simp)] at h';obtain ⟨y,l1,e1,h1⟩:=bind_ok h' (fun x=>(loopS_keeps he n).bind fun xs=>keeps_pure _);obtain ⟨ys,l2,e2,h2⟩:=bind_ok h1 (fun xs=>keeps_pure _);simp only[Prod.mk.injEq,and_true] at h2;obtain ⟨rfl,rfl⟩:=h2;have hl1:=he.keeps.len e1;show (if (0:Int)≠0 then (([]:List α),l,(0:Int)) else bindR (g l 0) fun x l1 E1=>bindR (loopS g n l1 E1) fun xs l2 E2=>(x::xs,l2,E2))=_
  rw[if_neg (by simp),hs _ _ _ hl (hx _ (List.mem_cons_self ..)) e1];simp only[bindR];rw[loop_sim he hs n _ _ _ (by omega) (fun x h=>hx x (List.mem_cons_of_mem _ h)) e2]
theorem many_sim {α:Type} {f g:Rdr α} {ok:α→Prop} (hc:Eats cnt) (h:CSim cnt cnt') (he:Eats f) (hs:Sim f g ok):Sim (manyG cnt f) (manyG cnt' g) (fun xs=>∀ x ∈ xs,ok x):=fun l xs l' hl hx e=>by
 obtain ⟨n,l1,e1,h1⟩:=bind_ok e (fun n=>loopS_keeps he n);have hn:=loop_max he _ _ _ _ _ h1;have hl1:=hc.keeps.len e1;have e2:=h _ _ _ hl (by omega) e1;show bindR (cnt' l 0) _=_
 rw[e2];exact loop_sim he hs n l1 _ _ (by omega) hx h1
theorem sim_refl {α:Type} {f:Rdr α}:Sim f f (fun _=>True):=fun _ _ _ _ _ h=>h
theorem sim_all {α:Type} {f g:Rdr (List α)} (h:Sim f g (fun xs=>∀ x ∈ xs,True)):Sim f g (fun _=>True):=fun _ _ _ hl _ e=>h _ _ _ hl (fun _ _=>trivial) e
theorem flat_sim {α:Type} {f:Rdr α} (hc:Eats cnt) (h:CSim cnt cnt') (he:Eats f):Sim (manyG cnt f) (manyG cnt' f) (fun _=>True):=sim_all (many_sim hc h he sim_refl)
theorem item_sim (hc:Eats cnt) (h:CSim cnt cnt'):Sim (itemG cnt) (itemG cnt') (fun _=>True):=fun l y l' hl _ e=>by
 obtain ⟨x0,l0,e0,e⟩:=bind_ok e (fun _=>(manyG_eats hc dot_eats).keeps.bind fun _=>keeps_pure _);obtain ⟨x1,l1,e1,e⟩:=bind_ok e (fun _=>keeps_pure _);have s1:=flat_sim hc h dot_eats _ _ _ (Nat.le_trans (word_eats.keeps.len e0) hl) trivial e1;unfold itemG;simp only[bindR,e0,s1];exact e
theorem entry_sim (hc:Eats cnt) (h:CSim cnt cnt') (hZ:∀ k s,Keeps (Z k s)) (hZk:∀ k s l E,(Z k s l E).1.k=k):Sim (entryG cnt Z) (entryG cnt' Z') (fun y=>kd y.k≠0):=fun l y l' hl hk e=>by
 obtain ⟨k,l0,e0,e⟩:=bind_ok e (fun k=>(manyG_eats hc mark_eats).keeps.bind fun s=>tailG hc hZ k s);obtain ⟨s,l1,e1,e⟩:=bind_ok e (fun s=>tailG hc hZ k s);have hl0:=Nat.le_trans (word_eats.keeps.len e0) hl;have hl1:=Nat.le_trans ((manyG_eats hc mark_eats).keeps.len e1) hl0;have s1:=flat_sim hc h mark_eats _ _ _ hl0 trivial e1;unfold entryG;simp only[bindR,e0,s1];by_cases k1:kd k=1
 ·simp only[if_pos k1] at e ⊢;obtain ⟨c,l2,e2,e⟩:=bind_ok e (fun _=>keeps_pure _);rw[flat_sim hc h count_eats _ _ _ hl1 trivial e2];exact e
 by_cases k2:kd k=2
 ·simp only[if_neg k1,if_pos k2] at e ⊢;obtain ⟨c,l2,e2,e⟩:=bind_ok e (fun _=>keeps_pure _);rw[sim_all (many_sim hc h (itemG_eats hc) (item_sim hc h)) _ _ _ hl1 trivial e2];exact e
 by_cases k3:kd k=3
 ·simp only[if_neg k1,if_neg k2,if_pos k3] at e ⊢;exact e
 simp only[if_neg k1,if_neg k2,if_neg k3] at e;have:=hZk k s l1 0;rw[e] at this;have:=kd_le k;simp only at *;subst_vars
 omega
theorem state_sim (hc:Eats cnt) (h:CSim cnt cnt') (hZ:∀ k s,Keeps (Z k s)) (hZk:∀ k s l E,(Z k s l E).1.k=k):Sim (stateG cnt Z) (stateG cnt' Z') (fun y=>∀ x ∈ y.e,kd x.k≠0):=fun l y l' hl hk e=>by
 obtain ⟨x0,l0,e0,e⟩:=bind_ok e (fun _=>(manyG_eats hc (entryG_eats hc hZ)).keeps.bind fun _=>(manyG_eats hc word_eats).keeps.bind fun _=>keeps_pure _);obtain ⟨x1,l1,e1,e⟩:=bind_ok e (fun _=>(manyG_eats hc word_eats).keeps.bind fun _=>keeps_pure _);obtain ⟨x2,l2,e2,e⟩:=bind_ok e (fun _=>keeps_pure _);simp only[Prod.mk.injEq,and_true] at e;obtain ⟨rfl,rfl⟩:=e;have hl0:=Nat.le_trans ((manyG_eats hc mark_eats).keeps.len e0) hl;have hl1:=Nat.le_trans ((manyG_eats hc (entryG_eats hc hZ)).keeps.len e1) hl0;unfold stateG;simp only[bindR,flat_sim hc h mark_eats _ _ _ hl trivial e0,many_sim hc h (entryG_eats hc hZ) (entry_sim (Z':=Z') hc h hZ hZk) _ _ _ hl0 hk e1,flat_sim hc h word_eats _ _ _ hl1 trivial e2]
theorem delta_sim (hc:Eats cnt) (h:CSim cnt cnt') (hZ:∀ k s,Keeps (Z k s)) (hZk:∀ k s l E,(Z k s l E).1.k=k):Sim (deltaG cnt Z) (deltaG cnt' Z') (fun y=>∀ x ∈ y.2.e,kd x.k≠0):=fun l y l' hl hk e=>by
 obtain ⟨x0,l0,e0,e⟩:=bind_ok e (fun _=>(stateG_keeps hc hZ).bind fun _=>keeps_pure _);obtain ⟨x1,l1,e1,e⟩:=bind_ok e (fun _=>keeps_pure _);simp only[Prod.mk.injEq,and_true] at e;obtain ⟨rfl,rfl⟩:=e;have hl0:=Nat.le_trans ((manyG_eats hc mark_eats).keeps.len e0) hl;unfold deltaG;simp only[bindR,flat_sim hc h mark_eats _ _ _ hl trivial e0,state_sim (Z':=Z') hc h hZ hZk _ _ _ hl0 hk e1]
def HSim (f g:Rdr Nat):Prop:=∀ l n l',n≤2147483648→f l 0=(n,l',0)→g l 0=(n,l',0)
theorem hsim_SR:HSim sizeS halfS:=fun _ _ _ hn h=>num_sim (by decide) (by omega) h
theorem hsim_RS:HSim halfS sizeS:=fun _ _ _ hn h=>num_sim (by decide) (by omega) h
def SpOk (x:Sn):Prop:=x.f≤2147483648∧x.t≤2147483648
theorem span_sim (hs:Eats sz) (h:HSim sz sz'):Sim (spanG sz) (spanG sz') SpOk:=fun l y l' hl hk e=>by
 obtain ⟨x0,l0,e0,e⟩:=bind_ok e (fun _=>hs.keeps.bind fun _=>keeps_pure _);obtain ⟨x1,l1,e1,e⟩:=bind_ok e (fun _=>keeps_pure _);simp only[Prod.mk.injEq,and_true] at e;obtain ⟨rfl,rfl⟩:=e;obtain ⟨k1,k2⟩:=hk;simp only at k1 k2;unfold spanG;simp only[bindR,h _ _ _ (show x0≤2147483648 by omega) e0,h _ _ _ (show x1≤2147483648 by omega) e1]
def MbOk (x:Mb):Prop:=x.k≤2147483648∧x.c≤2147483648∧∀ s ∈ x.g,SpOk s
theorem member_sim (hc:Eats cnt) (h:CSim cnt cnt') (hs:Eats sz) (hz:HSim sz sz'):Sim (memberG cnt sz) (memberG cnt' sz') MbOk:=fun l y l' hl hk e=>by
 obtain ⟨x0,l0,e0,e⟩:=bind_ok e (fun _=>small_eats.keeps.bind fun _=>hs.keeps.bind fun _=>hs.keeps.bind fun _=>nat_eats.keeps.bind fun _=>(manyG_eats hc (spanG_eats hs)).keeps.bind fun _=>plan_eats.keeps.bind fun _=>(manyG_eats hc said_eats).keeps.bind fun _=>keeps_pure _);obtain ⟨x1,l1,e1,e⟩:=bind_ok e (fun _=>hs.keeps.bind fun _=>hs.keeps.bind fun _=>nat_eats.keeps.bind fun _=>(manyG_eats hc (spanG_eats hs)).keeps.bind fun _=>plan_eats.keeps.bind fun _=>(manyG_eats hc said_eats).keeps.bind fun _=>keeps_pure _);obtain ⟨x2,l2,e2,e⟩:=bind_ok e (fun _=>hs.keeps.bind fun _=>nat_eats.keeps.bind fun _=>(manyG_eats hc (spanG_eats hs)).keeps.bind fun _=>plan_eats.keeps.bind fun _=>(manyG_eats hc said_eats).keeps.bind fun _=>keeps_pure _);obtain ⟨x3,l3,e3,e⟩:=bind_ok e (fun _=>nat_eats.keeps.bind fun _=>(manyG_eats hc (spanG_eats hs)).keeps.bind fun _=>plan_eats.keeps.bind fun _=>(manyG_eats hc said_eats).keeps.bind fun _=>keeps_pure _);obtain ⟨x4,l4,e4,e⟩:=bind_ok e (fun _=>(manyG_eats hc (spanG_eats hs)).keeps.bind fun _=>plan_eats.keeps.bind fun _=>(manyG_eats hc said_eats).keeps.bind fun _=>keeps_pure _);obtain ⟨x5,l5,e5,e⟩:=bind_ok e (fun _=>plan_eats.keeps.bind fun _=>(manyG_eats hc said_eats).keeps.bind fun _=>keeps_pure _);obtain ⟨x6,l6,e6,e⟩:=bind_ok e (fun _=>(manyG_eats hc said_eats).keeps.bind fun _=>keeps_pure _);obtain ⟨x7,l7,e7,e⟩:=bind_ok e (fun _=>keeps_pure _);simp only[Prod.mk.injEq,and_true] at e;obtain ⟨rfl,rfl⟩:=e;obtain ⟨k1,k2,k3⟩:=hk;simp only at k1 k2 k3;have a0:=word_eats.keeps.len e0;have a1:=small_eats.keeps.len e1;have a2:=hs.keeps.len e2;have a3:=hs.keeps.len e3;have a4:=nat_eats.keeps.len e4;have a5:=(manyG_eats hc (spanG_eats hs)).keeps.len e5;have a6:=plan_eats.keeps.len e6;unfold memberG;simp only[bindR,e0,e1,hz _ _ _ (show x2≤2147483648 by omega) e2,hz _ _ _ (show x3≤2147483648 by omega) e3,e4,many_sim hc h (spanG_eats hs) (span_sim hs hz) _ _ _ (by omega) k3 e5,e6,flat_sim hc h said_eats _ _ _ (by omega) trivial e7]
theorem members_sim (hc:Eats cnt) (h:CSim cnt cnt') (hs:Eats sz) (hz:HSim sz sz'):Sim (manyG cnt (memberG cnt sz)) (manyG cnt' (memberG cnt' sz')) (fun L=>∀ x ∈ L,MbOk x):=many_sim hc h (memberG_eats hc hs) (member_sim hc h hs hz)
end Taker
namespace RTake
open RowKit YtnpjkmomllkhpaaGreatDoor.Mark Num Wire Bag Coder Taker
theorem nat_any (b:Nat) (l:List UInt8) (E:Int) (w:World) (h:RB w b l E) (x:Nat) (l':List UInt8) (E':Int) (hn:natS l E=(x,l',E')) :
  Calls Tryz.prog 85 #[.pointer (some ⟨b,0,none⟩),.int .u64 18446744073709551615] w fun e w'=>e=.returned x∧RB w' b l' E'∧But b w w' :=
 num_any b l E 18446744073709551615 w h _ l' E' (nat_of (by decide) hn).1
theorem cnt_le {l l':List UInt8} {E E':Int} {n:Nat} (hl:l.length≤65536) (h:cntS l E=(n,l',E')):n≤65536:=by
 have:=(nat_of (by omega) h).2;omega
theorem RB.low {w w':World} {b B:Nat} {l:List UInt8} {E:Int} (h:RB w b l E) (k:Below B w w') (hb:b<B):RB w' b l E:=by
 obtain ⟨s,h1,hl,hs⟩:=h;exact ⟨s,h1.low k hb,hl,hs⟩
theorem count_any (b:Nat) (l:List UInt8) (E:Int) (w:World) (h:RB w b l E) (x:Nat) (l':List UInt8) (E':Int) (hn:cntS l E=(x,l',E')) :
  Calls Tryz.prog 80 #[.pointer (some ⟨b,0,none⟩)] w fun e w'=>e=.returned (.int .i64 x)∧RB w' b l' E'∧But b w w':=by
 obtain ⟨s,c0,c1,z,hlt,hs⟩:=h.to;have hsz:=Str.size_mk s;have C:=hid (int_any b l E (s.length:Nat) (by omega) (by omega) w h x l' E' (by
  by_cases hE:E=0
  ·subst hE;have e:=h.at.1.1;rw[c0] at e;have e:s=l:=by simpa using e
   rw[e];exact (nat_of (by omega) hn).1
  unfold cntS numS at hn;rw[if_pos hE] at hn;simp only[Prod.mk.injEq] at hn;obtain ⟨rfl,rfl,rfl⟩:=hn;unfold numS;rw[if_pos hE];rfl))
 clear h hn hs;go_enter Tryz.func80,Tryz.ntmps80;go_wp2_with fail
 refine C.out.mono ?_;rintro e w1 ⟨rfl,r,k⟩;have R:=hid r;have K:=hid k;clear r k;go_wp2;go_ret;exact ⟨rfl,R.out,K.out⟩
theorem manyG_len {α:Type} {cnt:Rdr Nat} {each:Rdr α} (hc:Eats cnt) (he:Eats each) {l l':List UInt8} {E E':Int} {xs:List α} (h:manyG cnt each l E=(xs,l',E')):xs.length≤l.length+1:=by
 obtain ⟨n,l1,E1,q⟩:=tr (cnt l E);have e1:loopS each n l1 E1=(xs,l',E'):=by rw[← h];unfold manyG;simp only[bindR,q]
 have h1:=hc.keeps.len q;have h2:=loop_len he n l1 E1;rw[e1] at h2;simp only at h2;omega
structure Lp {α β:Type} (each:Rdr α) (loc:β→α) (n:Nat) (xs:List α) (l':List UInt8) (E':Int) (k:Nat) (ys:List β) (l1:List UInt8) (E1:Int):Prop where
 e:bindR (loopS each (n - k) l1 E1) (fun zs l2 E2=>(ys.map loc++zs,l2,E2))=(xs,l',E')
 le:k≤n
 sz:ys.length+l1.length≤65537∧l1.length≤65536∧(E1=0→ys.length+l1.length≤65536)
section
variable {α β:Type} {each:Rdr α} {loc:β→α} {n k:Nat} {xs:List α} {ys:List β} {l l' l1 l2:List UInt8} {E E' E1 E2:Int} {x:β}
theorem Lp.start (hl:l.length≤65536) (h:loopS each n l E=(xs,l',E')):Lp each loc n xs l' E' 0 [] l E:=⟨by simp only[Nat.sub_zero,List.map_nil,List.nil_append];rw[← h];rfl,Nat.zero_le _,by simp only[List.length_nil];omega,hl,fun _=>by simp only[List.length_nil];omega⟩
theorem Lp.next (he:Eats each) (h:Lp each loc n xs l' E' k ys l1 0) (hk:k<n) (hx:each l1 0=(loc x,l2,E2)):Lp each loc n xs l' E' (k+1) (ys++[x]) l2 E2:=by
 obtain ⟨e,le,s1,s2,s3⟩:=h;have hl:=he.keeps.len hx;have s3:=s3 rfl;refine ⟨?_,hk,?_,by omega,fun e2=>?_⟩
 ·rw[← e,show n - k=(n - (k+1))+1 by omega];show _=bindR (if (0:Int)≠0 then _ else bindR (each l1 0) fun x l1 E1=>bindR (loopS each (n - (k+1)) l1 E1) fun xs l2 E2=>(x::xs,l2,E2)) _
  rw[if_neg (by simp),hx];simp only[bindR,List.map_append,List.map_cons,List.map_nil,List.append_assoc,List.singleton_append]
 · simp only[List.length_append,List.length_singleton];omega
 have h1:=he.less l1 (by rw[hx];exact e2);rw[hx] at h1;simp only at h1;simp only[List.length_append,List.length_singleton];omega
theorem Lp.done (h:Lp each loc n xs l' E' k ys l1 E1) (hd:¬ k<n∨E1≠0):ys.map loc=xs∧l1=l'∧E1=E':=by
 obtain ⟨e,le,-⟩:=h;have q:loopS each (n - k) l1 E1=([],l1,E1):=by
  rcases hd with hd | hd
  · rw[show n - k=0 by omega];rfl
  exact loopS_err _ _ _ hd
 rw[q] at e;have e:(ys.map loc++[],l1,E1)=(xs,l',E'):=e;rw[List.append_nil] at e;simpa only[Prod.mk.injEq] using e
end
theorem marks_any (b:Nat) (l:List UInt8) (E:Int) (w:World) (h:RB w b l E) (hl:l.length≤65536) (xs:List M) (l':List UInt8) (E':Int) (hn:manyG cntS markS l E=(xs,l',E')) :
  Calls Tryz.prog 77 #[.pointer (some ⟨b,0,none⟩)] w fun e w'=>∃ a c,e=.returned (.slice a xs.length c)∧OwnM w' w.heap.size a c xs∧RB w' b l' E'∧But b w w':=by
 obtain ⟨n,l0,E0,q0⟩:=tr (cntS l E);have P0:Hid (Lp markS id n xs l' E' 0 [] l0 E0):=hid (Lp.start (Nat.le_trans (cnt_eats.keeps.len q0) hl) (by rw[← hn];unfold manyG;simp only[bindR,q0]));have hlt:=h.lt;have hn6:=cnt_le hl q0;have C:=hid (count_any b l E w h n l0 E0 q0);clear h hn q0 hl;go_enter Tryz.func77,Tryz.ntmps77;go_wp2_with fail
 refine C.out.mono ?_;rintro e w1 ⟨rfl,r,k⟩;have R:=hid r;have K:=hid k;have O:=hid (Row.Own.nil (E:=dE) (te:=96) w1 w.heap.size);have HB:=hid hlt;clear r k hlt C;go_wp2_with fail
 go_loopw [3,5] (fun lv iv wr=>∃ (k:Nat) (ys:List M) (l1:List UInt8) (E1:Int),iv=.int .i64 k∧k≤n∧Hid (Lp markS id n xs l' E' k ys l1 E1)∧Hid (Row.Own dE 96 wr w.heap.size lv ys)∧Hid (RB wr b l1 E1)∧Hid (But b w wr)) (fun _ iv _=>n - (intOf iv).toNat)
 case atStart=>exact ⟨0,[],l0,E0,rfl,by omega,P0,O,R,K⟩
 clear O R K P0;obtain ⟨k,ys,l1,E1,rfl,hkn,P,O,R,K⟩:=hrel;by_cases hk:k<n;rotate_left
 ·have d1:decide ((k:Int)<(n:Int))=false:=dF;have d1':=dF (p:=k<n);have HD:=hid (P.out.done (.inl hk));clear P hk;go_wp2;go_ret;obtain ⟨e1,rfl,rfl⟩:=HD.out;rw[List.map_id] at e1;subst e1;obtain ⟨a,c,rfl,-⟩:=O.out.lies;exact ⟨a,c,rfl,O.out,R.out,K.out⟩
 have d1:=dT (p:=(k:Int)<(n:Int));have d1':=dT (p:=k<n);by_cases hE:E1=0;rotate_left
 ·obtain ⟨s,c0,c1,z,hlt,-⟩:=R.out.to;have d3:(E1 == 0)=false:=by rw[beq_eq_false_iff_ne];exact hE
  have HD:=hid (P.out.done (.inr hE));clear P hE hk;go_wp2;go_ret;obtain ⟨e1,rfl,rfl⟩:=HD.out;rw[List.map_id] at e1;subst e1;obtain ⟨a,c,rfl,-⟩:=O.out.lies;exact ⟨a,c,rfl,O.out,R.out,K.out⟩
 subst hE;obtain ⟨⟨c0,c1⟩,z,hlt,-⟩:=R.out.at;obtain ⟨x0,l2,E2,q0⟩:=tr (wordS l1 0);obtain ⟨x1,l3,E3,q1⟩:=tr (natS l2 E2);have P':=hid (P.out.next (x:=(⟨x0,x1⟩:M)) mark_eats hk (by unfold markS;simp only[bindR,q0,q1];rfl));have Q0:=hid q0;have Q1:=hid q1;have HK:=hid hk;have HS:Hid (ys.length≤65537):=hid (by have:=P.out.sz;omega);clear q0 q1 hk P d1';go_wp2_with fail
 refine (text_any b _ _ _ R.out _ _ _ Q0.out).mono ?_;rintro e w2 ⟨rfl,r,k2⟩;replace R:=hid r;replace O:=hid (own_but O.out k2 HB.out);replace K:=hid (K.out.trans k2);clear r k2 c0 c1 z hlt;go_wp2_with fail
 refine (nat_any b _ _ _ R.out _ _ _ Q1.out).mono ?_;rintro e w3 ⟨rfl,r,k2⟩;replace R:=hid r;replace O:=hid (own_but O.out k2 HB.out);replace K:=hid (K.out.trans k2);clear r k2;have HB3:Hid (w.heap.size≤w3.heap.size):=hid K.out.size;go_wp2_with (at_builtin;refine Row.wpList_app typM rfl _ _ rfl w.heap.size _ ys rfl (O.out.alloc _) _ 1 1 [⟨x0,x1⟩] rfl (Row.lies_new _ (⟨x0,x1⟩:M) _) (by have:=HS.out;omega) (by have:=HB3.out;rw[World.size_alloc];omega) ?_;intro v9 w9 o9 g9 k9)
 replace O:=hid o9;replace k9:=((Below.refl w.heap.size w3).alloc HB3.out _).trans k9;replace R:=hid (R.out.low k9 HB.out);replace K:=hid (but_then K.out k9 (Nat.le_refl _));clear k9 g9 o9;go_roundw
 ·exact ⟨k+1,ys++[⟨x0,x1⟩],l3,E3,by go_num,HK.out,P',O,R,K⟩
 simp[intOf];have:=HK.out;omega
end RTake
namespace Taker
open RowKit YtnpjkmomllkhpaaGreatDoor.Mark Num Wire Bag Coder
theorem endS_zero {l:List UInt8} {E:Int} (h:endS l E=0):E=0∧l=[]:=by
 unfold endS at h;split at h
 · rename_i q;exact absurd h q
 rename_i q
 split at h
 · rename_i q2;exact ⟨by simpa using q,by simpa using q2⟩
 exact absurd h (by decide)
theorem lst_mem {α:Type} (f:α→List UInt8) {L:List α} {x:α} (h:x ∈ L):(f x).length≤(lst f L).length:=by
 unfold lst;rw[List.length_append];have:(f x).length≤(L.flatMap f).length:=by
  induction L with
  | nil=>cases h
  | cons y L ih =>
   rw[List.flatMap_cons,List.length_append];rcases List.mem_cons.1 h with rfl | h
   · omega
   have:=ih h;omega
 omega
structure FitS (y:S):Prop where
 a:y.a.length≤65537∧∀ m ∈ y.a,FitM m
 e:y.e.length≤65537∧∀ m ∈ y.e,FitE m
 p:y.p.length≤65537∧∀ m ∈ y.p,m.length≤65536
theorem state_fit {l l':List UInt8} {E E':Int} {y:S} (hz:l.length≤65536) (h:stateS l E=(y,l',E')):FitS y:=by
 obtain ⟨x0,l0,E0,q0⟩:=tr (manyS markS l E);obtain ⟨x1,l1,E1,q1⟩:=tr (manyS entryS l0 E0);obtain ⟨x2,l2,E2,q2⟩:=tr (manyS wordS l1 E1);simp only[stateS,bindR,q0,q1,q2,Prod.mk.injEq] at h;rw[← h.1];have k0:=(many_eats mark_eats).keeps.len q0;have k1:=(many_eats entry_eats).keeps.len q1;have n0:=many_len mark_eats q0;have n1:=many_len entry_eats q1;have n2:=many_len word_eats q2;refine ⟨⟨by show x0.length≤_;omega,many_all (P:=FitM) (fun _ _ _ _ _ e=>mark_fit e) q0⟩,⟨by show x1.length≤_;omega,?_⟩,⟨by show x2.length≤_;omega,many_all (P:=fun m=>m.length≤65536) (fun _ _ _ _ _ e=>word_len e) q2⟩⟩;obtain ⟨n,m,F,e⟩:=tr (natS l0 E0);simp only[manyS,bindR,e] at q1;have kn:=nat_eats.keeps.len e;have:=loop_fit entry_eats (P:=FitE) (fun _ _ _ _ _ hl e=>entry_fit hl e) n m F (by omega);rw[q1] at this;exact this
theorem FitS.ok {x:RS} (h:FitS x.s) (hl:(stb x.s).length≤65536):x.Ok where
 a:=by have:=h.a.1;have e:x.s.a=x.a:=rfl;rw[e] at this;omega
 am m hm:=by have:=h.a.2 m hm;exact ⟨by have:=this.1;omega,this.2⟩
 e:=by have:=h.e.1;have e:x.s.e.length=x.e.length:=List.length_map ..;rw[e] at this;omega
 em y hy:=by
  have hm:y.e ∈ x.s.e:=List.mem_map.2 ⟨y,hy,rfl⟩;refine ⟨FitE.ok (h.e.2 y.e hm),?_⟩;have:=lst_mem en hm;unfold stb at hl;simp only[List.length_append] at hl;show (en y.e).length≤_
  omega
 p:=by have:=h.p.1;have e:x.s.p=x.p:=rfl;rw[e] at this;omega
 pm m hm:=by have:=h.p.2 m hm;omega
theorem FitS.fine {x:RS} (h:FitS x.s):x.Fine:=fun y hy=>FitE.fine (y:=y.e) (h.e.2 y.e (List.mem_map.2 ⟨y,hy,rfl⟩))
def RS.zero:RS:=⟨none,0,[],none,0,[],none,0,[]⟩
theorem own_zeroS (w:World) (B:Nat):OwnS w B RS.zero:=⟨OwnM.nil _ _,⟨Row.Own.nil _ _,fun y hy=>by cases hy⟩,Row.Own.nil _ _⟩
theorem fit_zeroS:FitS RS.zero.s:=⟨⟨by decide,fun m hm=>by cases hm⟩,⟨by decide,fun m hm=>by cases hm⟩,⟨by decide,fun m hm=>by cases hm⟩⟩
theorem whole_state (s:List UInt8) (w:World) (hz:s.length≤65536) (y:S) (l':List UInt8) (E':Int) (hn:stateS s 0=(y,l',E')) :
  Calls Tryz.prog 69 #[s,.func (.func 70) #[] #[],.func (.func 42) #[] #[]] w fun e w'=>∃ x:RS,e=.returned (.tuple #[.agg x,.int .i64 (errS (okS l' E' (mayS y)))])∧(x.s=pickS (okS l' E' (mayS y)) y RS.zero.s∧FitS x.s)∧OwnS w' w.heap.size x∧Below w.heap.size w w':=by
 have HFY:=state_fit hz hn;refine (wholeT (fun x:RS=>x) [.slice none 0 0,.slice none 0 0,.slice none 0 0] 33 (by simp) (fun _=>by simp) (fun x=>x.s=y) (fun W B x=>OwnS W B x) Tryz.func69 Tryz.ntmps69 Tryz.results69 (q:=mayS y) hz
  (fun b W h=>(state_read b s 0 W h (by omega) y l' E' hn).mono fun e w' ⟨x,h1,h2,h3,h4⟩=>⟨x,h1,h2,h3,h4⟩)
  (fun h0 x W B hx ox=>hx ▸ mayS_any x W ox.inner (FitS.ok (x:=x) (by rw[hx];exact HFY) (by
   obtain ⟨rfl,rfl⟩:=endS_zero h0;have:=congrArg List.length (state_canon s y [] hn);rw[List.append_nil] at this;rw[hx];omega)) (FitS.fine (x:=x) (by rw[hx];exact HFY))) (fun _ _ _ _ _ o k hb=>o.but k hb) (fun _ _ _ _ o hB=>o.base hB)).mono ?_
 rintro e w' (⟨h,x,rfl,rfl,ho,hb⟩ | ⟨h,rfl,hb⟩)
 · rw[h];exact ⟨x,rfl,⟨rfl,HFY⟩,ho,hb⟩
 rw[h];exact ⟨RS.zero,rfl,⟨rfl,fit_zeroS⟩,own_zeroS _ _,hb⟩
theorem read_state (s:List UInt8) (w:World) (hz:s.length≤65536) (y:S) (l':List UInt8) (E':Int) (hn:stateS s 0=(y,l',E')) :
  Calls Tryz.prog 21 #[s] w fun e w'=>∃ x:RS,e=.returned (.tuple #[.agg x,.int .i64 (errS (okS l' E' (mayS y)))])∧(x.s=pickS (okS l' E' (mayS y)) y RS.zero.s∧FitS x.s)∧OwnS w' w.heap.size x∧Below w.heap.size w w' :=
 readT (fun x:RS=>x) [.slice none 0 0,.slice none 0 0,.slice none 0 0] 33 (by simp) (fun x=>x.s=pickS (okS l' E' (mayS y)) y RS.zero.s∧FitS x.s) (fun W B x=>OwnS W B x) Tryz.func21 Tryz.ntmps21 Tryz.results21 (fun W=>whole_state s W hz y l' E' hn) (fun _ _ _ _ _ o k hb=>o.but k hb) (fun _ _ _ _ o hB=>o.base hB)
def RD.zero:RD:=⟨none,0,[],RS.zero⟩
theorem OwnDl.but {w w':World} {B b:Nat} {d:RD} (h:OwnDl w B d) (k:But b w w') (hb:b<B):OwnDl w' B d:=⟨h.1.but k hb,h.2.but k hb⟩
theorem OwnDl.base {w:World} {B B':Nat} {d:RD} (h:OwnDl w B d) (hB:B'≤B):OwnDl w B' d:=⟨h.1.base hB,h.2.base hB⟩
def FitB (L:List M):Prop:=L.length≤65537∧∀ m ∈ L,FitM m
theorem delta_fit {l l':List UInt8} {E E':Int} {y:List M × S} (hz:l.length≤65536) (h:deltaS l E=(y,l',E')):FitB y.1∧FitS y.2:=by
 obtain ⟨x0,l0,E0,q0⟩:=tr (manyS markS l E);obtain ⟨x1,l1,E1,q1⟩:=tr (stateS l0 E0);simp only[deltaS,bindR,q0,q1,Prod.mk.injEq] at h;rw[← h.1];have k0:=(many_eats mark_eats).keeps.len q0;have n0:=many_len mark_eats q0;exact ⟨⟨by show x0.length≤_;omega,many_all (P:=FitM) (fun _ _ _ _ _ e=>mark_fit e) q0⟩,state_fit (by omega) q1⟩
theorem whole_delta (s:List UInt8) (w:World) (hz:s.length≤65536) (y:List M × S) (l':List UInt8) (E':Int) (hn:deltaS s 0=(y,l',E')) :
  Calls Tryz.prog 75 #[s,.func (.func 76) #[] #[],.func (.func 47) #[] #[]] w fun e w'=>∃ d:RD,e=.returned (.tuple #[.agg d,.int .i64 (errS (okS l' E' (mayD y.1 y.2)))])∧((d.b,d.x.s)=pickS (okS l' E' (mayD y.1 y.2)) y ([],RS.zero.s)∧FitB d.b∧FitS d.x.s)∧OwnDl w' w.heap.size d∧Below w.heap.size w w':=by
 have HFY:=delta_fit hz hn;refine (wholeT (fun d:RD=>d) [.slice none 0 0,.slice none 0 0,.slice none 0 0,.slice none 0 0] 35 (by simp) (fun _=>by simp) (fun d=>(d.b,d.x.s)=y) (fun W B d=>OwnDl W B d) Tryz.func75 Tryz.ntmps75 Tryz.results75 (q:=mayD y.1 y.2) hz
  (fun b W h=>(delta_read b s 0 W h (by omega) y l' E' hn).mono fun e w' ⟨x,h1,h2,h3,h4⟩=>⟨x,h1,h2,h3,h4⟩)
  (fun h0 d W B hd od=>by
   subst hd;have hl:(stb d.x.s).length≤65536:=by
    obtain ⟨rfl,rfl⟩:=endS_zero h0;have:=congrArg List.length (delta_canon s _ [] hn);rw[List.append_nil] at this;simp only[dl,List.length_append] at this;omega
   exact mayD_any d.ba d.bc d.b d.x W ⟨od.1.lies,od.2.inner⟩ ⟨by have q:d.b.length≤65537:=HFY.1.1;omega,fun m hm=>⟨by have:=(HFY.1.2 m hm).1;omega,(HFY.1.2 m hm).2⟩,FitS.ok HFY.2 hl,FitS.fine HFY.2⟩) (fun _ _ _ _ _ o k hb=>o.but k hb) (fun _ _ _ _ o hB=>o.base hB)).mono ?_
 rintro e w' (⟨h,x,rfl,rfl,ho,hb⟩ | ⟨h,rfl,hb⟩)
 · rw[h];exact ⟨x,rfl,⟨rfl,HFY⟩,ho,hb⟩
 rw[h];exact ⟨RD.zero,rfl,⟨rfl,⟨by decide,fun m hm=>by cases hm⟩,fit_zeroS⟩,⟨OwnM.nil _ _,own_zeroS _ _⟩,hb⟩
theorem read_delta (s:List UInt8) (w:World) (hz:s.length≤65536) (y:List M × S) (l':List UInt8) (E':Int) (hn:deltaS s 0=(y,l',E')) :
  Calls Tryz.prog 25 #[s] w fun e w'=>∃ d:RD,e=.returned (.tuple #[.agg d,.int .i64 (errS (okS l' E' (mayD y.1 y.2)))])∧((d.b,d.x.s)=pickS (okS l' E' (mayD y.1 y.2)) y ([],RS.zero.s)∧FitB d.b∧FitS d.x.s)∧OwnDl w' w.heap.size d∧Below w.heap.size w w' :=
 readT (fun d:RD=>d) [.slice none 0 0,.slice none 0 0,.slice none 0 0,.slice none 0 0] 35 (by simp) (fun d=>(d.b,d.x.s)=pickS (okS l' E' (mayD y.1 y.2)) y ([],RS.zero.s)∧FitB d.b∧FitS d.x.s) (fun W B d=>OwnDl W B d) Tryz.func25 Tryz.ntmps25 Tryz.results25 (fun W=>whole_delta s W hz y l' E' hn) (fun _ _ _ _ _ o k hb=>o.but k hb) (fun _ _ _ _ o hB=>o.base hB)
end Taker
namespace Taker
open RowKit YtnpjkmomllkhpaaGreatDoor.Mark Num Wire Bag Coder Mem
variable {cnt sz:Rdr Nat} {Z:List UInt8→List M→Rdr Coder.E}
theorem manyG_all {α:Type} {each:Rdr α} {P:α→Prop} (hc:Eats cnt) (h:Eats each) (hP:∀ l E x l' E',l.length≤65536→each l E=(x,l',E')→P x) {l l':List UInt8} {E E':Int} {xs:List α} (hl:l.length≤65536) (e:manyG cnt each l E=(xs,l',E')):xs.length≤65537∧∀ x ∈ xs,P x:=by
 obtain ⟨n,l1,E1,q⟩:=tr (cnt l E);have e1:loopS each n l1 E1=(xs,l',E'):=by rw[← e];unfold manyG;simp only[bindR,q]
 have h1:=hc.keeps.len q;have h2:=loop_len h n l1 E1;have h3:=loop_fit h hP n l1 E1 (by omega);rw[e1] at h2 h3;exact ⟨by simp only at h2;omega,h3⟩
theorem itemG_fit (hc:Eats cnt) {l l':List UInt8} {E E':Int} {m:It} (hz:l.length≤65536) (h:itemG cnt l E=(m,l',E')):FitI m:=by
 obtain ⟨x0,l0,E0,q0⟩:=tr (wordS l E);obtain ⟨x1,l1,E1,q1⟩:=tr (manyG cnt dotS l0 E0);simp only[itemG,bindR,q0,q1,Prod.mk.injEq] at h;rw[← h.1];have h1:=word_eats.keeps.len q0;exact ⟨word_len q0,manyG_all (P:=FitM) hc dot_eats (fun _ _ _ _ _ _ e=>dot_fit e) (by omega) q1⟩
theorem cell_fit {l l':List UInt8} {E E':Int} {c:Cl} (h:cellS l E=(c,l',E')):c.t.length≤65536∧c.s≤18446744073709551615:=by
 obtain ⟨y0,m0,F0,p0⟩:=tr (natS l E);obtain ⟨y1,m1,F1,p1⟩:=tr (wordS m0 F0);simp only[cellS,bindR,p0,p1,Prod.mk.injEq] at h;rw[← h.1];exact ⟨word_len p1,nat_le p0⟩
theorem entryR_fit (hc:Eats cnt) {l l':List UInt8} {E E':Int} {y:Coder.E} (hz:l.length≤65536) (h:entryG cnt zR l E=(y,l',E')):FitE y:=by
 obtain ⟨x0,l0,E0,q0⟩:=tr (wordS l E);obtain ⟨x1,l1,E1,q1⟩:=tr (manyG cnt markS l0 E0);simp only[entryG,bindR,q0,q1] at h;have h0:=word_len q0;have h1:=word_eats.keeps.len q0;have h3:=(manyG_eats hc mark_eats).keeps.len q1;have hs:=manyG_all (P:=FitM) hc mark_eats (fun _ _ _ _ _ _ e=>mark_fit e) (by omega) q1;have nc:([]:List C).length≤65537∧∀ m ∈ ([]:List C),FitC m:=⟨by decide,fun m hm=>by cases hm⟩
 have ni:([]:List It).length≤65537∧∀ m ∈ ([]:List It),FitI m:=⟨by decide,fun m hm=>by cases hm⟩
 have nl:Cl.zero.t.length≤65536∧Cl.zero.s≤18446744073709551615:=⟨by decide,by decide⟩
 by_cases k1:kd x0=1
 ·obtain ⟨x2,l2,E2,q2⟩:=tr (manyG cnt countS l1 E1);simp only[if_pos k1,q2,Prod.mk.injEq] at h;rw[← h.1];exact ⟨h0,hs,manyG_all (P:=FitC) hc count_eats (fun _ _ _ _ _ _ e=>count_fit e) (by omega) q2,ni,nl⟩
 by_cases k2:kd x0=2
 ·obtain ⟨x2,l2,E2,q2⟩:=tr (manyG cnt (itemG cnt) l1 E1);simp only[if_neg k1,if_pos k2,q2,Prod.mk.injEq] at h;rw[← h.1];exact ⟨h0,hs,nc,manyG_all (P:=FitI) hc (itemG_eats hc) (fun _ _ _ _ _ hl e=>itemG_fit hc hl e) (by omega) q2,nl⟩
 obtain ⟨x2,l2,E2,q2⟩:=tr (cellS l1 E1);by_cases k3:kd x0=3
 ·simp only[if_neg k1,if_neg k2,if_pos k3,q2,Prod.mk.injEq] at h;rw[← h.1];exact ⟨h0,hs,nc,ni,cell_fit q2⟩
 simp only[if_neg k1,if_neg k2,if_neg k3,zR,bindR,q2,Prod.mk.injEq] at h;rw[← h.1];exact ⟨h0,hs,nc,ni,cell_fit q2⟩
theorem stateR_fit (hc:Eats cnt) {l l':List UInt8} {E E':Int} {y:S} (hz:l.length≤65536) (h:stateG cnt zR l E=(y,l',E')):FitS y:=by
 have he:=entryG_eats hc zR_keeps;obtain ⟨x0,l0,E0,q0⟩:=tr (manyG cnt markS l E);obtain ⟨x1,l1,E1,q1⟩:=tr (manyG cnt (entryG cnt zR) l0 E0);obtain ⟨x2,l2,E2,q2⟩:=tr (manyG cnt wordS l1 E1);simp only[stateG,bindR,q0,q1,q2,Prod.mk.injEq] at h;rw[← h.1];have k0:=(manyG_eats hc mark_eats).keeps.len q0;have k1:=(manyG_eats hc he).keeps.len q1;exact ⟨manyG_all (P:=FitM) hc mark_eats (fun _ _ _ _ _ _ e=>mark_fit e) hz q0,manyG_all (P:=FitE) hc he (fun _ _ _ _ _ hl e=>entryR_fit hc hl e) (by omega) q1,manyG_all (P:=fun m=>m.length≤65536) hc word_eats (fun _ _ _ _ _ _ e=>word_len e) (by omega) q2⟩
theorem deltaR_fit (hc:Eats cnt) {l l':List UInt8} {E E':Int} {y:List M × S} (hz:l.length≤65536) (h:deltaG cnt zR l E=(y,l',E')):FitB y.1∧FitS y.2:=by
 obtain ⟨x0,l0,E0,q0⟩:=tr (manyG cnt markS l E);obtain ⟨x1,l1,E1,q1⟩:=tr (stateG cnt zR l0 E0);simp only[deltaG,bindR,q0,q1,Prod.mk.injEq] at h;rw[← h.1];have k0:=(manyG_eats hc mark_eats).keeps.len q0;exact ⟨manyG_all (P:=FitM) hc mark_eats (fun _ _ _ _ _ _ e=>mark_fit e) hz q0,stateR_fit hc (by omega) q1⟩
def Slim {α:Type} (f:Rdr α) (s:α→Nat) (K C:Nat):Prop:=∀ l E x l' E',f l E=(x,l',E')→s x+l'.length≤l.length+K+(if E'=0 then 0 else C)
theorem slim_pure {α:Type} {y:α} {s:α→Nat} {K:Nat} (h:s y≤K):Slim (fun l E=>(y,l,E)) s K 0:=fun l E x l' E' e=>by
 simp only[Prod.mk.injEq] at e;obtain ⟨rfl,rfl,rfl⟩:=e;split <;> omega
theorem Slim.bind {α β:Type} {f:Rdr α} {g:α→Rdr β} {s1:α→Nat} {s2:β→Nat} {K C1 C2:Nat} (h:Slim f s1 0 C1) (hk:∀ x,Keeps (g x)) (h2:∀ x,Slim (g x) s2 (K+s1 x) C2):Slim (fun l E=>bindR (f l E) g) s2 K (C1+C2):=fun l E y l' E' e=>by
 obtain ⟨x,l1,E1,q⟩:=tr (f l E);have e1:g x l1 E1=(y,l',E'):=by rw[← e];simp only[bindR,q]
 have a1:=h _ _ _ _ _ q;have a2:=h2 x _ _ _ _ _ e1;by_cases h1:E1=0
 ·rw[if_pos h1] at a1;split at a2 <;> split <;> omega
 have:=(hk x).stay l1 E1 h1;rw[e1] at this;simp only[Prod.mk.injEq] at this;rw[if_neg (by omega)] at a2;rw[if_neg h1] at a1;rw[if_neg (by omega)];omega
theorem num_slim {m:Int} {l l':List UInt8} {E E':Int} {n:Nat} (h:((numS m l E).1.toNat,(numS m l E).2)=(n,l',E')):(upL n).length+l'.length≤l.length+0+(if E'=0 then 0 else 1):=by
 obtain ⟨a,p,q,e⟩:∃ a p q,numS m l E=(a,p,q):=⟨_,_,_,rfl⟩
 rw[e] at h;simp only[Prod.mk.injEq] at h;obtain ⟨rfl,rfl,rfl⟩:=h;by_cases hq:q=0
 ·subst hq;obtain ⟨_,k,rfl,rfl⟩:=numS_back e;simp
 rw[if_neg hq];unfold numS at e;split at e
 ·simp only[Prod.mk.injEq] at e;obtain ⟨rfl,rfl,-⟩:=e;show 1+_≤_;omega
 simp only[Prod.mk.injEq] at e;obtain ⟨h1,h2,h3⟩:=e;rw[h3,if_neg hq] at h2;have:a=0:=by
  rw[← h1];unfold numT at h3 ⊢;split at h3
  · rename_i c;rw[if_pos c]
  rename_i c
  split at h3
  · rename_i c2;rw[if_neg c,if_pos c2]
  exact absurd h3.symm hq
 subst this h2;show 1+_≤_;omega
theorem nat_slim:Slim natS (fun n=>(upL n).length) 0 1:=fun _ _ _ _ _ h=>num_slim h
theorem cnt_slim:Slim cntS (fun n=>(upL n).length) 0 1:=fun _ _ _ _ _ h=>num_slim h
theorem word_slim:Slim wordS (fun t=>(tx t).length) 0 1:=fun l E x l' E' h=>by
 by_cases hq:E'=0
 ·subst hq;have:=(textS_back h).2;rw[this];simp
 rw[if_neg hq];unfold wordS textS at h;split at h
 ·simp only[Prod.mk.injEq] at h;obtain ⟨rfl,rfl,-⟩:=h;show 1+_≤_;omega
 simp only[Prod.mk.injEq] at h;obtain ⟨h1,h2,h3⟩:=h;rw[h3,if_neg hq] at h2;have:x=[]:=by
  rw[← h1];unfold textT at h3 ⊢;split at h3
  · rename_i c;rw[if_pos c]
  rename_i c
  split at h3
  · rename_i c2;rw[if_neg c,if_pos c2]
  rename_i c2
  split at h3
  · rename_i c3;rw[if_neg c,if_neg c2,if_pos c3]
  exact absurd h3.symm hq
 subst this h2;show 1+_≤_;omega
theorem truth_slim:Slim truthS (fun b=>(tb b).length) 0 1:=fun l E x l' E' h=>by
 by_cases hq:E'=0
 ·subst hq;have:=(boolS_back h).2;rw[this];simp
 rw[if_neg hq];have:=truth_eats.keeps.len h;show 1+_≤_;omega
theorem loop_slim {α:Type} {each:Rdr α} {enc:α→List UInt8} {C:Nat} (h:Slim each (fun x=>(enc x).length) 0 C):∀ n,Slim (loopS each n) (fun xs=>(xs.flatMap enc).length) 0 C
 | 0=>fun l E xs l' E' e=>by
  have e':(([]:List α),l,E)=(xs,l',E'):=e;simp only[Prod.mk.injEq] at e';obtain ⟨rfl,rfl,rfl⟩:=e';simp
 | n+1=>fun l E xs l' E' e=>by
  have e':(if E≠0 then (([]:List α),l,E) else bindR (each l E) fun x l1 E1=>bindR (loopS each n l1 E1) fun xs l2 E2=>(x::xs,l2,E2))=(xs,l',E'):=e;split at e'
  ·simp only[Prod.mk.injEq] at e';obtain ⟨rfl,rfl,rfl⟩:=e';simp
  obtain ⟨x,l1,E1,q1⟩:=tr (each l E);obtain ⟨ys,l2,E2,q2⟩:=tr (loopS each n l1 E1);simp only[bindR,q1,q2,Prod.mk.injEq] at e';obtain ⟨rfl,rfl,rfl⟩:=e';have a1:=h _ _ _ _ _ q1;dsimp only at a1 ⊢;rw[List.flatMap_cons,List.length_append];by_cases h1:E1=0
  ·have a2:=loop_slim h n _ _ _ _ _ q2;dsimp only at a2;rw[if_pos h1] at a1;split at a2 <;> split <;> omega
  rw[loopS_err _ _ _ h1] at q2;simp only[Prod.mk.injEq] at q2;obtain ⟨rfl,rfl,rfl⟩:=q2;rw[if_neg h1] at a1 ⊢;simp only[List.flatMap_nil,List.length_nil];omega
theorem manyG_slim {α:Type} {each:Rdr α} {enc:α→List UInt8} {C:Nat} (hc:Slim cnt (fun n=>(upL n).length) 0 1) (he:Eats each) (h:Slim each (fun x=>(enc x).length) 0 C):Slim (manyG cnt each) (fun xs=>(lst enc xs).length) 0 (11+C):=fun l E xs l' E' e=>by
 obtain ⟨n,l1,E1,q⟩:=tr (cnt l E);have e1:loopS each n l1 E1=(xs,l',E'):=by rw[← e];unfold manyG;simp only[bindR,q]
 have a1:=hc _ _ _ _ _ q;have a2:=loop_slim h n _ _ _ _ _ e1;have a3:=up_len xs.length;have a4:=(upL_length n).1;dsimp only at a1 a2 ⊢;unfold lst;rw[List.length_append];by_cases hE:E'=0
 ·subst hE;have:=(loop_max he _ _ _ _ _ e1).1;have h1:E1=0:=by
   by_cases h1:E1=0
   · exact h1
   have:=(loopS_keeps he n).stay l1 E1 h1;rw[e1] at this;simp only[Prod.mk.injEq] at this;exact absurd this.2.symm h1
  rw[if_pos h1] at a1;rw[this];simp only[if_true] at a2 ⊢;omega
 rw[if_neg hE] at a2 ⊢;split at a1 <;> omega
theorem mark_slim:Slim markS (fun x=>(mk x).length) 0 2:=word_slim.bind (fun _=>nat_eats.keeps.bind fun _=>keeps_pure _) fun _=>nat_slim.bind (fun _=>keeps_pure _) fun _=>slim_pure (by simp only[mk,List.length_append];omega)
theorem count_slim:Slim countS (fun x=>(ct x).length) 0 3:=word_slim.bind (fun _=>nat_eats.keeps.bind fun _=>nat_eats.keeps.bind fun _=>keeps_pure _) fun _=>nat_slim.bind (fun _=>nat_eats.keeps.bind fun _=>keeps_pure _) fun _=>nat_slim.bind (fun _=>keeps_pure _) fun _=>slim_pure (by simp only[ct,List.length_append];omega)
theorem cell_slim:Slim cellS (fun x=>(Coder.cl x).length) 0 3:=nat_slim.bind (fun _=>word_eats.keeps.bind fun _=>truth_eats.keeps.bind fun _=>keeps_pure _) fun _=>word_slim.bind (fun _=>truth_eats.keeps.bind fun _=>keeps_pure _) fun _=>truth_slim.bind (fun _=>keeps_pure _) fun _=>slim_pure (by simp only[Coder.cl,List.length_append];omega)
theorem itemG_slim (hc:Eats cnt) (h:Slim cnt (fun n=>(upL n).length) 0 1):Slim (itemG cnt) (fun x=>(itb x).length) 0 14:=word_slim.bind (fun _=>(manyG_eats hc dot_eats).keeps.bind fun _=>keeps_pure _) fun _=>(manyG_slim (enc:=mk) h dot_eats mark_slim).bind (fun _=>keeps_pure _) fun _=>slim_pure (by simp only[itb,List.length_append];omega)
theorem Slim.mono {α:Type} {f:Rdr α} {s s':α→Nat} {K C C':Nat} (h:Slim f s K C) (hC:C≤C') (hs:∀ x,s' x≤s x):Slim f s' K C':=fun l E x l' E' e=>by
 have a:=h _ _ _ _ _ e;have b:=hs x;split at a <;> split <;> omega
theorem entryR_slim (hc:Eats cnt) (h:Slim cnt (fun n=>(upL n).length) 0 1):Slim (entryG cnt zR) (fun x=>(en x).length) 0 100:=by
 refine Slim.mono (s:=fun x=>(en x).length) (C:=1+(13+25)) (word_slim.bind (fun k=>(manyG_eats hc mark_eats).keeps.bind fun s=>tailG hc zR_keeps k s) fun k=>(manyG_slim (enc:=mk) h mark_eats mark_slim).bind (fun s=>tailG hc zR_keeps k s) fun s=>?_) (by omega) (fun _=>Nat.le_refl _);by_cases k1:kd k=1
 ·simp only[if_pos k1];exact Slim.mono ((manyG_slim (enc:=ct) h count_eats count_slim).bind (K:=0+(tx k).length+(lst mk s).length) (fun _=>keeps_pure _) fun _=>slim_pure (s:=fun x=>(en x).length) (by simp only[en,body,if_pos k1,List.length_append];omega)) (by omega) (fun _=>Nat.le_refl _)
 by_cases k2:kd k=2
 ·simp only[if_neg k1,if_pos k2];exact Slim.mono ((manyG_slim (enc:=itb) h (itemG_eats hc) (itemG_slim hc h)).bind (K:=0+(tx k).length+(lst mk s).length) (fun _=>keeps_pure _) fun _=>slim_pure (s:=fun x=>(en x).length) (by simp only[en,body,if_neg k1,if_pos k2,List.length_append];omega)) (by omega) (fun _=>Nat.le_refl _)
 by_cases k3:kd k=3
 ·simp only[if_neg k1,if_neg k2,if_pos k3];exact Slim.mono (cell_slim.bind (K:=0+(tx k).length+(lst mk s).length) (fun _=>keeps_pure _) fun _=>slim_pure (s:=fun x=>(en x).length) (by simp only[en,body,if_neg k1,if_neg k2,if_pos k3,List.length_append];omega)) (by omega) (fun _=>Nat.le_refl _)
 simp only[if_neg k1,if_neg k2,if_neg k3];exact Slim.mono (cell_slim.bind (K:=0+(tx k).length+(lst mk s).length) (fun _=>keeps_pure _) fun _=>slim_pure (s:=fun x=>(en x).length) (by simp only[en,body,if_neg k1,if_neg k2,if_neg k3,List.length_append,List.length_nil];omega)) (by omega) (fun _=>Nat.le_refl _)
theorem stateR_slim (hc:Eats cnt) (h:Slim cnt (fun n=>(upL n).length) 0 1):Slim (stateG cnt zR) (fun x=>(stb x).length) 0 1000:=by
 have he:=entryG_eats hc zR_keeps;refine Slim.mono (s:=fun x=>(stb x).length) ((manyG_slim (enc:=mk) h mark_eats mark_slim).bind (fun _=>(manyG_eats hc he).keeps.bind fun _=>(manyG_eats hc word_eats).keeps.bind fun _=>keeps_pure _) fun _=>(manyG_slim (enc:=en) h he (entryR_slim hc h)).bind (fun _=>(manyG_eats hc word_eats).keeps.bind fun _=>keeps_pure _) fun _=>(manyG_slim (enc:=tx) h word_eats word_slim).bind (fun _=>keeps_pure _) fun _=>slim_pure (by simp only[stb,List.length_append];omega)) (by omega) (fun _=>Nat.le_refl _)
theorem deltaR_slim (hc:Eats cnt) (h:Slim cnt (fun n=>(upL n).length) 0 1):Slim (deltaG cnt zR) (fun x=>(dl x.1 x.2).length) 0 2000:=by
 refine Slim.mono (s:=fun x=>(dl x.1 x.2).length) ((manyG_slim (enc:=mk) h mark_eats mark_slim).bind (fun _=>(stateG_keeps hc zR_keeps).bind fun _=>keeps_pure _) fun _=>(stateR_slim hc h).bind (fun _=>keeps_pure _) fun _=>slim_pure (by simp only[dl,List.length_append];omega)) (by omega) (fun _=>Nat.le_refl _)
end Taker
end Go.Proofs.YtnpjkmomllkhpaaGreatDoor
