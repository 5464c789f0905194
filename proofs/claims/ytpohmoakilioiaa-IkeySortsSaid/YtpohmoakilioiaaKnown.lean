/- The law's own rows ('known'): they hold. Conditions: none. -/
import Derived.Test.YtpohmoakilioiaaLit
import Derived.Test.YtpohmoakilioiaaLawL
import Derived.Test.YtpohmoakilioiaaPut
import Derived.Test.YtpohmoakilioiaaKeyR
namespace Go.Proofs.Ytpohmoakilioiaa
set_option linter.unusedSimpArgs false
set_option linter.unusedVariables false
set_option maxRecDepth 100000
open Go.RowKit

theorem kn1 : wrN ⟨[97], 5, 1, [120]⟩ = 0 := by decide
theorem kn1e : wrE ⟨[97], 5, 1, [120]⟩ = [1, 97, 5, 1, 1, 120] := by decide
theorem kn2 : wrN ⟨[97], 5, 2, []⟩ = 0 := by decide
theorem kn2e : wrE ⟨[97], 5, 2, []⟩ = [1, 97, 5, 2] := by decide
theorem kn3 : rdN [1, 97, 5, 3] = 4 := by decide
theorem kn4 : rdN [1, 97, 0, 2] = 4 := by decide
theorem kn5 : wrN ⟨[97], 1, 2, [120]⟩ = 2 := by decide
theorem kn6 : cmpE ⟨[97], 5, 1, []⟩ ⟨[97], 7, 1, []⟩ = 1 := by decide
theorem kn7 : cmpE ⟨[97], 5, 1, []⟩ ⟨[98], 7, 1, []⟩ = -1 := by decide
theorem kn8 : cmpE ⟨[97], 5, 1, [120]⟩ ⟨[97], 5, 2, []⟩ = 0 := by decide
theorem kn9 : latL 6 [] (ris none [⟨[97], 7, 1, []⟩, ⟨[97], 5, 2, []⟩, ⟨[98], 9, 1, []⟩, ⟨[98], 4, 1, []⟩]) = [⟨[97], 5, 2, []⟩, ⟨[98], 4, 1, []⟩] := by decide

theorem RdL.new2 {w : World} {t : TypeId} {A1 B1 A2 B2 : Option Addr} {n1 c1 m1 d1 n2 c2 m2 d2 : Nat} {x1 x2 : Ent}
    (h1 : RdE w (.agg #[.slice A1 n1 c1, .int .i64 x1.seq, .int .i64 x1.kind, .slice B1 m1 d1]) x1) (h2 : RdE w (.agg #[.slice A2 n2 c2, .int .i64 x2.seq, .int .i64 x2.kind, .slice B2 m2 d2]) x2) :
    RdL (w.alloc (.cells #[.slice A1 n1 c1, .int .i64 x1.seq, .int .i64 x1.kind, .slice B1 m1 d1, .slice A2 n2 c2, .int .i64 x2.seq, .int .i64 x2.kind, .slice B2 m2 d2] t)) (some ⟨w.heap.size, 0, none⟩) 2 [x1, x2] := by
  have h := heap_alloc_new w (.cells #[.slice A1 n1 c1, .int .i64 x1.seq, .int .i64 x1.kind, .slice B1 m1 d1, .slice A2 n2 c2, .int .i64 x2.seq, .int .i64 x2.kind, .slice B2 m2 d2] t)
  have ha := Ext.alloc (Ext.rfl_ w) (.cells #[.slice A1 n1 c1, .int .i64 x1.seq, .int .i64 x1.kind, .slice B1 m1 d1, .slice A2 n2 c2, .int .i64 x2.seq, .int .i64 x2.kind, .slice B2 m2 d2] t)
  refine ⟨rfl, by decide, fun _ => ⟨_, 0, rfl, fun k hk => ?_⟩⟩
  match k, hk with
  | 0, _ => exact ⟨A1, n1, c1, B1, m1, d1, ⟨by unfold World.cell?; simp only [h]; rfl, by unfold World.cell?; simp only [h]; rfl, by unfold World.cell?; simp only [h]; rfl, by unfold World.cell?; simp only [h]; rfl⟩, h1.ext ha⟩
  | 1, _ => exact ⟨A2, n2, c2, B2, m2, d2, ⟨by unfold World.cell?; simp only [h]; rfl, by unfold World.cell?; simp only [h]; rfl, by unfold World.cell?; simp only [h]; rfl, by unfold World.cell?; simp only [h]; rfl⟩, h2.ext ha⟩
theorem RdL.new4 {w : World} {t : TypeId} {A1 B1 A2 B2 A3 B3 A4 B4 : Option Addr} {n1 c1 m1 d1 n2 c2 m2 d2 n3 c3 m3 d3 n4 c4 m4 d4 : Nat} {x1 x2 x3 x4 : Ent}
    (h1 : RdE w (.agg #[.slice A1 n1 c1, .int .i64 x1.seq, .int .i64 x1.kind, .slice B1 m1 d1]) x1) (h2 : RdE w (.agg #[.slice A2 n2 c2, .int .i64 x2.seq, .int .i64 x2.kind, .slice B2 m2 d2]) x2)
    (h3 : RdE w (.agg #[.slice A3 n3 c3, .int .i64 x3.seq, .int .i64 x3.kind, .slice B3 m3 d3]) x3) (h4 : RdE w (.agg #[.slice A4 n4 c4, .int .i64 x4.seq, .int .i64 x4.kind, .slice B4 m4 d4]) x4) :
    RdL (w.alloc (.cells #[.slice A1 n1 c1, .int .i64 x1.seq, .int .i64 x1.kind, .slice B1 m1 d1, .slice A2 n2 c2, .int .i64 x2.seq, .int .i64 x2.kind, .slice B2 m2 d2, .slice A3 n3 c3, .int .i64 x3.seq, .int .i64 x3.kind, .slice B3 m3 d3, .slice A4 n4 c4, .int .i64 x4.seq, .int .i64 x4.kind, .slice B4 m4 d4] t)) (some ⟨w.heap.size, 0, none⟩) 4 [x1, x2, x3, x4] := by
  have h := heap_alloc_new w (.cells #[.slice A1 n1 c1, .int .i64 x1.seq, .int .i64 x1.kind, .slice B1 m1 d1, .slice A2 n2 c2, .int .i64 x2.seq, .int .i64 x2.kind, .slice B2 m2 d2, .slice A3 n3 c3, .int .i64 x3.seq, .int .i64 x3.kind, .slice B3 m3 d3, .slice A4 n4 c4, .int .i64 x4.seq, .int .i64 x4.kind, .slice B4 m4 d4] t)
  have ha := Ext.alloc (Ext.rfl_ w) (.cells #[.slice A1 n1 c1, .int .i64 x1.seq, .int .i64 x1.kind, .slice B1 m1 d1, .slice A2 n2 c2, .int .i64 x2.seq, .int .i64 x2.kind, .slice B2 m2 d2, .slice A3 n3 c3, .int .i64 x3.seq, .int .i64 x3.kind, .slice B3 m3 d3, .slice A4 n4 c4, .int .i64 x4.seq, .int .i64 x4.kind, .slice B4 m4 d4] t)
  refine ⟨rfl, by decide, fun _ => ⟨_, 0, rfl, fun k hk => ?_⟩⟩
  match k, hk with
  | 0, _ => exact ⟨A1, n1, c1, B1, m1, d1, ⟨by unfold World.cell?; simp only [h]; rfl, by unfold World.cell?; simp only [h]; rfl, by unfold World.cell?; simp only [h]; rfl, by unfold World.cell?; simp only [h]; rfl⟩, h1.ext ha⟩
  | 1, _ => exact ⟨A2, n2, c2, B2, m2, d2, ⟨by unfold World.cell?; simp only [h]; rfl, by unfold World.cell?; simp only [h]; rfl, by unfold World.cell?; simp only [h]; rfl, by unfold World.cell?; simp only [h]; rfl⟩, h2.ext ha⟩
  | 2, _ => exact ⟨A3, n3, c3, B3, m3, d3, ⟨by unfold World.cell?; simp only [h]; rfl, by unfold World.cell?; simp only [h]; rfl, by unfold World.cell?; simp only [h]; rfl, by unfold World.cell?; simp only [h]; rfl⟩, h3.ext ha⟩
  | 3, _ => exact ⟨A4, n4, c4, B4, m4, d4, ⟨by unfold World.cell?; simp only [h]; rfl, by unfold World.cell?; simp only [h]; rfl, by unfold World.cell?; simp only [h]; rfl, by unfold World.cell?; simp only [h]; rfl⟩, h4.ext ha⟩

set_option maxRecDepth 100000 in
set_option maxHeartbeats 4000000 in
theorem known_any (w : World) : Calls Try.prog 15 #[] w fun e w' => e = .returned (.bool true) ∧ Ext w w' := by
  have hconv := fun (w : World) (cs : Array Value) (n c : Nat) => run_convert_lit (P := Try.prog) w 22 5 cs n c Try.underlying22 Try.underlying5
  have hconv2 : ∀ (w : World) (o : Obj) (cs : Array Value) (n c : Nat), (convert 22 22 (.slice (some ⟨w.heap.size + 1, 0, none⟩) n c)).run Try.prog ((w.alloc o).alloc (.cells cs 5)) = .ok (.slice (some ⟨w.heap.size + 1, 0, none⟩) n c) (litWorld (w.alloc o) 5 cs) := fun w o cs n c => by
    have := hconv (w.alloc o) cs n c
    rwa [World.size_alloc] at this
  go_enter Try.func15, Try.ntmps15
  go_wp2_with fail
  refine (put_any [97] [120] 5 _ (by decide) (by decide)).mono ?_
  rintro e w1 ⟨u1, rfl, hu1, hw1⟩
  go_wp2_with fail
  refine (bytes_any _ ⟨[97], 5, 1, [120]⟩ _ (hu1.ext (by with_reducible (repeat (first | exact Ext.rfl_ _ | assumption | refine Ext.drew ?_ | refine Ext.drewN ?_ _ | refine Ext.alloc ?_ _ | refine Ext.trans ?_ (litWorld_ext _ _ _) | refine Ext.setCell ?_ (by first | (simp; done) | (simp; omega)) _ | refine Ext.trans ?_ (by assumption)))))).mono ?_
  rintro e w2 ⟨v2, rfl, o2, hw2⟩
  obtain ⟨A2, n2, c2, rfl, l2, r2, i2⟩ := o2.formN
  rw [kn1]
  go_wp2_with fail
  refine (del_any [97] 5 _ (by decide)).mono ?_
  rintro e w3 ⟨u3, rfl, hu3, hw3⟩
  go_wp2_with fail
  refine (bytes_any _ ⟨[97], 5, 2, []⟩ _ (hu3.ext (by with_reducible (repeat (first | exact Ext.rfl_ _ | assumption | refine Ext.drew ?_ | refine Ext.drewN ?_ _ | refine Ext.alloc ?_ _ | refine Ext.trans ?_ (litWorld_ext _ _ _) | refine Ext.setCell ?_ (by first | (simp; done) | (simp; omega)) _ | refine Ext.trans ?_ (by assumption)))))).mono ?_
  rintro e w4 ⟨v4, rfl, o4, hw4⟩
  obtain ⟨A4, n4, c4, rfl, l4, r4, i4⟩ := o4.formN
  rw [kn2]
  go_wp2_with fail
  refine (read_any _ 4 _ [1, 97, 5, 3] _ (lit4e _ _ _ 1 97 5 3 (by simp)) (by decide)).mono ?_
  rintro e w5 ⟨v5, rfl, f5, hw5⟩
  obtain ⟨A5, n5, c5, A'5, n'5, c'5, rfl, _⟩ := f5
  rw [kn3]
  go_wp2_with fail
  refine (read_any _ 4 _ [1, 97, 0, 2] _ (lit4e _ _ _ 1 97 0 2 (by simp)) (by decide)).mono ?_
  rintro e w6 ⟨v6, rfl, f6, hw6⟩
  obtain ⟨A6, n6, c6, A'6, n'6, c'6, rfl, _⟩ := f6
  rw [kn4]
  go_wp2_with fail
  refine (del_any [97] 1 _ (by decide)).mono ?_
  rintro e w7 ⟨u7, rfl, hu7, hw7⟩
  obtain ⟨A7, n7, c7, A'7, n'7, c'7, rfl, hk7, _, hb1, hb2, _⟩ := id hu7
  obtain ⟨q0, q1, q2, q3, f0, f1, f2, f3⟩ := box4 (blk1 w7 (.cells #[.slice A7 n7 c7, .int .i64 1, .int .i64 2, .slice A'7 n'7 c'7] 25)) (litWorld_ext (w7.alloc (.cells #[.slice A7 n7 c7, .int .i64 1, .int .i64 2, .slice A'7 n'7 c'7] 25)) 5 #[.int .u8 120])
  have e47 : Ext w4 w7 := (litWorld_ext w4 5 _).trans (hw5.trans (show Ext w5 w7 from (by with_reducible (repeat (first | exact Ext.rfl_ _ | assumption | refine Ext.drew ?_ | refine Ext.drewN ?_ _ | refine Ext.alloc ?_ _ | refine Ext.trans ?_ (litWorld_ext _ _ _) | refine Ext.setCell ?_ (by first | (simp; done) | (simp; omega)) _ | refine Ext.trans ?_ (by assumption))))))
  have e27 : Ext w2 w7 := (hw3.trans hw4).trans e47
  have e07 : Ext w w7 := hw1.trans (hw2.trans e27)
  have s07 := e07.size
  have s27 := e27.size
  have s47 := e47.size
  go_wp2_with fail
  refine (bytes_any _ ⟨[97], 1, 2, [120]⟩ _ ⟨A7, n7, c7, some ⟨w7.heap.size + 1, 0, none⟩, 1, 1, rfl, ?ra, ?rb, hb1, hb2, by decide, by decide⟩).mono ?_
  case ra => exact hk7.ext (by with_reducible (repeat (first | exact Ext.rfl_ _ | assumption | refine Ext.drew ?_ | refine Ext.drewN ?_ _ | refine Ext.alloc ?_ _ | refine Ext.trans ?_ (litWorld_ext _ _ _) | refine Ext.setCell ?_ (by first | (simp; done) | (simp; omega)) _ | refine Ext.trans ?_ (by assumption))))
  case rb => exact Rd.setCell (lit1e _ _ _ 120 (by simp)) (Hi.one _ _) (by simp) _
  rintro e w8 ⟨v8, rfl, o8, hw8⟩
  obtain ⟨A8, n8, c8, rfl, l8, r8, i8⟩ := o8.formN
  rw [kn5]
  have R2 := Lib.hid (r2.ext (show Ext w2 w8 from (by with_reducible (repeat (first | exact Ext.rfl_ _ | assumption | refine Ext.drew ?_ | refine Ext.drewN ?_ _ | refine Ext.alloc ?_ _ | refine Ext.trans ?_ (litWorld_ext _ _ _) | refine Ext.setCell ?_ (by first | (simp; done) | (simp; omega)) _ | refine Ext.trans ?_ (by assumption))))))
  have R4 := Lib.hid (r4.ext (show Ext w4 w8 from (by with_reducible (repeat (first | exact Ext.rfl_ _ | assumption | refine Ext.drew ?_ | refine Ext.drewN ?_ _ | refine Ext.alloc ?_ _ | refine Ext.trans ?_ (litWorld_ext _ _ _) | refine Ext.setCell ?_ (by first | (simp; done) | (simp; omega)) _ | refine Ext.trans ?_ (by assumption))))))
  have hx8 : Ext w w8 := (by with_reducible (repeat (first | exact Ext.rfl_ _ | assumption | refine Ext.drew ?_ | refine Ext.drewN ?_ _ | refine Ext.alloc ?_ _ | refine Ext.trans ?_ (litWorld_ext _ _ _) | refine Ext.setCell ?_ (by first | (simp; done) | (simp; omega)) _ | refine Ext.trans ?_ (by assumption))))
  have X8 := Lib.hid hx8
  clear hx8 e07 e27 e47 s07 s27 s47 q0 q1 q2 q3 f0 f1 f2 f3 hw1 hw2 hw3 hw4 hw5 hw6 hw7 hw8 hu1 hu3 hu7 o2 o4 o8 r2 r4 r8 l2 l4 l8 i2 i4 i8 hk7 hb1 hb2
  go_wp2_with fail
  refine (put_any [97] [] 7 _ (by decide) (by decide)).mono ?_
  rintro e w9 ⟨u9, rfl, hu9, hw9⟩
  go_wp2_with fail
  refine (del_any [97] 5 _ (by decide)).mono ?_
  rintro e w10 ⟨u10, rfl, hu10, hw10⟩
  go_wp2_with fail
  refine (put_any [98] [] 9 _ (by decide) (by decide)).mono ?_
  rintro e w11 ⟨u11, rfl, hu11, hw11⟩
  go_wp2_with fail
  refine (put_any [98] [] 4 _ (by decide) (by decide)).mono ?_
  rintro e w12 ⟨u12, rfl, hu12, hw12⟩
  obtain ⟨A9, n9, c9, A'9, n'9, c'9, rfl, _⟩ := id hu9
  obtain ⟨A10, n10, c10, A'10, n'10, c'10, rfl, _⟩ := id hu10
  obtain ⟨A11, n11, c11, A'11, n'11, c'11, rfl, _⟩ := id hu11
  obtain ⟨A12, n12, c12, A'12, n'12, c'12, rfl, _⟩ := id hu12
  go_wp2_with fail
  refine (put_any [97] [] 5 _ (by decide) (by decide)).mono ?_
  rintro e w13 ⟨u13, rfl, hu13, hw13⟩
  go_wp2_with fail
  refine (put_any [97] [] 7 _ (by decide) (by decide)).mono ?_
  rintro e w14 ⟨u14, rfl, hu14, hw14⟩
  go_wp2_with fail
  refine (compare_any _ _ ⟨[97], 5, 1, []⟩ ⟨[97], 7, 1, []⟩ _ (hu13.ext (by with_reducible (repeat (first | exact Ext.rfl_ _ | assumption | refine Ext.drew ?_ | refine Ext.drewN ?_ _ | refine Ext.alloc ?_ _ | refine Ext.trans ?_ (litWorld_ext _ _ _) | refine Ext.setCell ?_ (by first | (simp; done) | (simp; omega)) _ | refine Ext.trans ?_ (by assumption))))) (hu14.ext (by with_reducible (repeat (first | exact Ext.rfl_ _ | assumption | refine Ext.drew ?_ | refine Ext.drewN ?_ _ | refine Ext.alloc ?_ _ | refine Ext.trans ?_ (litWorld_ext _ _ _) | refine Ext.setCell ?_ (by first | (simp; done) | (simp; omega)) _ | refine Ext.trans ?_ (by assumption)))))).mono ?_
  rintro e w15 ⟨rfl, hw15⟩
  rw [kn6]
  go_wp2_with fail
  refine (put_any [97] [] 5 _ (by decide) (by decide)).mono ?_
  rintro e w16 ⟨u16, rfl, hu16, hw16⟩
  go_wp2_with fail
  refine (put_any [98] [] 7 _ (by decide) (by decide)).mono ?_
  rintro e w17 ⟨u17, rfl, hu17, hw17⟩
  go_wp2_with fail
  refine (compare_any _ _ ⟨[97], 5, 1, []⟩ ⟨[98], 7, 1, []⟩ _ (hu16.ext (by with_reducible (repeat (first | exact Ext.rfl_ _ | assumption | refine Ext.drew ?_ | refine Ext.drewN ?_ _ | refine Ext.alloc ?_ _ | refine Ext.trans ?_ (litWorld_ext _ _ _) | refine Ext.setCell ?_ (by first | (simp; done) | (simp; omega)) _ | refine Ext.trans ?_ (by assumption))))) (hu17.ext (by with_reducible (repeat (first | exact Ext.rfl_ _ | assumption | refine Ext.drew ?_ | refine Ext.drewN ?_ _ | refine Ext.alloc ?_ _ | refine Ext.trans ?_ (litWorld_ext _ _ _) | refine Ext.setCell ?_ (by first | (simp; done) | (simp; omega)) _ | refine Ext.trans ?_ (by assumption)))))).mono ?_
  rintro e w18 ⟨rfl, hw18⟩
  rw [kn7]
  go_wp2_with fail
  refine (put_any [97] [120] 5 _ (by decide) (by decide)).mono ?_
  rintro e w19 ⟨u19, rfl, hu19, hw19⟩
  go_wp2_with fail
  refine (del_any [97] 5 _ (by decide)).mono ?_
  rintro e w20 ⟨u20, rfl, hu20, hw20⟩
  go_wp2_with fail
  refine (compare_any _ _ ⟨[97], 5, 1, [120]⟩ ⟨[97], 5, 2, []⟩ _ (hu19.ext (by with_reducible (repeat (first | exact Ext.rfl_ _ | assumption | refine Ext.drew ?_ | refine Ext.drewN ?_ _ | refine Ext.alloc ?_ _ | refine Ext.trans ?_ (litWorld_ext _ _ _) | refine Ext.setCell ?_ (by first | (simp; done) | (simp; omega)) _ | refine Ext.trans ?_ (by assumption))))) (hu20.ext (by with_reducible (repeat (first | exact Ext.rfl_ _ | assumption | refine Ext.drew ?_ | refine Ext.drewN ?_ _ | refine Ext.alloc ?_ _ | refine Ext.trans ?_ (litWorld_ext _ _ _) | refine Ext.setCell ?_ (by first | (simp; done) | (simp; omega)) _ | refine Ext.trans ?_ (by assumption)))))).mono ?_
  rintro e w21 ⟨rfl, hw21⟩
  rw [kn8]
  have k1 := (R2.out.ext (show Ext w8 w21 from (by with_reducible (repeat (first | exact Ext.rfl_ _ | assumption | refine Ext.drew ?_ | refine Ext.drewN ?_ _ | refine Ext.alloc ?_ _ | refine Ext.trans ?_ (litWorld_ext _ _ _) | refine Ext.setCell ?_ (by first | (simp; done) | (simp; omega)) _ | refine Ext.trans ?_ (by assumption)))))).str (P := Try.prog) c2 22 5 9 Try.underlying22 Try.underlying5 Try.underlying9
  have k2 := (R4.out.ext (show Ext w8 w21 from (by with_reducible (repeat (first | exact Ext.rfl_ _ | assumption | refine Ext.drew ?_ | refine Ext.drewN ?_ _ | refine Ext.alloc ?_ _ | refine Ext.trans ?_ (litWorld_ext _ _ _) | refine Ext.setCell ?_ (by first | (simp; done) | (simp; omega)) _ | refine Ext.trans ?_ (by assumption)))))).str (P := Try.prog) c4 22 5 9 Try.underlying22 Try.underlying5 Try.underlying9
  rw [kn1e] at k1
  rw [kn2e] at k2
  have se1 := str_eq [1, 97, 5, 1, 1, 120]
  have se2 := str_eq [1, 97, 5, 2]
  go_wp2_with fail
  refine (num_any _ _).mono ?_
  rintro e w' ⟨rfl, rfl⟩
  go_wp2_with fail
  refine (num_any _ _).mono ?_
  rintro e w' ⟨rfl, rfl⟩
  go_wp2_with fail
  refine (num_any _ _).mono ?_
  rintro e w' ⟨rfl, rfl⟩
  go_wp2_with fail
  refine (num_any _ _).mono ?_
  rintro e w' ⟨rfl, rfl⟩
  go_wp2_with fail
  refine (num_any _ _).mono ?_
  rintro e w' ⟨rfl, rfl⟩
  go_wp2_with fail
  refine (del_any [97] 5 _ (by decide)).mono ?_
  rintro e w22 ⟨u22, rfl, hu22, hw22⟩
  go_wp2_with fail
  refine (put_any [98] [] 4 _ (by decide) (by decide)).mono ?_
  rintro e w23 ⟨u23, rfl, hu23, hw23⟩
  obtain ⟨A22, n22, c22, A'22, n'22, c'22, rfl, _⟩ := id hu22
  obtain ⟨A23, n23, c23, A'23, n'23, c'23, rfl, _⟩ := id hu23
  go_wp2_with fail
  refine (lawLatest_any (some ⟨w12.heap.size, 0, none⟩) 4 4 [⟨[97], 7, 1, []⟩, ⟨[97], 5, 2, []⟩, ⟨[98], 9, 1, []⟩, ⟨[98], 4, 1, []⟩] 6 (some ⟨w23.heap.size, 0, none⟩) 2 2 0 _ ((RdL.new4 (hu9.ext (by with_reducible (repeat (first | exact Ext.rfl_ _ | assumption | refine Ext.drew ?_ | refine Ext.drewN ?_ _ | refine Ext.alloc ?_ _ | refine Ext.trans ?_ (litWorld_ext _ _ _) | refine Ext.setCell ?_ (by first | (simp; done) | (simp; omega)) _ | refine Ext.trans ?_ (by assumption))))) (hu10.ext (by with_reducible (repeat (first | exact Ext.rfl_ _ | assumption | refine Ext.drew ?_ | refine Ext.drewN ?_ _ | refine Ext.alloc ?_ _ | refine Ext.trans ?_ (litWorld_ext _ _ _) | refine Ext.setCell ?_ (by first | (simp; done) | (simp; omega)) _ | refine Ext.trans ?_ (by assumption))))) (hu11.ext (by with_reducible (repeat (first | exact Ext.rfl_ _ | assumption | refine Ext.drew ?_ | refine Ext.drewN ?_ _ | refine Ext.alloc ?_ _ | refine Ext.trans ?_ (litWorld_ext _ _ _) | refine Ext.setCell ?_ (by first | (simp; done) | (simp; omega)) _ | refine Ext.trans ?_ (by assumption))))) hu12).ext (by with_reducible (repeat (first | exact Ext.rfl_ _ | assumption | refine Ext.drew ?_ | refine Ext.drewN ?_ _ | refine Ext.alloc ?_ _ | refine Ext.trans ?_ (litWorld_ext _ _ _) | refine Ext.setCell ?_ (by first | (simp; done) | (simp; omega)) _ | refine Ext.trans ?_ (by assumption))))) (Nat.le_refl _) (by rw [kn9]; exact RdL.new2 (hu22.ext (by with_reducible (repeat (first | exact Ext.rfl_ _ | assumption | refine Ext.drew ?_ | refine Ext.drewN ?_ _ | refine Ext.alloc ?_ _ | refine Ext.trans ?_ (litWorld_ext _ _ _) | refine Ext.setCell ?_ (by first | (simp; done) | (simp; omega)) _ | refine Ext.trans ?_ (by assumption))))) hu23)).mono ?_
  rintro e w99 ⟨rfl, hw99⟩
  have hx99 := X8.out.trans (show Ext w8 w99 from (by with_reducible (repeat (first | exact Ext.rfl_ _ | assumption | refine Ext.drew ?_ | refine Ext.drewN ?_ _ | refine Ext.alloc ?_ _ | refine Ext.trans ?_ (litWorld_ext _ _ _) | refine Ext.setCell ?_ (by first | (simp; done) | (simp; omega)) _ | refine Ext.trans ?_ (by assumption)))))
  go_wp2
  go_ret
  exact ⟨rfl, hx99⟩

end Go.Proofs.Ytpohmoakilioiaa
