/- The walk of EditWhole, given what edit.Read answers. Conditions: the version reads. -/
import Derived.Test.YteooaplimiifiaaGreatEwT
import Derived.Test.YteooaplimiifiaaGreatEdSame
import Derived.Test.YteooaplimiifiaaGreatEdRMay
import Derived.Test.YteooaplimiifiaaGreatEdKn
namespace Go.Proofs.YteooaplimiifiaaGreat
set_option linter.unusedSimpArgs false
set_option linter.unusedVariables false
set_option maxRecDepth 100000
open Go.RowKit

theorem RdN.nilW (w : World) (A : Option Addr) : RdN w A 0 [] := ⟨rfl, Nat.zero_le _, fun h => absurd h (by omega), fun z h => by simp at h⟩

/-- What edit.Read answers of a whole version's bytes. -/
def ReadsE : Prop := ∀ (x : Ver) (A : Option Addr) (n c : Nat) (w : World), MayT x → x.ts.length ≤ 100 → Rd w A n (frmB (payE x)) → n ≤ c →
  Calls Tryz.prog 9 #[.slice A n c] w fun e w' => ∃ B m d, e = .returned (.tuple #[.agg #[.int .i64 x.next, .int .i64 x.log, .int .i64 x.index, .int .i64 x.seq, .slice B m d], .int .i64 (n : Nat), .bool true]) ∧ RdLT w' B m x.ts ∧ m ≤ d ∧ Ext w w'

set_option maxRecDepth 100000 in
set_option maxHeartbeats 8000000 in
theorem whole_walk (hread : ReadsE) (v : Value) (x : Ver) (w : World) (hv : RdV w v x) :
    Calls Tryz.prog 3 #[v] w fun e w' => e = .returned (.bool true) ∧ Ext w w' := by
  have HR := Lib.hid hread
  have HV := Lib.hid hv
  obtain ⟨A, n, c, rfl, hl, hnc⟩ := hv
  obtain rfl : x.ts.length = n := hl.1
  have HB := Lib.hid (blk1 w (.cells #[.int .i64 x.next, .int .i64 x.log, .int .i64 x.index, .int .i64 x.seq, .slice A x.ts.length c] 24))
  clear hl hread
  by_cases h1 : 100 < x.ts.length
  · have h1z : (100 : Int) < (x.ts.length : Int) := by omega
    go_enter Tryz.func3, Tryz.ntmps3
    go_wp2_with fail
    refine (known_any _).mono ?_
    rintro e w2 ⟨rfl, hw2⟩
    go_wp2
    go_ret
    exact ⟨rfl, (by with_reducible (repeat (first | exact Ext.rfl_ _ | assumption | refine Ext.drew ?_ | refine Ext.drewN ?_ _ | refine Ext.alloc ?_ _ | refine Ext.trans ?_ (by assumption))))⟩
  have h1z : ¬ (100 : Int) < (x.ts.length : Int) := by omega
  go_enter Tryz.func3, Tryz.ntmps3
  go_wp2_with fail
  refine (ewhole_any _ x _ (HV.out.ext (by with_reducible (repeat (first | exact Ext.rfl_ _ | assumption | refine Ext.drew ?_ | refine Ext.drewN ?_ _ | refine Ext.alloc ?_ _ | refine Ext.trans ?_ (by assumption))))) (by omega)).mono ?_
  rintro e w1 ⟨u1, e1, rfl, hno, hyes, hw1⟩
  by_cases hm : MayT x
  · obtain ⟨rfl, B1, d1, rfl, hr1, hd1⟩ := hyes hm
    have X1 := Lib.hid hw1
    have XW : Ext w w1 := (Ext.alloc (Ext.rfl_ _) _).trans hw1
    have HM := Lib.hid (mayT_yes hm)
    have HMT := Lib.hid hm
    have HR1 := Lib.hid hr1
    have hE1 := heap_alloc_new w1 (.cells #[.slice none 0 0, .slice B1 x.ts.length d1, .int .i64 x.next, .int .i64 x.log, .int .i64 x.index, .int .i64 x.seq] 28)
    have HE1 := Lib.hid hE1
    clear hno hyes hm hw1 hr1 hE1
    unfold edV
    obtain ⟨q0, q1, q2, q3, q4, _⟩ := box5 HB.out (show Ext _ (w1.alloc (.cells #[.slice none 0 0, .slice B1 x.ts.length d1, .int .i64 x.next, .int .i64 x.log, .int .i64 x.index, .int .i64 x.seq] 28)) from X1.out.alloc _)
    go_wp2_with fail
    refine (rmay_any _ x _ (HV.out.ext (by with_reducible (repeat (first | exact Ext.rfl_ _ | assumption | refine Ext.drew ?_ | refine Ext.drewN ?_ _ | refine Ext.alloc ?_ _ | refine Ext.trans ?_ (by assumption)))))).mono ?_
    rintro e w2 ⟨rfl, hw2⟩
    rw [← HM.out]
    have XE : Ext (w1.alloc (.cells #[.slice none 0 0, .slice B1 x.ts.length d1, .int .i64 x.next, .int .i64 x.log, .int .i64 x.index, .int .i64 x.seq] 28)) w2 := hw2
    have HE2 := Lib.hid (((Ext.below XE).block _ (Array.getElem?_eq_some_iff.1 HE1.out).1).trans HE1.out)
    have X2 := Lib.hid ((XW.alloc _).trans XE)
    have X12 := Lib.hid ((Ext.alloc (Ext.rfl_ w1) _).trans XE)
    clear hw2 q0 q1 q2 q3 q4
    obtain ⟨q0, q1, q2, q3, q4, q5⟩ := box6 HE2.out
    go_wp2_with fail
    refine (do_any _ _ ver0 (wholeE x) _ ⟨none, 0, 0, rfl, RdLT.nil _ _, Nat.le_refl _⟩ ⟨none, 0, 0, B1, _, d1, rfl, RdN.nilW _ _, Nat.le_refl _, HR1.out.ext X12.out, hd1⟩ (by decide) (by show 0 ≤ 100000; omega) (by show x.ts.length ≤ _; omega)).mono ?_
    rintro e w3 ⟨u3, z3, e3, rfl, hu3, hdo, hw3⟩
    obtain ⟨hz3, rfl⟩ := do_whole HMT.out hdo
    rw [hz3] at hu3
    clear hz3
    have HU3 := Lib.hid hu3.rd
    obtain ⟨base3, A3, n3, c3, rfl, _⟩ := hu3
    have X3 := Lib.hid hw3
    have H3 := Lib.hid (blk1 w3 (.cells #[.int .i64 x.next, .int .i64 x.log, .int .i64 x.index, .int .i64 x.seq, .slice A3 n3 c3] 24))
    have HE3 := Lib.hid (((Ext.below (X3.out.alloc (.cells #[.int .i64 x.next, .int .i64 x.log, .int .i64 x.index, .int .i64 x.seq, .slice A3 n3 c3] 24))).block _ (Array.getElem?_eq_some_iff.1 HE2.out).1).trans HE2.out)
    clear hw3 hdo q0 q1 q2 q3 q4 q5
    obtain ⟨q0, q1, q2, q3, q4, q5⟩ := box6 HE3.out
    go_wp2_with fail
    refine (eput_any B1 d1 x _ (HR1.out.ext (X12.out.trans (X3.out.alloc _))) hd1 HMT.out (by omega)).mono ?_
    rintro e w4 ⟨v4, rfl, o4, hw4⟩
    obtain ⟨A4, n4, c4, rfl, hc4, hr4, _⟩ := o4.formN
    have HR4 := Lib.hid hr4
    have X4 := Lib.hid hw4
    clear q0 q1 q2 q3 q4 q5 o4 hr4 hw4
    go_wp2_with fail
    refine (HR.out x A4 n4 c4 _ HMT.out (by omega) HR4.out hc4).mono ?_
    rintro e w5 ⟨B5, m5, d5, rfl, hr5, hd5, hw5⟩
    have HR5 := Lib.hid hr5
    have X5 := Lib.hid hw5
    have H5 := Lib.hid (blk1 w5 (.cells #[.int .i64 x.next, .int .i64 x.log, .int .i64 x.index, .int .i64 x.seq, .slice B5 m5 d5] 24))
    have X45 := Lib.hid (X4.out.trans (X5.out.alloc (.cells #[.int .i64 x.next, .int .i64 x.log, .int .i64 x.index, .int .i64 x.seq, .slice B5 m5 d5] 24)))
    obtain ⟨a0, a1, a2, a3, a4, _⟩ := box5 H3.out X45.out
    obtain ⟨b0, b1, b2, b3, b4, _⟩ := box5 HB.out (X1.out.trans (X12.out.trans ((X3.out.alloc _).trans X45.out)))
    clear hr5 hw5
    go_wp2_with fail
    refine (rsameV_any _ _ x x _ (HU3.out.ext ((Ext.alloc (Ext.rfl_ _) _).trans X45.out)) (HV.out.ext (X2.out.trans ((X3.out.alloc _).trans X45.out)))).mono ?_
    rintro e w6 ⟨rfl, hw6⟩
    rw [show decide (x = x) = true from decide_eq_true rfl]
    have X6 := Lib.hid hw6
    clear a0 a1 a2 a3 a4 b0 b1 b2 b3 b4 hw6
    obtain ⟨a0, a1, a2, a3, a4, _⟩ := box5 H5.out X6.out
    obtain ⟨b0, b1, b2, b3, b4, _⟩ := box5 HB.out (X1.out.trans (X12.out.trans ((X3.out.alloc _).trans (X45.out.trans X6.out))))
    go_wp2_with fail
    refine (rsameV_any _ _ x x _ (show RdV _ _ x from ⟨B5, m5, d5, rfl, HR5.out.ext ((Ext.alloc (Ext.rfl_ _) _).trans X6.out), hd5⟩) (HV.out.ext (X2.out.trans ((X3.out.alloc _).trans (X45.out.trans X6.out))))).mono ?_
    rintro e w7 ⟨rfl, hw7⟩
    rw [show decide (x = x) = true from decide_eq_true rfl]
    have X7 := Lib.hid hw7
    clear a0 a1 a2 a3 a4 b0 b1 b2 b3 b4 hw7
    go_wp2_with fail
    refine (known_any _).mono ?_
    rintro e w8 ⟨rfl, hw8⟩
    go_wp2
    go_ret
    exact ⟨rfl, X2.out.trans ((X3.out.alloc _).trans (X45.out.trans (X6.out.trans (X7.out.trans hw8))))⟩
  · obtain ⟨rfl, rfl⟩ := hno hm
    have X1 := Lib.hid hw1
    have XW : Ext w w1 := (Ext.alloc (Ext.rfl_ _) _).trans hw1
    have HM := Lib.hid (mayT_no hm)
    clear hno hyes hm hw1
    unfold edV
    obtain ⟨q0, q1, q2, q3, q4, _⟩ := box5 HB.out (show Ext _ (w1.alloc (.cells #[.slice none 0 0, .slice none 0 0, .int .i64 nilV.next, .int .i64 nilV.log, .int .i64 nilV.index, .int .i64 nilV.seq] 28)) from X1.out.alloc _)
    go_wp2_with fail
    refine (rmay_any _ x _ (HV.out.ext (by with_reducible (repeat (first | exact Ext.rfl_ _ | assumption | refine Ext.drew ?_ | refine Ext.drewN ?_ _ | refine Ext.alloc ?_ _ | refine Ext.trans ?_ (by assumption)))))).mono ?_
    rintro e w2 ⟨rfl, hw2⟩
    rw [← HM.out]
    go_wp2_with fail
    refine (known_any _).mono ?_
    rintro e w3 ⟨rfl, hw3⟩
    go_wp2
    go_ret
    exact ⟨rfl, (by with_reducible (repeat (first | exact Ext.rfl_ _ | assumption | refine Ext.drew ?_ | refine Ext.drewN ?_ _ | refine Ext.alloc ?_ _ | refine Ext.trans ?_ (by assumption))))⟩

end Go.Proofs.YteooaplimiifiaaGreat
