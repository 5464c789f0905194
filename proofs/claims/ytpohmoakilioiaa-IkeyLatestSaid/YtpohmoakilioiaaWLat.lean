/- The walk of IkeyLatest. Conditions: the list reads. -/
import Derived.Test.YtpohmoakilioiaaRefD
import Derived.Test.YtpohmoakilioiaaKnown
namespace Go.Proofs.Ytpohmoakilioiaa
set_option linter.unusedSimpArgs false
set_option linter.unusedVariables false
open Go.RowKit

theorem ris_len (p : Option Ent) (xs : List Ent) : (ris p xs).length ≤ xs.length := by
  induction xs generalizing p with
  | nil => exact Nat.le_refl _
  | cons x xs ih =>
    simp only [ris]; split
    · simp; exact ih _
    · simp

set_option maxRecDepth 100000 in
set_option maxHeartbeats 4000000 in
theorem ilatest_walk (A : Option Addr) (n c : Nat) (s most : Int) (xs : List Ent) (w : World) (hl : RdL w A n xs) (hnc : n ≤ c) :
    Calls Try.prog 6 #[.slice A n c, .int .i64 s, .int .i64 most] w fun e w' => e = .returned (.bool true) ∧ Ext w w' := by
  have HL := Lib.hid hl
  have hn := hl.2.1
  unfold B41 at hn
  have hxl := hl.1
  have hlen : (latL s [] (ris none xs)).length ≤ B41 := Nat.le_trans (latL_le _ _ _) (Nat.le_trans (ris_len _ _) (by rw [hxl]; unfold B41; exact hn))
  have HLEN := Lib.hid hlen
  clear hl hxl hlen
  by_cases hm : 100000 < wt xs
  · have hd : decide (100000 < wt xs) = true := decide_eq_true hm
    have HD := Lib.hid hd
    clear hd hm
    go_enter Try.func6, Try.ntmps6
    go_wp2_with fail
    refine (rmuch_any A n c 100000 xs _ HL.out (by decide)).mono ?_
    rintro e w1 ⟨rfl, hw1⟩
    rw [HD.out]
    go_wp2_with fail
    refine (known_any _).mono ?_
    rintro e w2 ⟨rfl, hw2⟩
    go_wp2
    go_ret
    exact ⟨rfl, (by with_reducible (repeat (first | exact Ext.rfl_ _ | assumption | refine Ext.drew ?_ | refine Ext.drewN ?_ _ | refine Ext.alloc ?_ _ | refine Ext.trans ?_ (by assumption))))⟩
  have hd : decide (100000 < wt xs) = false := decide_eq_false hm
  have HD := Lib.hid hd
  clear hd hm
  by_cases h3 : (300 : Int) < (n : Int)
  · go_enter Try.func6, Try.ntmps6
    go_wp2_with fail
    refine (rmuch_any A n c 100000 xs _ HL.out (by decide)).mono ?_
    rintro e w1 ⟨rfl, hw1⟩
    rw [HD.out]
    go_wp2_with fail
    refine (known_any _).mono ?_
    rintro e w2 ⟨rfl, hw2⟩
    go_wp2
    go_ret
    exact ⟨rfl, (by with_reducible (repeat (first | exact Ext.rfl_ _ | assumption | refine Ext.drew ?_ | refine Ext.drewN ?_ _ | refine Ext.alloc ?_ _ | refine Ext.trans ?_ (by assumption))))⟩
  go_enter Try.func6, Try.ntmps6
  go_wp2_with fail
  refine (rmuch_any A n c 100000 xs _ HL.out (by decide)).mono ?_
  rintro e w1 ⟨rfl, hw1⟩
  rw [HD.out]
  go_wp2_with fail
  refine (rlatest_any A n c s xs _ (HL.out.ext (by with_reducible (repeat (first | exact Ext.rfl_ _ | assumption | refine Ext.drew ?_ | refine Ext.drewN ?_ _ | refine Ext.alloc ?_ _ | refine Ext.trans ?_ (by assumption)))))).mono ?_
  rintro e w2 ⟨v2, rfl, o2, hw2⟩
  obtain ⟨A2, n2, c2, rfl, _, r2, _⟩ := o2.formN HLEN.out
  have R2 := Lib.hid r2
  clear o2 r2
  go_wp2_with fail
  refine (lawLatest_any A n c xs s A2 n2 c2 most _ (HL.out.ext (by with_reducible (repeat (first | exact Ext.rfl_ _ | assumption | refine Ext.drew ?_ | refine Ext.drewN ?_ _ | refine Ext.alloc ?_ _ | refine Ext.trans ?_ (by assumption))))) hnc (R2.out.ext (by with_reducible (repeat (first | exact Ext.rfl_ _ | assumption | refine Ext.drew ?_ | refine Ext.drewN ?_ _ | refine Ext.alloc ?_ _ | refine Ext.trans ?_ (by assumption)))))).mono ?_
  rintro e w3 ⟨rfl, hw3⟩
  go_wp2_with fail
  refine (lawLatest_any A n c xs s A2 n2 c2 0 _ (HL.out.ext (by with_reducible (repeat (first | exact Ext.rfl_ _ | assumption | refine Ext.drew ?_ | refine Ext.drewN ?_ _ | refine Ext.alloc ?_ _ | refine Ext.trans ?_ (by assumption))))) hnc (R2.out.ext (by with_reducible (repeat (first | exact Ext.rfl_ _ | assumption | refine Ext.drew ?_ | refine Ext.drewN ?_ _ | refine Ext.alloc ?_ _ | refine Ext.trans ?_ (by assumption)))))).mono ?_
  rintro e w4 ⟨rfl, hw4⟩
  go_wp2_with fail
  refine (known_any _).mono ?_
  rintro e w5 ⟨rfl, hw5⟩
  go_wp2
  go_ret
  exact ⟨rfl, (by with_reducible (repeat (first | exact Ext.rfl_ _ | assumption | refine Ext.drew ?_ | refine Ext.drewN ?_ _ | refine Ext.alloc ?_ _ | refine Ext.trans ?_ (by assumption))))⟩

end Go.Proofs.Ytpohmoakilioiaa
