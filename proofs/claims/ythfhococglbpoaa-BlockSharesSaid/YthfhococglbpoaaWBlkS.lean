/- The walk of BlockShares. Conditions: the slices read. -/
import Derived.Test.YthfhococglbpoaaBlkK
namespace Go.Proofs.Ythfhococglbpoaa
set_option linter.unusedSimpArgs false
set_option linter.unusedVariables false
open Go.RowKit

set_option maxRecDepth 100000 in
set_option maxHeartbeats 2000000 in
theorem shares_walk (A : Option Addr) (n c : Nat) (B : Option Addr) (m d : Nat) (x y : Bs) (w : World) (hx : Rd w A n x) (hnc : n ≤ c) (hn : n ≤ B47) (hy : Rd w B m y) (hmd : m ≤ d) (hm : m ≤ B47) :
    Calls Try.prog 3 #[.slice A n c, .slice B m d] w fun e w' => e = .returned (.bool true) ∧ Ext w w' := by
  have HX := Lib.hid hx
  have HY := Lib.hid hy
  have hn2 := hn
  have hm2 := hm
  unfold B47 at hn2 hm2
  clear hx hy
  by_cases h9 : (9000 : Int) < (n : Int)
  · have d9 : decide ((9000 : Int) < (n : Int)) = true := decide_eq_true h9
    go_enter Try.func3, Try.ntmps3
    go_wp2_with fail
    refine (known_any _).mono ?_
    rintro e w1 ⟨rfl, hw1⟩
    go_wp2
    go_ret
    exact ⟨rfl, (by with_reducible (repeat (first | exact Ext.rfl_ _ | assumption | refine Ext.drew ?_ | refine Ext.drewN ?_ _ | refine Ext.alloc ?_ _ | refine Ext.trans ?_ (by assumption))))⟩
  · by_cases h8 : (9000 : Int) < (m : Int)
    · have d9 : decide ((9000 : Int) < (n : Int)) = false := decide_eq_false h9
      go_enter Try.func3, Try.ntmps3
      go_wp2_with fail
      refine (known_any _).mono ?_
      rintro e w1 ⟨rfl, hw1⟩
      go_wp2
      go_ret
      exact ⟨rfl, (by with_reducible (repeat (first | exact Ext.rfl_ _ | assumption | refine Ext.drew ?_ | refine Ext.drewN ?_ _ | refine Ext.alloc ?_ _ | refine Ext.trans ?_ (by assumption))))⟩
    · have d9 : decide ((9000 : Int) < (n : Int)) = false := decide_eq_false h9
      have d8 : decide ((9000 : Int) < (m : Int)) = false := decide_eq_false h8
      go_enter Try.func3, Try.ntmps3
      go_wp2_with fail
      refine (shared_any A B n c m d x y _ HX.out HY.out hn hm).mono ?_
      rintro e w1 ⟨rfl, hw1⟩
      obtain ⟨z, hz⟩ : ∃ z, z = shr x y := ⟨_, rfl⟩
      rw [← hz]
      have HZ := Lib.hid hz
      clear hz
      go_wp2_with fail
      refine (rshared_any A B n c m d x y _ (HX.out.ext hw1) (HY.out.ext hw1) hn hm).mono ?_
      rintro e w2 ⟨rfl, hw2⟩
      rw [← HZ.out]
      have hzz : ((z : Int) == (z : Int)) = true := by simp
      have X2 := Lib.hid (hw1.trans hw2)
      clear hw1 hw2
      go_wp2_with fail
      refine (known_any _).mono ?_
      rintro e w3 ⟨rfl, hw3⟩
      go_wp2
      go_ret
      exact ⟨rfl, X2.out.trans (by with_reducible (repeat (first | exact Ext.rfl_ _ | assumption | refine Ext.drew ?_ | refine Ext.drewN ?_ _ | refine Ext.alloc ?_ _ | refine Ext.trans ?_ (by assumption))))⟩
end Go.Proofs.Ythfhococglbpoaa
