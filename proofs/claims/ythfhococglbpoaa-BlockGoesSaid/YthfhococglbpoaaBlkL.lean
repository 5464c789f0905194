/- The walk of BlockGoes. Conditions: the bytes and the key read. -/
import Derived.Test.YthfhococglbpoaaBlkQ
namespace Go.Proofs.Ythfhococglbpoaa
set_option linter.unusedSimpArgs false
set_option linter.unusedVariables false
open Go.RowKit

set_option maxRecDepth 100000 in
set_option maxHeartbeats 2000000 in
theorem bgoes_walk (A : Option Addr) (n c : Nat) (B : Option Addr) (m d : Nat) (lv : Int) (b k : Bs) (w : World) (hx : Rd w A n b) (hnc : n ≤ c) (hn : n ≤ B47) (hk : Rd w B m k) (hmd : m ≤ d) (hm : m ≤ B47) :
    Calls Try.prog 5 #[.slice A n c, .slice B m d, .int .i64 lv] w fun e w' => e = .returned (.bool true) ∧ Ext w w' := by
  have HX := Lib.hid hx
  have HK := Lib.hid hk
  clear hx hk
  go_enter Try.func5, Try.ntmps5
  by_cases h9 : (100000 : Int) < (n : Int)
  · have d9 : decide (100000 < n) = true := decide_eq_true (by omega)
    go_wp2_with fail
    refine (known_any _).mono ?_
    rintro e w1 ⟨rfl, hw1⟩
    go_wp2
    go_ret
    exact ⟨rfl, (by with_reducible (repeat (first | exact Ext.rfl_ _ | assumption | refine Ext.drew ?_ | refine Ext.drewN ?_ _ | refine Ext.alloc ?_ _ | refine Ext.trans ?_ (by assumption))))⟩
  · have d9 : decide ((100000 : Int) < (n : Int)) = false := decide_eq_false h9
    have d9n : decide (100000 < n) = false := decide_eq_false (by omega)
    by_cases h8 : (9000 : Int) < (m : Int)
    · have d8 : decide (9000 < m) = true := decide_eq_true (by omega)
      go_wp2_with fail
      refine (known_any _).mono ?_
      rintro e w1 ⟨rfl, hw1⟩
      go_wp2
      go_ret
      exact ⟨rfl, (by with_reducible (repeat (first | exact Ext.rfl_ _ | assumption | refine Ext.drew ?_ | refine Ext.drewN ?_ _ | refine Ext.alloc ?_ _ | refine Ext.trans ?_ (by assumption))))⟩
    · have d8 : decide ((9000 : Int) < (m : Int)) = false := decide_eq_false h8
      have d8n : decide (9000 < m) = false := decide_eq_false (by omega)
      have hn40 : n ≤ B40 := by unfold B40; omega
      go_wp2_with fail
      refine (rreadB_any A n c b _ HX.out hnc hn40).mono ?_
      rintro e w1 ⟨vl, va, rfl, hF, -, hw1⟩
      have hlen := opE_len b
      obtain ⟨Al, nl, cl, rfl, hcl, hrl, _⟩ := hF.ownL.formN (by unfold B41; omega)
      have HRL := Lib.hid hrl
      have X1 := Lib.hid hw1
      obtain ⟨z, hzz⟩ : ∃ z, z = opN b := ⟨_, rfl⟩
      rw [← hzz]
      clear hF hrl hw1 hlen hzz
      go_wp2_with fail
      refine (rfrom_any Al nl cl (opE b) B m d k _ HRL.out hcl (HK.out.ext X1.out) hm).mono ?_
      rintro e w2 ⟨⟨A2, n2, c2, rfl, l2, r2⟩, hw2⟩
      have R2 : Hid (RdL w2 A2 n2 (froL (opE b) k)) := Lib.hid r2
      have X2 := Lib.hid (X1.out.trans hw2)
      clear r2 hw2
      go_wp2_with fail
      refine (bfrom_any _ _ _ _ _ _ _).mono ?_
      rintro e w3 ⟨rfl, hw3⟩
      have hfc := from_cells w2 A B n c m d
      rw [← hw3] at hfc
      have HFC := Lib.hid hfc
      have x3 : Ext w2 w3 := by rw [hw3]; exact (by with_reducible (repeat (first | exact Ext.rfl_ _ | assumption | refine Ext.drew ?_ | refine Ext.drewN ?_ _ | refine Ext.alloc ?_ _ | refine Ext.trans ?_ (by assumption))))
      have X3 := Lib.hid (X2.out.trans x3)
      have R3' := Lib.hid (R2.out.ext x3)
      clear hw3 hfc x3
      go_wp2_with fail
      refine (goesB_any _ _ A n c b B m d k A2 n2 c2 lv w _ HX.out hnc hn40 HK.out X3.out HFC.out.1 HFC.out.2 R3'.out).mono ?_
      rintro e w4 ⟨rfl, hw4⟩
      have X4 := Lib.hid (X3.out.trans hw4)
      have R4 := Lib.hid (R3'.out.ext hw4)
      clear hw4
      go_wp2_with fail
      refine (bfrom_any _ _ _ _ _ _ _).mono ?_
      rintro e w5 ⟨rfl, hw5⟩
      have hfc := from_cells w4 A B n c m d
      rw [← hw5] at hfc
      have HFC5 := Lib.hid hfc
      have x5 : Ext w4 w5 := by rw [hw5]; exact (by with_reducible (repeat (first | exact Ext.rfl_ _ | assumption | refine Ext.drew ?_ | refine Ext.drewN ?_ _ | refine Ext.alloc ?_ _ | refine Ext.trans ?_ (by assumption))))
      have X5 := Lib.hid (X4.out.trans x5)
      have R5 := Lib.hid (R4.out.ext x5)
      clear hw5 hfc x5
      go_wp2_with fail
      refine (goesB_any _ _ A n c b B m d k A2 n2 c2 0 w _ HX.out hnc hn40 HK.out X5.out HFC5.out.1 HFC5.out.2 R5.out).mono ?_
      rintro e w6 ⟨rfl, hw6⟩
      have X6 := Lib.hid (X5.out.trans hw6)
      clear hw6
      go_wp2_with fail
      refine (known_any _).mono ?_
      rintro e w7 ⟨rfl, hw7⟩
      go_wp2
      go_ret
      exact ⟨rfl, X6.out.trans hw7⟩
end Go.Proofs.Ythfhococglbpoaa
