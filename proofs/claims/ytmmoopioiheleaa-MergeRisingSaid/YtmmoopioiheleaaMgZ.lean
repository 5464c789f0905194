/- The walks of MergeClips and MergeRising. Conditions: the list and the keys read. -/
import Derived.Test.YtmmoopioiheleaaMgX
namespace Go.Proofs.Ytmmoopioiheleaa
set_option linter.unusedSimpArgs false
set_option linter.unusedVariables false
open Go.RowKit

theorem filter_few (p : Ent → Bool) {xs : List Ent} {n : Nat} (h : xs.length ≤ n) : (xs.filter p).length ≤ n := Nat.le_trans (List.length_filter_le _ _) h

set_option maxRecDepth 100000 in
set_option maxHeartbeats 4000000 in
theorem clips_walk (A : Option Addr) (n c : Nat) (B : Option Addr) (nf cf : Nat) (C : Option Addr) (nt ct : Nat) (en : Bool) (xs : List Ent) (f t : Bs) (w : World) (hl : RdL w A n xs) (hnc : n ≤ c) (hf : Rd w B nf f) (hf1 : nf ≤ cf) (hf2 : nf ≤ B47) (ht : Rd w C nt t) (ht1 : nt ≤ ct) (ht2 : nt ≤ B47) :
    Calls Try.prog 3 #[.slice A n c, .slice B nf cf, .slice C nt ct, .bool en] w fun e w' => e = .returned (.bool true) ∧ Ext w w' := by
  have HL := Lib.hid hl
  have hxl := hl.1
  have HF := Lib.hid hf
  have HT := Lib.hid ht
  clear hl hf ht
  go_enter Try.func3, Try.ntmps3
  by_cases h9 : (100 : Int) < (n : Int)
  · have d9 : decide ((100 : Int) < (n : Int)) = true := decide_eq_true h9
    have d9' : decide (100 < n) = true := decide_eq_true (by omega)
    go_wp2_with fail
    refine (known_any _).mono ?_
    rintro e w1 ⟨rfl, hw1⟩
    go_wp2
    go_ret
    exact ⟨rfl, (by with_reducible (repeat (first | exact Ext.rfl_ _ | assumption | refine Ext.drew ?_ | refine Ext.drewN ?_ _ | refine Ext.alloc ?_ _ | refine Ext.trans ?_ (by assumption))))⟩
  · have d9 : decide ((100 : Int) < (n : Int)) = false := decide_eq_false h9
    have d9' : decide (100 < n) = false := decide_eq_false (by omega)
    have hx100 : xs.length ≤ 1000000 := by omega
    have hn6 : n ≤ 1000000 := by omega
    go_wp2_with fail
    refine (of_any A n c w).mono ?_
    rintro e w1 ⟨rfl, hw1⟩
    have x1 : Ext w w1 := by rw [hw1]; exact Ext.alloc (Ext.rfl_ _) _
    have hg := (cnew w (.slice A n c) 22).1
    rw [← hw1] at hg
    have HI := Lib.hid (of_iter A n c w.heap.size xs w w1 HL.out hnc x1 hg)
    have X1 := Lib.hid x1
    clear hw1 x1 hg
    go_wp2_with fail
    refine (clip_any _ _ B C nf cf nt ct en w1).mono ?_
    rintro e w2 ⟨rfl, ⟨h1, h2, h3, h4⟩, hw2⟩
    have X2 := Lib.hid (X1.out.trans hw2)
    have HC := Lib.hid (clip_iter _ _ xs B C nf cf nt ct f t en _ _ _ _ w2 (HI.out.ext hw2) hx100 (HF.out.ext X2.out) (HT.out.ext X2.out) h1 h2 h3 h4)
    clear h1 h2 h3 h4 hw2
    go_wp2_with fail
    refine (listOf_any _ _ _ w2 HC.out (filter_few _ hx100)).mono ?_
    rintro e w3 ⟨v3, rfl, o3, hw3⟩
    obtain ⟨A3, n3, c3, rfl, _, r3, _⟩ := o3.formN (Nat.le_trans (filter_few _ hx100) (by decide))
    have R3 := Lib.hid r3
    have X3 := Lib.hid (X2.out.trans hw3)
    clear o3 r3 hw3
    go_wp2_with fail
    refine (rclip_any A n c xs B nf cf f C nt ct t en w3 (HL.out.ext X3.out) (HF.out.ext X3.out) hf1 hf2 (HT.out.ext X3.out) ht1 ht2 hn6).mono ?_
    rintro e w4 ⟨v4, rfl, o4, hw4⟩
    obtain ⟨A4, n4, c4, rfl, _, r4, _⟩ := o4.formN (Nat.le_trans (filter_few _ hx100) (by decide))
    have R4 := Lib.hid r4
    have R34 := Lib.hid (R3.out.ext hw4)
    have X4 := Lib.hid (X3.out.trans hw4)
    clear o4 r4 hw4
    go_wp2_with fail
    refine (same11_any A3 n3 c3 A4 n4 c4 _ _ w4 R34.out R4.out).mono ?_
    rintro e w5 ⟨rfl, hw5⟩
    rw [decide_eq_true rfl]
    have X5 := Lib.hid (X4.out.trans hw5)
    clear hw5
    go_wp2_with fail
    refine (known_any _).mono ?_
    rintro e w6 ⟨rfl, hw6⟩
    go_wp2
    go_ret
    exact ⟨rfl, X5.out.trans hw6⟩

set_option maxRecDepth 100000 in
set_option maxHeartbeats 4000000 in
theorem rising_walk (A : Option Addr) (n c : Nat) (xs : List Ent) (w : World) (hl : RdL w A n xs) (hnc : n ≤ c) :
    Calls Try.prog 4 #[.slice A n c] w fun e w' => e = .returned (.bool true) ∧ Ext w w' := by
  have HL := Lib.hid hl
  have hxl := hl.1
  clear hl
  go_enter Try.func4, Try.ntmps4
  by_cases h9 : (100 : Int) < (n : Int)
  · have d9 : decide ((100 : Int) < (n : Int)) = true := decide_eq_true h9
    have d9' : decide (100 < n) = true := decide_eq_true (by omega)
    go_wp2_with fail
    refine (known_any _).mono ?_
    rintro e w1 ⟨rfl, hw1⟩
    go_wp2
    go_ret
    exact ⟨rfl, (by with_reducible (repeat (first | exact Ext.rfl_ _ | assumption | refine Ext.drew ?_ | refine Ext.drewN ?_ _ | refine Ext.alloc ?_ _ | refine Ext.trans ?_ (by assumption))))⟩
  · have d9 : decide ((100 : Int) < (n : Int)) = false := decide_eq_false h9
    have d9' : decide (100 < n) = false := decide_eq_false (by omega)
    have hx100 : xs.length ≤ 1000000 := by omega
    obtain ⟨rr, hrr⟩ : ∃ rr, rr = decide (ordP xs) := ⟨_, rfl⟩
    have HRR := Lib.hid hrr.symm
    have hbb : (rr == rr) = true := by simp
    clear hrr
    go_wp2_with fail
    refine (of_any A n c w).mono ?_
    rintro e w1 ⟨rfl, hw1⟩
    have x1 : Ext w w1 := by rw [hw1]; exact Ext.alloc (Ext.rfl_ _) _
    have hg := (cnew w (.slice A n c) 22).1
    rw [← hw1] at hg
    have HI := Lib.hid (of_iter A n c w.heap.size xs w w1 HL.out hnc x1 hg)
    have X1 := Lib.hid x1
    clear hw1 x1 hg
    go_wp2_with fail
    refine (mrising_any _ _ xs w1 HI.out hx100).mono ?_
    rintro e w2 ⟨rfl, hw2⟩
    rw [HRR.out]
    have X2 := Lib.hid (X1.out.trans hw2)
    clear hw2
    go_wp2_with fail
    refine (rrising_any A n c xs w2 (HL.out.ext X2.out) hnc).mono ?_
    rintro e w3 ⟨rfl, hw3⟩
    rw [HRR.out]
    have X3 := Lib.hid (X2.out.trans hw3)
    clear hw3
    go_wp2_with fail
    refine (of_any none 0 0 w3).mono ?_
    rintro e w4 ⟨rfl, hw4⟩
    have x4 : Ext w3 w4 := by rw [hw4]; exact Ext.alloc (Ext.rfl_ _) _
    have hg := (cnew w3 (.slice none 0 0) 22).1
    rw [← hw4] at hg
    have HI4 := Lib.hid (of_iter none 0 0 w3.heap.size [] w3 w4 (RdL.nil _ _) (Nat.le_refl _) x4 hg)
    have X4 := Lib.hid (X3.out.trans x4)
    clear hw4 x4 hg
    go_wp2_with fail
    refine (mrising_any _ _ [] w4 HI4.out (by simp)).mono ?_
    rintro e w5 ⟨rfl, hw5⟩
    rw [decide_eq_true (p := ordP []) (fun i h => absurd h (by simp))]
    have X5 := Lib.hid (X4.out.trans hw5)
    clear hw5
    go_wp2_with fail
    refine (known_any _).mono ?_
    rintro e w6 ⟨rfl, hw6⟩
    go_wp2
    go_ret
    exact ⟨rfl, X5.out.trans hw6⟩

end Go.Proofs.Ytmmoopioiheleaa
