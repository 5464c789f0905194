/- Contracts of the reference's CompareKeys and Compare. Conditions: the slices read as bytes. -/
import Derived.Test.YtmmoopioiheleaaSame
import Derived.RegionTactic
import Derived.BigRegion
namespace Go.Proofs.Ytmmoopioiheleaa
set_option linter.unusedSimpArgs false
set_option linter.unusedVariables false
open Go.RowKit

theorem cmpK_take {x y : Bs} (k : Nat) (hx : k ≤ x.length) (hy : k ≤ y.length) (h : x.take k = y.take k) : cmpK x y = cmpK (x.drop k) (y.drop k) := by
  induction k generalizing x y with
  | zero => rfl
  | succ k ih =>
    cases x with
    | nil => simp at hx
    | cons a x =>
      cases y with
      | nil => simp at hy
      | cons b y =>
        simp only [List.take_succ_cons, List.cons.injEq] at h
        obtain ⟨rfl, h⟩ := h
        rw [cmpK_cons]
        simp only [List.drop_succ_cons]
        have h1 : ¬ a < a := by simp
        rw [if_neg h1, if_neg h1]
        exact ih (by simpa using hx) (by simpa using hy) h



end Go.Proofs.Ytmmoopioiheleaa
