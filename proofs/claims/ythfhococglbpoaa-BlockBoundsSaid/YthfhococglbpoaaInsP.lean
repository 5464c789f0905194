/- Where an entry goes into a row, plainly. Conditions: none. -/
import Derived.Test.YthfhococglbpoaaMath
namespace Go.Proofs.Ythfhococglbpoaa
set_option linter.unusedSimpArgs false
set_option linter.unusedVariables false

def ahE (x y : Ent) : Bool := decide (cmpE y x < 0)
/-- What comes of a put: the entries, and the errno. -/
def insP (xs : List Ent) (x : Ent) : List Ent × Int :=
  if mayE x = true then
    match xs.dropWhile (ahE x) with
    | [] => (xs.takeWhile (ahE x) ++ [x], 0)
    | y :: ys => if cmpE y x = 0 then (xs, 7) else (xs.takeWhile (ahE x) ++ x :: y :: ys, 0)
  else (xs, 2)

theorem span_at {α : Type} {p : α → Bool} {xs : List α} {k : Nat} (hk : k ≤ xs.length) (h : ∀ y ∈ xs.take k, p y = true) (he : ∀ (h : k < xs.length), p xs[k] = false) : xs.takeWhile p = xs.take k ∧ xs.dropWhile p = xs.drop k := by
  induction xs generalizing k with
  | nil => simp at hk; subst hk; simp
  | cons x xs ih =>
    cases k with
    | zero =>
      have := he (by simp)
      simp at this
      simp [this]
    | succ k =>
      have hx := h x (by simp)
      have := ih (k := k) (by simpa using hk) (fun y hy => h y (by simp [hy])) (fun h' => by have := he (by simpa using h'); simpa using this)
      simp [hx, this]

theorem insP_no {xs : List Ent} {x : Ent} (h : mayE x = false) : insP xs x = (xs, 2) := by simp [insP, h]
theorem insP_end {xs : List Ent} {x : Ent} (h : mayE x = true) (h1 : xs.takeWhile (ahE x) = xs) (h2 : xs.dropWhile (ahE x) = []) : insP xs x = (xs ++ [x], 0) := by
  unfold insP; rw [if_pos h, h2, h1]
theorem insP_there {xs ys : List Ent} {x y : Ent} (h : mayE x = true) (h2 : xs.dropWhile (ahE x) = y :: ys) (hc : cmpE y x = 0) : insP xs x = (xs, 7) := by
  unfold insP; rw [if_pos h, h2]; simp [hc]
theorem insP_mid {xs ys zs : List Ent} {x y : Ent} (h : mayE x = true) (h1 : xs.takeWhile (ahE x) = zs) (h2 : xs.dropWhile (ahE x) = y :: ys) (hc : cmpE y x ≠ 0) : insP xs x = (zs ++ x :: y :: ys, 0) := by
  unfold insP; rw [if_pos h, h2, h1]; simp [hc]

end Go.Proofs.Ythfhococglbpoaa
