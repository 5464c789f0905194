/- ikey.rising: what its iterator goes over. Conditions: the list reads. -/
import Derived.Test.YthdahmicjlplcaaList
import Derived.Test.YthdahmicjlplcaaIter
namespace Go.Proofs.Ythdahmicjlplcaa
set_option linter.unusedSimpArgs false
set_option linter.unusedVariables false
open Go.RowKit
attribute [local go_sem] Oper.semAt_some

/-- The longest beginning that rises (behind p). -/
def ris : Option Ent → List Ent → List Ent
  | _, [] => []
  | p, x :: xs => if behO p x = true then x :: ris (some x) xs else []

theorem ris_take (xs : List Ent) (p : Option Ent) (k : Nat) (hk : k ≤ xs.length) (hb : ∀ j (h : j < k), behO (if j = 0 then p else (xs.take j).getLast?) (xs[j]'(by omega)) = true) :
    ris p xs = xs.take k ++ ris (if k = 0 then p else (xs.take k).getLast?) (xs.drop k) := by
  induction k with
  | zero => simp
  | succ k ih =>
    rw [ih (by omega) (fun j h => hb j (by omega))]
    have h1 : k < xs.length := by omega
    rw [List.drop_eq_getElem_cons h1]
    have h2 := hb k (by omega)
    rw [ris, if_pos h2]
    have h3 : (xs.take (k + 1)).getLast? = some xs[k] := by rw [List.getLast?_eq_getElem?]; simp [List.length_take, Nat.min_eq_left (show k + 1 ≤ xs.length from hk)]
    rw [if_neg (by omega), h3]
    rw [List.take_succ_eq_append_getElem h1, List.append_assoc]
    rfl

theorem ris_go {xs : List Ent} {k : Nat} (hk : k < xs.length) (h : ris none xs = xs.take k ++ ris (xs.take k).getLast? (xs.drop k)) (hb : behO (xs.take k).getLast? xs[k] = true) :
    ris none xs = xs.take (k + 1) ++ ris (xs.take (k + 1)).getLast? (xs.drop (k + 1)) := by
  rw [h, List.drop_eq_getElem_cons hk, ris, if_pos hb]
  have h3 : (xs.take (k + 1)).getLast? = some xs[k] := by rw [List.getLast?_eq_getElem?]; simp [List.length_take, Nat.min_eq_left (show k + 1 ≤ xs.length from hk)]
  rw [h3, List.take_succ_eq_append_getElem hk, List.append_assoc]
  rfl
theorem ris_end {xs : List Ent} {k : Nat} (hk : k < xs.length) (h : ris none xs = xs.take k ++ ris (xs.take k).getLast? (xs.drop k)) (hb : ¬ behO (xs.take k).getLast? xs[k] = true) :
    ris none xs = xs.take k := by
  rw [h, List.drop_eq_getElem_cons hk, ris, if_neg hb, List.append_nil]


end Go.Proofs.Ythdahmicjlplcaa
