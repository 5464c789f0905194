/- (*skip.List).Get, wholly. Conditions: the list is one; the key reads. -/
import Derived.Test.YtddaagldelcbeaaSkG
import Derived.Test.YtddaagldelcbeaaSkR
import Derived.Test.YtddaagldelcbeaaRf6G
namespace Go.Proofs.Ytddaagldelcbeaa
set_option linter.unusedSimpArgs false
set_option linter.unusedVariables false
open Go.RowKit

/-- What is found of a key, up to a number. -/
def gK (xs : List Ent) (k : Bs) (sq : Int) : Option Ent := match xs.dropWhile (ahE ⟨k, sq, 0, []⟩) with
  | [] => none
  | y :: _ => if y.key = k then some y else none

theorem skget_any (g h : Nat) (L : List Nd) (A : Option Addr) (n c : Nat) (k : Bs) (sq : Int) (w : World) (s : SkL w g h L) (hk : Rd w A n k) (hnc : n ≤ c) (hn : n ≤ B47) :
    Calls Try.prog 20 #[.pointer (some ⟨g, 0, none⟩), .slice A n c, .int .i64 sq] w fun e w' => (∃ v, e = .returned (.tuple #[v, .int .i64 (gN (gK (L.map Nd.x) k sq))]) ∧ FrE w' w.heap.size v ((gK (L.map Nd.x) k sq).getD ent0)) ∧ Ext w w' := by
  have hc : (fun nd : Nd => ahE ⟨k, sq, 0, []⟩ nd.x) = ahE ⟨k, sq, 0, []⟩ ∘ Nd.x := rfl
  obtain ⟨t1, t2⟩ := takeW_map Nd.x (ahE ⟨k, sq, 0, []⟩) L
  rw [← hc] at t1 t2
  have hTD : L = L.takeWhile (fun nd => ahE ⟨k, sq, 0, []⟩ nd.x) ++ L.dropWhile (fun nd => ahE ⟨k, sq, 0, []⟩ nd.x) := (List.takeWhile_append_dropWhile ..).symm
  have ha : ∀ a ∈ L.takeWhile (fun nd => ahE ⟨k, sq, 0, []⟩ nd.x), cmpE a.x ⟨k, sq, 0, []⟩ < 0 := fun a h => by have := takeW_true _ L a h; simpa [ahE] using this
  have hb := drop_not (x := ⟨k, sq, 0, []⟩) s.up
  generalize L.takeWhile (fun nd => ahE ⟨k, sq, 0, []⟩ nd.x) = A0 at *
  generalize hB : L.dropWhile (fun nd => ahE ⟨k, sq, 0, []⟩ nd.x) = B0 at *
  subst hTD
  cases B0 with
  | nil =>
    have hg : gK ((A0 ++ []).map Nd.x) k sq = none := by unfold gK; rw [t2]; rfl
    rw [hg]
    refine (skget_end g h A0 A n c k sq w s hk hnc hn ha).mono ?_
    rintro e w' ⟨rfl, hw⟩
    exact ⟨⟨_, rfl, FrE.zero _ _⟩, hw⟩
  | cons nd D =>
    by_cases hkey : nd.x.key = k
    · have hg : gK ((A0 ++ nd :: D).map Nd.x) k sq = some nd.x := by unfold gK; rw [t2]; simp [hkey]
      rw [hg]
      refine (skget_yes g h A0 D nd A n c k sq w s hk hnc hn ha hb hkey).mono ?_
      rintro e w' ⟨v, rfl, hf, hw⟩
      exact ⟨⟨v, rfl, hf⟩, hw⟩
    · have hg : gK ((A0 ++ nd :: D).map Nd.x) k sq = none := by unfold gK; rw [t2]; simp [hkey]
      rw [hg]
      refine (skget_other g h A0 D nd A n c k sq w s hk hnc hn ha hb hkey).mono ?_
      rintro e w' ⟨rfl, hw⟩
      exact ⟨⟨_, rfl, FrE.zero _ _⟩, hw⟩

/-- Of entries that rise it is the first one of the key, of a number that is not above. -/
theorem gK_find {xs : List Ent} (hu : xs.Pairwise fun a b => cmpE a b < 0) (k : Bs) (sq : Int) : gK xs k sq = xs.find? (getP k sq) := by
  have key : ∀ y : Ent, getP k sq y = true ↔ (y.key = k ∧ ahE ⟨k, sq, 0, []⟩ y = false) := by
    intro y
    simp only [getP, ahE, decide_eq_true_eq, decide_eq_false_iff_not, cmpE, orI, cmpI]
    refine ⟨fun h => ⟨h.1, ?_⟩, fun h => ⟨h.1, ?_⟩⟩
    · rw [if_pos ((cmpK_eq_zero _ _).2 h.1)]; split <;> (try split) <;> omega
    · have h2 := h.2
      rw [if_pos ((cmpK_eq_zero _ _).2 h.1)] at h2
      split at h2 <;> (try split at h2) <;> omega
  have low : ∀ (x y : Ent), cmpE x y < 0 → ahE ⟨k, sq, 0, []⟩ x = false → x.key ≠ k → y.key ≠ k := by
    intro x y hxy hx hxk hyk
    have h1 : ¬ cmpE x ⟨k, sq, 0, []⟩ < 0 := by simpa [ahE] using hx
    have hck : cmpK x.key k ≠ 0 := fun e => hxk ((cmpK_eq_zero _ _).1 e)
    have h2 : cmpK x.key k = 1 := by
      simp only [cmpE, orI, if_neg hck] at h1
      rcases cmpK_range x.key k with h | h | h <;> omega
    simp only [cmpE, orI] at hxy
    rw [hyk, if_neg hck] at hxy
    omega
  unfold gK
  induction xs with
  | nil => rfl
  | cons x xs ih =>
    rw [List.pairwise_cons] at hu
    by_cases hx : ahE ⟨k, sq, 0, []⟩ x = true
    · have hn : getP k sq x = false := by
        cases h : getP k sq x with
        | false => rfl
        | true => have := (key x).1 h; rw [hx] at this; exact absurd this.2 (by simp)
      rw [List.dropWhile_cons_of_pos hx, List.find?_cons_of_neg (by rw [hn]; simp)]
      exact ih hu.2
    · have hx' : ahE ⟨k, sq, 0, []⟩ x = false := by simpa using hx
      rw [List.dropWhile_cons_of_neg hx]
      simp only
      by_cases hk : x.key = k
      · rw [if_pos hk, List.find?_cons_of_pos ((key x).2 ⟨hk, hx'⟩)]
      · rw [if_neg hk, List.find?_cons_of_neg (fun h => hk ((key x).1 h).1)]
        refine (List.find?_eq_none.2 fun y hy h => ?_).symm
        exact low x y (hu.1 y hy) hx' hk ((key y).1 h).1

end Go.Proofs.Ytddaagldelcbeaa
