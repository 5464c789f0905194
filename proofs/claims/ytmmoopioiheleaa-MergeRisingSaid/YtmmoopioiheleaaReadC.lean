/- Contracts of the reader's some, try and Bytes. Conditions: the reader is one that Open made; most is not below 0. -/
import Derived.Test.YtmmoopioiheleaaReadB
namespace Go.Proofs.Ytmmoopioiheleaa
set_option linter.unusedSimpArgs false
set_option linter.unusedVariables false
open Go.RowKit

/-- Bytes in their form, of at most 'most', and what is behind them. -/
def getB (most : Nat) (x : Bs) : Option (Bs × Bs) :=
  match getN x with
  | none => none
  | some (n, r) => if most < n then none else if r.length < n then none else some (r.take n, r.drop n)

theorem OwnB.chg {w w' : World} {base g : Nat} {v : Value} {x : Bs} {cs : Array Value} {t : TypeId} {fr : Nat × Nat} (h : OwnB w base v x) (hg : w.heap[g]? = some (.cells cs t fr)) (ht : t ≠ 5) (hc : Chg g w w') : OwnB w' base v x := by
  refine World.ownsRow.kept h.out hc ?_
  rcases h.out.2 with ⟨rfl, _⟩ | ⟨g', cap, cur, rfl, _, hg', _⟩
  · exact .inl rfl
  · refine .inr fun e => ?_
    simp [Value.ownBlock] at e
    subst e
    rw [hg] at hg'
    injection hg' with e1
    injection e1 with _ e2
    exact ht e2

theorem OwnB.ext {w w' : World} {base : Nat} {v : Value} {x : Bs} (h : OwnB w base v x) (hx : Ext w w') : OwnB w' base v x := by
  refine World.ownsRow.kept (row := none) h.out ⟨(Ext.below hx).os, (Ext.below hx).tape, (Ext.below hx).output, (Ext.below hx).size, fun k hk _ => (Ext.below hx).block k hk⟩ ?_
  rcases h.out.2 with ⟨rfl, _⟩ | ⟨g', cap, cur, rfl, _, hg', _⟩
  · exact .inl rfl
  · exact .inr (by simp [Value.ownBlock])

theorem box1 {W w' : World} {g : Nat} {t : TypeId} {a : Value} (h : W.heap[g]? = some (.cells #[a] t (0, 0))) (hx : Ext W w') :
    w'.cell? ⟨g, 0, none⟩ = some a ∧ w'.frozen? ⟨g, 0, none⟩ = false ∧ w'.heap[g]? = some (.cells #[a] t (0, 0)) := by
  have hg : w'.heap[g]? = some (.cells #[a] t (0, 0)) := ((Ext.below hx).block g (Array.getElem?_eq_some_iff.1 h).1).trans h
  simp [World.cell?, World.frozen?, hg]



theorem getB_num {most : Nat} {x : Bs} (h : getN x = none) : getB most x = none := by unfold getB; rw [h]
theorem getB_long {most n : Nat} {x r : Bs} (h : getN x = some (n, r)) (hm : most < n) : getB most x = none := by unfold getB; rw [h]; simp [hm]
theorem getB_short {most n : Nat} {x r : Bs} (h : getN x = some (n, r)) (hm : ¬ most < n) (hs : r.length < n) : getB most x = none := by unfold getB; rw [h]; simp [hm, hs]
theorem getB_yes {most n : Nat} {x r : Bs} (h : getN x = some (n, r)) (hm : ¬ most < n) (hs : ¬ r.length < n) : getB most x = some (r.take n, r.drop n) := by unfold getB; rw [h]; simp [hm, hs]





end Go.Proofs.Ytmmoopioiheleaa
