/- Contracts of wire.Open, Reader.Number, Reader.End. Conditions: the slice reads; the reader is one that Open made. -/
import Derived.Test.YtmmoopioiheleaaReadA
namespace Go.Proofs.Ytmmoopioiheleaa
set_option linter.unusedSimpArgs false
set_option linter.unusedVariables false
open Go.RowKit

/-- Block b is one of bytes. -/
def TyB (w : World) (b : Nat) : Prop := ∃ cs fr, w.heap[b]? = some (.cells cs 5 fr)
theorem TyB.ext {w w' : World} {b : Nat} (h : TyB w b) (he : Ext w w') : TyB w' b := by
  obtain ⟨cs, fr, h⟩ := h
  exact ⟨cs, fr, ((Ext.below he).block _ (Array.getElem?_eq_some_iff.1 h).1).trans h⟩
theorem TyB.chg' {w w' : World} {b g : Nat} {cs : Array Value} {t : TypeId} {fr : Nat × Nat} (h : TyB w b) (hg : w.heap[g]? = some (.cells cs t fr)) (ht : t ≠ 5) (hc : w.grownBy w' (some g)) : TyB w' b := by
  obtain ⟨cs', fr', h⟩ := h
  refine ⟨cs', fr', (hc.block _ (Array.getElem?_eq_some_iff.1 h).1 (fun e => ?_)).trans h⟩
  rw [Option.some.inj e, hg] at h
  simp at h; exact ht h.2.1
theorem TyB.setCell {w : World} {b : Nat} (h : TyB w b) (p : Addr) (u : Value) : TyB (w.setCell p u) b := by
  obtain ⟨cs, fr, h⟩ := h
  by_cases e : p.block = b
  · subst e
    by_cases hs : p.spot.isSome = true
    · exact ⟨cs, fr, by simp [World.setCell, Array.getElem?_modify, h]; intro hn; simp [hn] at hs⟩
    · exact ⟨cs.setIfInBounds p.off u, fr, by simp [World.setCell, Array.getElem?_modify, h]; intro hn; exact absurd hn hs⟩
  · exact ⟨cs, fr, (Below.heap_setCell _ _ _ _ (Ne.symm e)).trans h⟩
theorem TyB.of_own {w : World} {base n c : Nat} {b : Nat} {x : Bs} (h : OwnB w base (.slice (some ⟨b, 0, none⟩) n c) x) : TyB w b := by
  rcases h.out.2 with ⟨hv, h0⟩ | ⟨g, cap, cur, hv, _, hg, _⟩
  · cases hv
  · cases hv; exact ⟨_, _, hg⟩


/-- Block g alone, and what is new, may have turned. -/
def Chg (g : Nat) (w w' : World) : Prop := w.grownBy w' (some g)
theorem Chg.rfl_ (g : Nat) (w : World) : Chg g w w := World.grownBy.refl _ _
theorem Chg.of_ext {g : Nat} {w w' : World} (h : Ext w w') : Chg g w w' := ⟨(Ext.below h).os, (Ext.below h).tape, (Ext.below h).output, (Ext.below h).size, fun k hk _ => (Ext.below h).block k hk⟩
theorem Chg.trans {g : Nat} {a b c : World} (h : Chg g a b) (k : Chg g b c) : Chg g a c :=
  ⟨k.os.trans h.os, k.tape.trans h.tape, k.output.trans h.output, Nat.le_trans h.size k.size, fun i hi hne => (k.block i (Nat.lt_of_lt_of_le hi h.size) hne).trans (h.block i hi hne)⟩
theorem Chg.setCell {g : Nat} {a w : World} (h : Chg g a w) (o : Nat) (u : Value) : Chg g a (w.setCell ⟨g, o, none⟩ u) :=
  h.trans ⟨rfl, rfl, rfl, by simp [World.setCell], fun k hk hne => Below.heap_setCell _ _ _ _ (fun e => hne (by rw [e]))⟩
theorem Chg.ext {g : Nat} {a w w' : World} (h : Chg g a w) (k : Ext w w') : Chg g a w' := h.trans (Chg.of_ext k)
theorem Ext.chg {g : Nat} {a w w' : World} (h : Ext a w) (k : Chg g w w') (hg : a.heap.size ≤ g) : Ext a w' := Ext.grown h k (fun i e => by cases e; exact hg)











/-- A slice's tail, as the model spells it. -/
theorem Rd.tail {w : World} {b o n k : Nat} {x : Bs} (h : Rd w (some ⟨b, o, none⟩) n x) (hk : k ≤ n) : Rd w (some ⟨b, o + k, none⟩) (n - k) (x.drop k) := by
  refine ⟨by rw [List.length_drop, h.1], fun hn => ?_⟩
  obtain ⟨b', o', e, hc⟩ := h.2 (by omega)
  cases e
  refine ⟨b, o + k, rfl, fun j hj => ?_⟩
  rw [List.length_drop] at hj
  have := hc (k + j) (by omega)
  rw [Nat.add_assoc, this, List.getElem_drop]





end Go.Proofs.Ytmmoopioiheleaa
