/- merge.Join's iterator: what it collects first. Conditions: the inner iterators' contracts. -/
import Derived.Test.YtmmoopioiheleaaMgE
import Derived.Test.YtmmoopioiheleaaMgL
namespace Go.Proofs.Ytmmoopioiheleaa
set_option linter.unusedSimpArgs false
set_option linter.unusedVariables false
open Go.RowKit Go.Shelf
attribute [local go_sem] Oper.semAt_some

/-- The row of what was collected. -/
def RowA (w : World) (base : Nat) (v : Value) (LL : List (List Ent)) : Prop :=
  ∃ vs : List Value, w.ownsRow base 22 1 v LL.length vs ∧ ∀ i (h : i < LL.length), ∃ A n c, vs[i]? = some (.slice A n c) ∧ n ≤ c ∧ OwnF w base (.slice A n c) LL[i]
theorem RowA.nil (w : World) (base : Nat) : RowA w base (.slice none 0 0) [] := ⟨[], World.ownsRow_nil _ _ _ _, fun i h => absurd h (by simp)⟩
theorem RowA.ext {w w' : World} {base : Nat} {v : Value} {LL : List (List Ent)} (h : RowA w base v LL) (e : Ext w w') : RowA w' base v LL := by
  obtain ⟨vs, ho, h1⟩ := h
  refine ⟨vs, ownsRow_kx (T := 3) ho (Kx.of_ext e) (by decide), fun i hi => ?_⟩
  obtain ⟨A, n, c, e1, e2, e3⟩ := h1 i hi
  exact ⟨A, n, c, e1, e2, e3.ext e⟩
theorem RowA.lt {w : World} {base : Nat} {v : Value} {LL : List (List Ent)} (h : RowA w base v LL) : ∀ k, v.ownBlock = some k → base ≤ k ∧ k < w.heap.size := by
  obtain ⟨vs, ho, _⟩ := h
  exact ho.lt
theorem Try.infoS : (Try.prog.info? 22).map (fun i => (i.zero, i.size, i.bytes)) = some (some (.slice none 0 0), 1, 24) := by kernel_rfl
theorem app_oneS (ty t : TypeId) (base : Nat) (v : Value) (LL : List (List Ent)) (w : World) (A : Option Addr) (n c : Nat) (ys : List Ent) (hown : RowA w base v LL) (hf : OwnF w base (.slice A n c) ys) (hnc : n ≤ c) (hsz : LL.length ≤ 1000000) (hbase : base ≤ w.heap.size) :
    ∃ v' w', (Builtin.append_ #[55, 55] ty #[v, .slice (some ⟨w.heap.size, 0, none⟩) 1 1]).run Try.prog (w.alloc (.cells #[.slice A n c] t)) = .ok v' w' ∧ RowA w' base v' (LL ++ [ys]) ∧
      (w.alloc (.cells #[.slice A n c] t)).grownBy w' v.ownBlock := by
  have e0 : Ext w (w.alloc (.cells #[.slice A n c] t)) := (by with_reducible (repeat (first | exact Ext.rfl_ _ | assumption | refine Ext.drew ?_ | refine Ext.drewN ?_ _ | refine Ext.alloc ?_ _ | refine Ext.trans ?_ (by assumption))))
  obtain ⟨vs, ho0, h1⟩ := hown
  have ho : (w.alloc (.cells #[.slice A n c] t)).ownsRow base 22 1 v LL.length vs := ownsRow_kx (T := 3) ho0 (Kx.of_ext e0) (by decide)
  obtain ⟨i0, hi, hz0, hz1, hz2⟩ := info_parts Try.infoS
  have hb := heap_alloc_new w (.cells #[.slice A n c] t)
  have hnews : ∀ j u, ([.slice A n c] : List Value)[j]? = some u → (w.alloc (.cells #[.slice A n c] t)).cell? ((⟨w.heap.size, 0, none⟩ : Addr).add j) = some u := by
    intro j u hj
    have e2 : (⟨w.heap.size, 0, none⟩ : Addr).add j = ⟨w.heap.size, j, none⟩ := by unfold Addr.add; split <;> simp_all
    rw [e2]
    unfold World.cell?
    simp only [hb]
    match j with
    | 0 => simpa using hj
    | j + 1 => simp at hj
  have hone : ∀ u ∈ ([.slice A n c] : List Value), u.oneCell' = true := by
    intro u hu
    simp at hu
    subst hu; rfl
  obtain ⟨v', w', hrun, h2, h3, h4⟩ := run_append_own (P := Try.prog) _ base 55 ty 22 i0 _ 1 24 Try.underlying55 hi hz0 hz1 hz2 rfl (by decide) v LL.length vs ho ⟨w.heap.size, 0, none⟩ 1 1 [.slice A n c] rfl hnews hone (by unfold maxLen; omega) (by omega) (by rw [World.size_alloc]; omega)
  have kk : Kx 22 w w' := (Kx.of_ext e0).trans (Kx.of_row h3 ho)
  refine ⟨v', w', hrun, ⟨vs ++ [.slice A n c], by rw [List.length_append, List.length_singleton]; exact h2, fun i hi => ?_⟩, h3⟩
  have hvl : vs.length = LL.length := by have := ho0.1; simpa using this
  by_cases hil : i < LL.length
  · obtain ⟨A1, n1, c1, e1, e2, e3⟩ := h1 i hil
    refine ⟨A1, n1, c1, by rw [List.getElem?_append_left (by omega)]; exact e1, e2, ?_⟩
    rw [List.getElem_append_left hil]
    exact e3.kx kk (by decide) (by decide)
  · have hie : i = LL.length := by simp at hi; omega
    subst hie
    refine ⟨A, n, c, by rw [List.getElem?_append_right (by omega)]; simp [hvl], hnc, ?_⟩
    simp only [List.getElem_append_right (Nat.le_refl _), Nat.sub_self, List.getElem_cons_zero]
    exact hf.kx kk (by decide) (by decide)

/-- A row of iterators. -/
def FnS (w : World) (gl : Nat) (gs : List (Nat × Array Value)) (LL : List (List Ent)) : Prop :=
  gs.length = LL.length ∧ ∀ i (h1 : i < gs.length) (h2 : i < LL.length), w.cell? ⟨gl, i, none⟩ = some (.func (.func gs[i].1) #[] gs[i].2) ∧ Iter gs[i].1 gs[i].2 LL[i] w ∧ LL[i].length ≤ 1000000

/-- What is left of lists run together; the last one that was told. -/
def joinF : Nat → List (List Ent) → Option Ent → List Ent
  | 0, _, _ => []
  | f + 1, LL, last => match lstF LL LL.length with
    | none => []
    | some i => match LL[i]? with
      | some (e :: r) => if (match last with | some y => decide (cmpE y e = 0) | none => false) = true then joinF f (LL.set i r) last else e :: joinF f (LL.set i r) (some e)
      | _ => []
def joinL (LL : List (List Ent)) : List Ent := joinF ((LL.map List.length).sum + 1) LL none

end Go.Proofs.Ytmmoopioiheleaa
