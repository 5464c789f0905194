/- A scope that is jumped back in, with a measure that the code does not see. Conditions: none (over any program). -/
import Derived.Test.YtddaagldelcbeaaMem
import Derived.ScopeJumps
namespace Go.Proofs.Ytddaagldelcbeaa
set_option linter.unusedSimpArgs false
set_option linter.unusedVariables false

theorem least_of {p : Nat → Prop} (h : ∃ n, p n) : ∃ n, p n ∧ ∀ k, p k → n ≤ k := by
  obtain ⟨n, hn⟩ := h
  induction n using Nat.strongRecOn with
  | _ n ih =>
    by_cases hk : ∃ k, k < n ∧ p k
    · obtain ⟨k, hlt, hpk⟩ := hk
      exact ih k hlt hpk
    · exact ⟨n, hn, fun k hpk => Nat.le_of_not_lt fun hlt => hk ⟨k, hlt, hpk⟩⟩

variable {P : Program} {a : Act} {w : World} {Q : Exit → Act → World → Prop}

open Classical in
theorem wp_scope_ghost {c rest : Code} (l : Nat) (J : Nat → Act → World → Prop) (hf : findLabel c l = some (Code.skip.seq rest))
    (pass : ∀ m a w, J m a w → rest.wp P (Exit.jump l (fun a' w' => ∃ m', m' < m ∧ J m' a' w') Q) a w)
    (first : (∀ m a w, J m a w → rest.wp P (Exit.jump l (fun a' w' => ∃ m, J m a' w') Q) a w) → c.wp P (Exit.jump l (fun a' w' => ∃ m, J m a' w') Q) a w) : (Code.scope c).wp P Q a w := by
  let μ : Act → World → Nat := fun a w => if h : ∃ m, J m a w then Classical.choose (least_of h) else 0
  have hμ : ∀ a w (h : ∃ m, J m a w), J (μ a w) a w ∧ ∀ k, J k a w → μ a w ≤ k := by
    intro a w h
    have : μ a w = Classical.choose (least_of h) := dif_pos h
    rw [this]
    exact Classical.choose_spec (least_of h)
  refine wp_scope_jumps l (fun a w => ∃ m, J m a w) μ hf (first fun m a w hj => ?_) ?_
  · refine wp_mono (pass m a w hj) ?_
    intro e a' w' hq
    cases e with
    | goto l' =>
      obtain ⟨h1, m', _, h2⟩ := hq
      exact ⟨h1, m', h2⟩
    | _ => exact hq
  · intro a w hj
    refine wp_seq (wp_skip ?_)
    refine wp_mono (pass _ a w (hμ a w hj).1) ?_
    intro e a' w' hq
    cases e with
    | goto l' =>
      obtain ⟨h1, m', hlt, h2⟩ := hq
      exact ⟨h1, ⟨m', h2⟩, Nat.lt_of_le_of_lt ((hμ a' w' ⟨m', h2⟩).2 m' h2) hlt⟩
    | _ => exact hq

end Go.Proofs.Ytddaagldelcbeaa
