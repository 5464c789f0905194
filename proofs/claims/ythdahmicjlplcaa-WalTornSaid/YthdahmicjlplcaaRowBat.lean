/- Arguments of the types api.Batch and []api.Batch that came in: they read as batches. Conditions: none. -/
import Derived.Test.YthdahmicjlplcaaBatC
import Derived.Test.YthdahmicjlplcaaRow
import Derived.OpenShut
namespace Go.Proofs.Ythdahmicjlplcaa
set_option linter.unusedSimpArgs false
set_option linter.unusedVariables false
open Go.RowKit Go.ChangeShapes Go.WideShapes Go.ChangeAt Go.Joins Go.Deep

section
variable {H : Type} {enc : TypeId × Value → H} {W : World} {base : Nat} {spare : Nat → Bool} {held : Bool}

set_option maxRecDepth 100000 in
theorem bat_of_trod {r : Reach} {b0 : Nat} {v : Value} {d : DataW H} {p : List MemPlace} (hv : Value.okWide Try.prog W r b0 24 v) (h : DataW.Trod enc Try.prog W base spare held 24 v d p)
    (hw : ∀ k ∈ d.weights Try.prog 24, k ≤ reachBytes) : ∃ x, RdB W v x := by
  obtain ⟨v0, v1, y0, y1, n, rfl, rfl, rfl, t0, t1⟩ := open_agg2 Try.underlying24 (by kernel_rfl) (by kernel_rfl) hv h
  have hw1 : ∀ k ∈ y1.1.weights Try.prog 22, k ≤ reachBytes := fun k hk => hw k (by simp [DataW.weights, DataW.weightsEach, Try.underlying24, hk])
  obtain ⟨A, m, c, xs, rfl, r1, l1⟩ := rdl_of_trod t1 hw1
  obtain ⟨s0, e0, _, _⟩ := DataW.trod_int Try.underlying2 t0
  simp at e0
  subst e0
  exact ⟨⟨s0, xs⟩, A, m, c, rfl, r1, l1⟩

set_option maxRecDepth 100000 in
theorem rdlb_of_Trod {r : Reach} {b0 : Nat} {v : Value} {d : DataW H} {p : List MemPlace} (hv : Value.okWide Try.prog W r b0 26 v) (h : DataW.Trod enc Try.prog W base spare held 26 v d p)
    (hw : ∀ k ∈ d.weights Try.prog 26, k ≤ reachBytes) : ∃ A m c xs, v = .slice A m c ∧ RdLW W A m xs ∧ m ≤ c := by
  obtain ⟨a0, l0, c0, rfl⟩ := okWide_slice Try.underlying26 hv
  obtain ⟨n, hn⟩ := h
  rcases open_slice_fields Try.underlying26 Try.underlying24 (by kernel_rfl) (by kernel_rfl) hn with ⟨hcs, _⟩ | ⟨a, l1, c1, m, D, Pl, hcs, hb, hl, hm, hmm, hx, hi⟩
  · simp [Value.cells] at hcs
    obtain ⟨rfl, rfl, rfl⟩ := hcs
    exact ⟨none, 0, 0, [], rfl, RdLW.nil _ _, Nat.le_refl _⟩
  · simp [Value.cells] at hcs
    obtain ⟨rfl, rfl, rfl⟩ := hcs
    have hlm : l0 ≤ m := by rw [hmm]; split <;> omega
    injection hx with hx1 hx2
    have hbytes : Try.prog.bytesOf 24 = 32 := by kernel_rfl
    have hreach : (l0 + (m - l0)) * 32 ≤ reachBytes := by
      have := hw ((l0 + (m - l0)) * 32) (by rw [hx1]; simp [DataW.weights, Try.underlying26, hbytes])
      exact this
    have hB : l0 ≤ B47 := by unfold reachBytes at hreach; unfold B47; omega
    have hd : ∀ i, i < l0 → ∀ k ∈ (D i).weights Try.prog 24, k ≤ reachBytes := fun i hi k hk => hw k (by
      rw [hx1]
      simp only [DataW.weights, Try.underlying26, List.mem_cons, List.mem_append]
      exact .inr (.inl (weights_mem_all (List.mem_map.2 ⟨i, List.mem_range.2 hi, rfl⟩) hk)))
    have hq : ∀ i, i < l0 → ∃ x : Bat, ∃ A1 n1 c1, W.cell? (a.add (i * 2)) = some (.int .i64 x.idx) ∧ W.cell? (a.add (i * 2 + 1)) = some (.slice A1 n1 c1) ∧ RdL W A1 n1 x.es ∧ n1 ≤ c1 := by
      intro i hil
      obtain ⟨ys, n', hD, _, hyl, hf⟩ := hi i (by omega)
      match ys, hyl with
      | [y0, y1], _ =>
        obtain ⟨v0, z0, g0, e0, t0⟩ := hf 0 _ rfl
        obtain ⟨v1, z1, g1, e1, t1⟩ := hf 1 _ rfl
        simp at e0 e1
        subst e0 e1
        have hdi := hd i hil
        rw [hD] at hdi
        have hw1 : ∀ k ∈ y1.1.weights Try.prog 22, k ≤ reachBytes := fun k hk => hdi k (by simp [DataW.weights, DataW.weightsEach, Try.underlying24, hk])
        obtain ⟨A1, n1, c1, xs, rfl, r1, l1⟩ := rdl_of_trod t1 hw1
        obtain ⟨s0, e0, _, _⟩ := DataW.trod_int Try.underlying2 t0
        simp at e0
        subst e0
        exact ⟨⟨s0, xs⟩, A1, n1, c1, g0, g1, r1, l1⟩
    obtain ⟨xs, hxl, hxs⟩ := exists_list l0 hq
    refine ⟨some a, l0, c0, xs, rfl, ⟨hxl, hB, fun hpos => ?_⟩, hl⟩
    obtain ⟨b, o, spot⟩ := a
    obtain ⟨_, _, _, hc0, _⟩ := hxs 0 (by omega)
    have hsp : spot = none := by simpa [Addr.add] using World.cell?_spot hc0
    subst hsp
    refine ⟨b, o, rfl, fun k hk => ?_⟩
    obtain ⟨A1, n1, c1, h0, h1, h2, h3⟩ := hxs k hk
    simp only [add_none] at h0 h1
    exact ⟨A1, n1, c1, h0, by rw [Nat.add_assoc]; exact h1, h2, h3⟩
end

end Go.Proofs.Ythdahmicjlplcaa
