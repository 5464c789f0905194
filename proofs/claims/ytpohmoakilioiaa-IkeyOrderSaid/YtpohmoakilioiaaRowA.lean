/- An argument of type [3]api.Entry that came in: it reads as three entries. Conditions: none. -/
import Derived.Test.YtpohmoakilioiaaWOrd
import Derived.Test.YtpohmoakilioiaaRow
import Derived.OpenShut
namespace Go.Proofs.Ytpohmoakilioiaa
set_option linter.unusedSimpArgs false
set_option linter.unusedVariables false
open Go.RowKit Go.ChangeShapes Go.WideShapes Go.ChangeAt Go.Joins Go.Deep

section
variable {H : Type} {enc : TypeId × Value → H} {W : World} {base : Nat} {spare : Nat → Bool} {held : Bool}

set_option maxRecDepth 100000 in
theorem ent_of_row {m : Nat} {c0 c1 c2 c3 : Value} {y : DataW H × List MemPlace} (h : DataW.trod enc Try.prog W base spare held m 25 [c0, c1, c2, c3] = some y)
    (hw : ∀ k ∈ y.1.weights Try.prog 25, k ≤ reachBytes) :
    ∃ A m c A' m' c' x, c0 = .slice A m c ∧ c1 = .int .i64 x.seq ∧ c2 = .int .i64 x.kind ∧ c3 = .slice A' m' c' ∧ RdE W (.agg #[.slice A m c, .int .i64 x.seq, .int .i64 x.kind, .slice A' m' c']) x := by
  obtain ⟨y0, y1, y2, y3, n, hx, _, h0, h1, h2, h3⟩ := trod_struct4 Try.underlying25 h
  have e1 : Try.prog.cellsOf 22 = 1 := by kernel_rfl
  have e2 : Try.prog.cellsOf 2 = 1 := by kernel_rfl
  have e3 : Try.prog.cellsOf 23 = 1 := by kernel_rfl
  simp only [e1, e2, e3, List.drop_succ_cons, List.drop_zero, List.take_succ_cons, List.take_zero] at h0 h1 h2 h3
  subst hx
  have hw0 : ∀ k ∈ y0.1.weights Try.prog 22, k ≤ reachBytes := fun k hk => hw k (by simp [DataW.weights, DataW.weightsEach, Try.underlying25, hk])
  have hw3 : ∀ k ∈ y3.1.weights Try.prog 22, k ≤ reachBytes := fun k hk => hw k (by simp [DataW.weights, DataW.weightsEach, Try.underlying25, hk])
  exact ent_of_cells h0 h1 h2 h3 hw0 hw3

set_option maxRecDepth 100000 in
theorem arr3_of_Trod {r : Reach} {b0 : Nat} {v : Value} {d : DataW H} {p : List MemPlace} (hv : Value.okWide Try.prog W r b0 26 v) (h : DataW.Trod enc Try.prog W base spare held 26 v d p)
    (hw : ∀ k ∈ d.weights Try.prog 26, k ≤ reachBytes) : ∃ x y z, RdA3 W v x y z := by
  simp only [Value.okWide, Try.underlying26] at hv
  obtain ⟨cs, rfl, hsz, _⟩ := hv
  have hC : Try.prog.cellsOf 26 = 12 := by kernel_rfl
  have hE : Try.prog.cellsOf 25 = 4 := by kernel_rfl
  rw [hC] at hsz
  obtain ⟨l⟩ := cs
  match l, hsz with
  | [a0, a1, a2, a3, a4, a5, a6, a7, a8, a9, a10, a11], _ =>
    obtain ⟨fuel, hf⟩ := h
    obtain ⟨xs, m, _, hx, _, hxl, hi⟩ := DataW.trod_array Try.underlying26 hf
    match xs, hxl with
    | [y0, y1, y2], _ =>
      have g0 := hi 0 (by omega)
      have g1 := hi 1 (by omega)
      have g2 := hi 2 (by omega)
      simp only [hE, Value.cells, Nat.reduceMul, List.drop_succ_cons, List.drop_zero, List.take_succ_cons, List.take_zero, List.getElem?_cons_zero, List.getElem?_cons_succ] at g0 g1 g2
      injection hx with hx1 hx2
      subst hx1
      have hw0 : ∀ k ∈ y0.1.weights Try.prog 25, k ≤ reachBytes := fun k hk => hw k (by simp [DataW.weights, DataW.weightsAll, Try.underlying26, hk])
      have hw1 : ∀ k ∈ y1.1.weights Try.prog 25, k ≤ reachBytes := fun k hk => hw k (by simp [DataW.weights, DataW.weightsAll, Try.underlying26, hk])
      have hw2 : ∀ k ∈ y2.1.weights Try.prog 25, k ≤ reachBytes := fun k hk => hw k (by simp [DataW.weights, DataW.weightsAll, Try.underlying26, hk])
      obtain ⟨A0, n0, c0, B0, m0, d0, x, rfl, rfl, rfl, rfl, r0⟩ := ent_of_row g0 hw0
      obtain ⟨A1, n1, c1, B1, m1, d1, y, rfl, rfl, rfl, rfl, r1⟩ := ent_of_row g1 hw1
      obtain ⟨A2, n2, c2, B2, m2, d2, z, rfl, rfl, rfl, rfl, r2⟩ := ent_of_row g2 hw2
      exact ⟨x, y, z, A0, n0, c0, B0, m0, d0, A1, n1, c1, B1, m1, d1, A2, n2, c2, B2, m2, d2, rfl, r0, r1, r2⟩
end

end Go.Proofs.Ytpohmoakilioiaa
