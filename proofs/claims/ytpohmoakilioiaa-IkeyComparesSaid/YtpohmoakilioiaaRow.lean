/- An argument of type api.Entry that came in: it reads as an entry. Conditions: none. -/
import Derived.Test.YtpohmoakilioiaaKeyA
import Derived.ProofKit
import Derived.OpenShut
import Derived.SizedLaws
import Derived.Lib.SmallJoins
namespace Go.Proofs.Ytpohmoakilioiaa
set_option linter.unusedSimpArgs false
set_option linter.unusedVariables false
open Go.RowKit Go.ChangeShapes Go.WideShapes Go.ChangeAt Go.Joins Go.Deep

section
variable {H : Type} {enc : TypeId × Value → H} {W : World} {base : Nat} {spare : Nat → Bool} {held : Bool}

/-- The bytes of a row of numbers. -/
def bytesOfInts (zs : List Int) : Bs := zs.map fun z => UInt8.ofNat z.toNat

theorem rd_of_trod {n : Nat} {v : Value} {y : DataW H × List MemPlace} (h : DataW.trod enc Try.prog W base spare held n 22 [v] = some y)
    (hw : ∀ k ∈ y.1.weights Try.prog 22, k ≤ reachBytes) : ∃ A m c x, v = .slice A m c ∧ Rd W A m x ∧ m ≤ c ∧ m ≤ B47 := by
  rcases open_ints Try.underlying22 Try.underlying5 (by kernel_rfl) h with ⟨hcs, _⟩ | ⟨a, l, c, zs, hcs, _, hl, hm, hz, hx, hcell, hwz⟩
  · simp at hcs
    exact ⟨none, 0, 0, [], hcs, Rd.nil _ _, Nat.le_refl _, Nat.zero_le _⟩
  · simp at hcs
    have hll : l ≤ zs.length := by rw [hz]; split <;> omega
    refine ⟨some a, l, c, bytesOfInts (zs.take l), hcs, ⟨by simp [bytesOfInts]; omega, fun hn => ?_⟩, hl, ?_⟩
    · obtain ⟨b, o, spot⟩ := a
      have hc0 := hcell 0 (by omega)
      have hsp : spot = none := by simpa [Addr.add] using World.cell?_spot hc0
      subst hsp
      refine ⟨b, o, rfl, fun j hj => ?_⟩
      have hj2 : j < zs.length := by simp [bytesOfInts] at hj; omega
      have hcj := hcell j hj2
      have hwj := hwz (zs[j]) (List.getElem_mem hj2)
      have e2 : (⟨b, o, none⟩ : Addr).add j = ⟨b, o + j, none⟩ := by unfold Addr.add; split <;> simp_all
      rw [e2] at hcj
      rw [hcj]
      have hwj2 : (0 : Int) ≤ zs[j] ∧ zs[j] ≤ 255 := by simpa [Lit.wf, IntKind.min, IntKind.max, IntKind.signed, IntKind.bits] using hwj
      clear hwj
      simp [bytesOfInts, List.getD, List.getElem?_eq_getElem hj2]
      omega
    · rw [hx] at hw
      have := hw ((l + (zs.length - l)) * Try.prog.bytesOf 5) (by simp [DataW.weights, Try.underlying22, lits]; left; rw [Nat.min_eq_left hll])
      have hb : Try.prog.bytesOf 5 = 1 := by kernel_rfl
      rw [hb] at this
      unfold reachBytes at this
      unfold B47
      omega

set_option maxRecDepth 100000 in
theorem ent_of_trod {r : Reach} {b0 : Nat} {v : Value} {d : DataW H} {p : List MemPlace} (hv : Value.okWide Try.prog W r b0 25 v) (h : DataW.Trod enc Try.prog W base spare held 25 v d p)
    (hw : ∀ k ∈ d.weights Try.prog 25, k ≤ reachBytes) : ∃ x, RdE W v x := by
  obtain ⟨v0, v1, v2, v3, y0, y1, y2, y3, n, rfl, rfl, rfl, t0, t1, t2, t3⟩ := open_agg4 Try.underlying25 (by kernel_rfl) (by kernel_rfl) hv h
  have hw0 : ∀ k ∈ y0.1.weights Try.prog 22, k ≤ reachBytes := fun k hk => hw k (by simp [DataW.weights, DataW.weightsEach, Try.underlying25, hk])
  have hw3 : ∀ k ∈ y3.1.weights Try.prog 22, k ≤ reachBytes := fun k hk => hw k (by simp [DataW.weights, DataW.weightsEach, Try.underlying25, hk])
  obtain ⟨A, m, c, x0, rfl, r0, l0, b0⟩ := rd_of_trod t0 hw0
  obtain ⟨A', m', c', x3, rfl, r3, l3, b3⟩ := rd_of_trod t3 hw3
  obtain ⟨s1, e1, _, _⟩ := DataW.trod_int Try.underlying2 t1
  obtain ⟨s2, e2, _, _⟩ := DataW.trod_int Try.underlying23 t2
  simp at e1 e2
  subst e1 e2
  exact ⟨⟨x0, s1, s2, x3⟩, A, m, c, A', m', c', rfl, r0, r3, l0, b0, l3, b3⟩
end

end Go.Proofs.Ytpohmoakilioiaa
