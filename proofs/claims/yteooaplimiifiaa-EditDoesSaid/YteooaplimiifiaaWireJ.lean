/- Contract of wire.Join. Conditions: the pieces read as bytes, all together within the reach. -/
import Derived.Test.YteooaplimiifiaaWireA
namespace Go.Proofs.Yteooaplimiifiaa
set_option linter.unusedSimpArgs false
set_option linter.unusedVariables false
open Go.RowKit

/-- A slice of slices of bytes that reads as a list of lists. -/
def RdBB (w : World) (A : Option Addr) (n : Nat) (xs : List Bs) : Prop :=
  xs.length = n ∧ (0 < n → ∃ b o, A = some ⟨b, o, none⟩ ∧ ∀ j (h : j < xs.length), ∃ A' n' c', w.cell? ⟨b, o + j, none⟩ = some (.slice A' n' c') ∧ Rd w A' n' xs[j])

theorem RdBB.at_ {w : World} {A : Option Addr} {n : Nat} {xs : List Bs} (h : RdBB w A n xs) {k : Nat} (hk : k < n) :
    ∃ b o A' n' c' x, A = some ⟨b, o, none⟩ ∧ w.cell? ⟨b, o + k, none⟩ = some (.slice A' n' c') ∧ xs[k]? = some x ∧ Rd w A' n' x := by
  obtain ⟨b, o, e, hc⟩ := h.2 (by omega)
  have hkl : k < xs.length := by rw [h.1]; exact hk
  obtain ⟨A', n', c', h1, h2⟩ := hc k hkl
  exact ⟨b, o, A', n', c', xs[k], e, h1, List.getElem?_eq_getElem hkl, h2⟩

theorem RdBB.ext {w w' : World} {A : Option Addr} {n : Nat} {xs : List Bs} (h : RdBB w A n xs) (he : Ext w w') : RdBB w' A n xs :=
  ⟨h.1, fun hn => by
    obtain ⟨b, o, e, hc⟩ := h.2 hn
    refine ⟨b, o, e, fun j hj => ?_⟩
    obtain ⟨A', n', c', h1, h2⟩ := hc j hj
    exact ⟨A', n', c', he.keeps' h1, h2.ext he⟩⟩

def flen (xs : List Bs) (k : Nat) : Nat := (xs.take k).flatten.length
theorem flat_succ {xs : List Bs} {k : Nat} {x : Bs} (h : xs[k]? = some x) : (xs.take (k + 1)).flatten = (xs.take k).flatten ++ x := by
  have hk : k < xs.length := (List.getElem?_eq_some_iff.1 h).1
  have hx : xs[k] = x := (List.getElem?_eq_some_iff.1 h).2
  rw [List.take_succ_eq_append_getElem hk, hx]
  simp
theorem flen_succ {xs : List Bs} {k : Nat} {x : Bs} (h : xs[k]? = some x) : flen xs (k + 1) = flen xs k + x.length := by
  unfold flen; rw [flat_succ h, List.length_append]
theorem flen_le (xs : List Bs) (k : Nat) : flen xs k ≤ xs.flatten.length := by
  unfold flen
  conv => rhs; rw [← List.take_append_drop k xs]
  rw [List.flatten_append, List.length_append]
  omega


end Go.Proofs.Yteooaplimiifiaa
