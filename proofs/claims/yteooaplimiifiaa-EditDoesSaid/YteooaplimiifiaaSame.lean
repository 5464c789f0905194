/- Contract of the reference's Same. Conditions: the entries read. -/
import Derived.Test.YteooaplimiifiaaList
namespace Go.Proofs.Yteooaplimiifiaa
set_option linter.unusedSimpArgs false
set_option linter.unusedVariables false
open Go.RowKit

theorem str_eq (x : Bs) : ((⟨x.toArray⟩ : ByteArray) == ⟨x.toArray⟩) = true := by
  change (x.toArray == x.toArray) = true
  simp
theorem str_ne {x y : Bs} (h : x ≠ y) : ((⟨x.toArray⟩ : ByteArray) == ⟨y.toArray⟩) = false := by
  change (x.toArray == y.toArray) = false
  simp [h]



end Go.Proofs.Yteooaplimiifiaa
