/- Contract of the reference's Same. Conditions: the entries read. -/
import Derived.Test.YteooaplimiifiaaGreatList
namespace Go.Proofs.YteooaplimiifiaaGreat
set_option linter.unusedSimpArgs false
set_option linter.unusedVariables false
set_option maxRecDepth 100000
open Go.RowKit

theorem str_eq (x : Bs) : ((⟨x.toArray⟩ : ByteArray) == ⟨x.toArray⟩) = true := by
  change (x.toArray == x.toArray) = true
  simp
theorem str_ne {x y : Bs} (h : x ≠ y) : ((⟨x.toArray⟩ : ByteArray) == ⟨y.toArray⟩) = false := by
  change (x.toArray == y.toArray) = false
  simp [h]



end Go.Proofs.YteooaplimiifiaaGreat
