/- Heights: skip.Height, the reference's. Conditions: the key reads. -/
import Derived.Test.YthfhococglbpoaaHtM
import Derived.Test.YthfhococglbpoaaKeyA
namespace Go.Proofs.Ythfhococglbpoaa
set_option linter.unusedSimpArgs false
set_option linter.unusedVariables false
open Go.RowKit
attribute [local irreducible] hsK mixH




end Go.Proofs.Ythfhococglbpoaa
