/- How many bytes an entry has at most. Conditions: none. -/
import Derived.Test.YthdahmicjlplcaaKeyC
namespace Go.Proofs.Ythdahmicjlplcaa
set_option linter.unusedSimpArgs false
set_option linter.unusedVariables false
open Go.RowKit

theorem wrE_len (x : Ent) : (wrE x).length ≤ 65630 := by
  by_cases hm : mayE x = true
  · rw [wrE_yes hm]
    have hM := mayE_iff.1 hm
    have j1 := numB_length x.key.length
    have j2 := numB_length x.seq.toNat
    have j3 := numB_length x.kind.toNat
    have j4 := numB_length x.val.length
    have k1 := hM.2.1
    have k2 := hM.2.2.2.2.1
    unfold entB bytB
    split <;> simp <;> omega
  · rw [wrE_no hm]; exact Nat.zero_le _

end Go.Proofs.Ythdahmicjlplcaa
