/-
  No cell of these rows narrows 'for every input' (looked for: loops, veiled, ifaces, maps, wideKeys, modest, calm, conditions, laid).
  DERIVED. THE GIVEN ROWS OF THIS SEAT. 6 by the template 'for every input the law returns true; each argument reads behind the call as it read before'; 0 by the template 'total and deterministic' (their statements: YthdahmicjlplcaaTotals.lean).
  GIVEN WITH THE SEED: the statements are not yours to turn. If you find one false, say at which input.
  Laid BY PROGRAM, IN A SANDBOX (cutbox-rows.mjs): the forced cells as the released guide's own fill.sh prints them over the translation a25d86526b50738b… (all of the seat's roots in one cut). By AI agents, Wed Nov 11 2026. No macro, syntax, notation, axiom, sorry.
-/
import Derived.Test.YthdahmicjlplcaaChecked
import GoSem.Claim
import GoSem.ClaimJoined
import GoSem.ClaimMapViews
import Derived.JoinedTies
import Derived.KernelRfl
namespace Go.Proofs.Ythdahmicjlplcaa
/- THE CELL 'sum', in the pinned program and in every row, IS THE sha256 OF THE DUMP (.gsa) THAT YthdahmicjlplcaaProg.lean LOADS. Nothing in Lean hashes anything: it is a label: what it is worth is what the hold of that sum in a sandbox is worth. -/
noncomputable def Try.pinned : Pinned := { name := "ythdahmicjlplcaa", sum := "a25d86526b50738b15cc69615e1f5212b09f4ed673eb7958958e89ec2e329f74", checked := Try.checked }
namespace Rows
def none {H : Type} : Left H := { results := [], args := [] }

/-- 'hectarelaw13.WalPuts': WHATEVER THE INPUT: true; the input reads as it did. -/
def walPutsSpec : ChangeSpec := { name := "walPuts", fn := fun _ => fun
  | [d] => { results := [.lit (.bool true)], args := [d] }
  | _ => none }
def walPutsRow : OpenClaim := { program := "ythdahmicjlplcaa", sum := "a25d86526b50738b15cc69615e1f5212b09f4ed673eb7958958e89ec2e329f74", func := "hectare/hectarelaw13.WalPuts", spec := "walPuts", unfollowed := true, recurses := true, apart := false }
def WalPutsSaid : Prop := walPutsRow.holds Try.pinned (OpenSpec.ofChange walPutsSpec)

/-- ITS FALSE NEIGHBOUR: 'it returns false'. Refute it at one input. -/
def walPutsWrong : ChangeSpec := { name := "walPuts", fn := fun _ => fun
  | [d] => { results := [.lit (.bool false)], args := [d] }
  | _ => none }
def WalPutsWrongFalsely : Prop := walPutsRow.holds Try.pinned (OpenSpec.ofChange walPutsWrong)

/-- 'hectarelaw13.WalReads': WHATEVER THE INPUT: true; the input reads as it did. -/
def walReadsSpec : ChangeSpec := { name := "walReads", fn := fun _ => fun
  | [d] => { results := [.lit (.bool true)], args := [d] }
  | _ => none }
def walReadsRow : OpenClaim := { program := "ythdahmicjlplcaa", sum := "a25d86526b50738b15cc69615e1f5212b09f4ed673eb7958958e89ec2e329f74", func := "hectare/hectarelaw13.WalReads", spec := "walReads", unfollowed := true, recurses := true, apart := false }
def WalReadsSaid : Prop := walReadsRow.holds Try.pinned (OpenSpec.ofChange walReadsSpec)

/-- ITS FALSE NEIGHBOUR: 'it returns false'. Refute it at one input. -/
def walReadsWrong : ChangeSpec := { name := "walReads", fn := fun _ => fun
  | [d] => { results := [.lit (.bool false)], args := [d] }
  | _ => none }
def WalReadsWrongFalsely : Prop := walReadsRow.holds Try.pinned (OpenSpec.ofChange walReadsWrong)

/-- 'hectarelaw13.WalAfter': WHATEVER THE INPUT: true; the input reads as it did. -/
def walAfterSpec : ChangeSpec := { name := "walAfter", fn := fun _ => fun
  | [d1, d2, d3] => { results := [.lit (.bool true)], args := [d1, d2, d3] }
  | _ => none }
def walAfterRow : OpenClaim := { program := "ythdahmicjlplcaa", sum := "a25d86526b50738b15cc69615e1f5212b09f4ed673eb7958958e89ec2e329f74", func := "hectare/hectarelaw13.WalAfter", spec := "walAfter", unfollowed := true, recurses := true, apart := false }
def WalAfterSaid : Prop := walAfterRow.holds Try.pinned (OpenSpec.ofChange walAfterSpec)

/-- ITS FALSE NEIGHBOUR: 'it returns false'. Refute it at one input. -/
def walAfterWrong : ChangeSpec := { name := "walAfter", fn := fun _ => fun
  | [d1, d2, d3] => { results := [.lit (.bool false)], args := [d1, d2, d3] }
  | _ => none }
def WalAfterWrongFalsely : Prop := walAfterRow.holds Try.pinned (OpenSpec.ofChange walAfterWrong)

/-- 'hectarelaw13.WalTorn': WHATEVER THE INPUT: true; the input reads as it did. -/
def walTornSpec : ChangeSpec := { name := "walTorn", fn := fun _ => fun
  | [d1, d2, d3] => { results := [.lit (.bool true)], args := [d1, d2, d3] }
  | _ => none }
def walTornRow : OpenClaim := { program := "ythdahmicjlplcaa", sum := "a25d86526b50738b15cc69615e1f5212b09f4ed673eb7958958e89ec2e329f74", func := "hectare/hectarelaw13.WalTorn", spec := "walTorn", unfollowed := true, recurses := true, apart := false }
def WalTornSaid : Prop := walTornRow.holds Try.pinned (OpenSpec.ofChange walTornSpec)

/-- ITS FALSE NEIGHBOUR: 'it returns false'. Refute it at one input. -/
def walTornWrong : ChangeSpec := { name := "walTorn", fn := fun _ => fun
  | [d1, d2, d3] => { results := [.lit (.bool false)], args := [d1, d2, d3] }
  | _ => none }
def WalTornWrongFalsely : Prop := walTornRow.holds Try.pinned (OpenSpec.ofChange walTornWrong)

/-- 'hectarelaw13.WalOdd': WHATEVER THE INPUT: true; the input reads as it did. -/
def walOddSpec : ChangeSpec := { name := "walOdd", fn := fun _ => fun
  | [] => { results := [.lit (.bool true)], args := [] }
  | _ => none }
def walOddRow : OpenClaim := { program := "ythdahmicjlplcaa", sum := "a25d86526b50738b15cc69615e1f5212b09f4ed673eb7958958e89ec2e329f74", func := "hectare/hectarelaw13.WalOdd", spec := "walOdd", unfollowed := true, recurses := true, apart := false }
def WalOddSaid : Prop := walOddRow.holds Try.pinned (OpenSpec.ofChange walOddSpec)

/-- ITS FALSE NEIGHBOUR: 'it returns false'. Refute it at one input. -/
def walOddWrong : ChangeSpec := { name := "walOdd", fn := fun _ => fun
  | [] => { results := [.lit (.bool false)], args := [] }
  | _ => none }
def WalOddWrongFalsely : Prop := walOddRow.holds Try.pinned (OpenSpec.ofChange walOddWrong)

/-- 'hectarelaw13.WalSame': WHATEVER THE INPUT: true; the input reads as it did. -/
def walSameSpec : ChangeSpec := { name := "walSame", fn := fun _ => fun
  | [d1, d2] => { results := [.lit (.bool true)], args := [d1, d2] }
  | _ => none }
def walSameRow : OpenClaim := { program := "ythdahmicjlplcaa", sum := "a25d86526b50738b15cc69615e1f5212b09f4ed673eb7958958e89ec2e329f74", func := "hectare/hectarelaw13.WalSame", spec := "walSame", unfollowed := true, recurses := true, apart := false }
def WalSameSaid : Prop := walSameRow.holds Try.pinned (OpenSpec.ofChange walSameSpec)

/-- ITS FALSE NEIGHBOUR: 'it returns false'. Refute it at one input. -/
def walSameWrong : ChangeSpec := { name := "walSame", fn := fun _ => fun
  | [d1, d2] => { results := [.lit (.bool false)], args := [d1, d2] }
  | _ => none }
def WalSameWrongFalsely : Prop := walSameRow.holds Try.pinned (OpenSpec.ofChange walSameWrong)

/- THE SECOND FORM. 'bulk': how many values and letters a reading holds, each counted each time it is reached (what is shared counts as often as it is met; a slice's spare places count too). A statement '..UptoSaid' is the law's where the arguments, and the package variables that the reading takes, are together of bulk at most 1048576: NARROWER than '..Said'. Prove '..Said' where nothing that the law and all that it calls make is longer than what came in: it says more and counts as full. Else prove '..UptoSaid'. A law counts once. -/
mutual
def uptoBulk {H : Type} : DataW H → Nat
  | .lit (.string bytes) => bytes.length + 1
  | .lit _ => 1
  | .nil => 1
  | .ptr d => uptoBulk d + 1
  | .slice elems spare => uptoBulkAll elems + uptoBulkAll spare + 1
  | .agg parts => uptoBulkAll parts + 1
  | .iface _ d => uptoBulk d + 1
  | .map entries => uptoBulkEntries entries + 1
  | .held _ => 1
def uptoBulkAll {H : Type} : List (DataW H) → Nat
  | [] => 0
  | d :: r => uptoBulk d + uptoBulkAll r
def uptoBulkEntries {H : Type} : List (Lit × DataW H) → Nat
  | [] => 0
  | x :: r => uptoBulkEntry x + uptoBulkEntries r
def uptoBulkEntry {H : Type} : Lit × DataW H → Nat
  | (.string bytes, d) => bytes.length + uptoBulk d + 1
  | (_, d) => uptoBulk d + 1
 end
def uptoSmall : (H : Type) → List (DataW H) → Bool := fun _ ds => decide (uptoBulkAll ds ≤ 1048576)
def OpenSpec.upto (s : _root_.Go.ChangeSpec) : _root_.Go.OpenSpec := { _root_.Go.OpenSpec.ofChange s with cond := some uptoSmall }

/-- 'hectarelaw13.WalPuts', WHERE WHAT IT READS IS OF BULK AT MOST 1048576: true; the input reads as it did. -/
def walPutsUptoRow : OpenClaim := { program := "ythdahmicjlplcaa", sum := "a25d86526b50738b15cc69615e1f5212b09f4ed673eb7958958e89ec2e329f74", func := "hectare/hectarelaw13.WalPuts", spec := "walPuts", unfollowed := true, recurses := true, apart := false, narrowed := true }
def WalPutsUptoSaid : Prop := walPutsUptoRow.holds Try.pinned (OpenSpec.upto walPutsSpec)

/-- 'hectarelaw13.WalReads', WHERE WHAT IT READS IS OF BULK AT MOST 1048576: true; the input reads as it did. -/
def walReadsUptoRow : OpenClaim := { program := "ythdahmicjlplcaa", sum := "a25d86526b50738b15cc69615e1f5212b09f4ed673eb7958958e89ec2e329f74", func := "hectare/hectarelaw13.WalReads", spec := "walReads", unfollowed := true, recurses := true, apart := false, narrowed := true }
def WalReadsUptoSaid : Prop := walReadsUptoRow.holds Try.pinned (OpenSpec.upto walReadsSpec)

/-- 'hectarelaw13.WalAfter', WHERE WHAT IT READS IS OF BULK AT MOST 1048576: true; the input reads as it did. -/
def walAfterUptoRow : OpenClaim := { program := "ythdahmicjlplcaa", sum := "a25d86526b50738b15cc69615e1f5212b09f4ed673eb7958958e89ec2e329f74", func := "hectare/hectarelaw13.WalAfter", spec := "walAfter", unfollowed := true, recurses := true, apart := false, narrowed := true }
def WalAfterUptoSaid : Prop := walAfterUptoRow.holds Try.pinned (OpenSpec.upto walAfterSpec)

/-- 'hectarelaw13.WalTorn', WHERE WHAT IT READS IS OF BULK AT MOST 1048576: true; the input reads as it did. -/
def walTornUptoRow : OpenClaim := { program := "ythdahmicjlplcaa", sum := "a25d86526b50738b15cc69615e1f5212b09f4ed673eb7958958e89ec2e329f74", func := "hectare/hectarelaw13.WalTorn", spec := "walTorn", unfollowed := true, recurses := true, apart := false, narrowed := true }
def WalTornUptoSaid : Prop := walTornUptoRow.holds Try.pinned (OpenSpec.upto walTornSpec)

/-- 'hectarelaw13.WalOdd', WHERE WHAT IT READS IS OF BULK AT MOST 1048576: true; the input reads as it did. -/
def walOddUptoRow : OpenClaim := { program := "ythdahmicjlplcaa", sum := "a25d86526b50738b15cc69615e1f5212b09f4ed673eb7958958e89ec2e329f74", func := "hectare/hectarelaw13.WalOdd", spec := "walOdd", unfollowed := true, recurses := true, apart := false, narrowed := true }
def WalOddUptoSaid : Prop := walOddUptoRow.holds Try.pinned (OpenSpec.upto walOddSpec)

/-- 'hectarelaw13.WalSame', WHERE WHAT IT READS IS OF BULK AT MOST 1048576: true; the input reads as it did. -/
def walSameUptoRow : OpenClaim := { program := "ythdahmicjlplcaa", sum := "a25d86526b50738b15cc69615e1f5212b09f4ed673eb7958958e89ec2e329f74", func := "hectare/hectarelaw13.WalSame", spec := "walSame", unfollowed := true, recurses := true, apart := false, narrowed := true }
def WalSameUptoSaid : Prop := walSameUptoRow.holds Try.pinned (OpenSpec.upto walSameSpec)

end Rows
end Go.Proofs.Ythdahmicjlplcaa
