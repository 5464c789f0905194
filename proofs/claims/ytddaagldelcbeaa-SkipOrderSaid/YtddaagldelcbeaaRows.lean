/-
  No cell of these rows narrows 'for every input' (looked for: loops, veiled, ifaces, maps, wideKeys, modest, calm, conditions, laid).
  DERIVED. THE GIVEN ROWS OF THIS SEAT. 7 by the template 'for every input the law returns true; each argument reads behind the call as it read before'; 0 by the template 'total and deterministic' (their statements: YtddaagldelcbeaaTotals.lean).
  GIVEN WITH THE SEED: the statements are not yours to turn. If you find one false, say at which input.
  Laid BY PROGRAM, IN A SANDBOX (cutbox-rows.mjs): the forced cells as the released guide's own fill.sh prints them over the translation f8f5c850533beb3b… (all of the seat's roots in one cut). By AI agents, Wed Nov 11 2026. No macro, syntax, notation, axiom, sorry.
-/
import Derived.Test.YtddaagldelcbeaaChecked
import GoSem.Claim
import GoSem.ClaimJoined
import GoSem.ClaimMapViews
import Derived.JoinedTies
import Derived.KernelRfl
namespace Go.Proofs.Ytddaagldelcbeaa
/- THE CELL 'sum', in the pinned program and in every row, IS THE sha256 OF THE DUMP (.gsa) THAT YtddaagldelcbeaaProg.lean LOADS. Nothing in Lean hashes anything: it is a label: what it is worth is what the hold of that sum in a sandbox is worth. -/
noncomputable def Try.pinned : Pinned := { name := "ytddaagldelcbeaa", sum := "f8f5c850533beb3b0b5ee16c2d3a396e98cb31a111c72766f0e5973dea07eaa5", checked := Try.checked }
namespace Rows
def none {H : Type} : Left H := { results := [], args := [] }

/-- 'hectarelaw06.SkipHeights': WHATEVER THE INPUT: true; the input reads as it did. -/
def skipHeightsSpec : ChangeSpec := { name := "skipHeights", fn := fun _ => fun
  | [d1, d2] => { results := [.lit (.bool true)], args := [d1, d2] }
  | _ => none }
def skipHeightsRow : OpenClaim := { program := "ytddaagldelcbeaa", sum := "f8f5c850533beb3b0b5ee16c2d3a396e98cb31a111c72766f0e5973dea07eaa5", func := "hectare/hectarelaw06.SkipHeights", spec := "skipHeights", inPlace := ["internal/bytealg.Compare"], unfollowed := true, recurses := true, apart := false }
def SkipHeightsSaid : Prop := skipHeightsRow.holds Try.pinned (OpenSpec.ofChange skipHeightsSpec)

/-- ITS FALSE NEIGHBOUR: 'it returns false'. Refute it at one input. -/
def skipHeightsWrong : ChangeSpec := { name := "skipHeights", fn := fun _ => fun
  | [d1, d2] => { results := [.lit (.bool false)], args := [d1, d2] }
  | _ => none }
def SkipHeightsWrongFalsely : Prop := skipHeightsRow.holds Try.pinned (OpenSpec.ofChange skipHeightsWrong)

/-- 'hectarelaw06.SkipPuts': WHATEVER THE INPUT: true; the input reads as it did. -/
def skipPutsSpec : ChangeSpec := { name := "skipPuts", fn := fun _ => fun
  | [d1, d2] => { results := [.lit (.bool true)], args := [d1, d2] }
  | _ => none }
def skipPutsRow : OpenClaim := { program := "ytddaagldelcbeaa", sum := "f8f5c850533beb3b0b5ee16c2d3a396e98cb31a111c72766f0e5973dea07eaa5", func := "hectare/hectarelaw06.SkipPuts", spec := "skipPuts", inPlace := ["internal/bytealg.Compare"], unfollowed := true, recurses := true, apart := false }
def SkipPutsSaid : Prop := skipPutsRow.holds Try.pinned (OpenSpec.ofChange skipPutsSpec)

/-- ITS FALSE NEIGHBOUR: 'it returns false'. Refute it at one input. -/
def skipPutsWrong : ChangeSpec := { name := "skipPuts", fn := fun _ => fun
  | [d1, d2] => { results := [.lit (.bool false)], args := [d1, d2] }
  | _ => none }
def SkipPutsWrongFalsely : Prop := skipPutsRow.holds Try.pinned (OpenSpec.ofChange skipPutsWrong)

/-- 'hectarelaw06.SkipGets': WHATEVER THE INPUT: true; the input reads as it did. -/
def skipGetsSpec : ChangeSpec := { name := "skipGets", fn := fun _ => fun
  | [d1, d2, d3] => { results := [.lit (.bool true)], args := [d1, d2, d3] }
  | _ => none }
def skipGetsRow : OpenClaim := { program := "ytddaagldelcbeaa", sum := "f8f5c850533beb3b0b5ee16c2d3a396e98cb31a111c72766f0e5973dea07eaa5", func := "hectare/hectarelaw06.SkipGets", spec := "skipGets", inPlace := ["internal/bytealg.Compare"], unfollowed := true, recurses := true, apart := false }
def SkipGetsSaid : Prop := skipGetsRow.holds Try.pinned (OpenSpec.ofChange skipGetsSpec)

/-- ITS FALSE NEIGHBOUR: 'it returns false'. Refute it at one input. -/
def skipGetsWrong : ChangeSpec := { name := "skipGets", fn := fun _ => fun
  | [d1, d2, d3] => { results := [.lit (.bool false)], args := [d1, d2, d3] }
  | _ => none }
def SkipGetsWrongFalsely : Prop := skipGetsRow.holds Try.pinned (OpenSpec.ofChange skipGetsWrong)

/-- 'hectarelaw06.SkipGoes': WHATEVER THE INPUT: true; the input reads as it did. -/
def skipGoesSpec : ChangeSpec := { name := "skipGoes", fn := fun _ => fun
  | [d1, d2, d3, d4] => { results := [.lit (.bool true)], args := [d1, d2, d3, d4] }
  | _ => none }
def skipGoesRow : OpenClaim := { program := "ytddaagldelcbeaa", sum := "f8f5c850533beb3b0b5ee16c2d3a396e98cb31a111c72766f0e5973dea07eaa5", func := "hectare/hectarelaw06.SkipGoes", spec := "skipGoes", inPlace := ["internal/bytealg.Compare"], unfollowed := true, recurses := true, apart := false }
def SkipGoesSaid : Prop := skipGoesRow.holds Try.pinned (OpenSpec.ofChange skipGoesSpec)

/-- ITS FALSE NEIGHBOUR: 'it returns false'. Refute it at one input. -/
def skipGoesWrong : ChangeSpec := { name := "skipGoes", fn := fun _ => fun
  | [d1, d2, d3, d4] => { results := [.lit (.bool false)], args := [d1, d2, d3, d4] }
  | _ => none }
def SkipGoesWrongFalsely : Prop := skipGoesRow.holds Try.pinned (OpenSpec.ofChange skipGoesWrong)

/-- 'hectarelaw06.SkipOrder': WHATEVER THE INPUT: true; the input reads as it did. -/
def skipOrderSpec : ChangeSpec := { name := "skipOrder", fn := fun _ => fun
  | [d1, d2] => { results := [.lit (.bool true)], args := [d1, d2] }
  | _ => none }
def skipOrderRow : OpenClaim := { program := "ytddaagldelcbeaa", sum := "f8f5c850533beb3b0b5ee16c2d3a396e98cb31a111c72766f0e5973dea07eaa5", func := "hectare/hectarelaw06.SkipOrder", spec := "skipOrder", inPlace := ["internal/bytealg.Compare"], unfollowed := true, recurses := true, apart := false }
def SkipOrderSaid : Prop := skipOrderRow.holds Try.pinned (OpenSpec.ofChange skipOrderSpec)

/-- ITS FALSE NEIGHBOUR: 'it returns false'. Refute it at one input. -/
def skipOrderWrong : ChangeSpec := { name := "skipOrder", fn := fun _ => fun
  | [d1, d2] => { results := [.lit (.bool false)], args := [d1, d2] }
  | _ => none }
def SkipOrderWrongFalsely : Prop := skipOrderRow.holds Try.pinned (OpenSpec.ofChange skipOrderWrong)

/-- 'hectarelaw06.SkipCopies': WHATEVER THE INPUT: true; the input reads as it did. -/
def skipCopiesSpec : ChangeSpec := { name := "skipCopies", fn := fun _ => fun
  | [d1, d2, d3] => { results := [.lit (.bool true)], args := [d1, d2, d3] }
  | _ => none }
def skipCopiesRow : OpenClaim := { program := "ytddaagldelcbeaa", sum := "f8f5c850533beb3b0b5ee16c2d3a396e98cb31a111c72766f0e5973dea07eaa5", func := "hectare/hectarelaw06.SkipCopies", spec := "skipCopies", inPlace := ["internal/bytealg.Compare"], unfollowed := true, recurses := true, apart := false }
def SkipCopiesSaid : Prop := skipCopiesRow.holds Try.pinned (OpenSpec.ofChange skipCopiesSpec)

/-- ITS FALSE NEIGHBOUR: 'it returns false'. Refute it at one input. -/
def skipCopiesWrong : ChangeSpec := { name := "skipCopies", fn := fun _ => fun
  | [d1, d2, d3] => { results := [.lit (.bool false)], args := [d1, d2, d3] }
  | _ => none }
def SkipCopiesWrongFalsely : Prop := skipCopiesRow.holds Try.pinned (OpenSpec.ofChange skipCopiesWrong)

/-- 'hectarelaw06.SkipNil': WHATEVER THE INPUT: true; the input reads as it did. -/
def skipNilSpec : ChangeSpec := { name := "skipNil", fn := fun _ => fun
  | [] => { results := [.lit (.bool true)], args := [] }
  | _ => none }
def skipNilRow : OpenClaim := { program := "ytddaagldelcbeaa", sum := "f8f5c850533beb3b0b5ee16c2d3a396e98cb31a111c72766f0e5973dea07eaa5", func := "hectare/hectarelaw06.SkipNil", spec := "skipNil", inPlace := ["internal/bytealg.Compare"], unfollowed := true, recurses := true, apart := false }
def SkipNilSaid : Prop := skipNilRow.holds Try.pinned (OpenSpec.ofChange skipNilSpec)

/-- ITS FALSE NEIGHBOUR: 'it returns false'. Refute it at one input. -/
def skipNilWrong : ChangeSpec := { name := "skipNil", fn := fun _ => fun
  | [] => { results := [.lit (.bool false)], args := [] }
  | _ => none }
def SkipNilWrongFalsely : Prop := skipNilRow.holds Try.pinned (OpenSpec.ofChange skipNilWrong)

/- THE SECOND FORM. 'bulk': how many values and letters a reading holds, each counted each time it is reached (what is shared counts as often as it is met; a slice's spare places count too). A statement '..UptoSaid' is the law's where the arguments, and the package variables that the reading takes, are together of bulk at most 1048576: NARROWER than '..Said'. Prove '..Said' where nothing that the law and all that it calls make is longer than what came in: it says more and counts as full. Else prove '..UptoSaid'. A law counts once. -/
mutual
def uptoBulk {H : Type} : DataW H → Nat
  | .lit (.string bytes) => bytes.length + 1
  | .lit _ => 1
  | .nil => 1
  | .ptr d => uptoBulk d + 1
  | .slice elems spare => uptoBulkAll elems + uptoBulkAll spare + 1
  | .agg parts => uptoBulkAll parts + 1
  | .iface _ d => uptoBulk d + 1
  | .map entries => uptoBulkEntries entries + 1
  | .held _ => 1
def uptoBulkAll {H : Type} : List (DataW H) → Nat
  | [] => 0
  | d :: r => uptoBulk d + uptoBulkAll r
def uptoBulkEntries {H : Type} : List (Lit × DataW H) → Nat
  | [] => 0
  | x :: r => uptoBulkEntry x + uptoBulkEntries r
def uptoBulkEntry {H : Type} : Lit × DataW H → Nat
  | (.string bytes, d) => bytes.length + uptoBulk d + 1
  | (_, d) => uptoBulk d + 1
 end
def uptoSmall : (H : Type) → List (DataW H) → Bool := fun _ ds => decide (uptoBulkAll ds ≤ 1048576)
def OpenSpec.upto (s : _root_.Go.ChangeSpec) : _root_.Go.OpenSpec := { _root_.Go.OpenSpec.ofChange s with cond := some uptoSmall }

/-- 'hectarelaw06.SkipHeights', WHERE WHAT IT READS IS OF BULK AT MOST 1048576: true; the input reads as it did. -/
def skipHeightsUptoRow : OpenClaim := { program := "ytddaagldelcbeaa", sum := "f8f5c850533beb3b0b5ee16c2d3a396e98cb31a111c72766f0e5973dea07eaa5", func := "hectare/hectarelaw06.SkipHeights", spec := "skipHeights", inPlace := ["internal/bytealg.Compare"], unfollowed := true, recurses := true, apart := false, narrowed := true }
def SkipHeightsUptoSaid : Prop := skipHeightsUptoRow.holds Try.pinned (OpenSpec.upto skipHeightsSpec)

/-- 'hectarelaw06.SkipPuts', WHERE WHAT IT READS IS OF BULK AT MOST 1048576: true; the input reads as it did. -/
def skipPutsUptoRow : OpenClaim := { program := "ytddaagldelcbeaa", sum := "f8f5c850533beb3b0b5ee16c2d3a396e98cb31a111c72766f0e5973dea07eaa5", func := "hectare/hectarelaw06.SkipPuts", spec := "skipPuts", inPlace := ["internal/bytealg.Compare"], unfollowed := true, recurses := true, apart := false, narrowed := true }
def SkipPutsUptoSaid : Prop := skipPutsUptoRow.holds Try.pinned (OpenSpec.upto skipPutsSpec)

/-- 'hectarelaw06.SkipGets', WHERE WHAT IT READS IS OF BULK AT MOST 1048576: true; the input reads as it did. -/
def skipGetsUptoRow : OpenClaim := { program := "ytddaagldelcbeaa", sum := "f8f5c850533beb3b0b5ee16c2d3a396e98cb31a111c72766f0e5973dea07eaa5", func := "hectare/hectarelaw06.SkipGets", spec := "skipGets", inPlace := ["internal/bytealg.Compare"], unfollowed := true, recurses := true, apart := false, narrowed := true }
def SkipGetsUptoSaid : Prop := skipGetsUptoRow.holds Try.pinned (OpenSpec.upto skipGetsSpec)

/-- 'hectarelaw06.SkipGoes', WHERE WHAT IT READS IS OF BULK AT MOST 1048576: true; the input reads as it did. -/
def skipGoesUptoRow : OpenClaim := { program := "ytddaagldelcbeaa", sum := "f8f5c850533beb3b0b5ee16c2d3a396e98cb31a111c72766f0e5973dea07eaa5", func := "hectare/hectarelaw06.SkipGoes", spec := "skipGoes", inPlace := ["internal/bytealg.Compare"], unfollowed := true, recurses := true, apart := false, narrowed := true }
def SkipGoesUptoSaid : Prop := skipGoesUptoRow.holds Try.pinned (OpenSpec.upto skipGoesSpec)

/-- 'hectarelaw06.SkipOrder', WHERE WHAT IT READS IS OF BULK AT MOST 1048576: true; the input reads as it did. -/
def skipOrderUptoRow : OpenClaim := { program := "ytddaagldelcbeaa", sum := "f8f5c850533beb3b0b5ee16c2d3a396e98cb31a111c72766f0e5973dea07eaa5", func := "hectare/hectarelaw06.SkipOrder", spec := "skipOrder", inPlace := ["internal/bytealg.Compare"], unfollowed := true, recurses := true, apart := false, narrowed := true }
def SkipOrderUptoSaid : Prop := skipOrderUptoRow.holds Try.pinned (OpenSpec.upto skipOrderSpec)

/-- 'hectarelaw06.SkipCopies', WHERE WHAT IT READS IS OF BULK AT MOST 1048576: true; the input reads as it did. -/
def skipCopiesUptoRow : OpenClaim := { program := "ytddaagldelcbeaa", sum := "f8f5c850533beb3b0b5ee16c2d3a396e98cb31a111c72766f0e5973dea07eaa5", func := "hectare/hectarelaw06.SkipCopies", spec := "skipCopies", inPlace := ["internal/bytealg.Compare"], unfollowed := true, recurses := true, apart := false, narrowed := true }
def SkipCopiesUptoSaid : Prop := skipCopiesUptoRow.holds Try.pinned (OpenSpec.upto skipCopiesSpec)

/-- 'hectarelaw06.SkipNil', WHERE WHAT IT READS IS OF BULK AT MOST 1048576: true; the input reads as it did. -/
def skipNilUptoRow : OpenClaim := { program := "ytddaagldelcbeaa", sum := "f8f5c850533beb3b0b5ee16c2d3a396e98cb31a111c72766f0e5973dea07eaa5", func := "hectare/hectarelaw06.SkipNil", spec := "skipNil", inPlace := ["internal/bytealg.Compare"], unfollowed := true, recurses := true, apart := false, narrowed := true }
def SkipNilUptoSaid : Prop := skipNilUptoRow.holds Try.pinned (OpenSpec.upto skipNilSpec)

end Rows
end Go.Proofs.Ytddaagldelcbeaa
