/-
  No cell of these rows narrows 'for every input' (looked for: loops, veiled, ifaces, maps, wideKeys, modest, calm, conditions, laid).
  DERIVED. THE GIVEN ROWS OF THIS SEAT. 11 by the template 'for every input the law returns true; each argument reads behind the call as it read before'; 0 by the template 'total and deterministic' (their statements: YtpohmoakilioiaaTotals.lean).
  GIVEN WITH THE SEED: the statements are not yours to turn. If you find one false, say at which input.
  Laid BY PROGRAM, IN A SANDBOX (cutbox-rows.mjs): the forced cells as the released guide's own fill.sh prints them over the translation 52aea955eca5fd13… (all of the seat's roots in one cut). By AI agents, Wed Nov 11 2026. No macro, syntax, notation, axiom, sorry.
-/
import Derived.Test.YtpohmoakilioiaaChecked
import GoSem.Claim
import GoSem.ClaimJoined
import GoSem.ClaimMapViews
import Derived.JoinedTies
import Derived.KernelRfl
namespace Go.Proofs.Ytpohmoakilioiaa
/- THE CELL 'sum', in the pinned program and in every row, IS THE sha256 OF THE DUMP (.gsa) THAT YtpohmoakilioiaaProg.lean LOADS. Nothing in Lean hashes anything: it is a label: what it is worth is what the hold of that sum in a sandbox is worth. -/
noncomputable def Try.pinned : Pinned := { name := "ytpohmoakilioiaa", sum := "52aea955eca5fd1386e95ab1ae112f9be17c4f129e2276748fc851598ea4ca8a", checked := Try.checked }
namespace Rows
def none {H : Type} : Left H := { results := [], args := [] }

/-- 'hectarelaw05.IkeyOrder': WHATEVER THE INPUT: true; the input reads as it did. -/
def ikeyOrderSpec : ChangeSpec := { name := "ikeyOrder", fn := fun _ => fun
  | [d] => { results := [.lit (.bool true)], args := [d] }
  | _ => none }
def ikeyOrderRow : OpenClaim := { program := "ytpohmoakilioiaa", sum := "52aea955eca5fd1386e95ab1ae112f9be17c4f129e2276748fc851598ea4ca8a", func := "hectare/hectarelaw05.IkeyOrder", spec := "ikeyOrder", inPlace := ["internal/bytealg.Compare"], unfollowed := true, recurses := true, apart := false }
def IkeyOrderSaid : Prop := ikeyOrderRow.holds Try.pinned (OpenSpec.ofChange ikeyOrderSpec)

/-- ITS FALSE NEIGHBOUR: 'it returns false'. Refute it at one input. -/
def ikeyOrderWrong : ChangeSpec := { name := "ikeyOrder", fn := fun _ => fun
  | [d] => { results := [.lit (.bool false)], args := [d] }
  | _ => none }
def IkeyOrderWrongFalsely : Prop := ikeyOrderRow.holds Try.pinned (OpenSpec.ofChange ikeyOrderWrong)

/-- 'hectarelaw05.IkeyWrites': WHATEVER THE INPUT: true; the input reads as it did. -/
def ikeyWritesSpec : ChangeSpec := { name := "ikeyWrites", fn := fun _ => fun
  | [d] => { results := [.lit (.bool true)], args := [d] }
  | _ => none }
def ikeyWritesRow : OpenClaim := { program := "ytpohmoakilioiaa", sum := "52aea955eca5fd1386e95ab1ae112f9be17c4f129e2276748fc851598ea4ca8a", func := "hectare/hectarelaw05.IkeyWrites", spec := "ikeyWrites", inPlace := ["internal/bytealg.Compare"], unfollowed := true, recurses := true, apart := false }
def IkeyWritesSaid : Prop := ikeyWritesRow.holds Try.pinned (OpenSpec.ofChange ikeyWritesSpec)

/-- ITS FALSE NEIGHBOUR: 'it returns false'. Refute it at one input. -/
def ikeyWritesWrong : ChangeSpec := { name := "ikeyWrites", fn := fun _ => fun
  | [d] => { results := [.lit (.bool false)], args := [d] }
  | _ => none }
def IkeyWritesWrongFalsely : Prop := ikeyWritesRow.holds Try.pinned (OpenSpec.ofChange ikeyWritesWrong)

/-- 'hectarelaw05.IkeyReads': WHATEVER THE INPUT: true; the input reads as it did. -/
def ikeyReadsSpec : ChangeSpec := { name := "ikeyReads", fn := fun _ => fun
  | [d] => { results := [.lit (.bool true)], args := [d] }
  | _ => none }
def ikeyReadsRow : OpenClaim := { program := "ytpohmoakilioiaa", sum := "52aea955eca5fd1386e95ab1ae112f9be17c4f129e2276748fc851598ea4ca8a", func := "hectare/hectarelaw05.IkeyReads", spec := "ikeyReads", inPlace := ["internal/bytealg.Compare"], unfollowed := true, recurses := true, apart := false }
def IkeyReadsSaid : Prop := ikeyReadsRow.holds Try.pinned (OpenSpec.ofChange ikeyReadsSpec)

/-- ITS FALSE NEIGHBOUR: 'it returns false'. Refute it at one input. -/
def ikeyReadsWrong : ChangeSpec := { name := "ikeyReads", fn := fun _ => fun
  | [d] => { results := [.lit (.bool false)], args := [d] }
  | _ => none }
def IkeyReadsWrongFalsely : Prop := ikeyReadsRow.holds Try.pinned (OpenSpec.ofChange ikeyReadsWrong)

/-- 'hectarelaw05.IkeyLatest': WHATEVER THE INPUT: true; the input reads as it did. -/
def ikeyLatestSpec : ChangeSpec := { name := "ikeyLatest", fn := fun _ => fun
  | [d1, d2, d3] => { results := [.lit (.bool true)], args := [d1, d2, d3] }
  | _ => none }
def ikeyLatestRow : OpenClaim := { program := "ytpohmoakilioiaa", sum := "52aea955eca5fd1386e95ab1ae112f9be17c4f129e2276748fc851598ea4ca8a", func := "hectare/hectarelaw05.IkeyLatest", spec := "ikeyLatest", inPlace := ["internal/bytealg.Compare"], unfollowed := true, recurses := true, apart := false }
def IkeyLatestSaid : Prop := ikeyLatestRow.holds Try.pinned (OpenSpec.ofChange ikeyLatestSpec)

/-- ITS FALSE NEIGHBOUR: 'it returns false'. Refute it at one input. -/
def ikeyLatestWrong : ChangeSpec := { name := "ikeyLatest", fn := fun _ => fun
  | [d1, d2, d3] => { results := [.lit (.bool false)], args := [d1, d2, d3] }
  | _ => none }
def IkeyLatestWrongFalsely : Prop := ikeyLatestRow.holds Try.pinned (OpenSpec.ofChange ikeyLatestWrong)

/-- 'hectarelaw05.IkeyCompares': WHATEVER THE INPUT: true; the input reads as it did. -/
def ikeyComparesSpec : ChangeSpec := { name := "ikeyCompares", fn := fun _ => fun
  | [d1, d2] => { results := [.lit (.bool true)], args := [d1, d2] }
  | _ => none }
def ikeyComparesRow : OpenClaim := { program := "ytpohmoakilioiaa", sum := "52aea955eca5fd1386e95ab1ae112f9be17c4f129e2276748fc851598ea4ca8a", func := "hectare/hectarelaw05.IkeyCompares", spec := "ikeyCompares", inPlace := ["internal/bytealg.Compare"], unfollowed := true, recurses := true, apart := false }
def IkeyComparesSaid : Prop := ikeyComparesRow.holds Try.pinned (OpenSpec.ofChange ikeyComparesSpec)

/-- ITS FALSE NEIGHBOUR: 'it returns false'. Refute it at one input. -/
def ikeyComparesWrong : ChangeSpec := { name := "ikeyCompares", fn := fun _ => fun
  | [d1, d2] => { results := [.lit (.bool false)], args := [d1, d2] }
  | _ => none }
def IkeyComparesWrongFalsely : Prop := ikeyComparesRow.holds Try.pinned (OpenSpec.ofChange ikeyComparesWrong)

/-- 'hectarelaw05.IkeyCopies': WHATEVER THE INPUT: true; the input reads as it did. -/
def ikeyCopiesSpec : ChangeSpec := { name := "ikeyCopies", fn := fun _ => fun
  | [d] => { results := [.lit (.bool true)], args := [d] }
  | _ => none }
def ikeyCopiesRow : OpenClaim := { program := "ytpohmoakilioiaa", sum := "52aea955eca5fd1386e95ab1ae112f9be17c4f129e2276748fc851598ea4ca8a", func := "hectare/hectarelaw05.IkeyCopies", spec := "ikeyCopies", inPlace := ["internal/bytealg.Compare"], unfollowed := true, recurses := true, apart := false }
def IkeyCopiesSaid : Prop := ikeyCopiesRow.holds Try.pinned (OpenSpec.ofChange ikeyCopiesSpec)

/-- ITS FALSE NEIGHBOUR: 'it returns false'. Refute it at one input. -/
def ikeyCopiesWrong : ChangeSpec := { name := "ikeyCopies", fn := fun _ => fun
  | [d] => { results := [.lit (.bool false)], args := [d] }
  | _ => none }
def IkeyCopiesWrongFalsely : Prop := ikeyCopiesRow.holds Try.pinned (OpenSpec.ofChange ikeyCopiesWrong)

/-- 'hectarelaw05.IkeyMay': WHATEVER THE INPUT: true; the input reads as it did. -/
def ikeyMaySpec : ChangeSpec := { name := "ikeyMay", fn := fun _ => fun
  | [d] => { results := [.lit (.bool true)], args := [d] }
  | _ => none }
def ikeyMayRow : OpenClaim := { program := "ytpohmoakilioiaa", sum := "52aea955eca5fd1386e95ab1ae112f9be17c4f129e2276748fc851598ea4ca8a", func := "hectare/hectarelaw05.IkeyMay", spec := "ikeyMay", inPlace := ["internal/bytealg.Compare"], unfollowed := true, recurses := true, apart := false }
def IkeyMaySaid : Prop := ikeyMayRow.holds Try.pinned (OpenSpec.ofChange ikeyMaySpec)

/-- ITS FALSE NEIGHBOUR: 'it returns false'. Refute it at one input. -/
def ikeyMayWrong : ChangeSpec := { name := "ikeyMay", fn := fun _ => fun
  | [d] => { results := [.lit (.bool false)], args := [d] }
  | _ => none }
def IkeyMayWrongFalsely : Prop := ikeyMayRow.holds Try.pinned (OpenSpec.ofChange ikeyMayWrong)

/-- 'hectarelaw05.IkeyBounds': WHATEVER THE INPUT: true; the input reads as it did. -/
def ikeyBoundsSpec : ChangeSpec := { name := "ikeyBounds", fn := fun _ => fun
  | [] => { results := [.lit (.bool true)], args := [] }
  | _ => none }
def ikeyBoundsRow : OpenClaim := { program := "ytpohmoakilioiaa", sum := "52aea955eca5fd1386e95ab1ae112f9be17c4f129e2276748fc851598ea4ca8a", func := "hectare/hectarelaw05.IkeyBounds", spec := "ikeyBounds", inPlace := ["internal/bytealg.Compare"], unfollowed := true, recurses := true, apart := false }
def IkeyBoundsSaid : Prop := ikeyBoundsRow.holds Try.pinned (OpenSpec.ofChange ikeyBoundsSpec)

/-- ITS FALSE NEIGHBOUR: 'it returns false'. Refute it at one input. -/
def ikeyBoundsWrong : ChangeSpec := { name := "ikeyBounds", fn := fun _ => fun
  | [] => { results := [.lit (.bool false)], args := [] }
  | _ => none }
def IkeyBoundsWrongFalsely : Prop := ikeyBoundsRow.holds Try.pinned (OpenSpec.ofChange ikeyBoundsWrong)

/-- 'hectarelaw05.IkeyLists': WHATEVER THE INPUT: true; the input reads as it did. -/
def ikeyListsSpec : ChangeSpec := { name := "ikeyLists", fn := fun _ => fun
  | [d1, d2] => { results := [.lit (.bool true)], args := [d1, d2] }
  | _ => none }
def ikeyListsRow : OpenClaim := { program := "ytpohmoakilioiaa", sum := "52aea955eca5fd1386e95ab1ae112f9be17c4f129e2276748fc851598ea4ca8a", func := "hectare/hectarelaw05.IkeyLists", spec := "ikeyLists", inPlace := ["internal/bytealg.Compare"], unfollowed := true, recurses := true, apart := false }
def IkeyListsSaid : Prop := ikeyListsRow.holds Try.pinned (OpenSpec.ofChange ikeyListsSpec)

/-- ITS FALSE NEIGHBOUR: 'it returns false'. Refute it at one input. -/
def ikeyListsWrong : ChangeSpec := { name := "ikeyLists", fn := fun _ => fun
  | [d1, d2] => { results := [.lit (.bool false)], args := [d1, d2] }
  | _ => none }
def IkeyListsWrongFalsely : Prop := ikeyListsRow.holds Try.pinned (OpenSpec.ofChange ikeyListsWrong)

/-- 'hectarelaw05.IkeyBack': WHATEVER THE INPUT: true; the input reads as it did. -/
def ikeyBackSpec : ChangeSpec := { name := "ikeyBack", fn := fun _ => fun
  | [d1, d2] => { results := [.lit (.bool true)], args := [d1, d2] }
  | _ => none }
def ikeyBackRow : OpenClaim := { program := "ytpohmoakilioiaa", sum := "52aea955eca5fd1386e95ab1ae112f9be17c4f129e2276748fc851598ea4ca8a", func := "hectare/hectarelaw05.IkeyBack", spec := "ikeyBack", inPlace := ["internal/bytealg.Compare"], unfollowed := true, recurses := true, apart := false }
def IkeyBackSaid : Prop := ikeyBackRow.holds Try.pinned (OpenSpec.ofChange ikeyBackSpec)

/-- ITS FALSE NEIGHBOUR: 'it returns false'. Refute it at one input. -/
def ikeyBackWrong : ChangeSpec := { name := "ikeyBack", fn := fun _ => fun
  | [d1, d2] => { results := [.lit (.bool false)], args := [d1, d2] }
  | _ => none }
def IkeyBackWrongFalsely : Prop := ikeyBackRow.holds Try.pinned (OpenSpec.ofChange ikeyBackWrong)

/-- 'hectarelaw05.IkeySorts': WHATEVER THE INPUT: true; the input reads as it did. -/
def ikeySortsSpec : ChangeSpec := { name := "ikeySorts", fn := fun _ => fun
  | [d] => { results := [.lit (.bool true)], args := [d] }
  | _ => none }
def ikeySortsRow : OpenClaim := { program := "ytpohmoakilioiaa", sum := "52aea955eca5fd1386e95ab1ae112f9be17c4f129e2276748fc851598ea4ca8a", func := "hectare/hectarelaw05.IkeySorts", spec := "ikeySorts", inPlace := ["internal/bytealg.Compare"], unfollowed := true, recurses := true, apart := false }
def IkeySortsSaid : Prop := ikeySortsRow.holds Try.pinned (OpenSpec.ofChange ikeySortsSpec)

/-- ITS FALSE NEIGHBOUR: 'it returns false'. Refute it at one input. -/
def ikeySortsWrong : ChangeSpec := { name := "ikeySorts", fn := fun _ => fun
  | [d] => { results := [.lit (.bool false)], args := [d] }
  | _ => none }
def IkeySortsWrongFalsely : Prop := ikeySortsRow.holds Try.pinned (OpenSpec.ofChange ikeySortsWrong)

/- THE SECOND FORM. 'bulk': how many values and letters a reading holds, each counted each time it is reached (what is shared counts as often as it is met; a slice's spare places count too). A statement '..UptoSaid' is the law's where the arguments, and the package variables that the reading takes, are together of bulk at most 1048576: NARROWER than '..Said'. Prove '..Said' where nothing that the law and all that it calls make is longer than what came in: it says more and counts as full. Else prove '..UptoSaid'. A law counts once. -/
mutual
def uptoBulk {H : Type} : DataW H → Nat
  | .lit (.string bytes) => bytes.length + 1
  | .lit _ => 1
  | .nil => 1
  | .ptr d => uptoBulk d + 1
  | .slice elems spare => uptoBulkAll elems + uptoBulkAll spare + 1
  | .agg parts => uptoBulkAll parts + 1
  | .iface _ d => uptoBulk d + 1
  | .map entries => uptoBulkEntries entries + 1
  | .held _ => 1
def uptoBulkAll {H : Type} : List (DataW H) → Nat
  | [] => 0
  | d :: r => uptoBulk d + uptoBulkAll r
def uptoBulkEntries {H : Type} : List (Lit × DataW H) → Nat
  | [] => 0
  | x :: r => uptoBulkEntry x + uptoBulkEntries r
def uptoBulkEntry {H : Type} : Lit × DataW H → Nat
  | (.string bytes, d) => bytes.length + uptoBulk d + 1
  | (_, d) => uptoBulk d + 1
 end
def uptoSmall : (H : Type) → List (DataW H) → Bool := fun _ ds => decide (uptoBulkAll ds ≤ 1048576)
def OpenSpec.upto (s : _root_.Go.ChangeSpec) : _root_.Go.OpenSpec := { _root_.Go.OpenSpec.ofChange s with cond := some uptoSmall }

/-- 'hectarelaw05.IkeyOrder', WHERE WHAT IT READS IS OF BULK AT MOST 1048576: true; the input reads as it did. -/
def ikeyOrderUptoRow : OpenClaim := { program := "ytpohmoakilioiaa", sum := "52aea955eca5fd1386e95ab1ae112f9be17c4f129e2276748fc851598ea4ca8a", func := "hectare/hectarelaw05.IkeyOrder", spec := "ikeyOrder", inPlace := ["internal/bytealg.Compare"], unfollowed := true, recurses := true, apart := false, narrowed := true }
def IkeyOrderUptoSaid : Prop := ikeyOrderUptoRow.holds Try.pinned (OpenSpec.upto ikeyOrderSpec)

/-- 'hectarelaw05.IkeyWrites', WHERE WHAT IT READS IS OF BULK AT MOST 1048576: true; the input reads as it did. -/
def ikeyWritesUptoRow : OpenClaim := { program := "ytpohmoakilioiaa", sum := "52aea955eca5fd1386e95ab1ae112f9be17c4f129e2276748fc851598ea4ca8a", func := "hectare/hectarelaw05.IkeyWrites", spec := "ikeyWrites", inPlace := ["internal/bytealg.Compare"], unfollowed := true, recurses := true, apart := false, narrowed := true }
def IkeyWritesUptoSaid : Prop := ikeyWritesUptoRow.holds Try.pinned (OpenSpec.upto ikeyWritesSpec)

/-- 'hectarelaw05.IkeyReads', WHERE WHAT IT READS IS OF BULK AT MOST 1048576: true; the input reads as it did. -/
def ikeyReadsUptoRow : OpenClaim := { program := "ytpohmoakilioiaa", sum := "52aea955eca5fd1386e95ab1ae112f9be17c4f129e2276748fc851598ea4ca8a", func := "hectare/hectarelaw05.IkeyReads", spec := "ikeyReads", inPlace := ["internal/bytealg.Compare"], unfollowed := true, recurses := true, apart := false, narrowed := true }
def IkeyReadsUptoSaid : Prop := ikeyReadsUptoRow.holds Try.pinned (OpenSpec.upto ikeyReadsSpec)

/-- 'hectarelaw05.IkeyLatest', WHERE WHAT IT READS IS OF BULK AT MOST 1048576: true; the input reads as it did. -/
def ikeyLatestUptoRow : OpenClaim := { program := "ytpohmoakilioiaa", sum := "52aea955eca5fd1386e95ab1ae112f9be17c4f129e2276748fc851598ea4ca8a", func := "hectare/hectarelaw05.IkeyLatest", spec := "ikeyLatest", inPlace := ["internal/bytealg.Compare"], unfollowed := true, recurses := true, apart := false, narrowed := true }
def IkeyLatestUptoSaid : Prop := ikeyLatestUptoRow.holds Try.pinned (OpenSpec.upto ikeyLatestSpec)

/-- 'hectarelaw05.IkeyCompares', WHERE WHAT IT READS IS OF BULK AT MOST 1048576: true; the input reads as it did. -/
def ikeyComparesUptoRow : OpenClaim := { program := "ytpohmoakilioiaa", sum := "52aea955eca5fd1386e95ab1ae112f9be17c4f129e2276748fc851598ea4ca8a", func := "hectare/hectarelaw05.IkeyCompares", spec := "ikeyCompares", inPlace := ["internal/bytealg.Compare"], unfollowed := true, recurses := true, apart := false, narrowed := true }
def IkeyComparesUptoSaid : Prop := ikeyComparesUptoRow.holds Try.pinned (OpenSpec.upto ikeyComparesSpec)

/-- 'hectarelaw05.IkeyCopies', WHERE WHAT IT READS IS OF BULK AT MOST 1048576: true; the input reads as it did. -/
def ikeyCopiesUptoRow : OpenClaim := { program := "ytpohmoakilioiaa", sum := "52aea955eca5fd1386e95ab1ae112f9be17c4f129e2276748fc851598ea4ca8a", func := "hectare/hectarelaw05.IkeyCopies", spec := "ikeyCopies", inPlace := ["internal/bytealg.Compare"], unfollowed := true, recurses := true, apart := false, narrowed := true }
def IkeyCopiesUptoSaid : Prop := ikeyCopiesUptoRow.holds Try.pinned (OpenSpec.upto ikeyCopiesSpec)

/-- 'hectarelaw05.IkeyMay', WHERE WHAT IT READS IS OF BULK AT MOST 1048576: true; the input reads as it did. -/
def ikeyMayUptoRow : OpenClaim := { program := "ytpohmoakilioiaa", sum := "52aea955eca5fd1386e95ab1ae112f9be17c4f129e2276748fc851598ea4ca8a", func := "hectare/hectarelaw05.IkeyMay", spec := "ikeyMay", inPlace := ["internal/bytealg.Compare"], unfollowed := true, recurses := true, apart := false, narrowed := true }
def IkeyMayUptoSaid : Prop := ikeyMayUptoRow.holds Try.pinned (OpenSpec.upto ikeyMaySpec)

/-- 'hectarelaw05.IkeyBounds', WHERE WHAT IT READS IS OF BULK AT MOST 1048576: true; the input reads as it did. -/
def ikeyBoundsUptoRow : OpenClaim := { program := "ytpohmoakilioiaa", sum := "52aea955eca5fd1386e95ab1ae112f9be17c4f129e2276748fc851598ea4ca8a", func := "hectare/hectarelaw05.IkeyBounds", spec := "ikeyBounds", inPlace := ["internal/bytealg.Compare"], unfollowed := true, recurses := true, apart := false, narrowed := true }
def IkeyBoundsUptoSaid : Prop := ikeyBoundsUptoRow.holds Try.pinned (OpenSpec.upto ikeyBoundsSpec)

/-- 'hectarelaw05.IkeyLists', WHERE WHAT IT READS IS OF BULK AT MOST 1048576: true; the input reads as it did. -/
def ikeyListsUptoRow : OpenClaim := { program := "ytpohmoakilioiaa", sum := "52aea955eca5fd1386e95ab1ae112f9be17c4f129e2276748fc851598ea4ca8a", func := "hectare/hectarelaw05.IkeyLists", spec := "ikeyLists", inPlace := ["internal/bytealg.Compare"], unfollowed := true, recurses := true, apart := false, narrowed := true }
def IkeyListsUptoSaid : Prop := ikeyListsUptoRow.holds Try.pinned (OpenSpec.upto ikeyListsSpec)

/-- 'hectarelaw05.IkeyBack', WHERE WHAT IT READS IS OF BULK AT MOST 1048576: true; the input reads as it did. -/
def ikeyBackUptoRow : OpenClaim := { program := "ytpohmoakilioiaa", sum := "52aea955eca5fd1386e95ab1ae112f9be17c4f129e2276748fc851598ea4ca8a", func := "hectare/hectarelaw05.IkeyBack", spec := "ikeyBack", inPlace := ["internal/bytealg.Compare"], unfollowed := true, recurses := true, apart := false, narrowed := true }
def IkeyBackUptoSaid : Prop := ikeyBackUptoRow.holds Try.pinned (OpenSpec.upto ikeyBackSpec)

/-- 'hectarelaw05.IkeySorts', WHERE WHAT IT READS IS OF BULK AT MOST 1048576: true; the input reads as it did. -/
def ikeySortsUptoRow : OpenClaim := { program := "ytpohmoakilioiaa", sum := "52aea955eca5fd1386e95ab1ae112f9be17c4f129e2276748fc851598ea4ca8a", func := "hectare/hectarelaw05.IkeySorts", spec := "ikeySorts", inPlace := ["internal/bytealg.Compare"], unfollowed := true, recurses := true, apart := false, narrowed := true }
def IkeySortsUptoSaid : Prop := ikeySortsUptoRow.holds Try.pinned (OpenSpec.upto ikeySortsSpec)

end Rows
end Go.Proofs.Ytpohmoakilioiaa
