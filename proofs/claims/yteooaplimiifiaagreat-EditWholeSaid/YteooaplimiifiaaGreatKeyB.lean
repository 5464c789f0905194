/- Contracts of ikey.May and of the reference's May. Conditions: the entry reads. -/
import Derived.Test.YteooaplimiifiaaGreatWireJ
namespace Go.Proofs.YteooaplimiifiaaGreat
set_option linter.unusedSimpArgs false
set_option linter.unusedVariables false
set_option maxRecDepth 100000
open Go.RowKit

theorem blk1 (w : World) (o : Obj) : (w.alloc o).heap[w.heap.size]? = some o := heap_alloc_new w o




def longE (x : Ent) : Bool := decide (100000 < x.key.length + x.val.length)


end Go.Proofs.YteooaplimiifiaaGreat
