/- A string's bytes in new memory. Conditions: none. -/
import Derived.Test.YteooaplimiifiaaGreatSame
import Derived.Lib.ConvBytes
namespace Go.Proofs.YteooaplimiifiaaGreat
set_option linter.unusedSimpArgs false
set_option linter.unusedVariables false
set_option maxRecDepth 100000
open Go.RowKit

theorem bytesWorld_ext (w : World) (e : TypeId) (s : ByteArray) : Ext w (Lib.bytesWorld w e s) :=
  ⟨by simp [Lib.bytesWorld, World.freeze, World.alloc, World.drew, -World.alloc_eq, -World.drew_eq], by simp [Lib.bytesWorld, World.freeze, World.alloc, World.drew, -World.alloc_eq, -World.drew_eq],
   by simp [Lib.bytesWorld, World.freeze, World.alloc, World.drew, -World.alloc_eq, -World.drew_eq], by rw [Lib.bytesWorld_size]; omega, fun k hk => Lib.bytesWorld_at_old w e s k hk⟩

theorem bytesWorld_rd (w : World) (e : TypeId) (x : Bs) : Rd (Lib.bytesWorld w e ⟨x.toArray⟩) (some ⟨w.heap.size, 0, none⟩) x.length x :=
  ⟨rfl, fun _ => ⟨w.heap.size, 0, rfl, fun j hj => by
    rw [Nat.zero_add, Lib.bytesWorld_cell w e ⟨x.toArray⟩ j (by simpa [ByteArray.size] using hj)]
    simp [List.getD, List.getElem?_eq_getElem hj]⟩⟩

end Go.Proofs.YteooaplimiifiaaGreat
