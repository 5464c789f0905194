/- A new row of entries reads. Conditions: none. -/
import Derived.Test.YtmmoopioiheleaaOwnL
namespace Go.Proofs.Ytmmoopioiheleaa
set_option linter.unusedSimpArgs false
set_option linter.unusedVariables false
open Go.RowKit

theorem rdl_row {w : World} (t : TypeId) {hs : List Hdr} {xs : List Ent} (hl : hs.length = xs.length) (hB : xs.length ≤ B41)
    (he : ∀ k (h1 : k < hs.length) (h2 : k < xs.length), RdE w (.agg (cellsE hs[k] xs[k]).toArray) xs[k]) :
    RdL (w.alloc (.cells (rowE hs xs).toArray t)) (some ⟨w.heap.size, 0, none⟩) xs.length xs := by
  have hb := heap_alloc_new w (.cells (rowE hs xs).toArray t)
  refine ⟨rfl, hB, fun _ => ⟨w.heap.size, 0, rfl, fun k hk => ?_⟩⟩
  have hk1 : k < hs.length := by omega
  refine ⟨hs[k].A, hs[k].n, hs[k].c, hs[k].B, hs[k].m, hs[k].d, ?_, (he k hk1 hk).ext (Ext.alloc (Ext.rfl_ w) _)⟩
  have hc : ∀ j, j < 4 → (w.alloc (.cells (rowE hs xs).toArray t)).cell? ⟨w.heap.size, 0 + k * 4 + j, none⟩ = (cellsE hs[k] xs[k])[j]? := by
    intro j hj
    unfold World.cell?
    simp only [hb]
    rw [Nat.zero_add]
    simpa using rowE_get hl k hk j hj
  exact ⟨hc 0 (by omega), hc 1 (by omega), hc 2 (by omega), hc 3 (by omega)⟩

end Go.Proofs.Ytmmoopioiheleaa
