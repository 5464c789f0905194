/- A constant string's bytes. Conditions: none. -/
import Derived.Test.YteooaplimiifiaaGreatBytW
namespace Go.Proofs.YteooaplimiifiaaGreat
set_option linter.unusedSimpArgs false
set_option linter.unusedVariables false
set_option maxRecDepth 100000
open Go.RowKit

/-- The world behind a constant string's conversion to bytes: a new block, marked. -/
def litWorld (w : World) (e : TypeId) (cs : Array Value) : World := (w.alloc (.cells cs e)).freeze ⟨w.heap.size, cs.size, none⟩ 1
theorem litWorld_at_old (w : World) (e : TypeId) (cs : Array Value) (j : Nat) (hj : j < w.heap.size) : (litWorld w e cs).heap[j]? = w.heap[j]? := by
  have h1 : w.heap.size ≠ j := by omega
  simp [litWorld, World.freeze, World.alloc, -World.alloc_eq, Array.getElem?_modify, Array.getElem?_push, h1, Ne.symm h1]
theorem litWorld_at_new (w : World) (e : TypeId) (cs : Array Value) : (litWorld w e cs).heap[w.heap.size]? = some (.cells cs e (cs.size, cs.size + 1)) := by
  simp [litWorld, World.freeze, World.alloc, -World.alloc_eq]
  rw [Array.getElem_modify_self]
  simp
theorem litWorld_size (w : World) (e : TypeId) (cs : Array Value) : (litWorld w e cs).heap.size = w.heap.size + 1 := by
  simp [litWorld, World.freeze, World.alloc, -World.alloc_eq]
theorem litWorld_ext (w : World) (e : TypeId) (cs : Array Value) : Ext w (litWorld w e cs) :=
  ⟨by simp [litWorld, World.freeze, World.alloc, -World.alloc_eq], by simp [litWorld, World.freeze, World.alloc, -World.alloc_eq], by simp [litWorld, World.freeze, World.alloc, -World.alloc_eq],
   by rw [litWorld_size]; omega, fun k hk => litWorld_at_old w e cs k hk⟩
theorem run_convert_lit {P : Program} (w : World) (t e : TypeId) (cs : Array Value) (n c : Nat) (ht : P.underlying t = some (.slice e)) (he : P.underlying e = some (.int .u8)) :
    (convert t t (.slice (some ⟨w.heap.size, 0, none⟩) n c)).run P (w.alloc (.cells cs e)) = .ok (.slice (some ⟨w.heap.size, 0, none⟩) n c) (litWorld w e cs) := by
  have hsh : (w.alloc (.cells cs e)).shape? w.heap.size = some (e, cs.size) := by simp [World.shape?, World.alloc, -World.alloc_eq]
  simp [convert, run_underlying ht, run_underlying he, markStringish, hsh, litWorld, Result.andThen]
theorem lit4 (w : World) (t : TypeId) (a b c d : UInt8) : Rd (litWorld w t #[.int .u8 a.toNat, .int .u8 b.toNat, .int .u8 c.toNat, .int .u8 d.toNat]) (some ⟨w.heap.size, 0, none⟩) 4 [a, b, c, d] := by
  have h := litWorld_at_new w t #[.int .u8 a.toNat, .int .u8 b.toNat, .int .u8 c.toNat, .int .u8 d.toNat]
  refine ⟨rfl, fun _ => ⟨_, 0, rfl, fun j hj => ?_⟩⟩
  match j, hj with
  | 0, _ => unfold World.cell?; simp only [h]; rfl
  | 1, _ => unfold World.cell?; simp only [h]; rfl
  | 2, _ => unfold World.cell?; simp only [h]; rfl
  | 3, _ => unfold World.cell?; simp only [h]; rfl
theorem lit4e (w : World) (t : TypeId) (z : Nat) (a b c d : UInt8) (hz : z = w.heap.size) : Rd (litWorld w t #[.int .u8 a.toNat, .int .u8 b.toNat, .int .u8 c.toNat, .int .u8 d.toNat]) (some ⟨z, 0, none⟩) 4 [a, b, c, d] := by
  subst hz; exact lit4 w t a b c d
theorem lit1 (w : World) (t : TypeId) (a : UInt8) : Rd (litWorld w t #[.int .u8 a.toNat]) (some ⟨w.heap.size, 0, none⟩) 1 [a] := by
  have h := litWorld_at_new w t #[.int .u8 a.toNat]
  refine ⟨rfl, fun _ => ⟨_, 0, rfl, fun j hj => ?_⟩⟩
  match j, hj with
  | 0, _ => unfold World.cell?; simp only [h]; rfl

theorem lit1e (w : World) (t : TypeId) (z : Nat) (a : UInt8) (hz : z = w.heap.size) : Rd (litWorld w t #[.int .u8 a.toNat]) (some ⟨z, 0, none⟩) 1 [a] := by
  subst hz; exact lit1 w t a
theorem Hi.one (z n : Nat) : Hi z (some ⟨z, 0, none⟩) n := fun _ a e => by cases e; exact Nat.le_refl _
theorem lit2 (w : World) (t : TypeId) (a b : UInt8) : Rd (litWorld w t #[.int .u8 a.toNat, .int .u8 b.toNat]) (some ⟨w.heap.size, 0, none⟩) 2 [a, b] := by
  have h := litWorld_at_new w t #[.int .u8 a.toNat, .int .u8 b.toNat]
  refine ⟨rfl, fun _ => ⟨_, 0, rfl, fun j hj => ?_⟩⟩
  match j, hj with
  | 0, _ => unfold World.cell?; simp only [h]; rfl
  | 1, _ => unfold World.cell?; simp only [h]; rfl
theorem lit2e (w : World) (t : TypeId) (z : Nat) (a b : UInt8) (hz : z = w.heap.size) : Rd (litWorld w t #[.int .u8 a.toNat, .int .u8 b.toNat]) (some ⟨z, 0, none⟩) 2 [a, b] := by
  subst hz; exact lit2 w t a b

end Go.Proofs.YteooaplimiifiaaGreat
