/- What iterators and the loops over them share. Conditions: none. -/
import Derived.Test.YteooaplimiifiaaGreatList
import Derived.Test.YteooaplimiifiaaGreatRange
import Derived.Scope
import Derived.RangeFuncFrom
import Derived.Shelf.Abstract
namespace Go.Proofs.YteooaplimiifiaaGreat
set_option linter.unusedSimpArgs false
set_option linter.unusedVariables false
set_option maxRecDepth 100000
open Go.RowKit Go.Shelf
attribute [local go_sem] Oper.semAt_some

theorem Kept.cell {X : Nat → Prop} {a b : World} (h : Kept X a b) {p : Addr} {v : Value} (hc : a.cell? p = some v) (hx : X p.block) : b.cell? p = some v := by
  have hb := World.block_lt_of_cell? a p hc
  have := h.block _ hb hx
  unfold World.cell? at *
  rw [this]; exact hc
theorem Kept.keep {l : Nat} {a b : World} (h : Kept (fun k => k ≠ l) a b) (hl : ∃ r, a.heap[l]? = some (.loop r)) {p : Addr} {v : Value} (hc : a.cell? p = some v) : b.cell? p = some v := by
  obtain ⟨r, hr⟩ := hl
  refine h.cell hc (fun e => ?_)
  unfold World.cell? at hc
  rw [e, hr] at hc
  cases hc
theorem Rd.kept {l : Nat} {a b : World} (h : Kept (fun k => k ≠ l) a b) (hl : ∃ r, a.heap[l]? = some (.loop r)) {A : Option Addr} {n : Nat} {x : Bs} (hr : Rd a A n x) : Rd b A n x :=
  hr.keep fun _ _ _ hc => h.keep hl hc
theorem RdE.kept {l : Nat} {a b : World} (h : Kept (fun k => k ≠ l) a b) (hl : ∃ r, a.heap[l]? = some (.loop r)) {v : Value} {x : Ent} (hr : RdE a v x) : RdE b v x := by
  obtain ⟨A, n, c, A', n', c', rfl, h1, h2, h3⟩ := hr
  exact ⟨A, n, c, A', n', c', rfl, h1.kept h hl, h2.kept h hl, h3⟩
theorem Kept.frozen {X : Nat → Prop} {a b : World} (h : Kept X a b) {p : Addr} (hb : p.block < a.heap.size) (hx : X p.block) : b.frozen? p = a.frozen? p := by
  have := h.block _ hb hx
  unfold World.frozen?
  rw [this]
theorem Kept.ext_of {X : Nat → Prop} {z a b : World} (h : Kept X a b) (he : Ext z a) (hx : ∀ k, k < z.heap.size → X k) : Ext z b :=
  ⟨h.os.trans (Ext.below he).os, h.tape.trans (Ext.below he).tape, h.output.trans (Ext.below he).output, Nat.le_trans (Ext.size he) h.size,
   fun k hk => (h.block k (Nat.lt_of_lt_of_le hk (Ext.size he)) (hx k hk)).trans ((Ext.below he).block k hk)⟩

/-- What is handed over: one value that reads as x (and did so in the world z, of which nothing has turned). -/
def OkE (z : World) (x : Ent) (vs : Array Value) (W : World) : Prop := ∃ v, vs = #[v] ∧ RdE z v x ∧ Ext z W
/-- What is handed over: one value that reads as x. -/
def OkN (x : Ent) (vs : Array Value) (W : World) : Prop := ∃ v, vs = #[v] ∧ RdE W v x

theorem cnew (w : World) (v : Value) (t : TypeId) : (w.alloc (.cells #[v] t)).cell? ⟨w.heap.size, 0, none⟩ = some v ∧ (w.alloc (.cells #[v] t)).frozen? ⟨w.heap.size, 0, none⟩ = false := by
  have h := heap_alloc_new w (.cells #[v] t)
  exact ⟨by unfold World.cell?; simp only [h]; rfl, by unfold World.frozen?; simp only [h]; rfl⟩

theorem wpIn_scope_wide {P : Program} {n : Nat} {c : Code} {Q : Exit → Act → World → Prop} {a : Act} {w : World} (h : c.wpIn Fence.wide n P (Exit.noGoto Q) a w) : (Code.scope c).wpIn Fence.wide n P Q a w :=
  wpIn_wide.2 (wp_scope_straight (wpIn_wide.1 h))

theorem run_equalIn_func_nil {P : Program} {ps rs : Array TypeId} {b : Bool} (w : World) (d : Nat) (t : TypeId) (f : Fn) (x y : Array Value) (h : P.underlying t = some (.func ps rs b)) :
    (Op.equalIn (d + 1) t (.func f x y) .nilFunc).run P w = .ok false w := by
  simp [Op.equalIn, run_underlying h]
theorem run_eql_func_nil {P : Program} {ps rs : Array TypeId} {b : Bool} (w : World) (t : TypeId) (f : Fn) (x y : Array Value) (h : P.underlying t = some (.func ps rs b)) :
    (binOp .eql t (.func f x y) .nilFunc).run P w = .ok (.bool false) w := by
  simp only [binOp]
  simp [Op.equal, Op.maxDepth, run_equalIn_func_nil w 9999 t f x y h]

end Go.Proofs.YteooaplimiifiaaGreat
