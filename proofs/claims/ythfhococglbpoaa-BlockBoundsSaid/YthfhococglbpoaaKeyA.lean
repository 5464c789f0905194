/- Contracts of ikey.Compare, Same, Copy, May, of bytes.Clone. Conditions: the entries' slices read as bytes. -/
import Derived.Test.YthfhococglbpoaaCmp
import Derived.BigQuiet
import Derived.Deep.QuietTactic
import Derived.StillTailTactics
import Derived.Deep.RegionHeld3
import Derived.Deep.RegionWith
namespace Go.Proofs.Ythfhococglbpoaa
set_option linter.unusedSimpArgs false
set_option linter.unusedVariables false
open Go.RowKit

/-- A block of four cells (an entry's box) in a later world: its cells, none frozen. -/
theorem box4 {W w' : World} {g : Nat} {t : TypeId} {a b c d : Value} (h : W.heap[g]? = some (.cells #[a, b, c, d] t (0, 0))) (hx : Ext W w') :
    w'.cell? ⟨g, 0, none⟩ = some a ∧ w'.cell? ⟨g, 1, none⟩ = some b ∧ w'.cell? ⟨g, 2, none⟩ = some c ∧ w'.cell? ⟨g, 3, none⟩ = some d ∧
    w'.frozen? ⟨g, 0, none⟩ = false ∧ w'.frozen? ⟨g, 1, none⟩ = false ∧ w'.frozen? ⟨g, 2, none⟩ = false ∧ w'.frozen? ⟨g, 3, none⟩ = false := by
  have hg : w'.heap[g]? = some (.cells #[a, b, c, d] t (0, 0)) := ((Ext.below hx).block g (Array.getElem?_eq_some_iff.1 h).1).trans h
  simp [World.cell?, World.frozen?, hg]
theorem two_new (w : World) (o o' : Obj) : ((w.alloc o).alloc o').heap[w.heap.size]? = some o ∧ ((w.alloc o).alloc o').heap[w.heap.size + 1]? = some o' := by
  have h1 := heap_alloc_new (w.alloc o) o'
  rw [World.size_alloc] at h1
  exact ⟨(Below.heap_alloc _ _ _ (by simp)).trans (heap_alloc_new w o), h1⟩

/-- The reach of one slice: 2^47 - 4096 bytes. -/
def B47 : Nat := 140737488351232

/-- A value of type api.Entry that reads as x. -/
def RdE (w : World) (v : Value) (x : Ent) : Prop :=
  ∃ A n c A' n' c', v = .agg #[.slice A n c, .int .i64 x.seq, .int .i64 x.kind, .slice A' n' c'] ∧ Rd w A n x.key ∧ Rd w A' n' x.val ∧
    n ≤ c ∧ n ≤ B47 ∧ n' ≤ c' ∧ n' ≤ B47

theorem RdE.ext {w w' : World} {v : Value} {x : Ent} (h : RdE w v x) (he : Ext w w') : RdE w' v x := by
  obtain ⟨A, n, c, A', n', c', rfl, h1, h2, h3⟩ := h
  exact ⟨A, n, c, A', n', c', rfl, h1.ext he, h2.ext he, h3⟩

theorem Rd.alloc {w : World} {A : Option Addr} {n : Nat} {x : Bs} (h : Rd w A n x) (o : Obj) : Rd (w.alloc o) A n x := h.ext (Ext.alloc (Ext.rfl_ _) o)
theorem Rd.drew {w : World} {A : Option Addr} {n : Nat} {x : Bs} (h : Rd w A n x) : Rd w.drew A n x := h.ext (Ext.drew (Ext.rfl_ _))

set_option maxHeartbeats 400000 in
theorem compare_any (u v : Value) (x y : Ent) (w : World) (hx : RdE w u x) (hy : RdE w v y) :
    Calls Try.prog 34 #[u, v] w fun e w' => e = .returned (.int .i64 (cmpE x y)) ∧ Ext w w' := by
  obtain ⟨A, n, c, A', n', c', rfl, hx1, _, _⟩ := hx
  obtain ⟨B, m, d, B', m', d', rfl, hy1, _, _⟩ := hy
  go_enter Try.func34, Try.ntmps34
  go_wp2
  go_region_held3 (fun w' => w'.cell? ⟨w.heap.size, 0, none⟩ = some (.slice A n c) ∧ w'.cell? ⟨w.heap.size + 1, 0, none⟩ = some (.slice B m d) ∧ w'.cell? ⟨w.heap.size + 1, 1, none⟩ = some (.int .i64 y.seq) ∧ w'.cell? ⟨w.heap.size, 1, none⟩ = some (.int .i64 x.seq) ∧ Rd w' A n x.key ∧ Rd w' B m y.key)
    (first | (go_keep; done) | (refine ⟨?_, ?_, ?_, ?_, ?_, ?_⟩ <;> (first | (go_keep; done) | exact hx1.ext (by with_reducible (repeat (first | exact Ext.rfl_ _ | assumption | refine Ext.drew ?_ | refine Ext.drewN ?_ _ | refine Ext.alloc ?_ _ | refine Ext.trans ?_ (by assumption)))) | exact hy1.ext (by with_reducible (repeat (first | exact Ext.rfl_ _ | assumption | refine Ext.drew ?_ | refine Ext.drewN ?_ _ | refine Ext.alloc ?_ _ | refine Ext.trans ?_ (by assumption)))))))
    (first | (go_at_call 43; refine (cmpKeys_any _ _ _ _ _ _ x.key y.key _ ?_ ?_).mono ?_; (simp [*]); (simp [*]); rintro e w' ⟨rfl, rfl⟩)
           | (go_at_call 62; refine (cmpInt_any _ _ _).mono ?_; rintro e w' ⟨rfl, rfl⟩)
           | (go_at_call 61; refine (cmpOr_any _ (cmpK x.key y.key) (cmpI y.seq x.seq) _ ?_ ?_).mono ?_; (go_simp); (go_simp); rintro e w' ⟨rfl, rfl⟩))
  go_wp2
  go_ret
  exact ⟨rfl, (by with_reducible (repeat (first | exact Ext.rfl_ _ | assumption | refine Ext.drew ?_ | refine Ext.drewN ?_ _ | refine Ext.alloc ?_ _ | refine Ext.trans ?_ (by assumption))))⟩

def sameE (x y : Ent) : Bool := decide (x = y)


/-- What a copy of a slice of bytes is: in memory of the call's own. -/
def CopyB (w w' : World) (v' : Value) (x : Bs) : Prop :=
  ∃ A c, v' = .slice A x.length c ∧ w'.ownsRow w.heap.size 5 1 (.slice A x.length c) x.length (x.map fun b => .int .u8 (b.toNat : Int)) ∧ x.length ≤ c

theorem own_form {w : World} {base : Nat} {e : TypeId} {size n : Nat} {v : Value} {xs : List Value} (h : w.ownsRow base e size v n xs) : ∃ A c, v = .slice A n c ∧ n ≤ c := by
  rcases h.2 with ⟨rfl, rfl⟩ | ⟨g, cap, cur, rfl, _, _, hc, _⟩
  · exact ⟨none, 0, rfl, Nat.le_refl _⟩
  · exact ⟨_, _, rfl, hc⟩

theorem Try.info5x : (Try.prog.info? 5).map (fun i => (i.zero, i.size, i.bytes)) = some (some (.int .u8 0), 1, 1) := by kernel_rfl


theorem CopyB.rd {w w' : World} {v' : Value} {x : Bs} (h : CopyB w w' v' x) : ∃ A c, v' = .slice A x.length c ∧ Rd w' A x.length x ∧ x.length ≤ c ∧ Hi w.heap.size A x.length := by
  obtain ⟨A, c, rfl, hown, hc⟩ := h
  exact ⟨A, c, rfl, Rd.of_own hown, hc, Hi.of_own hown⟩


end Go.Proofs.Ythfhococglbpoaa
