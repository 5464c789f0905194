/- The skiplist in memory, plainly. Conditions: none. -/
import Derived.Test.YthfhococglbpoaaHtM
import Derived.Test.YthfhococglbpoaaOwnS
import Derived.Test.YthfhococglbpoaaOwnL
import Derived.Test.YthfhococglbpoaaRange
namespace Go.Proofs.Ythfhococglbpoaa
set_option linter.unusedSimpArgs false
set_option linter.unusedVariables false
open Go.RowKit

/-- Blocks that hold bytes are kept. -/
def NoU (X : Nat → Prop) (w : World) : Prop := ∀ b o z, w.cell? ⟨b, o, none⟩ = some (.int .u8 z) → X b

theorem Rd.keptU {X : Nat → Prop} {a b : World} (k : Kept X a b) (hu : NoU X a) {A : Option Addr} {n : Nat} {x : Bs} (h : Rd a A n x) : Rd b A n x :=
  ⟨h.1, fun hn => by
    obtain ⟨bl, o, e, hc⟩ := h.2 hn
    refine ⟨bl, o, e, fun j hj => ?_⟩
    have hcj := hc j hj
    have hlt := World.block_lt_of_cell? a _ hcj
    have hX := hu _ _ _ hcj
    have hb := k.block _ hlt hX
    unfold World.cell? at *
    simp only at hb hcj ⊢
    rw [hb]; exact hcj⟩
theorem RdE.keptU {X : Nat → Prop} {a b : World} (k : Kept X a b) (hu : NoU X a) {v : Value} {x : Ent} (h : RdE a v x) : RdE b v x := by
  obtain ⟨A, n, c, A', n', c', rfl, h1, h2, h3⟩ := h
  exact ⟨A, n, c, A', n', c', rfl, h1.keptU k hu, h2.keptU k hu, h3⟩


theorem cell_at {w : World} {b o : Nat} {cs : Array Value} {t : TypeId} {fr : Nat × Nat} (h : w.heap[b]? = some (.cells cs t fr)) : w.cell? ⟨b, o, none⟩ = cs[o]? := by
  simp [World.cell?, h]
theorem frozen_at {w : World} {b o : Nat} {cs : Array Value} {t : TypeId} (h : w.heap[b]? = some (.cells cs t (0, 0))) : w.frozen? ⟨b, o, none⟩ = false := by
  simp [World.frozen?, h]

theorem Rd.keptX {X : Nat → Prop} {a b : World} (k : Kept X a b) {A : Option Addr} {n : Nat} {x : Bs} (h : Rd a A n x) (hx : 0 < n → ∀ p, A = some p → X p.block) : Rd b A n x :=
  ⟨h.1, fun hn => by
    obtain ⟨bl, o, e, hc⟩ := h.2 hn
    refine ⟨bl, o, e, fun j hj => ?_⟩
    have hcj := hc j hj
    have hlt := World.block_lt_of_cell? a _ hcj
    have hX := hx hn _ e
    have hb := k.block _ hlt hX
    unfold World.cell? at *
    simp only at hb hcj ⊢
    rw [hb]; exact hcj⟩
theorem RdE.hdr {w : World} {hd : Hdr} {x : Ent} (h : RdE w (.agg (cellsE hd x).toArray) x) : Rd w hd.A hd.n x.key ∧ Rd w hd.B hd.m x.val := by
  obtain ⟨A, n, c, A', n', c', e, h1, h2, _⟩ := h
  simp [cellsE] at e
  obtain ⟨⟨rfl, rfl, rfl⟩, rfl, rfl, rfl⟩ := e
  exact ⟨h1, h2⟩
theorem RdE.keptX {X : Nat → Prop} {a b : World} (k : Kept X a b) {hd : Hdr} {x : Ent} (h : RdE a (.agg (cellsE hd x).toArray) x) (h1 : 0 < hd.n → ∀ p, hd.A = some p → X p.block) (h2 : 0 < hd.m → ∀ p, hd.B = some p → X p.block) : RdE b (.agg (cellsE hd x).toArray) x := by
  obtain ⟨A, n, c, A', n', c', e, k1, k2, h3⟩ := h
  have e' := e
  simp [cellsE] at e'
  obtain ⟨⟨rfl, rfl, rfl⟩, rfl, rfl, rfl⟩ := e'
  exact ⟨_, _, _, _, _, _, e, k1.keptX k h1, k2.keptX k h2, h3⟩
end Go.Proofs.Ythfhococglbpoaa
