/- Own bytes that are overwritten. Conditions: none. -/
import Derived.Test.YtpohmoakilioiaaCopyF
import Derived.StillTailTactics
import Derived.OneCell
namespace Go.Proofs.Ytpohmoakilioiaa
set_option linter.unusedSimpArgs false
set_option linter.unusedVariables false
set_option maxRecDepth 100000
open Go.RowKit

/-- The value owns some bytes, from block 'base' on. -/
def OwnS (w : World) (base : Nat) (v : Value) : Prop := ∃ y, OwnB w base v y
theorem OwnB.s {w : World} {base : Nat} {v : Value} {y : Bs} (h : OwnB w base v y) : OwnS w base v := ⟨y, h⟩
theorem OwnS.set {w : World} {base g j : Nat} {v : Value} (h : OwnS w base v) (b : UInt8) (u : Value) (hu : u = .int .u8 (b.toNat : Int)) : OwnS (w.setCell ⟨g, j, none⟩ u) base v := by
  obtain ⟨y, h⟩ := h
  have hO := h
  rcases h.out.2 with ⟨rfl, h0⟩ | ⟨g', cap, cur, rfl, hb, hg, _⟩
  · obtain rfl : y = [] := List.eq_nil_of_length_eq_zero h0
    exact ⟨[], OwnB.nil _ _⟩
  · by_cases e : g' = g
    · subst e
      exact ⟨_, hO.setB j b u hu⟩
    · exact ⟨y, ownsRow_setCell_other h.out (by simp [Value.ownBlock]; exact e) u⟩
theorem OwnS.ext {w w' : World} {base : Nat} {v : Value} (h : OwnS w base v) (hx : Ext w w') : OwnS w' base v := by
  obtain ⟨y, h⟩ := h; exact ⟨y, h.ext hx⟩
/-- A byte of it. -/
theorem OwnS.at_ {w : World} {base n c k : Nat} {A : Option Addr} (h : OwnS w base (.slice A n c)) (hk : k < n) :
    ∃ g b cs fr, A = some ⟨g, 0, none⟩ ∧ base ≤ g ∧ w.cell? ⟨g, k, none⟩ = some (.int .u8 ((b : UInt8).toNat : Int)) ∧ w.frozen? ⟨g, k, none⟩ = false ∧ w.heap[g]? = some (.cells cs 5 fr) := by
  obtain ⟨y, h⟩ := h
  have hO := h
  rcases h.out.2 with ⟨hv, h0⟩ | ⟨g', cap, cur, hv, hb, hg, _⟩
  · cases hv; omega
  · cases hv
    obtain ⟨h1, h2, h3⟩ := hO.cellB k hk
    exact ⟨g', y[k], _, _, rfl, h3, h1, h2, hg⟩

/-- A block behind writes into a block of bytes. -/
theorem blk_row {w w' : World} {g : Nat} {o : Obj} {row : Option Nat} (hb : w.heap[g]? = some o) (hg : w.grownBy w' row) (hne : row ≠ some g) : w'.heap[g]? = some o :=
  (hg.block g (Array.getElem?_eq_some_iff.1 hb).1 (fun e => hne e.symm)).trans hb
theorem grownBy_set {w w' : World} {g : Nat} (h : w.grownBy w' (some g)) (j : Nat) (u : Value) : w.grownBy (w'.setCell ⟨g, j, none⟩ u) (some g) :=
  ⟨h.os, h.tape, h.output, by simpa [World.setCell] using h.size, fun k hk hne => (Below.heap_setCell _ _ _ _ (fun e => hne (by rw [e]))).trans (h.block k hk hne)⟩
theorem grownBy_drew {w w' : World} {row : Option Nat} (h : w.grownBy w' row) : w.grownBy w'.drew row := ⟨h.os, h.tape, h.output, h.size, h.block⟩

theorem xor1 : ∀ b : UInt8, ∃ b' : UInt8, bits .xor .u8 (b.toNat : Int) 1 = (b'.toNat : Int) := by
  intro b
  have h : ∀ k : Fin 256, bits .xor .u8 ((k.val : Nat) : Int) 1 = ((UInt8.ofNat (k.val ^^^ 1)).toNat : Int) := by decide +kernel
  exact ⟨_, h ⟨b.toNat, b.toNat_lt⟩⟩

theorem same_self (u v : Value) (x : Ent) (w : World) (hx : RdE w u x) (hy : RdE w v x) :
    Calls Try.prog 30 #[u, v] w fun e w' => e = .returned (.bool true) ∧ Ext w w' := by
  have := same_any u v x x w hx hy
  simpa using this

end Go.Proofs.Ytpohmoakilioiaa
