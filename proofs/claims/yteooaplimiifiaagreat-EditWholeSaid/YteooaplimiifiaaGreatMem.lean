/- What lies in memory, in words of this seat: a slice of bytes that reads as a list; worlds that only grew. Conditions: none (plain lemmas). -/
import Derived.Test.YteooaplimiifiaaGreatRows
import Derived.WalkKit
import Derived.WalkSpells
import Derived.WalkLawsBesides
import Derived.Deep.Draws
import Derived.Lib.Hide
namespace Go.Proofs.YteooaplimiifiaaGreat
set_option linter.unusedSimpArgs false
set_option linter.unusedVariables false
set_option maxRecDepth 100000
open Go.RowKit

abbrev Bs := List UInt8

/-- A slice (address, length) that reads as the bytes x. -/
def Rd (w : World) (A : Option Addr) (n : Nat) (x : Bs) : Prop :=
  x.length = n ∧ (0 < n → ∃ b o, A = some ⟨b, o, none⟩ ∧ ∀ j (h : j < x.length), w.cell? ⟨b, o + j, none⟩ = some (.int .u8 (x[j].toNat : Int)))

theorem Rd.nil (w : World) (A : Option Addr) : Rd w A 0 [] := ⟨rfl, fun h => absurd h (by omega)⟩

theorem Rd.nil_eq {w : World} {A : Option Addr} {x : Bs} (h : Rd w A 0 x) : x = [] := List.eq_nil_of_length_eq_zero h.1

theorem Rd.at_ {w : World} {A : Option Addr} {n : Nat} {x : Bs} (h : Rd w A n x) (hn : 0 < n) :
    ∃ b o, A = some ⟨b, o, none⟩ ∧ ∀ j (h : j < x.length), w.cell? ⟨b, o + j, none⟩ = some (.int .u8 (x[j].toNat : Int)) := h.2 hn

theorem cell_lt {w : World} {b o : Nat} {v : Value} (h : w.cell? ⟨b, o, none⟩ = some v) : b < w.heap.size := World.block_lt_of_cell? w ⟨b, o, none⟩ h

theorem Rd.keep {w w' : World} {A : Option Addr} {n : Nat} {x : Bs} (h : Rd w A n x) (hk : ∀ b o v, w.cell? ⟨b, o, none⟩ = some v → w'.cell? ⟨b, o, none⟩ = some v) : Rd w' A n x :=
  ⟨h.1, fun hn => by
    obtain ⟨b, o, e, hc⟩ := h.2 hn
    exact ⟨b, o, e, fun j hj => hk _ _ _ (hc j hj)⟩⟩

/-- The world has only grown: whatever lay lies as it lay. -/
def Ext (w w' : World) : Prop := Below w.heap.size w w'

theorem Ext.below {w w' : World} (h : Ext w w') : Below w.heap.size w w' := h
theorem Ext.of {w w' : World} (h : Below w.heap.size w w') : Ext w w' := h
theorem Ext.of_le {w w' : World} {B : Nat} (h : Below B w w') (hB : w.heap.size ≤ B) : Ext w w' := Below.mono h hB
theorem Ext.rfl_ (w : World) : Ext w w := Below.refl _ _
theorem Ext.size {w w' : World} (h : Ext w w') : w.heap.size ≤ w'.heap.size := Below.size h
theorem Ext.trans {a b c : World} (h : Ext a b) (k : Ext b c) : Ext a c := Below.trans (Ext.below h) (Below.mono (Ext.below k) (Below.size h))
theorem Ext.alloc {a w : World} (h : Ext a w) (o : Obj) : Ext a (w.alloc o) := Below.alloc (Ext.below h) (Below.size h) o
theorem Ext.drew {a w : World} (h : Ext a w) : Ext a w.drew := Below.drew (Ext.below h)
theorem Ext.drewN {a w : World} (h : Ext a w) (n : Nat) : Ext a (w.drewN n) := ⟨(Ext.below h).os, (Ext.below h).tape, (Ext.below h).output, (Ext.below h).size, (Ext.below h).block⟩
theorem Ext.grown {a w w' : World} {row : Option Nat} (h : Ext a w) (hg : w.grownBy w' row) (hr : ∀ k, row = some k → a.heap.size ≤ k) : Ext a w' := Below.grown (Ext.below h) hg (Below.size h) hr
theorem Ext.trans' {a b c : World} (h : Ext a b) (k : Below a.heap.size b c) : Ext a c := Below.trans (Ext.below h) k
theorem Ext.setCell {a w : World} (h : Ext a w) {p : Addr} (hp : a.heap.size ≤ p.block) (u : Value) : Ext a (w.setCell p u) := Below.setCell (Ext.below h) hp u
theorem Ext.keeps {w w' : World} (h : Ext w w') : ∀ b o v, w.cell? ⟨b, o, none⟩ = some v → w'.cell? ⟨b, o, none⟩ = some v :=
  fun b o _ hc => (Below.cell (Ext.below h) (p := ⟨b, o, none⟩) (cell_lt hc)).trans hc
theorem Ext.keeps' {w w' : World} (h : Ext w w') {p : Addr} {v : Value} (hc : w.cell? p = some v) : w'.cell? p = some v :=
  (Below.cell (Ext.below h) (World.block_lt_of_cell? w p hc)).trans hc
theorem Rd.ext {w w' : World} {A : Option Addr} {n : Nat} {x : Bs} (h : Rd w A n x) (he : Ext w w') : Rd w' A n x := h.keep he.keeps

/-- Where there is a byte it lies at block L or beyond. -/
def Hi (L : Nat) (A : Option Addr) (n : Nat) : Prop := 0 < n → ∀ a, A = some a → L ≤ a.block
theorem Hi.zero (A : Option Addr) (n : Nat) : Hi 0 A n := fun _ _ _ => Nat.zero_le _
theorem Hi.mono {L L' : Nat} {A : Option Addr} {n : Nat} (h : Hi L A n) (hl : L' ≤ L) : Hi L' A n := fun hn a e => Nat.le_trans hl (h hn a e)

theorem Rd.setCell {w : World} {A : Option Addr} {n L : Nat} {x : Bs} (h : Rd w A n x) (hi : Hi L A n) {p : Addr} (hp : p.block < L) (u : Value) : Rd (w.setCell p u) A n x :=
  ⟨h.1, fun hn => by
    obtain ⟨b, o, e, hc⟩ := h.2 hn
    have hb := hi hn _ e
    refine ⟨b, o, e, fun j hj => ?_⟩
    rw [World.cell?_setCell_other w p ⟨b, o + j, none⟩ u (fun e' => by subst e'; simp at hp hb; omega)]
    exact hc j hj⟩

/-- What a walk wants of a world behind a call: old cells and old marks read as they did. -/
theorem bcell {W w1 : World} (hb : Ext W w1) : (∀ b o, b < W.heap.size → w1.cell? ⟨b, o, none⟩ = W.cell? ⟨b, o, none⟩) ∧ (∀ b o, b < W.heap.size → w1.frozen? ⟨b, o, none⟩ = W.frozen? ⟨b, o, none⟩) :=
  ⟨fun b o h => Below.cell (Ext.below hb) (p := ⟨b, o, none⟩) h, fun b o h => Below.frozen (Ext.below hb) (p := ⟨b, o, none⟩) h⟩

theorem nums_str (x : Bs) : strOfNums (x.map fun b => (b.toNat : Int)) = ⟨x.toArray⟩ := by
  unfold strOfNums
  congr 1
  simp [List.map_map, Function.comp_def]

/-- 'string(b)' of such a slice. -/
theorem Rd.str {P : Program} {w : World} {A : Option Addr} {n : Nat} {x : Bs} (h : Rd w A n x) (c : Nat) (src e dst : TypeId)
    (hs : P.underlying src = some (.slice e)) (he : P.underlying e = some (.int .u8)) (hd : P.underlying dst = some .string) :
    (convert src dst (.slice A n c)).run P w = .ok (.string ⟨x.toArray⟩) w := by
  rcases Nat.eq_zero_or_pos n with hn | hn
  · subst hn
    obtain rfl := h.nil_eq
    have := run_convert_bytes_string (P := P) w src dst e A 0 c hs he hd
    rw [this]
    cases A <;> simp [Conv.bytesToString, loadCells] <;> rfl
  · obtain ⟨b, o, rfl, hc⟩ := h.2 hn
    have := run_convert_bytes_arg (P := P) w src e hs he b o n c (x.map fun b => (b.toNat : Int)) (by simpa using h.1) (fun i hi => by
      have hi' : i < x.length := by rw [h.1]; exact hi
      rw [hc i hi']
      simp [List.getD, List.getElem?_eq_getElem hi']) dst hd
    rw [this, nums_str]

/-- A slice that the call itself made: it reads so. -/
theorem Rd.of_own {w : World} {base : Nat} {e : TypeId} {A : Option Addr} {n c : Nat} {x : Bs} (h : w.ownsRow base e 1 (.slice A n c) n (x.map fun b => .int .u8 (b.toNat : Int))) : Rd w A n x := by
  have hl : x.length = n := by simpa using h.1
  refine ⟨hl, fun hn => ?_⟩
  rcases h.2 with ⟨hv, h0⟩ | ⟨g, cap, cur, hv, _, hg, _⟩
  · omega
  · injection hv with hA
    subst hA
    refine ⟨g, 0, rfl, fun j hj => ?_⟩
    have := h.cells (g := g) rfl j (.int .u8 (x[j].toNat : Int)) (by simp [List.getElem?_eq_getElem hj])
    rw [← this]
    unfold Addr.add
    split <;> simp_all

theorem Hi.of_own {w : World} {base : Nat} {e : TypeId} {A : Option Addr} {n c : Nat} {xs : List Value} (h : w.ownsRow base e 1 (.slice A n c) n xs) : Hi base A n := by
  intro hn a ha
  rcases h.2 with ⟨hv, h0⟩ | ⟨g, cap, cur, hv, hb, _⟩
  · omega
  · injection hv with hA
    rw [hA] at ha
    cases ha
    exact hb

end Go.Proofs.YteooaplimiifiaaGreat
