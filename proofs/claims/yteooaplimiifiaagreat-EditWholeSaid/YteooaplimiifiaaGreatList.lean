/- Lists of entries in memory; ikey.behind. Conditions: the list and the entry read. -/
import Derived.Test.YteooaplimiifiaaGreatKeyC
namespace Go.Proofs.YteooaplimiifiaaGreat
set_option linter.unusedSimpArgs false
set_option linter.unusedVariables false
set_option maxRecDepth 100000
open Go.RowKit

/-- The reach of a list of entries. -/
def B41 : Nat := 2199023255552

/-- A slice of entries (address, length) that reads as xs. -/
def RdL (w : World) (A : Option Addr) (n : Nat) (xs : List Ent) : Prop :=
  xs.length = n ∧ n ≤ B41 ∧ (0 < n → ∃ b o, A = some ⟨b, o, none⟩ ∧ ∀ k (h : k < xs.length), ∃ A1 n1 c1 A2 n2 c2,
    (w.cell? ⟨b, o + k * 4, none⟩ = some (.slice A1 n1 c1) ∧ w.cell? ⟨b, o + k * 4 + 1, none⟩ = some (.int .i64 xs[k].seq) ∧ w.cell? ⟨b, o + k * 4 + 2, none⟩ = some (.int .i64 xs[k].kind) ∧ w.cell? ⟨b, o + k * 4 + 3, none⟩ = some (.slice A2 n2 c2)) ∧
    RdE w (.agg #[.slice A1 n1 c1, .int .i64 xs[k].seq, .int .i64 xs[k].kind, .slice A2 n2 c2]) xs[k])

theorem RdL.nil (w : World) (A : Option Addr) : RdL w A 0 [] := ⟨rfl, Nat.zero_le _, fun h => absurd h (by omega)⟩

theorem RdL.ext {w w' : World} {A : Option Addr} {n : Nat} {xs : List Ent} (h : RdL w A n xs) (he : Ext w w') : RdL w' A n xs :=
  ⟨h.1, h.2.1, fun hn => by
    obtain ⟨b, o, e, hc⟩ := h.2.2 hn
    refine ⟨b, o, e, fun k hk => ?_⟩
    obtain ⟨A1, n1, c1, A2, n2, c2, ⟨h0, h1, h2, h3⟩, hr⟩ := hc k hk
    exact ⟨A1, n1, c1, A2, n2, c2, ⟨he.keeps _ _ _ h0, he.keeps _ _ _ h1, he.keeps _ _ _ h2, he.keeps _ _ _ h3⟩, hr.ext he⟩⟩

/-- The element at k. -/
theorem RdL.at_ {w : World} {A : Option Addr} {n : Nat} {xs : List Ent} (h : RdL w A n xs) (k : Nat) (hk : k < n) :
    ∃ b o A1 n1 c1 A2 n2 c2 x, A = some ⟨b, o, none⟩ ∧ xs[k]? = some x ∧ (w.cell? ⟨b, o + k * 4, none⟩ = some (.slice A1 n1 c1) ∧ w.cell? ⟨b, o + k * 4 + 1, none⟩ = some (.int .i64 x.seq) ∧ w.cell? ⟨b, o + k * 4 + 2, none⟩ = some (.int .i64 x.kind) ∧ w.cell? ⟨b, o + k * 4 + 3, none⟩ = some (.slice A2 n2 c2)) ∧
      RdE w (.agg #[.slice A1 n1 c1, .int .i64 x.seq, .int .i64 x.kind, .slice A2 n2 c2]) x := by
  obtain ⟨b, o, e, hc⟩ := h.2.2 (by omega)
  have hk' : k < xs.length := by rw [h.1]; exact hk
  obtain ⟨A1, n1, c1, A2, n2, c2, h1, h2⟩ := hc k hk'
  exact ⟨b, o, A1, n1, c1, A2, n2, c2, xs[k], e, List.getElem?_eq_getElem hk', h1, h2⟩

theorem RdL.take {w : World} {A : Option Addr} {n : Nat} {xs : List Ent} (h : RdL w A n xs) (k : Nat) (hk : k ≤ n) : RdL w A k (xs.take k) :=
  ⟨by rw [List.length_take, h.1]; omega, Nat.le_trans hk h.2.1, fun hn => by
    obtain ⟨b, o, e, hc⟩ := h.2.2 (by omega)
    refine ⟨b, o, e, fun j hj => ?_⟩
    have hj' : j < xs.length := by rw [List.length_take] at hj; omega
    have := hc j hj'
    simpa [List.getElem_take] using this⟩

/-- May x stand behind p? -/
def behO (p : Option Ent) (x : Ent) : Bool := mayE x && (match p with | none => true | some y => decide (cmpE y x < 0))


end Go.Proofs.YteooaplimiifiaaGreat
