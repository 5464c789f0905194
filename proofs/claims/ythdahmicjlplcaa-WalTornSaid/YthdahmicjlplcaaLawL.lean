/- The law's own 'latest': it is true where the wanted ones are the latest ones. Conditions: the lists read. -/
import Derived.Test.YthdahmicjlplcaaLate
import Derived.Test.YthdahmicjlplcaaSame
namespace Go.Proofs.Ythdahmicjlplcaa
set_option linter.unusedSimpArgs false
set_option linter.unusedVariables false
open Go.RowKit Go.Shelf
attribute [local go_sem] Oper.semAt_some

theorem rsame_self (u v : Value) (x : Ent) (w : World) (hx : RdE w u x) (hy : RdE w v x) :
    Calls Try.prog 60 #[u, v] w fun e w' => e = .returned (.bool true) ∧ Ext w w' := by
  have := rsame_any u v x x w hx hy
  simpa using this

structure LawI (w : World) (A' : Option Addr) (n' c' : Nat) (most : Int) (pre : List Ent) (T : Nat → Prop) (Wc : World) : Prop where
  want : Wc.cell? ⟨w.heap.size, 0, none⟩ = some (.slice A' n' c')
  most_ : Wc.cell? ⟨w.heap.size + 1, 0, none⟩ = some (.int .i64 most)
  res : ∃ b, Wc.cell? ⟨w.heap.size + 1 + 1, 0, none⟩ = some (.bool b)
  resF : Wc.frozen? ⟨w.heap.size + 1 + 1, 0, none⟩ = false
  num : Wc.cell? ⟨w.heap.size + 1 + 1 + 1, 0, none⟩ = some (.int .i64 pre.length)
  numF : Wc.frozen? ⟨w.heap.size + 1 + 1 + 1, 0, none⟩ = false
  ext : Ext w Wc
  size : w.heap.size + 6 ≤ Wc.heap.size
  t : ∀ k, T k → w.heap.size + 6 ≤ k

structure LawX (w : World) (T : Nat → Prop) (Wc : World) : Prop where
  res : Wc.cell? ⟨w.heap.size + 1 + 1, 0, none⟩ = some (.bool true)
  ext : Ext w Wc
  size : w.heap.size + 6 ≤ Wc.heap.size
  t : ∀ k, T k → w.heap.size + 6 ≤ k

theorem LawI.kept {w : World} {A' : Option Addr} {n' c' : Nat} {most : Int} {pre : List Ent} {T T' : Nat → Prop} {Wc W' : World} (h : LawI w A' n' c' most pre T Wc)
    (k : Kept (fun k => k < w.heap.size + 6) Wc W') (ht : ∀ k, T' k → w.heap.size + 6 ≤ k) : LawI w A' n' c' most pre T' W' := by
  have hz := h.size
  refine ⟨k.cell h.want (by simp), k.cell h.most_ (by simp), ?_, ?_, k.cell h.num (by simp), ?_, k.ext_of h.ext (fun j hj => by omega), Nat.le_trans hz k.size, ht⟩
  · obtain ⟨b, hb⟩ := h.res; exact ⟨b, k.cell hb (by simp)⟩
  · rw [k.frozen (by simp; omega) (by simp)]; exact h.resF
  · rw [k.frozen (by simp; omega) (by simp)]; exact h.numF
theorem LawX.kept {w : World} {T T' : Nat → Prop} {Wc W' : World} (h : LawX w T Wc)
    (k : Kept (fun k => k < w.heap.size + 6) Wc W') (ht : ∀ k, T' k → w.heap.size + 6 ≤ k) : LawX w T' W' := by
  have hz := h.size
  exact ⟨k.cell h.res (by simp), k.ext_of h.ext (fun j hj => by omega), Nat.le_trans hz k.size, ht⟩

theorem LawI.ab (w : World) (A' : Option Addr) (n' c' : Nat) (most : Int) : AbI (w.heap.size + 6) (LawI w A' n' c' most) := by
  intro pre T T' Wc W' h hk hs hn
  have hz := h.size
  exact h.kept (hk.mono fun k hx => ⟨fun h' => by have := h.t _ h'; omega, by omega, by omega⟩) (fun k h' => (hn k h').elim (h.t k) (fun h => by omega))
theorem LawX.ab {α : Type} (w : World) (code : Code) : AbI (α := α) (w.heap.size + 6) (fun _ T Wc => code = .ret ∧ LawX w T Wc) := by
  rintro pre T T' Wc W' ⟨h1, h⟩ hk hs hn
  have hz := h.size
  exact ⟨h1, h.kept (hk.mono fun k hx => ⟨fun h' => by have := h.t _ h'; omega, by omega, by omega⟩) (fun k h' => (hn k h').elim (h.t k) (fun h => by omega))⟩


end Go.Proofs.Ythdahmicjlplcaa
