/- Contracts of the closure that block.open defers: on a frame that gave up, on one that returns. Conditions: the three results' cells stand. -/
import Derived.Test.YthfhococglbpoaaBlkE
import Derived.Recover
namespace Go.Proofs.Ythfhococglbpoaa
set_option linter.unusedSimpArgs false
set_option linter.unusedVariables false
open Go.RowKit

theorem assert_none (w : World) : (Instr.typeAssert (.iface 87 (.agg #[])) 20 87 true).run Try.prog w = .ok (.tuple #[.agg #[], .bool true]) w := by
  simp [Instr.typeAssert, run_underlying Try.underlying87]
theorem assert_nil (w : World) : (Instr.typeAssert .nilIface 20 87 true).run Try.prog w = .ok (.tuple #[.agg #[], .bool false]) w := by
  simp [Instr.typeAssert, run_underlying Try.underlying87, zeroValue]
  rfl

set_option maxRecDepth 100000 in
theorem catch_panic (a b c : Nat) (u1 u2 u3 : Value) (w : World) (h1 : w.cell? ⟨a, 0, none⟩ = some u1) (h2 : w.cell? ⟨b, 0, none⟩ = some u2) (h3 : w.cell? ⟨c, 0, none⟩ = some u3) (f1 : w.frozen? ⟨a, 0, none⟩ = false) (f2 : w.frozen? ⟨b, 0, none⟩ = false) (f3 : w.frozen? ⟨c, 0, none⟩ = false) (l1 : a < w.heap.size) (l2 : b < w.heap.size) (l3 : c < w.heap.size) (hab : a ≠ b) (hac : a ≠ c) (hbc : b ≠ c) :
    CallsD Try.prog 55 #[.pointer (some ⟨a, 0, none⟩), .pointer (some ⟨b, 0, none⟩), .pointer (some ⟨c, 0, none⟩)] (.panicking [{ v := .iface 87 (.agg #[]), recovered := false }]) w fun e u' w' =>
      e = .returned (.tuple #[]) ∧ u' = .panicking [{ v := .iface 87 (.agg #[]), recovered := true }] ∧
      w' = (((w.setCell ⟨a, 0, none⟩ (.slice none 0 0)).setCell ⟨b, 0, none⟩ (.slice none 0 0)).setCell ⟨c, 0, none⟩ (.int .i64 4)).alloc (.cells #[] 87) := by
  refine callsD_of_wpS Try.func55 rfl fun c₀ cs hu => ?_
  apply wpS_seq
  apply wpS_region
  simp [wpOpsS, go_sem, recoverD, hu, assert_none, assert_nil, Try.ntmps55, Exit.thenS]
  apply wpS_seq
  apply wpS_region
  simp [wpOpsS, go_sem, Exit.thenS]
  refine wpS_cond (t := true) (by simp [Act.eval, Array.replicate]) ?_
  simp only [if_true]
  apply wpS_region
  have k2 : (w.setCell ⟨a, 0, none⟩ (.slice none 0 0)).cell? ⟨b, 0, none⟩ = some u2 := by
    rw [World.cell?_setCell_other w ⟨a, 0, none⟩ ⟨b, 0, none⟩ _ (fun e => hab (by cases e; rfl))]; exact h2
  have k3 : ((w.setCell ⟨a, 0, none⟩ (.slice none 0 0)).setCell ⟨b, 0, none⟩ (.slice none 0 0)).cell? ⟨c, 0, none⟩ = some u3 := by
    rw [World.cell?_setCell_other _ ⟨b, 0, none⟩ ⟨c, 0, none⟩ _ (fun e => hbc (by cases e; rfl)), World.cell?_setCell_other w ⟨a, 0, none⟩ ⟨c, 0, none⟩ _ (fun e => hac (by cases e; rfl))]; exact h3
  simp [wpOpsS, go_sem, h1, k2, k3, f1, f2, f3, l1, l2, l3, bodyPostS, results, Try.results55]

set_option maxRecDepth 100000 in
theorem catch_idle (a b c : Nat) (w : World) :
    CallsD Try.prog 55 #[.pointer (some ⟨a, 0, none⟩), .pointer (some ⟨b, 0, none⟩), .pointer (some ⟨c, 0, none⟩)] .returning w fun e u' w' =>
      e = .returned (.tuple #[]) ∧ u' = .returning ∧ w' = w.alloc (.cells #[] 87) := by
  refine callsD_of_wpS Try.func55 rfl fun c₀ cs hu => ?_
  apply wpS_seq
  apply wpS_region
  simp [wpOpsS, go_sem, recoverD, hu, assert_none, assert_nil, Try.ntmps55, Exit.thenS]
  apply wpS_seq
  apply wpS_region
  simp [wpOpsS, go_sem, Exit.thenS]
  refine wpS_cond (t := false) (by simp [Act.eval, Array.replicate]) ?_
  simp only [Bool.false_eq_true, if_false]
  refine wpS_of_wp (wp_skip ?_)
  cases c₀
  simp_all [bodyPostS, results, Try.results55]
end Go.Proofs.Ythfhococglbpoaa
