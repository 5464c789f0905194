/- The walks of EditMay, EditSame, EditDoes. Conditions: what came in reads. -/
import Derived.Test.YteooaplimiifiaaEdKn
import Derived.Test.YteooaplimiifiaaEdSame
import Derived.Test.YteooaplimiifiaaEdRDo
import Derived.Test.YteooaplimiifiaaEdTw
namespace Go.Proofs.Yteooaplimiifiaa
set_option linter.unusedSimpArgs false
set_option linter.unusedVariables false
open Go.RowKit

set_option maxRecDepth 100000 in
set_option maxHeartbeats 4000000 in
theorem may_walk (v : Value) (x : Ver) (w : World) (hv : RdV w v x) : Calls Try.prog 3 #[v] w fun e w' => e = .returned (.bool true) ∧ Ext w w' := by
  have HV0 := Lib.hid hv
  obtain ⟨A, n, c, rfl, hl, hnc⟩ := hv
  obtain rfl : x.ts.length = n := hl.1
  have HB := Lib.hid (heap_alloc_new w (.cells #[.int .i64 x.next, .int .i64 x.log, .int .i64 x.index, .int .i64 x.seq, .slice A x.ts.length c] 24))
  clear hl
  by_cases hn : x.ts.length > 100
  · have hni : (x.ts.length : Int) > 100 := by omega
    go_enter Try.func3, Try.ntmps3
    go_wp2_with (go_at_call 6; refine (known_any _).mono ?_; rintro e w1 ⟨rfl, hw1⟩)
    go_ret
    exact ⟨rfl, (by with_reducible (repeat (first | exact Ext.rfl_ _ | assumption | refine Ext.drew ?_ | refine Ext.drewN ?_ _ | refine Ext.alloc ?_ _ | refine Ext.trans ?_ (by assumption))))⟩
  have hni : ¬ (x.ts.length : Int) > 100 := by omega
  obtain ⟨W0, hW0⟩ : ∃ W0, W0 = w.alloc (.cells #[.int .i64 x.next, .int .i64 x.log, .int .i64 x.index, .int .i64 x.seq, .slice A x.ts.length c] 24) := ⟨_, rfl⟩
  have X0 : Hid (Ext w W0) := Lib.hid (by rw [hW0]; exact (by with_reducible (repeat (first | exact Ext.rfl_ _ | assumption | refine Ext.drew ?_ | refine Ext.drewN ?_ _ | refine Ext.alloc ?_ _ | refine Ext.trans ?_ (by assumption)))))
  rw [← hW0] at HB
  go_enter Try.func3, Try.ntmps3
  go_upto_region 3 with (fail)
  rw [← hW0]
  clear hW0
  have HS := Lib.hid (show ∀ W, Ext W0 W → (W.cell? ⟨w.heap.size, 0, none⟩ = some (.int .i64 x.next) ∧ W.cell? ⟨w.heap.size, 1, none⟩ = some (.int .i64 x.log) ∧ W.cell? ⟨w.heap.size, 2, none⟩ = some (.int .i64 x.index) ∧ W.cell? ⟨w.heap.size, 3, none⟩ = some (.int .i64 x.seq) ∧ W.cell? ⟨w.heap.size, 4, none⟩ = some (.slice A x.ts.length c)) from fun W hW => by
    obtain ⟨a0, a1, a2, a3, a4, _⟩ := box5 HB.out hW
    exact ⟨a0, a1, a2, a3, a4⟩)
  obtain ⟨b, hb⟩ : ∃ b, mayT x = b := ⟨_, rfl⟩
  have hbb : (b == b) = true := by simp
  have HN : Hid (x.ts.length ≤ 1000000) := Lib.hid (by omega)
  refine wp_region_held_drew (S := (fun W => W.cell? ⟨w.heap.size, 0, none⟩ = some (.int .i64 x.next) ∧ W.cell? ⟨w.heap.size, 1, none⟩ = some (.int .i64 x.log) ∧ W.cell? ⟨w.heap.size, 2, none⟩ = some (.int .i64 x.index) ∧ W.cell? ⟨w.heap.size, 3, none⟩ = some (.int .i64 x.seq) ∧ W.cell? ⟨w.heap.size, 4, none⟩ = some (.slice A x.ts.length c))) (by kernel_rfl) (by (try dsimp only); exact HS.out _ (by with_reducible (repeat (first | exact Ext.rfl_ _ | assumption | refine Ext.drew ?_ | refine Ext.drewN ?_ _ | refine Ext.alloc ?_ _ | refine Ext.trans ?_ (by assumption))))) (fun hHeld => ?_)
  refine wpAnyH_take (i := 0) (oi := ({ dst := some 8, op := .load 24 (.tmp 1), type := 24, pos := "law.go:40", after := #[], guard := none } : Go.Oper)) (v := ?v1) rfl (by kernel_rfl) (by kernel_rfl) (by kernel_rfl) (fun _ _ _ h => h) (Or.inl ⟨by rfl, ?hy1⟩) (by assumption) ?rest1
  case hy1 => (intro w hSw; (try dsimp only at hSw); go_simp; (try with_reducible rfl))
  (try simp only [Act.put, List.getElem_toArray, List.getElem_cons_zero, List.getElem_cons_succ, List.setIfInBounds_toArray, List.set_cons_zero, List.set_cons_succ])
  refine wpAnyH_take (i := 2) (oi := ({ dst := some 10, op := .load 24 (.tmp 1), type := 24, pos := "law.go:40", after := #[], guard := none } : Go.Oper)) (v := ?v2) rfl (by kernel_rfl) (by kernel_rfl) (by kernel_rfl) (fun _ _ _ h => h) (Or.inl ⟨by rfl, ?hy2⟩) (by assumption) ?rest2
  case hy2 => (intro w hSw; (try dsimp only at hSw); go_simp; (try with_reducible rfl))
  (try simp only [Act.put, List.getElem_toArray, List.getElem_cons_zero, List.getElem_cons_succ, List.setIfInBounds_toArray, List.set_cons_zero, List.set_cons_succ])
  refine wpAnyH_ready (rs := [1]) (by kernel_rfl) (by simp) ?_
  refine AllReadyH.cons (o := ({ dst := some 9, op := .call { callee := .value (.func 7), args := #[.tmp 8], argTypes := #[24] }, type := 4, pos := "law.go:40", after := #[⟨0, .data⟩], guard := none } : Go.Oper)) rfl (fun K hK => ?_) AllReadyH.nil
  go_simp
  (first | (go_at_call 7; refine (emay_any _ x _ (HV0.out.ext (X0.out.trans (by with_reducible (repeat (first | exact Ext.rfl_ _ | assumption | refine Ext.drew ?_ | refine Ext.drewN ?_ _ | refine Ext.alloc ?_ _ | refine Ext.trans ?_ (by assumption)))))) HN.out).mono ?_; rintro e w1 ⟨rfl, hw1⟩; rw [hb]) | (go_at_call 8; refine (rmay_any _ x _ (HV0.out.ext (X0.out.trans (by with_reducible (repeat (first | exact Ext.rfl_ _ | assumption | refine Ext.drew ?_ | refine Ext.drewN ?_ _ | refine Ext.alloc ?_ _ | refine Ext.trans ?_ (by assumption))))))).mono ?_; rintro e w2 ⟨rfl, hw2⟩; rw [hb]) | (go_at_call 6; refine (known_any _).mono ?_; rintro e w3 ⟨rfl, hw3⟩))
  (try (go_wp2_with fail))
  refine hK.out _ _ (by (try dsimp only); exact HS.out _ (by with_reducible (repeat (first | exact Ext.rfl_ _ | assumption | refine Ext.drew ?_ | refine Ext.drewN ?_ _ | refine Ext.alloc ?_ _ | refine Ext.trans ?_ (by assumption))))) (fun hHeld => ?_)
  clear hK K
  (try simp only [Act.put, List.getElem_toArray, List.getElem_cons_zero, List.getElem_cons_succ, List.setIfInBounds_toArray, List.set_cons_zero, List.set_cons_succ])
  refine wpAnyH_ready (rs := [3]) (by kernel_rfl) (by simp) ?_
  refine AllReadyH.cons (o := ({ dst := some 11, op := .call { callee := .value (.func 8), args := #[.tmp 10], argTypes := #[24] }, type := 4, pos := "law.go:40", after := #[⟨2, .data⟩, ⟨1, .chain⟩], guard := none } : Go.Oper)) rfl (fun K hK => ?_) AllReadyH.nil
  go_simp
  (first | (go_at_call 7; refine (emay_any _ x _ (HV0.out.ext (X0.out.trans (by with_reducible (repeat (first | exact Ext.rfl_ _ | assumption | refine Ext.drew ?_ | refine Ext.drewN ?_ _ | refine Ext.alloc ?_ _ | refine Ext.trans ?_ (by assumption)))))) HN.out).mono ?_; rintro e w1 ⟨rfl, hw1⟩; rw [hb]) | (go_at_call 8; refine (rmay_any _ x _ (HV0.out.ext (X0.out.trans (by with_reducible (repeat (first | exact Ext.rfl_ _ | assumption | refine Ext.drew ?_ | refine Ext.drewN ?_ _ | refine Ext.alloc ?_ _ | refine Ext.trans ?_ (by assumption))))))).mono ?_; rintro e w2 ⟨rfl, hw2⟩; rw [hb]) | (go_at_call 6; refine (known_any _).mono ?_; rintro e w3 ⟨rfl, hw3⟩))
  (try (go_wp2_with fail))
  refine hK.out _ _ (by (try dsimp only); exact HS.out _ (by with_reducible (repeat (first | exact Ext.rfl_ _ | assumption | refine Ext.drew ?_ | refine Ext.drewN ?_ _ | refine Ext.alloc ?_ _ | refine Ext.trans ?_ (by assumption))))) (fun hHeld => ?_)
  clear hK K
  (try simp only [Act.put, List.getElem_toArray, List.getElem_cons_zero, List.getElem_cons_succ, List.setIfInBounds_toArray, List.set_cons_zero, List.set_cons_succ])
  refine wpAnyH_take (i := 4) (oi := ({ dst := some 12, op := .binOp .eql 4 (.tmp 9) (.tmp 11) 4, type := 4, pos := "law.go:40", after := #[⟨1, .data⟩, ⟨3, .data⟩], guard := none } : Go.Oper)) (v := ?v3) rfl (by kernel_rfl) (by kernel_rfl) (by kernel_rfl) (fun _ _ _ h => h) (Or.inl ⟨by rfl, ?hy3⟩) (by assumption) ?rest3
  case hy3 => (intro w hSw; (try dsimp only at hSw); go_simp; (try with_reducible rfl))
  (try simp only [Act.put, List.getElem_toArray, List.getElem_cons_zero, List.getElem_cons_succ, List.setIfInBounds_toArray, List.set_cons_zero, List.set_cons_succ])
  refine wpAnyH_take (i := 5) (oi := ({ dst := some 13, op := .move (.tmp 12), type := 4, pos := "law.go:40", after := #[⟨4, .data⟩, ⟨3, .chain⟩], guard := none } : Go.Oper)) (v := ?v4) rfl (by kernel_rfl) (by kernel_rfl) (by kernel_rfl) (fun _ _ _ h => h) (Or.inl ⟨by rfl, ?hy4⟩) (by assumption) ?rest4
  case hy4 => (intro w hSw; (try dsimp only at hSw); go_simp; (try with_reducible rfl))
  (try simp only [Act.put, List.getElem_toArray, List.getElem_cons_zero, List.getElem_cons_succ, List.setIfInBounds_toArray, List.set_cons_zero, List.set_cons_succ])
  refine wpAnyH_ready (rs := [6]) (by kernel_rfl) (by simp) ?_
  refine AllReadyH.cons (o := ({ dst := some 14, op := .call { callee := .value (.func 6), args := #[], argTypes := #[] }, type := 4, pos := "law.go:40", after := #[⟨5, .chain⟩, ⟨5, .guard⟩], guard := some (5, true) } : Go.Oper)) rfl (fun K hK => ?_) AllReadyH.nil
  go_simp
  (first | (go_at_call 7; refine (emay_any _ x _ (HV0.out.ext (X0.out.trans (by with_reducible (repeat (first | exact Ext.rfl_ _ | assumption | refine Ext.drew ?_ | refine Ext.drewN ?_ _ | refine Ext.alloc ?_ _ | refine Ext.trans ?_ (by assumption)))))) HN.out).mono ?_; rintro e w1 ⟨rfl, hw1⟩; rw [hb]) | (go_at_call 8; refine (rmay_any _ x _ (HV0.out.ext (X0.out.trans (by with_reducible (repeat (first | exact Ext.rfl_ _ | assumption | refine Ext.drew ?_ | refine Ext.drewN ?_ _ | refine Ext.alloc ?_ _ | refine Ext.trans ?_ (by assumption))))))).mono ?_; rintro e w2 ⟨rfl, hw2⟩; rw [hb]) | (go_at_call 6; refine (known_any _).mono ?_; rintro e w3 ⟨rfl, hw3⟩))
  (try (go_wp2_with fail))
  refine hK.out _ _ (by (try dsimp only); exact HS.out _ (by with_reducible (repeat (first | exact Ext.rfl_ _ | assumption | refine Ext.drew ?_ | refine Ext.drewN ?_ _ | refine Ext.alloc ?_ _ | refine Ext.trans ?_ (by assumption))))) (fun hHeld => ?_)
  clear hK K
  (try simp only [Act.put, List.getElem_toArray, List.getElem_cons_zero, List.getElem_cons_succ, List.setIfInBounds_toArray, List.set_cons_zero, List.set_cons_succ])
  refine wpAnyH_take (i := 7) (oi := ({ dst := some 15, op := .pick (.tmp 13) (.tmp 14) (.const (.bool false)), type := 4, pos := "law.go:40", after := #[⟨5, .data⟩, ⟨6, .data⟩], guard := none } : Go.Oper)) (v := ?v5) rfl (by kernel_rfl) (by kernel_rfl) (by kernel_rfl) (fun _ _ _ h => h) (Or.inl ⟨by rfl, ?hy5⟩) (by assumption) ?rest5
  case hy5 => (intro w hSw; (try dsimp only at hSw); go_simp; (try with_reducible rfl))
  (try simp only [Act.put, List.getElem_toArray, List.getElem_cons_zero, List.getElem_cons_succ, List.setIfInBounds_toArray, List.set_cons_zero, List.set_cons_succ])
  refine wpAnyH_take (i := 8) (oi := ({ dst := some 2, op := .assign (.tmp 15), type := 4, pos := "law.go:40", after := #[⟨7, .data⟩, ⟨6, .chain⟩, ⟨0, .phase⟩, ⟨1, .phase⟩, ⟨2, .phase⟩, ⟨3, .phase⟩, ⟨4, .phase⟩, ⟨5, .phase⟩, ⟨6, .phase⟩, ⟨7, .phase⟩], guard := none } : Go.Oper)) (v := ?v6) rfl (by kernel_rfl) (by kernel_rfl) (by kernel_rfl) (fun _ _ _ h => h) (Or.inl ⟨by rfl, ?hy6⟩) (by assumption) ?rest6
  case hy6 => (intro w hSw; (try dsimp only at hSw); go_simp; (try with_reducible rfl))
  (try simp only [Act.put, List.getElem_toArray, List.getElem_cons_zero, List.getElem_cons_succ, List.setIfInBounds_toArray, List.set_cons_zero, List.set_cons_succ])
  refine wpAnyH_done (by kernel_rfl) ?_ _
  all_goals
    go_wp2
    go_ret
    exact ⟨rfl, X0.out.trans (by with_reducible (repeat (first | exact Ext.rfl_ _ | assumption | refine Ext.drew ?_ | refine Ext.drewN ?_ _ | refine Ext.alloc ?_ _ | refine Ext.trans ?_ (by assumption))))⟩

end Go.Proofs.Yteooaplimiifiaa
