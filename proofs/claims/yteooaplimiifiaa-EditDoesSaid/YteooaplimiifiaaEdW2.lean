/- The walk of EditSame. Conditions: what came in reads. -/
import Derived.Test.YteooaplimiifiaaEdW
namespace Go.Proofs.Yteooaplimiifiaa
set_option linter.unusedSimpArgs false
set_option linter.unusedVariables false
open Go.RowKit

theorem two_blocks (w : World) (o0 o1 : Obj) : (((w.alloc o0).alloc o1).heap[w.heap.size]? = some o0) ∧ (((w.alloc o0).alloc o1).heap[w.heap.size + 1]? = some o1) := by
  have hp : ∀ (w : World) (o : Obj), (w.alloc o).heap = w.heap.push o := fun _ _ => rfl
  simp only [hp, Array.getElem?_push, Array.size_push]
  refine ⟨?_, ?_⟩ <;> (repeat (first | rfl | rw [if_neg (by omega)]))

theorem esame_self (u v : Value) (x : Ver) (w : World) (hx : RdV w u x) (hy : RdV w v x) : Calls Try.prog 14 #[u, v] w fun e w' => e = .returned (.bool true) ∧ Ext w w' := by
  have h := esame_any u v x x w hx hy
  rwa [decide_eq_true (rfl : x = x)] at h

set_option maxRecDepth 100000 in
set_option maxHeartbeats 4000000 in
theorem same_walk (u v : Value) (x y : Ver) (w : World) (hu : RdV w u x) (hv : RdV w v y) : Calls Try.prog 5 #[u, v] w fun e w' => e = .returned (.bool true) ∧ Ext w w' := by
  have HX := Lib.hid hu
  have HY := Lib.hid hv
  obtain ⟨A, n, c, rfl, hl, _⟩ := hu
  obtain ⟨B, m, d, rfl, hk, _⟩ := hv
  obtain rfl : x.ts.length = n := hl.1
  obtain rfl : y.ts.length = m := hk.1
  clear hl hk
  obtain ⟨W0, hW0⟩ : ∃ W0, W0 = (w.alloc (.cells #[.int .i64 x.next, .int .i64 x.log, .int .i64 x.index, .int .i64 x.seq, .slice A x.ts.length c] 24)).alloc (.cells #[.int .i64 y.next, .int .i64 y.log, .int .i64 y.index, .int .i64 y.seq, .slice B y.ts.length d] 24) := ⟨_, rfl⟩
  have X0 : Hid (Ext w W0) := Lib.hid (by rw [hW0]; exact (by with_reducible (repeat (first | exact Ext.rfl_ _ | assumption | refine Ext.drew ?_ | refine Ext.drewN ?_ _ | refine Ext.alloc ?_ _ | refine Ext.trans ?_ (by assumption)))))
  obtain ⟨h0, h1⟩ := two_blocks w (.cells #[.int .i64 x.next, .int .i64 x.log, .int .i64 x.index, .int .i64 x.seq, .slice A x.ts.length c] 24) (.cells #[.int .i64 y.next, .int .i64 y.log, .int .i64 y.index, .int .i64 y.seq, .slice B y.ts.length d] 24)
  rw [← hW0] at h0 h1
  have HS := Lib.hid (show ∀ W, Ext W0 W → (W.cell? ⟨w.heap.size, 0, none⟩ = some (.int .i64 x.next) ∧ W.cell? ⟨w.heap.size, 1, none⟩ = some (.int .i64 x.log) ∧ W.cell? ⟨w.heap.size, 2, none⟩ = some (.int .i64 x.index) ∧ W.cell? ⟨w.heap.size, 3, none⟩ = some (.int .i64 x.seq) ∧ W.cell? ⟨w.heap.size, 4, none⟩ = some (.slice A x.ts.length c)) ∧ (W.cell? ⟨w.heap.size + 1, 0, none⟩ = some (.int .i64 y.next) ∧ W.cell? ⟨w.heap.size + 1, 1, none⟩ = some (.int .i64 y.log) ∧ W.cell? ⟨w.heap.size + 1, 2, none⟩ = some (.int .i64 y.index) ∧ W.cell? ⟨w.heap.size + 1, 3, none⟩ = some (.int .i64 y.seq) ∧ W.cell? ⟨w.heap.size + 1, 4, none⟩ = some (.slice B y.ts.length d)) from fun W hW => by
    obtain ⟨a0, a1, a2, a3, a4, _⟩ := box5 h0 hW
    obtain ⟨b0, b1, b2, b3, b4, _⟩ := box5 h1 hW
    exact ⟨⟨a0, a1, a2, a3, a4⟩, b0, b1, b2, b3, b4⟩)
  clear h0 h1
  by_cases hn : x.ts.length > 50
  · have hni : (x.ts.length : Int) > 50 := by omega
    go_enter Try.func5, Try.ntmps5
    go_wp2_with (go_at_call 6; refine (known_any _).mono ?_; rintro e w1 ⟨rfl, hw1⟩)
    go_ret
    exact ⟨rfl, (by with_reducible (repeat (first | exact Ext.rfl_ _ | assumption | refine Ext.drew ?_ | refine Ext.drewN ?_ _ | refine Ext.alloc ?_ _ | refine Ext.trans ?_ (by assumption))))⟩
  have hni : ¬ (x.ts.length : Int) > 50 := by omega
  by_cases hm : y.ts.length > 50
  · have hmi : (y.ts.length : Int) > 50 := by omega
    go_enter Try.func5, Try.ntmps5
    go_wp2_with (go_at_call 6; refine (known_any _).mono ?_; rintro e w1 ⟨rfl, hw1⟩)
    go_ret
    exact ⟨rfl, (by with_reducible (repeat (first | exact Ext.rfl_ _ | assumption | refine Ext.drew ?_ | refine Ext.drewN ?_ _ | refine Ext.alloc ?_ _ | refine Ext.trans ?_ (by assumption))))⟩
  have hmi : ¬ (y.ts.length : Int) > 50 := by omega
  go_enter Try.func5, Try.ntmps5
  go_upto_region 3 with (fail)
  rw [← hW0]
  clear hW0
  obtain ⟨b, hb⟩ : ∃ b, decide (x = y) = b := ⟨_, rfl⟩
  have hbb : (b == b) = true := by simp
  refine wp_region_held_drew (S := (fun W => (W.cell? ⟨w.heap.size, 0, none⟩ = some (.int .i64 x.next) ∧ W.cell? ⟨w.heap.size, 1, none⟩ = some (.int .i64 x.log) ∧ W.cell? ⟨w.heap.size, 2, none⟩ = some (.int .i64 x.index) ∧ W.cell? ⟨w.heap.size, 3, none⟩ = some (.int .i64 x.seq) ∧ W.cell? ⟨w.heap.size, 4, none⟩ = some (.slice A x.ts.length c)) ∧ (W.cell? ⟨w.heap.size + 1, 0, none⟩ = some (.int .i64 y.next) ∧ W.cell? ⟨w.heap.size + 1, 1, none⟩ = some (.int .i64 y.log) ∧ W.cell? ⟨w.heap.size + 1, 2, none⟩ = some (.int .i64 y.index) ∧ W.cell? ⟨w.heap.size + 1, 3, none⟩ = some (.int .i64 y.seq) ∧ W.cell? ⟨w.heap.size + 1, 4, none⟩ = some (.slice B y.ts.length d)))) (by kernel_rfl) (by (try dsimp only); exact HS.out _ (by with_reducible (repeat (first | exact Ext.rfl_ _ | assumption | refine Ext.drew ?_ | refine Ext.drewN ?_ _ | refine Ext.alloc ?_ _ | refine Ext.trans ?_ (by assumption))))) (fun hHeld => ?_)
  refine wpAnyH_take (i := 0) (oi := ({ dst := some 16, op := .load 24 (.tmp 2), type := 24, pos := "law.go:168", after := #[], guard := none } : Go.Oper)) (v := ?v1) rfl (by kernel_rfl) (by kernel_rfl) (by kernel_rfl) (fun _ _ _ h => h) (Or.inl ⟨by rfl, ?hy1⟩) (by assumption) ?rest1
  case hy1 => (intro w hSw; (try dsimp only at hSw); go_simp; (try with_reducible rfl))
  (try simp only [Act.put, List.getElem_toArray, List.getElem_cons_zero, List.getElem_cons_succ, List.setIfInBounds_toArray, List.set_cons_zero, List.set_cons_succ])
  refine wpAnyH_take (i := 1) (oi := ({ dst := some 17, op := .load 24 (.tmp 3), type := 24, pos := "law.go:168", after := #[], guard := none } : Go.Oper)) (v := ?v2) rfl (by kernel_rfl) (by kernel_rfl) (by kernel_rfl) (fun _ _ _ h => h) (Or.inl ⟨by rfl, ?hy2⟩) (by assumption) ?rest2
  case hy2 => (intro w hSw; (try dsimp only at hSw); go_simp; (try with_reducible rfl))
  (try simp only [Act.put, List.getElem_toArray, List.getElem_cons_zero, List.getElem_cons_succ, List.setIfInBounds_toArray, List.set_cons_zero, List.set_cons_succ])
  refine wpAnyH_take (i := 3) (oi := ({ dst := some 19, op := .load 24 (.tmp 2), type := 24, pos := "law.go:168", after := #[], guard := none } : Go.Oper)) (v := ?v3) rfl (by kernel_rfl) (by kernel_rfl) (by kernel_rfl) (fun _ _ _ h => h) (Or.inl ⟨by rfl, ?hy3⟩) (by assumption) ?rest3
  case hy3 => (intro w hSw; (try dsimp only at hSw); go_simp; (try with_reducible rfl))
  (try simp only [Act.put, List.getElem_toArray, List.getElem_cons_zero, List.getElem_cons_succ, List.setIfInBounds_toArray, List.set_cons_zero, List.set_cons_succ])
  refine wpAnyH_take (i := 4) (oi := ({ dst := some 20, op := .load 24 (.tmp 3), type := 24, pos := "law.go:168", after := #[], guard := none } : Go.Oper)) (v := ?v4) rfl (by kernel_rfl) (by kernel_rfl) (by kernel_rfl) (fun _ _ _ h => h) (Or.inl ⟨by rfl, ?hy4⟩) (by assumption) ?rest4
  case hy4 => (intro w hSw; (try dsimp only at hSw); go_simp; (try with_reducible rfl))
  (try simp only [Act.put, List.getElem_toArray, List.getElem_cons_zero, List.getElem_cons_succ, List.setIfInBounds_toArray, List.set_cons_zero, List.set_cons_succ])
  refine wpAnyH_ready (rs := [2]) (by kernel_rfl) (by simp) ?_
  refine AllReadyH.cons (o := ({ dst := some 18, op := .call { callee := .value (.func 14), args := #[.tmp 16, .tmp 17], argTypes := #[24, 24] }, type := 4, pos := "law.go:168", after := #[⟨0, .data⟩, ⟨1, .data⟩], guard := none } : Go.Oper)) rfl (fun K hK => ?_) AllReadyH.nil
  go_simp; refine (esame_any _ _ x y _ (HX.out.ext (X0.out.trans (by with_reducible (repeat (first | exact Ext.rfl_ _ | assumption | refine Ext.drew ?_ | refine Ext.drewN ?_ _ | refine Ext.alloc ?_ _ | refine Ext.trans ?_ (by assumption)))))) (HY.out.ext (X0.out.trans (by with_reducible (repeat (first | exact Ext.rfl_ _ | assumption | refine Ext.drew ?_ | refine Ext.drewN ?_ _ | refine Ext.alloc ?_ _ | refine Ext.trans ?_ (by assumption))))))).mono ?_; rintro e w1 ⟨rfl, hw1⟩; rw [hb]; (try (go_wp2_with fail))
  refine hK.out _ _ (by (try dsimp only); exact HS.out _ (by with_reducible (repeat (first | exact Ext.rfl_ _ | assumption | refine Ext.drew ?_ | refine Ext.drewN ?_ _ | refine Ext.alloc ?_ _ | refine Ext.trans ?_ (by assumption))))) (fun hHeld => ?_)
  clear hK K
  (try simp only [Act.put, List.getElem_toArray, List.getElem_cons_zero, List.getElem_cons_succ, List.setIfInBounds_toArray, List.set_cons_zero, List.set_cons_succ])
  refine wpAnyH_ready (rs := [5]) (by kernel_rfl) (by simp) ?_
  refine AllReadyH.cons (o := ({ dst := some 21, op := .call { callee := .value (.func 13), args := #[.tmp 19, .tmp 20], argTypes := #[24, 24] }, type := 4, pos := "law.go:168", after := #[⟨3, .data⟩, ⟨4, .data⟩, ⟨2, .chain⟩], guard := none } : Go.Oper)) rfl (fun K hK => ?_) AllReadyH.nil
  go_simp; refine (rsameV_any _ _ x y _ (HX.out.ext (X0.out.trans (by with_reducible (repeat (first | exact Ext.rfl_ _ | assumption | refine Ext.drew ?_ | refine Ext.drewN ?_ _ | refine Ext.alloc ?_ _ | refine Ext.trans ?_ (by assumption)))))) (HY.out.ext (X0.out.trans (by with_reducible (repeat (first | exact Ext.rfl_ _ | assumption | refine Ext.drew ?_ | refine Ext.drewN ?_ _ | refine Ext.alloc ?_ _ | refine Ext.trans ?_ (by assumption))))))).mono ?_; rintro e w2 ⟨rfl, hw2⟩; rw [hb]; (try (go_wp2_with fail))
  refine hK.out _ _ (by (try dsimp only); exact HS.out _ (by with_reducible (repeat (first | exact Ext.rfl_ _ | assumption | refine Ext.drew ?_ | refine Ext.drewN ?_ _ | refine Ext.alloc ?_ _ | refine Ext.trans ?_ (by assumption))))) (fun hHeld => ?_)
  clear hK K
  (try simp only [Act.put, List.getElem_toArray, List.getElem_cons_zero, List.getElem_cons_succ, List.setIfInBounds_toArray, List.set_cons_zero, List.set_cons_succ])
  refine wpAnyH_take (i := 6) (oi := ({ dst := some 22, op := .binOp .eql 4 (.tmp 18) (.tmp 21) 4, type := 4, pos := "law.go:168", after := #[⟨2, .data⟩, ⟨5, .data⟩], guard := none } : Go.Oper)) (v := ?v5) rfl (by kernel_rfl) (by kernel_rfl) (by kernel_rfl) (fun _ _ _ h => h) (Or.inl ⟨by rfl, ?hy5⟩) (by assumption) ?rest5
  case hy5 => (intro w hSw; (try dsimp only at hSw); go_simp; (try with_reducible rfl))
  (try simp only [Act.put, List.getElem_toArray, List.getElem_cons_zero, List.getElem_cons_succ, List.setIfInBounds_toArray, List.set_cons_zero, List.set_cons_succ])
  refine wpAnyH_take (i := 7) (oi := ({ dst := some 23, op := .move (.tmp 22), type := 4, pos := "law.go:168", after := #[⟨6, .data⟩, ⟨5, .chain⟩], guard := none } : Go.Oper)) (v := ?v6) rfl (by kernel_rfl) (by kernel_rfl) (by kernel_rfl) (fun _ _ _ h => h) (Or.inl ⟨by rfl, ?hy6⟩) (by assumption) ?rest6
  case hy6 => (intro w hSw; (try dsimp only at hSw); go_simp; (try with_reducible rfl))
  (try simp only [Act.put, List.getElem_toArray, List.getElem_cons_zero, List.getElem_cons_succ, List.setIfInBounds_toArray, List.set_cons_zero, List.set_cons_succ])
  refine wpAnyH_take (i := 8) (oi := ({ dst := some 24, op := .load 24 (.tmp 2), type := 24, pos := "law.go:168", after := #[⟨7, .guard⟩], guard := some (7, true) } : Go.Oper)) (v := ?v7) rfl (by kernel_rfl) (by kernel_rfl) (by kernel_rfl) (fun _ _ _ h => h) (Or.inl ⟨by rfl, ?hy7⟩) (by assumption) ?rest7
  case hy7 => (intro w hSw; (try dsimp only at hSw); go_simp; (try with_reducible rfl))
  (try simp only [Act.put, List.getElem_toArray, List.getElem_cons_zero, List.getElem_cons_succ, List.setIfInBounds_toArray, List.set_cons_zero, List.set_cons_succ])
  refine wpAnyH_take (i := 9) (oi := ({ dst := some 25, op := .load 24 (.tmp 2), type := 24, pos := "law.go:168", after := #[⟨7, .guard⟩], guard := some (7, true) } : Go.Oper)) (v := ?v8) rfl (by kernel_rfl) (by kernel_rfl) (by kernel_rfl) (fun _ _ _ h => h) (Or.inl ⟨by rfl, ?hy8⟩) (by assumption) ?rest8
  case hy8 => (intro w hSw; (try dsimp only at hSw); go_simp; (try with_reducible rfl))
  (try simp only [Act.put, List.getElem_toArray, List.getElem_cons_zero, List.getElem_cons_succ, List.setIfInBounds_toArray, List.set_cons_zero, List.set_cons_succ])
  refine wpAnyH_ready (rs := [10]) (by kernel_rfl) (by simp) ?_
  refine AllReadyH.cons (o := ({ dst := some 26, op := .call { callee := .value (.func 14), args := #[.tmp 24, .tmp 25], argTypes := #[24, 24] }, type := 4, pos := "law.go:168", after := #[⟨8, .data⟩, ⟨9, .data⟩, ⟨7, .chain⟩, ⟨7, .guard⟩], guard := some (7, true) } : Go.Oper)) rfl (fun K hK => ?_) AllReadyH.nil
  go_simp; refine (esame_self _ _ x _ (HX.out.ext (X0.out.trans (by with_reducible (repeat (first | exact Ext.rfl_ _ | assumption | refine Ext.drew ?_ | refine Ext.drewN ?_ _ | refine Ext.alloc ?_ _ | refine Ext.trans ?_ (by assumption)))))) (HX.out.ext (X0.out.trans (by with_reducible (repeat (first | exact Ext.rfl_ _ | assumption | refine Ext.drew ?_ | refine Ext.drewN ?_ _ | refine Ext.alloc ?_ _ | refine Ext.trans ?_ (by assumption))))))).mono ?_; rintro e w3 ⟨rfl, hw3⟩; (try (go_wp2_with fail))
  refine hK.out _ _ (by (try dsimp only); exact HS.out _ (by with_reducible (repeat (first | exact Ext.rfl_ _ | assumption | refine Ext.drew ?_ | refine Ext.drewN ?_ _ | refine Ext.alloc ?_ _ | refine Ext.trans ?_ (by assumption))))) (fun hHeld => ?_)
  clear hK K
  (try simp only [Act.put, List.getElem_toArray, List.getElem_cons_zero, List.getElem_cons_succ, List.setIfInBounds_toArray, List.set_cons_zero, List.set_cons_succ])
  refine wpAnyH_take (i := 11) (oi := ({ dst := some 27, op := .pick (.tmp 23) (.tmp 26) (.const (.bool false)), type := 4, pos := "law.go:168", after := #[⟨7, .data⟩, ⟨10, .data⟩], guard := none } : Go.Oper)) (v := ?v9) rfl (by kernel_rfl) (by kernel_rfl) (by kernel_rfl) (fun _ _ _ h => h) (Or.inl ⟨by rfl, ?hy9⟩) (by assumption) ?rest9
  case hy9 => (intro w hSw; (try dsimp only at hSw); go_simp; (try with_reducible rfl))
  (try simp only [Act.put, List.getElem_toArray, List.getElem_cons_zero, List.getElem_cons_succ, List.setIfInBounds_toArray, List.set_cons_zero, List.set_cons_succ])
  refine wpAnyH_take (i := 12) (oi := ({ dst := some 28, op := .move (.tmp 27), type := 4, pos := "law.go:168", after := #[⟨11, .data⟩, ⟨10, .chain⟩], guard := none } : Go.Oper)) (v := ?v10) rfl (by kernel_rfl) (by kernel_rfl) (by kernel_rfl) (fun _ _ _ h => h) (Or.inl ⟨by rfl, ?hy10⟩) (by assumption) ?rest10
  case hy10 => (intro w hSw; (try dsimp only at hSw); go_simp; (try with_reducible rfl))
  (try simp only [Act.put, List.getElem_toArray, List.getElem_cons_zero, List.getElem_cons_succ, List.setIfInBounds_toArray, List.set_cons_zero, List.set_cons_succ])
  refine wpAnyH_ready (rs := [13]) (by kernel_rfl) (by simp) ?_
  refine AllReadyH.cons (o := ({ dst := some 29, op := .call { callee := .value (.func 6), args := #[], argTypes := #[] }, type := 4, pos := "law.go:168", after := #[⟨12, .chain⟩, ⟨12, .guard⟩], guard := some (12, true) } : Go.Oper)) rfl (fun K hK => ?_) AllReadyH.nil
  go_simp; refine (known_any _).mono ?_; rintro e w4 ⟨rfl, hw4⟩; (try (go_wp2_with fail))
  refine hK.out _ _ (by (try dsimp only); exact HS.out _ (by with_reducible (repeat (first | exact Ext.rfl_ _ | assumption | refine Ext.drew ?_ | refine Ext.drewN ?_ _ | refine Ext.alloc ?_ _ | refine Ext.trans ?_ (by assumption))))) (fun hHeld => ?_)
  clear hK K
  (try simp only [Act.put, List.getElem_toArray, List.getElem_cons_zero, List.getElem_cons_succ, List.setIfInBounds_toArray, List.set_cons_zero, List.set_cons_succ])
  refine wpAnyH_take (i := 14) (oi := ({ dst := some 30, op := .pick (.tmp 28) (.tmp 29) (.const (.bool false)), type := 4, pos := "law.go:168", after := #[⟨12, .data⟩, ⟨13, .data⟩], guard := none } : Go.Oper)) (v := ?v11) rfl (by kernel_rfl) (by kernel_rfl) (by kernel_rfl) (fun _ _ _ h => h) (Or.inl ⟨by rfl, ?hy11⟩) (by assumption) ?rest11
  case hy11 => (intro w hSw; (try dsimp only at hSw); go_simp; (try with_reducible rfl))
  (try simp only [Act.put, List.getElem_toArray, List.getElem_cons_zero, List.getElem_cons_succ, List.setIfInBounds_toArray, List.set_cons_zero, List.set_cons_succ])
  refine wpAnyH_take (i := 15) (oi := ({ dst := some 4, op := .assign (.tmp 30), type := 4, pos := "law.go:168", after := #[⟨14, .data⟩, ⟨13, .chain⟩, ⟨0, .phase⟩, ⟨1, .phase⟩, ⟨2, .phase⟩, ⟨3, .phase⟩, ⟨4, .phase⟩, ⟨5, .phase⟩, ⟨6, .phase⟩, ⟨7, .phase⟩, ⟨8, .phase⟩, ⟨9, .phase⟩, ⟨10, .phase⟩, ⟨11, .phase⟩, ⟨12, .phase⟩, ⟨13, .phase⟩, ⟨14, .phase⟩], guard := none } : Go.Oper)) (v := ?v12) rfl (by kernel_rfl) (by kernel_rfl) (by kernel_rfl) (fun _ _ _ h => h) (Or.inl ⟨by rfl, ?hy12⟩) (by assumption) ?rest12
  case hy12 => (intro w hSw; (try dsimp only at hSw); go_simp; (try with_reducible rfl))
  (try simp only [Act.put, List.getElem_toArray, List.getElem_cons_zero, List.getElem_cons_succ, List.setIfInBounds_toArray, List.set_cons_zero, List.set_cons_succ])
  refine wpAnyH_done (by kernel_rfl) ?_ _
  all_goals
    go_wp2
    go_ret
    exact ⟨rfl, X0.out.trans (by with_reducible (repeat (first | exact Ext.rfl_ _ | assumption | refine Ext.drew ?_ | refine Ext.drewN ?_ _ | refine Ext.alloc ?_ _ | refine Ext.trans ?_ (by assumption))))⟩

end Go.Proofs.Yteooaplimiifiaa
