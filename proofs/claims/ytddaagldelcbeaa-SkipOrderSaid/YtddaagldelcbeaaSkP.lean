/- (*skip.List).Put. Conditions: the list is one; the entry reads. -/
import Derived.Test.YtddaagldelcbeaaSkI
import Derived.Test.YtddaagldelcbeaaSkS
import Derived.Shelf.Abstract
import Derived.BigQuiet
namespace Go.Proofs.Ytddaagldelcbeaa
set_option linter.unusedSimpArgs false
set_option linter.unusedVariables false
open Go.RowKit Go.Shelf

set_option maxRecDepth 100000 in
set_option maxHeartbeats 2000000 in
theorem skput_bad (g h : Nat) (L : List Nd) (v : Value) (x : Ent) (w : World) (s : SkL w g h L) (hx : RdE w v x) (hm : mayE x = false) :
    Calls Try.prog 32 #[.pointer (some ⟨g, 0, none⟩), v] w fun e w' => e = .returned (.int .i64 2) ∧ Ext w w' := by
  have HX := Lib.hid hx
  have HS := Lib.hid s
  have HM := Lib.hid hm
  obtain ⟨A, n, c, B, m, d, rfl, _⟩ := hx
  obtain ⟨q0, q1, q2, q3, _, _, _, _⟩ := box4 (blk1 w (.cells #[.slice A n c, .int .i64 x.seq, .int .i64 x.kind, .slice B m d] 40)) (Ext.rfl_ _)
  clear s hm
  go_enter Try.func32, Try.ntmps32
  go_wp2_with fail
  refine (there_any g h L _ (HS.out.ext (by with_reducible (repeat (first | exact Ext.rfl_ _ | assumption | refine Ext.drew ?_ | refine Ext.drewN ?_ _ | refine Ext.alloc ?_ _ | refine Ext.trans ?_ (by assumption)))))).mono ?_
  rintro e w1 ⟨rfl, rfl⟩
  go_wp2_with fail
  refine (may_any _ x _ (HX.out.ext (by with_reducible (repeat (first | exact Ext.rfl_ _ | assumption | refine Ext.drew ?_ | refine Ext.drewN ?_ _ | refine Ext.alloc ?_ _ | refine Ext.trans ?_ (by assumption)))))).mono ?_
  rintro e w2 ⟨rfl, hw2⟩
  rw [HM.out]
  go_wp2
  go_ret
  exact ⟨rfl, (by with_reducible (repeat (first | exact Ext.rfl_ _ | assumption | refine Ext.drew ?_ | refine Ext.drewN ?_ _ | refine Ext.alloc ?_ _ | refine Ext.trans ?_ (by assumption))))⟩

set_option maxRecDepth 100000 in
set_option maxHeartbeats 4000000 in
theorem skput_there (g h : Nat) (A0 D : List Nd) (nd : Nd) (v : Value) (x : Ent) (w : World) (s : SkL w g h (A0 ++ nd :: D)) (hx : RdE w v x) (hm : mayE x = true) (ha : ∀ a ∈ A0, cmpE a.x x < 0) (he : cmpE nd.x x = 0) (hB : ∀ b ∈ nd :: D, ¬ cmpE b.x x < 0) :
    Calls Try.prog 32 #[.pointer (some ⟨g, 0, none⟩), v] w fun e w' => e = .returned (.int .i64 7) ∧ Ext w w' := by
  have HX := Lib.hid hx
  have HS := Lib.hid s
  have HM := Lib.hid hm
  have HA := Lib.hid ha
  have HB := Lib.hid hB
  have HE := Lib.hid he
  obtain ⟨A, n, c, B, m, d, rfl, _⟩ := hx
  have hbx := blk1 w (.cells #[.slice A n c, .int .i64 x.seq, .int .i64 x.kind, .slice B m d] 40)
  obtain ⟨q0, q1, q2, q3, _, _, _, _⟩ := box4 hbx (Ext.rfl_ _)
  have HBX := Lib.hid hbx
  clear s hm ha he hbx hB
  go_enter Try.func32, Try.ntmps32
  go_wp2_with fail
  refine (there_any g h _ _ (HS.out.ext (by with_reducible (repeat (first | exact Ext.rfl_ _ | assumption | refine Ext.drew ?_ | refine Ext.drewN ?_ _ | refine Ext.alloc ?_ _ | refine Ext.trans ?_ (by assumption)))))).mono ?_
  rintro e w1 ⟨rfl, rfl⟩
  go_wp2_with fail
  refine (may_any _ x _ (HX.out.ext (by with_reducible (repeat (first | exact Ext.rfl_ _ | assumption | refine Ext.drew ?_ | refine Ext.drewN ?_ _ | refine Ext.alloc ?_ _ | refine Ext.trans ?_ (by assumption)))))).mono ?_
  rintro e w2 ⟨rfl, hw2⟩
  rw [HM.out]
  have X2 := Lib.hid (show Ext w w2 from (by with_reducible (repeat (first | exact Ext.rfl_ _ | assumption | refine Ext.drew ?_ | refine Ext.drewN ?_ _ | refine Ext.alloc ?_ _ | refine Ext.trans ?_ (by assumption)))))
  have HBX2 := Lib.hid (hw2.blk HBX.out)
  clear hw2 q0 q1 q2 q3
  go_wp2_with fail
  refine (search_any 56 #[.pointer (some ⟨w.heap.size, 0, none⟩)] (fun y => decide (cmpE y x < 0)) g h _ A0 (nd :: D) _ (HS.out.ext X2.out) rfl (enters_of Try.func56 (by kernel_rfl) rfl) ?_ ?_ ?_).mono ?_
  · intro W nd' hW hmem
    exact put1_any _ _ _ _ _ _ _ _ x nd'.x W (hW.blk HBX2.out) (HX.out.ext (X2.out.trans hW)) ((HS.out.ext (X2.out.trans hW)).sk.rd nd' hmem)
  · intro a ha; exact decide_eq_true (HA.out a ha)
  · intro b hb; exact decide_eq_false (by have := HB.out b hb; omega)
  rintro e w3 ⟨rfl, hw3⟩
  have X3 := Lib.hid (X2.out.trans hw3)
  have HBX3 := Lib.hid (hw3.blk HBX2.out)
  have hnx : nx 0 (nd :: D) = .pointer (some ⟨nd.b, 0, none⟩) := if_pos (htH_le nd.x.key nd.x.seq).1
  rw [hnx]
  have hnode := (HS.out.ext X3.out).sk.node A0 nd D rfl
  have HNODE := Lib.hid hnode
  have HRD := Lib.hid ((HS.out.ext X3.out).sk.rd nd (by simp))
  clear hw3 hnx hnode
  go_wp2
  refine wp_region_held_drew (S := (fun w' => (w'.cell? ⟨nd.b, 0, none⟩ = some (.slice nd.h.A nd.h.n nd.h.c) ∧ w'.cell? ⟨nd.b, 1, none⟩ = some (.int .i64 nd.x.seq) ∧ w'.cell? ⟨nd.b, 2, none⟩ = some (.int .i64 nd.x.kind) ∧ w'.cell? ⟨nd.b, 3, none⟩ = some (.slice nd.h.B nd.h.m nd.h.d)) ∧ w'.cell? ⟨w.heap.size, 0, none⟩ = some (.slice A n c) ∧ w'.cell? ⟨w.heap.size, 1, none⟩ = some (.int .i64 x.seq) ∧ w'.cell? ⟨w.heap.size, 2, none⟩ = some (.int .i64 x.kind) ∧ w'.cell? ⟨w.heap.size, 3, none⟩ = some (.slice B m d) ∧ w'.frozen? ⟨w.heap.size, 0, none⟩ = false ∧ w'.frozen? ⟨w.heap.size, 1, none⟩ = false ∧ w'.frozen? ⟨w.heap.size, 2, none⟩ = false ∧ w'.frozen? ⟨w.heap.size, 3, none⟩ = false)) (by kernel_rfl) (by (try dsimp only); exact ⟨nod4 HNODE.out (by with_reducible (repeat (first | exact Ext.rfl_ _ | assumption | refine Ext.drew ?_ | refine Ext.drewN ?_ _ | refine Ext.alloc ?_ _ | refine Ext.trans ?_ (by assumption)))), box4 HBX3.out (by with_reducible (repeat (first | exact Ext.rfl_ _ | assumption | refine Ext.drew ?_ | refine Ext.drewN ?_ _ | refine Ext.alloc ?_ _ | refine Ext.trans ?_ (by assumption))))⟩) (fun hHeld => ?_)
  refine wpAnyH_take (i := 0) (oi := ({ dst := some 23, op := Go.Op.move (Go.Operand.tmp 6), type := 63, pos := "skip.go:71", after := #[], guard := none } : Go.Oper)) (v := ?v1) rfl (by kernel_rfl) (by kernel_rfl) (by kernel_rfl) (fun _ _ _ h => h) (Or.inl ⟨by rfl, ?hy1⟩) (by assumption) ?rest1
  case hy1 => (intro w hSw; (try dsimp only at hSw); go_simp; (try with_reducible rfl))
  (try simp only [Act.put, List.getElem_toArray, List.getElem_cons_zero, List.getElem_cons_succ, List.setIfInBounds_toArray, List.set_cons_zero, List.set_cons_succ])
  refine wpAnyH_take (i := 1) (oi := ({ dst := some 24, op := Go.Op.binOp Go.BinOp.neq 63 (Go.Operand.tmp 23) (Go.Operand.const (Go.Value.pointer none)) 63, type := 4, pos := "skip.go:71", after := #[{ on := 0, ground := Go.Ground.data }], guard := none } : Go.Oper)) (v := ?v2) rfl (by kernel_rfl) (by kernel_rfl) (by kernel_rfl) (fun _ _ _ h => h) (Or.inl ⟨by rfl, ?hy2⟩) (by assumption) ?rest2
  case hy2 => (intro w hSw; (try dsimp only at hSw); go_simp; (try with_reducible rfl))
  (try simp only [Act.put, List.getElem_toArray, List.getElem_cons_zero, List.getElem_cons_succ, List.setIfInBounds_toArray, List.set_cons_zero, List.set_cons_succ])
  refine wpAnyH_take (i := 2) (oi := ({ dst := some 25, op := Go.Op.move (Go.Operand.tmp 24), type := 4, pos := "skip.go:71", after := #[{ on := 1, ground := Go.Ground.data }], guard := none } : Go.Oper)) (v := ?v3) rfl (by kernel_rfl) (by kernel_rfl) (by kernel_rfl) (fun _ _ _ h => h) (Or.inl ⟨by rfl, ?hy3⟩) (by assumption) ?rest3
  case hy3 => (intro w hSw; (try dsimp only at hSw); go_simp; (try with_reducible rfl))
  (try simp only [Act.put, List.getElem_toArray, List.getElem_cons_zero, List.getElem_cons_succ, List.setIfInBounds_toArray, List.set_cons_zero, List.set_cons_succ])
  refine wpAnyH_take (i := 3) (oi := ({ dst := some 26, op := Go.Op.move (Go.Operand.tmp 6), type := 63, pos := "skip.go:71", after := #[{ on := 2, ground := Go.Ground.guard }], guard := some (2, true) } : Go.Oper)) (v := ?v4) rfl (by kernel_rfl) (by kernel_rfl) (by kernel_rfl) (fun _ _ _ h => h) (Or.inl ⟨by rfl, ?hy4⟩) (by assumption) ?rest4
  case hy4 => (intro w hSw; (try dsimp only at hSw); go_simp; (try with_reducible rfl))
  (try simp only [Act.put, List.getElem_toArray, List.getElem_cons_zero, List.getElem_cons_succ, List.setIfInBounds_toArray, List.set_cons_zero, List.set_cons_succ])
  refine wpAnyH_take (i := 7) (oi := ({ dst := some 30, op := Go.Op.load 40 (Go.Operand.tmp 3), type := 40, pos := "skip.go:71", after := #[{ on := 2, ground := Go.Ground.guard }], guard := some (2, true) } : Go.Oper)) (v := ?v5) rfl (by kernel_rfl) (by kernel_rfl) (by kernel_rfl) (fun _ _ _ h => h) (Or.inl ⟨by rfl, ?hy5⟩) (by assumption) ?rest5
  case hy5 => (intro w hSw; (try dsimp only at hSw); go_simp; (try with_reducible rfl))
  (try simp only [Act.put, List.getElem_toArray, List.getElem_cons_zero, List.getElem_cons_succ, List.setIfInBounds_toArray, List.set_cons_zero, List.set_cons_succ])
  refine wpAnyH_ready (rs := [4]) (by kernel_rfl) (by simp) ?_
  refine AllReadyH.cons (o := ({ dst := some 27, op := Go.Op.nilCheck (Go.Operand.tmp 26), type := 0, pos := "skip.go:71", after := #[{ on := 3, ground := Go.Ground.data }, { on := 2, ground := Go.Ground.guard }], guard := some (2, true) } : Go.Oper)) rfl (fun K hK => ?_) AllReadyH.nil
  go_simp
  refine hK.out _ _ (by (try dsimp only); exact ⟨nod4 HNODE.out (by with_reducible (repeat (first | exact Ext.rfl_ _ | assumption | refine Ext.drew ?_ | refine Ext.drewN ?_ _ | refine Ext.alloc ?_ _ | refine Ext.trans ?_ (by assumption)))), box4 HBX3.out (by with_reducible (repeat (first | exact Ext.rfl_ _ | assumption | refine Ext.drew ?_ | refine Ext.drewN ?_ _ | refine Ext.alloc ?_ _ | refine Ext.trans ?_ (by assumption))))⟩) (fun hHeld => ?_)
  clear hK K
  (try simp only [Act.put, List.getElem_toArray, List.getElem_cons_zero, List.getElem_cons_succ, List.setIfInBounds_toArray, List.set_cons_zero, List.set_cons_succ])
  refine wpAnyH_take (i := 5) (oi := ({ dst := some 28, op := Go.Op.fieldAddr 79 (Go.Operand.tmp 27) 0, type := 0, pos := "skip.go:71", after := #[{ on := 4, ground := Go.Ground.data }, { on := 2, ground := Go.Ground.guard }], guard := some (2, true) } : Go.Oper)) (v := ?v6) rfl (by kernel_rfl) (by kernel_rfl) (by kernel_rfl) (fun _ _ _ h => h) (Or.inl ⟨by rfl, ?hy6⟩) (by assumption) ?rest6
  case hy6 => (intro w hSw; (try dsimp only at hSw); go_simp; (try with_reducible rfl))
  (try simp only [Act.put, List.getElem_toArray, List.getElem_cons_zero, List.getElem_cons_succ, List.setIfInBounds_toArray, List.set_cons_zero, List.set_cons_succ])
  refine wpAnyH_take (i := 6) (oi := ({ dst := some 29, op := Go.Op.load 40 (Go.Operand.tmp 28), type := 40, pos := "skip.go:71", after := #[{ on := 5, ground := Go.Ground.data }, { on := 2, ground := Go.Ground.guard }], guard := some (2, true) } : Go.Oper)) (v := ?v7) rfl (by kernel_rfl) (by kernel_rfl) (by kernel_rfl) (fun _ _ _ h => h) (Or.inl ⟨by rfl, ?hy7⟩) (by assumption) ?rest7
  case hy7 => (intro w hSw; (try dsimp only at hSw); go_simp; (try with_reducible rfl))
  (try simp only [Act.put, List.getElem_toArray, List.getElem_cons_zero, List.getElem_cons_succ, List.setIfInBounds_toArray, List.set_cons_zero, List.set_cons_succ])
  refine wpAnyH_ready (rs := [8]) (by kernel_rfl) (by simp) ?_
  refine AllReadyH.cons (o := ({ dst := some 31, op := Go.Op.call { callee := Go.Callee.value (Go.Operand.func 48), args := #[Go.Operand.tmp 29, Go.Operand.tmp 30], argTypes := #[40, 40] }, type := 3, pos := "skip.go:71", after := #[{ on := 6, ground := Go.Ground.data }, { on := 7, ground := Go.Ground.data }, { on := 2, ground := Go.Ground.chain }, { on := 2, ground := Go.Ground.guard }], guard := some (2, true) } : Go.Oper)) rfl (fun K hK => ?_) AllReadyH.nil
  go_simp
  refine (compare_any _ _ nd.x x _ (HRD.out.ext (by with_reducible (repeat (first | exact Ext.rfl_ _ | assumption | refine Ext.drew ?_ | refine Ext.drewN ?_ _ | refine Ext.alloc ?_ _ | refine Ext.trans ?_ (by assumption))))) (HX.out.ext (Ext.trans X3.out (by with_reducible (repeat (first | exact Ext.rfl_ _ | assumption | refine Ext.drew ?_ | refine Ext.drewN ?_ _ | refine Ext.alloc ?_ _ | refine Ext.trans ?_ (by assumption))))))).mono ?_; rintro e w4 ⟨rfl, hw4⟩; rw [HE.out]
  (try (go_wp2_with fail))
  refine hK.out _ _ (by (try dsimp only); exact ⟨nod4 HNODE.out (by with_reducible (repeat (first | exact Ext.rfl_ _ | assumption | refine Ext.drew ?_ | refine Ext.drewN ?_ _ | refine Ext.alloc ?_ _ | refine Ext.trans ?_ (by assumption)))), box4 HBX3.out (by with_reducible (repeat (first | exact Ext.rfl_ _ | assumption | refine Ext.drew ?_ | refine Ext.drewN ?_ _ | refine Ext.alloc ?_ _ | refine Ext.trans ?_ (by assumption))))⟩) (fun hHeld => ?_)
  clear hK K
  (try simp only [Act.put, List.getElem_toArray, List.getElem_cons_zero, List.getElem_cons_succ, List.setIfInBounds_toArray, List.set_cons_zero, List.set_cons_succ])
  refine wpAnyH_take (i := 9) (oi := ({ dst := some 32, op := Go.Op.binOp Go.BinOp.eql 3 (Go.Operand.tmp 31) (Go.Operand.const (Go.Value.int Go.IntKind.i64 0)) 3, type := 4, pos := "skip.go:71", after := #[{ on := 8, ground := Go.Ground.data }, { on := 2, ground := Go.Ground.guard }], guard := some (2, true) } : Go.Oper)) (v := ?v8) rfl (by kernel_rfl) (by kernel_rfl) (by kernel_rfl) (fun _ _ _ h => h) (Or.inl ⟨by rfl, ?hy8⟩) (by assumption) ?rest8
  case hy8 => (intro w hSw; (try dsimp only at hSw); go_simp; (try with_reducible rfl))
  (try simp only [Act.put, List.getElem_toArray, List.getElem_cons_zero, List.getElem_cons_succ, List.setIfInBounds_toArray, List.set_cons_zero, List.set_cons_succ])
  refine wpAnyH_take (i := 10) (oi := ({ dst := some 33, op := Go.Op.pick (Go.Operand.tmp 25) (Go.Operand.tmp 32) (Go.Operand.const (Go.Value.bool false)), type := 4, pos := "skip.go:71", after := #[{ on := 2, ground := Go.Ground.data }, { on := 9, ground := Go.Ground.data }], guard := none } : Go.Oper)) (v := ?v9) rfl (by kernel_rfl) (by kernel_rfl) (by kernel_rfl) (fun _ _ _ h => h) (Or.inl ⟨by rfl, ?hy9⟩) (by assumption) ?rest9
  case hy9 => (intro w hSw; (try dsimp only at hSw); go_simp; (try with_reducible rfl))
  (try simp only [Act.put, List.getElem_toArray, List.getElem_cons_zero, List.getElem_cons_succ, List.setIfInBounds_toArray, List.set_cons_zero, List.set_cons_succ])
  refine wpAnyH_done (by kernel_rfl) ?_ _
  all_goals
    go_wp2
    go_ret
    exact ⟨rfl, X3.out.trans (by with_reducible (repeat (first | exact Ext.rfl_ _ | assumption | refine Ext.drew ?_ | refine Ext.drewN ?_ _ | refine Ext.alloc ?_ _ | refine Ext.trans ?_ (by assumption))))⟩

end Go.Proofs.Ytddaagldelcbeaa
