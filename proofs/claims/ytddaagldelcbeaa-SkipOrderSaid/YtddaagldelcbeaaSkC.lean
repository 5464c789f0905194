/- skip.Same, (*skip.List).Copy. Conditions: the list is one. -/
import Derived.Test.YtddaagldelcbeaaSkW
import Derived.Test.YtddaagldelcbeaaSkR
import Derived.Test.YtddaagldelcbeaaGoes
import Derived.BigRegion
namespace Go.Proofs.Ytddaagldelcbeaa
set_option linter.unusedSimpArgs false
set_option linter.unusedVariables false
open Go.RowKit Go.Shelf
attribute [local go_sem] Oper.semAt_some

theorem nx0 (L : List Nd) : nx 0 L = match L with | [] => .pointer none | nd :: _ => .pointer (some ⟨nd.b, 0, none⟩) := by
  cases L with
  | nil => rfl
  | cons nd L => exact if_pos (htH_le nd.x.key nd.x.seq).1

set_option maxRecDepth 100000 in
set_option maxHeartbeats 8000000 in
theorem sksame_any (g h g' h' : Nat) (L L' : List Nd) (w : World) (s : SkL w g h L) (s' : SkL w g' h' L') :
    Calls Try.prog 30 #[.pointer (some ⟨g, 0, none⟩), .pointer (some ⟨g', 0, none⟩)] w fun e w' => e = .returned (.bool (decide (L.map Nd.x = L'.map Nd.x))) ∧ Ext w w' := by
  have HS := Lib.hid s
  have HS' := Lib.hid s'
  have hnd : (L.map Nd.b).Nodup := (List.nodup_cons.1 s.sk.ne).2
  have HND := Lib.hid hnd
  have c0 : w.cell? ⟨g, 0, none⟩ = some (.pointer (some ⟨h, 0, none⟩)) := by rw [cell_at s.list]; rfl
  have c0' : w.cell? ⟨g', 0, none⟩ = some (.pointer (some ⟨h', 0, none⟩)) := by rw [cell_at s'.list]; rfl
  have c4 : w.cell? ⟨h, 4, none⟩ = some (nx 0 L) := by
    have := nd_cell ⟨_, _, _, _, rfl⟩ s.sk.head 0 (by decide)
    rw [nxs, if_pos (by decide)] at this
    exact this
  have c4' : w.cell? ⟨h', 4, none⟩ = some (nx 0 L') := by
    have := nd_cell ⟨_, _, _, _, rfl⟩ s'.sk.head 0 (by decide)
    rw [nxs, if_pos (by decide)] at this
    exact this
  clear s s' hnd
  go_enter Try.func30, Try.ntmps30
  go_wp2_with fail
  refine (there_any g h L w HS.out).mono ?_
  rintro e w1 ⟨rfl, hw1⟩
  rw [hw1]
  clear hw1
  go_wp2_with fail
  refine (there_any g' h' L' w HS'.out).mono ?_
  rintro e w1 ⟨rfl, hw1⟩
  rw [hw1]
  clear hw1
  obtain ⟨p, hp⟩ := nx_ptr 0 L
  obtain ⟨p', hp'⟩ := nx_ptr 0 L'
  rw [hp] at c4
  rw [hp'] at c4'
  go_wp2
  go_region
  all_goals
    rw [← hp, ← hp']
    clear c0 c0' c4 c4' hp hp'
    go_wp2
    go_loopw [5, 6] (fun u v wr => ∃ C R C' R', L = C ++ R ∧ L' = C' ++ R' ∧ u = nx 0 R ∧ v = nx 0 R' ∧ C.map Nd.x = C'.map Nd.x ∧ Ext w wr) (fun u _ _ => farN L u)
    case atStart => exact ⟨[], L, [], L', rfl, rfl, rfl, rfl, rfl, (by with_reducible (repeat (first | exact Ext.rfl_ _ | assumption | refine Ext.drew ?_ | refine Ext.drewN ?_ _ | refine Ext.alloc ?_ _ | refine Ext.trans ?_ (by assumption))))⟩
    case round =>
      obtain ⟨C, R, C', R', hL, hL', rfl, rfl, hC, hE⟩ := hrel
      have HE := Lib.hid hE
      have HL := Lib.hid hL
      have HL' := Lib.hid hL'
      have HC := Lib.hid hC
      clear hE hL hL' hC
      cases R with
      | nil =>
        rw [nx0 []]
        cases R' with
        | nil =>
          rw [nx0 []]
          have hres : decide (L.map Nd.x = L'.map Nd.x) = true := decide_eq_true (by rw [HL.out, HL'.out]; simpa using HC.out)
          have HRES := Lib.hid hres
          clear hres
          go_wp2
          refine wp_region_held_drew (S := (fun w' => True)) (by kernel_rfl) (by (try dsimp only); (try exact trivial)) (fun hHeld => ?_)
          refine wpAnyH_take (i := 0) (oi := ({ dst := some 36, op := Go.Op.move (Go.Operand.tmp 5), type := 63, pos := "skip.go:158", after := #[], guard := none } : Go.Oper)) (v := ?v1) rfl (by kernel_rfl) (by kernel_rfl) (by kernel_rfl) (fun _ _ _ h => h) (Or.inl ⟨by rfl, ?hy1⟩) (by assumption) ?rest1
          case hy1 => (intro w hSw; (try dsimp only at hSw); go_simp; (try with_reducible rfl))
          (try simp only [Act.put, List.getElem_toArray, List.getElem_cons_zero, List.getElem_cons_succ, List.setIfInBounds_toArray, List.set_cons_zero, List.set_cons_succ])
          refine wpAnyH_take (i := 1) (oi := ({ dst := some 37, op := Go.Op.binOp Go.BinOp.neq 63 (Go.Operand.tmp 36) (Go.Operand.const (Go.Value.pointer none)) 63, type := 4, pos := "skip.go:158", after := #[{ on := 0, ground := Go.Ground.data }], guard := none } : Go.Oper)) (v := ?v2) rfl (by kernel_rfl) (by kernel_rfl) (by kernel_rfl) (fun _ _ _ h => h) (Or.inl ⟨by rfl, ?hy2⟩) (by assumption) ?rest2
          case hy2 => (intro w hSw; (try dsimp only at hSw); go_simp; (try with_reducible rfl))
          (try simp only [Act.put, List.getElem_toArray, List.getElem_cons_zero, List.getElem_cons_succ, List.setIfInBounds_toArray, List.set_cons_zero, List.set_cons_succ])
          refine wpAnyH_take (i := 2) (oi := ({ dst := some 38, op := Go.Op.move (Go.Operand.tmp 37), type := 4, pos := "skip.go:158", after := #[{ on := 1, ground := Go.Ground.data }], guard := none } : Go.Oper)) (v := ?v3) rfl (by kernel_rfl) (by kernel_rfl) (by kernel_rfl) (fun _ _ _ h => h) (Or.inl ⟨by rfl, ?hy3⟩) (by assumption) ?rest3
          case hy3 => (intro w hSw; (try dsimp only at hSw); go_simp; (try with_reducible rfl))
          (try simp only [Act.put, List.getElem_toArray, List.getElem_cons_zero, List.getElem_cons_succ, List.setIfInBounds_toArray, List.set_cons_zero, List.set_cons_succ])
          refine wpAnyH_take (i := 3) (oi := ({ dst := some 39, op := Go.Op.move (Go.Operand.tmp 6), type := 63, pos := "skip.go:158", after := #[{ on := 2, ground := Go.Ground.guard }], guard := some (2, true) } : Go.Oper)) (v := undef) rfl (by kernel_rfl) (by kernel_rfl) (by kernel_rfl) (fun _ _ _ h => h) (Or.inr ⟨by rfl, rfl⟩) (by assumption) ?_
          (try simp only [Act.put, List.getElem_toArray, List.getElem_cons_zero, List.getElem_cons_succ, List.setIfInBounds_toArray, List.set_cons_zero, List.set_cons_succ])
          refine wpAnyH_take (i := 4) (oi := ({ dst := some 40, op := Go.Op.binOp Go.BinOp.neq 63 (Go.Operand.tmp 39) (Go.Operand.const (Go.Value.pointer none)) 63, type := 4, pos := "skip.go:158", after := #[{ on := 3, ground := Go.Ground.data }, { on := 2, ground := Go.Ground.guard }], guard := some (2, true) } : Go.Oper)) (v := undef) rfl (by kernel_rfl) (by kernel_rfl) (by kernel_rfl) (fun _ _ _ h => h) (Or.inr ⟨by rfl, rfl⟩) (by assumption) ?_
          (try simp only [Act.put, List.getElem_toArray, List.getElem_cons_zero, List.getElem_cons_succ, List.setIfInBounds_toArray, List.set_cons_zero, List.set_cons_succ])
          refine wpAnyH_take (i := 5) (oi := ({ dst := some 41, op := Go.Op.pick (Go.Operand.tmp 38) (Go.Operand.tmp 40) (Go.Operand.const (Go.Value.bool false)), type := 4, pos := "skip.go:158", after := #[{ on := 2, ground := Go.Ground.data }, { on := 4, ground := Go.Ground.data }], guard := none } : Go.Oper)) (v := ?v4) rfl (by kernel_rfl) (by kernel_rfl) (by kernel_rfl) (fun _ _ _ h => h) (Or.inl ⟨by rfl, ?hy4⟩) (by assumption) ?rest4
          case hy4 => (intro w hSw; (try dsimp only at hSw); go_simp; (try with_reducible rfl))
          (try simp only [Act.put, List.getElem_toArray, List.getElem_cons_zero, List.getElem_cons_succ, List.setIfInBounds_toArray, List.set_cons_zero, List.set_cons_succ])
          refine wpAnyH_take (i := 6) (oi := ({ dst := some 42, op := Go.Op.move (Go.Operand.tmp 41), type := 4, pos := "skip.go:158", after := #[{ on := 5, ground := Go.Ground.data }, { on := 2, ground := Go.Ground.chain }], guard := none } : Go.Oper)) (v := ?v5) rfl (by kernel_rfl) (by kernel_rfl) (by kernel_rfl) (fun _ _ _ h => h) (Or.inl ⟨by rfl, ?hy5⟩) (by assumption) ?rest5
          case hy5 => (intro w hSw; (try dsimp only at hSw); go_simp; (try with_reducible rfl))
          (try simp only [Act.put, List.getElem_toArray, List.getElem_cons_zero, List.getElem_cons_succ, List.setIfInBounds_toArray, List.set_cons_zero, List.set_cons_succ])
          refine wpAnyH_take (i := 7) (oi := ({ dst := some 43, op := Go.Op.move (Go.Operand.tmp 5), type := 63, pos := "skip.go:158", after := #[{ on := 6, ground := Go.Ground.guard }], guard := some (6, true) } : Go.Oper)) (v := undef) rfl (by kernel_rfl) (by kernel_rfl) (by kernel_rfl) (fun _ _ _ h => h) (Or.inr ⟨by rfl, rfl⟩) (by assumption) ?_
          (try simp only [Act.put, List.getElem_toArray, List.getElem_cons_zero, List.getElem_cons_succ, List.setIfInBounds_toArray, List.set_cons_zero, List.set_cons_succ])
          refine wpAnyH_take (i := 8) (oi := ({ dst := some 44, op := Go.Op.nilCheck (Go.Operand.tmp 43), type := 0, pos := "skip.go:158", after := #[{ on := 7, ground := Go.Ground.data }, { on := 6, ground := Go.Ground.guard }], guard := some (6, true) } : Go.Oper)) (v := undef) rfl (by kernel_rfl) (by kernel_rfl) (by kernel_rfl) (fun _ _ _ h => h) (Or.inr ⟨by rfl, rfl⟩) (by assumption) ?_
          (try simp only [Act.put, List.getElem_toArray, List.getElem_cons_zero, List.getElem_cons_succ, List.setIfInBounds_toArray, List.set_cons_zero, List.set_cons_succ])
          refine wpAnyH_take (i := 9) (oi := ({ dst := some 45, op := Go.Op.fieldAddr 79 (Go.Operand.tmp 44) 0, type := 0, pos := "skip.go:158", after := #[{ on := 8, ground := Go.Ground.data }, { on := 6, ground := Go.Ground.guard }], guard := some (6, true) } : Go.Oper)) (v := undef) rfl (by kernel_rfl) (by kernel_rfl) (by kernel_rfl) (fun _ _ _ h => h) (Or.inr ⟨by rfl, rfl⟩) (by assumption) ?_
          (try simp only [Act.put, List.getElem_toArray, List.getElem_cons_zero, List.getElem_cons_succ, List.setIfInBounds_toArray, List.set_cons_zero, List.set_cons_succ])
          refine wpAnyH_take (i := 10) (oi := ({ dst := some 46, op := Go.Op.load 40 (Go.Operand.tmp 45), type := 40, pos := "skip.go:158", after := #[{ on := 9, ground := Go.Ground.data }, { on := 6, ground := Go.Ground.guard }], guard := some (6, true) } : Go.Oper)) (v := undef) rfl (by kernel_rfl) (by kernel_rfl) (by kernel_rfl) (fun _ _ _ h => h) (Or.inr ⟨by rfl, rfl⟩) (by assumption) ?_
          (try simp only [Act.put, List.getElem_toArray, List.getElem_cons_zero, List.getElem_cons_succ, List.setIfInBounds_toArray, List.set_cons_zero, List.set_cons_succ])
          refine wpAnyH_take (i := 11) (oi := ({ dst := some 47, op := Go.Op.move (Go.Operand.tmp 6), type := 63, pos := "skip.go:158", after := #[{ on := 6, ground := Go.Ground.guard }], guard := some (6, true) } : Go.Oper)) (v := undef) rfl (by kernel_rfl) (by kernel_rfl) (by kernel_rfl) (fun _ _ _ h => h) (Or.inr ⟨by rfl, rfl⟩) (by assumption) ?_
          (try simp only [Act.put, List.getElem_toArray, List.getElem_cons_zero, List.getElem_cons_succ, List.setIfInBounds_toArray, List.set_cons_zero, List.set_cons_succ])
          refine wpAnyH_take (i := 12) (oi := ({ dst := some 48, op := Go.Op.nilCheck (Go.Operand.tmp 47), type := 0, pos := "skip.go:158", after := #[{ on := 11, ground := Go.Ground.data }, { on := 6, ground := Go.Ground.guard }], guard := some (6, true) } : Go.Oper)) (v := undef) rfl (by kernel_rfl) (by kernel_rfl) (by kernel_rfl) (fun _ _ _ h => h) (Or.inr ⟨by rfl, rfl⟩) (by assumption) ?_
          (try simp only [Act.put, List.getElem_toArray, List.getElem_cons_zero, List.getElem_cons_succ, List.setIfInBounds_toArray, List.set_cons_zero, List.set_cons_succ])
          refine wpAnyH_take (i := 13) (oi := ({ dst := some 49, op := Go.Op.fieldAddr 79 (Go.Operand.tmp 48) 0, type := 0, pos := "skip.go:158", after := #[{ on := 12, ground := Go.Ground.data }, { on := 6, ground := Go.Ground.guard }], guard := some (6, true) } : Go.Oper)) (v := undef) rfl (by kernel_rfl) (by kernel_rfl) (by kernel_rfl) (fun _ _ _ h => h) (Or.inr ⟨by rfl, rfl⟩) (by assumption) ?_
          (try simp only [Act.put, List.getElem_toArray, List.getElem_cons_zero, List.getElem_cons_succ, List.setIfInBounds_toArray, List.set_cons_zero, List.set_cons_succ])
          refine wpAnyH_take (i := 14) (oi := ({ dst := some 50, op := Go.Op.load 40 (Go.Operand.tmp 49), type := 40, pos := "skip.go:158", after := #[{ on := 13, ground := Go.Ground.data }, { on := 6, ground := Go.Ground.guard }], guard := some (6, true) } : Go.Oper)) (v := undef) rfl (by kernel_rfl) (by kernel_rfl) (by kernel_rfl) (fun _ _ _ h => h) (Or.inr ⟨by rfl, rfl⟩) (by assumption) ?_
          (try simp only [Act.put, List.getElem_toArray, List.getElem_cons_zero, List.getElem_cons_succ, List.setIfInBounds_toArray, List.set_cons_zero, List.set_cons_succ])
          refine wpAnyH_take (i := 15) (oi := ({ dst := some 51, op := Go.Op.call { callee := Go.Callee.value (Go.Operand.func 54), args := #[Go.Operand.tmp 46, Go.Operand.tmp 50], argTypes := #[40, 40] }, type := 4, pos := "skip.go:158", after := #[{ on := 10, ground := Go.Ground.data }, { on := 14, ground := Go.Ground.data }, { on := 6, ground := Go.Ground.chain }, { on := 6, ground := Go.Ground.guard }], guard := some (6, true) } : Go.Oper)) (v := undef) rfl (by kernel_rfl) (by kernel_rfl) (by kernel_rfl) (fun _ _ _ h => h) (Or.inr ⟨by rfl, rfl⟩) (by assumption) ?_
          (try simp only [Act.put, List.getElem_toArray, List.getElem_cons_zero, List.getElem_cons_succ, List.setIfInBounds_toArray, List.set_cons_zero, List.set_cons_succ])
          refine wpAnyH_take (i := 16) (oi := ({ dst := some 52, op := Go.Op.pick (Go.Operand.tmp 42) (Go.Operand.tmp 51) (Go.Operand.const (Go.Value.bool false)), type := 4, pos := "skip.go:158", after := #[{ on := 6, ground := Go.Ground.data }, { on := 15, ground := Go.Ground.data }], guard := none } : Go.Oper)) (v := ?v6) rfl (by kernel_rfl) (by kernel_rfl) (by kernel_rfl) (fun _ _ _ h => h) (Or.inl ⟨by rfl, ?hy6⟩) (by assumption) ?rest6
          case hy6 => (intro w hSw; (try dsimp only at hSw); go_simp; (try with_reducible rfl))
          (try simp only [Act.put, List.getElem_toArray, List.getElem_cons_zero, List.getElem_cons_succ, List.setIfInBounds_toArray, List.set_cons_zero, List.set_cons_succ])
          refine wpAnyH_done (by kernel_rfl) ?_ _
          all_goals
            go_wp2
            go_ret
            exact ⟨ret_bool HRES.out.symm, HE.out.trans (by with_reducible (repeat (first | exact Ext.rfl_ _ | assumption | refine Ext.drew ?_ | refine Ext.drewN ?_ _ | refine Ext.alloc ?_ _ | refine Ext.trans ?_ (by assumption))))⟩
        | cons nd' D' =>
          rw [nx0 (nd' :: D')]
          have hres : decide (L.map Nd.x = L'.map Nd.x) = false := decide_eq_false (by
            rw [HL.out, HL'.out]
            intro e
            have := congrArg List.length e
            have h2 := congrArg List.length HC.out
            simp at this h2
            omega)
          have HRES := Lib.hid hres
          clear hres
          go_wp2
          refine wp_region_held_drew (S := (fun w' => True)) (by kernel_rfl) (by (try dsimp only); (try exact trivial)) (fun hHeld => ?_)
          refine wpAnyH_take (i := 0) (oi := ({ dst := some 36, op := Go.Op.move (Go.Operand.tmp 5), type := 63, pos := "skip.go:158", after := #[], guard := none } : Go.Oper)) (v := ?v7) rfl (by kernel_rfl) (by kernel_rfl) (by kernel_rfl) (fun _ _ _ h => h) (Or.inl ⟨by rfl, ?hy7⟩) (by assumption) ?rest7
          case hy7 => (intro w hSw; (try dsimp only at hSw); go_simp; (try with_reducible rfl))
          (try simp only [Act.put, List.getElem_toArray, List.getElem_cons_zero, List.getElem_cons_succ, List.setIfInBounds_toArray, List.set_cons_zero, List.set_cons_succ])
          refine wpAnyH_take (i := 1) (oi := ({ dst := some 37, op := Go.Op.binOp Go.BinOp.neq 63 (Go.Operand.tmp 36) (Go.Operand.const (Go.Value.pointer none)) 63, type := 4, pos := "skip.go:158", after := #[{ on := 0, ground := Go.Ground.data }], guard := none } : Go.Oper)) (v := ?v8) rfl (by kernel_rfl) (by kernel_rfl) (by kernel_rfl) (fun _ _ _ h => h) (Or.inl ⟨by rfl, ?hy8⟩) (by assumption) ?rest8
          case hy8 => (intro w hSw; (try dsimp only at hSw); go_simp; (try with_reducible rfl))
          (try simp only [Act.put, List.getElem_toArray, List.getElem_cons_zero, List.getElem_cons_succ, List.setIfInBounds_toArray, List.set_cons_zero, List.set_cons_succ])
          refine wpAnyH_take (i := 2) (oi := ({ dst := some 38, op := Go.Op.move (Go.Operand.tmp 37), type := 4, pos := "skip.go:158", after := #[{ on := 1, ground := Go.Ground.data }], guard := none } : Go.Oper)) (v := ?v9) rfl (by kernel_rfl) (by kernel_rfl) (by kernel_rfl) (fun _ _ _ h => h) (Or.inl ⟨by rfl, ?hy9⟩) (by assumption) ?rest9
          case hy9 => (intro w hSw; (try dsimp only at hSw); go_simp; (try with_reducible rfl))
          (try simp only [Act.put, List.getElem_toArray, List.getElem_cons_zero, List.getElem_cons_succ, List.setIfInBounds_toArray, List.set_cons_zero, List.set_cons_succ])
          refine wpAnyH_take (i := 3) (oi := ({ dst := some 39, op := Go.Op.move (Go.Operand.tmp 6), type := 63, pos := "skip.go:158", after := #[{ on := 2, ground := Go.Ground.guard }], guard := some (2, true) } : Go.Oper)) (v := undef) rfl (by kernel_rfl) (by kernel_rfl) (by kernel_rfl) (fun _ _ _ h => h) (Or.inr ⟨by rfl, rfl⟩) (by assumption) ?_
          (try simp only [Act.put, List.getElem_toArray, List.getElem_cons_zero, List.getElem_cons_succ, List.setIfInBounds_toArray, List.set_cons_zero, List.set_cons_succ])
          refine wpAnyH_take (i := 4) (oi := ({ dst := some 40, op := Go.Op.binOp Go.BinOp.neq 63 (Go.Operand.tmp 39) (Go.Operand.const (Go.Value.pointer none)) 63, type := 4, pos := "skip.go:158", after := #[{ on := 3, ground := Go.Ground.data }, { on := 2, ground := Go.Ground.guard }], guard := some (2, true) } : Go.Oper)) (v := undef) rfl (by kernel_rfl) (by kernel_rfl) (by kernel_rfl) (fun _ _ _ h => h) (Or.inr ⟨by rfl, rfl⟩) (by assumption) ?_
          (try simp only [Act.put, List.getElem_toArray, List.getElem_cons_zero, List.getElem_cons_succ, List.setIfInBounds_toArray, List.set_cons_zero, List.set_cons_succ])
          refine wpAnyH_take (i := 5) (oi := ({ dst := some 41, op := Go.Op.pick (Go.Operand.tmp 38) (Go.Operand.tmp 40) (Go.Operand.const (Go.Value.bool false)), type := 4, pos := "skip.go:158", after := #[{ on := 2, ground := Go.Ground.data }, { on := 4, ground := Go.Ground.data }], guard := none } : Go.Oper)) (v := ?v10) rfl (by kernel_rfl) (by kernel_rfl) (by kernel_rfl) (fun _ _ _ h => h) (Or.inl ⟨by rfl, ?hy10⟩) (by assumption) ?rest10
          case hy10 => (intro w hSw; (try dsimp only at hSw); go_simp; (try with_reducible rfl))
          (try simp only [Act.put, List.getElem_toArray, List.getElem_cons_zero, List.getElem_cons_succ, List.setIfInBounds_toArray, List.set_cons_zero, List.set_cons_succ])
          refine wpAnyH_take (i := 6) (oi := ({ dst := some 42, op := Go.Op.move (Go.Operand.tmp 41), type := 4, pos := "skip.go:158", after := #[{ on := 5, ground := Go.Ground.data }, { on := 2, ground := Go.Ground.chain }], guard := none } : Go.Oper)) (v := ?v11) rfl (by kernel_rfl) (by kernel_rfl) (by kernel_rfl) (fun _ _ _ h => h) (Or.inl ⟨by rfl, ?hy11⟩) (by assumption) ?rest11
          case hy11 => (intro w hSw; (try dsimp only at hSw); go_simp; (try with_reducible rfl))
          (try simp only [Act.put, List.getElem_toArray, List.getElem_cons_zero, List.getElem_cons_succ, List.setIfInBounds_toArray, List.set_cons_zero, List.set_cons_succ])
          refine wpAnyH_take (i := 7) (oi := ({ dst := some 43, op := Go.Op.move (Go.Operand.tmp 5), type := 63, pos := "skip.go:158", after := #[{ on := 6, ground := Go.Ground.guard }], guard := some (6, true) } : Go.Oper)) (v := undef) rfl (by kernel_rfl) (by kernel_rfl) (by kernel_rfl) (fun _ _ _ h => h) (Or.inr ⟨by rfl, rfl⟩) (by assumption) ?_
          (try simp only [Act.put, List.getElem_toArray, List.getElem_cons_zero, List.getElem_cons_succ, List.setIfInBounds_toArray, List.set_cons_zero, List.set_cons_succ])
          refine wpAnyH_take (i := 8) (oi := ({ dst := some 44, op := Go.Op.nilCheck (Go.Operand.tmp 43), type := 0, pos := "skip.go:158", after := #[{ on := 7, ground := Go.Ground.data }, { on := 6, ground := Go.Ground.guard }], guard := some (6, true) } : Go.Oper)) (v := undef) rfl (by kernel_rfl) (by kernel_rfl) (by kernel_rfl) (fun _ _ _ h => h) (Or.inr ⟨by rfl, rfl⟩) (by assumption) ?_
          (try simp only [Act.put, List.getElem_toArray, List.getElem_cons_zero, List.getElem_cons_succ, List.setIfInBounds_toArray, List.set_cons_zero, List.set_cons_succ])
          refine wpAnyH_take (i := 9) (oi := ({ dst := some 45, op := Go.Op.fieldAddr 79 (Go.Operand.tmp 44) 0, type := 0, pos := "skip.go:158", after := #[{ on := 8, ground := Go.Ground.data }, { on := 6, ground := Go.Ground.guard }], guard := some (6, true) } : Go.Oper)) (v := undef) rfl (by kernel_rfl) (by kernel_rfl) (by kernel_rfl) (fun _ _ _ h => h) (Or.inr ⟨by rfl, rfl⟩) (by assumption) ?_
          (try simp only [Act.put, List.getElem_toArray, List.getElem_cons_zero, List.getElem_cons_succ, List.setIfInBounds_toArray, List.set_cons_zero, List.set_cons_succ])
          refine wpAnyH_take (i := 10) (oi := ({ dst := some 46, op := Go.Op.load 40 (Go.Operand.tmp 45), type := 40, pos := "skip.go:158", after := #[{ on := 9, ground := Go.Ground.data }, { on := 6, ground := Go.Ground.guard }], guard := some (6, true) } : Go.Oper)) (v := undef) rfl (by kernel_rfl) (by kernel_rfl) (by kernel_rfl) (fun _ _ _ h => h) (Or.inr ⟨by rfl, rfl⟩) (by assumption) ?_
          (try simp only [Act.put, List.getElem_toArray, List.getElem_cons_zero, List.getElem_cons_succ, List.setIfInBounds_toArray, List.set_cons_zero, List.set_cons_succ])
          refine wpAnyH_take (i := 11) (oi := ({ dst := some 47, op := Go.Op.move (Go.Operand.tmp 6), type := 63, pos := "skip.go:158", after := #[{ on := 6, ground := Go.Ground.guard }], guard := some (6, true) } : Go.Oper)) (v := undef) rfl (by kernel_rfl) (by kernel_rfl) (by kernel_rfl) (fun _ _ _ h => h) (Or.inr ⟨by rfl, rfl⟩) (by assumption) ?_
          (try simp only [Act.put, List.getElem_toArray, List.getElem_cons_zero, List.getElem_cons_succ, List.setIfInBounds_toArray, List.set_cons_zero, List.set_cons_succ])
          refine wpAnyH_take (i := 12) (oi := ({ dst := some 48, op := Go.Op.nilCheck (Go.Operand.tmp 47), type := 0, pos := "skip.go:158", after := #[{ on := 11, ground := Go.Ground.data }, { on := 6, ground := Go.Ground.guard }], guard := some (6, true) } : Go.Oper)) (v := undef) rfl (by kernel_rfl) (by kernel_rfl) (by kernel_rfl) (fun _ _ _ h => h) (Or.inr ⟨by rfl, rfl⟩) (by assumption) ?_
          (try simp only [Act.put, List.getElem_toArray, List.getElem_cons_zero, List.getElem_cons_succ, List.setIfInBounds_toArray, List.set_cons_zero, List.set_cons_succ])
          refine wpAnyH_take (i := 13) (oi := ({ dst := some 49, op := Go.Op.fieldAddr 79 (Go.Operand.tmp 48) 0, type := 0, pos := "skip.go:158", after := #[{ on := 12, ground := Go.Ground.data }, { on := 6, ground := Go.Ground.guard }], guard := some (6, true) } : Go.Oper)) (v := undef) rfl (by kernel_rfl) (by kernel_rfl) (by kernel_rfl) (fun _ _ _ h => h) (Or.inr ⟨by rfl, rfl⟩) (by assumption) ?_
          (try simp only [Act.put, List.getElem_toArray, List.getElem_cons_zero, List.getElem_cons_succ, List.setIfInBounds_toArray, List.set_cons_zero, List.set_cons_succ])
          refine wpAnyH_take (i := 14) (oi := ({ dst := some 50, op := Go.Op.load 40 (Go.Operand.tmp 49), type := 40, pos := "skip.go:158", after := #[{ on := 13, ground := Go.Ground.data }, { on := 6, ground := Go.Ground.guard }], guard := some (6, true) } : Go.Oper)) (v := undef) rfl (by kernel_rfl) (by kernel_rfl) (by kernel_rfl) (fun _ _ _ h => h) (Or.inr ⟨by rfl, rfl⟩) (by assumption) ?_
          (try simp only [Act.put, List.getElem_toArray, List.getElem_cons_zero, List.getElem_cons_succ, List.setIfInBounds_toArray, List.set_cons_zero, List.set_cons_succ])
          refine wpAnyH_take (i := 15) (oi := ({ dst := some 51, op := Go.Op.call { callee := Go.Callee.value (Go.Operand.func 54), args := #[Go.Operand.tmp 46, Go.Operand.tmp 50], argTypes := #[40, 40] }, type := 4, pos := "skip.go:158", after := #[{ on := 10, ground := Go.Ground.data }, { on := 14, ground := Go.Ground.data }, { on := 6, ground := Go.Ground.chain }, { on := 6, ground := Go.Ground.guard }], guard := some (6, true) } : Go.Oper)) (v := undef) rfl (by kernel_rfl) (by kernel_rfl) (by kernel_rfl) (fun _ _ _ h => h) (Or.inr ⟨by rfl, rfl⟩) (by assumption) ?_
          (try simp only [Act.put, List.getElem_toArray, List.getElem_cons_zero, List.getElem_cons_succ, List.setIfInBounds_toArray, List.set_cons_zero, List.set_cons_succ])
          refine wpAnyH_take (i := 16) (oi := ({ dst := some 52, op := Go.Op.pick (Go.Operand.tmp 42) (Go.Operand.tmp 51) (Go.Operand.const (Go.Value.bool false)), type := 4, pos := "skip.go:158", after := #[{ on := 6, ground := Go.Ground.data }, { on := 15, ground := Go.Ground.data }], guard := none } : Go.Oper)) (v := ?v12) rfl (by kernel_rfl) (by kernel_rfl) (by kernel_rfl) (fun _ _ _ h => h) (Or.inl ⟨by rfl, ?hy12⟩) (by assumption) ?rest12
          case hy12 => (intro w hSw; (try dsimp only at hSw); go_simp; (try with_reducible rfl))
          (try simp only [Act.put, List.getElem_toArray, List.getElem_cons_zero, List.getElem_cons_succ, List.setIfInBounds_toArray, List.set_cons_zero, List.set_cons_succ])
          refine wpAnyH_done (by kernel_rfl) ?_ _
          all_goals
            go_wp2
            go_ret
            exact ⟨ret_bool HRES.out.symm, HE.out.trans (by with_reducible (repeat (first | exact Ext.rfl_ _ | assumption | refine Ext.drew ?_ | refine Ext.drewN ?_ _ | refine Ext.alloc ?_ _ | refine Ext.trans ?_ (by assumption))))⟩
      | cons nd D =>
        rw [nx0 (nd :: D)]
        cases R' with
        | nil =>
          rw [nx0 []]
          have hres : decide (L.map Nd.x = L'.map Nd.x) = false := decide_eq_false (by
            rw [HL.out, HL'.out]
            intro e
            have := congrArg List.length e
            have h2 := congrArg List.length HC.out
            simp at this h2
            omega)
          have HRES := Lib.hid hres
          clear hres
          go_wp2
          refine wp_region_held_drew (S := (fun w' => True)) (by kernel_rfl) (by (try dsimp only); (try exact trivial)) (fun hHeld => ?_)
          refine wpAnyH_take (i := 0) (oi := ({ dst := some 36, op := Go.Op.move (Go.Operand.tmp 5), type := 63, pos := "skip.go:158", after := #[], guard := none } : Go.Oper)) (v := ?v13) rfl (by kernel_rfl) (by kernel_rfl) (by kernel_rfl) (fun _ _ _ h => h) (Or.inl ⟨by rfl, ?hy13⟩) (by assumption) ?rest13
          case hy13 => (intro w hSw; (try dsimp only at hSw); go_simp; (try with_reducible rfl))
          (try simp only [Act.put, List.getElem_toArray, List.getElem_cons_zero, List.getElem_cons_succ, List.setIfInBounds_toArray, List.set_cons_zero, List.set_cons_succ])
          refine wpAnyH_take (i := 1) (oi := ({ dst := some 37, op := Go.Op.binOp Go.BinOp.neq 63 (Go.Operand.tmp 36) (Go.Operand.const (Go.Value.pointer none)) 63, type := 4, pos := "skip.go:158", after := #[{ on := 0, ground := Go.Ground.data }], guard := none } : Go.Oper)) (v := ?v14) rfl (by kernel_rfl) (by kernel_rfl) (by kernel_rfl) (fun _ _ _ h => h) (Or.inl ⟨by rfl, ?hy14⟩) (by assumption) ?rest14
          case hy14 => (intro w hSw; (try dsimp only at hSw); go_simp; (try with_reducible rfl))
          (try simp only [Act.put, List.getElem_toArray, List.getElem_cons_zero, List.getElem_cons_succ, List.setIfInBounds_toArray, List.set_cons_zero, List.set_cons_succ])
          refine wpAnyH_take (i := 2) (oi := ({ dst := some 38, op := Go.Op.move (Go.Operand.tmp 37), type := 4, pos := "skip.go:158", after := #[{ on := 1, ground := Go.Ground.data }], guard := none } : Go.Oper)) (v := ?v15) rfl (by kernel_rfl) (by kernel_rfl) (by kernel_rfl) (fun _ _ _ h => h) (Or.inl ⟨by rfl, ?hy15⟩) (by assumption) ?rest15
          case hy15 => (intro w hSw; (try dsimp only at hSw); go_simp; (try with_reducible rfl))
          (try simp only [Act.put, List.getElem_toArray, List.getElem_cons_zero, List.getElem_cons_succ, List.setIfInBounds_toArray, List.set_cons_zero, List.set_cons_succ])
          refine wpAnyH_take (i := 3) (oi := ({ dst := some 39, op := Go.Op.move (Go.Operand.tmp 6), type := 63, pos := "skip.go:158", after := #[{ on := 2, ground := Go.Ground.guard }], guard := some (2, true) } : Go.Oper)) (v := ?v16) rfl (by kernel_rfl) (by kernel_rfl) (by kernel_rfl) (fun _ _ _ h => h) (Or.inl ⟨by rfl, ?hy16⟩) (by assumption) ?rest16
          case hy16 => (intro w hSw; (try dsimp only at hSw); go_simp; (try with_reducible rfl))
          (try simp only [Act.put, List.getElem_toArray, List.getElem_cons_zero, List.getElem_cons_succ, List.setIfInBounds_toArray, List.set_cons_zero, List.set_cons_succ])
          refine wpAnyH_take (i := 4) (oi := ({ dst := some 40, op := Go.Op.binOp Go.BinOp.neq 63 (Go.Operand.tmp 39) (Go.Operand.const (Go.Value.pointer none)) 63, type := 4, pos := "skip.go:158", after := #[{ on := 3, ground := Go.Ground.data }, { on := 2, ground := Go.Ground.guard }], guard := some (2, true) } : Go.Oper)) (v := ?v17) rfl (by kernel_rfl) (by kernel_rfl) (by kernel_rfl) (fun _ _ _ h => h) (Or.inl ⟨by rfl, ?hy17⟩) (by assumption) ?rest17
          case hy17 => (intro w hSw; (try dsimp only at hSw); go_simp; (try with_reducible rfl))
          (try simp only [Act.put, List.getElem_toArray, List.getElem_cons_zero, List.getElem_cons_succ, List.setIfInBounds_toArray, List.set_cons_zero, List.set_cons_succ])
          refine wpAnyH_take (i := 5) (oi := ({ dst := some 41, op := Go.Op.pick (Go.Operand.tmp 38) (Go.Operand.tmp 40) (Go.Operand.const (Go.Value.bool false)), type := 4, pos := "skip.go:158", after := #[{ on := 2, ground := Go.Ground.data }, { on := 4, ground := Go.Ground.data }], guard := none } : Go.Oper)) (v := ?v18) rfl (by kernel_rfl) (by kernel_rfl) (by kernel_rfl) (fun _ _ _ h => h) (Or.inl ⟨by rfl, ?hy18⟩) (by assumption) ?rest18
          case hy18 => (intro w hSw; (try dsimp only at hSw); go_simp; (try with_reducible rfl))
          (try simp only [Act.put, List.getElem_toArray, List.getElem_cons_zero, List.getElem_cons_succ, List.setIfInBounds_toArray, List.set_cons_zero, List.set_cons_succ])
          refine wpAnyH_take (i := 6) (oi := ({ dst := some 42, op := Go.Op.move (Go.Operand.tmp 41), type := 4, pos := "skip.go:158", after := #[{ on := 5, ground := Go.Ground.data }, { on := 2, ground := Go.Ground.chain }], guard := none } : Go.Oper)) (v := ?v19) rfl (by kernel_rfl) (by kernel_rfl) (by kernel_rfl) (fun _ _ _ h => h) (Or.inl ⟨by rfl, ?hy19⟩) (by assumption) ?rest19
          case hy19 => (intro w hSw; (try dsimp only at hSw); go_simp; (try with_reducible rfl))
          (try simp only [Act.put, List.getElem_toArray, List.getElem_cons_zero, List.getElem_cons_succ, List.setIfInBounds_toArray, List.set_cons_zero, List.set_cons_succ])
          refine wpAnyH_take (i := 7) (oi := ({ dst := some 43, op := Go.Op.move (Go.Operand.tmp 5), type := 63, pos := "skip.go:158", after := #[{ on := 6, ground := Go.Ground.guard }], guard := some (6, true) } : Go.Oper)) (v := undef) rfl (by kernel_rfl) (by kernel_rfl) (by kernel_rfl) (fun _ _ _ h => h) (Or.inr ⟨by rfl, rfl⟩) (by assumption) ?_
          (try simp only [Act.put, List.getElem_toArray, List.getElem_cons_zero, List.getElem_cons_succ, List.setIfInBounds_toArray, List.set_cons_zero, List.set_cons_succ])
          refine wpAnyH_take (i := 8) (oi := ({ dst := some 44, op := Go.Op.nilCheck (Go.Operand.tmp 43), type := 0, pos := "skip.go:158", after := #[{ on := 7, ground := Go.Ground.data }, { on := 6, ground := Go.Ground.guard }], guard := some (6, true) } : Go.Oper)) (v := undef) rfl (by kernel_rfl) (by kernel_rfl) (by kernel_rfl) (fun _ _ _ h => h) (Or.inr ⟨by rfl, rfl⟩) (by assumption) ?_
          (try simp only [Act.put, List.getElem_toArray, List.getElem_cons_zero, List.getElem_cons_succ, List.setIfInBounds_toArray, List.set_cons_zero, List.set_cons_succ])
          refine wpAnyH_take (i := 9) (oi := ({ dst := some 45, op := Go.Op.fieldAddr 79 (Go.Operand.tmp 44) 0, type := 0, pos := "skip.go:158", after := #[{ on := 8, ground := Go.Ground.data }, { on := 6, ground := Go.Ground.guard }], guard := some (6, true) } : Go.Oper)) (v := undef) rfl (by kernel_rfl) (by kernel_rfl) (by kernel_rfl) (fun _ _ _ h => h) (Or.inr ⟨by rfl, rfl⟩) (by assumption) ?_
          (try simp only [Act.put, List.getElem_toArray, List.getElem_cons_zero, List.getElem_cons_succ, List.setIfInBounds_toArray, List.set_cons_zero, List.set_cons_succ])
          refine wpAnyH_take (i := 10) (oi := ({ dst := some 46, op := Go.Op.load 40 (Go.Operand.tmp 45), type := 40, pos := "skip.go:158", after := #[{ on := 9, ground := Go.Ground.data }, { on := 6, ground := Go.Ground.guard }], guard := some (6, true) } : Go.Oper)) (v := undef) rfl (by kernel_rfl) (by kernel_rfl) (by kernel_rfl) (fun _ _ _ h => h) (Or.inr ⟨by rfl, rfl⟩) (by assumption) ?_
          (try simp only [Act.put, List.getElem_toArray, List.getElem_cons_zero, List.getElem_cons_succ, List.setIfInBounds_toArray, List.set_cons_zero, List.set_cons_succ])
          refine wpAnyH_take (i := 11) (oi := ({ dst := some 47, op := Go.Op.move (Go.Operand.tmp 6), type := 63, pos := "skip.go:158", after := #[{ on := 6, ground := Go.Ground.guard }], guard := some (6, true) } : Go.Oper)) (v := undef) rfl (by kernel_rfl) (by kernel_rfl) (by kernel_rfl) (fun _ _ _ h => h) (Or.inr ⟨by rfl, rfl⟩) (by assumption) ?_
          (try simp only [Act.put, List.getElem_toArray, List.getElem_cons_zero, List.getElem_cons_succ, List.setIfInBounds_toArray, List.set_cons_zero, List.set_cons_succ])
          refine wpAnyH_take (i := 12) (oi := ({ dst := some 48, op := Go.Op.nilCheck (Go.Operand.tmp 47), type := 0, pos := "skip.go:158", after := #[{ on := 11, ground := Go.Ground.data }, { on := 6, ground := Go.Ground.guard }], guard := some (6, true) } : Go.Oper)) (v := undef) rfl (by kernel_rfl) (by kernel_rfl) (by kernel_rfl) (fun _ _ _ h => h) (Or.inr ⟨by rfl, rfl⟩) (by assumption) ?_
          (try simp only [Act.put, List.getElem_toArray, List.getElem_cons_zero, List.getElem_cons_succ, List.setIfInBounds_toArray, List.set_cons_zero, List.set_cons_succ])
          refine wpAnyH_take (i := 13) (oi := ({ dst := some 49, op := Go.Op.fieldAddr 79 (Go.Operand.tmp 48) 0, type := 0, pos := "skip.go:158", after := #[{ on := 12, ground := Go.Ground.data }, { on := 6, ground := Go.Ground.guard }], guard := some (6, true) } : Go.Oper)) (v := undef) rfl (by kernel_rfl) (by kernel_rfl) (by kernel_rfl) (fun _ _ _ h => h) (Or.inr ⟨by rfl, rfl⟩) (by assumption) ?_
          (try simp only [Act.put, List.getElem_toArray, List.getElem_cons_zero, List.getElem_cons_succ, List.setIfInBounds_toArray, List.set_cons_zero, List.set_cons_succ])
          refine wpAnyH_take (i := 14) (oi := ({ dst := some 50, op := Go.Op.load 40 (Go.Operand.tmp 49), type := 40, pos := "skip.go:158", after := #[{ on := 13, ground := Go.Ground.data }, { on := 6, ground := Go.Ground.guard }], guard := some (6, true) } : Go.Oper)) (v := undef) rfl (by kernel_rfl) (by kernel_rfl) (by kernel_rfl) (fun _ _ _ h => h) (Or.inr ⟨by rfl, rfl⟩) (by assumption) ?_
          (try simp only [Act.put, List.getElem_toArray, List.getElem_cons_zero, List.getElem_cons_succ, List.setIfInBounds_toArray, List.set_cons_zero, List.set_cons_succ])
          refine wpAnyH_take (i := 15) (oi := ({ dst := some 51, op := Go.Op.call { callee := Go.Callee.value (Go.Operand.func 54), args := #[Go.Operand.tmp 46, Go.Operand.tmp 50], argTypes := #[40, 40] }, type := 4, pos := "skip.go:158", after := #[{ on := 10, ground := Go.Ground.data }, { on := 14, ground := Go.Ground.data }, { on := 6, ground := Go.Ground.chain }, { on := 6, ground := Go.Ground.guard }], guard := some (6, true) } : Go.Oper)) (v := undef) rfl (by kernel_rfl) (by kernel_rfl) (by kernel_rfl) (fun _ _ _ h => h) (Or.inr ⟨by rfl, rfl⟩) (by assumption) ?_
          (try simp only [Act.put, List.getElem_toArray, List.getElem_cons_zero, List.getElem_cons_succ, List.setIfInBounds_toArray, List.set_cons_zero, List.set_cons_succ])
          refine wpAnyH_take (i := 16) (oi := ({ dst := some 52, op := Go.Op.pick (Go.Operand.tmp 42) (Go.Operand.tmp 51) (Go.Operand.const (Go.Value.bool false)), type := 4, pos := "skip.go:158", after := #[{ on := 6, ground := Go.Ground.data }, { on := 15, ground := Go.Ground.data }], guard := none } : Go.Oper)) (v := ?v20) rfl (by kernel_rfl) (by kernel_rfl) (by kernel_rfl) (fun _ _ _ h => h) (Or.inl ⟨by rfl, ?hy20⟩) (by assumption) ?rest20
          case hy20 => (intro w hSw; (try dsimp only at hSw); go_simp; (try with_reducible rfl))
          (try simp only [Act.put, List.getElem_toArray, List.getElem_cons_zero, List.getElem_cons_succ, List.setIfInBounds_toArray, List.set_cons_zero, List.set_cons_succ])
          refine wpAnyH_done (by kernel_rfl) ?_ _
          all_goals
            go_wp2
            go_ret
            exact ⟨ret_bool HRES.out.symm, HE.out.trans (by with_reducible (repeat (first | exact Ext.rfl_ _ | assumption | refine Ext.drew ?_ | refine Ext.drewN ?_ _ | refine Ext.alloc ?_ _ | refine Ext.trans ?_ (by assumption))))⟩
        | cons nd' D' =>
          rw [nx0 (nd' :: D')]
          have HN := Lib.hid (HS.out.sk.node C nd D HL.out)
          have HN' := Lib.hid (HS'.out.sk.node C' nd' D' HL'.out)
          have HR := Lib.hid (HS.out.sk.rd nd (by rw [HL.out]; simp))
          have HR' := Lib.hid (HS'.out.sk.rd nd' (by rw [HL'.out]; simp))
          by_cases hq : nd.x = nd'.x
          · have HQ := Lib.hid hq
            clear hq
            go_wp2
            refine wp_region_held_drew (S := (fun w' => (w'.cell? ⟨nd.b, 0, none⟩ = some (.slice nd.h.A nd.h.n nd.h.c) ∧ w'.cell? ⟨nd.b, 1, none⟩ = some (.int .i64 nd.x.seq) ∧ w'.cell? ⟨nd.b, 2, none⟩ = some (.int .i64 nd.x.kind) ∧ w'.cell? ⟨nd.b, 3, none⟩ = some (.slice nd.h.B nd.h.m nd.h.d)) ∧ w'.cell? ⟨nd'.b, 0, none⟩ = some (.slice nd'.h.A nd'.h.n nd'.h.c) ∧ w'.cell? ⟨nd'.b, 1, none⟩ = some (.int .i64 nd'.x.seq) ∧ w'.cell? ⟨nd'.b, 2, none⟩ = some (.int .i64 nd'.x.kind) ∧ w'.cell? ⟨nd'.b, 3, none⟩ = some (.slice nd'.h.B nd'.h.m nd'.h.d))) (by kernel_rfl) (by (try dsimp only); exact ⟨nod4 HN.out (HE.out.trans (by with_reducible (repeat (first | exact Ext.rfl_ _ | assumption | refine Ext.drew ?_ | refine Ext.drewN ?_ _ | refine Ext.alloc ?_ _ | refine Ext.trans ?_ (by assumption))))), nod4 HN'.out (HE.out.trans (by with_reducible (repeat (first | exact Ext.rfl_ _ | assumption | refine Ext.drew ?_ | refine Ext.drewN ?_ _ | refine Ext.alloc ?_ _ | refine Ext.trans ?_ (by assumption)))))⟩) (fun hHeld => ?_)
            refine wpAnyH_take (i := 0) (oi := ({ dst := some 36, op := Go.Op.move (Go.Operand.tmp 5), type := 63, pos := "skip.go:158", after := #[], guard := none } : Go.Oper)) (v := ?v21) rfl (by kernel_rfl) (by kernel_rfl) (by kernel_rfl) (fun _ _ _ h => h) (Or.inl ⟨by rfl, ?hy21⟩) (by assumption) ?rest21
            case hy21 => (intro w hSw; (try dsimp only at hSw); go_simp; (try with_reducible rfl))
            (try simp only [Act.put, List.getElem_toArray, List.getElem_cons_zero, List.getElem_cons_succ, List.setIfInBounds_toArray, List.set_cons_zero, List.set_cons_succ])
            refine wpAnyH_take (i := 1) (oi := ({ dst := some 37, op := Go.Op.binOp Go.BinOp.neq 63 (Go.Operand.tmp 36) (Go.Operand.const (Go.Value.pointer none)) 63, type := 4, pos := "skip.go:158", after := #[{ on := 0, ground := Go.Ground.data }], guard := none } : Go.Oper)) (v := ?v22) rfl (by kernel_rfl) (by kernel_rfl) (by kernel_rfl) (fun _ _ _ h => h) (Or.inl ⟨by rfl, ?hy22⟩) (by assumption) ?rest22
            case hy22 => (intro w hSw; (try dsimp only at hSw); go_simp; (try with_reducible rfl))
            (try simp only [Act.put, List.getElem_toArray, List.getElem_cons_zero, List.getElem_cons_succ, List.setIfInBounds_toArray, List.set_cons_zero, List.set_cons_succ])
            refine wpAnyH_take (i := 2) (oi := ({ dst := some 38, op := Go.Op.move (Go.Operand.tmp 37), type := 4, pos := "skip.go:158", after := #[{ on := 1, ground := Go.Ground.data }], guard := none } : Go.Oper)) (v := ?v23) rfl (by kernel_rfl) (by kernel_rfl) (by kernel_rfl) (fun _ _ _ h => h) (Or.inl ⟨by rfl, ?hy23⟩) (by assumption) ?rest23
            case hy23 => (intro w hSw; (try dsimp only at hSw); go_simp; (try with_reducible rfl))
            (try simp only [Act.put, List.getElem_toArray, List.getElem_cons_zero, List.getElem_cons_succ, List.setIfInBounds_toArray, List.set_cons_zero, List.set_cons_succ])
            refine wpAnyH_take (i := 3) (oi := ({ dst := some 39, op := Go.Op.move (Go.Operand.tmp 6), type := 63, pos := "skip.go:158", after := #[{ on := 2, ground := Go.Ground.guard }], guard := some (2, true) } : Go.Oper)) (v := ?v24) rfl (by kernel_rfl) (by kernel_rfl) (by kernel_rfl) (fun _ _ _ h => h) (Or.inl ⟨by rfl, ?hy24⟩) (by assumption) ?rest24
            case hy24 => (intro w hSw; (try dsimp only at hSw); go_simp; (try with_reducible rfl))
            (try simp only [Act.put, List.getElem_toArray, List.getElem_cons_zero, List.getElem_cons_succ, List.setIfInBounds_toArray, List.set_cons_zero, List.set_cons_succ])
            refine wpAnyH_take (i := 4) (oi := ({ dst := some 40, op := Go.Op.binOp Go.BinOp.neq 63 (Go.Operand.tmp 39) (Go.Operand.const (Go.Value.pointer none)) 63, type := 4, pos := "skip.go:158", after := #[{ on := 3, ground := Go.Ground.data }, { on := 2, ground := Go.Ground.guard }], guard := some (2, true) } : Go.Oper)) (v := ?v25) rfl (by kernel_rfl) (by kernel_rfl) (by kernel_rfl) (fun _ _ _ h => h) (Or.inl ⟨by rfl, ?hy25⟩) (by assumption) ?rest25
            case hy25 => (intro w hSw; (try dsimp only at hSw); go_simp; (try with_reducible rfl))
            (try simp only [Act.put, List.getElem_toArray, List.getElem_cons_zero, List.getElem_cons_succ, List.setIfInBounds_toArray, List.set_cons_zero, List.set_cons_succ])
            refine wpAnyH_take (i := 5) (oi := ({ dst := some 41, op := Go.Op.pick (Go.Operand.tmp 38) (Go.Operand.tmp 40) (Go.Operand.const (Go.Value.bool false)), type := 4, pos := "skip.go:158", after := #[{ on := 2, ground := Go.Ground.data }, { on := 4, ground := Go.Ground.data }], guard := none } : Go.Oper)) (v := ?v26) rfl (by kernel_rfl) (by kernel_rfl) (by kernel_rfl) (fun _ _ _ h => h) (Or.inl ⟨by rfl, ?hy26⟩) (by assumption) ?rest26
            case hy26 => (intro w hSw; (try dsimp only at hSw); go_simp; (try with_reducible rfl))
            (try simp only [Act.put, List.getElem_toArray, List.getElem_cons_zero, List.getElem_cons_succ, List.setIfInBounds_toArray, List.set_cons_zero, List.set_cons_succ])
            refine wpAnyH_take (i := 6) (oi := ({ dst := some 42, op := Go.Op.move (Go.Operand.tmp 41), type := 4, pos := "skip.go:158", after := #[{ on := 5, ground := Go.Ground.data }, { on := 2, ground := Go.Ground.chain }], guard := none } : Go.Oper)) (v := ?v27) rfl (by kernel_rfl) (by kernel_rfl) (by kernel_rfl) (fun _ _ _ h => h) (Or.inl ⟨by rfl, ?hy27⟩) (by assumption) ?rest27
            case hy27 => (intro w hSw; (try dsimp only at hSw); go_simp; (try with_reducible rfl))
            (try simp only [Act.put, List.getElem_toArray, List.getElem_cons_zero, List.getElem_cons_succ, List.setIfInBounds_toArray, List.set_cons_zero, List.set_cons_succ])
            refine wpAnyH_take (i := 7) (oi := ({ dst := some 43, op := Go.Op.move (Go.Operand.tmp 5), type := 63, pos := "skip.go:158", after := #[{ on := 6, ground := Go.Ground.guard }], guard := some (6, true) } : Go.Oper)) (v := ?v28) rfl (by kernel_rfl) (by kernel_rfl) (by kernel_rfl) (fun _ _ _ h => h) (Or.inl ⟨by rfl, ?hy28⟩) (by assumption) ?rest28
            case hy28 => (intro w hSw; (try dsimp only at hSw); go_simp; (try with_reducible rfl))
            (try simp only [Act.put, List.getElem_toArray, List.getElem_cons_zero, List.getElem_cons_succ, List.setIfInBounds_toArray, List.set_cons_zero, List.set_cons_succ])
            refine wpAnyH_take (i := 11) (oi := ({ dst := some 47, op := Go.Op.move (Go.Operand.tmp 6), type := 63, pos := "skip.go:158", after := #[{ on := 6, ground := Go.Ground.guard }], guard := some (6, true) } : Go.Oper)) (v := ?v29) rfl (by kernel_rfl) (by kernel_rfl) (by kernel_rfl) (fun _ _ _ h => h) (Or.inl ⟨by rfl, ?hy29⟩) (by assumption) ?rest29
            case hy29 => (intro w hSw; (try dsimp only at hSw); go_simp; (try with_reducible rfl))
            (try simp only [Act.put, List.getElem_toArray, List.getElem_cons_zero, List.getElem_cons_succ, List.setIfInBounds_toArray, List.set_cons_zero, List.set_cons_succ])
            refine wpAnyH_ready (rs := [8, 12]) (by kernel_rfl) (by simp) ?_
            refine AllReadyH.cons (o := ({ dst := some 44, op := Go.Op.nilCheck (Go.Operand.tmp 43), type := 0, pos := "skip.go:158", after := #[{ on := 7, ground := Go.Ground.data }, { on := 6, ground := Go.Ground.guard }], guard := some (6, true) } : Go.Oper)) rfl (fun K hK => ?one30) ?more30
            case' one30 =>
              go_simp
              refine hK.out _ _ (by (try dsimp only); exact ⟨nod4 HN.out (HE.out.trans (by with_reducible (repeat (first | exact Ext.rfl_ _ | assumption | refine Ext.drew ?_ | refine Ext.drewN ?_ _ | refine Ext.alloc ?_ _ | refine Ext.trans ?_ (by assumption))))), nod4 HN'.out (HE.out.trans (by with_reducible (repeat (first | exact Ext.rfl_ _ | assumption | refine Ext.drew ?_ | refine Ext.drewN ?_ _ | refine Ext.alloc ?_ _ | refine Ext.trans ?_ (by assumption)))))⟩) (fun hHeld => ?_)
              clear hK K
              (try simp only [Act.put, List.getElem_toArray, List.getElem_cons_zero, List.getElem_cons_succ, List.setIfInBounds_toArray, List.set_cons_zero, List.set_cons_succ])
              refine wpAnyH_take (i := 9) (oi := ({ dst := some 45, op := Go.Op.fieldAddr 79 (Go.Operand.tmp 44) 0, type := 0, pos := "skip.go:158", after := #[{ on := 8, ground := Go.Ground.data }, { on := 6, ground := Go.Ground.guard }], guard := some (6, true) } : Go.Oper)) (v := ?v31) rfl (by kernel_rfl) (by kernel_rfl) (by kernel_rfl) (fun _ _ _ h => h) (Or.inl ⟨by rfl, ?hy31⟩) (by assumption) ?rest31
              case hy31 => (intro w hSw; (try dsimp only at hSw); go_simp; (try with_reducible rfl))
              (try simp only [Act.put, List.getElem_toArray, List.getElem_cons_zero, List.getElem_cons_succ, List.setIfInBounds_toArray, List.set_cons_zero, List.set_cons_succ])
              refine wpAnyH_take (i := 10) (oi := ({ dst := some 46, op := Go.Op.load 40 (Go.Operand.tmp 45), type := 40, pos := "skip.go:158", after := #[{ on := 9, ground := Go.Ground.data }, { on := 6, ground := Go.Ground.guard }], guard := some (6, true) } : Go.Oper)) (v := ?v32) rfl (by kernel_rfl) (by kernel_rfl) (by kernel_rfl) (fun _ _ _ h => h) (Or.inl ⟨by rfl, ?hy32⟩) (by assumption) ?rest32
              case hy32 => (intro w hSw; (try dsimp only at hSw); go_simp; (try with_reducible rfl))
              (try simp only [Act.put, List.getElem_toArray, List.getElem_cons_zero, List.getElem_cons_succ, List.setIfInBounds_toArray, List.set_cons_zero, List.set_cons_succ])
              refine wpAnyH_ready (rs := [12]) (by kernel_rfl) (by simp) ?_
              refine AllReadyH.cons (o := ({ dst := some 48, op := Go.Op.nilCheck (Go.Operand.tmp 47), type := 0, pos := "skip.go:158", after := #[{ on := 11, ground := Go.Ground.data }, { on := 6, ground := Go.Ground.guard }], guard := some (6, true) } : Go.Oper)) rfl (fun K hK => ?_) AllReadyH.nil
              go_simp
              refine hK.out _ _ (by (try dsimp only); exact ⟨nod4 HN.out (HE.out.trans (by with_reducible (repeat (first | exact Ext.rfl_ _ | assumption | refine Ext.drew ?_ | refine Ext.drewN ?_ _ | refine Ext.alloc ?_ _ | refine Ext.trans ?_ (by assumption))))), nod4 HN'.out (HE.out.trans (by with_reducible (repeat (first | exact Ext.rfl_ _ | assumption | refine Ext.drew ?_ | refine Ext.drewN ?_ _ | refine Ext.alloc ?_ _ | refine Ext.trans ?_ (by assumption)))))⟩) (fun hHeld => ?_)
              clear hK K
              (try simp only [Act.put, List.getElem_toArray, List.getElem_cons_zero, List.getElem_cons_succ, List.setIfInBounds_toArray, List.set_cons_zero, List.set_cons_succ])
              refine wpAnyH_take (i := 13) (oi := ({ dst := some 49, op := Go.Op.fieldAddr 79 (Go.Operand.tmp 48) 0, type := 0, pos := "skip.go:158", after := #[{ on := 12, ground := Go.Ground.data }, { on := 6, ground := Go.Ground.guard }], guard := some (6, true) } : Go.Oper)) (v := ?v33) rfl (by kernel_rfl) (by kernel_rfl) (by kernel_rfl) (fun _ _ _ h => h) (Or.inl ⟨by rfl, ?hy33⟩) (by assumption) ?rest33
              case hy33 => (intro w hSw; (try dsimp only at hSw); go_simp; (try with_reducible rfl))
              (try simp only [Act.put, List.getElem_toArray, List.getElem_cons_zero, List.getElem_cons_succ, List.setIfInBounds_toArray, List.set_cons_zero, List.set_cons_succ])
              refine wpAnyH_take (i := 14) (oi := ({ dst := some 50, op := Go.Op.load 40 (Go.Operand.tmp 49), type := 40, pos := "skip.go:158", after := #[{ on := 13, ground := Go.Ground.data }, { on := 6, ground := Go.Ground.guard }], guard := some (6, true) } : Go.Oper)) (v := ?v34) rfl (by kernel_rfl) (by kernel_rfl) (by kernel_rfl) (fun _ _ _ h => h) (Or.inl ⟨by rfl, ?hy34⟩) (by assumption) ?rest34
              case hy34 => (intro w hSw; (try dsimp only at hSw); go_simp; (try with_reducible rfl))
              (try simp only [Act.put, List.getElem_toArray, List.getElem_cons_zero, List.getElem_cons_succ, List.setIfInBounds_toArray, List.set_cons_zero, List.set_cons_succ])
              refine wpAnyH_ready (rs := [15]) (by kernel_rfl) (by simp) ?_
              refine AllReadyH.cons (o := ({ dst := some 51, op := Go.Op.call { callee := Go.Callee.value (Go.Operand.func 54), args := #[Go.Operand.tmp 46, Go.Operand.tmp 50], argTypes := #[40, 40] }, type := 4, pos := "skip.go:158", after := #[{ on := 10, ground := Go.Ground.data }, { on := 14, ground := Go.Ground.data }, { on := 6, ground := Go.Ground.chain }, { on := 6, ground := Go.Ground.guard }], guard := some (6, true) } : Go.Oper)) rfl (fun K hK => ?_) AllReadyH.nil
              go_simp
              refine (same_any _ _ nd.x nd'.x _ ?_ ?_).mono ?_; exact HR.out.ext (HE.out.trans (by with_reducible (repeat (first | exact Ext.rfl_ _ | assumption | refine Ext.drew ?_ | refine Ext.drewN ?_ _ | refine Ext.alloc ?_ _ | refine Ext.trans ?_ (by assumption))))); exact HR'.out.ext (HE.out.trans (by with_reducible (repeat (first | exact Ext.rfl_ _ | assumption | refine Ext.drew ?_ | refine Ext.drewN ?_ _ | refine Ext.alloc ?_ _ | refine Ext.trans ?_ (by assumption))))); rintro e w5 ⟨rfl, hw5⟩; rw [show decide (nd.x = nd'.x) = true from decide_eq_true HQ.out]
              (try (go_wp2_with fail))
              refine hK.out _ _ (by (try dsimp only); exact ⟨nod4 HN.out (HE.out.trans (by with_reducible (repeat (first | exact Ext.rfl_ _ | assumption | refine Ext.drew ?_ | refine Ext.drewN ?_ _ | refine Ext.alloc ?_ _ | refine Ext.trans ?_ (by assumption))))), nod4 HN'.out (HE.out.trans (by with_reducible (repeat (first | exact Ext.rfl_ _ | assumption | refine Ext.drew ?_ | refine Ext.drewN ?_ _ | refine Ext.alloc ?_ _ | refine Ext.trans ?_ (by assumption)))))⟩) (fun hHeld => ?_)
              clear hK K
              (try simp only [Act.put, List.getElem_toArray, List.getElem_cons_zero, List.getElem_cons_succ, List.setIfInBounds_toArray, List.set_cons_zero, List.set_cons_succ])
              refine wpAnyH_take (i := 16) (oi := ({ dst := some 52, op := Go.Op.pick (Go.Operand.tmp 42) (Go.Operand.tmp 51) (Go.Operand.const (Go.Value.bool false)), type := 4, pos := "skip.go:158", after := #[{ on := 6, ground := Go.Ground.data }, { on := 15, ground := Go.Ground.data }], guard := none } : Go.Oper)) (v := ?v35) rfl (by kernel_rfl) (by kernel_rfl) (by kernel_rfl) (fun _ _ _ h => h) (Or.inl ⟨by rfl, ?hy35⟩) (by assumption) ?rest35
              case hy35 => (intro w hSw; (try dsimp only at hSw); go_simp; (try with_reducible rfl))
              (try simp only [Act.put, List.getElem_toArray, List.getElem_cons_zero, List.getElem_cons_succ, List.setIfInBounds_toArray, List.set_cons_zero, List.set_cons_succ])
              refine wpAnyH_done (by kernel_rfl) ?_ _
            case' more30 =>
              refine AllReadyH.cons (o := ({ dst := some 48, op := Go.Op.nilCheck (Go.Operand.tmp 47), type := 0, pos := "skip.go:158", after := #[{ on := 11, ground := Go.Ground.data }, { on := 6, ground := Go.Ground.guard }], guard := some (6, true) } : Go.Oper)) rfl (fun K hK => ?_) AllReadyH.nil
              go_simp
              refine hK.out _ _ (by (try dsimp only); exact ⟨nod4 HN.out (HE.out.trans (by with_reducible (repeat (first | exact Ext.rfl_ _ | assumption | refine Ext.drew ?_ | refine Ext.drewN ?_ _ | refine Ext.alloc ?_ _ | refine Ext.trans ?_ (by assumption))))), nod4 HN'.out (HE.out.trans (by with_reducible (repeat (first | exact Ext.rfl_ _ | assumption | refine Ext.drew ?_ | refine Ext.drewN ?_ _ | refine Ext.alloc ?_ _ | refine Ext.trans ?_ (by assumption)))))⟩) (fun hHeld => ?_)
              clear hK K
              (try simp only [Act.put, List.getElem_toArray, List.getElem_cons_zero, List.getElem_cons_succ, List.setIfInBounds_toArray, List.set_cons_zero, List.set_cons_succ])
              refine wpAnyH_take (i := 13) (oi := ({ dst := some 49, op := Go.Op.fieldAddr 79 (Go.Operand.tmp 48) 0, type := 0, pos := "skip.go:158", after := #[{ on := 12, ground := Go.Ground.data }, { on := 6, ground := Go.Ground.guard }], guard := some (6, true) } : Go.Oper)) (v := ?v36) rfl (by kernel_rfl) (by kernel_rfl) (by kernel_rfl) (fun _ _ _ h => h) (Or.inl ⟨by rfl, ?hy36⟩) (by assumption) ?rest36
              case hy36 => (intro w hSw; (try dsimp only at hSw); go_simp; (try with_reducible rfl))
              (try simp only [Act.put, List.getElem_toArray, List.getElem_cons_zero, List.getElem_cons_succ, List.setIfInBounds_toArray, List.set_cons_zero, List.set_cons_succ])
              refine wpAnyH_take (i := 14) (oi := ({ dst := some 50, op := Go.Op.load 40 (Go.Operand.tmp 49), type := 40, pos := "skip.go:158", after := #[{ on := 13, ground := Go.Ground.data }, { on := 6, ground := Go.Ground.guard }], guard := some (6, true) } : Go.Oper)) (v := ?v37) rfl (by kernel_rfl) (by kernel_rfl) (by kernel_rfl) (fun _ _ _ h => h) (Or.inl ⟨by rfl, ?hy37⟩) (by assumption) ?rest37
              case hy37 => (intro w hSw; (try dsimp only at hSw); go_simp; (try with_reducible rfl))
              (try simp only [Act.put, List.getElem_toArray, List.getElem_cons_zero, List.getElem_cons_succ, List.setIfInBounds_toArray, List.set_cons_zero, List.set_cons_succ])
              refine wpAnyH_ready (rs := [8]) (by kernel_rfl) (by simp) ?_
              refine AllReadyH.cons (o := ({ dst := some 44, op := Go.Op.nilCheck (Go.Operand.tmp 43), type := 0, pos := "skip.go:158", after := #[{ on := 7, ground := Go.Ground.data }, { on := 6, ground := Go.Ground.guard }], guard := some (6, true) } : Go.Oper)) rfl (fun K hK => ?_) AllReadyH.nil
              go_simp
              refine hK.out _ _ (by (try dsimp only); exact ⟨nod4 HN.out (HE.out.trans (by with_reducible (repeat (first | exact Ext.rfl_ _ | assumption | refine Ext.drew ?_ | refine Ext.drewN ?_ _ | refine Ext.alloc ?_ _ | refine Ext.trans ?_ (by assumption))))), nod4 HN'.out (HE.out.trans (by with_reducible (repeat (first | exact Ext.rfl_ _ | assumption | refine Ext.drew ?_ | refine Ext.drewN ?_ _ | refine Ext.alloc ?_ _ | refine Ext.trans ?_ (by assumption)))))⟩) (fun hHeld => ?_)
              clear hK K
              (try simp only [Act.put, List.getElem_toArray, List.getElem_cons_zero, List.getElem_cons_succ, List.setIfInBounds_toArray, List.set_cons_zero, List.set_cons_succ])
              refine wpAnyH_take (i := 9) (oi := ({ dst := some 45, op := Go.Op.fieldAddr 79 (Go.Operand.tmp 44) 0, type := 0, pos := "skip.go:158", after := #[{ on := 8, ground := Go.Ground.data }, { on := 6, ground := Go.Ground.guard }], guard := some (6, true) } : Go.Oper)) (v := ?v38) rfl (by kernel_rfl) (by kernel_rfl) (by kernel_rfl) (fun _ _ _ h => h) (Or.inl ⟨by rfl, ?hy38⟩) (by assumption) ?rest38
              case hy38 => (intro w hSw; (try dsimp only at hSw); go_simp; (try with_reducible rfl))
              (try simp only [Act.put, List.getElem_toArray, List.getElem_cons_zero, List.getElem_cons_succ, List.setIfInBounds_toArray, List.set_cons_zero, List.set_cons_succ])
              refine wpAnyH_take (i := 10) (oi := ({ dst := some 46, op := Go.Op.load 40 (Go.Operand.tmp 45), type := 40, pos := "skip.go:158", after := #[{ on := 9, ground := Go.Ground.data }, { on := 6, ground := Go.Ground.guard }], guard := some (6, true) } : Go.Oper)) (v := ?v39) rfl (by kernel_rfl) (by kernel_rfl) (by kernel_rfl) (fun _ _ _ h => h) (Or.inl ⟨by rfl, ?hy39⟩) (by assumption) ?rest39
              case hy39 => (intro w hSw; (try dsimp only at hSw); go_simp; (try with_reducible rfl))
              (try simp only [Act.put, List.getElem_toArray, List.getElem_cons_zero, List.getElem_cons_succ, List.setIfInBounds_toArray, List.set_cons_zero, List.set_cons_succ])
              refine wpAnyH_ready (rs := [15]) (by kernel_rfl) (by simp) ?_
              refine AllReadyH.cons (o := ({ dst := some 51, op := Go.Op.call { callee := Go.Callee.value (Go.Operand.func 54), args := #[Go.Operand.tmp 46, Go.Operand.tmp 50], argTypes := #[40, 40] }, type := 4, pos := "skip.go:158", after := #[{ on := 10, ground := Go.Ground.data }, { on := 14, ground := Go.Ground.data }, { on := 6, ground := Go.Ground.chain }, { on := 6, ground := Go.Ground.guard }], guard := some (6, true) } : Go.Oper)) rfl (fun K hK => ?_) AllReadyH.nil
              go_simp
              refine (same_any _ _ nd.x nd'.x _ ?_ ?_).mono ?_; exact HR.out.ext (HE.out.trans (by with_reducible (repeat (first | exact Ext.rfl_ _ | assumption | refine Ext.drew ?_ | refine Ext.drewN ?_ _ | refine Ext.alloc ?_ _ | refine Ext.trans ?_ (by assumption))))); exact HR'.out.ext (HE.out.trans (by with_reducible (repeat (first | exact Ext.rfl_ _ | assumption | refine Ext.drew ?_ | refine Ext.drewN ?_ _ | refine Ext.alloc ?_ _ | refine Ext.trans ?_ (by assumption))))); rintro e w5 ⟨rfl, hw5⟩; rw [show decide (nd.x = nd'.x) = true from decide_eq_true HQ.out]
              (try (go_wp2_with fail))
              refine hK.out _ _ (by (try dsimp only); exact ⟨nod4 HN.out (HE.out.trans (by with_reducible (repeat (first | exact Ext.rfl_ _ | assumption | refine Ext.drew ?_ | refine Ext.drewN ?_ _ | refine Ext.alloc ?_ _ | refine Ext.trans ?_ (by assumption))))), nod4 HN'.out (HE.out.trans (by with_reducible (repeat (first | exact Ext.rfl_ _ | assumption | refine Ext.drew ?_ | refine Ext.drewN ?_ _ | refine Ext.alloc ?_ _ | refine Ext.trans ?_ (by assumption)))))⟩) (fun hHeld => ?_)
              clear hK K
              (try simp only [Act.put, List.getElem_toArray, List.getElem_cons_zero, List.getElem_cons_succ, List.setIfInBounds_toArray, List.set_cons_zero, List.set_cons_succ])
              refine wpAnyH_take (i := 16) (oi := ({ dst := some 52, op := Go.Op.pick (Go.Operand.tmp 42) (Go.Operand.tmp 51) (Go.Operand.const (Go.Value.bool false)), type := 4, pos := "skip.go:158", after := #[{ on := 6, ground := Go.Ground.data }, { on := 15, ground := Go.Ground.data }], guard := none } : Go.Oper)) (v := ?v40) rfl (by kernel_rfl) (by kernel_rfl) (by kernel_rfl) (fun _ _ _ h => h) (Or.inl ⟨by rfl, ?hy40⟩) (by assumption) ?rest40
              case hy40 => (intro w hSw; (try dsimp only at hSw); go_simp; (try with_reducible rfl))
              (try simp only [Act.put, List.getElem_toArray, List.getElem_cons_zero, List.getElem_cons_succ, List.setIfInBounds_toArray, List.set_cons_zero, List.set_cons_succ])
              refine wpAnyH_done (by kernel_rfl) ?_ _
            all_goals
              have X5 := Lib.hid (HE.out.trans (show Ext wr w5 from (by with_reducible (repeat (first | exact Ext.rfl_ _ | assumption | refine Ext.drew ?_ | refine Ext.drewN ?_ _ | refine Ext.alloc ?_ _ | refine Ext.trans ?_ (by assumption))))))
              have c4 : w5.cell? ⟨nd.b, 4, none⟩ = some (nx 0 D) := by
                have := nd_cell ⟨_, _, _, _, rfl⟩ (X5.out.blk HN.out) 0 (by decide)
                rw [nxs, if_pos (show 0 < ht nd.x from (htH_le nd.x.key nd.x.seq).1)] at this
                exact this
              have c4' : w5.cell? ⟨nd'.b, 4, none⟩ = some (nx 0 D') := by
                have := nd_cell ⟨_, _, _, _, rfl⟩ (X5.out.blk HN'.out) 0 (by decide)
                rw [nxs, if_pos (show 0 < ht nd'.x from (htH_le nd'.x.key nd'.x.seq).1)] at this
                exact this
              obtain ⟨p, hp⟩ := nx_ptr 0 D
              obtain ⟨p', hp'⟩ := nx_ptr 0 D'
              rw [hp] at c4
              rw [hp'] at c4'
              have HPP := Lib.hid hp
              have HPP' := Lib.hid hp'
              clear hw5 hp hp'
              go_wp2
              go_region
              all_goals
                go_wp2
                go_roundw
                case rel => exact ⟨C ++ [nd], D, C' ++ [nd'], D', by rw [HL.out]; simp, by rw [HL'.out]; simp, HPP.out.symm, HPP'.out.symm, by rw [List.map_append, List.map_append, HC.out]; simp [HQ.out], X5.out.trans (by with_reducible (repeat (first | exact Ext.rfl_ _ | assumption | refine Ext.drew ?_ | refine Ext.drewN ?_ _ | refine Ext.alloc ?_ _ | refine Ext.trans ?_ (by assumption))))⟩
                case measure => rw [← HPP.out]; exact far_lt HL.out HND.out
          · have hres : decide (L.map Nd.x = L'.map Nd.x) = false := decide_eq_false (by
              rw [HL.out, HL'.out]
              intro e
              rw [List.map_append, List.map_append, HC.out] at e
              have e2 := List.append_cancel_left e
              simp at e2
              exact hq e2.1)
            have HRES := Lib.hid hres
            have HQ := Lib.hid hq
            clear hres hq
            go_wp2
            refine wp_region_held_drew (S := (fun w' => (w'.cell? ⟨nd.b, 0, none⟩ = some (.slice nd.h.A nd.h.n nd.h.c) ∧ w'.cell? ⟨nd.b, 1, none⟩ = some (.int .i64 nd.x.seq) ∧ w'.cell? ⟨nd.b, 2, none⟩ = some (.int .i64 nd.x.kind) ∧ w'.cell? ⟨nd.b, 3, none⟩ = some (.slice nd.h.B nd.h.m nd.h.d)) ∧ w'.cell? ⟨nd'.b, 0, none⟩ = some (.slice nd'.h.A nd'.h.n nd'.h.c) ∧ w'.cell? ⟨nd'.b, 1, none⟩ = some (.int .i64 nd'.x.seq) ∧ w'.cell? ⟨nd'.b, 2, none⟩ = some (.int .i64 nd'.x.kind) ∧ w'.cell? ⟨nd'.b, 3, none⟩ = some (.slice nd'.h.B nd'.h.m nd'.h.d))) (by kernel_rfl) (by (try dsimp only); exact ⟨nod4 HN.out (HE.out.trans (by with_reducible (repeat (first | exact Ext.rfl_ _ | assumption | refine Ext.drew ?_ | refine Ext.drewN ?_ _ | refine Ext.alloc ?_ _ | refine Ext.trans ?_ (by assumption))))), nod4 HN'.out (HE.out.trans (by with_reducible (repeat (first | exact Ext.rfl_ _ | assumption | refine Ext.drew ?_ | refine Ext.drewN ?_ _ | refine Ext.alloc ?_ _ | refine Ext.trans ?_ (by assumption)))))⟩) (fun hHeld => ?_)
            refine wpAnyH_take (i := 0) (oi := ({ dst := some 36, op := Go.Op.move (Go.Operand.tmp 5), type := 63, pos := "skip.go:158", after := #[], guard := none } : Go.Oper)) (v := ?v41) rfl (by kernel_rfl) (by kernel_rfl) (by kernel_rfl) (fun _ _ _ h => h) (Or.inl ⟨by rfl, ?hy41⟩) (by assumption) ?rest41
            case hy41 => (intro w hSw; (try dsimp only at hSw); go_simp; (try with_reducible rfl))
            (try simp only [Act.put, List.getElem_toArray, List.getElem_cons_zero, List.getElem_cons_succ, List.setIfInBounds_toArray, List.set_cons_zero, List.set_cons_succ])
            refine wpAnyH_take (i := 1) (oi := ({ dst := some 37, op := Go.Op.binOp Go.BinOp.neq 63 (Go.Operand.tmp 36) (Go.Operand.const (Go.Value.pointer none)) 63, type := 4, pos := "skip.go:158", after := #[{ on := 0, ground := Go.Ground.data }], guard := none } : Go.Oper)) (v := ?v42) rfl (by kernel_rfl) (by kernel_rfl) (by kernel_rfl) (fun _ _ _ h => h) (Or.inl ⟨by rfl, ?hy42⟩) (by assumption) ?rest42
            case hy42 => (intro w hSw; (try dsimp only at hSw); go_simp; (try with_reducible rfl))
            (try simp only [Act.put, List.getElem_toArray, List.getElem_cons_zero, List.getElem_cons_succ, List.setIfInBounds_toArray, List.set_cons_zero, List.set_cons_succ])
            refine wpAnyH_take (i := 2) (oi := ({ dst := some 38, op := Go.Op.move (Go.Operand.tmp 37), type := 4, pos := "skip.go:158", after := #[{ on := 1, ground := Go.Ground.data }], guard := none } : Go.Oper)) (v := ?v43) rfl (by kernel_rfl) (by kernel_rfl) (by kernel_rfl) (fun _ _ _ h => h) (Or.inl ⟨by rfl, ?hy43⟩) (by assumption) ?rest43
            case hy43 => (intro w hSw; (try dsimp only at hSw); go_simp; (try with_reducible rfl))
            (try simp only [Act.put, List.getElem_toArray, List.getElem_cons_zero, List.getElem_cons_succ, List.setIfInBounds_toArray, List.set_cons_zero, List.set_cons_succ])
            refine wpAnyH_take (i := 3) (oi := ({ dst := some 39, op := Go.Op.move (Go.Operand.tmp 6), type := 63, pos := "skip.go:158", after := #[{ on := 2, ground := Go.Ground.guard }], guard := some (2, true) } : Go.Oper)) (v := ?v44) rfl (by kernel_rfl) (by kernel_rfl) (by kernel_rfl) (fun _ _ _ h => h) (Or.inl ⟨by rfl, ?hy44⟩) (by assumption) ?rest44
            case hy44 => (intro w hSw; (try dsimp only at hSw); go_simp; (try with_reducible rfl))
            (try simp only [Act.put, List.getElem_toArray, List.getElem_cons_zero, List.getElem_cons_succ, List.setIfInBounds_toArray, List.set_cons_zero, List.set_cons_succ])
            refine wpAnyH_take (i := 4) (oi := ({ dst := some 40, op := Go.Op.binOp Go.BinOp.neq 63 (Go.Operand.tmp 39) (Go.Operand.const (Go.Value.pointer none)) 63, type := 4, pos := "skip.go:158", after := #[{ on := 3, ground := Go.Ground.data }, { on := 2, ground := Go.Ground.guard }], guard := some (2, true) } : Go.Oper)) (v := ?v45) rfl (by kernel_rfl) (by kernel_rfl) (by kernel_rfl) (fun _ _ _ h => h) (Or.inl ⟨by rfl, ?hy45⟩) (by assumption) ?rest45
            case hy45 => (intro w hSw; (try dsimp only at hSw); go_simp; (try with_reducible rfl))
            (try simp only [Act.put, List.getElem_toArray, List.getElem_cons_zero, List.getElem_cons_succ, List.setIfInBounds_toArray, List.set_cons_zero, List.set_cons_succ])
            refine wpAnyH_take (i := 5) (oi := ({ dst := some 41, op := Go.Op.pick (Go.Operand.tmp 38) (Go.Operand.tmp 40) (Go.Operand.const (Go.Value.bool false)), type := 4, pos := "skip.go:158", after := #[{ on := 2, ground := Go.Ground.data }, { on := 4, ground := Go.Ground.data }], guard := none } : Go.Oper)) (v := ?v46) rfl (by kernel_rfl) (by kernel_rfl) (by kernel_rfl) (fun _ _ _ h => h) (Or.inl ⟨by rfl, ?hy46⟩) (by assumption) ?rest46
            case hy46 => (intro w hSw; (try dsimp only at hSw); go_simp; (try with_reducible rfl))
            (try simp only [Act.put, List.getElem_toArray, List.getElem_cons_zero, List.getElem_cons_succ, List.setIfInBounds_toArray, List.set_cons_zero, List.set_cons_succ])
            refine wpAnyH_take (i := 6) (oi := ({ dst := some 42, op := Go.Op.move (Go.Operand.tmp 41), type := 4, pos := "skip.go:158", after := #[{ on := 5, ground := Go.Ground.data }, { on := 2, ground := Go.Ground.chain }], guard := none } : Go.Oper)) (v := ?v47) rfl (by kernel_rfl) (by kernel_rfl) (by kernel_rfl) (fun _ _ _ h => h) (Or.inl ⟨by rfl, ?hy47⟩) (by assumption) ?rest47
            case hy47 => (intro w hSw; (try dsimp only at hSw); go_simp; (try with_reducible rfl))
            (try simp only [Act.put, List.getElem_toArray, List.getElem_cons_zero, List.getElem_cons_succ, List.setIfInBounds_toArray, List.set_cons_zero, List.set_cons_succ])
            refine wpAnyH_take (i := 7) (oi := ({ dst := some 43, op := Go.Op.move (Go.Operand.tmp 5), type := 63, pos := "skip.go:158", after := #[{ on := 6, ground := Go.Ground.guard }], guard := some (6, true) } : Go.Oper)) (v := ?v48) rfl (by kernel_rfl) (by kernel_rfl) (by kernel_rfl) (fun _ _ _ h => h) (Or.inl ⟨by rfl, ?hy48⟩) (by assumption) ?rest48
            case hy48 => (intro w hSw; (try dsimp only at hSw); go_simp; (try with_reducible rfl))
            (try simp only [Act.put, List.getElem_toArray, List.getElem_cons_zero, List.getElem_cons_succ, List.setIfInBounds_toArray, List.set_cons_zero, List.set_cons_succ])
            refine wpAnyH_take (i := 11) (oi := ({ dst := some 47, op := Go.Op.move (Go.Operand.tmp 6), type := 63, pos := "skip.go:158", after := #[{ on := 6, ground := Go.Ground.guard }], guard := some (6, true) } : Go.Oper)) (v := ?v49) rfl (by kernel_rfl) (by kernel_rfl) (by kernel_rfl) (fun _ _ _ h => h) (Or.inl ⟨by rfl, ?hy49⟩) (by assumption) ?rest49
            case hy49 => (intro w hSw; (try dsimp only at hSw); go_simp; (try with_reducible rfl))
            (try simp only [Act.put, List.getElem_toArray, List.getElem_cons_zero, List.getElem_cons_succ, List.setIfInBounds_toArray, List.set_cons_zero, List.set_cons_succ])
            refine wpAnyH_ready (rs := [8, 12]) (by kernel_rfl) (by simp) ?_
            refine AllReadyH.cons (o := ({ dst := some 44, op := Go.Op.nilCheck (Go.Operand.tmp 43), type := 0, pos := "skip.go:158", after := #[{ on := 7, ground := Go.Ground.data }, { on := 6, ground := Go.Ground.guard }], guard := some (6, true) } : Go.Oper)) rfl (fun K hK => ?one50) ?more50
            case' one50 =>
              go_simp
              refine hK.out _ _ (by (try dsimp only); exact ⟨nod4 HN.out (HE.out.trans (by with_reducible (repeat (first | exact Ext.rfl_ _ | assumption | refine Ext.drew ?_ | refine Ext.drewN ?_ _ | refine Ext.alloc ?_ _ | refine Ext.trans ?_ (by assumption))))), nod4 HN'.out (HE.out.trans (by with_reducible (repeat (first | exact Ext.rfl_ _ | assumption | refine Ext.drew ?_ | refine Ext.drewN ?_ _ | refine Ext.alloc ?_ _ | refine Ext.trans ?_ (by assumption)))))⟩) (fun hHeld => ?_)
              clear hK K
              (try simp only [Act.put, List.getElem_toArray, List.getElem_cons_zero, List.getElem_cons_succ, List.setIfInBounds_toArray, List.set_cons_zero, List.set_cons_succ])
              refine wpAnyH_take (i := 9) (oi := ({ dst := some 45, op := Go.Op.fieldAddr 79 (Go.Operand.tmp 44) 0, type := 0, pos := "skip.go:158", after := #[{ on := 8, ground := Go.Ground.data }, { on := 6, ground := Go.Ground.guard }], guard := some (6, true) } : Go.Oper)) (v := ?v51) rfl (by kernel_rfl) (by kernel_rfl) (by kernel_rfl) (fun _ _ _ h => h) (Or.inl ⟨by rfl, ?hy51⟩) (by assumption) ?rest51
              case hy51 => (intro w hSw; (try dsimp only at hSw); go_simp; (try with_reducible rfl))
              (try simp only [Act.put, List.getElem_toArray, List.getElem_cons_zero, List.getElem_cons_succ, List.setIfInBounds_toArray, List.set_cons_zero, List.set_cons_succ])
              refine wpAnyH_take (i := 10) (oi := ({ dst := some 46, op := Go.Op.load 40 (Go.Operand.tmp 45), type := 40, pos := "skip.go:158", after := #[{ on := 9, ground := Go.Ground.data }, { on := 6, ground := Go.Ground.guard }], guard := some (6, true) } : Go.Oper)) (v := ?v52) rfl (by kernel_rfl) (by kernel_rfl) (by kernel_rfl) (fun _ _ _ h => h) (Or.inl ⟨by rfl, ?hy52⟩) (by assumption) ?rest52
              case hy52 => (intro w hSw; (try dsimp only at hSw); go_simp; (try with_reducible rfl))
              (try simp only [Act.put, List.getElem_toArray, List.getElem_cons_zero, List.getElem_cons_succ, List.setIfInBounds_toArray, List.set_cons_zero, List.set_cons_succ])
              refine wpAnyH_ready (rs := [12]) (by kernel_rfl) (by simp) ?_
              refine AllReadyH.cons (o := ({ dst := some 48, op := Go.Op.nilCheck (Go.Operand.tmp 47), type := 0, pos := "skip.go:158", after := #[{ on := 11, ground := Go.Ground.data }, { on := 6, ground := Go.Ground.guard }], guard := some (6, true) } : Go.Oper)) rfl (fun K hK => ?_) AllReadyH.nil
              go_simp
              refine hK.out _ _ (by (try dsimp only); exact ⟨nod4 HN.out (HE.out.trans (by with_reducible (repeat (first | exact Ext.rfl_ _ | assumption | refine Ext.drew ?_ | refine Ext.drewN ?_ _ | refine Ext.alloc ?_ _ | refine Ext.trans ?_ (by assumption))))), nod4 HN'.out (HE.out.trans (by with_reducible (repeat (first | exact Ext.rfl_ _ | assumption | refine Ext.drew ?_ | refine Ext.drewN ?_ _ | refine Ext.alloc ?_ _ | refine Ext.trans ?_ (by assumption)))))⟩) (fun hHeld => ?_)
              clear hK K
              (try simp only [Act.put, List.getElem_toArray, List.getElem_cons_zero, List.getElem_cons_succ, List.setIfInBounds_toArray, List.set_cons_zero, List.set_cons_succ])
              refine wpAnyH_take (i := 13) (oi := ({ dst := some 49, op := Go.Op.fieldAddr 79 (Go.Operand.tmp 48) 0, type := 0, pos := "skip.go:158", after := #[{ on := 12, ground := Go.Ground.data }, { on := 6, ground := Go.Ground.guard }], guard := some (6, true) } : Go.Oper)) (v := ?v53) rfl (by kernel_rfl) (by kernel_rfl) (by kernel_rfl) (fun _ _ _ h => h) (Or.inl ⟨by rfl, ?hy53⟩) (by assumption) ?rest53
              case hy53 => (intro w hSw; (try dsimp only at hSw); go_simp; (try with_reducible rfl))
              (try simp only [Act.put, List.getElem_toArray, List.getElem_cons_zero, List.getElem_cons_succ, List.setIfInBounds_toArray, List.set_cons_zero, List.set_cons_succ])
              refine wpAnyH_take (i := 14) (oi := ({ dst := some 50, op := Go.Op.load 40 (Go.Operand.tmp 49), type := 40, pos := "skip.go:158", after := #[{ on := 13, ground := Go.Ground.data }, { on := 6, ground := Go.Ground.guard }], guard := some (6, true) } : Go.Oper)) (v := ?v54) rfl (by kernel_rfl) (by kernel_rfl) (by kernel_rfl) (fun _ _ _ h => h) (Or.inl ⟨by rfl, ?hy54⟩) (by assumption) ?rest54
              case hy54 => (intro w hSw; (try dsimp only at hSw); go_simp; (try with_reducible rfl))
              (try simp only [Act.put, List.getElem_toArray, List.getElem_cons_zero, List.getElem_cons_succ, List.setIfInBounds_toArray, List.set_cons_zero, List.set_cons_succ])
              refine wpAnyH_ready (rs := [15]) (by kernel_rfl) (by simp) ?_
              refine AllReadyH.cons (o := ({ dst := some 51, op := Go.Op.call { callee := Go.Callee.value (Go.Operand.func 54), args := #[Go.Operand.tmp 46, Go.Operand.tmp 50], argTypes := #[40, 40] }, type := 4, pos := "skip.go:158", after := #[{ on := 10, ground := Go.Ground.data }, { on := 14, ground := Go.Ground.data }, { on := 6, ground := Go.Ground.chain }, { on := 6, ground := Go.Ground.guard }], guard := some (6, true) } : Go.Oper)) rfl (fun K hK => ?_) AllReadyH.nil
              go_simp
              refine (same_any _ _ nd.x nd'.x _ ?_ ?_).mono ?_; exact HR.out.ext (HE.out.trans (by with_reducible (repeat (first | exact Ext.rfl_ _ | assumption | refine Ext.drew ?_ | refine Ext.drewN ?_ _ | refine Ext.alloc ?_ _ | refine Ext.trans ?_ (by assumption))))); exact HR'.out.ext (HE.out.trans (by with_reducible (repeat (first | exact Ext.rfl_ _ | assumption | refine Ext.drew ?_ | refine Ext.drewN ?_ _ | refine Ext.alloc ?_ _ | refine Ext.trans ?_ (by assumption))))); rintro e w5 ⟨rfl, hw5⟩; rw [show decide (nd.x = nd'.x) = false from decide_eq_false HQ.out]
              (try (go_wp2_with fail))
              refine hK.out _ _ (by (try dsimp only); exact ⟨nod4 HN.out (HE.out.trans (by with_reducible (repeat (first | exact Ext.rfl_ _ | assumption | refine Ext.drew ?_ | refine Ext.drewN ?_ _ | refine Ext.alloc ?_ _ | refine Ext.trans ?_ (by assumption))))), nod4 HN'.out (HE.out.trans (by with_reducible (repeat (first | exact Ext.rfl_ _ | assumption | refine Ext.drew ?_ | refine Ext.drewN ?_ _ | refine Ext.alloc ?_ _ | refine Ext.trans ?_ (by assumption)))))⟩) (fun hHeld => ?_)
              clear hK K
              (try simp only [Act.put, List.getElem_toArray, List.getElem_cons_zero, List.getElem_cons_succ, List.setIfInBounds_toArray, List.set_cons_zero, List.set_cons_succ])
              refine wpAnyH_take (i := 16) (oi := ({ dst := some 52, op := Go.Op.pick (Go.Operand.tmp 42) (Go.Operand.tmp 51) (Go.Operand.const (Go.Value.bool false)), type := 4, pos := "skip.go:158", after := #[{ on := 6, ground := Go.Ground.data }, { on := 15, ground := Go.Ground.data }], guard := none } : Go.Oper)) (v := ?v55) rfl (by kernel_rfl) (by kernel_rfl) (by kernel_rfl) (fun _ _ _ h => h) (Or.inl ⟨by rfl, ?hy55⟩) (by assumption) ?rest55
              case hy55 => (intro w hSw; (try dsimp only at hSw); go_simp; (try with_reducible rfl))
              (try simp only [Act.put, List.getElem_toArray, List.getElem_cons_zero, List.getElem_cons_succ, List.setIfInBounds_toArray, List.set_cons_zero, List.set_cons_succ])
              refine wpAnyH_done (by kernel_rfl) ?_ _
            case' more50 =>
              refine AllReadyH.cons (o := ({ dst := some 48, op := Go.Op.nilCheck (Go.Operand.tmp 47), type := 0, pos := "skip.go:158", after := #[{ on := 11, ground := Go.Ground.data }, { on := 6, ground := Go.Ground.guard }], guard := some (6, true) } : Go.Oper)) rfl (fun K hK => ?_) AllReadyH.nil
              go_simp
              refine hK.out _ _ (by (try dsimp only); exact ⟨nod4 HN.out (HE.out.trans (by with_reducible (repeat (first | exact Ext.rfl_ _ | assumption | refine Ext.drew ?_ | refine Ext.drewN ?_ _ | refine Ext.alloc ?_ _ | refine Ext.trans ?_ (by assumption))))), nod4 HN'.out (HE.out.trans (by with_reducible (repeat (first | exact Ext.rfl_ _ | assumption | refine Ext.drew ?_ | refine Ext.drewN ?_ _ | refine Ext.alloc ?_ _ | refine Ext.trans ?_ (by assumption)))))⟩) (fun hHeld => ?_)
              clear hK K
              (try simp only [Act.put, List.getElem_toArray, List.getElem_cons_zero, List.getElem_cons_succ, List.setIfInBounds_toArray, List.set_cons_zero, List.set_cons_succ])
              refine wpAnyH_take (i := 13) (oi := ({ dst := some 49, op := Go.Op.fieldAddr 79 (Go.Operand.tmp 48) 0, type := 0, pos := "skip.go:158", after := #[{ on := 12, ground := Go.Ground.data }, { on := 6, ground := Go.Ground.guard }], guard := some (6, true) } : Go.Oper)) (v := ?v56) rfl (by kernel_rfl) (by kernel_rfl) (by kernel_rfl) (fun _ _ _ h => h) (Or.inl ⟨by rfl, ?hy56⟩) (by assumption) ?rest56
              case hy56 => (intro w hSw; (try dsimp only at hSw); go_simp; (try with_reducible rfl))
              (try simp only [Act.put, List.getElem_toArray, List.getElem_cons_zero, List.getElem_cons_succ, List.setIfInBounds_toArray, List.set_cons_zero, List.set_cons_succ])
              refine wpAnyH_take (i := 14) (oi := ({ dst := some 50, op := Go.Op.load 40 (Go.Operand.tmp 49), type := 40, pos := "skip.go:158", after := #[{ on := 13, ground := Go.Ground.data }, { on := 6, ground := Go.Ground.guard }], guard := some (6, true) } : Go.Oper)) (v := ?v57) rfl (by kernel_rfl) (by kernel_rfl) (by kernel_rfl) (fun _ _ _ h => h) (Or.inl ⟨by rfl, ?hy57⟩) (by assumption) ?rest57
              case hy57 => (intro w hSw; (try dsimp only at hSw); go_simp; (try with_reducible rfl))
              (try simp only [Act.put, List.getElem_toArray, List.getElem_cons_zero, List.getElem_cons_succ, List.setIfInBounds_toArray, List.set_cons_zero, List.set_cons_succ])
              refine wpAnyH_ready (rs := [8]) (by kernel_rfl) (by simp) ?_
              refine AllReadyH.cons (o := ({ dst := some 44, op := Go.Op.nilCheck (Go.Operand.tmp 43), type := 0, pos := "skip.go:158", after := #[{ on := 7, ground := Go.Ground.data }, { on := 6, ground := Go.Ground.guard }], guard := some (6, true) } : Go.Oper)) rfl (fun K hK => ?_) AllReadyH.nil
              go_simp
              refine hK.out _ _ (by (try dsimp only); exact ⟨nod4 HN.out (HE.out.trans (by with_reducible (repeat (first | exact Ext.rfl_ _ | assumption | refine Ext.drew ?_ | refine Ext.drewN ?_ _ | refine Ext.alloc ?_ _ | refine Ext.trans ?_ (by assumption))))), nod4 HN'.out (HE.out.trans (by with_reducible (repeat (first | exact Ext.rfl_ _ | assumption | refine Ext.drew ?_ | refine Ext.drewN ?_ _ | refine Ext.alloc ?_ _ | refine Ext.trans ?_ (by assumption)))))⟩) (fun hHeld => ?_)
              clear hK K
              (try simp only [Act.put, List.getElem_toArray, List.getElem_cons_zero, List.getElem_cons_succ, List.setIfInBounds_toArray, List.set_cons_zero, List.set_cons_succ])
              refine wpAnyH_take (i := 9) (oi := ({ dst := some 45, op := Go.Op.fieldAddr 79 (Go.Operand.tmp 44) 0, type := 0, pos := "skip.go:158", after := #[{ on := 8, ground := Go.Ground.data }, { on := 6, ground := Go.Ground.guard }], guard := some (6, true) } : Go.Oper)) (v := ?v58) rfl (by kernel_rfl) (by kernel_rfl) (by kernel_rfl) (fun _ _ _ h => h) (Or.inl ⟨by rfl, ?hy58⟩) (by assumption) ?rest58
              case hy58 => (intro w hSw; (try dsimp only at hSw); go_simp; (try with_reducible rfl))
              (try simp only [Act.put, List.getElem_toArray, List.getElem_cons_zero, List.getElem_cons_succ, List.setIfInBounds_toArray, List.set_cons_zero, List.set_cons_succ])
              refine wpAnyH_take (i := 10) (oi := ({ dst := some 46, op := Go.Op.load 40 (Go.Operand.tmp 45), type := 40, pos := "skip.go:158", after := #[{ on := 9, ground := Go.Ground.data }, { on := 6, ground := Go.Ground.guard }], guard := some (6, true) } : Go.Oper)) (v := ?v59) rfl (by kernel_rfl) (by kernel_rfl) (by kernel_rfl) (fun _ _ _ h => h) (Or.inl ⟨by rfl, ?hy59⟩) (by assumption) ?rest59
              case hy59 => (intro w hSw; (try dsimp only at hSw); go_simp; (try with_reducible rfl))
              (try simp only [Act.put, List.getElem_toArray, List.getElem_cons_zero, List.getElem_cons_succ, List.setIfInBounds_toArray, List.set_cons_zero, List.set_cons_succ])
              refine wpAnyH_ready (rs := [15]) (by kernel_rfl) (by simp) ?_
              refine AllReadyH.cons (o := ({ dst := some 51, op := Go.Op.call { callee := Go.Callee.value (Go.Operand.func 54), args := #[Go.Operand.tmp 46, Go.Operand.tmp 50], argTypes := #[40, 40] }, type := 4, pos := "skip.go:158", after := #[{ on := 10, ground := Go.Ground.data }, { on := 14, ground := Go.Ground.data }, { on := 6, ground := Go.Ground.chain }, { on := 6, ground := Go.Ground.guard }], guard := some (6, true) } : Go.Oper)) rfl (fun K hK => ?_) AllReadyH.nil
              go_simp
              refine (same_any _ _ nd.x nd'.x _ ?_ ?_).mono ?_; exact HR.out.ext (HE.out.trans (by with_reducible (repeat (first | exact Ext.rfl_ _ | assumption | refine Ext.drew ?_ | refine Ext.drewN ?_ _ | refine Ext.alloc ?_ _ | refine Ext.trans ?_ (by assumption))))); exact HR'.out.ext (HE.out.trans (by with_reducible (repeat (first | exact Ext.rfl_ _ | assumption | refine Ext.drew ?_ | refine Ext.drewN ?_ _ | refine Ext.alloc ?_ _ | refine Ext.trans ?_ (by assumption))))); rintro e w5 ⟨rfl, hw5⟩; rw [show decide (nd.x = nd'.x) = false from decide_eq_false HQ.out]
              (try (go_wp2_with fail))
              refine hK.out _ _ (by (try dsimp only); exact ⟨nod4 HN.out (HE.out.trans (by with_reducible (repeat (first | exact Ext.rfl_ _ | assumption | refine Ext.drew ?_ | refine Ext.drewN ?_ _ | refine Ext.alloc ?_ _ | refine Ext.trans ?_ (by assumption))))), nod4 HN'.out (HE.out.trans (by with_reducible (repeat (first | exact Ext.rfl_ _ | assumption | refine Ext.drew ?_ | refine Ext.drewN ?_ _ | refine Ext.alloc ?_ _ | refine Ext.trans ?_ (by assumption)))))⟩) (fun hHeld => ?_)
              clear hK K
              (try simp only [Act.put, List.getElem_toArray, List.getElem_cons_zero, List.getElem_cons_succ, List.setIfInBounds_toArray, List.set_cons_zero, List.set_cons_succ])
              refine wpAnyH_take (i := 16) (oi := ({ dst := some 52, op := Go.Op.pick (Go.Operand.tmp 42) (Go.Operand.tmp 51) (Go.Operand.const (Go.Value.bool false)), type := 4, pos := "skip.go:158", after := #[{ on := 6, ground := Go.Ground.data }, { on := 15, ground := Go.Ground.data }], guard := none } : Go.Oper)) (v := ?v60) rfl (by kernel_rfl) (by kernel_rfl) (by kernel_rfl) (fun _ _ _ h => h) (Or.inl ⟨by rfl, ?hy60⟩) (by assumption) ?rest60
              case hy60 => (intro w hSw; (try dsimp only at hSw); go_simp; (try with_reducible rfl))
              (try simp only [Act.put, List.getElem_toArray, List.getElem_cons_zero, List.getElem_cons_succ, List.setIfInBounds_toArray, List.set_cons_zero, List.set_cons_succ])
              refine wpAnyH_done (by kernel_rfl) ?_ _
            all_goals
              go_wp2
              go_ret
              exact ⟨ret_bool HRES.out.symm, HE.out.trans (by with_reducible (repeat (first | exact Ext.rfl_ _ | assumption | refine Ext.drew ?_ | refine Ext.drewN ?_ _ | refine Ext.alloc ?_ _ | refine Ext.trans ?_ (by assumption))))⟩

theorem newz_any (w : World) :
    Calls Try.prog 34 #[] w fun e w' => e = .returned (.pointer (some ⟨w.heap.size + 1, 0, none⟩)) ∧ SkL w' (w.heap.size + 1) w.heap.size [] ∧ Ext w w' ∧ w'.heap.size = w.heap.size + 2 := by
  go_enter Try.func34, Try.ntmps34
  go_wp2
  go_ret
  have hb := two_new w (ndObj hd0 (nxs 8 [])) (liObj w.heap.size 0 0)
  exact ⟨rfl, ⟨hb.2, ⟨hb.1, fun A nd B e => by simp at e, fun nd hm => by simp at hm, by simp⟩, by simp, fun nd hm => by simp at hm⟩, (by with_reducible (repeat (first | exact Ext.rfl_ _ | assumption | refine Ext.drew ?_ | refine Ext.drewN ?_ _ | refine Ext.alloc ?_ _ | refine Ext.trans ?_ (by assumption)))), by simp⟩

theorem nil_not (y : Bs) : ¬ cmpK y [] < 0 := by
  have h := cmpK_anti [] y
  rw [cmpK_nil] at h
  split at h <;> omega

/-- Where the copy may lie. -/
def copU (z : Nat) (T : Nat → Prop) (k : Nat) : Prop := k = z ∨ k = z + 1 ∨ (z + 7 ≤ k ∧ ¬ T k)

structure CopI (w : World) (pre : List Ent) (T : Nat → Prop) (Wc : World) : Prop where
  box : Wc.cell? ⟨w.heap.size + 2, 0, none⟩ = some (.pointer (some ⟨w.heap.size + 1, 0, none⟩))
  sk : ∃ L', L'.map Nd.x = pre ∧ SkL Wc (w.heap.size + 1) w.heap.size L' ∧ SkB (copU w.heap.size T) L' ∧ ∀ b, skT (w.heap.size + 1) w.heap.size L' b → copU w.heap.size T b
  ext : Ext w Wc
  size : w.heap.size + 5 ≤ Wc.heap.size
  t : ∀ k, T k → w.heap.size + 5 ≤ k

theorem CopI.kept {w : World} {pre : List Ent} {T T' : Nat → Prop} {Wc W' : World} (h : CopI w pre T Wc) {X : Nat → Prop} (k : Kept X Wc W')
    (hx : ∀ k, copU w.heap.size T k ∨ k < w.heap.size + 5 ∧ ¬ T k → X k) (ht : ∀ k, T' k → T k ∨ Wc.heap.size ≤ k) : CopI w pre T' W' := by
  obtain ⟨b, ⟨L', e, s, hb, hu⟩, x, z, t⟩ := h
  have nt : ∀ k, k < w.heap.size + 5 → ¬ T k := fun k hk h => by have := t k h; omega
  have up : ∀ k, k < Wc.heap.size → copU w.heap.size T k → copU w.heap.size T' k := by
    intro k hk h
    rcases h with h | h | ⟨h, h'⟩
    · exact .inl h
    · exact .inr (.inl h)
    · exact .inr (.inr ⟨h, fun h2 => (ht k h2).elim h' (fun h3 => by omega)⟩)
  refine ⟨k.cell b (hx _ (.inr ⟨by simp, nt _ (by simp)⟩)), ⟨L', e, s.kept2 k (fun nd hm => ⟨fun h a ha => hx _ (.inl ((hb nd hm).1 h a ha)), fun h a ha => hx _ (.inl ((hb nd hm).2 h a ha))⟩) (fun b hb => hx _ (.inl (hu b hb))), ?_, ?_⟩, ?_, Nat.le_trans z k.size, ?_⟩
  · intro nd hm
    exact ⟨fun h a ha => up _ ((s.byt nd hm).1 h a ha) ((hb nd hm).1 h a ha), fun h a ha => up _ ((s.byt nd hm).2 h a ha) ((hb nd hm).2 h a ha)⟩
  · intro b hbT
    exact up _ (s.lt b hbT) (hu b hbT)
  · exact k.ext_of x (fun j hj => hx _ (.inr ⟨by omega, nt _ (by omega)⟩))
  · intro j hj
    rcases ht j hj with h | h
    · exact t j h
    · omega
theorem CopI.ab (w : World) : AbI (w.heap.size + 5) (CopI w) := by
  intro pre T T' Wc W' h hk hs hn
  refine h.kept hk ?_ hn
  rintro k ((h | h | h) | h)
  · exact ⟨fun h' => by have := hk.size; have := ‹CopI w pre T Wc›.t k h'; omega, by omega, by omega⟩
  · exact ⟨fun h' => by have := hk.size; have := ‹CopI w pre T Wc›.t k h'; omega, by omega, by omega⟩
  · exact ⟨h.2, by omega, by omega⟩
  · exact ⟨h.2, by omega, by omega⟩

set_option maxRecDepth 100000 in
set_option maxHeartbeats 4000000 in
theorem skcopy_any (g h : Nat) (L : List Nd) (w : World) (s : SkL w g h L) (hlen : L.length ≤ 100000) :
    Calls Try.prog 31 #[.pointer (some ⟨g, 0, none⟩)] w fun e w' => ∃ g' h' L', e = .returned (.pointer (some ⟨g', 0, none⟩)) ∧ L'.map Nd.x = L.map Nd.x ∧ SkL w' g' h' L' ∧ Ext w w' ∧ ∀ b, skT g' h' L' b → w.heap.size ≤ b := by
  have HS := Lib.hid s
  have HUP := Lib.hid s.up
  have HLEN := Lib.hid hlen
  clear s hlen
  refine (callsIn_wide (n := 3)).1 ?_
  refine callsIn_of_wp_marks Try.func31 rfl trivial ?_ rfl
  simp only [Try.ntmps31, List.size_toArray, List.length_cons, List.length_nil, Nat.reduceAdd, Nat.reduceSub, Array.replicate_succ, Array.replicate_zero, List.push_toArray, List.append_toArray, List.nil_append, List.cons_append]
  gi_wp2
  refine ⟨trivial, ?_⟩
  refine (callsIn_wide.2 (there_any g h L w HS.out)).mono ?_
  rintro e w1 ⟨rfl, hw1⟩
  rw [hw1]
  clear hw1
  gi_wp2
  refine ⟨trivial, ?_⟩
  refine (callsIn_wide.2 (newz_any w)).mono ?_
  rintro e w2 ⟨rfl, hs2, hx2, hz2⟩
  have HS2 := Lib.hid hs2
  have HX2 := Lib.hid hx2
  have HZ2 := Lib.hid hz2
  clear hs2 hx2 hz2
  gi_wp2
  refine ⟨trivial, ?_⟩
  refine (callsIn_wide.2 (from_any g none 0 0 _)).mono ?_
  rintro e w4 ⟨rfl, hw4⟩
  have hz4 : w4.heap.size = w.heap.size + 5 := by rw [hw4]; simp [HZ2.out]
  have hW3 : ∃ W3, W3 = w2.alloc (.cells #[.pointer (some ⟨w.heap.size + 1, 0, none⟩)] 28) := ⟨_, rfl⟩
  obtain ⟨W3, hW3⟩ := hW3
  have z3 : W3.heap.size = w.heap.size + 3 := by rw [hW3, World.size_alloc, HZ2.out]
  have x3 : Ext w2 W3 := by rw [hW3]; exact Ext.alloc (Ext.rfl_ _) _
  have x4 : Ext W3 w4 := by rw [hw4, ← hW3]; exact Ext.alloc (Ext.alloc (Ext.rfl_ _) _) _
  have q2 := (cnew w2 (.pointer (some ⟨w.heap.size + 1, 0, none⟩)) 28).1
  rw [← hW3, HZ2.out] at q2
  rw [← hW3] at hw4
  have h0 := cnew W3 (.pointer (some ⟨g, 0, none⟩)) 28
  have h1 := cnew (W3.alloc (.cells #[.pointer (some ⟨g, 0, none⟩)] 28)) (.slice none 0 0) 22
  rw [← hw4, World.size_alloc, z3] at h1
  have h0' := (show Ext (W3.alloc (.cells #[.pointer (some ⟨g, 0, none⟩)] 28)) w4 by rw [hw4]; exact Ext.alloc (Ext.rfl_ _) _).keeps _ _ _ h0.1
  rw [z3] at h0'
  rw [← hW3, z3]
  have c2 := x4.keeps _ _ _ q2
  have h1' := h1.1
  have xw4 : Ext w w4 := HX2.out.trans (x3.trans x4)
  have s4 := HS2.out.ext (x3.trans x4)
  clear hw4 hW3 x3 x4 q2 h0 h1 z3
  rw [HZ2.out]
  gi_wp2
  refine range_law (gf := 42) (lb := #[.pointer (some ⟨w.heap.size + 3, 0, none⟩), .pointer (some ⟨w.heap.size + 3 + 1, 0, none⟩)]) rfl (enters_of Try.func42 (by kernel_rfl) rfl)
    (from1_seq g h (w.heap.size + 3) (w.heap.size + 3 + 1) L [] L none 0 0 [] (fun k => k = w.heap.size ∨ k = w.heap.size + 1) w w4 HS.out ?_ rfl (fun nd h => by simp at h) ?_ xw4 ?_ h0' h1') ?_ ?_ ?_
    (CopI w) (fun _ _ _ _ => False) ?_ ?_ ?_ ?_ ?_ ?_
  · exact Rd.nil _ _
  · intro nd _; exact nil_not _
  · rintro k (rfl | rfl) <;> omega
  · exact Ext.rfl_ _
  · rintro x vs W ⟨v, rfl, _⟩; rfl
  · rintro k (rfl | rfl) <;> omega
  · rw [hz4]; exact CopI.ab w
  · intro _ _ _ _ _ _ h; exact h.elim
  · refine ⟨c2, ⟨[], rfl, s4, fun nd h => by simp at h, ?_⟩, xw4, by omega, fun _ h => h.elim⟩
    rintro b (rfl | rfl | h)
    · exact .inr (.inl rfl)
    · exact .inl rfl
    · simp at h
  · rintro l2 m pre x vs T Wc rfl hI hpre ⟨v, rfl, hrd⟩ hT hz hlo
    rw [hz4] at hT hz hlo
    have HE := Lib.hid hrd
    obtain ⟨B, nb, cb, B', nb', cb', rfl, _⟩ := hrd
    simp only [List.zip_toArray, List.zip_cons_cons, List.zip_nil_right, List.foldl_toArray', List.foldl_cons, List.foldl_nil]
    have hI0 := Lib.hid hI
    have HPRE := Lib.hid hpre
    clear hI hpre c2 h0' h1' xw4 s4
    gi_wp2
    have xb : Ext Wc (Wc.alloc (.cells #[.slice B nb cb, .int .i64 x.seq, .int .i64 x.kind, .slice B' nb' cb'] 40)) := (by with_reducible (repeat (first | exact Ext.rfl_ _ | assumption | refine Ext.drew ?_ | refine Ext.drewN ?_ _ | refine Ext.alloc ?_ _ | refine Ext.trans ?_ (by assumption))))
    refine ⟨xb, fun W2 kp2 => ?_⟩
    rw [hz4] at kp2
    have hbx := kp2.block Wc.heap.size (by simp) (by omega)
    rw [blk1] at hbx
    have hnt : ∀ k, T k → T k ∨ Wc.heap.size ≤ k := fun _ h => .inl h
    have hI2 := (hI0.out.kept (T' := T) (Kept.of_ext (X := fun _ => True) xb) (fun _ _ => trivial) (fun _ h => .inl h)).kept (T' := T) kp2 (fun k hk => by
      rcases hk with (h | h | h) | h <;> omega) (fun _ h => .inl h)
    have hlo2 : ∃ r, (Wc.alloc (.cells #[.slice B nb cb, .int .i64 x.seq, .int .i64 x.kind, .slice B' nb' cb'] 40)).heap[w.heap.size + 5 + 1]? = some (.loop r) := hlo.imp fun r h => ((Ext.below xb).block _ (Array.getElem?_eq_some_iff.1 h).1).trans h
    have hE2 := (HE.out.ext xb).kept kp2 hlo2
    have hz2 : Wc.heap.size ≤ W2.heap.size := Nat.le_trans (Ext.size xb) kp2.size
    obtain ⟨r0, r1, r2, r3, _, _, _, _⟩ := box4 hbx (Ext.rfl_ W2)
    obtain ⟨c2, ⟨L', hL', sL', hB', hU'⟩, i3, i4, i5⟩ := id hI2
    have H2 := Lib.hid hI2
    have HE2 := Lib.hid hE2
    have HB' := Lib.hid hB'
    have HU' := Lib.hid hU'
    have HS' := Lib.hid sL'
    clear hI2 hE2 hbx kp2 xb hlo hlo2 HE hB' hU' sL'
    gi_wp2
    have hlt : L'.length < L.length := by
      have h1 := HPRE.out.length_le
      have h2 := congrArg List.length hL'
      simp at h1 h2
      omega
    have hmem : x ∈ L.map Nd.x := HPRE.out.subset (by simp)
    have hmay : mayE x = true := by
      obtain ⟨nd, h1, rfl⟩ := List.mem_map.1 hmem
      exact HS.out.may nd h1
    have hah : ∀ a ∈ L', cmpE a.x x < 0 := by
      intro a ha
      have h1 := HUP.out.sublist HPRE.out.sublist
      rw [List.pairwise_append] at h1
      exact h1.2.2 a.x (by rw [← hL']; exact List.mem_map_of_mem ha) x (by simp)
    refine ⟨trivial, fun h => (by simp [Fence.wide] at h), ?_⟩
    refine (CallsIn.inRound _ (callsIn_wide.2 (skput_end _ _ L' _ x _ (by simpa using HS'.out) HE2.out hmay hah (fun b h => by simp at h) (by have := HLEN.out; simp; omega)))).mono ?_
    rintro e w3 ⟨rfl, new, rfl, hn1, hs3, hk3, hA3, hB3⟩
    have hk3' : Kept (fun k => ¬ skT (w.heap.size + 1) w.heap.size L' k) W2 w3 := by simpa using hk3
    clear hk3
    gi_wp2
    have hiU : ∀ {b : Nat}, W2.heap.size ≤ b → copU w.heap.size T b := fun {b} hb => .inr (.inr ⟨by omega, fun h => by have := hT b h; omega⟩)
    have hne : ∀ k, k < w.heap.size + 5 → ¬ T k := fun k hk h => by have := i5 k h; omega
    refine ⟨⟨hk3'.cell c2 ?_, ⟨L' ++ [new], by simp [hL'], hs3, ?_, ?_⟩, ?_, Nat.le_trans i4 hk3'.size, i5⟩, ?_⟩
    · intro h
      rcases HU'.out _ h with h | h | h
      · have : w.heap.size + 2 = w.heap.size := h; omega
      · have : w.heap.size + 2 = w.heap.size + 1 := h; omega
      · have : w.heap.size + 7 ≤ w.heap.size + 2 := h.1; omega
    · intro nd hnd
      rcases List.mem_append.1 hnd with h | h
      · exact HB'.out nd h
      · obtain rfl : nd = new := by simpa using h
        exact ⟨fun hn a ha => hiU (hA3 hn a ha), fun hn a ha => hiU (hB3 hn a ha)⟩
    · rintro b (h | h | h)
      · exact .inr (.inl h)
      · exact .inl h
      · rw [List.map_append, List.mem_append] at h
        rcases h with h | h
        · exact HU'.out b (.inr (.inr h))
        · obtain rfl : b = new.b := by simpa using h
          exact hiU hn1
    · exact hk3'.ext_of i3 (fun j hj h => by rcases HU'.out j h with h | h | h <;> omega)
    · refine hk3'.mono fun k hk h => ?_
      rw [hz4] at hk
      rcases hk with hk | ⟨hk1, hk2⟩
      · rcases HU'.out k h with h | h | h
        · exact hne k (by omega) hk
        · exact hne k (by omega) hk
        · exact h.2 hk
      · rcases HU'.out k h with h | h | h
        · exact hk2 (.inl h)
        · exact hk2 (.inr h)
        · omega
  · intro T Wd hI hD
    obtain ⟨c2, ⟨L', hL', sL', hB', hU'⟩, i3, i4, i5⟩ := hI
    have HU' := Lib.hid hU'
    have HS' := Lib.hid sL'
    have HI3 := Lib.hid i3
    have HB' := Lib.hid hB'
    clear hB' hU' sL' i3
    gi_wp2
    refine ⟨by simp, .inl ⟨_, _, rfl, run_takeDeferred hD, ?_⟩⟩
    have k2 := Kept.putObj (fun k => k ≠ w4.heap.size) Wd w4.heap.size (.deferred none) (by simp)
    refine ⟨.pointer (some ⟨w.heap.size + 1, 0, none⟩), ?_, ?_⟩
    · simp [results, Try.f31, go_sem]
    · refine ⟨w.heap.size + 1, w.heap.size, L', rfl, hL', HS'.out.kept2 k2 (fun nd hm => ⟨fun h a ha => ?_, fun h a ha => ?_⟩) (fun b hb => ?_), k2.ext_of HI3.out (fun k hk => by omega), fun b hb => ?_⟩
      · rcases (HB'.out nd hm).1 h a ha with h | h | h <;> omega
      · rcases (HB'.out nd hm).2 h a ha with h | h | h <;> omega
      · rcases HU'.out b hb with h | h | h <;> omega
      · rcases HU'.out b hb with h | h | h <;> omega
  · rintro code pre T Wd hp h
    exact h.elim

end Go.Proofs.Ytddaagldelcbeaa
