/- Contracts of the reference's Rising and of the reference's May and Write of blocks. Conditions: the entries read; Write's may be. -/
/- Contract of the reference's Write of blocks. Conditions: the entries read, and may be a block's. -/
import Derived.Test.YthfhococglbpoaaBlkF
import Derived.BigRegion
import Derived.Test.YthfhococglbpoaaBlkI
namespace Go.Proofs.Ythfhococglbpoaa
set_option linter.unusedSimpArgs false
set_option linter.unusedVariables false
open Go.RowKit

theorem keep4' {w w' : World} {b o : Nat} {a0 a1 a2 a3 : Value} (e : Ext w w') (h0 : w.cell? ⟨b, o, none⟩ = some a0) (h1 : w.cell? ⟨b, o + 1, none⟩ = some a1) (h2 : w.cell? ⟨b, o + 2, none⟩ = some a2) (h3 : w.cell? ⟨b, o + 3, none⟩ = some a3) :
    w'.cell? ⟨b, o, none⟩ = some a0 ∧ w'.cell? ⟨b, o + 1, none⟩ = some a1 ∧ w'.cell? ⟨b, o + 2, none⟩ = some a2 ∧ w'.cell? ⟨b, o + 3, none⟩ = some a3 := ⟨e.keeps _ _ _ h0, e.keeps _ _ _ h1, e.keeps _ _ _ h2, e.keeps _ _ _ h3⟩
theorem last_take {xs : List Ent} {k : Nat} (h0 : 0 < k) (hk : k ≤ xs.length) : (xs.take k).getLast? = some (xs[k - 1]'(by omega)) := by
  rw [List.getLast?_eq_getElem?, List.length_take, Nat.min_eq_left hk, List.getElem?_eq_getElem (by rw [List.length_take]; omega), List.getElem_take]
theorem beh_first {xs : List Ent} {k : Nat} {x : Ent} (h0 : k = 0) (hm : mayE x = true) : behO (xs.take k).getLast? x = true := by
  subst h0
  simp [behO, hm]
theorem ret_b {a b : Bool} (h : a = b) : Ending.returned (.bool a) = Ending.returned (.bool b) := by rw [h]

set_option maxRecDepth 100000 in
set_option maxHeartbeats 4000000 in
theorem rrising_any (A : Option Addr) (n c : Nat) (xs : List Ent) (w : World) (hl : RdL w A n xs) (hnc : n ≤ c) :
    Calls Try.prog 51 #[.slice A n c] w fun e w' => e = .returned (.bool (riseB xs)) ∧ Ext w w' := by
  have HL := Lib.hid hl
  have hxl := hl.1
  have hn41 := hl.2.1
  unfold B41 at hn41
  clear hl
  go_enter Try.func51, Try.ntmps51
  go_wp2
  go_loopw [3] (fun i wr => ∃ k : Nat, k ≤ n ∧ i = .int .i64 k ∧ Hid (ris none xs = xs.take k ++ ris (xs.take k).getLast? (xs.drop k)) ∧ Ext w wr) (fun i _ => n - (intOf i).toNat)
  case atStart => exact ⟨0, Nat.zero_le _, rfl, Lib.hid (by simp), Ext.rfl_ _⟩
  case round =>
    obtain ⟨k, hk, rfl, HR, hE⟩ := hrel
    by_cases hlt : k < n
    · have hltI : (k : Int) < (n : Int) := by omega
      have hncI : (n : Int) ≤ (c : Int) := by omega
      have hjc2 : k < c := by omega
      have hkc : (k : Int) < (c : Int) := by omega
      obtain ⟨b, o, rfl, _⟩ := HL.out.2.2 (by omega)
      obtain ⟨A1, n1, c1, A2, n2, c2, hx, e0, e1, e2, e3, hry⟩ := r6at HL.out hlt hE
      have E0 := Lib.hid e0
      have E1 := Lib.hid e1
      have E2 := Lib.hid e2
      have E3 := Lib.hid e3
      have HY := Lib.hid (hry.ext hE)
      have HE := Lib.hid hE
      clear hry hE e0 e1 e2 e3
      by_cases hm : mayE xs[k] = true
      · have HM := Lib.hid hm
        clear hm
        by_cases h0 : k = 0
        · have k0 : ¬ (0 : Int) < (k : Int) := by omega
          have dk0 : decide ((0 : Int) < (k : Int)) = false := decide_eq_false k0
          have dk1 : decide (0 < k) = false := decide_eq_false (by omega)
          have hg : behO (xs.take k).getLast? xs[k] = true := beh_first h0 HM.out
          have HG := Lib.hid (ris_go hx HR.out hg)
          clear hg h0
          go_wp2
          refine wp_region_held_drew (S := (fun w' => w'.cell? ⟨b, o + k * 4, none⟩ = some (.slice A1 n1 c1) ∧ w'.cell? ⟨b, o + k * 4 + 1, none⟩ = some (.int .i64 xs[k].seq) ∧ w'.cell? ⟨b, o + k * 4 + 2, none⟩ = some (.int .i64 xs[k].kind) ∧ w'.cell? ⟨b, o + k * 4 + 3, none⟩ = some (.slice A2 n2 c2))) (by kernel_rfl) (by (try dsimp only); exact keep4' (w := wr) (by with_reducible (repeat (first | exact Ext.rfl_ _ | assumption | refine Ext.drew ?_ | refine Ext.drewN ?_ _ | refine Ext.alloc ?_ _ | refine Ext.trans ?_ (by assumption)))) E0.out E1.out E2.out E3.out) (fun hHeld => ?_)
          refine wpAnyH_take (i := 0) (oi := ({ dst := some 10, op := Go.Op.move (Go.Operand.tmp 0), type := 37, pos := "ref.go:165", after := #[], guard := none } : Go.Oper)) (v := ?v1) rfl (by kernel_rfl) (by kernel_rfl) (by kernel_rfl) (fun _ _ _ h => h) (Or.inl ⟨by rfl, ?hy1⟩) (by assumption) ?rest1
          case hy1 => (intro w hSw; (try dsimp only at hSw); go_simp; (try with_reducible rfl))
          (try simp only [Act.put, List.getElem_toArray, List.getElem_cons_zero, List.getElem_cons_succ, List.setIfInBounds_toArray, List.set_cons_zero, List.set_cons_succ])
          refine wpAnyH_take (i := 1) (oi := ({ dst := some 11, op := Go.Op.move (Go.Operand.tmp 3), type := 3, pos := "ref.go:165", after := #[], guard := none } : Go.Oper)) (v := ?v2) rfl (by kernel_rfl) (by kernel_rfl) (by kernel_rfl) (fun _ _ _ h => h) (Or.inl ⟨by rfl, ?hy2⟩) (by assumption) ?rest2
          case hy2 => (intro w hSw; (try dsimp only at hSw); go_simp; (try with_reducible rfl))
          (try simp only [Act.put, List.getElem_toArray, List.getElem_cons_zero, List.getElem_cons_succ, List.setIfInBounds_toArray, List.set_cons_zero, List.set_cons_succ])
          refine wpAnyH_take (i := 2) (oi := ({ dst := some 12, op := Go.Op.indexAddr 37 (Go.Operand.tmp 10) (Go.Operand.tmp 11), type := 0, pos := "ref.go:165", after := #[{ on := 0, ground := Go.Ground.data }, { on := 1, ground := Go.Ground.data }], guard := none } : Go.Oper)) (v := ?v3) rfl (by kernel_rfl) (by kernel_rfl) (by kernel_rfl) (fun _ _ _ h => h) (Or.inl ⟨by rfl, ?hy3⟩) (by assumption) ?rest3
          case hy3 => (intro w hSw; (try dsimp only at hSw); go_simp; (try with_reducible rfl))
          (try simp only [Act.put, List.getElem_toArray, List.getElem_cons_zero, List.getElem_cons_succ, List.setIfInBounds_toArray, List.set_cons_zero, List.set_cons_succ])
          refine wpAnyH_take (i := 3) (oi := ({ dst := some 13, op := Go.Op.load 28 (Go.Operand.tmp 12), type := 28, pos := "ref.go:165", after := #[{ on := 2, ground := Go.Ground.data }], guard := none } : Go.Oper)) (v := ?v4) rfl (by kernel_rfl) (by kernel_rfl) (by kernel_rfl) (fun _ _ _ h => h) (Or.inl ⟨by rfl, ?hy4⟩) (by assumption) ?rest4
          case hy4 => (intro w hSw; (try dsimp only at hSw); go_simp; (try with_reducible rfl))
          (try simp only [Act.put, List.getElem_toArray, List.getElem_cons_zero, List.getElem_cons_succ, List.setIfInBounds_toArray, List.set_cons_zero, List.set_cons_succ])
          refine wpAnyH_ready (rs := [4]) (by kernel_rfl) (by simp) ?_
          refine AllReadyH.cons (o := ({ dst := some 14, op := Go.Op.call { callee := Go.Callee.value (Go.Operand.func 65), args := #[Go.Operand.tmp 13], argTypes := #[28] }, type := 4, pos := "ref.go:165", after := #[{ on := 3, ground := Go.Ground.data }], guard := none } : Go.Oper)) rfl (fun K hK => ?_) AllReadyH.nil
          go_simp
          refine (rmay_any _ xs[k] _ (HY.out.ext (by with_reducible (repeat (first | exact Ext.rfl_ _ | assumption | refine Ext.drew ?_ | refine Ext.drewN ?_ _ | refine Ext.alloc ?_ _ | refine Ext.trans ?_ (by assumption)))))).mono ?_; rintro e w2 ⟨rfl, hw2⟩; rw [HM.out]
          (try (go_wp2_with fail))
          refine hK.out _ _ (by (try dsimp only); exact keep4' (w := wr) (by with_reducible (repeat (first | exact Ext.rfl_ _ | assumption | refine Ext.drew ?_ | refine Ext.drewN ?_ _ | refine Ext.alloc ?_ _ | refine Ext.trans ?_ (by assumption)))) E0.out E1.out E2.out E3.out) (fun hHeld => ?_)
          clear hK K
          (try simp only [Act.put, List.getElem_toArray, List.getElem_cons_zero, List.getElem_cons_succ, List.setIfInBounds_toArray, List.set_cons_zero, List.set_cons_succ])
          refine wpAnyH_take (i := 5) (oi := ({ dst := some 15, op := Go.Op.unOp Go.UnOp.not 4 (Go.Operand.tmp 14), type := 4, pos := "ref.go:165", after := #[{ on := 4, ground := Go.Ground.data }], guard := none } : Go.Oper)) (v := ?v5) rfl (by kernel_rfl) (by kernel_rfl) (by kernel_rfl) (fun _ _ _ h => h) (Or.inl ⟨by rfl, ?hy5⟩) (by assumption) ?rest5
          case hy5 => (intro w hSw; (try dsimp only at hSw); go_simp; (try with_reducible rfl))
          (try simp only [Act.put, List.getElem_toArray, List.getElem_cons_zero, List.getElem_cons_succ, List.setIfInBounds_toArray, List.set_cons_zero, List.set_cons_succ])
          refine wpAnyH_take (i := 6) (oi := ({ dst := some 16, op := Go.Op.move (Go.Operand.tmp 15), type := 4, pos := "ref.go:165", after := #[{ on := 5, ground := Go.Ground.data }, { on := 4, ground := Go.Ground.chain }], guard := none } : Go.Oper)) (v := ?v6) rfl (by kernel_rfl) (by kernel_rfl) (by kernel_rfl) (fun _ _ _ h => h) (Or.inl ⟨by rfl, ?hy6⟩) (by assumption) ?rest6
          case hy6 => (intro w hSw; (try dsimp only at hSw); go_simp; (try with_reducible rfl))
          (try simp only [Act.put, List.getElem_toArray, List.getElem_cons_zero, List.getElem_cons_succ, List.setIfInBounds_toArray, List.set_cons_zero, List.set_cons_succ])
          refine wpAnyH_take (i := 7) (oi := ({ dst := some 17, op := Go.Op.move (Go.Operand.tmp 3), type := 3, pos := "ref.go:165", after := #[{ on := 6, ground := Go.Ground.guard }], guard := some (6, false) } : Go.Oper)) (v := ?v7) rfl (by kernel_rfl) (by kernel_rfl) (by kernel_rfl) (fun _ _ _ h => h) (Or.inl ⟨by rfl, ?hy7⟩) (by assumption) ?rest7
          case hy7 => (intro w hSw; (try dsimp only at hSw); go_simp; (try with_reducible rfl))
          (try simp only [Act.put, List.getElem_toArray, List.getElem_cons_zero, List.getElem_cons_succ, List.setIfInBounds_toArray, List.set_cons_zero, List.set_cons_succ])
          refine wpAnyH_take (i := 8) (oi := ({ dst := some 18, op := Go.Op.binOp Go.BinOp.gtr 3 (Go.Operand.tmp 17) (Go.Operand.const (Go.Value.int Go.IntKind.i64 0)) 3, type := 4, pos := "ref.go:165", after := #[{ on := 7, ground := Go.Ground.data }, { on := 6, ground := Go.Ground.guard }], guard := some (6, false) } : Go.Oper)) (v := ?v8) rfl (by kernel_rfl) (by kernel_rfl) (by kernel_rfl) (fun _ _ _ h => h) (Or.inl ⟨by rfl, ?hy8⟩) (by assumption) ?rest8
          case hy8 => (intro w hSw; (try dsimp only at hSw); go_simp; (try with_reducible rfl))
          (try simp only [Act.put, List.getElem_toArray, List.getElem_cons_zero, List.getElem_cons_succ, List.setIfInBounds_toArray, List.set_cons_zero, List.set_cons_succ])
          refine wpAnyH_take (i := 9) (oi := ({ dst := some 19, op := Go.Op.move (Go.Operand.tmp 18), type := 4, pos := "ref.go:165", after := #[{ on := 8, ground := Go.Ground.data }, { on := 6, ground := Go.Ground.chain }, { on := 6, ground := Go.Ground.guard }], guard := some (6, false) } : Go.Oper)) (v := ?v9) rfl (by kernel_rfl) (by kernel_rfl) (by kernel_rfl) (fun _ _ _ h => h) (Or.inl ⟨by rfl, ?hy9⟩) (by assumption) ?rest9
          case hy9 => (intro w hSw; (try dsimp only at hSw); go_simp; (try with_reducible rfl))
          (try simp only [Act.put, List.getElem_toArray, List.getElem_cons_zero, List.getElem_cons_succ, List.setIfInBounds_toArray, List.set_cons_zero, List.set_cons_succ])
          refine wpAnyH_take (i := 10) (oi := ({ dst := some 20, op := Go.Op.move (Go.Operand.tmp 0), type := 37, pos := "ref.go:165", after := #[{ on := 9, ground := Go.Ground.guard }], guard := some (9, true) } : Go.Oper)) (v := undef) rfl (by kernel_rfl) (by kernel_rfl) (by kernel_rfl) (fun _ _ _ h => h) (Or.inr ⟨by rfl, rfl⟩) (by assumption) ?_
          (try simp only [Act.put, List.getElem_toArray, List.getElem_cons_zero, List.getElem_cons_succ, List.setIfInBounds_toArray, List.set_cons_zero, List.set_cons_succ])
          refine wpAnyH_take (i := 11) (oi := ({ dst := some 21, op := Go.Op.move (Go.Operand.tmp 3), type := 3, pos := "ref.go:165", after := #[{ on := 9, ground := Go.Ground.guard }], guard := some (9, true) } : Go.Oper)) (v := undef) rfl (by kernel_rfl) (by kernel_rfl) (by kernel_rfl) (fun _ _ _ h => h) (Or.inr ⟨by rfl, rfl⟩) (by assumption) ?_
          (try simp only [Act.put, List.getElem_toArray, List.getElem_cons_zero, List.getElem_cons_succ, List.setIfInBounds_toArray, List.set_cons_zero, List.set_cons_succ])
          refine wpAnyH_take (i := 12) (oi := ({ dst := some 22, op := Go.Op.binOp Go.BinOp.sub 3 (Go.Operand.tmp 21) (Go.Operand.const (Go.Value.int Go.IntKind.i64 1)) 3, type := 3, pos := "ref.go:165", after := #[{ on := 11, ground := Go.Ground.data }, { on := 9, ground := Go.Ground.guard }], guard := some (9, true) } : Go.Oper)) (v := undef) rfl (by kernel_rfl) (by kernel_rfl) (by kernel_rfl) (fun _ _ _ h => h) (Or.inr ⟨by rfl, rfl⟩) (by assumption) ?_
          (try simp only [Act.put, List.getElem_toArray, List.getElem_cons_zero, List.getElem_cons_succ, List.setIfInBounds_toArray, List.set_cons_zero, List.set_cons_succ])
          refine wpAnyH_take (i := 13) (oi := ({ dst := some 23, op := Go.Op.indexAddr 37 (Go.Operand.tmp 20) (Go.Operand.tmp 22), type := 0, pos := "ref.go:165", after := #[{ on := 10, ground := Go.Ground.data }, { on := 12, ground := Go.Ground.data }, { on := 9, ground := Go.Ground.guard }], guard := some (9, true) } : Go.Oper)) (v := undef) rfl (by kernel_rfl) (by kernel_rfl) (by kernel_rfl) (fun _ _ _ h => h) (Or.inr ⟨by rfl, rfl⟩) (by assumption) ?_
          (try simp only [Act.put, List.getElem_toArray, List.getElem_cons_zero, List.getElem_cons_succ, List.setIfInBounds_toArray, List.set_cons_zero, List.set_cons_succ])
          refine wpAnyH_take (i := 14) (oi := ({ dst := some 24, op := Go.Op.load 28 (Go.Operand.tmp 23), type := 28, pos := "ref.go:165", after := #[{ on := 13, ground := Go.Ground.data }, { on := 9, ground := Go.Ground.guard }], guard := some (9, true) } : Go.Oper)) (v := undef) rfl (by kernel_rfl) (by kernel_rfl) (by kernel_rfl) (fun _ _ _ h => h) (Or.inr ⟨by rfl, rfl⟩) (by assumption) ?_
          (try simp only [Act.put, List.getElem_toArray, List.getElem_cons_zero, List.getElem_cons_succ, List.setIfInBounds_toArray, List.set_cons_zero, List.set_cons_succ])
          refine wpAnyH_take (i := 15) (oi := ({ dst := some 25, op := Go.Op.move (Go.Operand.tmp 0), type := 37, pos := "ref.go:165", after := #[{ on := 9, ground := Go.Ground.guard }], guard := some (9, true) } : Go.Oper)) (v := undef) rfl (by kernel_rfl) (by kernel_rfl) (by kernel_rfl) (fun _ _ _ h => h) (Or.inr ⟨by rfl, rfl⟩) (by assumption) ?_
          (try simp only [Act.put, List.getElem_toArray, List.getElem_cons_zero, List.getElem_cons_succ, List.setIfInBounds_toArray, List.set_cons_zero, List.set_cons_succ])
          refine wpAnyH_take (i := 16) (oi := ({ dst := some 26, op := Go.Op.move (Go.Operand.tmp 3), type := 3, pos := "ref.go:165", after := #[{ on := 9, ground := Go.Ground.guard }], guard := some (9, true) } : Go.Oper)) (v := undef) rfl (by kernel_rfl) (by kernel_rfl) (by kernel_rfl) (fun _ _ _ h => h) (Or.inr ⟨by rfl, rfl⟩) (by assumption) ?_
          (try simp only [Act.put, List.getElem_toArray, List.getElem_cons_zero, List.getElem_cons_succ, List.setIfInBounds_toArray, List.set_cons_zero, List.set_cons_succ])
          refine wpAnyH_take (i := 17) (oi := ({ dst := some 27, op := Go.Op.indexAddr 37 (Go.Operand.tmp 25) (Go.Operand.tmp 26), type := 0, pos := "ref.go:165", after := #[{ on := 15, ground := Go.Ground.data }, { on := 16, ground := Go.Ground.data }, { on := 9, ground := Go.Ground.guard }], guard := some (9, true) } : Go.Oper)) (v := undef) rfl (by kernel_rfl) (by kernel_rfl) (by kernel_rfl) (fun _ _ _ h => h) (Or.inr ⟨by rfl, rfl⟩) (by assumption) ?_
          (try simp only [Act.put, List.getElem_toArray, List.getElem_cons_zero, List.getElem_cons_succ, List.setIfInBounds_toArray, List.set_cons_zero, List.set_cons_succ])
          refine wpAnyH_take (i := 18) (oi := ({ dst := some 28, op := Go.Op.load 28 (Go.Operand.tmp 27), type := 28, pos := "ref.go:165", after := #[{ on := 17, ground := Go.Ground.data }, { on := 9, ground := Go.Ground.guard }], guard := some (9, true) } : Go.Oper)) (v := undef) rfl (by kernel_rfl) (by kernel_rfl) (by kernel_rfl) (fun _ _ _ h => h) (Or.inr ⟨by rfl, rfl⟩) (by assumption) ?_
          (try simp only [Act.put, List.getElem_toArray, List.getElem_cons_zero, List.getElem_cons_succ, List.setIfInBounds_toArray, List.set_cons_zero, List.set_cons_succ])
          refine wpAnyH_take (i := 19) (oi := ({ dst := some 29, op := Go.Op.call { callee := Go.Callee.value (Go.Operand.func 74), args := #[Go.Operand.tmp 24, Go.Operand.tmp 28], argTypes := #[28, 28] }, type := 3, pos := "ref.go:165", after := #[{ on := 14, ground := Go.Ground.data }, { on := 18, ground := Go.Ground.data }, { on := 9, ground := Go.Ground.chain }, { on := 9, ground := Go.Ground.guard }], guard := some (9, true) } : Go.Oper)) (v := undef) rfl (by kernel_rfl) (by kernel_rfl) (by kernel_rfl) (fun _ _ _ h => h) (Or.inr ⟨by rfl, rfl⟩) (by assumption) ?_
          (try simp only [Act.put, List.getElem_toArray, List.getElem_cons_zero, List.getElem_cons_succ, List.setIfInBounds_toArray, List.set_cons_zero, List.set_cons_succ])
          refine wpAnyH_take (i := 20) (oi := ({ dst := some 30, op := Go.Op.binOp Go.BinOp.geq 3 (Go.Operand.tmp 29) (Go.Operand.const (Go.Value.int Go.IntKind.i64 0)) 3, type := 4, pos := "ref.go:165", after := #[{ on := 19, ground := Go.Ground.data }, { on := 9, ground := Go.Ground.guard }], guard := some (9, true) } : Go.Oper)) (v := undef) rfl (by kernel_rfl) (by kernel_rfl) (by kernel_rfl) (fun _ _ _ h => h) (Or.inr ⟨by rfl, rfl⟩) (by assumption) ?_
          (try simp only [Act.put, List.getElem_toArray, List.getElem_cons_zero, List.getElem_cons_succ, List.setIfInBounds_toArray, List.set_cons_zero, List.set_cons_succ])
          refine wpAnyH_take (i := 21) (oi := ({ dst := some 31, op := Go.Op.pick (Go.Operand.tmp 19) (Go.Operand.tmp 30) (Go.Operand.const (Go.Value.bool false)), type := 4, pos := "ref.go:165", after := #[{ on := 9, ground := Go.Ground.data }, { on := 20, ground := Go.Ground.data }, { on := 6, ground := Go.Ground.guard }], guard := some (6, false) } : Go.Oper)) (v := ?v10) rfl (by kernel_rfl) (by kernel_rfl) (by kernel_rfl) (fun _ _ _ h => h) (Or.inl ⟨by rfl, ?hy10⟩) (by assumption) ?rest10
          case hy10 => (intro w hSw; (try dsimp only at hSw); go_simp; (try with_reducible rfl))
          (try simp only [Act.put, List.getElem_toArray, List.getElem_cons_zero, List.getElem_cons_succ, List.setIfInBounds_toArray, List.set_cons_zero, List.set_cons_succ])
          refine wpAnyH_take (i := 22) (oi := ({ dst := some 32, op := Go.Op.pick (Go.Operand.tmp 16) (Go.Operand.const (Go.Value.bool true)) (Go.Operand.tmp 31), type := 4, pos := "ref.go:165", after := #[{ on := 6, ground := Go.Ground.data }, { on := 21, ground := Go.Ground.data }], guard := none } : Go.Oper)) (v := ?v11) rfl (by kernel_rfl) (by kernel_rfl) (by kernel_rfl) (fun _ _ _ h => h) (Or.inl ⟨by rfl, ?hy11⟩) (by assumption) ?rest11
          case hy11 => (intro w hSw; (try dsimp only at hSw); go_simp; (try with_reducible rfl))
          (try simp only [Act.put, List.getElem_toArray, List.getElem_cons_zero, List.getElem_cons_succ, List.setIfInBounds_toArray, List.set_cons_zero, List.set_cons_succ])
          refine wpAnyH_done (by kernel_rfl) ?_ _
          all_goals
            have x2 : Ext wr w2 := (by with_reducible (repeat (first | exact Ext.rfl_ _ | assumption | refine Ext.drew ?_ | refine Ext.drewN ?_ _ | refine Ext.alloc ?_ _ | refine Ext.trans ?_ (by assumption))))
            go_wp2
            go_roundw
            case rel => exact ⟨k + 1, by omega, by go_num, HG, HE.out.trans x2⟩
            case measure => simp [intOf]; omega
        · have k0 : (0 : Int) < (k : Int) := by omega
          have dk0 : decide ((0 : Int) < (k : Int)) = true := decide_eq_true k0
          have k0n : 0 < k := by omega
          have dk1 : decide (0 < k) = true := decide_eq_true k0n
          have hk1 : k - 1 < n := by omega
          obtain ⟨A3, n3, c3, A4, n4, c4, hx1, p0, p1, p2, p3, hrp⟩ := r6at HL.out hk1 HE.out
          have P0 := Lib.hid p0
          have P1 := Lib.hid p1
          have P2 := Lib.hid p2
          have P3 := Lib.hid p3
          have HP := Lib.hid (hrp.ext HE.out)
          have hkm : (k : Int) - 1 = ((k - 1 : Nat) : Int) := by omega
          have hk1i : ((k - 1 : Nat) : Int) < (n : Int) := by omega
          have hkw : IntKind.i64.wrap ((k - 1 : Nat) : Int) = ((k - 1 : Nat) : Int) := by rw [IntKind.wrap_i64]; omega
          have hk1c : k - 1 < c := by omega
          have hlast := last_take (xs := xs) (k := k) (by omega) (by omega)
          have hz : behO (xs.take k).getLast? xs[k] = decide (cmpE xs[k - 1] xs[k] < 0) := by rw [hlast]; unfold behO; rw [HM.out]; simp
          have HZ := Lib.hid hz
          clear hrp p0 p1 p2 p3 hlast hz
          by_cases hc : (0 : Int) ≤ cmpE xs[k - 1] xs[k]
          · have hb : ¬ behO (xs.take k).getLast? xs[k] = true := by rw [HZ.out]; simp; omega
            have HN := Lib.hid (ris_end hx HR.out hb)
            have HC := Lib.hid (decide_eq_true hc)
            have hres : false = riseB xs := by
              unfold riseB
              rw [HN.out, List.length_take]
              symm
              apply decide_eq_false
              omega
            have HRES := Lib.hid hres
            clear hb hres hc
            go_wp2
            refine wp_region_held_drew (S := (fun w' => (w'.cell? ⟨b, o + k * 4, none⟩ = some (.slice A1 n1 c1) ∧ w'.cell? ⟨b, o + k * 4 + 1, none⟩ = some (.int .i64 xs[k].seq) ∧ w'.cell? ⟨b, o + k * 4 + 2, none⟩ = some (.int .i64 xs[k].kind) ∧ w'.cell? ⟨b, o + k * 4 + 3, none⟩ = some (.slice A2 n2 c2)) ∧ (w'.cell? ⟨b, o + (k - 1) * 4, none⟩ = some (.slice A3 n3 c3) ∧ w'.cell? ⟨b, o + (k - 1) * 4 + 1, none⟩ = some (.int .i64 xs[k - 1].seq) ∧ w'.cell? ⟨b, o + (k - 1) * 4 + 2, none⟩ = some (.int .i64 xs[k - 1].kind) ∧ w'.cell? ⟨b, o + (k - 1) * 4 + 3, none⟩ = some (.slice A4 n4 c4)))) (by kernel_rfl) (by (try dsimp only); exact ⟨keep4' (w := wr) (by with_reducible (repeat (first | exact Ext.rfl_ _ | assumption | refine Ext.drew ?_ | refine Ext.drewN ?_ _ | refine Ext.alloc ?_ _ | refine Ext.trans ?_ (by assumption)))) E0.out E1.out E2.out E3.out, keep4' (w := wr) (by with_reducible (repeat (first | exact Ext.rfl_ _ | assumption | refine Ext.drew ?_ | refine Ext.drewN ?_ _ | refine Ext.alloc ?_ _ | refine Ext.trans ?_ (by assumption)))) P0.out P1.out P2.out P3.out⟩) (fun hHeld => ?_)
            refine wpAnyH_take (i := 0) (oi := ({ dst := some 10, op := Go.Op.move (Go.Operand.tmp 0), type := 37, pos := "ref.go:165", after := #[], guard := none } : Go.Oper)) (v := ?v12) rfl (by kernel_rfl) (by kernel_rfl) (by kernel_rfl) (fun _ _ _ h => h) (Or.inl ⟨by rfl, ?hy12⟩) (by assumption) ?rest12
            case hy12 => (intro w hSw; (try dsimp only at hSw); go_simp; (try with_reducible rfl))
            (try simp only [Act.put, List.getElem_toArray, List.getElem_cons_zero, List.getElem_cons_succ, List.setIfInBounds_toArray, List.set_cons_zero, List.set_cons_succ])
            refine wpAnyH_take (i := 1) (oi := ({ dst := some 11, op := Go.Op.move (Go.Operand.tmp 3), type := 3, pos := "ref.go:165", after := #[], guard := none } : Go.Oper)) (v := ?v13) rfl (by kernel_rfl) (by kernel_rfl) (by kernel_rfl) (fun _ _ _ h => h) (Or.inl ⟨by rfl, ?hy13⟩) (by assumption) ?rest13
            case hy13 => (intro w hSw; (try dsimp only at hSw); go_simp; (try with_reducible rfl))
            (try simp only [Act.put, List.getElem_toArray, List.getElem_cons_zero, List.getElem_cons_succ, List.setIfInBounds_toArray, List.set_cons_zero, List.set_cons_succ])
            refine wpAnyH_take (i := 2) (oi := ({ dst := some 12, op := Go.Op.indexAddr 37 (Go.Operand.tmp 10) (Go.Operand.tmp 11), type := 0, pos := "ref.go:165", after := #[{ on := 0, ground := Go.Ground.data }, { on := 1, ground := Go.Ground.data }], guard := none } : Go.Oper)) (v := ?v14) rfl (by kernel_rfl) (by kernel_rfl) (by kernel_rfl) (fun _ _ _ h => h) (Or.inl ⟨by rfl, ?hy14⟩) (by assumption) ?rest14
            case hy14 => (intro w hSw; (try dsimp only at hSw); go_simp; (try with_reducible rfl))
            (try simp only [Act.put, List.getElem_toArray, List.getElem_cons_zero, List.getElem_cons_succ, List.setIfInBounds_toArray, List.set_cons_zero, List.set_cons_succ])
            refine wpAnyH_take (i := 3) (oi := ({ dst := some 13, op := Go.Op.load 28 (Go.Operand.tmp 12), type := 28, pos := "ref.go:165", after := #[{ on := 2, ground := Go.Ground.data }], guard := none } : Go.Oper)) (v := ?v15) rfl (by kernel_rfl) (by kernel_rfl) (by kernel_rfl) (fun _ _ _ h => h) (Or.inl ⟨by rfl, ?hy15⟩) (by assumption) ?rest15
            case hy15 => (intro w hSw; (try dsimp only at hSw); go_simp; (try with_reducible rfl))
            (try simp only [Act.put, List.getElem_toArray, List.getElem_cons_zero, List.getElem_cons_succ, List.setIfInBounds_toArray, List.set_cons_zero, List.set_cons_succ])
            refine wpAnyH_ready (rs := [4]) (by kernel_rfl) (by simp) ?_
            refine AllReadyH.cons (o := ({ dst := some 14, op := Go.Op.call { callee := Go.Callee.value (Go.Operand.func 65), args := #[Go.Operand.tmp 13], argTypes := #[28] }, type := 4, pos := "ref.go:165", after := #[{ on := 3, ground := Go.Ground.data }], guard := none } : Go.Oper)) rfl (fun K hK => ?_) AllReadyH.nil
            go_simp
            (first | (go_at_call 65; refine (rmay_any _ xs[k] _ (HY.out.ext (by with_reducible (repeat (first | exact Ext.rfl_ _ | assumption | refine Ext.drew ?_ | refine Ext.drewN ?_ _ | refine Ext.alloc ?_ _ | refine Ext.trans ?_ (by assumption)))))).mono ?_; rintro e w2 ⟨rfl, hw2⟩; rw [HM.out]) | (go_at_call 74; refine (rcompare_any _ _ xs[k - 1] xs[k] _ (HP.out.ext (by with_reducible (repeat (first | exact Ext.rfl_ _ | assumption | refine Ext.drew ?_ | refine Ext.drewN ?_ _ | refine Ext.alloc ?_ _ | refine Ext.trans ?_ (by assumption))))) (HY.out.ext (by with_reducible (repeat (first | exact Ext.rfl_ _ | assumption | refine Ext.drew ?_ | refine Ext.drewN ?_ _ | refine Ext.alloc ?_ _ | refine Ext.trans ?_ (by assumption)))))).mono ?_; rintro e w3 ⟨rfl, hw3⟩; have hc := HC.out))
            (try (go_wp2_with fail))
            refine hK.out _ _ (by (try dsimp only); exact ⟨keep4' (w := wr) (by with_reducible (repeat (first | exact Ext.rfl_ _ | assumption | refine Ext.drew ?_ | refine Ext.drewN ?_ _ | refine Ext.alloc ?_ _ | refine Ext.trans ?_ (by assumption)))) E0.out E1.out E2.out E3.out, keep4' (w := wr) (by with_reducible (repeat (first | exact Ext.rfl_ _ | assumption | refine Ext.drew ?_ | refine Ext.drewN ?_ _ | refine Ext.alloc ?_ _ | refine Ext.trans ?_ (by assumption)))) P0.out P1.out P2.out P3.out⟩) (fun hHeld => ?_)
            clear hK K
            (try simp only [Act.put, List.getElem_toArray, List.getElem_cons_zero, List.getElem_cons_succ, List.setIfInBounds_toArray, List.set_cons_zero, List.set_cons_succ])
            refine wpAnyH_take (i := 5) (oi := ({ dst := some 15, op := Go.Op.unOp Go.UnOp.not 4 (Go.Operand.tmp 14), type := 4, pos := "ref.go:165", after := #[{ on := 4, ground := Go.Ground.data }], guard := none } : Go.Oper)) (v := ?v16) rfl (by kernel_rfl) (by kernel_rfl) (by kernel_rfl) (fun _ _ _ h => h) (Or.inl ⟨by rfl, ?hy16⟩) (by assumption) ?rest16
            case hy16 => (intro w hSw; (try dsimp only at hSw); go_simp; (try with_reducible rfl))
            (try simp only [Act.put, List.getElem_toArray, List.getElem_cons_zero, List.getElem_cons_succ, List.setIfInBounds_toArray, List.set_cons_zero, List.set_cons_succ])
            refine wpAnyH_take (i := 6) (oi := ({ dst := some 16, op := Go.Op.move (Go.Operand.tmp 15), type := 4, pos := "ref.go:165", after := #[{ on := 5, ground := Go.Ground.data }, { on := 4, ground := Go.Ground.chain }], guard := none } : Go.Oper)) (v := ?v17) rfl (by kernel_rfl) (by kernel_rfl) (by kernel_rfl) (fun _ _ _ h => h) (Or.inl ⟨by rfl, ?hy17⟩) (by assumption) ?rest17
            case hy17 => (intro w hSw; (try dsimp only at hSw); go_simp; (try with_reducible rfl))
            (try simp only [Act.put, List.getElem_toArray, List.getElem_cons_zero, List.getElem_cons_succ, List.setIfInBounds_toArray, List.set_cons_zero, List.set_cons_succ])
            refine wpAnyH_take (i := 7) (oi := ({ dst := some 17, op := Go.Op.move (Go.Operand.tmp 3), type := 3, pos := "ref.go:165", after := #[{ on := 6, ground := Go.Ground.guard }], guard := some (6, false) } : Go.Oper)) (v := ?v18) rfl (by kernel_rfl) (by kernel_rfl) (by kernel_rfl) (fun _ _ _ h => h) (Or.inl ⟨by rfl, ?hy18⟩) (by assumption) ?rest18
            case hy18 => (intro w hSw; (try dsimp only at hSw); go_simp; (try with_reducible rfl))
            (try simp only [Act.put, List.getElem_toArray, List.getElem_cons_zero, List.getElem_cons_succ, List.setIfInBounds_toArray, List.set_cons_zero, List.set_cons_succ])
            refine wpAnyH_take (i := 8) (oi := ({ dst := some 18, op := Go.Op.binOp Go.BinOp.gtr 3 (Go.Operand.tmp 17) (Go.Operand.const (Go.Value.int Go.IntKind.i64 0)) 3, type := 4, pos := "ref.go:165", after := #[{ on := 7, ground := Go.Ground.data }, { on := 6, ground := Go.Ground.guard }], guard := some (6, false) } : Go.Oper)) (v := ?v19) rfl (by kernel_rfl) (by kernel_rfl) (by kernel_rfl) (fun _ _ _ h => h) (Or.inl ⟨by rfl, ?hy19⟩) (by assumption) ?rest19
            case hy19 => (intro w hSw; (try dsimp only at hSw); go_simp; (try with_reducible rfl))
            (try simp only [Act.put, List.getElem_toArray, List.getElem_cons_zero, List.getElem_cons_succ, List.setIfInBounds_toArray, List.set_cons_zero, List.set_cons_succ])
            refine wpAnyH_take (i := 9) (oi := ({ dst := some 19, op := Go.Op.move (Go.Operand.tmp 18), type := 4, pos := "ref.go:165", after := #[{ on := 8, ground := Go.Ground.data }, { on := 6, ground := Go.Ground.chain }, { on := 6, ground := Go.Ground.guard }], guard := some (6, false) } : Go.Oper)) (v := ?v20) rfl (by kernel_rfl) (by kernel_rfl) (by kernel_rfl) (fun _ _ _ h => h) (Or.inl ⟨by rfl, ?hy20⟩) (by assumption) ?rest20
            case hy20 => (intro w hSw; (try dsimp only at hSw); go_simp; (try with_reducible rfl))
            (try simp only [Act.put, List.getElem_toArray, List.getElem_cons_zero, List.getElem_cons_succ, List.setIfInBounds_toArray, List.set_cons_zero, List.set_cons_succ])
            refine wpAnyH_take (i := 10) (oi := ({ dst := some 20, op := Go.Op.move (Go.Operand.tmp 0), type := 37, pos := "ref.go:165", after := #[{ on := 9, ground := Go.Ground.guard }], guard := some (9, true) } : Go.Oper)) (v := ?v21) rfl (by kernel_rfl) (by kernel_rfl) (by kernel_rfl) (fun _ _ _ h => h) (Or.inl ⟨by rfl, ?hy21⟩) (by assumption) ?rest21
            case hy21 => (intro w hSw; (try dsimp only at hSw); go_simp; (try with_reducible rfl))
            (try simp only [Act.put, List.getElem_toArray, List.getElem_cons_zero, List.getElem_cons_succ, List.setIfInBounds_toArray, List.set_cons_zero, List.set_cons_succ])
            refine wpAnyH_take (i := 11) (oi := ({ dst := some 21, op := Go.Op.move (Go.Operand.tmp 3), type := 3, pos := "ref.go:165", after := #[{ on := 9, ground := Go.Ground.guard }], guard := some (9, true) } : Go.Oper)) (v := ?v22) rfl (by kernel_rfl) (by kernel_rfl) (by kernel_rfl) (fun _ _ _ h => h) (Or.inl ⟨by rfl, ?hy22⟩) (by assumption) ?rest22
            case hy22 => (intro w hSw; (try dsimp only at hSw); go_simp; (try with_reducible rfl))
            (try simp only [Act.put, List.getElem_toArray, List.getElem_cons_zero, List.getElem_cons_succ, List.setIfInBounds_toArray, List.set_cons_zero, List.set_cons_succ])
            refine wpAnyH_take (i := 12) (oi := ({ dst := some 22, op := Go.Op.binOp Go.BinOp.sub 3 (Go.Operand.tmp 21) (Go.Operand.const (Go.Value.int Go.IntKind.i64 1)) 3, type := 3, pos := "ref.go:165", after := #[{ on := 11, ground := Go.Ground.data }, { on := 9, ground := Go.Ground.guard }], guard := some (9, true) } : Go.Oper)) (v := ?v23) rfl (by kernel_rfl) (by kernel_rfl) (by kernel_rfl) (fun _ _ _ h => h) (Or.inl ⟨by rfl, ?hy23⟩) (by assumption) ?rest23
            case hy23 => (intro w hSw; (try dsimp only at hSw); go_simp; (try with_reducible rfl))
            (try simp only [Act.put, List.getElem_toArray, List.getElem_cons_zero, List.getElem_cons_succ, List.setIfInBounds_toArray, List.set_cons_zero, List.set_cons_succ])
            refine wpAnyH_take (i := 13) (oi := ({ dst := some 23, op := Go.Op.indexAddr 37 (Go.Operand.tmp 20) (Go.Operand.tmp 22), type := 0, pos := "ref.go:165", after := #[{ on := 10, ground := Go.Ground.data }, { on := 12, ground := Go.Ground.data }, { on := 9, ground := Go.Ground.guard }], guard := some (9, true) } : Go.Oper)) (v := ?v24) rfl (by kernel_rfl) (by kernel_rfl) (by kernel_rfl) (fun _ _ _ h => h) (Or.inl ⟨by rfl, ?hy24⟩) (by assumption) ?rest24
            case hy24 => (intro w hSw; (try dsimp only at hSw); go_simp; (try with_reducible rfl))
            (try simp only [Act.put, List.getElem_toArray, List.getElem_cons_zero, List.getElem_cons_succ, List.setIfInBounds_toArray, List.set_cons_zero, List.set_cons_succ])
            refine wpAnyH_take (i := 14) (oi := ({ dst := some 24, op := Go.Op.load 28 (Go.Operand.tmp 23), type := 28, pos := "ref.go:165", after := #[{ on := 13, ground := Go.Ground.data }, { on := 9, ground := Go.Ground.guard }], guard := some (9, true) } : Go.Oper)) (v := ?v25) rfl (by kernel_rfl) (by kernel_rfl) (by kernel_rfl) (fun _ _ _ h => h) (Or.inl ⟨by rfl, ?hy25⟩) (by assumption) ?rest25
            case hy25 => (intro w hSw; (try dsimp only at hSw); go_simp; (try with_reducible rfl))
            (try simp only [Act.put, List.getElem_toArray, List.getElem_cons_zero, List.getElem_cons_succ, List.setIfInBounds_toArray, List.set_cons_zero, List.set_cons_succ])
            refine wpAnyH_take (i := 15) (oi := ({ dst := some 25, op := Go.Op.move (Go.Operand.tmp 0), type := 37, pos := "ref.go:165", after := #[{ on := 9, ground := Go.Ground.guard }], guard := some (9, true) } : Go.Oper)) (v := ?v26) rfl (by kernel_rfl) (by kernel_rfl) (by kernel_rfl) (fun _ _ _ h => h) (Or.inl ⟨by rfl, ?hy26⟩) (by assumption) ?rest26
            case hy26 => (intro w hSw; (try dsimp only at hSw); go_simp; (try with_reducible rfl))
            (try simp only [Act.put, List.getElem_toArray, List.getElem_cons_zero, List.getElem_cons_succ, List.setIfInBounds_toArray, List.set_cons_zero, List.set_cons_succ])
            refine wpAnyH_take (i := 16) (oi := ({ dst := some 26, op := Go.Op.move (Go.Operand.tmp 3), type := 3, pos := "ref.go:165", after := #[{ on := 9, ground := Go.Ground.guard }], guard := some (9, true) } : Go.Oper)) (v := ?v27) rfl (by kernel_rfl) (by kernel_rfl) (by kernel_rfl) (fun _ _ _ h => h) (Or.inl ⟨by rfl, ?hy27⟩) (by assumption) ?rest27
            case hy27 => (intro w hSw; (try dsimp only at hSw); go_simp; (try with_reducible rfl))
            (try simp only [Act.put, List.getElem_toArray, List.getElem_cons_zero, List.getElem_cons_succ, List.setIfInBounds_toArray, List.set_cons_zero, List.set_cons_succ])
            refine wpAnyH_take (i := 17) (oi := ({ dst := some 27, op := Go.Op.indexAddr 37 (Go.Operand.tmp 25) (Go.Operand.tmp 26), type := 0, pos := "ref.go:165", after := #[{ on := 15, ground := Go.Ground.data }, { on := 16, ground := Go.Ground.data }, { on := 9, ground := Go.Ground.guard }], guard := some (9, true) } : Go.Oper)) (v := ?v28) rfl (by kernel_rfl) (by kernel_rfl) (by kernel_rfl) (fun _ _ _ h => h) (Or.inl ⟨by rfl, ?hy28⟩) (by assumption) ?rest28
            case hy28 => (intro w hSw; (try dsimp only at hSw); go_simp; (try with_reducible rfl))
            (try simp only [Act.put, List.getElem_toArray, List.getElem_cons_zero, List.getElem_cons_succ, List.setIfInBounds_toArray, List.set_cons_zero, List.set_cons_succ])
            refine wpAnyH_take (i := 18) (oi := ({ dst := some 28, op := Go.Op.load 28 (Go.Operand.tmp 27), type := 28, pos := "ref.go:165", after := #[{ on := 17, ground := Go.Ground.data }, { on := 9, ground := Go.Ground.guard }], guard := some (9, true) } : Go.Oper)) (v := ?v29) rfl (by kernel_rfl) (by kernel_rfl) (by kernel_rfl) (fun _ _ _ h => h) (Or.inl ⟨by rfl, ?hy29⟩) (by assumption) ?rest29
            case hy29 => (intro w hSw; (try dsimp only at hSw); go_simp; (try with_reducible rfl))
            (try simp only [Act.put, List.getElem_toArray, List.getElem_cons_zero, List.getElem_cons_succ, List.setIfInBounds_toArray, List.set_cons_zero, List.set_cons_succ])
            refine wpAnyH_ready (rs := [19]) (by kernel_rfl) (by simp) ?_
            refine AllReadyH.cons (o := ({ dst := some 29, op := Go.Op.call { callee := Go.Callee.value (Go.Operand.func 74), args := #[Go.Operand.tmp 24, Go.Operand.tmp 28], argTypes := #[28, 28] }, type := 3, pos := "ref.go:165", after := #[{ on := 14, ground := Go.Ground.data }, { on := 18, ground := Go.Ground.data }, { on := 9, ground := Go.Ground.chain }, { on := 9, ground := Go.Ground.guard }], guard := some (9, true) } : Go.Oper)) rfl (fun K hK => ?_) AllReadyH.nil
            go_simp
            (first | (go_at_call 65; refine (rmay_any _ xs[k] _ (HY.out.ext (by with_reducible (repeat (first | exact Ext.rfl_ _ | assumption | refine Ext.drew ?_ | refine Ext.drewN ?_ _ | refine Ext.alloc ?_ _ | refine Ext.trans ?_ (by assumption)))))).mono ?_; rintro e w2 ⟨rfl, hw2⟩; rw [HM.out]) | (go_at_call 74; refine (rcompare_any _ _ xs[k - 1] xs[k] _ (HP.out.ext (by with_reducible (repeat (first | exact Ext.rfl_ _ | assumption | refine Ext.drew ?_ | refine Ext.drewN ?_ _ | refine Ext.alloc ?_ _ | refine Ext.trans ?_ (by assumption))))) (HY.out.ext (by with_reducible (repeat (first | exact Ext.rfl_ _ | assumption | refine Ext.drew ?_ | refine Ext.drewN ?_ _ | refine Ext.alloc ?_ _ | refine Ext.trans ?_ (by assumption)))))).mono ?_; rintro e w3 ⟨rfl, hw3⟩; have hc := HC.out))
            (try (go_wp2_with fail))
            refine hK.out _ _ (by (try dsimp only); exact ⟨keep4' (w := wr) (by with_reducible (repeat (first | exact Ext.rfl_ _ | assumption | refine Ext.drew ?_ | refine Ext.drewN ?_ _ | refine Ext.alloc ?_ _ | refine Ext.trans ?_ (by assumption)))) E0.out E1.out E2.out E3.out, keep4' (w := wr) (by with_reducible (repeat (first | exact Ext.rfl_ _ | assumption | refine Ext.drew ?_ | refine Ext.drewN ?_ _ | refine Ext.alloc ?_ _ | refine Ext.trans ?_ (by assumption)))) P0.out P1.out P2.out P3.out⟩) (fun hHeld => ?_)
            clear hK K
            (try simp only [Act.put, List.getElem_toArray, List.getElem_cons_zero, List.getElem_cons_succ, List.setIfInBounds_toArray, List.set_cons_zero, List.set_cons_succ])
            refine wpAnyH_take (i := 20) (oi := ({ dst := some 30, op := Go.Op.binOp Go.BinOp.geq 3 (Go.Operand.tmp 29) (Go.Operand.const (Go.Value.int Go.IntKind.i64 0)) 3, type := 4, pos := "ref.go:165", after := #[{ on := 19, ground := Go.Ground.data }, { on := 9, ground := Go.Ground.guard }], guard := some (9, true) } : Go.Oper)) (v := ?v30) rfl (by kernel_rfl) (by kernel_rfl) (by kernel_rfl) (fun _ _ _ h => h) (Or.inl ⟨by rfl, ?hy30⟩) (by assumption) ?rest30
            case hy30 => (intro w hSw; (try dsimp only at hSw); go_simp; (try with_reducible rfl))
            (try simp only [Act.put, List.getElem_toArray, List.getElem_cons_zero, List.getElem_cons_succ, List.setIfInBounds_toArray, List.set_cons_zero, List.set_cons_succ])
            refine wpAnyH_take (i := 21) (oi := ({ dst := some 31, op := Go.Op.pick (Go.Operand.tmp 19) (Go.Operand.tmp 30) (Go.Operand.const (Go.Value.bool false)), type := 4, pos := "ref.go:165", after := #[{ on := 9, ground := Go.Ground.data }, { on := 20, ground := Go.Ground.data }, { on := 6, ground := Go.Ground.guard }], guard := some (6, false) } : Go.Oper)) (v := ?v31) rfl (by kernel_rfl) (by kernel_rfl) (by kernel_rfl) (fun _ _ _ h => h) (Or.inl ⟨by rfl, ?hy31⟩) (by assumption) ?rest31
            case hy31 => (intro w hSw; (try dsimp only at hSw); go_simp; (try with_reducible rfl))
            (try simp only [Act.put, List.getElem_toArray, List.getElem_cons_zero, List.getElem_cons_succ, List.setIfInBounds_toArray, List.set_cons_zero, List.set_cons_succ])
            refine wpAnyH_take (i := 22) (oi := ({ dst := some 32, op := Go.Op.pick (Go.Operand.tmp 16) (Go.Operand.const (Go.Value.bool true)) (Go.Operand.tmp 31), type := 4, pos := "ref.go:165", after := #[{ on := 6, ground := Go.Ground.data }, { on := 21, ground := Go.Ground.data }], guard := none } : Go.Oper)) (v := ?v32) rfl (by kernel_rfl) (by kernel_rfl) (by kernel_rfl) (fun _ _ _ h => h) (Or.inl ⟨by rfl, ?hy32⟩) (by assumption) ?rest32
            case hy32 => (intro w hSw; (try dsimp only at hSw); go_simp; (try with_reducible rfl))
            (try simp only [Act.put, List.getElem_toArray, List.getElem_cons_zero, List.getElem_cons_succ, List.setIfInBounds_toArray, List.set_cons_zero, List.set_cons_succ])
            refine wpAnyH_done (by kernel_rfl) ?_ _
            all_goals
              have x3 : Ext wr w3 := (by with_reducible (repeat (first | exact Ext.rfl_ _ | assumption | refine Ext.drew ?_ | refine Ext.drewN ?_ _ | refine Ext.alloc ?_ _ | refine Ext.trans ?_ (by assumption))))
              go_wp2
              go_ret
              exact ⟨ret_b HRES.out, HE.out.trans (by with_reducible (repeat (first | exact Ext.rfl_ _ | assumption | refine Ext.drew ?_ | refine Ext.drewN ?_ _ | refine Ext.alloc ?_ _ | refine Ext.trans ?_ (by assumption))))⟩
          · have hb : behO (xs.take k).getLast? xs[k] = true := by rw [HZ.out]; simp; omega
            have HG := Lib.hid (ris_go hx HR.out hb)
            have HC := Lib.hid (decide_eq_false hc)
            clear hb hc
            go_wp2
            refine wp_region_held_drew (S := (fun w' => (w'.cell? ⟨b, o + k * 4, none⟩ = some (.slice A1 n1 c1) ∧ w'.cell? ⟨b, o + k * 4 + 1, none⟩ = some (.int .i64 xs[k].seq) ∧ w'.cell? ⟨b, o + k * 4 + 2, none⟩ = some (.int .i64 xs[k].kind) ∧ w'.cell? ⟨b, o + k * 4 + 3, none⟩ = some (.slice A2 n2 c2)) ∧ (w'.cell? ⟨b, o + (k - 1) * 4, none⟩ = some (.slice A3 n3 c3) ∧ w'.cell? ⟨b, o + (k - 1) * 4 + 1, none⟩ = some (.int .i64 xs[k - 1].seq) ∧ w'.cell? ⟨b, o + (k - 1) * 4 + 2, none⟩ = some (.int .i64 xs[k - 1].kind) ∧ w'.cell? ⟨b, o + (k - 1) * 4 + 3, none⟩ = some (.slice A4 n4 c4)))) (by kernel_rfl) (by (try dsimp only); exact ⟨keep4' (w := wr) (by with_reducible (repeat (first | exact Ext.rfl_ _ | assumption | refine Ext.drew ?_ | refine Ext.drewN ?_ _ | refine Ext.alloc ?_ _ | refine Ext.trans ?_ (by assumption)))) E0.out E1.out E2.out E3.out, keep4' (w := wr) (by with_reducible (repeat (first | exact Ext.rfl_ _ | assumption | refine Ext.drew ?_ | refine Ext.drewN ?_ _ | refine Ext.alloc ?_ _ | refine Ext.trans ?_ (by assumption)))) P0.out P1.out P2.out P3.out⟩) (fun hHeld => ?_)
            refine wpAnyH_take (i := 0) (oi := ({ dst := some 10, op := Go.Op.move (Go.Operand.tmp 0), type := 37, pos := "ref.go:165", after := #[], guard := none } : Go.Oper)) (v := ?v33) rfl (by kernel_rfl) (by kernel_rfl) (by kernel_rfl) (fun _ _ _ h => h) (Or.inl ⟨by rfl, ?hy33⟩) (by assumption) ?rest33
            case hy33 => (intro w hSw; (try dsimp only at hSw); go_simp; (try with_reducible rfl))
            (try simp only [Act.put, List.getElem_toArray, List.getElem_cons_zero, List.getElem_cons_succ, List.setIfInBounds_toArray, List.set_cons_zero, List.set_cons_succ])
            refine wpAnyH_take (i := 1) (oi := ({ dst := some 11, op := Go.Op.move (Go.Operand.tmp 3), type := 3, pos := "ref.go:165", after := #[], guard := none } : Go.Oper)) (v := ?v34) rfl (by kernel_rfl) (by kernel_rfl) (by kernel_rfl) (fun _ _ _ h => h) (Or.inl ⟨by rfl, ?hy34⟩) (by assumption) ?rest34
            case hy34 => (intro w hSw; (try dsimp only at hSw); go_simp; (try with_reducible rfl))
            (try simp only [Act.put, List.getElem_toArray, List.getElem_cons_zero, List.getElem_cons_succ, List.setIfInBounds_toArray, List.set_cons_zero, List.set_cons_succ])
            refine wpAnyH_take (i := 2) (oi := ({ dst := some 12, op := Go.Op.indexAddr 37 (Go.Operand.tmp 10) (Go.Operand.tmp 11), type := 0, pos := "ref.go:165", after := #[{ on := 0, ground := Go.Ground.data }, { on := 1, ground := Go.Ground.data }], guard := none } : Go.Oper)) (v := ?v35) rfl (by kernel_rfl) (by kernel_rfl) (by kernel_rfl) (fun _ _ _ h => h) (Or.inl ⟨by rfl, ?hy35⟩) (by assumption) ?rest35
            case hy35 => (intro w hSw; (try dsimp only at hSw); go_simp; (try with_reducible rfl))
            (try simp only [Act.put, List.getElem_toArray, List.getElem_cons_zero, List.getElem_cons_succ, List.setIfInBounds_toArray, List.set_cons_zero, List.set_cons_succ])
            refine wpAnyH_take (i := 3) (oi := ({ dst := some 13, op := Go.Op.load 28 (Go.Operand.tmp 12), type := 28, pos := "ref.go:165", after := #[{ on := 2, ground := Go.Ground.data }], guard := none } : Go.Oper)) (v := ?v36) rfl (by kernel_rfl) (by kernel_rfl) (by kernel_rfl) (fun _ _ _ h => h) (Or.inl ⟨by rfl, ?hy36⟩) (by assumption) ?rest36
            case hy36 => (intro w hSw; (try dsimp only at hSw); go_simp; (try with_reducible rfl))
            (try simp only [Act.put, List.getElem_toArray, List.getElem_cons_zero, List.getElem_cons_succ, List.setIfInBounds_toArray, List.set_cons_zero, List.set_cons_succ])
            refine wpAnyH_ready (rs := [4]) (by kernel_rfl) (by simp) ?_
            refine AllReadyH.cons (o := ({ dst := some 14, op := Go.Op.call { callee := Go.Callee.value (Go.Operand.func 65), args := #[Go.Operand.tmp 13], argTypes := #[28] }, type := 4, pos := "ref.go:165", after := #[{ on := 3, ground := Go.Ground.data }], guard := none } : Go.Oper)) rfl (fun K hK => ?_) AllReadyH.nil
            go_simp
            (first | (go_at_call 65; refine (rmay_any _ xs[k] _ (HY.out.ext (by with_reducible (repeat (first | exact Ext.rfl_ _ | assumption | refine Ext.drew ?_ | refine Ext.drewN ?_ _ | refine Ext.alloc ?_ _ | refine Ext.trans ?_ (by assumption)))))).mono ?_; rintro e w2 ⟨rfl, hw2⟩; rw [HM.out]) | (go_at_call 74; refine (rcompare_any _ _ xs[k - 1] xs[k] _ (HP.out.ext (by with_reducible (repeat (first | exact Ext.rfl_ _ | assumption | refine Ext.drew ?_ | refine Ext.drewN ?_ _ | refine Ext.alloc ?_ _ | refine Ext.trans ?_ (by assumption))))) (HY.out.ext (by with_reducible (repeat (first | exact Ext.rfl_ _ | assumption | refine Ext.drew ?_ | refine Ext.drewN ?_ _ | refine Ext.alloc ?_ _ | refine Ext.trans ?_ (by assumption)))))).mono ?_; rintro e w3 ⟨rfl, hw3⟩; have hc := HC.out))
            (try (go_wp2_with fail))
            refine hK.out _ _ (by (try dsimp only); exact ⟨keep4' (w := wr) (by with_reducible (repeat (first | exact Ext.rfl_ _ | assumption | refine Ext.drew ?_ | refine Ext.drewN ?_ _ | refine Ext.alloc ?_ _ | refine Ext.trans ?_ (by assumption)))) E0.out E1.out E2.out E3.out, keep4' (w := wr) (by with_reducible (repeat (first | exact Ext.rfl_ _ | assumption | refine Ext.drew ?_ | refine Ext.drewN ?_ _ | refine Ext.alloc ?_ _ | refine Ext.trans ?_ (by assumption)))) P0.out P1.out P2.out P3.out⟩) (fun hHeld => ?_)
            clear hK K
            (try simp only [Act.put, List.getElem_toArray, List.getElem_cons_zero, List.getElem_cons_succ, List.setIfInBounds_toArray, List.set_cons_zero, List.set_cons_succ])
            refine wpAnyH_take (i := 5) (oi := ({ dst := some 15, op := Go.Op.unOp Go.UnOp.not 4 (Go.Operand.tmp 14), type := 4, pos := "ref.go:165", after := #[{ on := 4, ground := Go.Ground.data }], guard := none } : Go.Oper)) (v := ?v37) rfl (by kernel_rfl) (by kernel_rfl) (by kernel_rfl) (fun _ _ _ h => h) (Or.inl ⟨by rfl, ?hy37⟩) (by assumption) ?rest37
            case hy37 => (intro w hSw; (try dsimp only at hSw); go_simp; (try with_reducible rfl))
            (try simp only [Act.put, List.getElem_toArray, List.getElem_cons_zero, List.getElem_cons_succ, List.setIfInBounds_toArray, List.set_cons_zero, List.set_cons_succ])
            refine wpAnyH_take (i := 6) (oi := ({ dst := some 16, op := Go.Op.move (Go.Operand.tmp 15), type := 4, pos := "ref.go:165", after := #[{ on := 5, ground := Go.Ground.data }, { on := 4, ground := Go.Ground.chain }], guard := none } : Go.Oper)) (v := ?v38) rfl (by kernel_rfl) (by kernel_rfl) (by kernel_rfl) (fun _ _ _ h => h) (Or.inl ⟨by rfl, ?hy38⟩) (by assumption) ?rest38
            case hy38 => (intro w hSw; (try dsimp only at hSw); go_simp; (try with_reducible rfl))
            (try simp only [Act.put, List.getElem_toArray, List.getElem_cons_zero, List.getElem_cons_succ, List.setIfInBounds_toArray, List.set_cons_zero, List.set_cons_succ])
            refine wpAnyH_take (i := 7) (oi := ({ dst := some 17, op := Go.Op.move (Go.Operand.tmp 3), type := 3, pos := "ref.go:165", after := #[{ on := 6, ground := Go.Ground.guard }], guard := some (6, false) } : Go.Oper)) (v := ?v39) rfl (by kernel_rfl) (by kernel_rfl) (by kernel_rfl) (fun _ _ _ h => h) (Or.inl ⟨by rfl, ?hy39⟩) (by assumption) ?rest39
            case hy39 => (intro w hSw; (try dsimp only at hSw); go_simp; (try with_reducible rfl))
            (try simp only [Act.put, List.getElem_toArray, List.getElem_cons_zero, List.getElem_cons_succ, List.setIfInBounds_toArray, List.set_cons_zero, List.set_cons_succ])
            refine wpAnyH_take (i := 8) (oi := ({ dst := some 18, op := Go.Op.binOp Go.BinOp.gtr 3 (Go.Operand.tmp 17) (Go.Operand.const (Go.Value.int Go.IntKind.i64 0)) 3, type := 4, pos := "ref.go:165", after := #[{ on := 7, ground := Go.Ground.data }, { on := 6, ground := Go.Ground.guard }], guard := some (6, false) } : Go.Oper)) (v := ?v40) rfl (by kernel_rfl) (by kernel_rfl) (by kernel_rfl) (fun _ _ _ h => h) (Or.inl ⟨by rfl, ?hy40⟩) (by assumption) ?rest40
            case hy40 => (intro w hSw; (try dsimp only at hSw); go_simp; (try with_reducible rfl))
            (try simp only [Act.put, List.getElem_toArray, List.getElem_cons_zero, List.getElem_cons_succ, List.setIfInBounds_toArray, List.set_cons_zero, List.set_cons_succ])
            refine wpAnyH_take (i := 9) (oi := ({ dst := some 19, op := Go.Op.move (Go.Operand.tmp 18), type := 4, pos := "ref.go:165", after := #[{ on := 8, ground := Go.Ground.data }, { on := 6, ground := Go.Ground.chain }, { on := 6, ground := Go.Ground.guard }], guard := some (6, false) } : Go.Oper)) (v := ?v41) rfl (by kernel_rfl) (by kernel_rfl) (by kernel_rfl) (fun _ _ _ h => h) (Or.inl ⟨by rfl, ?hy41⟩) (by assumption) ?rest41
            case hy41 => (intro w hSw; (try dsimp only at hSw); go_simp; (try with_reducible rfl))
            (try simp only [Act.put, List.getElem_toArray, List.getElem_cons_zero, List.getElem_cons_succ, List.setIfInBounds_toArray, List.set_cons_zero, List.set_cons_succ])
            refine wpAnyH_take (i := 10) (oi := ({ dst := some 20, op := Go.Op.move (Go.Operand.tmp 0), type := 37, pos := "ref.go:165", after := #[{ on := 9, ground := Go.Ground.guard }], guard := some (9, true) } : Go.Oper)) (v := ?v42) rfl (by kernel_rfl) (by kernel_rfl) (by kernel_rfl) (fun _ _ _ h => h) (Or.inl ⟨by rfl, ?hy42⟩) (by assumption) ?rest42
            case hy42 => (intro w hSw; (try dsimp only at hSw); go_simp; (try with_reducible rfl))
            (try simp only [Act.put, List.getElem_toArray, List.getElem_cons_zero, List.getElem_cons_succ, List.setIfInBounds_toArray, List.set_cons_zero, List.set_cons_succ])
            refine wpAnyH_take (i := 11) (oi := ({ dst := some 21, op := Go.Op.move (Go.Operand.tmp 3), type := 3, pos := "ref.go:165", after := #[{ on := 9, ground := Go.Ground.guard }], guard := some (9, true) } : Go.Oper)) (v := ?v43) rfl (by kernel_rfl) (by kernel_rfl) (by kernel_rfl) (fun _ _ _ h => h) (Or.inl ⟨by rfl, ?hy43⟩) (by assumption) ?rest43
            case hy43 => (intro w hSw; (try dsimp only at hSw); go_simp; (try with_reducible rfl))
            (try simp only [Act.put, List.getElem_toArray, List.getElem_cons_zero, List.getElem_cons_succ, List.setIfInBounds_toArray, List.set_cons_zero, List.set_cons_succ])
            refine wpAnyH_take (i := 12) (oi := ({ dst := some 22, op := Go.Op.binOp Go.BinOp.sub 3 (Go.Operand.tmp 21) (Go.Operand.const (Go.Value.int Go.IntKind.i64 1)) 3, type := 3, pos := "ref.go:165", after := #[{ on := 11, ground := Go.Ground.data }, { on := 9, ground := Go.Ground.guard }], guard := some (9, true) } : Go.Oper)) (v := ?v44) rfl (by kernel_rfl) (by kernel_rfl) (by kernel_rfl) (fun _ _ _ h => h) (Or.inl ⟨by rfl, ?hy44⟩) (by assumption) ?rest44
            case hy44 => (intro w hSw; (try dsimp only at hSw); go_simp; (try with_reducible rfl))
            (try simp only [Act.put, List.getElem_toArray, List.getElem_cons_zero, List.getElem_cons_succ, List.setIfInBounds_toArray, List.set_cons_zero, List.set_cons_succ])
            refine wpAnyH_take (i := 13) (oi := ({ dst := some 23, op := Go.Op.indexAddr 37 (Go.Operand.tmp 20) (Go.Operand.tmp 22), type := 0, pos := "ref.go:165", after := #[{ on := 10, ground := Go.Ground.data }, { on := 12, ground := Go.Ground.data }, { on := 9, ground := Go.Ground.guard }], guard := some (9, true) } : Go.Oper)) (v := ?v45) rfl (by kernel_rfl) (by kernel_rfl) (by kernel_rfl) (fun _ _ _ h => h) (Or.inl ⟨by rfl, ?hy45⟩) (by assumption) ?rest45
            case hy45 => (intro w hSw; (try dsimp only at hSw); go_simp; (try with_reducible rfl))
            (try simp only [Act.put, List.getElem_toArray, List.getElem_cons_zero, List.getElem_cons_succ, List.setIfInBounds_toArray, List.set_cons_zero, List.set_cons_succ])
            refine wpAnyH_take (i := 14) (oi := ({ dst := some 24, op := Go.Op.load 28 (Go.Operand.tmp 23), type := 28, pos := "ref.go:165", after := #[{ on := 13, ground := Go.Ground.data }, { on := 9, ground := Go.Ground.guard }], guard := some (9, true) } : Go.Oper)) (v := ?v46) rfl (by kernel_rfl) (by kernel_rfl) (by kernel_rfl) (fun _ _ _ h => h) (Or.inl ⟨by rfl, ?hy46⟩) (by assumption) ?rest46
            case hy46 => (intro w hSw; (try dsimp only at hSw); go_simp; (try with_reducible rfl))
            (try simp only [Act.put, List.getElem_toArray, List.getElem_cons_zero, List.getElem_cons_succ, List.setIfInBounds_toArray, List.set_cons_zero, List.set_cons_succ])
            refine wpAnyH_take (i := 15) (oi := ({ dst := some 25, op := Go.Op.move (Go.Operand.tmp 0), type := 37, pos := "ref.go:165", after := #[{ on := 9, ground := Go.Ground.guard }], guard := some (9, true) } : Go.Oper)) (v := ?v47) rfl (by kernel_rfl) (by kernel_rfl) (by kernel_rfl) (fun _ _ _ h => h) (Or.inl ⟨by rfl, ?hy47⟩) (by assumption) ?rest47
            case hy47 => (intro w hSw; (try dsimp only at hSw); go_simp; (try with_reducible rfl))
            (try simp only [Act.put, List.getElem_toArray, List.getElem_cons_zero, List.getElem_cons_succ, List.setIfInBounds_toArray, List.set_cons_zero, List.set_cons_succ])
            refine wpAnyH_take (i := 16) (oi := ({ dst := some 26, op := Go.Op.move (Go.Operand.tmp 3), type := 3, pos := "ref.go:165", after := #[{ on := 9, ground := Go.Ground.guard }], guard := some (9, true) } : Go.Oper)) (v := ?v48) rfl (by kernel_rfl) (by kernel_rfl) (by kernel_rfl) (fun _ _ _ h => h) (Or.inl ⟨by rfl, ?hy48⟩) (by assumption) ?rest48
            case hy48 => (intro w hSw; (try dsimp only at hSw); go_simp; (try with_reducible rfl))
            (try simp only [Act.put, List.getElem_toArray, List.getElem_cons_zero, List.getElem_cons_succ, List.setIfInBounds_toArray, List.set_cons_zero, List.set_cons_succ])
            refine wpAnyH_take (i := 17) (oi := ({ dst := some 27, op := Go.Op.indexAddr 37 (Go.Operand.tmp 25) (Go.Operand.tmp 26), type := 0, pos := "ref.go:165", after := #[{ on := 15, ground := Go.Ground.data }, { on := 16, ground := Go.Ground.data }, { on := 9, ground := Go.Ground.guard }], guard := some (9, true) } : Go.Oper)) (v := ?v49) rfl (by kernel_rfl) (by kernel_rfl) (by kernel_rfl) (fun _ _ _ h => h) (Or.inl ⟨by rfl, ?hy49⟩) (by assumption) ?rest49
            case hy49 => (intro w hSw; (try dsimp only at hSw); go_simp; (try with_reducible rfl))
            (try simp only [Act.put, List.getElem_toArray, List.getElem_cons_zero, List.getElem_cons_succ, List.setIfInBounds_toArray, List.set_cons_zero, List.set_cons_succ])
            refine wpAnyH_take (i := 18) (oi := ({ dst := some 28, op := Go.Op.load 28 (Go.Operand.tmp 27), type := 28, pos := "ref.go:165", after := #[{ on := 17, ground := Go.Ground.data }, { on := 9, ground := Go.Ground.guard }], guard := some (9, true) } : Go.Oper)) (v := ?v50) rfl (by kernel_rfl) (by kernel_rfl) (by kernel_rfl) (fun _ _ _ h => h) (Or.inl ⟨by rfl, ?hy50⟩) (by assumption) ?rest50
            case hy50 => (intro w hSw; (try dsimp only at hSw); go_simp; (try with_reducible rfl))
            (try simp only [Act.put, List.getElem_toArray, List.getElem_cons_zero, List.getElem_cons_succ, List.setIfInBounds_toArray, List.set_cons_zero, List.set_cons_succ])
            refine wpAnyH_ready (rs := [19]) (by kernel_rfl) (by simp) ?_
            refine AllReadyH.cons (o := ({ dst := some 29, op := Go.Op.call { callee := Go.Callee.value (Go.Operand.func 74), args := #[Go.Operand.tmp 24, Go.Operand.tmp 28], argTypes := #[28, 28] }, type := 3, pos := "ref.go:165", after := #[{ on := 14, ground := Go.Ground.data }, { on := 18, ground := Go.Ground.data }, { on := 9, ground := Go.Ground.chain }, { on := 9, ground := Go.Ground.guard }], guard := some (9, true) } : Go.Oper)) rfl (fun K hK => ?_) AllReadyH.nil
            go_simp
            (first | (go_at_call 65; refine (rmay_any _ xs[k] _ (HY.out.ext (by with_reducible (repeat (first | exact Ext.rfl_ _ | assumption | refine Ext.drew ?_ | refine Ext.drewN ?_ _ | refine Ext.alloc ?_ _ | refine Ext.trans ?_ (by assumption)))))).mono ?_; rintro e w2 ⟨rfl, hw2⟩; rw [HM.out]) | (go_at_call 74; refine (rcompare_any _ _ xs[k - 1] xs[k] _ (HP.out.ext (by with_reducible (repeat (first | exact Ext.rfl_ _ | assumption | refine Ext.drew ?_ | refine Ext.drewN ?_ _ | refine Ext.alloc ?_ _ | refine Ext.trans ?_ (by assumption))))) (HY.out.ext (by with_reducible (repeat (first | exact Ext.rfl_ _ | assumption | refine Ext.drew ?_ | refine Ext.drewN ?_ _ | refine Ext.alloc ?_ _ | refine Ext.trans ?_ (by assumption)))))).mono ?_; rintro e w3 ⟨rfl, hw3⟩; have hc := HC.out))
            (try (go_wp2_with fail))
            refine hK.out _ _ (by (try dsimp only); exact ⟨keep4' (w := wr) (by with_reducible (repeat (first | exact Ext.rfl_ _ | assumption | refine Ext.drew ?_ | refine Ext.drewN ?_ _ | refine Ext.alloc ?_ _ | refine Ext.trans ?_ (by assumption)))) E0.out E1.out E2.out E3.out, keep4' (w := wr) (by with_reducible (repeat (first | exact Ext.rfl_ _ | assumption | refine Ext.drew ?_ | refine Ext.drewN ?_ _ | refine Ext.alloc ?_ _ | refine Ext.trans ?_ (by assumption)))) P0.out P1.out P2.out P3.out⟩) (fun hHeld => ?_)
            clear hK K
            (try simp only [Act.put, List.getElem_toArray, List.getElem_cons_zero, List.getElem_cons_succ, List.setIfInBounds_toArray, List.set_cons_zero, List.set_cons_succ])
            refine wpAnyH_take (i := 20) (oi := ({ dst := some 30, op := Go.Op.binOp Go.BinOp.geq 3 (Go.Operand.tmp 29) (Go.Operand.const (Go.Value.int Go.IntKind.i64 0)) 3, type := 4, pos := "ref.go:165", after := #[{ on := 19, ground := Go.Ground.data }, { on := 9, ground := Go.Ground.guard }], guard := some (9, true) } : Go.Oper)) (v := ?v51) rfl (by kernel_rfl) (by kernel_rfl) (by kernel_rfl) (fun _ _ _ h => h) (Or.inl ⟨by rfl, ?hy51⟩) (by assumption) ?rest51
            case hy51 => (intro w hSw; (try dsimp only at hSw); go_simp; (try with_reducible rfl))
            (try simp only [Act.put, List.getElem_toArray, List.getElem_cons_zero, List.getElem_cons_succ, List.setIfInBounds_toArray, List.set_cons_zero, List.set_cons_succ])
            refine wpAnyH_take (i := 21) (oi := ({ dst := some 31, op := Go.Op.pick (Go.Operand.tmp 19) (Go.Operand.tmp 30) (Go.Operand.const (Go.Value.bool false)), type := 4, pos := "ref.go:165", after := #[{ on := 9, ground := Go.Ground.data }, { on := 20, ground := Go.Ground.data }, { on := 6, ground := Go.Ground.guard }], guard := some (6, false) } : Go.Oper)) (v := ?v52) rfl (by kernel_rfl) (by kernel_rfl) (by kernel_rfl) (fun _ _ _ h => h) (Or.inl ⟨by rfl, ?hy52⟩) (by assumption) ?rest52
            case hy52 => (intro w hSw; (try dsimp only at hSw); go_simp; (try with_reducible rfl))
            (try simp only [Act.put, List.getElem_toArray, List.getElem_cons_zero, List.getElem_cons_succ, List.setIfInBounds_toArray, List.set_cons_zero, List.set_cons_succ])
            refine wpAnyH_take (i := 22) (oi := ({ dst := some 32, op := Go.Op.pick (Go.Operand.tmp 16) (Go.Operand.const (Go.Value.bool true)) (Go.Operand.tmp 31), type := 4, pos := "ref.go:165", after := #[{ on := 6, ground := Go.Ground.data }, { on := 21, ground := Go.Ground.data }], guard := none } : Go.Oper)) (v := ?v53) rfl (by kernel_rfl) (by kernel_rfl) (by kernel_rfl) (fun _ _ _ h => h) (Or.inl ⟨by rfl, ?hy53⟩) (by assumption) ?rest53
            case hy53 => (intro w hSw; (try dsimp only at hSw); go_simp; (try with_reducible rfl))
            (try simp only [Act.put, List.getElem_toArray, List.getElem_cons_zero, List.getElem_cons_succ, List.setIfInBounds_toArray, List.set_cons_zero, List.set_cons_succ])
            refine wpAnyH_done (by kernel_rfl) ?_ _
            all_goals
              have x3 : Ext wr w3 := (by with_reducible (repeat (first | exact Ext.rfl_ _ | assumption | refine Ext.drew ?_ | refine Ext.drewN ?_ _ | refine Ext.alloc ?_ _ | refine Ext.trans ?_ (by assumption))))
              go_wp2
              go_roundw
              case rel => exact ⟨k + 1, by omega, by go_num, HG, HE.out.trans x3⟩
              case measure => simp [intOf]; omega
      · have hm' : mayE xs[k] = false := by simpa using hm
        have HM := Lib.hid hm'
        have hb : ¬ behO (xs.take k).getLast? xs[k] = true := by unfold behO; rw [hm']; simp
        have HN := Lib.hid (ris_end hx HR.out hb)
        have hres : false = riseB xs := by
          unfold riseB
          rw [HN.out, List.length_take]
          symm
          apply decide_eq_false
          omega
        have HRES := Lib.hid hres
        clear hm hm' hb hres
        go_wp2
        refine wp_region_held_drew (S := (fun w' => w'.cell? ⟨b, o + k * 4, none⟩ = some (.slice A1 n1 c1) ∧ w'.cell? ⟨b, o + k * 4 + 1, none⟩ = some (.int .i64 xs[k].seq) ∧ w'.cell? ⟨b, o + k * 4 + 2, none⟩ = some (.int .i64 xs[k].kind) ∧ w'.cell? ⟨b, o + k * 4 + 3, none⟩ = some (.slice A2 n2 c2))) (by kernel_rfl) (by (try dsimp only); exact keep4' (w := wr) (by with_reducible (repeat (first | exact Ext.rfl_ _ | assumption | refine Ext.drew ?_ | refine Ext.drewN ?_ _ | refine Ext.alloc ?_ _ | refine Ext.trans ?_ (by assumption)))) E0.out E1.out E2.out E3.out) (fun hHeld => ?_)
        refine wpAnyH_take (i := 0) (oi := ({ dst := some 10, op := Go.Op.move (Go.Operand.tmp 0), type := 37, pos := "ref.go:165", after := #[], guard := none } : Go.Oper)) (v := ?v54) rfl (by kernel_rfl) (by kernel_rfl) (by kernel_rfl) (fun _ _ _ h => h) (Or.inl ⟨by rfl, ?hy54⟩) (by assumption) ?rest54
        case hy54 => (intro w hSw; (try dsimp only at hSw); go_simp; (try with_reducible rfl))
        (try simp only [Act.put, List.getElem_toArray, List.getElem_cons_zero, List.getElem_cons_succ, List.setIfInBounds_toArray, List.set_cons_zero, List.set_cons_succ])
        refine wpAnyH_take (i := 1) (oi := ({ dst := some 11, op := Go.Op.move (Go.Operand.tmp 3), type := 3, pos := "ref.go:165", after := #[], guard := none } : Go.Oper)) (v := ?v55) rfl (by kernel_rfl) (by kernel_rfl) (by kernel_rfl) (fun _ _ _ h => h) (Or.inl ⟨by rfl, ?hy55⟩) (by assumption) ?rest55
        case hy55 => (intro w hSw; (try dsimp only at hSw); go_simp; (try with_reducible rfl))
        (try simp only [Act.put, List.getElem_toArray, List.getElem_cons_zero, List.getElem_cons_succ, List.setIfInBounds_toArray, List.set_cons_zero, List.set_cons_succ])
        refine wpAnyH_take (i := 2) (oi := ({ dst := some 12, op := Go.Op.indexAddr 37 (Go.Operand.tmp 10) (Go.Operand.tmp 11), type := 0, pos := "ref.go:165", after := #[{ on := 0, ground := Go.Ground.data }, { on := 1, ground := Go.Ground.data }], guard := none } : Go.Oper)) (v := ?v56) rfl (by kernel_rfl) (by kernel_rfl) (by kernel_rfl) (fun _ _ _ h => h) (Or.inl ⟨by rfl, ?hy56⟩) (by assumption) ?rest56
        case hy56 => (intro w hSw; (try dsimp only at hSw); go_simp; (try with_reducible rfl))
        (try simp only [Act.put, List.getElem_toArray, List.getElem_cons_zero, List.getElem_cons_succ, List.setIfInBounds_toArray, List.set_cons_zero, List.set_cons_succ])
        refine wpAnyH_take (i := 3) (oi := ({ dst := some 13, op := Go.Op.load 28 (Go.Operand.tmp 12), type := 28, pos := "ref.go:165", after := #[{ on := 2, ground := Go.Ground.data }], guard := none } : Go.Oper)) (v := ?v57) rfl (by kernel_rfl) (by kernel_rfl) (by kernel_rfl) (fun _ _ _ h => h) (Or.inl ⟨by rfl, ?hy57⟩) (by assumption) ?rest57
        case hy57 => (intro w hSw; (try dsimp only at hSw); go_simp; (try with_reducible rfl))
        (try simp only [Act.put, List.getElem_toArray, List.getElem_cons_zero, List.getElem_cons_succ, List.setIfInBounds_toArray, List.set_cons_zero, List.set_cons_succ])
        refine wpAnyH_ready (rs := [4]) (by kernel_rfl) (by simp) ?_
        refine AllReadyH.cons (o := ({ dst := some 14, op := Go.Op.call { callee := Go.Callee.value (Go.Operand.func 65), args := #[Go.Operand.tmp 13], argTypes := #[28] }, type := 4, pos := "ref.go:165", after := #[{ on := 3, ground := Go.Ground.data }], guard := none } : Go.Oper)) rfl (fun K hK => ?_) AllReadyH.nil
        go_simp
        refine (rmay_any _ xs[k] _ (HY.out.ext (by with_reducible (repeat (first | exact Ext.rfl_ _ | assumption | refine Ext.drew ?_ | refine Ext.drewN ?_ _ | refine Ext.alloc ?_ _ | refine Ext.trans ?_ (by assumption)))))).mono ?_; rintro e w2 ⟨rfl, hw2⟩; rw [HM.out]
        (try (go_wp2_with fail))
        refine hK.out _ _ (by (try dsimp only); exact keep4' (w := wr) (by with_reducible (repeat (first | exact Ext.rfl_ _ | assumption | refine Ext.drew ?_ | refine Ext.drewN ?_ _ | refine Ext.alloc ?_ _ | refine Ext.trans ?_ (by assumption)))) E0.out E1.out E2.out E3.out) (fun hHeld => ?_)
        clear hK K
        (try simp only [Act.put, List.getElem_toArray, List.getElem_cons_zero, List.getElem_cons_succ, List.setIfInBounds_toArray, List.set_cons_zero, List.set_cons_succ])
        refine wpAnyH_take (i := 5) (oi := ({ dst := some 15, op := Go.Op.unOp Go.UnOp.not 4 (Go.Operand.tmp 14), type := 4, pos := "ref.go:165", after := #[{ on := 4, ground := Go.Ground.data }], guard := none } : Go.Oper)) (v := ?v58) rfl (by kernel_rfl) (by kernel_rfl) (by kernel_rfl) (fun _ _ _ h => h) (Or.inl ⟨by rfl, ?hy58⟩) (by assumption) ?rest58
        case hy58 => (intro w hSw; (try dsimp only at hSw); go_simp; (try with_reducible rfl))
        (try simp only [Act.put, List.getElem_toArray, List.getElem_cons_zero, List.getElem_cons_succ, List.setIfInBounds_toArray, List.set_cons_zero, List.set_cons_succ])
        refine wpAnyH_take (i := 6) (oi := ({ dst := some 16, op := Go.Op.move (Go.Operand.tmp 15), type := 4, pos := "ref.go:165", after := #[{ on := 5, ground := Go.Ground.data }, { on := 4, ground := Go.Ground.chain }], guard := none } : Go.Oper)) (v := ?v59) rfl (by kernel_rfl) (by kernel_rfl) (by kernel_rfl) (fun _ _ _ h => h) (Or.inl ⟨by rfl, ?hy59⟩) (by assumption) ?rest59
        case hy59 => (intro w hSw; (try dsimp only at hSw); go_simp; (try with_reducible rfl))
        (try simp only [Act.put, List.getElem_toArray, List.getElem_cons_zero, List.getElem_cons_succ, List.setIfInBounds_toArray, List.set_cons_zero, List.set_cons_succ])
        refine wpAnyH_take (i := 7) (oi := ({ dst := some 17, op := Go.Op.move (Go.Operand.tmp 3), type := 3, pos := "ref.go:165", after := #[{ on := 6, ground := Go.Ground.guard }], guard := some (6, false) } : Go.Oper)) (v := undef) rfl (by kernel_rfl) (by kernel_rfl) (by kernel_rfl) (fun _ _ _ h => h) (Or.inr ⟨by rfl, rfl⟩) (by assumption) ?_
        (try simp only [Act.put, List.getElem_toArray, List.getElem_cons_zero, List.getElem_cons_succ, List.setIfInBounds_toArray, List.set_cons_zero, List.set_cons_succ])
        refine wpAnyH_take (i := 8) (oi := ({ dst := some 18, op := Go.Op.binOp Go.BinOp.gtr 3 (Go.Operand.tmp 17) (Go.Operand.const (Go.Value.int Go.IntKind.i64 0)) 3, type := 4, pos := "ref.go:165", after := #[{ on := 7, ground := Go.Ground.data }, { on := 6, ground := Go.Ground.guard }], guard := some (6, false) } : Go.Oper)) (v := undef) rfl (by kernel_rfl) (by kernel_rfl) (by kernel_rfl) (fun _ _ _ h => h) (Or.inr ⟨by rfl, rfl⟩) (by assumption) ?_
        (try simp only [Act.put, List.getElem_toArray, List.getElem_cons_zero, List.getElem_cons_succ, List.setIfInBounds_toArray, List.set_cons_zero, List.set_cons_succ])
        refine wpAnyH_take (i := 9) (oi := ({ dst := some 19, op := Go.Op.move (Go.Operand.tmp 18), type := 4, pos := "ref.go:165", after := #[{ on := 8, ground := Go.Ground.data }, { on := 6, ground := Go.Ground.chain }, { on := 6, ground := Go.Ground.guard }], guard := some (6, false) } : Go.Oper)) (v := undef) rfl (by kernel_rfl) (by kernel_rfl) (by kernel_rfl) (fun _ _ _ h => h) (Or.inr ⟨by rfl, rfl⟩) (by assumption) ?_
        (try simp only [Act.put, List.getElem_toArray, List.getElem_cons_zero, List.getElem_cons_succ, List.setIfInBounds_toArray, List.set_cons_zero, List.set_cons_succ])
        refine wpAnyH_take (i := 10) (oi := ({ dst := some 20, op := Go.Op.move (Go.Operand.tmp 0), type := 37, pos := "ref.go:165", after := #[{ on := 9, ground := Go.Ground.guard }], guard := some (9, true) } : Go.Oper)) (v := undef) rfl (by kernel_rfl) (by kernel_rfl) (by kernel_rfl) (fun _ _ _ h => h) (Or.inr ⟨by rfl, rfl⟩) (by assumption) ?_
        (try simp only [Act.put, List.getElem_toArray, List.getElem_cons_zero, List.getElem_cons_succ, List.setIfInBounds_toArray, List.set_cons_zero, List.set_cons_succ])
        refine wpAnyH_take (i := 11) (oi := ({ dst := some 21, op := Go.Op.move (Go.Operand.tmp 3), type := 3, pos := "ref.go:165", after := #[{ on := 9, ground := Go.Ground.guard }], guard := some (9, true) } : Go.Oper)) (v := undef) rfl (by kernel_rfl) (by kernel_rfl) (by kernel_rfl) (fun _ _ _ h => h) (Or.inr ⟨by rfl, rfl⟩) (by assumption) ?_
        (try simp only [Act.put, List.getElem_toArray, List.getElem_cons_zero, List.getElem_cons_succ, List.setIfInBounds_toArray, List.set_cons_zero, List.set_cons_succ])
        refine wpAnyH_take (i := 12) (oi := ({ dst := some 22, op := Go.Op.binOp Go.BinOp.sub 3 (Go.Operand.tmp 21) (Go.Operand.const (Go.Value.int Go.IntKind.i64 1)) 3, type := 3, pos := "ref.go:165", after := #[{ on := 11, ground := Go.Ground.data }, { on := 9, ground := Go.Ground.guard }], guard := some (9, true) } : Go.Oper)) (v := undef) rfl (by kernel_rfl) (by kernel_rfl) (by kernel_rfl) (fun _ _ _ h => h) (Or.inr ⟨by rfl, rfl⟩) (by assumption) ?_
        (try simp only [Act.put, List.getElem_toArray, List.getElem_cons_zero, List.getElem_cons_succ, List.setIfInBounds_toArray, List.set_cons_zero, List.set_cons_succ])
        refine wpAnyH_take (i := 13) (oi := ({ dst := some 23, op := Go.Op.indexAddr 37 (Go.Operand.tmp 20) (Go.Operand.tmp 22), type := 0, pos := "ref.go:165", after := #[{ on := 10, ground := Go.Ground.data }, { on := 12, ground := Go.Ground.data }, { on := 9, ground := Go.Ground.guard }], guard := some (9, true) } : Go.Oper)) (v := undef) rfl (by kernel_rfl) (by kernel_rfl) (by kernel_rfl) (fun _ _ _ h => h) (Or.inr ⟨by rfl, rfl⟩) (by assumption) ?_
        (try simp only [Act.put, List.getElem_toArray, List.getElem_cons_zero, List.getElem_cons_succ, List.setIfInBounds_toArray, List.set_cons_zero, List.set_cons_succ])
        refine wpAnyH_take (i := 14) (oi := ({ dst := some 24, op := Go.Op.load 28 (Go.Operand.tmp 23), type := 28, pos := "ref.go:165", after := #[{ on := 13, ground := Go.Ground.data }, { on := 9, ground := Go.Ground.guard }], guard := some (9, true) } : Go.Oper)) (v := undef) rfl (by kernel_rfl) (by kernel_rfl) (by kernel_rfl) (fun _ _ _ h => h) (Or.inr ⟨by rfl, rfl⟩) (by assumption) ?_
        (try simp only [Act.put, List.getElem_toArray, List.getElem_cons_zero, List.getElem_cons_succ, List.setIfInBounds_toArray, List.set_cons_zero, List.set_cons_succ])
        refine wpAnyH_take (i := 15) (oi := ({ dst := some 25, op := Go.Op.move (Go.Operand.tmp 0), type := 37, pos := "ref.go:165", after := #[{ on := 9, ground := Go.Ground.guard }], guard := some (9, true) } : Go.Oper)) (v := undef) rfl (by kernel_rfl) (by kernel_rfl) (by kernel_rfl) (fun _ _ _ h => h) (Or.inr ⟨by rfl, rfl⟩) (by assumption) ?_
        (try simp only [Act.put, List.getElem_toArray, List.getElem_cons_zero, List.getElem_cons_succ, List.setIfInBounds_toArray, List.set_cons_zero, List.set_cons_succ])
        refine wpAnyH_take (i := 16) (oi := ({ dst := some 26, op := Go.Op.move (Go.Operand.tmp 3), type := 3, pos := "ref.go:165", after := #[{ on := 9, ground := Go.Ground.guard }], guard := some (9, true) } : Go.Oper)) (v := undef) rfl (by kernel_rfl) (by kernel_rfl) (by kernel_rfl) (fun _ _ _ h => h) (Or.inr ⟨by rfl, rfl⟩) (by assumption) ?_
        (try simp only [Act.put, List.getElem_toArray, List.getElem_cons_zero, List.getElem_cons_succ, List.setIfInBounds_toArray, List.set_cons_zero, List.set_cons_succ])
        refine wpAnyH_take (i := 17) (oi := ({ dst := some 27, op := Go.Op.indexAddr 37 (Go.Operand.tmp 25) (Go.Operand.tmp 26), type := 0, pos := "ref.go:165", after := #[{ on := 15, ground := Go.Ground.data }, { on := 16, ground := Go.Ground.data }, { on := 9, ground := Go.Ground.guard }], guard := some (9, true) } : Go.Oper)) (v := undef) rfl (by kernel_rfl) (by kernel_rfl) (by kernel_rfl) (fun _ _ _ h => h) (Or.inr ⟨by rfl, rfl⟩) (by assumption) ?_
        (try simp only [Act.put, List.getElem_toArray, List.getElem_cons_zero, List.getElem_cons_succ, List.setIfInBounds_toArray, List.set_cons_zero, List.set_cons_succ])
        refine wpAnyH_take (i := 18) (oi := ({ dst := some 28, op := Go.Op.load 28 (Go.Operand.tmp 27), type := 28, pos := "ref.go:165", after := #[{ on := 17, ground := Go.Ground.data }, { on := 9, ground := Go.Ground.guard }], guard := some (9, true) } : Go.Oper)) (v := undef) rfl (by kernel_rfl) (by kernel_rfl) (by kernel_rfl) (fun _ _ _ h => h) (Or.inr ⟨by rfl, rfl⟩) (by assumption) ?_
        (try simp only [Act.put, List.getElem_toArray, List.getElem_cons_zero, List.getElem_cons_succ, List.setIfInBounds_toArray, List.set_cons_zero, List.set_cons_succ])
        refine wpAnyH_take (i := 19) (oi := ({ dst := some 29, op := Go.Op.call { callee := Go.Callee.value (Go.Operand.func 74), args := #[Go.Operand.tmp 24, Go.Operand.tmp 28], argTypes := #[28, 28] }, type := 3, pos := "ref.go:165", after := #[{ on := 14, ground := Go.Ground.data }, { on := 18, ground := Go.Ground.data }, { on := 9, ground := Go.Ground.chain }, { on := 9, ground := Go.Ground.guard }], guard := some (9, true) } : Go.Oper)) (v := undef) rfl (by kernel_rfl) (by kernel_rfl) (by kernel_rfl) (fun _ _ _ h => h) (Or.inr ⟨by rfl, rfl⟩) (by assumption) ?_
        (try simp only [Act.put, List.getElem_toArray, List.getElem_cons_zero, List.getElem_cons_succ, List.setIfInBounds_toArray, List.set_cons_zero, List.set_cons_succ])
        refine wpAnyH_take (i := 20) (oi := ({ dst := some 30, op := Go.Op.binOp Go.BinOp.geq 3 (Go.Operand.tmp 29) (Go.Operand.const (Go.Value.int Go.IntKind.i64 0)) 3, type := 4, pos := "ref.go:165", after := #[{ on := 19, ground := Go.Ground.data }, { on := 9, ground := Go.Ground.guard }], guard := some (9, true) } : Go.Oper)) (v := undef) rfl (by kernel_rfl) (by kernel_rfl) (by kernel_rfl) (fun _ _ _ h => h) (Or.inr ⟨by rfl, rfl⟩) (by assumption) ?_
        (try simp only [Act.put, List.getElem_toArray, List.getElem_cons_zero, List.getElem_cons_succ, List.setIfInBounds_toArray, List.set_cons_zero, List.set_cons_succ])
        refine wpAnyH_take (i := 21) (oi := ({ dst := some 31, op := Go.Op.pick (Go.Operand.tmp 19) (Go.Operand.tmp 30) (Go.Operand.const (Go.Value.bool false)), type := 4, pos := "ref.go:165", after := #[{ on := 9, ground := Go.Ground.data }, { on := 20, ground := Go.Ground.data }, { on := 6, ground := Go.Ground.guard }], guard := some (6, false) } : Go.Oper)) (v := undef) rfl (by kernel_rfl) (by kernel_rfl) (by kernel_rfl) (fun _ _ _ h => h) (Or.inr ⟨by rfl, rfl⟩) (by assumption) ?_
        (try simp only [Act.put, List.getElem_toArray, List.getElem_cons_zero, List.getElem_cons_succ, List.setIfInBounds_toArray, List.set_cons_zero, List.set_cons_succ])
        refine wpAnyH_take (i := 22) (oi := ({ dst := some 32, op := Go.Op.pick (Go.Operand.tmp 16) (Go.Operand.const (Go.Value.bool true)) (Go.Operand.tmp 31), type := 4, pos := "ref.go:165", after := #[{ on := 6, ground := Go.Ground.data }, { on := 21, ground := Go.Ground.data }], guard := none } : Go.Oper)) (v := ?v60) rfl (by kernel_rfl) (by kernel_rfl) (by kernel_rfl) (fun _ _ _ h => h) (Or.inl ⟨by rfl, ?hy60⟩) (by assumption) ?rest60
        case hy60 => (intro w hSw; (try dsimp only at hSw); go_simp; (try with_reducible rfl))
        (try simp only [Act.put, List.getElem_toArray, List.getElem_cons_zero, List.getElem_cons_succ, List.setIfInBounds_toArray, List.set_cons_zero, List.set_cons_succ])
        refine wpAnyH_done (by kernel_rfl) ?_ _
        all_goals
          go_wp2
          go_ret
          exact ⟨ret_b HRES.out, HE.out.trans (by with_reducible (repeat (first | exact Ext.rfl_ _ | assumption | refine Ext.drew ?_ | refine Ext.drewN ?_ _ | refine Ext.alloc ?_ _ | refine Ext.trans ?_ (by assumption))))⟩
    · obtain rfl : k = n := by omega
      have hres : true = riseB xs := by
        unfold riseB
        rw [HR.out, List.take_of_length_le (by omega), List.drop_eq_nil_of_le (by omega)]
        simp [ris]
      have HRES := Lib.hid hres
      have HE := Lib.hid hE
      clear hres hE
      go_wp2
      go_ret
      exact ⟨ret_b HRES.out, HE.out⟩

set_option maxRecDepth 100000 in
set_option maxHeartbeats 1000000 in
theorem rmayL_any (A : Option Addr) (n c : Nat) (xs : List Ent) (w : World) (hl : RdL w A n xs) (hnc : n ≤ c) :
    Calls Try.prog 26 #[.slice A n c] w fun e w' => e = .returned (.bool (mayL xs)) ∧ Ext w w' := by
  have HL := Lib.hid hl
  have hxl := hl.1
  clear hl
  go_enter Try.func26, Try.ntmps26
  by_cases h1 : (1 : Int) ≤ (n : Int)
  · by_cases h2 : (n : Int) ≤ 1024
    · have hres : mayL xs = riseB xs := by unfold mayL; rw [hxl, decide_eq_true (by omega), Bool.true_and]
      have HRES := Lib.hid hres
      have d1 : decide ((1 : Int) ≤ (n : Int)) = true := decide_eq_true h1
      have d2 : decide ((n : Int) ≤ 1024) = true := decide_eq_true h2
      clear hres
      go_wp2_with fail
      refine (rrising_any _ n c xs _ HL.out hnc).mono ?_
      rintro e w1 ⟨rfl, hw1⟩
      obtain ⟨rb, hrb⟩ : ∃ rb, rb = riseB xs := ⟨_, rfl⟩
      rw [← hrb]
      have HRB := Lib.hid hrb
      clear hrb
      go_wp2
      go_ret
      exact ⟨ret_b (by rw [HRES.out, HRB.out]), hw1⟩
    · have hres : false = mayL xs := by unfold mayL; rw [hxl, decide_eq_false (by omega), Bool.false_and]
      have HRES := Lib.hid hres
      have d1 : decide ((1 : Int) ≤ (n : Int)) = true := decide_eq_true h1
      have d2 : decide ((n : Int) ≤ 1024) = false := decide_eq_false h2
      have d3 : decide (n ≤ 1024) = false := decide_eq_false (by omega)
      clear hres
      go_wp2
      go_ret
      exact ⟨ret_b HRES.out, Ext.rfl_ _⟩
  · have hres : false = mayL xs := by unfold mayL; rw [hxl, decide_eq_false (by omega), Bool.false_and]
    have HRES := Lib.hid hres
    have d1 : decide ((1 : Int) ≤ (n : Int)) = false := decide_eq_false h1
    have d3 : decide (1 ≤ n) = false := decide_eq_false (by omega)
    clear hres
    go_wp2
    go_ret
    exact ⟨ret_b HRES.out, Ext.rfl_ _⟩


open Go.RowKit

theorem posI_at {xs : List Ent} {k : Nat} (h : k < xs.length) : posI (xs.take (k + 1)) = posI (xs.take k) ++ (if k % 4 = 0 then [((bodB (xs.take k)).length : Int)] else []) := by
  unfold posI
  rw [posB_at h, List.map_append]
  split <;> rfl
theorem keyL_take {xs : List Ent} {k : Nat} (h0 : 0 < k) (hk : k ≤ xs.length) : keyL [] (xs.take k) = (xs[k - 1]'(by omega)).key := by
  unfold keyL
  rw [last_take h0 hk]
theorem posI_len (xs : List Ent) : (posI xs).length = (xs.length + 3) / 4 := by unfold posI; rw [List.length_map, posB_len]
theorem posF_le (i o : Nat) (p : Bs) (xs : List Ent) : ∀ z ∈ posF i o p xs, z ≤ o + (bodF i p xs).length := by
  induction xs generalizing i o p with
  | nil => intro z hz; simp [posF] at hz
  | cons e xs ih =>
    intro z hz
    rw [posF] at hz
    rw [bodF, List.length_append]
    rcases List.mem_append.1 hz with h | h
    · split at h
      · simp at h; omega
      · simp at h
    · have := ih _ _ _ z h; omega

set_option maxRecDepth 100000 in
set_option maxHeartbeats 8000000 in
theorem rwriteB_any (A : Option Addr) (n c : Nat) (xs : List Ent) (w : World) (hl : RdL w A n xs) (hnc : n ≤ c) (hmay : mayL xs = true) :
    Calls Try.prog 28 #[.slice A n c] w fun e w' => ∃ vb va, e = .returned (.tuple #[vb, va]) ∧ OwnB w' w.heap.size vb (blkB xs) ∧ OwnI w' w.heap.size va (posI xs) ∧ Ext w w' := by
  have HL := Lib.hid hl
  have hxl := hl.1
  clear hl
  have hmm := hmay
  unfold mayL riseB at hmm
  simp at hmm
  obtain ⟨⟨hn1, hn2⟩, hris⟩ := hmm
  have hmE : ∀ x ∈ xs, mayE x = true := ris_mem (by unfold riseB; simpa using hris)
  have HME := Lib.hid hmE
  have n3 : (n : Int) ≤ 1024 := by omega
  clear hmE hris hmay
  go_enter Try.func28, Try.ntmps28
  go_wp2
  go_loopw [4, 5, 6] (fun vb va i wr => ∃ k : Nat, k ≤ n ∧ i = .int .i64 k ∧ Ext w wr ∧ OwnB wr w.heap.size vb (bodB (xs.take k)) ∧ OwnI wr w.heap.size va (posI (xs.take k))) (fun _ _ i _ => n - (intOf i).toNat)
  case atStart => exact ⟨0, Nat.zero_le _, rfl, Ext.rfl_ _, OwnB.nil _ _, OwnI.nil _ _⟩
  case round =>
    obtain ⟨k, hk, rfl, hX, hB, hI⟩ := hrel
    by_cases hlt : k < n
    · have hltI : (k : Int) < (n : Int) := by omega
      have hncI : (n : Int) ≤ (c : Int) := by omega
      have hjc2 : k < c := by omega
      obtain ⟨b, o, rfl, _⟩ := HL.out.2.2 (by omega)
      obtain ⟨A1, n1, c1, A2, n2, c2, hx, e0, e1, e2, e3, hry⟩ := r6at HL.out hlt (Ext.rfl_ w)
      obtain ⟨rk, rv, b1, b2, l1, l2, _, _⟩ := RdE.parts hry
      have hbl := bodB_take k HME.out (by omega)
      have hmx : mayE xs[k] = true := HME.out _ (List.getElem_mem hx)
      have hM := mayE_iff.1 hmx
      have hkn0 : 1 ≤ n1 := by rw [← rk.1]; exact hM.1
      have hkn : n1 ≤ 32 := by rw [← rk.1]; exact hM.2.1
      have hs1 : 1 ≤ xs[k].seq := hM.2.2.1
      have hs2 : xs[k].seq ≤ 2147483647 := hM.2.2.2.1
      have hvn : n2 ≤ 65536 := by rw [← rv.1]; exact hM.2.2.2.2.1
      have hk12 : xs[k].kind = 1 ∨ xs[k].kind = 2 := hM.2.2.2.2.2.imp id (fun h => h.1)
      have hkd1 : 1 ≤ xs[k].kind := by omega
      have hkd2 : xs[k].kind ≤ 2 := by omega
      have j2 := numB_length xs[k].seq.toNat
      have j3 := numB_length xs[k].kind.toNat
      have j4 : (bytB xs[k].val).length ≤ 65546 := by unfold bytB; have := numB_length xs[k].val.length; have := rv.1; simp; omega
      have hq1 : IntKind.u64.wrap xs[k].seq = xs[k].seq := by rw [IntKind.wrap_u64]; omega
      have hq2 : IntKind.u64.wrap xs[k].kind = xs[k].kind := by rw [IntKind.wrap_u64]; omega
      have E0 := Lib.hid e0
      have E1 := Lib.hid e1
      have E2 := Lib.hid e2
      have E3 := Lib.hid e3
      have KK := Lib.hid rk
      have KV := Lib.hid rv
      have RL := Lib.hid rk.1
      have HX := Lib.hid hX
      have HB0 := Lib.hid hB
      have HI0 := Lib.hid hI
      clear hX hB hI hry e0 e1 e2 e3 rk rv hmx hM hk12
      obtain ⟨g, oo, rfl, _⟩ := KK.out.at_ (by omega)
      have j1 : ∀ z, (bytB (xs[k].key.drop z)).length ≤ 42 := fun z => by unfold bytB; have := numB_length (xs[k].key.drop z).length; have := RL.out; simp at *; omega
      by_cases r4 : k % 4 = 0
      · have r4i : (((k : Int) % 4) == 0) = true := by simp; omega
        have ej1 := j1 0
        have ej0 := numB_length (0 : Int).toNat
        have eK : (if (k % 4 == 0) = true then 0 else shr (keyL [] (xs.take k)) xs[k].key) = 0 := if_pos (by simpa using r4)
        obtain ⟨Ab, cb, rfl, hcb, _, _⟩ := HB0.out.form
        obtain ⟨Aa, ca, rfl, _⟩ := own_form HI0.out
        go_wp2_with (first | (at_builtin; refine wp_appI rfl _ _ rfl w.heap.size _ (posI (xs.take k)) rfl wr 3 ((bodB (xs.take k)).length : Int) rfl (HI0.out.ext (by with_reducible (repeat (first | exact Ext.rfl_ _ | assumption | refine Ext.drew ?_ | refine Ext.drewN ?_ _ | refine Ext.alloc ?_ _ | refine Ext.trans ?_ (by assumption))))) rfl (by rw [posI_len, List.length_take]; omega) (Ext.size (HX.out.trans (by with_reducible (repeat (first | exact Ext.rfl_ _ | assumption | refine Ext.drew ?_ | refine Ext.drewN ?_ _ | refine Ext.alloc ?_ _ | refine Ext.trans ?_ (by assumption)))))) ?_; intro v0 w0' o0 kx0 g0; have XA := Lib.hid ((HX.out.trans (Ext.alloc (Ext.rfl_ wr) (.cells #[.int .i64 ((bodB (xs.take k)).length : Int)] 3))).grown g0 (fun q hq => (World.ownsRow.lt (HI0.out.ext (Ext.alloc (Ext.rfl_ wr) (.cells #[.int .i64 ((bodB (xs.take k)).length : Int)] 3))) q hq).1)); have HI1 := Lib.hid o0; have HB1 := Lib.hid ((HB0.out.ext (Ext.alloc (Ext.rfl_ wr) (.cells #[.int .i64 ((bodB (xs.take k)).length : Int)] 3))).kx kx0 (by decide)); clear o0 kx0 g0))
        obtain ⟨wq, hwq⟩ : ∃ wq, wq = w0' := ⟨_, rfl⟩
        rw [← hwq] at XA HI1 HB1 ⊢
        clear hwq
        have HI : Hid (OwnI wq w.heap.size v0 (posI (xs.take (k + 1)))) := Lib.hid (by rw [posI_at hx, if_pos r4]; exact HI1.out)
        have HB := HB1
        clear HI0 HB0 HX HI1 HB1
        have HX := XA
        have XAQ : Hid (Ext wq wq) := Lib.hid (Ext.rfl_ _)
        have KD : Rd w (some ⟨g, oo, none⟩) n1 (xs[k].key.drop 0) := by simpa using KK.out
        refine (r1number_z 0 _ (by omega) (by omega)).mono ?_
        rintro e w1 ⟨v1, rfl, o1, hw1⟩
        obtain ⟨A1', n1', c1', rfl, l1, r1, i1⟩ := o1.formN
        have R1 := Lib.hid r1
        have B1 := Lib.hid (HB.out.ext (XAQ.out.trans hw1))
        have I1 := Lib.hid (HI.out.ext (XAQ.out.trans hw1))
        have Z1 := Lib.hid (HX.out.trans (XAQ.out.trans hw1))
        clear o1 r1 i1 hw1
        go_wp2_with (first | (at_builtin; refine wp_app rfl _ _ rfl w.heap.size _ (bodB (xs.take k)) rfl B1.out A1' n1' c1' _ rfl R1.out (by unfold B47; omega) (Ext.size Z1.out) ?_; intro v2 w2 o2 g2; have Z2 := Lib.hid (Z1.out.growBy g2 B1.out (Nat.le_refl _)); have I2 := Lib.hid (I1.out.kx (Kx.of_row g2 B1.out.out) (by decide)); have O2 := Lib.hid o2; clear o2 g2; have e0 := Z2.out.keeps _ _ _ E0.out))
        refine (r1bytes_any _ _ _ (xs[k].key.drop 0) _ (KD.ext Z2.out) (by unfold B40; omega)).mono ?_
        rintro e w3 ⟨v3, rfl, o3, hw3⟩
        obtain ⟨A3, n3', c3, rfl, l3, r3, i3⟩ := o3.formN
        have R3 := Lib.hid r3
        have B3 := Lib.hid (O2.out.ext hw3)
        have I3 := Lib.hid (I2.out.ext hw3)
        have Z3 := Lib.hid (Z2.out.trans hw3)
        clear o3 r3 i3 hw3 e0
        go_wp2_with (first | (at_builtin; refine wp_app rfl _ _ rfl w.heap.size _ _ rfl B3.out A3 n3' c3 _ rfl R3.out (by simp only [List.length_append]; unfold B47; omega) (Ext.size Z3.out) ?_; intro v4 w4' o4 g4; have Z4 := Lib.hid (Z3.out.growBy g4 B3.out (Nat.le_refl _)); have I4 := Lib.hid (I3.out.kx (Kx.of_row g4 B3.out.out) (by decide)); have O4 := Lib.hid o4; clear o4 g4; have e1 := Z4.out.keeps _ _ _ E1.out))
        refine (r1number_z xs[k].seq _ (by omega) (by omega)).mono ?_
        rintro e w5 ⟨v5, rfl, o5, hw5⟩
        obtain ⟨A5, n5', c5, rfl, l5, r5, i5⟩ := o5.formN
        have R5 := Lib.hid r5
        have B5 := Lib.hid (O4.out.ext hw5)
        have I5 := Lib.hid (I4.out.ext hw5)
        have Z5 := Lib.hid (Z4.out.trans hw5)
        clear o5 r5 i5 hw5 e1
        go_wp2_with (first | (at_builtin; refine wp_app rfl _ _ rfl w.heap.size _ _ rfl B5.out A5 n5' c5 _ rfl R5.out (by simp only [List.length_append]; unfold B47; omega) (Ext.size Z5.out) ?_; intro v6 w6 o6 g6; have Z6 := Lib.hid (Z5.out.growBy g6 B5.out (Nat.le_refl _)); have I6 := Lib.hid (I5.out.kx (Kx.of_row g6 B5.out.out) (by decide)); have O6 := Lib.hid o6; clear o6 g6; have e2 := Z6.out.keeps _ _ _ E2.out))
        refine (r1number_z xs[k].kind _ (by omega) (by omega)).mono ?_
        rintro e w7 ⟨v7, rfl, o7, hw7⟩
        obtain ⟨A7, n7', c7, rfl, l7, r7, i7⟩ := o7.formN
        have R7 := Lib.hid r7
        have B7 := Lib.hid (O6.out.ext hw7)
        have I7 := Lib.hid (I6.out.ext hw7)
        have Z7 := Lib.hid (Z6.out.trans hw7)
        clear o7 r7 i7 hw7 e2
        by_cases hkd : xs[k].kind = 1
        · have hkb : (xs[k].kind == 1) = true := by simpa using hkd
          have HKD := Lib.hid hkd
          clear hkd
          go_wp2_with (first | (at_builtin; refine wp_app rfl _ _ rfl w.heap.size _ _ rfl B7.out A7 n7' c7 _ rfl R7.out (by simp only [List.length_append]; unfold B47; omega) (Ext.size Z7.out) ?_; intro v8 w8 o8 g8; have Z8 := Lib.hid (Z7.out.growBy g8 B7.out (Nat.le_refl _)); have I8 := Lib.hid (I7.out.kx (Kx.of_row g8 B7.out.out) (by decide)); have O8 := Lib.hid o8; clear o8 g8; have e2 := Z8.out.keeps _ _ _ E2.out; have e3 := Z8.out.keeps _ _ _ E3.out))
          refine (r1bytes_any _ _ _ xs[k].val _ (KV.out.ext Z8.out) (by unfold B40; omega)).mono ?_
          rintro e w9 ⟨v9, rfl, o9, hw9⟩
          obtain ⟨A9, n9', c9, rfl, l9, r9, i9⟩ := o9.formN
          have R9 := Lib.hid r9
          have B9 := Lib.hid (O8.out.ext hw9)
          have I9 := Lib.hid (I8.out.ext hw9)
          have Z9 := Lib.hid (Z8.out.trans hw9)
          clear o9 r9 i9 hw9 e2 e3
          go_wp2_with (first | (at_builtin; refine wp_app rfl _ _ rfl w.heap.size _ _ rfl B9.out A9 n9' c9 _ rfl R9.out (by simp only [List.length_append]; unfold B47; omega) (Ext.size Z9.out) ?_; intro vx wx ox gx; have ZX := Lib.hid (Z9.out.growBy gx B9.out (Nat.le_refl _)); have IX := Lib.hid (I9.out.kx (Kx.of_row gx B9.out.out) (by decide)); have OX := Lib.hid ox; clear ox gx))
          go_roundw
          case rel =>
            refine ⟨k + 1, by omega, by go_num, ZX.out, ?_, IX.out⟩
            have h := OX.out
            rw [bodB_at hx, blkE_put (k := (0 : Int).toNat) eK HKD.out]
            simpa [List.append_assoc] using h
          case measure => simp [intOf]; omega
        · have hkb : (xs[k].kind == 1) = false := by simpa using hkd
          have HKD := Lib.hid hkd
          clear hkd
          go_wp2_with (first | (at_builtin; refine wp_app rfl _ _ rfl w.heap.size _ _ rfl B7.out A7 n7' c7 _ rfl R7.out (by simp only [List.length_append]; unfold B47; omega) (Ext.size Z7.out) ?_; intro v8 w8 o8 g8; have Z8 := Lib.hid (Z7.out.growBy g8 B7.out (Nat.le_refl _)); have I8 := Lib.hid (I7.out.kx (Kx.of_row g8 B7.out.out) (by decide)); have O8 := Lib.hid o8; clear o8 g8; have e2 := Z8.out.keeps _ _ _ E2.out))
          go_roundw
          case rel =>
            refine ⟨k + 1, by omega, by go_num, Z8.out, ?_, I8.out⟩
            have h := O8.out
            rw [bodB_at hx, blkE_del (k := (0 : Int).toNat) eK HKD.out]
            simpa [List.append_assoc] using h
          case measure => simp [intOf]; omega
      · have r4i : (((k : Int) % 4) == 0) = false := by rw [beq_eq_false_iff_ne]; omega
        have hk1 : k - 1 < n := by omega
        obtain ⟨A3, n3', c3, A4, n4, c4, hx1, p0, p1, p2, p3, hrp⟩ := r6at HL.out hk1 (Ext.rfl_ w)
        obtain ⟨rp, _, bp, _⟩ := RdE.parts hrp
        have hkw : IntKind.i64.wrap ((k - 1 : Nat) : Int) = ((k - 1 : Nat) : Int) := by rw [IntKind.wrap_i64]; omega
        have hkm : (k : Int) - 1 = ((k - 1 : Nat) : Int) := by omega
        have hk1i : ((k - 1 : Nat) : Int) < (n : Int) := by omega
        have hk1c : k - 1 < c := by omega
        obtain ⟨z, hz⟩ : ∃ z, z = shr (xs[k - 1]'(by omega)).key xs[k].key := ⟨_, rfl⟩
        have hzl := (shr_le (xs[k - 1]'(by omega)).key xs[k].key).2
        rw [← hz, RL.out] at hzl
        have eK : (if (k % 4 == 0) = true then 0 else shr (keyL [] (xs.take k)) xs[k].key) = z := by rw [if_neg (by simpa using r4), keyL_take (by omega) (by omega), hz]
        have HZ := Lib.hid hz
        have P0 := Lib.hid p0
        have HP := Lib.hid rp
        have hI' : OwnI wr w.heap.size u5 (posI (xs.take (k + 1))) := by rw [posI_at hx, if_neg r4, List.append_nil]; exact HI0.out
        have HI1 := Lib.hid hI'
        have c0 := HX.out.keeps _ _ _ E0.out
        have d0 := HX.out.keeps _ _ _ P0.out
        have ej1 := j1 z
        have ej0 := numB_length ((z : Int).toNat)
        clear hz hrp p0 p1 p2 p3 rp hI'
        have hzn : (z : Int) ≤ (n1 : Int) := by omega
        have hzc : z ≤ c1 := by omega
        have hzci : (z : Int) ≤ (c1 : Int) := by omega
        have hqz : IntKind.u64.wrap (z : Int) = z := by rw [IntKind.wrap_u64]; omega
        go_wp2
        refine wp_region_held_drew (S := (fun w' => w'.cell? ⟨b, o + k * 4, none⟩ = some (.slice (some ⟨g, oo, none⟩) n1 c1) ∧ w'.cell? ⟨b, o + (k - 1) * 4, none⟩ = some (.slice A3 n3' c3))) (by kernel_rfl) (by (try dsimp only); exact ⟨Ext.keeps' (w := wr) (by with_reducible (repeat (first | exact Ext.rfl_ _ | assumption | refine Ext.drew ?_ | refine Ext.drewN ?_ _ | refine Ext.alloc ?_ _ | refine Ext.trans ?_ (by assumption)))) c0, Ext.keeps' (w := wr) (by with_reducible (repeat (first | exact Ext.rfl_ _ | assumption | refine Ext.drew ?_ | refine Ext.drewN ?_ _ | refine Ext.alloc ?_ _ | refine Ext.trans ?_ (by assumption)))) d0⟩) (fun hHeld => ?_)
        refine wpAnyH_take (i := 0) (oi := ({ dst := some 23, op := Go.Op.move (Go.Operand.tmp 0), type := 37, pos := "ref.go:46", after := #[], guard := none } : Go.Oper)) (v := ?v61) rfl (by kernel_rfl) (by kernel_rfl) (by kernel_rfl) (fun _ _ _ h => h) (Or.inl ⟨by rfl, ?hy61⟩) (by assumption) ?rest61
        case hy61 => (intro w hSw; (try dsimp only at hSw); go_simp; (try with_reducible rfl))
        (try simp only [Act.put, List.getElem_toArray, List.getElem_cons_zero, List.getElem_cons_succ, List.setIfInBounds_toArray, List.set_cons_zero, List.set_cons_succ])
        refine wpAnyH_take (i := 1) (oi := ({ dst := some 24, op := Go.Op.move (Go.Operand.tmp 6), type := 3, pos := "ref.go:46", after := #[], guard := none } : Go.Oper)) (v := ?v62) rfl (by kernel_rfl) (by kernel_rfl) (by kernel_rfl) (fun _ _ _ h => h) (Or.inl ⟨by rfl, ?hy62⟩) (by assumption) ?rest62
        case hy62 => (intro w hSw; (try dsimp only at hSw); go_simp; (try with_reducible rfl))
        (try simp only [Act.put, List.getElem_toArray, List.getElem_cons_zero, List.getElem_cons_succ, List.setIfInBounds_toArray, List.set_cons_zero, List.set_cons_succ])
        refine wpAnyH_take (i := 2) (oi := ({ dst := some 25, op := Go.Op.binOp Go.BinOp.sub 3 (Go.Operand.tmp 24) (Go.Operand.const (Go.Value.int Go.IntKind.i64 1)) 3, type := 3, pos := "ref.go:46", after := #[{ on := 1, ground := Go.Ground.data }], guard := none } : Go.Oper)) (v := ?v63) rfl (by kernel_rfl) (by kernel_rfl) (by kernel_rfl) (fun _ _ _ h => h) (Or.inl ⟨by rfl, ?hy63⟩) (by assumption) ?rest63
        case hy63 => (intro w hSw; (try dsimp only at hSw); go_simp; (try with_reducible rfl))
        (try simp only [Act.put, List.getElem_toArray, List.getElem_cons_zero, List.getElem_cons_succ, List.setIfInBounds_toArray, List.set_cons_zero, List.set_cons_succ])
        refine wpAnyH_take (i := 3) (oi := ({ dst := some 26, op := Go.Op.indexAddr 37 (Go.Operand.tmp 23) (Go.Operand.tmp 25), type := 0, pos := "ref.go:46", after := #[{ on := 0, ground := Go.Ground.data }, { on := 2, ground := Go.Ground.data }], guard := none } : Go.Oper)) (v := ?v64) rfl (by kernel_rfl) (by kernel_rfl) (by kernel_rfl) (fun _ _ _ h => h) (Or.inl ⟨by rfl, ?hy64⟩) (by assumption) ?rest64
        case hy64 => (intro w hSw; (try dsimp only at hSw); go_simp; (try with_reducible rfl))
        (try simp only [Act.put, List.getElem_toArray, List.getElem_cons_zero, List.getElem_cons_succ, List.setIfInBounds_toArray, List.set_cons_zero, List.set_cons_succ])
        refine wpAnyH_take (i := 4) (oi := ({ dst := some 27, op := Go.Op.fieldAddr 28 (Go.Operand.tmp 26) 0, type := 0, pos := "ref.go:46", after := #[{ on := 3, ground := Go.Ground.data }], guard := none } : Go.Oper)) (v := ?v65) rfl (by kernel_rfl) (by kernel_rfl) (by kernel_rfl) (fun _ _ _ h => h) (Or.inl ⟨by rfl, ?hy65⟩) (by assumption) ?rest65
        case hy65 => (intro w hSw; (try dsimp only at hSw); go_simp; (try with_reducible rfl))
        (try simp only [Act.put, List.getElem_toArray, List.getElem_cons_zero, List.getElem_cons_succ, List.setIfInBounds_toArray, List.set_cons_zero, List.set_cons_succ])
        refine wpAnyH_take (i := 5) (oi := ({ dst := some 28, op := Go.Op.load 22 (Go.Operand.tmp 27), type := 22, pos := "ref.go:46", after := #[{ on := 4, ground := Go.Ground.data }], guard := none } : Go.Oper)) (v := ?v66) rfl (by kernel_rfl) (by kernel_rfl) (by kernel_rfl) (fun _ _ _ h => h) (Or.inl ⟨by rfl, ?hy66⟩) (by assumption) ?rest66
        case hy66 => (intro w hSw; (try dsimp only at hSw); go_simp; (try with_reducible rfl))
        (try simp only [Act.put, List.getElem_toArray, List.getElem_cons_zero, List.getElem_cons_succ, List.setIfInBounds_toArray, List.set_cons_zero, List.set_cons_succ])
        refine wpAnyH_take (i := 6) (oi := ({ dst := some 29, op := Go.Op.move (Go.Operand.tmp 0), type := 37, pos := "ref.go:46", after := #[], guard := none } : Go.Oper)) (v := ?v67) rfl (by kernel_rfl) (by kernel_rfl) (by kernel_rfl) (fun _ _ _ h => h) (Or.inl ⟨by rfl, ?hy67⟩) (by assumption) ?rest67
        case hy67 => (intro w hSw; (try dsimp only at hSw); go_simp; (try with_reducible rfl))
        (try simp only [Act.put, List.getElem_toArray, List.getElem_cons_zero, List.getElem_cons_succ, List.setIfInBounds_toArray, List.set_cons_zero, List.set_cons_succ])
        refine wpAnyH_take (i := 7) (oi := ({ dst := some 30, op := Go.Op.move (Go.Operand.tmp 6), type := 3, pos := "ref.go:46", after := #[], guard := none } : Go.Oper)) (v := ?v68) rfl (by kernel_rfl) (by kernel_rfl) (by kernel_rfl) (fun _ _ _ h => h) (Or.inl ⟨by rfl, ?hy68⟩) (by assumption) ?rest68
        case hy68 => (intro w hSw; (try dsimp only at hSw); go_simp; (try with_reducible rfl))
        (try simp only [Act.put, List.getElem_toArray, List.getElem_cons_zero, List.getElem_cons_succ, List.setIfInBounds_toArray, List.set_cons_zero, List.set_cons_succ])
        refine wpAnyH_take (i := 8) (oi := ({ dst := some 31, op := Go.Op.indexAddr 37 (Go.Operand.tmp 29) (Go.Operand.tmp 30), type := 0, pos := "ref.go:46", after := #[{ on := 6, ground := Go.Ground.data }, { on := 7, ground := Go.Ground.data }], guard := none } : Go.Oper)) (v := ?v69) rfl (by kernel_rfl) (by kernel_rfl) (by kernel_rfl) (fun _ _ _ h => h) (Or.inl ⟨by rfl, ?hy69⟩) (by assumption) ?rest69
        case hy69 => (intro w hSw; (try dsimp only at hSw); go_simp; (try with_reducible rfl))
        (try simp only [Act.put, List.getElem_toArray, List.getElem_cons_zero, List.getElem_cons_succ, List.setIfInBounds_toArray, List.set_cons_zero, List.set_cons_succ])
        refine wpAnyH_take (i := 9) (oi := ({ dst := some 32, op := Go.Op.fieldAddr 28 (Go.Operand.tmp 31) 0, type := 0, pos := "ref.go:46", after := #[{ on := 8, ground := Go.Ground.data }], guard := none } : Go.Oper)) (v := ?v70) rfl (by kernel_rfl) (by kernel_rfl) (by kernel_rfl) (fun _ _ _ h => h) (Or.inl ⟨by rfl, ?hy70⟩) (by assumption) ?rest70
        case hy70 => (intro w hSw; (try dsimp only at hSw); go_simp; (try with_reducible rfl))
        (try simp only [Act.put, List.getElem_toArray, List.getElem_cons_zero, List.getElem_cons_succ, List.setIfInBounds_toArray, List.set_cons_zero, List.set_cons_succ])
        refine wpAnyH_take (i := 10) (oi := ({ dst := some 33, op := Go.Op.load 22 (Go.Operand.tmp 32), type := 22, pos := "ref.go:46", after := #[{ on := 9, ground := Go.Ground.data }], guard := none } : Go.Oper)) (v := ?v71) rfl (by kernel_rfl) (by kernel_rfl) (by kernel_rfl) (fun _ _ _ h => h) (Or.inl ⟨by rfl, ?hy71⟩) (by assumption) ?rest71
        case hy71 => (intro w hSw; (try dsimp only at hSw); go_simp; (try with_reducible rfl))
        (try simp only [Act.put, List.getElem_toArray, List.getElem_cons_zero, List.getElem_cons_succ, List.setIfInBounds_toArray, List.set_cons_zero, List.set_cons_succ])
        refine wpAnyH_ready (rs := [11]) (by kernel_rfl) (by simp) ?_
        refine AllReadyH.cons (o := ({ dst := some 34, op := Go.Op.call { callee := Go.Callee.value (Go.Operand.func 12), args := #[Go.Operand.tmp 28, Go.Operand.tmp 33], argTypes := #[22, 22] }, type := 3, pos := "ref.go:46", after := #[{ on := 5, ground := Go.Ground.data }, { on := 10, ground := Go.Ground.data }], guard := none } : Go.Oper)) rfl (fun K hK => ?_) AllReadyH.nil
        go_simp
        refine (rshared_any _ _ _ _ _ _ (xs[k - 1]'(by omega)).key xs[k].key _ (HP.out.ext (HX.out.trans (by with_reducible (repeat (first | exact Ext.rfl_ _ | assumption | refine Ext.drew ?_ | refine Ext.drewN ?_ _ | refine Ext.alloc ?_ _ | refine Ext.trans ?_ (by assumption)))))) (KK.out.ext (HX.out.trans (by with_reducible (repeat (first | exact Ext.rfl_ _ | assumption | refine Ext.drew ?_ | refine Ext.drewN ?_ _ | refine Ext.alloc ?_ _ | refine Ext.trans ?_ (by assumption)))))) bp (by unfold B47; omega)).mono ?_; rintro e wq ⟨rfl, hwq⟩; rw [← HZ.out]
        (try (go_wp2_with fail))
        refine hK.out _ _ (by (try dsimp only); exact ⟨Ext.keeps' (w := wr) (by with_reducible (repeat (first | exact Ext.rfl_ _ | assumption | refine Ext.drew ?_ | refine Ext.drewN ?_ _ | refine Ext.alloc ?_ _ | refine Ext.trans ?_ (by assumption)))) c0, Ext.keeps' (w := wr) (by with_reducible (repeat (first | exact Ext.rfl_ _ | assumption | refine Ext.drew ?_ | refine Ext.drewN ?_ _ | refine Ext.alloc ?_ _ | refine Ext.trans ?_ (by assumption)))) d0⟩) (fun hHeld => ?_)
        clear hK K
        (try simp only [Act.put, List.getElem_toArray, List.getElem_cons_zero, List.getElem_cons_succ, List.setIfInBounds_toArray, List.set_cons_zero, List.set_cons_succ])
        refine wpAnyH_take (i := 12) (oi := ({ dst := some 7, op := Go.Op.assign (Go.Operand.tmp 34), type := 3, pos := "ref.go:46", after := #[{ on := 11, ground := Go.Ground.data }, { on := 11, ground := Go.Ground.chain }, { on := 0, ground := Go.Ground.phase }, { on := 1, ground := Go.Ground.phase }, { on := 2, ground := Go.Ground.phase }, { on := 3, ground := Go.Ground.phase }, { on := 4, ground := Go.Ground.phase }, { on := 5, ground := Go.Ground.phase }, { on := 6, ground := Go.Ground.phase }, { on := 7, ground := Go.Ground.phase }, { on := 8, ground := Go.Ground.phase }, { on := 9, ground := Go.Ground.phase }, { on := 10, ground := Go.Ground.phase }, { on := 11, ground := Go.Ground.phase }], guard := none } : Go.Oper)) (v := ?v72) rfl (by kernel_rfl) (by kernel_rfl) (by kernel_rfl) (fun _ _ _ h => h) (Or.inl ⟨by rfl, ?hy72⟩) (by assumption) ?rest72
        case hy72 => (intro w hSw; (try dsimp only at hSw); go_simp; (try with_reducible rfl))
        (try simp only [Act.put, List.getElem_toArray, List.getElem_cons_zero, List.getElem_cons_succ, List.setIfInBounds_toArray, List.set_cons_zero, List.set_cons_succ])
        refine wpAnyH_done (by kernel_rfl) ?_ _
        all_goals
          have XAQ := Lib.hid (show Ext wr wq from (by with_reducible (repeat (first | exact Ext.rfl_ _ | assumption | refine Ext.drew ?_ | refine Ext.drewN ?_ _ | refine Ext.alloc ?_ _ | refine Ext.trans ?_ (by assumption)))))
          have HI := HI1
          have HB := HB0
          clear HI0 HB0 HI1 c0 d0 hwq hHeld
          by_cases hzc1 : z = c1
          · have hnz : n1 = z := by omega
            have KD : Rd w (some ⟨g, oo, none⟩) 0 (xs[k].key.drop z) := by
              rw [List.drop_eq_nil_of_le (by rw [RL.out]; omega)]
              exact Rd.nil _ _
            have hnk : n1 ≤ z := by omega
            have hnki : (n1 : Int) ≤ (z : Int) := by omega
            subst hzc1
            clear hnz
            go_wp2_with fail
            refine (r1number_z (z : Int) _ (by omega) (by omega)).mono ?_
            rintro e w1 ⟨v1, rfl, o1, hw1⟩
            obtain ⟨A1', n1', c1', rfl, l1, r1, i1⟩ := o1.formN
            have R1 := Lib.hid r1
            have B1 := Lib.hid (HB.out.ext (XAQ.out.trans hw1))
            have I1 := Lib.hid (HI.out.ext (XAQ.out.trans hw1))
            have Z1 := Lib.hid (HX.out.trans (XAQ.out.trans hw1))
            clear o1 r1 i1 hw1
            go_wp2_with (first | (at_builtin; refine wp_app rfl _ _ rfl w.heap.size _ (bodB (xs.take k)) rfl B1.out A1' n1' c1' _ rfl R1.out (by unfold B47; omega) (Ext.size Z1.out) ?_; intro v2 w2 o2 g2; have Z2 := Lib.hid (Z1.out.growBy g2 B1.out (Nat.le_refl _)); have I2 := Lib.hid (I1.out.kx (Kx.of_row g2 B1.out.out) (by decide)); have O2 := Lib.hid o2; clear o2 g2; have e0 := Z2.out.keeps _ _ _ E0.out))
            refine (r1bytes_any _ _ _ (xs[k].key.drop z) _ (KD.ext Z2.out) (by unfold B40; omega)).mono ?_
            rintro e w3 ⟨v3, rfl, o3, hw3⟩
            obtain ⟨A3, n3', c3, rfl, l3, r3, i3⟩ := o3.formN
            have R3 := Lib.hid r3
            have B3 := Lib.hid (O2.out.ext hw3)
            have I3 := Lib.hid (I2.out.ext hw3)
            have Z3 := Lib.hid (Z2.out.trans hw3)
            clear o3 r3 i3 hw3 e0
            go_wp2_with (first | (at_builtin; refine wp_app rfl _ _ rfl w.heap.size _ _ rfl B3.out A3 n3' c3 _ rfl R3.out (by simp only [List.length_append]; unfold B47; omega) (Ext.size Z3.out) ?_; intro v4 w4' o4 g4; have Z4 := Lib.hid (Z3.out.growBy g4 B3.out (Nat.le_refl _)); have I4 := Lib.hid (I3.out.kx (Kx.of_row g4 B3.out.out) (by decide)); have O4 := Lib.hid o4; clear o4 g4; have e1 := Z4.out.keeps _ _ _ E1.out))
            refine (r1number_z xs[k].seq _ (by omega) (by omega)).mono ?_
            rintro e w5 ⟨v5, rfl, o5, hw5⟩
            obtain ⟨A5, n5', c5, rfl, l5, r5, i5⟩ := o5.formN
            have R5 := Lib.hid r5
            have B5 := Lib.hid (O4.out.ext hw5)
            have I5 := Lib.hid (I4.out.ext hw5)
            have Z5 := Lib.hid (Z4.out.trans hw5)
            clear o5 r5 i5 hw5 e1
            go_wp2_with (first | (at_builtin; refine wp_app rfl _ _ rfl w.heap.size _ _ rfl B5.out A5 n5' c5 _ rfl R5.out (by simp only [List.length_append]; unfold B47; omega) (Ext.size Z5.out) ?_; intro v6 w6 o6 g6; have Z6 := Lib.hid (Z5.out.growBy g6 B5.out (Nat.le_refl _)); have I6 := Lib.hid (I5.out.kx (Kx.of_row g6 B5.out.out) (by decide)); have O6 := Lib.hid o6; clear o6 g6; have e2 := Z6.out.keeps _ _ _ E2.out))
            refine (r1number_z xs[k].kind _ (by omega) (by omega)).mono ?_
            rintro e w7 ⟨v7, rfl, o7, hw7⟩
            obtain ⟨A7, n7', c7, rfl, l7, r7, i7⟩ := o7.formN
            have R7 := Lib.hid r7
            have B7 := Lib.hid (O6.out.ext hw7)
            have I7 := Lib.hid (I6.out.ext hw7)
            have Z7 := Lib.hid (Z6.out.trans hw7)
            clear o7 r7 i7 hw7 e2
            by_cases hkd : xs[k].kind = 1
            · have hkb : (xs[k].kind == 1) = true := by simpa using hkd
              have HKD := Lib.hid hkd
              clear hkd
              go_wp2_with (first | (at_builtin; refine wp_app rfl _ _ rfl w.heap.size _ _ rfl B7.out A7 n7' c7 _ rfl R7.out (by simp only [List.length_append]; unfold B47; omega) (Ext.size Z7.out) ?_; intro v8 w8 o8 g8; have Z8 := Lib.hid (Z7.out.growBy g8 B7.out (Nat.le_refl _)); have I8 := Lib.hid (I7.out.kx (Kx.of_row g8 B7.out.out) (by decide)); have O8 := Lib.hid o8; clear o8 g8; have e2 := Z8.out.keeps _ _ _ E2.out; have e3 := Z8.out.keeps _ _ _ E3.out))
              refine (r1bytes_any _ _ _ xs[k].val _ (KV.out.ext Z8.out) (by unfold B40; omega)).mono ?_
              rintro e w9 ⟨v9, rfl, o9, hw9⟩
              obtain ⟨A9, n9', c9, rfl, l9, r9, i9⟩ := o9.formN
              have R9 := Lib.hid r9
              have B9 := Lib.hid (O8.out.ext hw9)
              have I9 := Lib.hid (I8.out.ext hw9)
              have Z9 := Lib.hid (Z8.out.trans hw9)
              clear o9 r9 i9 hw9 e2 e3
              go_wp2_with (first | (at_builtin; refine wp_app rfl _ _ rfl w.heap.size _ _ rfl B9.out A9 n9' c9 _ rfl R9.out (by simp only [List.length_append]; unfold B47; omega) (Ext.size Z9.out) ?_; intro vx wx ox gx; have ZX := Lib.hid (Z9.out.growBy gx B9.out (Nat.le_refl _)); have IX := Lib.hid (I9.out.kx (Kx.of_row gx B9.out.out) (by decide)); have OX := Lib.hid ox; clear ox gx))
              go_roundw
              case rel =>
                refine ⟨k + 1, by omega, by go_num, ZX.out, ?_, IX.out⟩
                have h := OX.out
                rw [bodB_at hx, blkE_put (k := z) eK HKD.out]
                simpa [List.append_assoc] using h
              case measure => simp [intOf]; omega
            · have hkb : (xs[k].kind == 1) = false := by simpa using hkd
              have HKD := Lib.hid hkd
              clear hkd
              go_wp2_with (first | (at_builtin; refine wp_app rfl _ _ rfl w.heap.size _ _ rfl B7.out A7 n7' c7 _ rfl R7.out (by simp only [List.length_append]; unfold B47; omega) (Ext.size Z7.out) ?_; intro v8 w8 o8 g8; have Z8 := Lib.hid (Z7.out.growBy g8 B7.out (Nat.le_refl _)); have I8 := Lib.hid (I7.out.kx (Kx.of_row g8 B7.out.out) (by decide)); have O8 := Lib.hid o8; clear o8 g8; have e2 := Z8.out.keeps _ _ _ E2.out))
              go_roundw
              case rel =>
                refine ⟨k + 1, by omega, by go_num, Z8.out, ?_, I8.out⟩
                have h := O8.out
                rw [bodB_at hx, blkE_del (k := z) eK HKD.out]
                simpa [List.append_assoc] using h
              case measure => simp [intOf]; omega
          · have KD : Rd w (some ⟨g, oo + z, none⟩) (n1 - z) (xs[k].key.drop z) := KK.out.tail (by omega)
            have hkc2 : z < c1 := by omega
            go_wp2_with fail
            refine (r1number_z (z : Int) _ (by omega) (by omega)).mono ?_
            rintro e w1 ⟨v1, rfl, o1, hw1⟩
            obtain ⟨A1', n1', c1', rfl, l1, r1, i1⟩ := o1.formN
            have R1 := Lib.hid r1
            have B1 := Lib.hid (HB.out.ext (XAQ.out.trans hw1))
            have I1 := Lib.hid (HI.out.ext (XAQ.out.trans hw1))
            have Z1 := Lib.hid (HX.out.trans (XAQ.out.trans hw1))
            clear o1 r1 i1 hw1
            go_wp2_with (first | (at_builtin; refine wp_app rfl _ _ rfl w.heap.size _ (bodB (xs.take k)) rfl B1.out A1' n1' c1' _ rfl R1.out (by unfold B47; omega) (Ext.size Z1.out) ?_; intro v2 w2 o2 g2; have Z2 := Lib.hid (Z1.out.growBy g2 B1.out (Nat.le_refl _)); have I2 := Lib.hid (I1.out.kx (Kx.of_row g2 B1.out.out) (by decide)); have O2 := Lib.hid o2; clear o2 g2; have e0 := Z2.out.keeps _ _ _ E0.out))
            refine (r1bytes_any _ _ _ (xs[k].key.drop z) _ (KD.ext Z2.out) (by unfold B40; omega)).mono ?_
            rintro e w3 ⟨v3, rfl, o3, hw3⟩
            obtain ⟨A3, n3', c3, rfl, l3, r3, i3⟩ := o3.formN
            have R3 := Lib.hid r3
            have B3 := Lib.hid (O2.out.ext hw3)
            have I3 := Lib.hid (I2.out.ext hw3)
            have Z3 := Lib.hid (Z2.out.trans hw3)
            clear o3 r3 i3 hw3 e0
            go_wp2_with (first | (at_builtin; refine wp_app rfl _ _ rfl w.heap.size _ _ rfl B3.out A3 n3' c3 _ rfl R3.out (by simp only [List.length_append]; unfold B47; omega) (Ext.size Z3.out) ?_; intro v4 w4' o4 g4; have Z4 := Lib.hid (Z3.out.growBy g4 B3.out (Nat.le_refl _)); have I4 := Lib.hid (I3.out.kx (Kx.of_row g4 B3.out.out) (by decide)); have O4 := Lib.hid o4; clear o4 g4; have e1 := Z4.out.keeps _ _ _ E1.out))
            refine (r1number_z xs[k].seq _ (by omega) (by omega)).mono ?_
            rintro e w5 ⟨v5, rfl, o5, hw5⟩
            obtain ⟨A5, n5', c5, rfl, l5, r5, i5⟩ := o5.formN
            have R5 := Lib.hid r5
            have B5 := Lib.hid (O4.out.ext hw5)
            have I5 := Lib.hid (I4.out.ext hw5)
            have Z5 := Lib.hid (Z4.out.trans hw5)
            clear o5 r5 i5 hw5 e1
            go_wp2_with (first | (at_builtin; refine wp_app rfl _ _ rfl w.heap.size _ _ rfl B5.out A5 n5' c5 _ rfl R5.out (by simp only [List.length_append]; unfold B47; omega) (Ext.size Z5.out) ?_; intro v6 w6 o6 g6; have Z6 := Lib.hid (Z5.out.growBy g6 B5.out (Nat.le_refl _)); have I6 := Lib.hid (I5.out.kx (Kx.of_row g6 B5.out.out) (by decide)); have O6 := Lib.hid o6; clear o6 g6; have e2 := Z6.out.keeps _ _ _ E2.out))
            refine (r1number_z xs[k].kind _ (by omega) (by omega)).mono ?_
            rintro e w7 ⟨v7, rfl, o7, hw7⟩
            obtain ⟨A7, n7', c7, rfl, l7, r7, i7⟩ := o7.formN
            have R7 := Lib.hid r7
            have B7 := Lib.hid (O6.out.ext hw7)
            have I7 := Lib.hid (I6.out.ext hw7)
            have Z7 := Lib.hid (Z6.out.trans hw7)
            clear o7 r7 i7 hw7 e2
            by_cases hkd : xs[k].kind = 1
            · have hkb : (xs[k].kind == 1) = true := by simpa using hkd
              have HKD := Lib.hid hkd
              clear hkd
              go_wp2_with (first | (at_builtin; refine wp_app rfl _ _ rfl w.heap.size _ _ rfl B7.out A7 n7' c7 _ rfl R7.out (by simp only [List.length_append]; unfold B47; omega) (Ext.size Z7.out) ?_; intro v8 w8 o8 g8; have Z8 := Lib.hid (Z7.out.growBy g8 B7.out (Nat.le_refl _)); have I8 := Lib.hid (I7.out.kx (Kx.of_row g8 B7.out.out) (by decide)); have O8 := Lib.hid o8; clear o8 g8; have e2 := Z8.out.keeps _ _ _ E2.out; have e3 := Z8.out.keeps _ _ _ E3.out))
              refine (r1bytes_any _ _ _ xs[k].val _ (KV.out.ext Z8.out) (by unfold B40; omega)).mono ?_
              rintro e w9 ⟨v9, rfl, o9, hw9⟩
              obtain ⟨A9, n9', c9, rfl, l9, r9, i9⟩ := o9.formN
              have R9 := Lib.hid r9
              have B9 := Lib.hid (O8.out.ext hw9)
              have I9 := Lib.hid (I8.out.ext hw9)
              have Z9 := Lib.hid (Z8.out.trans hw9)
              clear o9 r9 i9 hw9 e2 e3
              go_wp2_with (first | (at_builtin; refine wp_app rfl _ _ rfl w.heap.size _ _ rfl B9.out A9 n9' c9 _ rfl R9.out (by simp only [List.length_append]; unfold B47; omega) (Ext.size Z9.out) ?_; intro vx wx ox gx; have ZX := Lib.hid (Z9.out.growBy gx B9.out (Nat.le_refl _)); have IX := Lib.hid (I9.out.kx (Kx.of_row gx B9.out.out) (by decide)); have OX := Lib.hid ox; clear ox gx))
              go_roundw
              case rel =>
                refine ⟨k + 1, by omega, by go_num, ZX.out, ?_, IX.out⟩
                have h := OX.out
                rw [bodB_at hx, blkE_put (k := z) eK HKD.out]
                simpa [List.append_assoc] using h
              case measure => simp [intOf]; omega
            · have hkb : (xs[k].kind == 1) = false := by simpa using hkd
              have HKD := Lib.hid hkd
              clear hkd
              go_wp2_with (first | (at_builtin; refine wp_app rfl _ _ rfl w.heap.size _ _ rfl B7.out A7 n7' c7 _ rfl R7.out (by simp only [List.length_append]; unfold B47; omega) (Ext.size Z7.out) ?_; intro v8 w8 o8 g8; have Z8 := Lib.hid (Z7.out.growBy g8 B7.out (Nat.le_refl _)); have I8 := Lib.hid (I7.out.kx (Kx.of_row g8 B7.out.out) (by decide)); have O8 := Lib.hid o8; clear o8 g8; have e2 := Z8.out.keeps _ _ _ E2.out))
              go_roundw
              case rel =>
                refine ⟨k + 1, by omega, by go_num, Z8.out, ?_, I8.out⟩
                have h := O8.out
                rw [bodB_at hx, blkE_del (k := z) eK HKD.out]
                simpa [List.append_assoc] using h
              case measure => simp [intOf]; omega
    · obtain rfl : k = n := by omega
      have htk : xs.take k = xs := List.take_of_length_le (by omega)
      rw [htk] at hB hI
      have hbl := bodB_take k HME.out (by omega)
      rw [htk] at hbl
      have hpl := posI_len xs
      have hfl := flat4_len (posB xs)
      have hple := posF_le 0 0 [] xs
      obtain ⟨Aa, ca, rfl, hca⟩ := own_form hI
      obtain ⟨P, hP⟩ : ∃ P, P = (posI xs).length := ⟨_, rfl⟩
      rw [← hP] at hca hpl hI ⊢
      have hPl : P ≤ 257 := by omega
      have hpb : (posB xs).length = P := by rw [hP]; unfold posI; rw [List.length_map]
      rw [hpb] at hfl
      have HPL := Lib.hid hP
      have HPB := Lib.hid hpb
      have HFL := Lib.hid hfl
      have HPE := Lib.hid hple
      have hX0 := Lib.hid hX
      have hB0 := Lib.hid hB
      have hI0 := Lib.hid hI
      clear hP hpb hpl hfl hple hX hB hI
      go_wp2
      go_loopw [4, 8] (fun vb i wr => ∃ j : Nat, j ≤ P ∧ i = .int .i64 j ∧ Ext w wr ∧ OwnB wr w.heap.size vb (bodB xs ++ (((posB xs).take j).map w4).flatten) ∧ OwnI wr w.heap.size (.slice Aa P ca) (posI xs)) (fun _ i _ => P - (intOf i).toNat)
      case atStart => exact ⟨0, Nat.zero_le _, rfl, hX0.out, by simpa using hB0.out, hI0.out⟩
      case round =>
        obtain ⟨j, hj, rfl, hX, hB, hI⟩ := hrel
        by_cases hjl : j < P
        · have hjli : (j : Int) < (P : Int) := by omega
          have hjp : j < (posB xs).length := by rw [HPB.out]; exact hjl
          obtain ⟨g, rfl⟩ : ∃ g, Aa = some ⟨g, 0, none⟩ := by
            rcases hI.2 with ⟨hv, h0⟩ | ⟨g, cap, cur, hv, _⟩
            · rw [← HPL.out] at h0; omega
            · cases hv; exact ⟨g, rfl⟩
          have hI' := hI
          unfold OwnI at hI'
          rw [← HPL.out] at hI'
          have hc := World.ownsRow.cellAt hI' j (by omega)
          have hcell : wr.cell? ⟨g, j, none⟩ = some (.int .i64 ((posB xs)[j] : Nat)) := by
            rw [hc]
            unfold posI
            simp [List.getElem?_eq_getElem hjp]
          have hpj : (posB xs)[j] ≤ 67584000 := by
            have := HPE.out (posB xs)[j] (List.getElem_mem hjp)
            unfold bodB at hbl
            omega
          have hjc : j < ca := by omega
          have hcai : (P : Int) ≤ (ca : Int) := by omega
          have htl : (((posB xs).take j).map w4).flatten.length = 4 * j := by rw [flat4_len, List.length_take]; omega
          have hX1 := Lib.hid hX
          have hB1 := Lib.hid hB
          have hI1 := Lib.hid hI
          have HTL := Lib.hid htl
          clear hX hB hI hI' hc htl
          go_wp2_with fail
          refine (rword_any (posB xs)[j] _ (by unfold B40; omega)).mono ?_
          rintro e w1 ⟨v1, rfl, o1, hw1⟩
          obtain ⟨A1, n1, c1, rfl, l1, r1, i1⟩ := o1.formN
          have R1 := Lib.hid r1
          have B1 := Lib.hid (hB1.out.ext hw1)
          have I1 := Lib.hid (hI1.out.ext hw1)
          have Z1 := Lib.hid (hX1.out.trans hw1)
          clear o1 r1 i1 hw1 hcell
          go_wp2_with (first | (at_builtin; refine wp_app rfl _ _ rfl w.heap.size _ _ rfl B1.out A1 n1 c1 _ rfl R1.out (by rw [List.length_append, HTL.out, w4_len]; unfold B47; omega) (Ext.size Z1.out) ?_; intro v2 w2 o2 g2; have Z2 := Lib.hid (Z1.out.growBy g2 B1.out (Nat.le_refl _)); have I2 := Lib.hid (I1.out.kx (Kx.of_row g2 B1.out.out) (by decide)); have O2 := Lib.hid o2; clear o2 g2))
          go_roundw
          case rel =>
            refine ⟨j + 1, by omega, by go_num, Z2.out, ?_, I2.out⟩
            have h := O2.out
            rw [List.take_succ_eq_append_getElem hjp, List.map_append, List.flatten_append]
            simpa [List.append_assoc] using h
          case measure => simp [intOf]; omega
        · obtain rfl : j = P := by omega
          have htk2 : (posB xs).take j = posB xs := List.take_of_length_le (by rw [HPB.out]; exact Nat.le_refl _)
          rw [htk2] at hB
          have hX1 := Lib.hid hX
          have hB1 := Lib.hid hB
          have hI1 := Lib.hid hI
          clear hX hB hI
          go_wp2_with fail
          refine (rword_any j _ (by unfold B40; omega)).mono ?_
          rintro e w1 ⟨v1, rfl, o1, hw1⟩
          obtain ⟨A1, n1, c1, rfl, l1, r1, i1⟩ := o1.formN
          have R1 := Lib.hid r1
          have B1 := Lib.hid (hB1.out.ext hw1)
          have I1 := Lib.hid (hI1.out.ext hw1)
          have Z1 := Lib.hid (hX1.out.trans hw1)
          clear o1 r1 i1 hw1
          go_wp2_with (first | (at_builtin; refine wp_app rfl _ _ rfl w.heap.size _ _ rfl B1.out A1 n1 c1 _ rfl R1.out (by rw [List.length_append, HFL.out, w4_len]; unfold B47; omega) (Ext.size Z1.out) ?_; intro v2 w2 o2 g2; have Z2 := Lib.hid (Z1.out.growBy g2 B1.out (Nat.le_refl _)); have I2 := Lib.hid (I1.out.kx (Kx.of_row g2 B1.out.out) (by decide)); have O2 := Lib.hid o2; clear o2 g2))
          go_ret2
          refine ⟨v2, _, rfl, ?_, I2.out, Z2.out⟩
          have h := O2.out
          unfold blkB
          rw [HPB.out]
          simpa [List.append_assoc] using h

end Go.Proofs.Ythfhococglbpoaa
