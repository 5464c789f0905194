/- The reference's Put. Conditions: the list and the entry read. -/
import Derived.Test.YtddaagldelcbeaaInsP
import Derived.Test.YtddaagldelcbeaaRdQ
import Derived.Test.YtddaagldelcbeaaRefA
import Derived.BigRegion
namespace Go.Proofs.Ytddaagldelcbeaa
set_option linter.unusedSimpArgs false
set_option linter.unusedVariables false
open Go.RowKit

theorem keep4 {w w' : World} (e : Ext w w') {p0 p1 p2 p3 : Addr} {a0 a1 a2 a3 : Value} (h0 : w.cell? p0 = some a0) (h1 : w.cell? p1 = some a1) (h2 : w.cell? p2 = some a2) (h3 : w.cell? p3 = some a3) :
    w'.cell? p0 = some a0 ∧ w'.cell? p1 = some a1 ∧ w'.cell? p2 = some a2 ∧ w'.cell? p3 = some a3 := ⟨e.keeps' h0, e.keeps' h1, e.keeps' h2, e.keeps' h3⟩

set_option maxRecDepth 100000 in
set_option maxHeartbeats 8000000 in
theorem rput_any (Z : Nat → Prop) (A : Option Addr) (n c : Nat) (xs : List Ent) (v : Value) (x : Ent) (w : World) (hl : RdQ Z w A n xs) (hnc : n ≤ c) (hx : RdE w v x) (hB : n + 1 ≤ B41) :
    Calls Try.prog 33 #[.slice A n c, v] w fun e w' => ∃ A' n' c', e = .returned (.tuple #[.slice A' n' c', .int .i64 (insP xs x).2]) ∧ n' ≤ c' ∧ RdQ (fun k => Z k ∨ w.heap.size ≤ k) w' A' n' (insP xs x).1 ∧ Ext w w' := by
  have HL := Lib.hid hl
  have HX := Lib.hid hx
  have hxl := hl.rdl.1
  have hn41 := hl.rdl.2.1
  have hB2 := hB
  unfold B41 at hn41 hB2
  obtain ⟨Ae, ne, ce, Be, me, de, rfl, _⟩ := hx
  have hbx := blk1 w (.cells #[.slice Ae ne ce, .int .i64 x.seq, .int .i64 x.kind, .slice Be me de] 40)
  obtain ⟨q0, q1, q2, q3, _, _, _, _⟩ := box4 hbx (Ext.rfl_ _)
  have HBX := Lib.hid hbx
  clear hl hbx
  by_cases hm : mayE x = true
  · have HM := Lib.hid hm
    clear hm
    go_enter Try.func33, Try.ntmps33
    go_wp2_with fail
    refine (rmay_any _ x _ (HX.out.ext (by with_reducible (repeat (first | exact Ext.rfl_ _ | assumption | refine Ext.drew ?_ | refine Ext.drewN ?_ _ | refine Ext.alloc ?_ _ | refine Ext.trans ?_ (by assumption)))))).mono ?_
    rintro e w1 ⟨rfl, hw1⟩
    rw [HM.out]
    have X1 := Lib.hid (show Ext w w1 from (by with_reducible (repeat (first | exact Ext.rfl_ _ | assumption | refine Ext.drew ?_ | refine Ext.drewN ?_ _ | refine Ext.alloc ?_ _ | refine Ext.trans ?_ (by assumption)))))
    have HBX1 := Lib.hid (hw1.blk HBX.out)
    clear hw1 q0 q1 q2 q3
    go_wp2
    go_loopw [6] (fun i wr => ∃ k : Nat, k ≤ n ∧ i = .int .i64 k ∧ (∀ y ∈ xs.take k, ahE x y = true) ∧ Ext w1 wr) (fun i _ => n - (intOf i).toNat)
    case atStart => exact ⟨0, Nat.zero_le _, rfl, fun y hy => by simp at hy, Ext.rfl_ _⟩
    case round =>
      obtain ⟨k, hk, rfl, hal, hE⟩ := hrel
      by_cases hlt : k < n
      · have hltI : (k : Int) < (n : Int) := by omega
        have hncI : (n : Int) ≤ (c : Int) := by omega
        obtain ⟨b, o, A1, n1, c1, A2, n2, c2, y, rfl, hy, ⟨d0, d1, d2, d3⟩, hry⟩ := HL.out.rdl.at_ k hlt
        have xw := X1.out.trans hE
        have E0 := Lib.hid (xw.keeps _ _ _ d0)
        have E1 := Lib.hid (xw.keeps _ _ _ d1)
        have E2 := Lib.hid (xw.keeps _ _ _ d2)
        have E3 := Lib.hid (xw.keeps _ _ _ d3)
        have HRY := Lib.hid hry
        have HE := Lib.hid hE
        have HY := Lib.hid hy
        have HAL := Lib.hid hal
        have XW := Lib.hid xw
        clear d0 d1 d2 d3 hry hE hy hal xw
        have hyk : xs[k]'(by omega) = y := by have := HY.out; rw [List.getElem?_eq_getElem (by omega)] at this; exact Option.some.inj this
        have HYK := Lib.hid hyk
        clear hyk
        by_cases hc : cmpE y x < 0
        · have HC := Lib.hid hc
          clear hc
          go_wp2
          refine wp_region_held_drew (S := (fun w' => (w'.cell? ⟨b, o + k * 4, none⟩ = some (.slice A1 n1 c1) ∧ w'.cell? ⟨b, o + k * 4 + 1, none⟩ = some (.int .i64 y.seq) ∧ w'.cell? ⟨b, o + k * 4 + 2, none⟩ = some (.int .i64 y.kind) ∧ w'.cell? ⟨b, o + k * 4 + 3, none⟩ = some (.slice A2 n2 c2)) ∧ w'.cell? ⟨w.heap.size, 0, none⟩ = some (.slice Ae ne ce) ∧ w'.cell? ⟨w.heap.size, 1, none⟩ = some (.int .i64 x.seq) ∧ w'.cell? ⟨w.heap.size, 2, none⟩ = some (.int .i64 x.kind) ∧ w'.cell? ⟨w.heap.size, 3, none⟩ = some (.slice Be me de) ∧ w'.frozen? ⟨w.heap.size, 0, none⟩ = false ∧ w'.frozen? ⟨w.heap.size, 1, none⟩ = false ∧ w'.frozen? ⟨w.heap.size, 2, none⟩ = false ∧ w'.frozen? ⟨w.heap.size, 3, none⟩ = false)) (by kernel_rfl) (by (try dsimp only); exact ⟨keep4 (w := wr) (by with_reducible (repeat (first | exact Ext.rfl_ _ | assumption | refine Ext.drew ?_ | refine Ext.drewN ?_ _ | refine Ext.alloc ?_ _ | refine Ext.trans ?_ (by assumption)))) E0.out E1.out E2.out E3.out, box4 HBX1.out (HE.out.trans (by with_reducible (repeat (first | exact Ext.rfl_ _ | assumption | refine Ext.drew ?_ | refine Ext.drewN ?_ _ | refine Ext.alloc ?_ _ | refine Ext.trans ?_ (by assumption)))))⟩) (fun hHeld => ?_)
          refine wpAnyH_take (i := 0) (oi := ({ dst := some 11, op := Go.Op.move (Go.Operand.tmp 6), type := 3, pos := "ref.go:42", after := #[], guard := none } : Go.Oper)) (v := ?v1) rfl (by kernel_rfl) (by kernel_rfl) (by kernel_rfl) (fun _ _ _ h => h) (Or.inl ⟨by rfl, ?hy1⟩) (by assumption) ?rest1
          case hy1 => (intro w hSw; (try dsimp only at hSw); go_simp; (try with_reducible rfl))
          (try simp only [Act.put, List.getElem_toArray, List.getElem_cons_zero, List.getElem_cons_succ, List.setIfInBounds_toArray, List.set_cons_zero, List.set_cons_succ])
          refine wpAnyH_take (i := 1) (oi := ({ dst := some 12, op := Go.Op.move (Go.Operand.tmp 0), type := 26, pos := "ref.go:42", after := #[], guard := none } : Go.Oper)) (v := ?v2) rfl (by kernel_rfl) (by kernel_rfl) (by kernel_rfl) (fun _ _ _ h => h) (Or.inl ⟨by rfl, ?hy2⟩) (by assumption) ?rest2
          case hy2 => (intro w hSw; (try dsimp only at hSw); go_simp; (try with_reducible rfl))
          (try simp only [Act.put, List.getElem_toArray, List.getElem_cons_zero, List.getElem_cons_succ, List.setIfInBounds_toArray, List.set_cons_zero, List.set_cons_succ])
          refine wpAnyH_take (i := 2) (oi := ({ dst := some 13, op := Go.Op.call { callee := Go.Callee.builtin Go.Builtin.len, args := #[Go.Operand.tmp 12], argTypes := #[26] }, type := 3, pos := "ref.go:42", after := #[{ on := 1, ground := Go.Ground.data }], guard := none } : Go.Oper)) (v := ?v3) rfl (by kernel_rfl) (by kernel_rfl) (by kernel_rfl) (fun _ _ _ h => h) (Or.inl ⟨by rfl, ?hy3⟩) (by assumption) ?rest3
          case hy3 => (intro w hSw; (try dsimp only at hSw); go_simp; (try with_reducible rfl))
          (try simp only [Act.put, List.getElem_toArray, List.getElem_cons_zero, List.getElem_cons_succ, List.setIfInBounds_toArray, List.set_cons_zero, List.set_cons_succ])
          refine wpAnyH_take (i := 3) (oi := ({ dst := some 14, op := Go.Op.binOp Go.BinOp.lss 3 (Go.Operand.tmp 11) (Go.Operand.tmp 13) 3, type := 4, pos := "ref.go:42", after := #[{ on := 0, ground := Go.Ground.data }, { on := 2, ground := Go.Ground.data }], guard := none } : Go.Oper)) (v := ?v4) rfl (by kernel_rfl) (by kernel_rfl) (by kernel_rfl) (fun _ _ _ h => h) (Or.inl ⟨by rfl, ?hy4⟩) (by assumption) ?rest4
          case hy4 => (intro w hSw; (try dsimp only at hSw); go_simp; (try with_reducible rfl))
          (try simp only [Act.put, List.getElem_toArray, List.getElem_cons_zero, List.getElem_cons_succ, List.setIfInBounds_toArray, List.set_cons_zero, List.set_cons_succ])
          refine wpAnyH_take (i := 4) (oi := ({ dst := some 15, op := Go.Op.move (Go.Operand.tmp 14), type := 4, pos := "ref.go:42", after := #[{ on := 3, ground := Go.Ground.data }], guard := none } : Go.Oper)) (v := ?v5) rfl (by kernel_rfl) (by kernel_rfl) (by kernel_rfl) (fun _ _ _ h => h) (Or.inl ⟨by rfl, ?hy5⟩) (by assumption) ?rest5
          case hy5 => (intro w hSw; (try dsimp only at hSw); go_simp; (try with_reducible rfl))
          (try simp only [Act.put, List.getElem_toArray, List.getElem_cons_zero, List.getElem_cons_succ, List.setIfInBounds_toArray, List.set_cons_zero, List.set_cons_succ])
          refine wpAnyH_take (i := 5) (oi := ({ dst := some 16, op := Go.Op.move (Go.Operand.tmp 0), type := 26, pos := "ref.go:42", after := #[{ on := 4, ground := Go.Ground.guard }], guard := some (4, true) } : Go.Oper)) (v := ?v6) rfl (by kernel_rfl) (by kernel_rfl) (by kernel_rfl) (fun _ _ _ h => h) (Or.inl ⟨by rfl, ?hy6⟩) (by assumption) ?rest6
          case hy6 => (intro w hSw; (try dsimp only at hSw); go_simp; (try with_reducible rfl))
          (try simp only [Act.put, List.getElem_toArray, List.getElem_cons_zero, List.getElem_cons_succ, List.setIfInBounds_toArray, List.set_cons_zero, List.set_cons_succ])
          refine wpAnyH_take (i := 6) (oi := ({ dst := some 17, op := Go.Op.move (Go.Operand.tmp 6), type := 3, pos := "ref.go:42", after := #[{ on := 4, ground := Go.Ground.guard }], guard := some (4, true) } : Go.Oper)) (v := ?v7) rfl (by kernel_rfl) (by kernel_rfl) (by kernel_rfl) (fun _ _ _ h => h) (Or.inl ⟨by rfl, ?hy7⟩) (by assumption) ?rest7
          case hy7 => (intro w hSw; (try dsimp only at hSw); go_simp; (try with_reducible rfl))
          (try simp only [Act.put, List.getElem_toArray, List.getElem_cons_zero, List.getElem_cons_succ, List.setIfInBounds_toArray, List.set_cons_zero, List.set_cons_succ])
          refine wpAnyH_take (i := 7) (oi := ({ dst := some 18, op := Go.Op.indexAddr 26 (Go.Operand.tmp 16) (Go.Operand.tmp 17), type := 0, pos := "ref.go:42", after := #[{ on := 5, ground := Go.Ground.data }, { on := 6, ground := Go.Ground.data }, { on := 4, ground := Go.Ground.guard }], guard := some (4, true) } : Go.Oper)) (v := ?v8) rfl (by kernel_rfl) (by kernel_rfl) (by kernel_rfl) (fun _ _ _ h => h) (Or.inl ⟨by rfl, ?hy8⟩) (by assumption) ?rest8
          case hy8 => (intro w hSw; (try dsimp only at hSw); go_simp; (try with_reducible rfl))
          (try simp only [Act.put, List.getElem_toArray, List.getElem_cons_zero, List.getElem_cons_succ, List.setIfInBounds_toArray, List.set_cons_zero, List.set_cons_succ])
          refine wpAnyH_take (i := 8) (oi := ({ dst := some 19, op := Go.Op.load 40 (Go.Operand.tmp 18), type := 40, pos := "ref.go:42", after := #[{ on := 7, ground := Go.Ground.data }, { on := 4, ground := Go.Ground.guard }], guard := some (4, true) } : Go.Oper)) (v := ?v9) rfl (by kernel_rfl) (by kernel_rfl) (by kernel_rfl) (fun _ _ _ h => h) (Or.inl ⟨by rfl, ?hy9⟩) (by assumption) ?rest9
          case hy9 => (intro w hSw; (try dsimp only at hSw); go_simp; (try with_reducible rfl))
          (try simp only [Act.put, List.getElem_toArray, List.getElem_cons_zero, List.getElem_cons_succ, List.setIfInBounds_toArray, List.set_cons_zero, List.set_cons_succ])
          refine wpAnyH_take (i := 9) (oi := ({ dst := some 20, op := Go.Op.load 40 (Go.Operand.tmp 3), type := 40, pos := "ref.go:42", after := #[{ on := 4, ground := Go.Ground.guard }], guard := some (4, true) } : Go.Oper)) (v := ?v10) rfl (by kernel_rfl) (by kernel_rfl) (by kernel_rfl) (fun _ _ _ h => h) (Or.inl ⟨by rfl, ?hy10⟩) (by assumption) ?rest10
          case hy10 => (intro w hSw; (try dsimp only at hSw); go_simp; (try with_reducible rfl))
          (try simp only [Act.put, List.getElem_toArray, List.getElem_cons_zero, List.getElem_cons_succ, List.setIfInBounds_toArray, List.set_cons_zero, List.set_cons_succ])
          refine wpAnyH_ready (rs := [10]) (by kernel_rfl) (by simp) ?_
          refine AllReadyH.cons (o := ({ dst := some 21, op := Go.Op.call { callee := Go.Callee.value (Go.Operand.func 28), args := #[Go.Operand.tmp 19, Go.Operand.tmp 20], argTypes := #[40, 40] }, type := 3, pos := "ref.go:42", after := #[{ on := 8, ground := Go.Ground.data }, { on := 9, ground := Go.Ground.data }, { on := 4, ground := Go.Ground.chain }, { on := 4, ground := Go.Ground.guard }], guard := some (4, true) } : Go.Oper)) rfl (fun K hK => ?_) AllReadyH.nil
          go_simp
          refine (rcompare_any _ _ y x _ ?_ ?_).mono ?_; exact (HRY.out.ext (XW.out.trans (by with_reducible (repeat (first | exact Ext.rfl_ _ | assumption | refine Ext.drew ?_ | refine Ext.drewN ?_ _ | refine Ext.alloc ?_ _ | refine Ext.trans ?_ (by assumption)))))); exact (HX.out.ext (XW.out.trans (by with_reducible (repeat (first | exact Ext.rfl_ _ | assumption | refine Ext.drew ?_ | refine Ext.drewN ?_ _ | refine Ext.alloc ?_ _ | refine Ext.trans ?_ (by assumption)))))); rintro e w5 ⟨rfl, hw5⟩; have hc := HC.out
          (try (go_wp2_with fail))
          refine hK.out _ _ (by (try dsimp only); exact ⟨keep4 (w := wr) (by with_reducible (repeat (first | exact Ext.rfl_ _ | assumption | refine Ext.drew ?_ | refine Ext.drewN ?_ _ | refine Ext.alloc ?_ _ | refine Ext.trans ?_ (by assumption)))) E0.out E1.out E2.out E3.out, box4 HBX1.out (HE.out.trans (by with_reducible (repeat (first | exact Ext.rfl_ _ | assumption | refine Ext.drew ?_ | refine Ext.drewN ?_ _ | refine Ext.alloc ?_ _ | refine Ext.trans ?_ (by assumption)))))⟩) (fun hHeld => ?_)
          clear hK K
          (try simp only [Act.put, List.getElem_toArray, List.getElem_cons_zero, List.getElem_cons_succ, List.setIfInBounds_toArray, List.set_cons_zero, List.set_cons_succ])
          refine wpAnyH_take (i := 11) (oi := ({ dst := some 22, op := Go.Op.binOp Go.BinOp.lss 3 (Go.Operand.tmp 21) (Go.Operand.const (Go.Value.int Go.IntKind.i64 0)) 3, type := 4, pos := "ref.go:42", after := #[{ on := 10, ground := Go.Ground.data }, { on := 4, ground := Go.Ground.guard }], guard := some (4, true) } : Go.Oper)) (v := ?v11) rfl (by kernel_rfl) (by kernel_rfl) (by kernel_rfl) (fun _ _ _ h => h) (Or.inl ⟨by rfl, ?hy11⟩) (by assumption) ?rest11
          case hy11 => (intro w hSw; (try dsimp only at hSw); go_simp; (try with_reducible rfl))
          (try simp only [Act.put, List.getElem_toArray, List.getElem_cons_zero, List.getElem_cons_succ, List.setIfInBounds_toArray, List.set_cons_zero, List.set_cons_succ])
          refine wpAnyH_take (i := 12) (oi := ({ dst := some 23, op := Go.Op.pick (Go.Operand.tmp 15) (Go.Operand.tmp 22) (Go.Operand.const (Go.Value.bool false)), type := 4, pos := "ref.go:42", after := #[{ on := 4, ground := Go.Ground.data }, { on := 11, ground := Go.Ground.data }], guard := none } : Go.Oper)) (v := ?v12) rfl (by kernel_rfl) (by kernel_rfl) (by kernel_rfl) (fun _ _ _ h => h) (Or.inl ⟨by rfl, ?hy12⟩) (by assumption) ?rest12
          case hy12 => (intro w hSw; (try dsimp only at hSw); go_simp; (try with_reducible rfl))
          (try simp only [Act.put, List.getElem_toArray, List.getElem_cons_zero, List.getElem_cons_succ, List.setIfInBounds_toArray, List.set_cons_zero, List.set_cons_succ])
          refine wpAnyH_done (by kernel_rfl) ?_ _

          all_goals
            have X5 := Lib.hid (show Ext wr w5 from (by with_reducible (repeat (first | exact Ext.rfl_ _ | assumption | refine Ext.drew ?_ | refine Ext.drewN ?_ _ | refine Ext.alloc ?_ _ | refine Ext.trans ?_ (by assumption)))))
            clear hw5
            go_wp2
            go_roundw
            case rel =>
              refine ⟨k + 1, by omega, by go_num, ?_, HE.out.trans X5.out⟩
              rw [List.take_succ_eq_append_getElem (by omega), HYK.out]
              intro z hz
              rcases List.mem_append.1 hz with h | h
              · exact HAL.out z h
              · obtain rfl : z = y := by simpa using h
                exact decide_eq_true HC.out
            case measure => simp [intOf]; omega
        · have HC := Lib.hid hc
          obtain ⟨hT, hD⟩ := span_at (p := ahE x) (xs := xs) (k := k) (by omega) HAL.out (fun h' => by rw [HYK.out]; exact decide_eq_false HC.out)
          have hD' : xs.dropWhile (ahE x) = y :: xs.drop (k + 1) := by rw [hD, List.drop_eq_getElem_cons (by omega), HYK.out]
          have HT := Lib.hid hT
          have HD := Lib.hid hD
          have HD' := Lib.hid hD'
          clear hc hT hD hD'
          go_wp2
          refine wp_region_held_drew (S := (fun w' => (w'.cell? ⟨b, o + k * 4, none⟩ = some (.slice A1 n1 c1) ∧ w'.cell? ⟨b, o + k * 4 + 1, none⟩ = some (.int .i64 y.seq) ∧ w'.cell? ⟨b, o + k * 4 + 2, none⟩ = some (.int .i64 y.kind) ∧ w'.cell? ⟨b, o + k * 4 + 3, none⟩ = some (.slice A2 n2 c2)) ∧ w'.cell? ⟨w.heap.size, 0, none⟩ = some (.slice Ae ne ce) ∧ w'.cell? ⟨w.heap.size, 1, none⟩ = some (.int .i64 x.seq) ∧ w'.cell? ⟨w.heap.size, 2, none⟩ = some (.int .i64 x.kind) ∧ w'.cell? ⟨w.heap.size, 3, none⟩ = some (.slice Be me de) ∧ w'.frozen? ⟨w.heap.size, 0, none⟩ = false ∧ w'.frozen? ⟨w.heap.size, 1, none⟩ = false ∧ w'.frozen? ⟨w.heap.size, 2, none⟩ = false ∧ w'.frozen? ⟨w.heap.size, 3, none⟩ = false)) (by kernel_rfl) (by (try dsimp only); exact ⟨keep4 (w := wr) (by with_reducible (repeat (first | exact Ext.rfl_ _ | assumption | refine Ext.drew ?_ | refine Ext.drewN ?_ _ | refine Ext.alloc ?_ _ | refine Ext.trans ?_ (by assumption)))) E0.out E1.out E2.out E3.out, box4 HBX1.out (HE.out.trans (by with_reducible (repeat (first | exact Ext.rfl_ _ | assumption | refine Ext.drew ?_ | refine Ext.drewN ?_ _ | refine Ext.alloc ?_ _ | refine Ext.trans ?_ (by assumption)))))⟩) (fun hHeld => ?_)
          refine wpAnyH_take (i := 0) (oi := ({ dst := some 11, op := Go.Op.move (Go.Operand.tmp 6), type := 3, pos := "ref.go:42", after := #[], guard := none } : Go.Oper)) (v := ?v13) rfl (by kernel_rfl) (by kernel_rfl) (by kernel_rfl) (fun _ _ _ h => h) (Or.inl ⟨by rfl, ?hy13⟩) (by assumption) ?rest13
          case hy13 => (intro w hSw; (try dsimp only at hSw); go_simp; (try with_reducible rfl))
          (try simp only [Act.put, List.getElem_toArray, List.getElem_cons_zero, List.getElem_cons_succ, List.setIfInBounds_toArray, List.set_cons_zero, List.set_cons_succ])
          refine wpAnyH_take (i := 1) (oi := ({ dst := some 12, op := Go.Op.move (Go.Operand.tmp 0), type := 26, pos := "ref.go:42", after := #[], guard := none } : Go.Oper)) (v := ?v14) rfl (by kernel_rfl) (by kernel_rfl) (by kernel_rfl) (fun _ _ _ h => h) (Or.inl ⟨by rfl, ?hy14⟩) (by assumption) ?rest14
          case hy14 => (intro w hSw; (try dsimp only at hSw); go_simp; (try with_reducible rfl))
          (try simp only [Act.put, List.getElem_toArray, List.getElem_cons_zero, List.getElem_cons_succ, List.setIfInBounds_toArray, List.set_cons_zero, List.set_cons_succ])
          refine wpAnyH_take (i := 2) (oi := ({ dst := some 13, op := Go.Op.call { callee := Go.Callee.builtin Go.Builtin.len, args := #[Go.Operand.tmp 12], argTypes := #[26] }, type := 3, pos := "ref.go:42", after := #[{ on := 1, ground := Go.Ground.data }], guard := none } : Go.Oper)) (v := ?v15) rfl (by kernel_rfl) (by kernel_rfl) (by kernel_rfl) (fun _ _ _ h => h) (Or.inl ⟨by rfl, ?hy15⟩) (by assumption) ?rest15
          case hy15 => (intro w hSw; (try dsimp only at hSw); go_simp; (try with_reducible rfl))
          (try simp only [Act.put, List.getElem_toArray, List.getElem_cons_zero, List.getElem_cons_succ, List.setIfInBounds_toArray, List.set_cons_zero, List.set_cons_succ])
          refine wpAnyH_take (i := 3) (oi := ({ dst := some 14, op := Go.Op.binOp Go.BinOp.lss 3 (Go.Operand.tmp 11) (Go.Operand.tmp 13) 3, type := 4, pos := "ref.go:42", after := #[{ on := 0, ground := Go.Ground.data }, { on := 2, ground := Go.Ground.data }], guard := none } : Go.Oper)) (v := ?v16) rfl (by kernel_rfl) (by kernel_rfl) (by kernel_rfl) (fun _ _ _ h => h) (Or.inl ⟨by rfl, ?hy16⟩) (by assumption) ?rest16
          case hy16 => (intro w hSw; (try dsimp only at hSw); go_simp; (try with_reducible rfl))
          (try simp only [Act.put, List.getElem_toArray, List.getElem_cons_zero, List.getElem_cons_succ, List.setIfInBounds_toArray, List.set_cons_zero, List.set_cons_succ])
          refine wpAnyH_take (i := 4) (oi := ({ dst := some 15, op := Go.Op.move (Go.Operand.tmp 14), type := 4, pos := "ref.go:42", after := #[{ on := 3, ground := Go.Ground.data }], guard := none } : Go.Oper)) (v := ?v17) rfl (by kernel_rfl) (by kernel_rfl) (by kernel_rfl) (fun _ _ _ h => h) (Or.inl ⟨by rfl, ?hy17⟩) (by assumption) ?rest17
          case hy17 => (intro w hSw; (try dsimp only at hSw); go_simp; (try with_reducible rfl))
          (try simp only [Act.put, List.getElem_toArray, List.getElem_cons_zero, List.getElem_cons_succ, List.setIfInBounds_toArray, List.set_cons_zero, List.set_cons_succ])
          refine wpAnyH_take (i := 5) (oi := ({ dst := some 16, op := Go.Op.move (Go.Operand.tmp 0), type := 26, pos := "ref.go:42", after := #[{ on := 4, ground := Go.Ground.guard }], guard := some (4, true) } : Go.Oper)) (v := ?v18) rfl (by kernel_rfl) (by kernel_rfl) (by kernel_rfl) (fun _ _ _ h => h) (Or.inl ⟨by rfl, ?hy18⟩) (by assumption) ?rest18
          case hy18 => (intro w hSw; (try dsimp only at hSw); go_simp; (try with_reducible rfl))
          (try simp only [Act.put, List.getElem_toArray, List.getElem_cons_zero, List.getElem_cons_succ, List.setIfInBounds_toArray, List.set_cons_zero, List.set_cons_succ])
          refine wpAnyH_take (i := 6) (oi := ({ dst := some 17, op := Go.Op.move (Go.Operand.tmp 6), type := 3, pos := "ref.go:42", after := #[{ on := 4, ground := Go.Ground.guard }], guard := some (4, true) } : Go.Oper)) (v := ?v19) rfl (by kernel_rfl) (by kernel_rfl) (by kernel_rfl) (fun _ _ _ h => h) (Or.inl ⟨by rfl, ?hy19⟩) (by assumption) ?rest19
          case hy19 => (intro w hSw; (try dsimp only at hSw); go_simp; (try with_reducible rfl))
          (try simp only [Act.put, List.getElem_toArray, List.getElem_cons_zero, List.getElem_cons_succ, List.setIfInBounds_toArray, List.set_cons_zero, List.set_cons_succ])
          refine wpAnyH_take (i := 7) (oi := ({ dst := some 18, op := Go.Op.indexAddr 26 (Go.Operand.tmp 16) (Go.Operand.tmp 17), type := 0, pos := "ref.go:42", after := #[{ on := 5, ground := Go.Ground.data }, { on := 6, ground := Go.Ground.data }, { on := 4, ground := Go.Ground.guard }], guard := some (4, true) } : Go.Oper)) (v := ?v20) rfl (by kernel_rfl) (by kernel_rfl) (by kernel_rfl) (fun _ _ _ h => h) (Or.inl ⟨by rfl, ?hy20⟩) (by assumption) ?rest20
          case hy20 => (intro w hSw; (try dsimp only at hSw); go_simp; (try with_reducible rfl))
          (try simp only [Act.put, List.getElem_toArray, List.getElem_cons_zero, List.getElem_cons_succ, List.setIfInBounds_toArray, List.set_cons_zero, List.set_cons_succ])
          refine wpAnyH_take (i := 8) (oi := ({ dst := some 19, op := Go.Op.load 40 (Go.Operand.tmp 18), type := 40, pos := "ref.go:42", after := #[{ on := 7, ground := Go.Ground.data }, { on := 4, ground := Go.Ground.guard }], guard := some (4, true) } : Go.Oper)) (v := ?v21) rfl (by kernel_rfl) (by kernel_rfl) (by kernel_rfl) (fun _ _ _ h => h) (Or.inl ⟨by rfl, ?hy21⟩) (by assumption) ?rest21
          case hy21 => (intro w hSw; (try dsimp only at hSw); go_simp; (try with_reducible rfl))
          (try simp only [Act.put, List.getElem_toArray, List.getElem_cons_zero, List.getElem_cons_succ, List.setIfInBounds_toArray, List.set_cons_zero, List.set_cons_succ])
          refine wpAnyH_take (i := 9) (oi := ({ dst := some 20, op := Go.Op.load 40 (Go.Operand.tmp 3), type := 40, pos := "ref.go:42", after := #[{ on := 4, ground := Go.Ground.guard }], guard := some (4, true) } : Go.Oper)) (v := ?v22) rfl (by kernel_rfl) (by kernel_rfl) (by kernel_rfl) (fun _ _ _ h => h) (Or.inl ⟨by rfl, ?hy22⟩) (by assumption) ?rest22
          case hy22 => (intro w hSw; (try dsimp only at hSw); go_simp; (try with_reducible rfl))
          (try simp only [Act.put, List.getElem_toArray, List.getElem_cons_zero, List.getElem_cons_succ, List.setIfInBounds_toArray, List.set_cons_zero, List.set_cons_succ])
          refine wpAnyH_ready (rs := [10]) (by kernel_rfl) (by simp) ?_
          refine AllReadyH.cons (o := ({ dst := some 21, op := Go.Op.call { callee := Go.Callee.value (Go.Operand.func 28), args := #[Go.Operand.tmp 19, Go.Operand.tmp 20], argTypes := #[40, 40] }, type := 3, pos := "ref.go:42", after := #[{ on := 8, ground := Go.Ground.data }, { on := 9, ground := Go.Ground.data }, { on := 4, ground := Go.Ground.chain }, { on := 4, ground := Go.Ground.guard }], guard := some (4, true) } : Go.Oper)) rfl (fun K hK => ?_) AllReadyH.nil
          go_simp
          refine (rcompare_any _ _ y x _ ?_ ?_).mono ?_; exact (HRY.out.ext (XW.out.trans (by with_reducible (repeat (first | exact Ext.rfl_ _ | assumption | refine Ext.drew ?_ | refine Ext.drewN ?_ _ | refine Ext.alloc ?_ _ | refine Ext.trans ?_ (by assumption)))))); exact (HX.out.ext (XW.out.trans (by with_reducible (repeat (first | exact Ext.rfl_ _ | assumption | refine Ext.drew ?_ | refine Ext.drewN ?_ _ | refine Ext.alloc ?_ _ | refine Ext.trans ?_ (by assumption)))))); rintro e w5 ⟨rfl, hw5⟩; have hc := HC.out
          (try (go_wp2_with fail))
          refine hK.out _ _ (by (try dsimp only); exact ⟨keep4 (w := wr) (by with_reducible (repeat (first | exact Ext.rfl_ _ | assumption | refine Ext.drew ?_ | refine Ext.drewN ?_ _ | refine Ext.alloc ?_ _ | refine Ext.trans ?_ (by assumption)))) E0.out E1.out E2.out E3.out, box4 HBX1.out (HE.out.trans (by with_reducible (repeat (first | exact Ext.rfl_ _ | assumption | refine Ext.drew ?_ | refine Ext.drewN ?_ _ | refine Ext.alloc ?_ _ | refine Ext.trans ?_ (by assumption)))))⟩) (fun hHeld => ?_)
          clear hK K
          (try simp only [Act.put, List.getElem_toArray, List.getElem_cons_zero, List.getElem_cons_succ, List.setIfInBounds_toArray, List.set_cons_zero, List.set_cons_succ])
          refine wpAnyH_take (i := 11) (oi := ({ dst := some 22, op := Go.Op.binOp Go.BinOp.lss 3 (Go.Operand.tmp 21) (Go.Operand.const (Go.Value.int Go.IntKind.i64 0)) 3, type := 4, pos := "ref.go:42", after := #[{ on := 10, ground := Go.Ground.data }, { on := 4, ground := Go.Ground.guard }], guard := some (4, true) } : Go.Oper)) (v := ?v23) rfl (by kernel_rfl) (by kernel_rfl) (by kernel_rfl) (fun _ _ _ h => h) (Or.inl ⟨by rfl, ?hy23⟩) (by assumption) ?rest23
          case hy23 => (intro w hSw; (try dsimp only at hSw); go_simp; (try with_reducible rfl))
          (try simp only [Act.put, List.getElem_toArray, List.getElem_cons_zero, List.getElem_cons_succ, List.setIfInBounds_toArray, List.set_cons_zero, List.set_cons_succ])
          refine wpAnyH_take (i := 12) (oi := ({ dst := some 23, op := Go.Op.pick (Go.Operand.tmp 15) (Go.Operand.tmp 22) (Go.Operand.const (Go.Value.bool false)), type := 4, pos := "ref.go:42", after := #[{ on := 4, ground := Go.Ground.data }, { on := 11, ground := Go.Ground.data }], guard := none } : Go.Oper)) (v := ?v24) rfl (by kernel_rfl) (by kernel_rfl) (by kernel_rfl) (fun _ _ _ h => h) (Or.inl ⟨by rfl, ?hy24⟩) (by assumption) ?rest24
          case hy24 => (intro w hSw; (try dsimp only at hSw); go_simp; (try with_reducible rfl))
          (try simp only [Act.put, List.getElem_toArray, List.getElem_cons_zero, List.getElem_cons_succ, List.setIfInBounds_toArray, List.set_cons_zero, List.set_cons_succ])
          refine wpAnyH_done (by kernel_rfl) ?_ _

          all_goals
            have X5 := Lib.hid (show Ext wr w5 from (by with_reducible (repeat (first | exact Ext.rfl_ _ | assumption | refine Ext.drew ?_ | refine Ext.drewN ?_ _ | refine Ext.alloc ?_ _ | refine Ext.trans ?_ (by assumption)))))
            have E0 := Lib.hid (X5.out.keeps _ _ _ E0.out)
            have E1 := Lib.hid (X5.out.keeps _ _ _ E1.out)
            have E2 := Lib.hid (X5.out.keeps _ _ _ E2.out)
            have E3 := Lib.hid (X5.out.keeps _ _ _ E3.out)
            have HE := Lib.hid (HE.out.trans X5.out)
            have XW := Lib.hid (XW.out.trans X5.out)
            clear hw5
            by_cases hc0 : cmpE y x = 0
            · have HC0 := Lib.hid hc0
              clear hc0
              go_wp2
              refine wp_region_held_drew (S := (fun w' => (w'.cell? ⟨b, o + k * 4, none⟩ = some (.slice A1 n1 c1) ∧ w'.cell? ⟨b, o + k * 4 + 1, none⟩ = some (.int .i64 y.seq) ∧ w'.cell? ⟨b, o + k * 4 + 2, none⟩ = some (.int .i64 y.kind) ∧ w'.cell? ⟨b, o + k * 4 + 3, none⟩ = some (.slice A2 n2 c2)) ∧ w'.cell? ⟨w.heap.size, 0, none⟩ = some (.slice Ae ne ce) ∧ w'.cell? ⟨w.heap.size, 1, none⟩ = some (.int .i64 x.seq) ∧ w'.cell? ⟨w.heap.size, 2, none⟩ = some (.int .i64 x.kind) ∧ w'.cell? ⟨w.heap.size, 3, none⟩ = some (.slice Be me de) ∧ w'.frozen? ⟨w.heap.size, 0, none⟩ = false ∧ w'.frozen? ⟨w.heap.size, 1, none⟩ = false ∧ w'.frozen? ⟨w.heap.size, 2, none⟩ = false ∧ w'.frozen? ⟨w.heap.size, 3, none⟩ = false)) (by kernel_rfl) (by (try dsimp only); exact ⟨keep4 (w := w5) (by with_reducible (repeat (first | exact Ext.rfl_ _ | assumption | refine Ext.drew ?_ | refine Ext.drewN ?_ _ | refine Ext.alloc ?_ _ | refine Ext.trans ?_ (by assumption)))) E0.out E1.out E2.out E3.out, box4 HBX1.out (HE.out.trans (by with_reducible (repeat (first | exact Ext.rfl_ _ | assumption | refine Ext.drew ?_ | refine Ext.drewN ?_ _ | refine Ext.alloc ?_ _ | refine Ext.trans ?_ (by assumption)))))⟩) (fun hHeld => ?_)
              refine wpAnyH_take (i := 0) (oi := ({ dst := some 26, op := Go.Op.move (Go.Operand.tmp 6), type := 3, pos := "ref.go:45", after := #[], guard := none } : Go.Oper)) (v := ?v25) rfl (by kernel_rfl) (by kernel_rfl) (by kernel_rfl) (fun _ _ _ h => h) (Or.inl ⟨by rfl, ?hy25⟩) (by assumption) ?rest25
              case hy25 => (intro w hSw; (try dsimp only at hSw); go_simp; (try with_reducible rfl))
              (try simp only [Act.put, List.getElem_toArray, List.getElem_cons_zero, List.getElem_cons_succ, List.setIfInBounds_toArray, List.set_cons_zero, List.set_cons_succ])
              refine wpAnyH_take (i := 1) (oi := ({ dst := some 27, op := Go.Op.move (Go.Operand.tmp 0), type := 26, pos := "ref.go:45", after := #[], guard := none } : Go.Oper)) (v := ?v26) rfl (by kernel_rfl) (by kernel_rfl) (by kernel_rfl) (fun _ _ _ h => h) (Or.inl ⟨by rfl, ?hy26⟩) (by assumption) ?rest26
              case hy26 => (intro w hSw; (try dsimp only at hSw); go_simp; (try with_reducible rfl))
              (try simp only [Act.put, List.getElem_toArray, List.getElem_cons_zero, List.getElem_cons_succ, List.setIfInBounds_toArray, List.set_cons_zero, List.set_cons_succ])
              refine wpAnyH_take (i := 2) (oi := ({ dst := some 28, op := Go.Op.call { callee := Go.Callee.builtin Go.Builtin.len, args := #[Go.Operand.tmp 27], argTypes := #[26] }, type := 3, pos := "ref.go:45", after := #[{ on := 1, ground := Go.Ground.data }], guard := none } : Go.Oper)) (v := ?v27) rfl (by kernel_rfl) (by kernel_rfl) (by kernel_rfl) (fun _ _ _ h => h) (Or.inl ⟨by rfl, ?hy27⟩) (by assumption) ?rest27
              case hy27 => (intro w hSw; (try dsimp only at hSw); go_simp; (try with_reducible rfl))
              (try simp only [Act.put, List.getElem_toArray, List.getElem_cons_zero, List.getElem_cons_succ, List.setIfInBounds_toArray, List.set_cons_zero, List.set_cons_succ])
              refine wpAnyH_take (i := 3) (oi := ({ dst := some 29, op := Go.Op.binOp Go.BinOp.lss 3 (Go.Operand.tmp 26) (Go.Operand.tmp 28) 3, type := 4, pos := "ref.go:45", after := #[{ on := 0, ground := Go.Ground.data }, { on := 2, ground := Go.Ground.data }], guard := none } : Go.Oper)) (v := ?v28) rfl (by kernel_rfl) (by kernel_rfl) (by kernel_rfl) (fun _ _ _ h => h) (Or.inl ⟨by rfl, ?hy28⟩) (by assumption) ?rest28
              case hy28 => (intro w hSw; (try dsimp only at hSw); go_simp; (try with_reducible rfl))
              (try simp only [Act.put, List.getElem_toArray, List.getElem_cons_zero, List.getElem_cons_succ, List.setIfInBounds_toArray, List.set_cons_zero, List.set_cons_succ])
              refine wpAnyH_take (i := 4) (oi := ({ dst := some 30, op := Go.Op.move (Go.Operand.tmp 29), type := 4, pos := "ref.go:45", after := #[{ on := 3, ground := Go.Ground.data }], guard := none } : Go.Oper)) (v := ?v29) rfl (by kernel_rfl) (by kernel_rfl) (by kernel_rfl) (fun _ _ _ h => h) (Or.inl ⟨by rfl, ?hy29⟩) (by assumption) ?rest29
              case hy29 => (intro w hSw; (try dsimp only at hSw); go_simp; (try with_reducible rfl))
              (try simp only [Act.put, List.getElem_toArray, List.getElem_cons_zero, List.getElem_cons_succ, List.setIfInBounds_toArray, List.set_cons_zero, List.set_cons_succ])
              refine wpAnyH_take (i := 5) (oi := ({ dst := some 31, op := Go.Op.move (Go.Operand.tmp 0), type := 26, pos := "ref.go:45", after := #[{ on := 4, ground := Go.Ground.guard }], guard := some (4, true) } : Go.Oper)) (v := ?v30) rfl (by kernel_rfl) (by kernel_rfl) (by kernel_rfl) (fun _ _ _ h => h) (Or.inl ⟨by rfl, ?hy30⟩) (by assumption) ?rest30
              case hy30 => (intro w hSw; (try dsimp only at hSw); go_simp; (try with_reducible rfl))
              (try simp only [Act.put, List.getElem_toArray, List.getElem_cons_zero, List.getElem_cons_succ, List.setIfInBounds_toArray, List.set_cons_zero, List.set_cons_succ])
              refine wpAnyH_take (i := 6) (oi := ({ dst := some 32, op := Go.Op.move (Go.Operand.tmp 6), type := 3, pos := "ref.go:45", after := #[{ on := 4, ground := Go.Ground.guard }], guard := some (4, true) } : Go.Oper)) (v := ?v31) rfl (by kernel_rfl) (by kernel_rfl) (by kernel_rfl) (fun _ _ _ h => h) (Or.inl ⟨by rfl, ?hy31⟩) (by assumption) ?rest31
              case hy31 => (intro w hSw; (try dsimp only at hSw); go_simp; (try with_reducible rfl))
              (try simp only [Act.put, List.getElem_toArray, List.getElem_cons_zero, List.getElem_cons_succ, List.setIfInBounds_toArray, List.set_cons_zero, List.set_cons_succ])
              refine wpAnyH_take (i := 7) (oi := ({ dst := some 33, op := Go.Op.indexAddr 26 (Go.Operand.tmp 31) (Go.Operand.tmp 32), type := 0, pos := "ref.go:45", after := #[{ on := 5, ground := Go.Ground.data }, { on := 6, ground := Go.Ground.data }, { on := 4, ground := Go.Ground.guard }], guard := some (4, true) } : Go.Oper)) (v := ?v32) rfl (by kernel_rfl) (by kernel_rfl) (by kernel_rfl) (fun _ _ _ h => h) (Or.inl ⟨by rfl, ?hy32⟩) (by assumption) ?rest32
              case hy32 => (intro w hSw; (try dsimp only at hSw); go_simp; (try with_reducible rfl))
              (try simp only [Act.put, List.getElem_toArray, List.getElem_cons_zero, List.getElem_cons_succ, List.setIfInBounds_toArray, List.set_cons_zero, List.set_cons_succ])
              refine wpAnyH_take (i := 8) (oi := ({ dst := some 34, op := Go.Op.load 40 (Go.Operand.tmp 33), type := 40, pos := "ref.go:45", after := #[{ on := 7, ground := Go.Ground.data }, { on := 4, ground := Go.Ground.guard }], guard := some (4, true) } : Go.Oper)) (v := ?v33) rfl (by kernel_rfl) (by kernel_rfl) (by kernel_rfl) (fun _ _ _ h => h) (Or.inl ⟨by rfl, ?hy33⟩) (by assumption) ?rest33
              case hy33 => (intro w hSw; (try dsimp only at hSw); go_simp; (try with_reducible rfl))
              (try simp only [Act.put, List.getElem_toArray, List.getElem_cons_zero, List.getElem_cons_succ, List.setIfInBounds_toArray, List.set_cons_zero, List.set_cons_succ])
              refine wpAnyH_take (i := 9) (oi := ({ dst := some 35, op := Go.Op.load 40 (Go.Operand.tmp 3), type := 40, pos := "ref.go:45", after := #[{ on := 4, ground := Go.Ground.guard }], guard := some (4, true) } : Go.Oper)) (v := ?v34) rfl (by kernel_rfl) (by kernel_rfl) (by kernel_rfl) (fun _ _ _ h => h) (Or.inl ⟨by rfl, ?hy34⟩) (by assumption) ?rest34
              case hy34 => (intro w hSw; (try dsimp only at hSw); go_simp; (try with_reducible rfl))
              (try simp only [Act.put, List.getElem_toArray, List.getElem_cons_zero, List.getElem_cons_succ, List.setIfInBounds_toArray, List.set_cons_zero, List.set_cons_succ])
              refine wpAnyH_ready (rs := [10]) (by kernel_rfl) (by simp) ?_
              refine AllReadyH.cons (o := ({ dst := some 36, op := Go.Op.call { callee := Go.Callee.value (Go.Operand.func 28), args := #[Go.Operand.tmp 34, Go.Operand.tmp 35], argTypes := #[40, 40] }, type := 3, pos := "ref.go:45", after := #[{ on := 8, ground := Go.Ground.data }, { on := 9, ground := Go.Ground.data }, { on := 4, ground := Go.Ground.chain }, { on := 4, ground := Go.Ground.guard }], guard := some (4, true) } : Go.Oper)) rfl (fun K hK => ?_) AllReadyH.nil
              go_simp
              refine (rcompare_any _ _ y x _ ?_ ?_).mono ?_; exact (HRY.out.ext (XW.out.trans (by with_reducible (repeat (first | exact Ext.rfl_ _ | assumption | refine Ext.drew ?_ | refine Ext.drewN ?_ _ | refine Ext.alloc ?_ _ | refine Ext.trans ?_ (by assumption)))))); exact (HX.out.ext (XW.out.trans (by with_reducible (repeat (first | exact Ext.rfl_ _ | assumption | refine Ext.drew ?_ | refine Ext.drewN ?_ _ | refine Ext.alloc ?_ _ | refine Ext.trans ?_ (by assumption)))))); rintro e w6 ⟨rfl, hw6⟩; rw [HC0.out]
              (try (go_wp2_with fail))
              refine hK.out _ _ (by (try dsimp only); exact ⟨keep4 (w := w5) (by with_reducible (repeat (first | exact Ext.rfl_ _ | assumption | refine Ext.drew ?_ | refine Ext.drewN ?_ _ | refine Ext.alloc ?_ _ | refine Ext.trans ?_ (by assumption)))) E0.out E1.out E2.out E3.out, box4 HBX1.out (HE.out.trans (by with_reducible (repeat (first | exact Ext.rfl_ _ | assumption | refine Ext.drew ?_ | refine Ext.drewN ?_ _ | refine Ext.alloc ?_ _ | refine Ext.trans ?_ (by assumption)))))⟩) (fun hHeld => ?_)
              clear hK K
              (try simp only [Act.put, List.getElem_toArray, List.getElem_cons_zero, List.getElem_cons_succ, List.setIfInBounds_toArray, List.set_cons_zero, List.set_cons_succ])
              refine wpAnyH_take (i := 11) (oi := ({ dst := some 37, op := Go.Op.binOp Go.BinOp.eql 3 (Go.Operand.tmp 36) (Go.Operand.const (Go.Value.int Go.IntKind.i64 0)) 3, type := 4, pos := "ref.go:45", after := #[{ on := 10, ground := Go.Ground.data }, { on := 4, ground := Go.Ground.guard }], guard := some (4, true) } : Go.Oper)) (v := ?v35) rfl (by kernel_rfl) (by kernel_rfl) (by kernel_rfl) (fun _ _ _ h => h) (Or.inl ⟨by rfl, ?hy35⟩) (by assumption) ?rest35
              case hy35 => (intro w hSw; (try dsimp only at hSw); go_simp; (try with_reducible rfl))
              (try simp only [Act.put, List.getElem_toArray, List.getElem_cons_zero, List.getElem_cons_succ, List.setIfInBounds_toArray, List.set_cons_zero, List.set_cons_succ])
              refine wpAnyH_take (i := 12) (oi := ({ dst := some 38, op := Go.Op.pick (Go.Operand.tmp 30) (Go.Operand.tmp 37) (Go.Operand.const (Go.Value.bool false)), type := 4, pos := "ref.go:45", after := #[{ on := 4, ground := Go.Ground.data }, { on := 11, ground := Go.Ground.data }], guard := none } : Go.Oper)) (v := ?v36) rfl (by kernel_rfl) (by kernel_rfl) (by kernel_rfl) (fun _ _ _ h => h) (Or.inl ⟨by rfl, ?hy36⟩) (by assumption) ?rest36
              case hy36 => (intro w hSw; (try dsimp only at hSw); go_simp; (try with_reducible rfl))
              (try simp only [Act.put, List.getElem_toArray, List.getElem_cons_zero, List.getElem_cons_succ, List.setIfInBounds_toArray, List.set_cons_zero, List.set_cons_succ])
              refine wpAnyH_done (by kernel_rfl) ?_ _

              all_goals
                have X6 : Ext w5 w6 := (by with_reducible (repeat (first | exact Ext.rfl_ _ | assumption | refine Ext.drew ?_ | refine Ext.drewN ?_ _ | refine Ext.alloc ?_ _ | refine Ext.trans ?_ (by assumption))))
                go_wp2
                refine bodyPost_ret (v := .tuple #[.slice (some ⟨b, o, none⟩) n c, .int .i64 7]) (by simp [results, Try.f33, go_sem]) rfl ?_
                rw [insP_there HM.out HD'.out HC0.out]
                exact ⟨_, _, _, rfl, hnc, (HL.out.mono fun _ h => .inl h).ext (XW.out.trans X6), XW.out.trans X6⟩
            · have HC0 := Lib.hid hc0
              clear hc0
              go_wp2
              refine wp_region_held_drew (S := (fun w' => (w'.cell? ⟨b, o + k * 4, none⟩ = some (.slice A1 n1 c1) ∧ w'.cell? ⟨b, o + k * 4 + 1, none⟩ = some (.int .i64 y.seq) ∧ w'.cell? ⟨b, o + k * 4 + 2, none⟩ = some (.int .i64 y.kind) ∧ w'.cell? ⟨b, o + k * 4 + 3, none⟩ = some (.slice A2 n2 c2)) ∧ w'.cell? ⟨w.heap.size, 0, none⟩ = some (.slice Ae ne ce) ∧ w'.cell? ⟨w.heap.size, 1, none⟩ = some (.int .i64 x.seq) ∧ w'.cell? ⟨w.heap.size, 2, none⟩ = some (.int .i64 x.kind) ∧ w'.cell? ⟨w.heap.size, 3, none⟩ = some (.slice Be me de) ∧ w'.frozen? ⟨w.heap.size, 0, none⟩ = false ∧ w'.frozen? ⟨w.heap.size, 1, none⟩ = false ∧ w'.frozen? ⟨w.heap.size, 2, none⟩ = false ∧ w'.frozen? ⟨w.heap.size, 3, none⟩ = false)) (by kernel_rfl) (by (try dsimp only); exact ⟨keep4 (w := w5) (by with_reducible (repeat (first | exact Ext.rfl_ _ | assumption | refine Ext.drew ?_ | refine Ext.drewN ?_ _ | refine Ext.alloc ?_ _ | refine Ext.trans ?_ (by assumption)))) E0.out E1.out E2.out E3.out, box4 HBX1.out (HE.out.trans (by with_reducible (repeat (first | exact Ext.rfl_ _ | assumption | refine Ext.drew ?_ | refine Ext.drewN ?_ _ | refine Ext.alloc ?_ _ | refine Ext.trans ?_ (by assumption)))))⟩) (fun hHeld => ?_)
              refine wpAnyH_take (i := 0) (oi := ({ dst := some 26, op := Go.Op.move (Go.Operand.tmp 6), type := 3, pos := "ref.go:45", after := #[], guard := none } : Go.Oper)) (v := ?v37) rfl (by kernel_rfl) (by kernel_rfl) (by kernel_rfl) (fun _ _ _ h => h) (Or.inl ⟨by rfl, ?hy37⟩) (by assumption) ?rest37
              case hy37 => (intro w hSw; (try dsimp only at hSw); go_simp; (try with_reducible rfl))
              (try simp only [Act.put, List.getElem_toArray, List.getElem_cons_zero, List.getElem_cons_succ, List.setIfInBounds_toArray, List.set_cons_zero, List.set_cons_succ])
              refine wpAnyH_take (i := 1) (oi := ({ dst := some 27, op := Go.Op.move (Go.Operand.tmp 0), type := 26, pos := "ref.go:45", after := #[], guard := none } : Go.Oper)) (v := ?v38) rfl (by kernel_rfl) (by kernel_rfl) (by kernel_rfl) (fun _ _ _ h => h) (Or.inl ⟨by rfl, ?hy38⟩) (by assumption) ?rest38
              case hy38 => (intro w hSw; (try dsimp only at hSw); go_simp; (try with_reducible rfl))
              (try simp only [Act.put, List.getElem_toArray, List.getElem_cons_zero, List.getElem_cons_succ, List.setIfInBounds_toArray, List.set_cons_zero, List.set_cons_succ])
              refine wpAnyH_take (i := 2) (oi := ({ dst := some 28, op := Go.Op.call { callee := Go.Callee.builtin Go.Builtin.len, args := #[Go.Operand.tmp 27], argTypes := #[26] }, type := 3, pos := "ref.go:45", after := #[{ on := 1, ground := Go.Ground.data }], guard := none } : Go.Oper)) (v := ?v39) rfl (by kernel_rfl) (by kernel_rfl) (by kernel_rfl) (fun _ _ _ h => h) (Or.inl ⟨by rfl, ?hy39⟩) (by assumption) ?rest39
              case hy39 => (intro w hSw; (try dsimp only at hSw); go_simp; (try with_reducible rfl))
              (try simp only [Act.put, List.getElem_toArray, List.getElem_cons_zero, List.getElem_cons_succ, List.setIfInBounds_toArray, List.set_cons_zero, List.set_cons_succ])
              refine wpAnyH_take (i := 3) (oi := ({ dst := some 29, op := Go.Op.binOp Go.BinOp.lss 3 (Go.Operand.tmp 26) (Go.Operand.tmp 28) 3, type := 4, pos := "ref.go:45", after := #[{ on := 0, ground := Go.Ground.data }, { on := 2, ground := Go.Ground.data }], guard := none } : Go.Oper)) (v := ?v40) rfl (by kernel_rfl) (by kernel_rfl) (by kernel_rfl) (fun _ _ _ h => h) (Or.inl ⟨by rfl, ?hy40⟩) (by assumption) ?rest40
              case hy40 => (intro w hSw; (try dsimp only at hSw); go_simp; (try with_reducible rfl))
              (try simp only [Act.put, List.getElem_toArray, List.getElem_cons_zero, List.getElem_cons_succ, List.setIfInBounds_toArray, List.set_cons_zero, List.set_cons_succ])
              refine wpAnyH_take (i := 4) (oi := ({ dst := some 30, op := Go.Op.move (Go.Operand.tmp 29), type := 4, pos := "ref.go:45", after := #[{ on := 3, ground := Go.Ground.data }], guard := none } : Go.Oper)) (v := ?v41) rfl (by kernel_rfl) (by kernel_rfl) (by kernel_rfl) (fun _ _ _ h => h) (Or.inl ⟨by rfl, ?hy41⟩) (by assumption) ?rest41
              case hy41 => (intro w hSw; (try dsimp only at hSw); go_simp; (try with_reducible rfl))
              (try simp only [Act.put, List.getElem_toArray, List.getElem_cons_zero, List.getElem_cons_succ, List.setIfInBounds_toArray, List.set_cons_zero, List.set_cons_succ])
              refine wpAnyH_take (i := 5) (oi := ({ dst := some 31, op := Go.Op.move (Go.Operand.tmp 0), type := 26, pos := "ref.go:45", after := #[{ on := 4, ground := Go.Ground.guard }], guard := some (4, true) } : Go.Oper)) (v := ?v42) rfl (by kernel_rfl) (by kernel_rfl) (by kernel_rfl) (fun _ _ _ h => h) (Or.inl ⟨by rfl, ?hy42⟩) (by assumption) ?rest42
              case hy42 => (intro w hSw; (try dsimp only at hSw); go_simp; (try with_reducible rfl))
              (try simp only [Act.put, List.getElem_toArray, List.getElem_cons_zero, List.getElem_cons_succ, List.setIfInBounds_toArray, List.set_cons_zero, List.set_cons_succ])
              refine wpAnyH_take (i := 6) (oi := ({ dst := some 32, op := Go.Op.move (Go.Operand.tmp 6), type := 3, pos := "ref.go:45", after := #[{ on := 4, ground := Go.Ground.guard }], guard := some (4, true) } : Go.Oper)) (v := ?v43) rfl (by kernel_rfl) (by kernel_rfl) (by kernel_rfl) (fun _ _ _ h => h) (Or.inl ⟨by rfl, ?hy43⟩) (by assumption) ?rest43
              case hy43 => (intro w hSw; (try dsimp only at hSw); go_simp; (try with_reducible rfl))
              (try simp only [Act.put, List.getElem_toArray, List.getElem_cons_zero, List.getElem_cons_succ, List.setIfInBounds_toArray, List.set_cons_zero, List.set_cons_succ])
              refine wpAnyH_take (i := 7) (oi := ({ dst := some 33, op := Go.Op.indexAddr 26 (Go.Operand.tmp 31) (Go.Operand.tmp 32), type := 0, pos := "ref.go:45", after := #[{ on := 5, ground := Go.Ground.data }, { on := 6, ground := Go.Ground.data }, { on := 4, ground := Go.Ground.guard }], guard := some (4, true) } : Go.Oper)) (v := ?v44) rfl (by kernel_rfl) (by kernel_rfl) (by kernel_rfl) (fun _ _ _ h => h) (Or.inl ⟨by rfl, ?hy44⟩) (by assumption) ?rest44
              case hy44 => (intro w hSw; (try dsimp only at hSw); go_simp; (try with_reducible rfl))
              (try simp only [Act.put, List.getElem_toArray, List.getElem_cons_zero, List.getElem_cons_succ, List.setIfInBounds_toArray, List.set_cons_zero, List.set_cons_succ])
              refine wpAnyH_take (i := 8) (oi := ({ dst := some 34, op := Go.Op.load 40 (Go.Operand.tmp 33), type := 40, pos := "ref.go:45", after := #[{ on := 7, ground := Go.Ground.data }, { on := 4, ground := Go.Ground.guard }], guard := some (4, true) } : Go.Oper)) (v := ?v45) rfl (by kernel_rfl) (by kernel_rfl) (by kernel_rfl) (fun _ _ _ h => h) (Or.inl ⟨by rfl, ?hy45⟩) (by assumption) ?rest45
              case hy45 => (intro w hSw; (try dsimp only at hSw); go_simp; (try with_reducible rfl))
              (try simp only [Act.put, List.getElem_toArray, List.getElem_cons_zero, List.getElem_cons_succ, List.setIfInBounds_toArray, List.set_cons_zero, List.set_cons_succ])
              refine wpAnyH_take (i := 9) (oi := ({ dst := some 35, op := Go.Op.load 40 (Go.Operand.tmp 3), type := 40, pos := "ref.go:45", after := #[{ on := 4, ground := Go.Ground.guard }], guard := some (4, true) } : Go.Oper)) (v := ?v46) rfl (by kernel_rfl) (by kernel_rfl) (by kernel_rfl) (fun _ _ _ h => h) (Or.inl ⟨by rfl, ?hy46⟩) (by assumption) ?rest46
              case hy46 => (intro w hSw; (try dsimp only at hSw); go_simp; (try with_reducible rfl))
              (try simp only [Act.put, List.getElem_toArray, List.getElem_cons_zero, List.getElem_cons_succ, List.setIfInBounds_toArray, List.set_cons_zero, List.set_cons_succ])
              refine wpAnyH_ready (rs := [10]) (by kernel_rfl) (by simp) ?_
              refine AllReadyH.cons (o := ({ dst := some 36, op := Go.Op.call { callee := Go.Callee.value (Go.Operand.func 28), args := #[Go.Operand.tmp 34, Go.Operand.tmp 35], argTypes := #[40, 40] }, type := 3, pos := "ref.go:45", after := #[{ on := 8, ground := Go.Ground.data }, { on := 9, ground := Go.Ground.data }, { on := 4, ground := Go.Ground.chain }, { on := 4, ground := Go.Ground.guard }], guard := some (4, true) } : Go.Oper)) rfl (fun K hK => ?_) AllReadyH.nil
              go_simp
              refine (rcompare_any _ _ y x _ ?_ ?_).mono ?_; exact (HRY.out.ext (XW.out.trans (by with_reducible (repeat (first | exact Ext.rfl_ _ | assumption | refine Ext.drew ?_ | refine Ext.drewN ?_ _ | refine Ext.alloc ?_ _ | refine Ext.trans ?_ (by assumption)))))); exact (HX.out.ext (XW.out.trans (by with_reducible (repeat (first | exact Ext.rfl_ _ | assumption | refine Ext.drew ?_ | refine Ext.drewN ?_ _ | refine Ext.alloc ?_ _ | refine Ext.trans ?_ (by assumption)))))); rintro e w6 ⟨rfl, hw6⟩; have hc0 := HC0.out
              (try (go_wp2_with fail))
              refine hK.out _ _ (by (try dsimp only); exact ⟨keep4 (w := w5) (by with_reducible (repeat (first | exact Ext.rfl_ _ | assumption | refine Ext.drew ?_ | refine Ext.drewN ?_ _ | refine Ext.alloc ?_ _ | refine Ext.trans ?_ (by assumption)))) E0.out E1.out E2.out E3.out, box4 HBX1.out (HE.out.trans (by with_reducible (repeat (first | exact Ext.rfl_ _ | assumption | refine Ext.drew ?_ | refine Ext.drewN ?_ _ | refine Ext.alloc ?_ _ | refine Ext.trans ?_ (by assumption)))))⟩) (fun hHeld => ?_)
              clear hK K
              (try simp only [Act.put, List.getElem_toArray, List.getElem_cons_zero, List.getElem_cons_succ, List.setIfInBounds_toArray, List.set_cons_zero, List.set_cons_succ])
              refine wpAnyH_take (i := 11) (oi := ({ dst := some 37, op := Go.Op.binOp Go.BinOp.eql 3 (Go.Operand.tmp 36) (Go.Operand.const (Go.Value.int Go.IntKind.i64 0)) 3, type := 4, pos := "ref.go:45", after := #[{ on := 10, ground := Go.Ground.data }, { on := 4, ground := Go.Ground.guard }], guard := some (4, true) } : Go.Oper)) (v := ?v47) rfl (by kernel_rfl) (by kernel_rfl) (by kernel_rfl) (fun _ _ _ h => h) (Or.inl ⟨by rfl, ?hy47⟩) (by assumption) ?rest47
              case hy47 => (intro w hSw; (try dsimp only at hSw); go_simp; (try with_reducible rfl))
              (try simp only [Act.put, List.getElem_toArray, List.getElem_cons_zero, List.getElem_cons_succ, List.setIfInBounds_toArray, List.set_cons_zero, List.set_cons_succ])
              refine wpAnyH_take (i := 12) (oi := ({ dst := some 38, op := Go.Op.pick (Go.Operand.tmp 30) (Go.Operand.tmp 37) (Go.Operand.const (Go.Value.bool false)), type := 4, pos := "ref.go:45", after := #[{ on := 4, ground := Go.Ground.data }, { on := 11, ground := Go.Ground.data }], guard := none } : Go.Oper)) (v := ?v48) rfl (by kernel_rfl) (by kernel_rfl) (by kernel_rfl) (fun _ _ _ h => h) (Or.inl ⟨by rfl, ?hy48⟩) (by assumption) ?rest48
              case hy48 => (intro w hSw; (try dsimp only at hSw); go_simp; (try with_reducible rfl))
              (try simp only [Act.put, List.getElem_toArray, List.getElem_cons_zero, List.getElem_cons_succ, List.setIfInBounds_toArray, List.set_cons_zero, List.set_cons_succ])
              refine wpAnyH_done (by kernel_rfl) ?_ _

              all_goals
                have X6 := Lib.hid (show Ext w5 w6 from (by with_reducible (repeat (first | exact Ext.rfl_ _ | assumption | refine Ext.drew ?_ | refine Ext.drewN ?_ _ | refine Ext.alloc ?_ _ | refine Ext.trans ?_ (by assumption)))))
                have XZ := Lib.hid (XW.out.trans X6.out)
                have HBZ := Lib.hid ((HE.out.trans X6.out).blk HBX1.out)
                clear hw6
                go_wp2
                obtain ⟨hs, hl1, _, hB1, hc1, hr1, hz1⟩ := HL.out
                have hkx : k ≤ xs.length := by omega
                have hS1 : ∀ w', Ext w6 w' → RdH w' w6.heap.size (some ⟨b, o, none⟩) k (hs.take k) (xs.take k) := by
                  intro w' e
                  refine ⟨by simp [hl1], by simp <;> omega, by unfold B41; omega, fun hn => ?_, fun i i1 i2 => ?_⟩
                  · first
                    | exact absurd hn (by omega)
                    | obtain ⟨b', o', e', _, hc⟩ := hc1 (by omega)
                      cases e'
                      exact ⟨_, _, rfl, fun j u hu => (XZ.out.trans e).keeps _ _ _ (hc j u (rowE_take hl1 k hkx j u hu))⟩
                  · simp only [List.length_take] at i1 i2
                    have he := hr1 i (by omega) (by omega)
                    have hd := he.hdr
                    rw [List.getElem_take, List.getElem_take]
                    exact ⟨he.ext (XZ.out.trans e), Apt.low _ hd.1 XZ.out.size, Apt.low _ hd.2 XZ.out.size⟩
                have hS2 : ∀ w' (_ : Unit), Ext w6 w' → RdH w' w6.heap.size (some ⟨b, o + k * 4, none⟩) (n - k) (hs.drop k) (xs.drop k) := by
                  intro w' _ e
                  refine ⟨by simp [hl1], by simp <;> omega, by unfold B41; omega, fun hn => ?_, fun i i1 i2 => ?_⟩
                  · first
                    | exact absurd hn (by omega)
                    | obtain ⟨b', o', e', _, hc⟩ := hc1 (by omega)
                      cases e'
                      exact ⟨_, _, rfl, fun j u hu => by rw [Nat.add_assoc]; exact (XZ.out.trans e).keeps _ _ _ (hc _ u (rowE_drop hl1 k hkx j u hu))⟩
                  · simp only [List.length_drop] at i1 i2
                    have he := hr1 (k + i) (by omega) (by omega)
                    have hd := he.hdr
                    rw [List.getElem_drop, List.getElem_drop]
                    exact ⟨he.ext (XZ.out.trans e), Apt.low _ hd.1 XZ.out.size, Apt.low _ hd.2 XZ.out.size⟩
                have HS1 := Lib.hid hS1
                have HS2 := Lib.hid hS2
                have HZ1 := Lib.hid hz1
                clear hS1 hS2 hl1 hB1 hc1 hr1 hz1
                have hkI : (k : Int) ≤ (c : Int) := by omega
                have hkn : (k : Int) ≤ (n : Int) := by omega
                have hncI2 : (n : Int) ≤ (c : Int) := by omega
                refine wp_region_held_drew (S := (fun w' => w'.cell? ⟨w.heap.size, 0, none⟩ = some (.slice Ae ne ce) ∧ w'.cell? ⟨w.heap.size, 1, none⟩ = some (.int .i64 x.seq) ∧ w'.cell? ⟨w.heap.size, 2, none⟩ = some (.int .i64 x.kind) ∧ w'.cell? ⟨w.heap.size, 3, none⟩ = some (.slice Be me de) ∧ w'.frozen? ⟨w.heap.size, 0, none⟩ = false ∧ w'.frozen? ⟨w.heap.size, 1, none⟩ = false ∧ w'.frozen? ⟨w.heap.size, 2, none⟩ = false ∧ w'.frozen? ⟨w.heap.size, 3, none⟩ = false)) (by kernel_rfl) (by (try dsimp only); exact box4 HBZ.out (w' := _) (by with_reducible (repeat (first | exact Ext.rfl_ _ | assumption | refine Ext.drew ?_ | refine Ext.drewN ?_ _ | refine Ext.alloc ?_ _ | refine Ext.trans ?_ (by assumption))))) (fun hHeld => ?_)
                refine wpAnyH_take (i := 0) (oi := ({ dst := some 40, op := Go.Op.move (Go.Operand.tmp 0), type := 26, pos := "ref.go:48", after := #[], guard := none } : Go.Oper)) (v := ?v49) rfl (by kernel_rfl) (by kernel_rfl) (by kernel_rfl) (fun _ _ _ h => h) (Or.inl ⟨by rfl, ?hy49⟩) (by assumption) ?rest49
                case hy49 => (intro w hSw; (try dsimp only at hSw); go_simp; (try with_reducible rfl))
                (try simp only [Act.put, List.getElem_toArray, List.getElem_cons_zero, List.getElem_cons_succ, List.setIfInBounds_toArray, List.set_cons_zero, List.set_cons_succ])
                refine wpAnyH_take (i := 1) (oi := ({ dst := some 41, op := Go.Op.move (Go.Operand.tmp 6), type := 3, pos := "ref.go:48", after := #[], guard := none } : Go.Oper)) (v := ?v50) rfl (by kernel_rfl) (by kernel_rfl) (by kernel_rfl) (fun _ _ _ h => h) (Or.inl ⟨by rfl, ?hy50⟩) (by assumption) ?rest50
                case hy50 => (intro w hSw; (try dsimp only at hSw); go_simp; (try with_reducible rfl))
                (try simp only [Act.put, List.getElem_toArray, List.getElem_cons_zero, List.getElem_cons_succ, List.setIfInBounds_toArray, List.set_cons_zero, List.set_cons_succ])
                refine wpAnyH_take (i := 2) (oi := ({ dst := some 42, op := Go.Op.slice 26 (Go.Operand.tmp 40) none (some (Go.Operand.tmp 41)) none, type := 26, pos := "ref.go:48", after := #[{ on := 0, ground := Go.Ground.data }, { on := 1, ground := Go.Ground.data }], guard := none } : Go.Oper)) (v := ?v51) rfl (by kernel_rfl) (by kernel_rfl) (by kernel_rfl) (fun _ _ _ h => h) (Or.inl ⟨by rfl, ?hy51⟩) (by assumption) ?rest51
                case hy51 => (intro w hSw; (try dsimp only at hSw); go_simp; (try with_reducible rfl))
                (try simp only [Act.put, List.getElem_toArray, List.getElem_cons_zero, List.getElem_cons_succ, List.setIfInBounds_toArray, List.set_cons_zero, List.set_cons_succ])
                refine wpAnyH_take (i := 4) (oi := ({ dst := some 44, op := Go.Op.load 40 (Go.Operand.tmp 3), type := 40, pos := "ref.go:48", after := #[], guard := none } : Go.Oper)) (v := ?v52) rfl (by kernel_rfl) (by kernel_rfl) (by kernel_rfl) (fun _ _ _ h => h) (Or.inl ⟨by rfl, ?hy52⟩) (by assumption) ?rest52
                case hy52 => (intro w hSw; (try dsimp only at hSw); go_simp; (try with_reducible rfl))
                (try simp only [Act.put, List.getElem_toArray, List.getElem_cons_zero, List.getElem_cons_succ, List.setIfInBounds_toArray, List.set_cons_zero, List.set_cons_succ])
                refine wpAnyH_take (i := 8) (oi := ({ dst := some 48, op := Go.Op.move (Go.Operand.tmp 0), type := 26, pos := "ref.go:48", after := #[], guard := none } : Go.Oper)) (v := ?v53) rfl (by kernel_rfl) (by kernel_rfl) (by kernel_rfl) (fun _ _ _ h => h) (Or.inl ⟨by rfl, ?hy53⟩) (by assumption) ?rest53
                case hy53 => (intro w hSw; (try dsimp only at hSw); go_simp; (try with_reducible rfl))
                (try simp only [Act.put, List.getElem_toArray, List.getElem_cons_zero, List.getElem_cons_succ, List.setIfInBounds_toArray, List.set_cons_zero, List.set_cons_succ])
                refine wpAnyH_take (i := 9) (oi := ({ dst := some 49, op := Go.Op.move (Go.Operand.tmp 6), type := 3, pos := "ref.go:48", after := #[], guard := none } : Go.Oper)) (v := ?v54) rfl (by kernel_rfl) (by kernel_rfl) (by kernel_rfl) (fun _ _ _ h => h) (Or.inl ⟨by rfl, ?hy54⟩) (by assumption) ?rest54
                case hy54 => (intro w hSw; (try dsimp only at hSw); go_simp; (try with_reducible rfl))
                (try simp only [Act.put, List.getElem_toArray, List.getElem_cons_zero, List.getElem_cons_succ, List.setIfInBounds_toArray, List.set_cons_zero, List.set_cons_succ])
                refine wpAnyH_take (i := 10) (oi := ({ dst := some 50, op := Go.Op.slice 26 (Go.Operand.tmp 48) (some (Go.Operand.tmp 49)) none none, type := 26, pos := "ref.go:48", after := #[{ on := 8, ground := Go.Ground.data }, { on := 9, ground := Go.Ground.data }], guard := none } : Go.Oper)) (v := ?v55) rfl (by kernel_rfl) (by kernel_rfl) (by kernel_rfl) (fun _ _ _ h => h) (Or.inl ⟨by rfl, ?hy55⟩) (by assumption) ?rest55
                case hy55 => (intro w hSw; (try dsimp only at hSw); go_simp; (try with_reducible rfl))
                (try simp only [Act.put, List.getElem_toArray, List.getElem_cons_zero, List.getElem_cons_succ, List.setIfInBounds_toArray, List.set_cons_zero, List.set_cons_succ])
                refine wpAnyH_ready (rs := [3]) (by kernel_rfl) (by simp) ?_
                refine AllReadyH.cons (o := ({ dst := some 43, op := Go.Op.call { callee := Go.Callee.builtin Go.Builtin.append, args := #[Go.Operand.const (Go.Value.slice none 0 0), Go.Operand.tmp 42], argTypes := #[26, 26] }, type := 26, pos := "ref.go:48", after := #[{ on := 2, ground := Go.Ground.data }], guard := none } : Go.Oper)) rfl (fun K hK => ?_) AllReadyH.nil
                refine step_appH rfl _ _ rfl w6.heap.size (.slice none 0 0) [] [] rfl (OwnH.nil _ _) (some ⟨b, o, none⟩) k _ (hs.take k) (xs.take k) rfl (HS1.out _ (by with_reducible (repeat (first | exact Ext.rfl_ _ | assumption | refine Ext.drew ?_ | refine Ext.drewN ?_ _ | refine Ext.alloc ?_ _ | refine Ext.trans ?_ (by assumption))))) (by unfold B41; simp <;> omega) (Ext.size (by with_reducible (repeat (first | exact Ext.rfl_ _ | assumption | refine Ext.drew ?_ | refine Ext.drewN ?_ _ | refine Ext.alloc ?_ _ | refine Ext.trans ?_ (by assumption))))) ?_; intro v7 w7 o7 g7 _; have x7 : Ext w6 w7 := Ext.growL (show Ext w6 _ from (by with_reducible (repeat (first | exact Ext.rfl_ _ | assumption | refine Ext.drew ?_ | refine Ext.drewN ?_ _ | refine Ext.alloc ?_ _ | refine Ext.trans ?_ (by assumption))))) g7 (OwnH.ownL (OwnH.nil _ _)) (Nat.le_refl _); clear g7
                refine hK.out _ _ (by (try dsimp only); exact box4 HBZ.out (w' := _) (by with_reducible (repeat (first | exact Ext.rfl_ _ | assumption | refine Ext.drew ?_ | refine Ext.drewN ?_ _ | refine Ext.alloc ?_ _ | refine Ext.trans ?_ (by assumption))))) (fun hHeld => ?_)
                clear hK K
                (try simp only [Act.put, List.getElem_toArray, List.getElem_cons_zero, List.getElem_cons_succ, List.setIfInBounds_toArray, List.set_cons_zero, List.set_cons_succ])
                refine wpAnyH_ready (rs := [5]) (by kernel_rfl) (by simp) ?_
                refine AllReadyH.cons (o := ({ dst := some 45, op := Go.Op.call { callee := Go.Callee.value (Go.Operand.func 39), args := #[Go.Operand.tmp 44], argTypes := #[40] }, type := 40, pos := "ref.go:48", after := #[{ on := 4, ground := Go.Ground.data }, { on := 3, ground := Go.Ground.chain }], guard := none } : Go.Oper)) rfl (fun K hK => ?_) AllReadyH.nil
                go_simp
                refine (rcopy_any _ x _ ?_).mono ?_; exact (HX.out.ext (XZ.out.trans (by with_reducible (repeat (first | exact Ext.rfl_ _ | assumption | refine Ext.drew ?_ | refine Ext.drewN ?_ _ | refine Ext.alloc ?_ _ | refine Ext.trans ?_ (by assumption)))))); rintro e w8 ⟨v8, rfl, f8, hw8⟩; obtain ⟨A8, n8, c8, B8, m8, d8, rfl, u1, u2, u3, u4, u5, u6, u7, u8, u9, u10⟩ := f8; have hel : Elt w8 w6.heap.size ⟨A8, n8, c8, B8, m8, d8⟩ x := ⟨⟨_, _, _, _, _, _, rfl, u3, u4, u5, u6, u7, u8⟩, Apt.own u1, Apt.own u2⟩; have hhd : HdZ (fun i => Z i ∨ w.heap.size ≤ i) ⟨A8, n8, c8, B8, m8, d8⟩ := ⟨fun hn a ha => .inr (Nat.le_trans (Ext.size (XZ.out.trans (show Ext w6 _ from (by with_reducible (repeat (first | exact Ext.rfl_ _ | assumption | refine Ext.drew ?_ | refine Ext.drewN ?_ _ | refine Ext.alloc ?_ _ | refine Ext.trans ?_ (by assumption))))))) (u9 hn a ha)), fun hn a ha => .inr (Nat.le_trans (Ext.size (XZ.out.trans (show Ext w6 _ from (by with_reducible (repeat (first | exact Ext.rfl_ _ | assumption | refine Ext.drew ?_ | refine Ext.drewN ?_ _ | refine Ext.alloc ?_ _ | refine Ext.trans ?_ (by assumption))))))) (u10 hn a ha))⟩; clear u1 u2 u3 u4 u5 u6 u7 u8 u9 u10
                (try (go_wp2_with fail))
                refine hK.out _ _ (by (try dsimp only); exact box4 HBZ.out (w' := _) (by with_reducible (repeat (first | exact Ext.rfl_ _ | assumption | refine Ext.drew ?_ | refine Ext.drewN ?_ _ | refine Ext.alloc ?_ _ | refine Ext.trans ?_ (by assumption))))) (fun hHeld => ?_)
                clear hK K
                (try simp only [Act.put, List.getElem_toArray, List.getElem_cons_zero, List.getElem_cons_succ, List.setIfInBounds_toArray, List.set_cons_zero, List.set_cons_succ])
                refine wpAnyH_ready (rs := [6]) (by kernel_rfl) (by simp) ?_
                refine AllReadyH.cons (o := ({ dst := some 46, op := Go.Op.buildSlice 26 1 #[(0, Go.Operand.tmp 45)], type := 26, pos := "ref.go:48", after := #[{ on := 5, ground := Go.Ground.data }], guard := none } : Go.Oper)) rfl (fun K hK => ?_) AllReadyH.nil
                go_simp
                refine hK.out _ _ (by (try dsimp only); exact box4 HBZ.out (w' := _) (by with_reducible (repeat (first | exact Ext.rfl_ _ | assumption | refine Ext.drew ?_ | refine Ext.drewN ?_ _ | refine Ext.alloc ?_ _ | refine Ext.trans ?_ (by assumption))))) (fun hHeld => ?_)
                clear hK K
                (try simp only [Act.put, List.getElem_toArray, List.getElem_cons_zero, List.getElem_cons_succ, List.setIfInBounds_toArray, List.set_cons_zero, List.set_cons_succ])
                refine wpAnyH_ready (rs := [7]) (by kernel_rfl) (by simp) ?_
                refine AllReadyH.cons (o := ({ dst := some 47, op := Go.Op.call { callee := Go.Callee.builtin Go.Builtin.append, args := #[Go.Operand.tmp 43, Go.Operand.tmp 46], argTypes := #[26, 26] }, type := 26, pos := "ref.go:48", after := #[{ on := 3, ground := Go.Ground.data }, { on := 6, ground := Go.Ground.data }, { on := 5, ground := Go.Ground.chain }], guard := none } : Go.Oper)) rfl (fun K hK => ?_) AllReadyH.nil
                refine step_appH rfl _ _ rfl w6.heap.size v7 _ _ rfl (o7.ext (by with_reducible (repeat (first | exact Ext.rfl_ _ | assumption | refine Ext.drew ?_ | refine Ext.drewN ?_ _ | refine Ext.alloc ?_ _ | refine Ext.trans ?_ (by assumption))))) (some ⟨w8.heap.size, 0, none⟩) 1 1 [⟨A8, n8, c8, B8, m8, d8⟩] [x] rfl (RdH.ext (RdH.one (w := w8) 40 hel) (by with_reducible (repeat (first | exact Ext.rfl_ _ | assumption | refine Ext.drew ?_ | refine Ext.drewN ?_ _ | refine Ext.alloc ?_ _ | refine Ext.trans ?_ (by assumption))))) (by unfold B41; simp <;> omega) (Ext.size (by with_reducible (repeat (first | exact Ext.rfl_ _ | assumption | refine Ext.drew ?_ | refine Ext.drewN ?_ _ | refine Ext.alloc ?_ _ | refine Ext.trans ?_ (by assumption))))) ?_; intro v9 w9 o9 g9 _; have x9 : Ext w6 w9 := Ext.growL (show Ext w6 _ from (by with_reducible (repeat (first | exact Ext.rfl_ _ | assumption | refine Ext.drew ?_ | refine Ext.drewN ?_ _ | refine Ext.alloc ?_ _ | refine Ext.trans ?_ (by assumption))))) g9 (OwnL.ext (OwnH.ownL o7) (by with_reducible (repeat (first | exact Ext.rfl_ _ | assumption | refine Ext.drew ?_ | refine Ext.drewN ?_ _ | refine Ext.alloc ?_ _ | refine Ext.trans ?_ (by assumption))))) (Nat.le_refl _); clear g9
                refine hK.out _ _ (by (try dsimp only); exact box4 HBZ.out (w' := _) (by with_reducible (repeat (first | exact Ext.rfl_ _ | assumption | refine Ext.drew ?_ | refine Ext.drewN ?_ _ | refine Ext.alloc ?_ _ | refine Ext.trans ?_ (by assumption))))) (fun hHeld => ?_)
                clear hK K
                (try simp only [Act.put, List.getElem_toArray, List.getElem_cons_zero, List.getElem_cons_succ, List.setIfInBounds_toArray, List.set_cons_zero, List.set_cons_succ])
                refine wpAnyH_ready (rs := [11]) (by kernel_rfl) (by simp) ?_
                refine AllReadyH.cons (o := ({ dst := some 51, op := Go.Op.call { callee := Go.Callee.builtin Go.Builtin.append, args := #[Go.Operand.tmp 47, Go.Operand.tmp 50], argTypes := #[26, 26] }, type := 26, pos := "ref.go:48", after := #[{ on := 7, ground := Go.Ground.data }, { on := 10, ground := Go.Ground.data }, { on := 7, ground := Go.Ground.chain }], guard := none } : Go.Oper)) rfl (fun K hK => ?_) AllReadyH.nil
                refine step_appH rfl _ _ rfl w6.heap.size v9 _ _ rfl (o9.ext (by with_reducible (repeat (first | exact Ext.rfl_ _ | assumption | refine Ext.drew ?_ | refine Ext.drewN ?_ _ | refine Ext.alloc ?_ _ | refine Ext.trans ?_ (by assumption))))) (some ⟨b, o + k * 4, none⟩) (n - k) _ (hs.drop k) (xs.drop k) rfl (HS2.out _ () (by with_reducible (repeat (first | exact Ext.rfl_ _ | assumption | refine Ext.drew ?_ | refine Ext.drewN ?_ _ | refine Ext.alloc ?_ _ | refine Ext.trans ?_ (by assumption))))) (by unfold B41; simp <;> omega) (Ext.size (by with_reducible (repeat (first | exact Ext.rfl_ _ | assumption | refine Ext.drew ?_ | refine Ext.drewN ?_ _ | refine Ext.alloc ?_ _ | refine Ext.trans ?_ (by assumption))))) ?_; intro v10 w10 o10 g10 _; have x10 : Ext w6 w10 := Ext.growL (show Ext w6 _ from (by with_reducible (repeat (first | exact Ext.rfl_ _ | assumption | refine Ext.drew ?_ | refine Ext.drewN ?_ _ | refine Ext.alloc ?_ _ | refine Ext.trans ?_ (by assumption))))) g10 (OwnL.ext (OwnH.ownL o9) (by with_reducible (repeat (first | exact Ext.rfl_ _ | assumption | refine Ext.drew ?_ | refine Ext.drewN ?_ _ | refine Ext.alloc ?_ _ | refine Ext.trans ?_ (by assumption))))) (Nat.le_refl _); clear g10
                refine hK.out _ _ (by (try dsimp only); exact box4 HBZ.out (w' := _) (by with_reducible (repeat (first | exact Ext.rfl_ _ | assumption | refine Ext.drew ?_ | refine Ext.drewN ?_ _ | refine Ext.alloc ?_ _ | refine Ext.trans ?_ (by assumption))))) (fun hHeld => ?_)
                clear hK K
                (try simp only [Act.put, List.getElem_toArray, List.getElem_cons_zero, List.getElem_cons_succ, List.setIfInBounds_toArray, List.set_cons_zero, List.set_cons_succ])
                refine wpAnyH_take (i := 12) (oi := ({ dst := some 4, op := Go.Op.assign (Go.Operand.tmp 51), type := 26, pos := "ref.go:48", after := #[{ on := 11, ground := Go.Ground.data }, { on := 11, ground := Go.Ground.chain }, { on := 0, ground := Go.Ground.phase }, { on := 1, ground := Go.Ground.phase }, { on := 2, ground := Go.Ground.phase }, { on := 3, ground := Go.Ground.phase }, { on := 4, ground := Go.Ground.phase }, { on := 5, ground := Go.Ground.phase }, { on := 6, ground := Go.Ground.phase }, { on := 7, ground := Go.Ground.phase }, { on := 8, ground := Go.Ground.phase }, { on := 9, ground := Go.Ground.phase }, { on := 10, ground := Go.Ground.phase }, { on := 11, ground := Go.Ground.phase }], guard := none } : Go.Oper)) (v := ?v56) rfl (by kernel_rfl) (by kernel_rfl) (by kernel_rfl) (fun _ _ _ h => h) (Or.inl ⟨by rfl, ?hy56⟩) (by assumption) ?rest56
                case hy56 => (intro w hSw; (try dsimp only at hSw); go_simp; (try with_reducible rfl))
                (try simp only [Act.put, List.getElem_toArray, List.getElem_cons_zero, List.getElem_cons_succ, List.setIfInBounds_toArray, List.set_cons_zero, List.set_cons_succ])
                refine wpAnyH_take (i := 13) (oi := ({ dst := some 5, op := Go.Op.assign (Go.Operand.const (Go.Value.int Go.IntKind.i64 0)), type := 3, pos := "ref.go:48", after := #[{ on := 12, ground := Go.Ground.chain }, { on := 0, ground := Go.Ground.phase }, { on := 1, ground := Go.Ground.phase }, { on := 2, ground := Go.Ground.phase }, { on := 3, ground := Go.Ground.phase }, { on := 4, ground := Go.Ground.phase }, { on := 5, ground := Go.Ground.phase }, { on := 6, ground := Go.Ground.phase }, { on := 7, ground := Go.Ground.phase }, { on := 8, ground := Go.Ground.phase }, { on := 9, ground := Go.Ground.phase }, { on := 10, ground := Go.Ground.phase }, { on := 11, ground := Go.Ground.phase }, { on := 12, ground := Go.Ground.phase }], guard := none } : Go.Oper)) (v := ?v57) rfl (by kernel_rfl) (by kernel_rfl) (by kernel_rfl) (fun _ _ _ h => h) (Or.inl ⟨by rfl, ?hy57⟩) (by assumption) ?rest57
                case hy57 => (intro w hSw; (try dsimp only at hSw); go_simp; (try with_reducible rfl))
                (try simp only [Act.put, List.getElem_toArray, List.getElem_cons_zero, List.getElem_cons_succ, List.setIfInBounds_toArray, List.set_cons_zero, List.set_cons_succ])
                refine wpAnyH_done (by kernel_rfl) ?_ _
                all_goals
                  obtain ⟨A', n', c', rfl, hnc', hq⟩ := o10.rdq (Z := fun i => Z i ∨ w.heap.size ≤ i) (by unfold B41; simp <;> omega) (fun hd hm => by
                    simp only [List.nil_append, List.mem_append, List.mem_singleton] at hm
                    rcases hm with (hm | rfl) | hm
                    · have := HZ1.out hd (List.mem_of_mem_take hm); exact ⟨fun hn a ha => .inl (this.1 hn a ha), fun hn a ha => .inl (this.2 hn a ha)⟩
                    · exact hhd
                    · have := HZ1.out hd (List.mem_of_mem_drop hm); exact ⟨fun hn a ha => .inl (this.1 hn a ha), fun hn a ha => .inl (this.2 hn a ha)⟩) (fun i hi => .inr (Nat.le_trans XZ.out.size hi))
                  have HQ := Lib.hid hq
                  have HX10 := Lib.hid (XZ.out.trans (show Ext w6 w10 from x10))
                  clear o10 o9 o7 hel hq
                  go_wp2
                  refine bodyPost_ret (v := .tuple #[.slice A' n' c', .int .i64 0]) (by simp [results, Try.f33, go_sem]) rfl ?_
                  rw [insP_mid HM.out HT.out HD'.out HC0.out, show y :: xs.drop (k + 1) = xs.drop k from by rw [← HD'.out, HD.out]]
                  refine ⟨_, _, _, rfl, hnc', ?_, HX10.out.trans (by with_reducible (repeat (first | exact Ext.rfl_ _ | assumption | refine Ext.drew ?_ | refine Ext.drewN ?_ _ | refine Ext.alloc ?_ _ | refine Ext.trans ?_ (by assumption))))⟩
                  have hq2 := HQ.out.ext (show Ext w10 _ from (by with_reducible (repeat (first | exact Ext.rfl_ _ | assumption | refine Ext.drew ?_ | refine Ext.drewN ?_ _ | refine Ext.alloc ?_ _ | refine Ext.trans ?_ (by assumption)))))
                  simpa using hq2

      · have hkn' : k = n := by omega
        have hT : xs.take k = xs := by rw [hkn', ← hxl, List.take_length]
        have hD : xs.drop k = [] := by rw [hkn', ← hxl, List.drop_length]
        obtain ⟨e1, e2⟩ := span_at (p := ahE x) (xs := xs) (k := k) (by omega) hal (fun h' => by omega)
        rw [hT] at e1
        rw [hD] at e2
        have HT := Lib.hid hT
        have HD := Lib.hid hD
        have HE1 := Lib.hid e1
        have HE2 := Lib.hid e2
        have XZ := Lib.hid (X1.out.trans hE)
        have HBZ := Lib.hid (hE.blk HBX1.out)
        have HKN := Lib.hid hkn'
        clear hT hD e1 e2 hal hE hkn'
        have hltI : ¬ (k : Int) < (n : Int) := by omega
        go_wp2
        refine wp_region_held_drew (S := (fun w' => True)) (by kernel_rfl) (by (try dsimp only); (try exact trivial)) (fun hHeld => ?_)
        refine wpAnyH_take (i := 0) (oi := ({ dst := some 11, op := Go.Op.move (Go.Operand.tmp 6), type := 3, pos := "ref.go:42", after := #[], guard := none } : Go.Oper)) (v := ?v58) rfl (by kernel_rfl) (by kernel_rfl) (by kernel_rfl) (fun _ _ _ h => h) (Or.inl ⟨by rfl, ?hy58⟩) (by assumption) ?rest58
        case hy58 => (intro w hSw; (try dsimp only at hSw); go_simp; (try with_reducible rfl))
        (try simp only [Act.put, List.getElem_toArray, List.getElem_cons_zero, List.getElem_cons_succ, List.setIfInBounds_toArray, List.set_cons_zero, List.set_cons_succ])
        refine wpAnyH_take (i := 1) (oi := ({ dst := some 12, op := Go.Op.move (Go.Operand.tmp 0), type := 26, pos := "ref.go:42", after := #[], guard := none } : Go.Oper)) (v := ?v59) rfl (by kernel_rfl) (by kernel_rfl) (by kernel_rfl) (fun _ _ _ h => h) (Or.inl ⟨by rfl, ?hy59⟩) (by assumption) ?rest59
        case hy59 => (intro w hSw; (try dsimp only at hSw); go_simp; (try with_reducible rfl))
        (try simp only [Act.put, List.getElem_toArray, List.getElem_cons_zero, List.getElem_cons_succ, List.setIfInBounds_toArray, List.set_cons_zero, List.set_cons_succ])
        refine wpAnyH_take (i := 2) (oi := ({ dst := some 13, op := Go.Op.call { callee := Go.Callee.builtin Go.Builtin.len, args := #[Go.Operand.tmp 12], argTypes := #[26] }, type := 3, pos := "ref.go:42", after := #[{ on := 1, ground := Go.Ground.data }], guard := none } : Go.Oper)) (v := ?v60) rfl (by kernel_rfl) (by kernel_rfl) (by kernel_rfl) (fun _ _ _ h => h) (Or.inl ⟨by rfl, ?hy60⟩) (by assumption) ?rest60
        case hy60 => (intro w hSw; (try dsimp only at hSw); go_simp; (try with_reducible rfl))
        (try simp only [Act.put, List.getElem_toArray, List.getElem_cons_zero, List.getElem_cons_succ, List.setIfInBounds_toArray, List.set_cons_zero, List.set_cons_succ])
        refine wpAnyH_take (i := 3) (oi := ({ dst := some 14, op := Go.Op.binOp Go.BinOp.lss 3 (Go.Operand.tmp 11) (Go.Operand.tmp 13) 3, type := 4, pos := "ref.go:42", after := #[{ on := 0, ground := Go.Ground.data }, { on := 2, ground := Go.Ground.data }], guard := none } : Go.Oper)) (v := ?v61) rfl (by kernel_rfl) (by kernel_rfl) (by kernel_rfl) (fun _ _ _ h => h) (Or.inl ⟨by rfl, ?hy61⟩) (by assumption) ?rest61
        case hy61 => (intro w hSw; (try dsimp only at hSw); go_simp; (try with_reducible rfl))
        (try simp only [Act.put, List.getElem_toArray, List.getElem_cons_zero, List.getElem_cons_succ, List.setIfInBounds_toArray, List.set_cons_zero, List.set_cons_succ])
        refine wpAnyH_take (i := 4) (oi := ({ dst := some 15, op := Go.Op.move (Go.Operand.tmp 14), type := 4, pos := "ref.go:42", after := #[{ on := 3, ground := Go.Ground.data }], guard := none } : Go.Oper)) (v := ?v62) rfl (by kernel_rfl) (by kernel_rfl) (by kernel_rfl) (fun _ _ _ h => h) (Or.inl ⟨by rfl, ?hy62⟩) (by assumption) ?rest62
        case hy62 => (intro w hSw; (try dsimp only at hSw); go_simp; (try with_reducible rfl))
        (try simp only [Act.put, List.getElem_toArray, List.getElem_cons_zero, List.getElem_cons_succ, List.setIfInBounds_toArray, List.set_cons_zero, List.set_cons_succ])
        refine wpAnyH_take (i := 5) (oi := ({ dst := some 16, op := Go.Op.move (Go.Operand.tmp 0), type := 26, pos := "ref.go:42", after := #[{ on := 4, ground := Go.Ground.guard }], guard := some (4, true) } : Go.Oper)) (v := undef) rfl (by kernel_rfl) (by kernel_rfl) (by kernel_rfl) (fun _ _ _ h => h) (Or.inr ⟨by rfl, rfl⟩) (by assumption) ?_
        (try simp only [Act.put, List.getElem_toArray, List.getElem_cons_zero, List.getElem_cons_succ, List.setIfInBounds_toArray, List.set_cons_zero, List.set_cons_succ])
        refine wpAnyH_take (i := 6) (oi := ({ dst := some 17, op := Go.Op.move (Go.Operand.tmp 6), type := 3, pos := "ref.go:42", after := #[{ on := 4, ground := Go.Ground.guard }], guard := some (4, true) } : Go.Oper)) (v := undef) rfl (by kernel_rfl) (by kernel_rfl) (by kernel_rfl) (fun _ _ _ h => h) (Or.inr ⟨by rfl, rfl⟩) (by assumption) ?_
        (try simp only [Act.put, List.getElem_toArray, List.getElem_cons_zero, List.getElem_cons_succ, List.setIfInBounds_toArray, List.set_cons_zero, List.set_cons_succ])
        refine wpAnyH_take (i := 7) (oi := ({ dst := some 18, op := Go.Op.indexAddr 26 (Go.Operand.tmp 16) (Go.Operand.tmp 17), type := 0, pos := "ref.go:42", after := #[{ on := 5, ground := Go.Ground.data }, { on := 6, ground := Go.Ground.data }, { on := 4, ground := Go.Ground.guard }], guard := some (4, true) } : Go.Oper)) (v := undef) rfl (by kernel_rfl) (by kernel_rfl) (by kernel_rfl) (fun _ _ _ h => h) (Or.inr ⟨by rfl, rfl⟩) (by assumption) ?_
        (try simp only [Act.put, List.getElem_toArray, List.getElem_cons_zero, List.getElem_cons_succ, List.setIfInBounds_toArray, List.set_cons_zero, List.set_cons_succ])
        refine wpAnyH_take (i := 8) (oi := ({ dst := some 19, op := Go.Op.load 40 (Go.Operand.tmp 18), type := 40, pos := "ref.go:42", after := #[{ on := 7, ground := Go.Ground.data }, { on := 4, ground := Go.Ground.guard }], guard := some (4, true) } : Go.Oper)) (v := undef) rfl (by kernel_rfl) (by kernel_rfl) (by kernel_rfl) (fun _ _ _ h => h) (Or.inr ⟨by rfl, rfl⟩) (by assumption) ?_
        (try simp only [Act.put, List.getElem_toArray, List.getElem_cons_zero, List.getElem_cons_succ, List.setIfInBounds_toArray, List.set_cons_zero, List.set_cons_succ])
        refine wpAnyH_take (i := 9) (oi := ({ dst := some 20, op := Go.Op.load 40 (Go.Operand.tmp 3), type := 40, pos := "ref.go:42", after := #[{ on := 4, ground := Go.Ground.guard }], guard := some (4, true) } : Go.Oper)) (v := undef) rfl (by kernel_rfl) (by kernel_rfl) (by kernel_rfl) (fun _ _ _ h => h) (Or.inr ⟨by rfl, rfl⟩) (by assumption) ?_
        (try simp only [Act.put, List.getElem_toArray, List.getElem_cons_zero, List.getElem_cons_succ, List.setIfInBounds_toArray, List.set_cons_zero, List.set_cons_succ])
        refine wpAnyH_take (i := 10) (oi := ({ dst := some 21, op := Go.Op.call { callee := Go.Callee.value (Go.Operand.func 28), args := #[Go.Operand.tmp 19, Go.Operand.tmp 20], argTypes := #[40, 40] }, type := 3, pos := "ref.go:42", after := #[{ on := 8, ground := Go.Ground.data }, { on := 9, ground := Go.Ground.data }, { on := 4, ground := Go.Ground.chain }, { on := 4, ground := Go.Ground.guard }], guard := some (4, true) } : Go.Oper)) (v := undef) rfl (by kernel_rfl) (by kernel_rfl) (by kernel_rfl) (fun _ _ _ h => h) (Or.inr ⟨by rfl, rfl⟩) (by assumption) ?_
        (try simp only [Act.put, List.getElem_toArray, List.getElem_cons_zero, List.getElem_cons_succ, List.setIfInBounds_toArray, List.set_cons_zero, List.set_cons_succ])
        refine wpAnyH_take (i := 11) (oi := ({ dst := some 22, op := Go.Op.binOp Go.BinOp.lss 3 (Go.Operand.tmp 21) (Go.Operand.const (Go.Value.int Go.IntKind.i64 0)) 3, type := 4, pos := "ref.go:42", after := #[{ on := 10, ground := Go.Ground.data }, { on := 4, ground := Go.Ground.guard }], guard := some (4, true) } : Go.Oper)) (v := undef) rfl (by kernel_rfl) (by kernel_rfl) (by kernel_rfl) (fun _ _ _ h => h) (Or.inr ⟨by rfl, rfl⟩) (by assumption) ?_
        (try simp only [Act.put, List.getElem_toArray, List.getElem_cons_zero, List.getElem_cons_succ, List.setIfInBounds_toArray, List.set_cons_zero, List.set_cons_succ])
        refine wpAnyH_take (i := 12) (oi := ({ dst := some 23, op := Go.Op.pick (Go.Operand.tmp 15) (Go.Operand.tmp 22) (Go.Operand.const (Go.Value.bool false)), type := 4, pos := "ref.go:42", after := #[{ on := 4, ground := Go.Ground.data }, { on := 11, ground := Go.Ground.data }], guard := none } : Go.Oper)) (v := ?v63) rfl (by kernel_rfl) (by kernel_rfl) (by kernel_rfl) (fun _ _ _ h => h) (Or.inl ⟨by rfl, ?hy63⟩) (by assumption) ?rest63
        case hy63 => (intro w hSw; (try dsimp only at hSw); go_simp; (try with_reducible rfl))
        (try simp only [Act.put, List.getElem_toArray, List.getElem_cons_zero, List.getElem_cons_succ, List.setIfInBounds_toArray, List.set_cons_zero, List.set_cons_succ])
        refine wpAnyH_done (by kernel_rfl) ?_ _
        all_goals
          go_wp2
          refine wp_region_held_drew (S := (fun w' => True)) (by kernel_rfl) (by (try dsimp only); (try exact trivial)) (fun hHeld => ?_)
          refine wpAnyH_take (i := 0) (oi := ({ dst := some 26, op := Go.Op.move (Go.Operand.tmp 6), type := 3, pos := "ref.go:45", after := #[], guard := none } : Go.Oper)) (v := ?v64) rfl (by kernel_rfl) (by kernel_rfl) (by kernel_rfl) (fun _ _ _ h => h) (Or.inl ⟨by rfl, ?hy64⟩) (by assumption) ?rest64
          case hy64 => (intro w hSw; (try dsimp only at hSw); go_simp; (try with_reducible rfl))
          (try simp only [Act.put, List.getElem_toArray, List.getElem_cons_zero, List.getElem_cons_succ, List.setIfInBounds_toArray, List.set_cons_zero, List.set_cons_succ])
          refine wpAnyH_take (i := 1) (oi := ({ dst := some 27, op := Go.Op.move (Go.Operand.tmp 0), type := 26, pos := "ref.go:45", after := #[], guard := none } : Go.Oper)) (v := ?v65) rfl (by kernel_rfl) (by kernel_rfl) (by kernel_rfl) (fun _ _ _ h => h) (Or.inl ⟨by rfl, ?hy65⟩) (by assumption) ?rest65
          case hy65 => (intro w hSw; (try dsimp only at hSw); go_simp; (try with_reducible rfl))
          (try simp only [Act.put, List.getElem_toArray, List.getElem_cons_zero, List.getElem_cons_succ, List.setIfInBounds_toArray, List.set_cons_zero, List.set_cons_succ])
          refine wpAnyH_take (i := 2) (oi := ({ dst := some 28, op := Go.Op.call { callee := Go.Callee.builtin Go.Builtin.len, args := #[Go.Operand.tmp 27], argTypes := #[26] }, type := 3, pos := "ref.go:45", after := #[{ on := 1, ground := Go.Ground.data }], guard := none } : Go.Oper)) (v := ?v66) rfl (by kernel_rfl) (by kernel_rfl) (by kernel_rfl) (fun _ _ _ h => h) (Or.inl ⟨by rfl, ?hy66⟩) (by assumption) ?rest66
          case hy66 => (intro w hSw; (try dsimp only at hSw); go_simp; (try with_reducible rfl))
          (try simp only [Act.put, List.getElem_toArray, List.getElem_cons_zero, List.getElem_cons_succ, List.setIfInBounds_toArray, List.set_cons_zero, List.set_cons_succ])
          refine wpAnyH_take (i := 3) (oi := ({ dst := some 29, op := Go.Op.binOp Go.BinOp.lss 3 (Go.Operand.tmp 26) (Go.Operand.tmp 28) 3, type := 4, pos := "ref.go:45", after := #[{ on := 0, ground := Go.Ground.data }, { on := 2, ground := Go.Ground.data }], guard := none } : Go.Oper)) (v := ?v67) rfl (by kernel_rfl) (by kernel_rfl) (by kernel_rfl) (fun _ _ _ h => h) (Or.inl ⟨by rfl, ?hy67⟩) (by assumption) ?rest67
          case hy67 => (intro w hSw; (try dsimp only at hSw); go_simp; (try with_reducible rfl))
          (try simp only [Act.put, List.getElem_toArray, List.getElem_cons_zero, List.getElem_cons_succ, List.setIfInBounds_toArray, List.set_cons_zero, List.set_cons_succ])
          refine wpAnyH_take (i := 4) (oi := ({ dst := some 30, op := Go.Op.move (Go.Operand.tmp 29), type := 4, pos := "ref.go:45", after := #[{ on := 3, ground := Go.Ground.data }], guard := none } : Go.Oper)) (v := ?v68) rfl (by kernel_rfl) (by kernel_rfl) (by kernel_rfl) (fun _ _ _ h => h) (Or.inl ⟨by rfl, ?hy68⟩) (by assumption) ?rest68
          case hy68 => (intro w hSw; (try dsimp only at hSw); go_simp; (try with_reducible rfl))
          (try simp only [Act.put, List.getElem_toArray, List.getElem_cons_zero, List.getElem_cons_succ, List.setIfInBounds_toArray, List.set_cons_zero, List.set_cons_succ])
          refine wpAnyH_take (i := 5) (oi := ({ dst := some 31, op := Go.Op.move (Go.Operand.tmp 0), type := 26, pos := "ref.go:45", after := #[{ on := 4, ground := Go.Ground.guard }], guard := some (4, true) } : Go.Oper)) (v := undef) rfl (by kernel_rfl) (by kernel_rfl) (by kernel_rfl) (fun _ _ _ h => h) (Or.inr ⟨by rfl, rfl⟩) (by assumption) ?_
          (try simp only [Act.put, List.getElem_toArray, List.getElem_cons_zero, List.getElem_cons_succ, List.setIfInBounds_toArray, List.set_cons_zero, List.set_cons_succ])
          refine wpAnyH_take (i := 6) (oi := ({ dst := some 32, op := Go.Op.move (Go.Operand.tmp 6), type := 3, pos := "ref.go:45", after := #[{ on := 4, ground := Go.Ground.guard }], guard := some (4, true) } : Go.Oper)) (v := undef) rfl (by kernel_rfl) (by kernel_rfl) (by kernel_rfl) (fun _ _ _ h => h) (Or.inr ⟨by rfl, rfl⟩) (by assumption) ?_
          (try simp only [Act.put, List.getElem_toArray, List.getElem_cons_zero, List.getElem_cons_succ, List.setIfInBounds_toArray, List.set_cons_zero, List.set_cons_succ])
          refine wpAnyH_take (i := 7) (oi := ({ dst := some 33, op := Go.Op.indexAddr 26 (Go.Operand.tmp 31) (Go.Operand.tmp 32), type := 0, pos := "ref.go:45", after := #[{ on := 5, ground := Go.Ground.data }, { on := 6, ground := Go.Ground.data }, { on := 4, ground := Go.Ground.guard }], guard := some (4, true) } : Go.Oper)) (v := undef) rfl (by kernel_rfl) (by kernel_rfl) (by kernel_rfl) (fun _ _ _ h => h) (Or.inr ⟨by rfl, rfl⟩) (by assumption) ?_
          (try simp only [Act.put, List.getElem_toArray, List.getElem_cons_zero, List.getElem_cons_succ, List.setIfInBounds_toArray, List.set_cons_zero, List.set_cons_succ])
          refine wpAnyH_take (i := 8) (oi := ({ dst := some 34, op := Go.Op.load 40 (Go.Operand.tmp 33), type := 40, pos := "ref.go:45", after := #[{ on := 7, ground := Go.Ground.data }, { on := 4, ground := Go.Ground.guard }], guard := some (4, true) } : Go.Oper)) (v := undef) rfl (by kernel_rfl) (by kernel_rfl) (by kernel_rfl) (fun _ _ _ h => h) (Or.inr ⟨by rfl, rfl⟩) (by assumption) ?_
          (try simp only [Act.put, List.getElem_toArray, List.getElem_cons_zero, List.getElem_cons_succ, List.setIfInBounds_toArray, List.set_cons_zero, List.set_cons_succ])
          refine wpAnyH_take (i := 9) (oi := ({ dst := some 35, op := Go.Op.load 40 (Go.Operand.tmp 3), type := 40, pos := "ref.go:45", after := #[{ on := 4, ground := Go.Ground.guard }], guard := some (4, true) } : Go.Oper)) (v := undef) rfl (by kernel_rfl) (by kernel_rfl) (by kernel_rfl) (fun _ _ _ h => h) (Or.inr ⟨by rfl, rfl⟩) (by assumption) ?_
          (try simp only [Act.put, List.getElem_toArray, List.getElem_cons_zero, List.getElem_cons_succ, List.setIfInBounds_toArray, List.set_cons_zero, List.set_cons_succ])
          refine wpAnyH_take (i := 10) (oi := ({ dst := some 36, op := Go.Op.call { callee := Go.Callee.value (Go.Operand.func 28), args := #[Go.Operand.tmp 34, Go.Operand.tmp 35], argTypes := #[40, 40] }, type := 3, pos := "ref.go:45", after := #[{ on := 8, ground := Go.Ground.data }, { on := 9, ground := Go.Ground.data }, { on := 4, ground := Go.Ground.chain }, { on := 4, ground := Go.Ground.guard }], guard := some (4, true) } : Go.Oper)) (v := undef) rfl (by kernel_rfl) (by kernel_rfl) (by kernel_rfl) (fun _ _ _ h => h) (Or.inr ⟨by rfl, rfl⟩) (by assumption) ?_
          (try simp only [Act.put, List.getElem_toArray, List.getElem_cons_zero, List.getElem_cons_succ, List.setIfInBounds_toArray, List.set_cons_zero, List.set_cons_succ])
          refine wpAnyH_take (i := 11) (oi := ({ dst := some 37, op := Go.Op.binOp Go.BinOp.eql 3 (Go.Operand.tmp 36) (Go.Operand.const (Go.Value.int Go.IntKind.i64 0)) 3, type := 4, pos := "ref.go:45", after := #[{ on := 10, ground := Go.Ground.data }, { on := 4, ground := Go.Ground.guard }], guard := some (4, true) } : Go.Oper)) (v := undef) rfl (by kernel_rfl) (by kernel_rfl) (by kernel_rfl) (fun _ _ _ h => h) (Or.inr ⟨by rfl, rfl⟩) (by assumption) ?_
          (try simp only [Act.put, List.getElem_toArray, List.getElem_cons_zero, List.getElem_cons_succ, List.setIfInBounds_toArray, List.set_cons_zero, List.set_cons_succ])
          refine wpAnyH_take (i := 12) (oi := ({ dst := some 38, op := Go.Op.pick (Go.Operand.tmp 30) (Go.Operand.tmp 37) (Go.Operand.const (Go.Value.bool false)), type := 4, pos := "ref.go:45", after := #[{ on := 4, ground := Go.Ground.data }, { on := 11, ground := Go.Ground.data }], guard := none } : Go.Oper)) (v := ?v69) rfl (by kernel_rfl) (by kernel_rfl) (by kernel_rfl) (fun _ _ _ h => h) (Or.inl ⟨by rfl, ?hy69⟩) (by assumption) ?rest69
          case hy69 => (intro w hSw; (try dsimp only at hSw); go_simp; (try with_reducible rfl))
          (try simp only [Act.put, List.getElem_toArray, List.getElem_cons_zero, List.getElem_cons_succ, List.setIfInBounds_toArray, List.set_cons_zero, List.set_cons_succ])
          refine wpAnyH_done (by kernel_rfl) ?_ _
          all_goals
            by_cases hn0 : 0 < n
            · obtain ⟨b, o, hA, _⟩ := HL.out.rdl.2.2 hn0
              subst hA
              by_cases hck : k = c
              · subst hck
                go_wp2
                obtain ⟨hs, hl1, _, hB1, hc1, hr1, hz1⟩ := HL.out
                have hkx : k ≤ xs.length := by omega
                have hS1 : ∀ w', Ext wr w' → RdH w' wr.heap.size (some ⟨b, o, none⟩) k (hs.take k) (xs.take k) := by
                  intro w' e
                  refine ⟨by simp [hl1], by simp <;> omega, by unfold B41; omega, fun hn => ?_, fun i i1 i2 => ?_⟩
                  · first
                    | exact absurd hn (by omega)
                    | obtain ⟨b', o', e', _, hc⟩ := hc1 (by omega)
                      cases e'
                      exact ⟨_, _, rfl, fun j u hu => (XZ.out.trans e).keeps _ _ _ (hc j u (rowE_take hl1 k hkx j u hu))⟩
                  · simp only [List.length_take] at i1 i2
                    have he := hr1 i (by omega) (by omega)
                    have hd := he.hdr
                    rw [List.getElem_take, List.getElem_take]
                    exact ⟨he.ext (XZ.out.trans e), Apt.low _ hd.1 XZ.out.size, Apt.low _ hd.2 XZ.out.size⟩
                have hS2 : ∀ w' (QA : Option Addr), Ext wr w' → RdH w' wr.heap.size (QA) 0 (hs.drop k) (xs.drop k) := by
                  intro w' QA e
                  have hkn2 : k = n := HKN.out
                  refine ⟨by simp [hl1], by simp <;> omega, by unfold B41; omega, fun hn => ?_, fun i i1 i2 => ?_⟩
                  · first
                    | exact absurd hn (by omega)
                    | obtain ⟨b', o', e', _, hc⟩ := hc1 (by omega)
                      cases e'
                      exact ⟨_, _, rfl, fun j u hu => by rw [Nat.add_assoc]; exact (XZ.out.trans e).keeps _ _ _ (hc _ u (rowE_drop hl1 k hkx j u hu))⟩
                  · simp only [List.length_drop] at i1 i2
                    have he := hr1 (k + i) (by omega) (by omega)
                    have hd := he.hdr
                    rw [List.getElem_drop, List.getElem_drop]
                    exact ⟨he.ext (XZ.out.trans e), Apt.low _ hd.1 XZ.out.size, Apt.low _ hd.2 XZ.out.size⟩
                have HS1 := Lib.hid hS1
                have HS2 := Lib.hid hS2
                have HZ1 := Lib.hid hz1
                clear hS1 hS2 hl1 hB1 hc1 hr1 hz1
                have hkI : (k : Int) ≤ (k : Int) := by omega
                have hkn : (k : Int) ≤ (n : Int) := by omega
                have hncI2 : (n : Int) ≤ (k : Int) := by omega
                refine wp_region_held_drew (S := (fun w' => w'.cell? ⟨w.heap.size, 0, none⟩ = some (.slice Ae ne ce) ∧ w'.cell? ⟨w.heap.size, 1, none⟩ = some (.int .i64 x.seq) ∧ w'.cell? ⟨w.heap.size, 2, none⟩ = some (.int .i64 x.kind) ∧ w'.cell? ⟨w.heap.size, 3, none⟩ = some (.slice Be me de) ∧ w'.frozen? ⟨w.heap.size, 0, none⟩ = false ∧ w'.frozen? ⟨w.heap.size, 1, none⟩ = false ∧ w'.frozen? ⟨w.heap.size, 2, none⟩ = false ∧ w'.frozen? ⟨w.heap.size, 3, none⟩ = false)) (by kernel_rfl) (by (try dsimp only); exact box4 HBZ.out (w' := _) (by with_reducible (repeat (first | exact Ext.rfl_ _ | assumption | refine Ext.drew ?_ | refine Ext.drewN ?_ _ | refine Ext.alloc ?_ _ | refine Ext.trans ?_ (by assumption))))) (fun hHeld => ?_)
                refine wpAnyH_take (i := 0) (oi := ({ dst := some 40, op := Go.Op.move (Go.Operand.tmp 0), type := 26, pos := "ref.go:48", after := #[], guard := none } : Go.Oper)) (v := ?v70) rfl (by kernel_rfl) (by kernel_rfl) (by kernel_rfl) (fun _ _ _ h => h) (Or.inl ⟨by rfl, ?hy70⟩) (by assumption) ?rest70
                case hy70 => (intro w hSw; (try dsimp only at hSw); go_simp; (try with_reducible rfl))
                (try simp only [Act.put, List.getElem_toArray, List.getElem_cons_zero, List.getElem_cons_succ, List.setIfInBounds_toArray, List.set_cons_zero, List.set_cons_succ])
                refine wpAnyH_take (i := 1) (oi := ({ dst := some 41, op := Go.Op.move (Go.Operand.tmp 6), type := 3, pos := "ref.go:48", after := #[], guard := none } : Go.Oper)) (v := ?v71) rfl (by kernel_rfl) (by kernel_rfl) (by kernel_rfl) (fun _ _ _ h => h) (Or.inl ⟨by rfl, ?hy71⟩) (by assumption) ?rest71
                case hy71 => (intro w hSw; (try dsimp only at hSw); go_simp; (try with_reducible rfl))
                (try simp only [Act.put, List.getElem_toArray, List.getElem_cons_zero, List.getElem_cons_succ, List.setIfInBounds_toArray, List.set_cons_zero, List.set_cons_succ])
                refine wpAnyH_take (i := 2) (oi := ({ dst := some 42, op := Go.Op.slice 26 (Go.Operand.tmp 40) none (some (Go.Operand.tmp 41)) none, type := 26, pos := "ref.go:48", after := #[{ on := 0, ground := Go.Ground.data }, { on := 1, ground := Go.Ground.data }], guard := none } : Go.Oper)) (v := ?v72) rfl (by kernel_rfl) (by kernel_rfl) (by kernel_rfl) (fun _ _ _ h => h) (Or.inl ⟨by rfl, ?hy72⟩) (by assumption) ?rest72
                case hy72 => (intro w hSw; (try dsimp only at hSw); go_simp; (try with_reducible rfl))
                (try simp only [Act.put, List.getElem_toArray, List.getElem_cons_zero, List.getElem_cons_succ, List.setIfInBounds_toArray, List.set_cons_zero, List.set_cons_succ])
                refine wpAnyH_take (i := 4) (oi := ({ dst := some 44, op := Go.Op.load 40 (Go.Operand.tmp 3), type := 40, pos := "ref.go:48", after := #[], guard := none } : Go.Oper)) (v := ?v73) rfl (by kernel_rfl) (by kernel_rfl) (by kernel_rfl) (fun _ _ _ h => h) (Or.inl ⟨by rfl, ?hy73⟩) (by assumption) ?rest73
                case hy73 => (intro w hSw; (try dsimp only at hSw); go_simp; (try with_reducible rfl))
                (try simp only [Act.put, List.getElem_toArray, List.getElem_cons_zero, List.getElem_cons_succ, List.setIfInBounds_toArray, List.set_cons_zero, List.set_cons_succ])
                refine wpAnyH_take (i := 8) (oi := ({ dst := some 48, op := Go.Op.move (Go.Operand.tmp 0), type := 26, pos := "ref.go:48", after := #[], guard := none } : Go.Oper)) (v := ?v74) rfl (by kernel_rfl) (by kernel_rfl) (by kernel_rfl) (fun _ _ _ h => h) (Or.inl ⟨by rfl, ?hy74⟩) (by assumption) ?rest74
                case hy74 => (intro w hSw; (try dsimp only at hSw); go_simp; (try with_reducible rfl))
                (try simp only [Act.put, List.getElem_toArray, List.getElem_cons_zero, List.getElem_cons_succ, List.setIfInBounds_toArray, List.set_cons_zero, List.set_cons_succ])
                refine wpAnyH_take (i := 9) (oi := ({ dst := some 49, op := Go.Op.move (Go.Operand.tmp 6), type := 3, pos := "ref.go:48", after := #[], guard := none } : Go.Oper)) (v := ?v75) rfl (by kernel_rfl) (by kernel_rfl) (by kernel_rfl) (fun _ _ _ h => h) (Or.inl ⟨by rfl, ?hy75⟩) (by assumption) ?rest75
                case hy75 => (intro w hSw; (try dsimp only at hSw); go_simp; (try with_reducible rfl))
                (try simp only [Act.put, List.getElem_toArray, List.getElem_cons_zero, List.getElem_cons_succ, List.setIfInBounds_toArray, List.set_cons_zero, List.set_cons_succ])
                refine wpAnyH_take (i := 10) (oi := ({ dst := some 50, op := Go.Op.slice 26 (Go.Operand.tmp 48) (some (Go.Operand.tmp 49)) none none, type := 26, pos := "ref.go:48", after := #[{ on := 8, ground := Go.Ground.data }, { on := 9, ground := Go.Ground.data }], guard := none } : Go.Oper)) (v := ?v76) rfl (by kernel_rfl) (by kernel_rfl) (by kernel_rfl) (fun _ _ _ h => h) (Or.inl ⟨by rfl, ?hy76⟩) (by assumption) ?rest76
                case hy76 => (intro w hSw; (try dsimp only at hSw); go_simp; (try with_reducible rfl))
                (try simp only [Act.put, List.getElem_toArray, List.getElem_cons_zero, List.getElem_cons_succ, List.setIfInBounds_toArray, List.set_cons_zero, List.set_cons_succ])
                refine wpAnyH_ready (rs := [3]) (by kernel_rfl) (by simp) ?_
                refine AllReadyH.cons (o := ({ dst := some 43, op := Go.Op.call { callee := Go.Callee.builtin Go.Builtin.append, args := #[Go.Operand.const (Go.Value.slice none 0 0), Go.Operand.tmp 42], argTypes := #[26, 26] }, type := 26, pos := "ref.go:48", after := #[{ on := 2, ground := Go.Ground.data }], guard := none } : Go.Oper)) rfl (fun K hK => ?_) AllReadyH.nil
                refine step_appH rfl _ _ rfl wr.heap.size (.slice none 0 0) [] [] rfl (OwnH.nil _ _) (some ⟨b, o, none⟩) k _ (hs.take k) (xs.take k) rfl (HS1.out _ (by with_reducible (repeat (first | exact Ext.rfl_ _ | assumption | refine Ext.drew ?_ | refine Ext.drewN ?_ _ | refine Ext.alloc ?_ _ | refine Ext.trans ?_ (by assumption))))) (by unfold B41; simp <;> omega) (Ext.size (by with_reducible (repeat (first | exact Ext.rfl_ _ | assumption | refine Ext.drew ?_ | refine Ext.drewN ?_ _ | refine Ext.alloc ?_ _ | refine Ext.trans ?_ (by assumption))))) ?_; intro v7 w7 o7 g7 _; have x7 : Ext wr w7 := Ext.growL (show Ext wr _ from (by with_reducible (repeat (first | exact Ext.rfl_ _ | assumption | refine Ext.drew ?_ | refine Ext.drewN ?_ _ | refine Ext.alloc ?_ _ | refine Ext.trans ?_ (by assumption))))) g7 (OwnH.ownL (OwnH.nil _ _)) (Nat.le_refl _); clear g7
                refine hK.out _ _ (by (try dsimp only); exact box4 HBZ.out (w' := _) (by with_reducible (repeat (first | exact Ext.rfl_ _ | assumption | refine Ext.drew ?_ | refine Ext.drewN ?_ _ | refine Ext.alloc ?_ _ | refine Ext.trans ?_ (by assumption))))) (fun hHeld => ?_)
                clear hK K
                (try simp only [Act.put, List.getElem_toArray, List.getElem_cons_zero, List.getElem_cons_succ, List.setIfInBounds_toArray, List.set_cons_zero, List.set_cons_succ])
                refine wpAnyH_ready (rs := [5]) (by kernel_rfl) (by simp) ?_
                refine AllReadyH.cons (o := ({ dst := some 45, op := Go.Op.call { callee := Go.Callee.value (Go.Operand.func 39), args := #[Go.Operand.tmp 44], argTypes := #[40] }, type := 40, pos := "ref.go:48", after := #[{ on := 4, ground := Go.Ground.data }, { on := 3, ground := Go.Ground.chain }], guard := none } : Go.Oper)) rfl (fun K hK => ?_) AllReadyH.nil
                go_simp
                refine (rcopy_any _ x _ ?_).mono ?_; exact (HX.out.ext (XZ.out.trans (by with_reducible (repeat (first | exact Ext.rfl_ _ | assumption | refine Ext.drew ?_ | refine Ext.drewN ?_ _ | refine Ext.alloc ?_ _ | refine Ext.trans ?_ (by assumption)))))); rintro e w8 ⟨v8, rfl, f8, hw8⟩; obtain ⟨A8, n8, c8, B8, m8, d8, rfl, u1, u2, u3, u4, u5, u6, u7, u8, u9, u10⟩ := f8; have hel : Elt w8 wr.heap.size ⟨A8, n8, c8, B8, m8, d8⟩ x := ⟨⟨_, _, _, _, _, _, rfl, u3, u4, u5, u6, u7, u8⟩, Apt.own u1, Apt.own u2⟩; have hhd : HdZ (fun i => Z i ∨ w.heap.size ≤ i) ⟨A8, n8, c8, B8, m8, d8⟩ := ⟨fun hn a ha => .inr (Nat.le_trans (Ext.size (XZ.out.trans (show Ext wr _ from (by with_reducible (repeat (first | exact Ext.rfl_ _ | assumption | refine Ext.drew ?_ | refine Ext.drewN ?_ _ | refine Ext.alloc ?_ _ | refine Ext.trans ?_ (by assumption))))))) (u9 hn a ha)), fun hn a ha => .inr (Nat.le_trans (Ext.size (XZ.out.trans (show Ext wr _ from (by with_reducible (repeat (first | exact Ext.rfl_ _ | assumption | refine Ext.drew ?_ | refine Ext.drewN ?_ _ | refine Ext.alloc ?_ _ | refine Ext.trans ?_ (by assumption))))))) (u10 hn a ha))⟩; clear u1 u2 u3 u4 u5 u6 u7 u8 u9 u10
                (try (go_wp2_with fail))
                refine hK.out _ _ (by (try dsimp only); exact box4 HBZ.out (w' := _) (by with_reducible (repeat (first | exact Ext.rfl_ _ | assumption | refine Ext.drew ?_ | refine Ext.drewN ?_ _ | refine Ext.alloc ?_ _ | refine Ext.trans ?_ (by assumption))))) (fun hHeld => ?_)
                clear hK K
                (try simp only [Act.put, List.getElem_toArray, List.getElem_cons_zero, List.getElem_cons_succ, List.setIfInBounds_toArray, List.set_cons_zero, List.set_cons_succ])
                refine wpAnyH_ready (rs := [6]) (by kernel_rfl) (by simp) ?_
                refine AllReadyH.cons (o := ({ dst := some 46, op := Go.Op.buildSlice 26 1 #[(0, Go.Operand.tmp 45)], type := 26, pos := "ref.go:48", after := #[{ on := 5, ground := Go.Ground.data }], guard := none } : Go.Oper)) rfl (fun K hK => ?_) AllReadyH.nil
                go_simp
                refine hK.out _ _ (by (try dsimp only); exact box4 HBZ.out (w' := _) (by with_reducible (repeat (first | exact Ext.rfl_ _ | assumption | refine Ext.drew ?_ | refine Ext.drewN ?_ _ | refine Ext.alloc ?_ _ | refine Ext.trans ?_ (by assumption))))) (fun hHeld => ?_)
                clear hK K
                (try simp only [Act.put, List.getElem_toArray, List.getElem_cons_zero, List.getElem_cons_succ, List.setIfInBounds_toArray, List.set_cons_zero, List.set_cons_succ])
                refine wpAnyH_ready (rs := [7]) (by kernel_rfl) (by simp) ?_
                refine AllReadyH.cons (o := ({ dst := some 47, op := Go.Op.call { callee := Go.Callee.builtin Go.Builtin.append, args := #[Go.Operand.tmp 43, Go.Operand.tmp 46], argTypes := #[26, 26] }, type := 26, pos := "ref.go:48", after := #[{ on := 3, ground := Go.Ground.data }, { on := 6, ground := Go.Ground.data }, { on := 5, ground := Go.Ground.chain }], guard := none } : Go.Oper)) rfl (fun K hK => ?_) AllReadyH.nil
                refine step_appH rfl _ _ rfl wr.heap.size v7 _ _ rfl (o7.ext (by with_reducible (repeat (first | exact Ext.rfl_ _ | assumption | refine Ext.drew ?_ | refine Ext.drewN ?_ _ | refine Ext.alloc ?_ _ | refine Ext.trans ?_ (by assumption))))) (some ⟨w8.heap.size, 0, none⟩) 1 1 [⟨A8, n8, c8, B8, m8, d8⟩] [x] rfl (RdH.ext (RdH.one (w := w8) 40 hel) (by with_reducible (repeat (first | exact Ext.rfl_ _ | assumption | refine Ext.drew ?_ | refine Ext.drewN ?_ _ | refine Ext.alloc ?_ _ | refine Ext.trans ?_ (by assumption))))) (by unfold B41; simp <;> omega) (Ext.size (by with_reducible (repeat (first | exact Ext.rfl_ _ | assumption | refine Ext.drew ?_ | refine Ext.drewN ?_ _ | refine Ext.alloc ?_ _ | refine Ext.trans ?_ (by assumption))))) ?_; intro v9 w9 o9 g9 _; have x9 : Ext wr w9 := Ext.growL (show Ext wr _ from (by with_reducible (repeat (first | exact Ext.rfl_ _ | assumption | refine Ext.drew ?_ | refine Ext.drewN ?_ _ | refine Ext.alloc ?_ _ | refine Ext.trans ?_ (by assumption))))) g9 (OwnL.ext (OwnH.ownL o7) (by with_reducible (repeat (first | exact Ext.rfl_ _ | assumption | refine Ext.drew ?_ | refine Ext.drewN ?_ _ | refine Ext.alloc ?_ _ | refine Ext.trans ?_ (by assumption))))) (Nat.le_refl _); clear g9
                refine hK.out _ _ (by (try dsimp only); exact box4 HBZ.out (w' := _) (by with_reducible (repeat (first | exact Ext.rfl_ _ | assumption | refine Ext.drew ?_ | refine Ext.drewN ?_ _ | refine Ext.alloc ?_ _ | refine Ext.trans ?_ (by assumption))))) (fun hHeld => ?_)
                clear hK K
                (try simp only [Act.put, List.getElem_toArray, List.getElem_cons_zero, List.getElem_cons_succ, List.setIfInBounds_toArray, List.set_cons_zero, List.set_cons_succ])
                refine wpAnyH_ready (rs := [11]) (by kernel_rfl) (by simp) ?_
                refine AllReadyH.cons (o := ({ dst := some 51, op := Go.Op.call { callee := Go.Callee.builtin Go.Builtin.append, args := #[Go.Operand.tmp 47, Go.Operand.tmp 50], argTypes := #[26, 26] }, type := 26, pos := "ref.go:48", after := #[{ on := 7, ground := Go.Ground.data }, { on := 10, ground := Go.Ground.data }, { on := 7, ground := Go.Ground.chain }], guard := none } : Go.Oper)) rfl (fun K hK => ?_) AllReadyH.nil
                refine step_appH rfl _ _ rfl wr.heap.size v9 _ _ rfl (o9.ext (by with_reducible (repeat (first | exact Ext.rfl_ _ | assumption | refine Ext.drew ?_ | refine Ext.drewN ?_ _ | refine Ext.alloc ?_ _ | refine Ext.trans ?_ (by assumption))))) (_) 0 _ (hs.drop k) (xs.drop k) rfl (HS2.out _ _ (by with_reducible (repeat (first | exact Ext.rfl_ _ | assumption | refine Ext.drew ?_ | refine Ext.drewN ?_ _ | refine Ext.alloc ?_ _ | refine Ext.trans ?_ (by assumption))))) (by unfold B41; simp <;> omega) (Ext.size (by with_reducible (repeat (first | exact Ext.rfl_ _ | assumption | refine Ext.drew ?_ | refine Ext.drewN ?_ _ | refine Ext.alloc ?_ _ | refine Ext.trans ?_ (by assumption))))) ?_; intro v10 w10 o10 g10 _; have x10 : Ext wr w10 := Ext.growL (show Ext wr _ from (by with_reducible (repeat (first | exact Ext.rfl_ _ | assumption | refine Ext.drew ?_ | refine Ext.drewN ?_ _ | refine Ext.alloc ?_ _ | refine Ext.trans ?_ (by assumption))))) g10 (OwnL.ext (OwnH.ownL o9) (by with_reducible (repeat (first | exact Ext.rfl_ _ | assumption | refine Ext.drew ?_ | refine Ext.drewN ?_ _ | refine Ext.alloc ?_ _ | refine Ext.trans ?_ (by assumption))))) (Nat.le_refl _); clear g10
                refine hK.out _ _ (by (try dsimp only); exact box4 HBZ.out (w' := _) (by with_reducible (repeat (first | exact Ext.rfl_ _ | assumption | refine Ext.drew ?_ | refine Ext.drewN ?_ _ | refine Ext.alloc ?_ _ | refine Ext.trans ?_ (by assumption))))) (fun hHeld => ?_)
                clear hK K
                (try simp only [Act.put, List.getElem_toArray, List.getElem_cons_zero, List.getElem_cons_succ, List.setIfInBounds_toArray, List.set_cons_zero, List.set_cons_succ])
                refine wpAnyH_take (i := 12) (oi := ({ dst := some 4, op := Go.Op.assign (Go.Operand.tmp 51), type := 26, pos := "ref.go:48", after := #[{ on := 11, ground := Go.Ground.data }, { on := 11, ground := Go.Ground.chain }, { on := 0, ground := Go.Ground.phase }, { on := 1, ground := Go.Ground.phase }, { on := 2, ground := Go.Ground.phase }, { on := 3, ground := Go.Ground.phase }, { on := 4, ground := Go.Ground.phase }, { on := 5, ground := Go.Ground.phase }, { on := 6, ground := Go.Ground.phase }, { on := 7, ground := Go.Ground.phase }, { on := 8, ground := Go.Ground.phase }, { on := 9, ground := Go.Ground.phase }, { on := 10, ground := Go.Ground.phase }, { on := 11, ground := Go.Ground.phase }], guard := none } : Go.Oper)) (v := ?v77) rfl (by kernel_rfl) (by kernel_rfl) (by kernel_rfl) (fun _ _ _ h => h) (Or.inl ⟨by rfl, ?hy77⟩) (by assumption) ?rest77
                case hy77 => (intro w hSw; (try dsimp only at hSw); go_simp; (try with_reducible rfl))
                (try simp only [Act.put, List.getElem_toArray, List.getElem_cons_zero, List.getElem_cons_succ, List.setIfInBounds_toArray, List.set_cons_zero, List.set_cons_succ])
                refine wpAnyH_take (i := 13) (oi := ({ dst := some 5, op := Go.Op.assign (Go.Operand.const (Go.Value.int Go.IntKind.i64 0)), type := 3, pos := "ref.go:48", after := #[{ on := 12, ground := Go.Ground.chain }, { on := 0, ground := Go.Ground.phase }, { on := 1, ground := Go.Ground.phase }, { on := 2, ground := Go.Ground.phase }, { on := 3, ground := Go.Ground.phase }, { on := 4, ground := Go.Ground.phase }, { on := 5, ground := Go.Ground.phase }, { on := 6, ground := Go.Ground.phase }, { on := 7, ground := Go.Ground.phase }, { on := 8, ground := Go.Ground.phase }, { on := 9, ground := Go.Ground.phase }, { on := 10, ground := Go.Ground.phase }, { on := 11, ground := Go.Ground.phase }, { on := 12, ground := Go.Ground.phase }], guard := none } : Go.Oper)) (v := ?v78) rfl (by kernel_rfl) (by kernel_rfl) (by kernel_rfl) (fun _ _ _ h => h) (Or.inl ⟨by rfl, ?hy78⟩) (by assumption) ?rest78
                case hy78 => (intro w hSw; (try dsimp only at hSw); go_simp; (try with_reducible rfl))
                (try simp only [Act.put, List.getElem_toArray, List.getElem_cons_zero, List.getElem_cons_succ, List.setIfInBounds_toArray, List.set_cons_zero, List.set_cons_succ])
                refine wpAnyH_done (by kernel_rfl) ?_ _
                all_goals
                  obtain ⟨A', n', c', rfl, hnc', hq⟩ := o10.rdq (Z := fun i => Z i ∨ w.heap.size ≤ i) (by unfold B41; simp <;> omega) (fun hd hm => by
                    simp only [List.nil_append, List.mem_append, List.mem_singleton] at hm
                    rcases hm with (hm | rfl) | hm
                    · have := HZ1.out hd (List.mem_of_mem_take hm); exact ⟨fun hn a ha => .inl (this.1 hn a ha), fun hn a ha => .inl (this.2 hn a ha)⟩
                    · exact hhd
                    · have := HZ1.out hd (List.mem_of_mem_drop hm); exact ⟨fun hn a ha => .inl (this.1 hn a ha), fun hn a ha => .inl (this.2 hn a ha)⟩) (fun i hi => .inr (Nat.le_trans XZ.out.size hi))
                  have HQ := Lib.hid hq
                  have HX10 := Lib.hid (XZ.out.trans (show Ext wr w10 from x10))
                  clear o10 o9 o7 hel hq
                  go_wp2
                  refine bodyPost_ret (v := .tuple #[.slice A' n' c', .int .i64 0]) (by simp [results, Try.f33, go_sem]) rfl ?_
                  rw [insP_end HM.out HE1.out HE2.out]
                  refine ⟨_, _, _, rfl, hnc', ?_, HX10.out.trans (by with_reducible (repeat (first | exact Ext.rfl_ _ | assumption | refine Ext.drew ?_ | refine Ext.drewN ?_ _ | refine Ext.alloc ?_ _ | refine Ext.trans ?_ (by assumption))))⟩
                  have hq2 := HQ.out.ext (show Ext w10 _ from (by with_reducible (repeat (first | exact Ext.rfl_ _ | assumption | refine Ext.drew ?_ | refine Ext.drewN ?_ _ | refine Ext.alloc ?_ _ | refine Ext.trans ?_ (by assumption)))))
                  rw [HT.out, HD.out] at hq2
                  simpa using hq2

              · have hck2 : k < c := by omega
                go_wp2
                obtain ⟨hs, hl1, _, hB1, hc1, hr1, hz1⟩ := HL.out
                have hkx : k ≤ xs.length := by omega
                have hS1 : ∀ w', Ext wr w' → RdH w' wr.heap.size (some ⟨b, o, none⟩) k (hs.take k) (xs.take k) := by
                  intro w' e
                  refine ⟨by simp [hl1], by simp <;> omega, by unfold B41; omega, fun hn => ?_, fun i i1 i2 => ?_⟩
                  · first
                    | exact absurd hn (by omega)
                    | obtain ⟨b', o', e', _, hc⟩ := hc1 (by omega)
                      cases e'
                      exact ⟨_, _, rfl, fun j u hu => (XZ.out.trans e).keeps _ _ _ (hc j u (rowE_take hl1 k hkx j u hu))⟩
                  · simp only [List.length_take] at i1 i2
                    have he := hr1 i (by omega) (by omega)
                    have hd := he.hdr
                    rw [List.getElem_take, List.getElem_take]
                    exact ⟨he.ext (XZ.out.trans e), Apt.low _ hd.1 XZ.out.size, Apt.low _ hd.2 XZ.out.size⟩
                have hS2 : ∀ w' (QA : Option Addr), Ext wr w' → RdH w' wr.heap.size (QA) (n - k) (hs.drop k) (xs.drop k) := by
                  intro w' QA e
                  refine ⟨by simp [hl1], by simp <;> omega, by unfold B41; omega, fun hn => ?_, fun i i1 i2 => ?_⟩
                  · first
                    | exact absurd hn (by omega)
                    | obtain ⟨b', o', e', _, hc⟩ := hc1 (by omega)
                      cases e'
                      exact ⟨_, _, rfl, fun j u hu => by rw [Nat.add_assoc]; exact (XZ.out.trans e).keeps _ _ _ (hc _ u (rowE_drop hl1 k hkx j u hu))⟩
                  · simp only [List.length_drop] at i1 i2
                    have he := hr1 (k + i) (by omega) (by omega)
                    have hd := he.hdr
                    rw [List.getElem_drop, List.getElem_drop]
                    exact ⟨he.ext (XZ.out.trans e), Apt.low _ hd.1 XZ.out.size, Apt.low _ hd.2 XZ.out.size⟩
                have HS1 := Lib.hid hS1
                have HS2 := Lib.hid hS2
                have HZ1 := Lib.hid hz1
                clear hS1 hS2 hl1 hB1 hc1 hr1 hz1
                have hkI : (k : Int) ≤ (c : Int) := by omega
                have hkn : (k : Int) ≤ (n : Int) := by omega
                have hncI2 : (n : Int) ≤ (c : Int) := by omega
                refine wp_region_held_drew (S := (fun w' => w'.cell? ⟨w.heap.size, 0, none⟩ = some (.slice Ae ne ce) ∧ w'.cell? ⟨w.heap.size, 1, none⟩ = some (.int .i64 x.seq) ∧ w'.cell? ⟨w.heap.size, 2, none⟩ = some (.int .i64 x.kind) ∧ w'.cell? ⟨w.heap.size, 3, none⟩ = some (.slice Be me de) ∧ w'.frozen? ⟨w.heap.size, 0, none⟩ = false ∧ w'.frozen? ⟨w.heap.size, 1, none⟩ = false ∧ w'.frozen? ⟨w.heap.size, 2, none⟩ = false ∧ w'.frozen? ⟨w.heap.size, 3, none⟩ = false)) (by kernel_rfl) (by (try dsimp only); exact box4 HBZ.out (w' := _) (by with_reducible (repeat (first | exact Ext.rfl_ _ | assumption | refine Ext.drew ?_ | refine Ext.drewN ?_ _ | refine Ext.alloc ?_ _ | refine Ext.trans ?_ (by assumption))))) (fun hHeld => ?_)
                refine wpAnyH_take (i := 0) (oi := ({ dst := some 40, op := Go.Op.move (Go.Operand.tmp 0), type := 26, pos := "ref.go:48", after := #[], guard := none } : Go.Oper)) (v := ?v79) rfl (by kernel_rfl) (by kernel_rfl) (by kernel_rfl) (fun _ _ _ h => h) (Or.inl ⟨by rfl, ?hy79⟩) (by assumption) ?rest79
                case hy79 => (intro w hSw; (try dsimp only at hSw); go_simp; (try with_reducible rfl))
                (try simp only [Act.put, List.getElem_toArray, List.getElem_cons_zero, List.getElem_cons_succ, List.setIfInBounds_toArray, List.set_cons_zero, List.set_cons_succ])
                refine wpAnyH_take (i := 1) (oi := ({ dst := some 41, op := Go.Op.move (Go.Operand.tmp 6), type := 3, pos := "ref.go:48", after := #[], guard := none } : Go.Oper)) (v := ?v80) rfl (by kernel_rfl) (by kernel_rfl) (by kernel_rfl) (fun _ _ _ h => h) (Or.inl ⟨by rfl, ?hy80⟩) (by assumption) ?rest80
                case hy80 => (intro w hSw; (try dsimp only at hSw); go_simp; (try with_reducible rfl))
                (try simp only [Act.put, List.getElem_toArray, List.getElem_cons_zero, List.getElem_cons_succ, List.setIfInBounds_toArray, List.set_cons_zero, List.set_cons_succ])
                refine wpAnyH_take (i := 2) (oi := ({ dst := some 42, op := Go.Op.slice 26 (Go.Operand.tmp 40) none (some (Go.Operand.tmp 41)) none, type := 26, pos := "ref.go:48", after := #[{ on := 0, ground := Go.Ground.data }, { on := 1, ground := Go.Ground.data }], guard := none } : Go.Oper)) (v := ?v81) rfl (by kernel_rfl) (by kernel_rfl) (by kernel_rfl) (fun _ _ _ h => h) (Or.inl ⟨by rfl, ?hy81⟩) (by assumption) ?rest81
                case hy81 => (intro w hSw; (try dsimp only at hSw); go_simp; (try with_reducible rfl))
                (try simp only [Act.put, List.getElem_toArray, List.getElem_cons_zero, List.getElem_cons_succ, List.setIfInBounds_toArray, List.set_cons_zero, List.set_cons_succ])
                refine wpAnyH_take (i := 4) (oi := ({ dst := some 44, op := Go.Op.load 40 (Go.Operand.tmp 3), type := 40, pos := "ref.go:48", after := #[], guard := none } : Go.Oper)) (v := ?v82) rfl (by kernel_rfl) (by kernel_rfl) (by kernel_rfl) (fun _ _ _ h => h) (Or.inl ⟨by rfl, ?hy82⟩) (by assumption) ?rest82
                case hy82 => (intro w hSw; (try dsimp only at hSw); go_simp; (try with_reducible rfl))
                (try simp only [Act.put, List.getElem_toArray, List.getElem_cons_zero, List.getElem_cons_succ, List.setIfInBounds_toArray, List.set_cons_zero, List.set_cons_succ])
                refine wpAnyH_take (i := 8) (oi := ({ dst := some 48, op := Go.Op.move (Go.Operand.tmp 0), type := 26, pos := "ref.go:48", after := #[], guard := none } : Go.Oper)) (v := ?v83) rfl (by kernel_rfl) (by kernel_rfl) (by kernel_rfl) (fun _ _ _ h => h) (Or.inl ⟨by rfl, ?hy83⟩) (by assumption) ?rest83
                case hy83 => (intro w hSw; (try dsimp only at hSw); go_simp; (try with_reducible rfl))
                (try simp only [Act.put, List.getElem_toArray, List.getElem_cons_zero, List.getElem_cons_succ, List.setIfInBounds_toArray, List.set_cons_zero, List.set_cons_succ])
                refine wpAnyH_take (i := 9) (oi := ({ dst := some 49, op := Go.Op.move (Go.Operand.tmp 6), type := 3, pos := "ref.go:48", after := #[], guard := none } : Go.Oper)) (v := ?v84) rfl (by kernel_rfl) (by kernel_rfl) (by kernel_rfl) (fun _ _ _ h => h) (Or.inl ⟨by rfl, ?hy84⟩) (by assumption) ?rest84
                case hy84 => (intro w hSw; (try dsimp only at hSw); go_simp; (try with_reducible rfl))
                (try simp only [Act.put, List.getElem_toArray, List.getElem_cons_zero, List.getElem_cons_succ, List.setIfInBounds_toArray, List.set_cons_zero, List.set_cons_succ])
                refine wpAnyH_take (i := 10) (oi := ({ dst := some 50, op := Go.Op.slice 26 (Go.Operand.tmp 48) (some (Go.Operand.tmp 49)) none none, type := 26, pos := "ref.go:48", after := #[{ on := 8, ground := Go.Ground.data }, { on := 9, ground := Go.Ground.data }], guard := none } : Go.Oper)) (v := ?v85) rfl (by kernel_rfl) (by kernel_rfl) (by kernel_rfl) (fun _ _ _ h => h) (Or.inl ⟨by rfl, ?hy85⟩) (by assumption) ?rest85
                case hy85 => (intro w hSw; (try dsimp only at hSw); go_simp; (try with_reducible rfl))
                (try simp only [Act.put, List.getElem_toArray, List.getElem_cons_zero, List.getElem_cons_succ, List.setIfInBounds_toArray, List.set_cons_zero, List.set_cons_succ])
                refine wpAnyH_ready (rs := [3]) (by kernel_rfl) (by simp) ?_
                refine AllReadyH.cons (o := ({ dst := some 43, op := Go.Op.call { callee := Go.Callee.builtin Go.Builtin.append, args := #[Go.Operand.const (Go.Value.slice none 0 0), Go.Operand.tmp 42], argTypes := #[26, 26] }, type := 26, pos := "ref.go:48", after := #[{ on := 2, ground := Go.Ground.data }], guard := none } : Go.Oper)) rfl (fun K hK => ?_) AllReadyH.nil
                refine step_appH rfl _ _ rfl wr.heap.size (.slice none 0 0) [] [] rfl (OwnH.nil _ _) (some ⟨b, o, none⟩) k _ (hs.take k) (xs.take k) rfl (HS1.out _ (by with_reducible (repeat (first | exact Ext.rfl_ _ | assumption | refine Ext.drew ?_ | refine Ext.drewN ?_ _ | refine Ext.alloc ?_ _ | refine Ext.trans ?_ (by assumption))))) (by unfold B41; simp <;> omega) (Ext.size (by with_reducible (repeat (first | exact Ext.rfl_ _ | assumption | refine Ext.drew ?_ | refine Ext.drewN ?_ _ | refine Ext.alloc ?_ _ | refine Ext.trans ?_ (by assumption))))) ?_; intro v7 w7 o7 g7 _; have x7 : Ext wr w7 := Ext.growL (show Ext wr _ from (by with_reducible (repeat (first | exact Ext.rfl_ _ | assumption | refine Ext.drew ?_ | refine Ext.drewN ?_ _ | refine Ext.alloc ?_ _ | refine Ext.trans ?_ (by assumption))))) g7 (OwnH.ownL (OwnH.nil _ _)) (Nat.le_refl _); clear g7
                refine hK.out _ _ (by (try dsimp only); exact box4 HBZ.out (w' := _) (by with_reducible (repeat (first | exact Ext.rfl_ _ | assumption | refine Ext.drew ?_ | refine Ext.drewN ?_ _ | refine Ext.alloc ?_ _ | refine Ext.trans ?_ (by assumption))))) (fun hHeld => ?_)
                clear hK K
                (try simp only [Act.put, List.getElem_toArray, List.getElem_cons_zero, List.getElem_cons_succ, List.setIfInBounds_toArray, List.set_cons_zero, List.set_cons_succ])
                refine wpAnyH_ready (rs := [5]) (by kernel_rfl) (by simp) ?_
                refine AllReadyH.cons (o := ({ dst := some 45, op := Go.Op.call { callee := Go.Callee.value (Go.Operand.func 39), args := #[Go.Operand.tmp 44], argTypes := #[40] }, type := 40, pos := "ref.go:48", after := #[{ on := 4, ground := Go.Ground.data }, { on := 3, ground := Go.Ground.chain }], guard := none } : Go.Oper)) rfl (fun K hK => ?_) AllReadyH.nil
                go_simp
                refine (rcopy_any _ x _ ?_).mono ?_; exact (HX.out.ext (XZ.out.trans (by with_reducible (repeat (first | exact Ext.rfl_ _ | assumption | refine Ext.drew ?_ | refine Ext.drewN ?_ _ | refine Ext.alloc ?_ _ | refine Ext.trans ?_ (by assumption)))))); rintro e w8 ⟨v8, rfl, f8, hw8⟩; obtain ⟨A8, n8, c8, B8, m8, d8, rfl, u1, u2, u3, u4, u5, u6, u7, u8, u9, u10⟩ := f8; have hel : Elt w8 wr.heap.size ⟨A8, n8, c8, B8, m8, d8⟩ x := ⟨⟨_, _, _, _, _, _, rfl, u3, u4, u5, u6, u7, u8⟩, Apt.own u1, Apt.own u2⟩; have hhd : HdZ (fun i => Z i ∨ w.heap.size ≤ i) ⟨A8, n8, c8, B8, m8, d8⟩ := ⟨fun hn a ha => .inr (Nat.le_trans (Ext.size (XZ.out.trans (show Ext wr _ from (by with_reducible (repeat (first | exact Ext.rfl_ _ | assumption | refine Ext.drew ?_ | refine Ext.drewN ?_ _ | refine Ext.alloc ?_ _ | refine Ext.trans ?_ (by assumption))))))) (u9 hn a ha)), fun hn a ha => .inr (Nat.le_trans (Ext.size (XZ.out.trans (show Ext wr _ from (by with_reducible (repeat (first | exact Ext.rfl_ _ | assumption | refine Ext.drew ?_ | refine Ext.drewN ?_ _ | refine Ext.alloc ?_ _ | refine Ext.trans ?_ (by assumption))))))) (u10 hn a ha))⟩; clear u1 u2 u3 u4 u5 u6 u7 u8 u9 u10
                (try (go_wp2_with fail))
                refine hK.out _ _ (by (try dsimp only); exact box4 HBZ.out (w' := _) (by with_reducible (repeat (first | exact Ext.rfl_ _ | assumption | refine Ext.drew ?_ | refine Ext.drewN ?_ _ | refine Ext.alloc ?_ _ | refine Ext.trans ?_ (by assumption))))) (fun hHeld => ?_)
                clear hK K
                (try simp only [Act.put, List.getElem_toArray, List.getElem_cons_zero, List.getElem_cons_succ, List.setIfInBounds_toArray, List.set_cons_zero, List.set_cons_succ])
                refine wpAnyH_ready (rs := [6]) (by kernel_rfl) (by simp) ?_
                refine AllReadyH.cons (o := ({ dst := some 46, op := Go.Op.buildSlice 26 1 #[(0, Go.Operand.tmp 45)], type := 26, pos := "ref.go:48", after := #[{ on := 5, ground := Go.Ground.data }], guard := none } : Go.Oper)) rfl (fun K hK => ?_) AllReadyH.nil
                go_simp
                refine hK.out _ _ (by (try dsimp only); exact box4 HBZ.out (w' := _) (by with_reducible (repeat (first | exact Ext.rfl_ _ | assumption | refine Ext.drew ?_ | refine Ext.drewN ?_ _ | refine Ext.alloc ?_ _ | refine Ext.trans ?_ (by assumption))))) (fun hHeld => ?_)
                clear hK K
                (try simp only [Act.put, List.getElem_toArray, List.getElem_cons_zero, List.getElem_cons_succ, List.setIfInBounds_toArray, List.set_cons_zero, List.set_cons_succ])
                refine wpAnyH_ready (rs := [7]) (by kernel_rfl) (by simp) ?_
                refine AllReadyH.cons (o := ({ dst := some 47, op := Go.Op.call { callee := Go.Callee.builtin Go.Builtin.append, args := #[Go.Operand.tmp 43, Go.Operand.tmp 46], argTypes := #[26, 26] }, type := 26, pos := "ref.go:48", after := #[{ on := 3, ground := Go.Ground.data }, { on := 6, ground := Go.Ground.data }, { on := 5, ground := Go.Ground.chain }], guard := none } : Go.Oper)) rfl (fun K hK => ?_) AllReadyH.nil
                refine step_appH rfl _ _ rfl wr.heap.size v7 _ _ rfl (o7.ext (by with_reducible (repeat (first | exact Ext.rfl_ _ | assumption | refine Ext.drew ?_ | refine Ext.drewN ?_ _ | refine Ext.alloc ?_ _ | refine Ext.trans ?_ (by assumption))))) (some ⟨w8.heap.size, 0, none⟩) 1 1 [⟨A8, n8, c8, B8, m8, d8⟩] [x] rfl (RdH.ext (RdH.one (w := w8) 40 hel) (by with_reducible (repeat (first | exact Ext.rfl_ _ | assumption | refine Ext.drew ?_ | refine Ext.drewN ?_ _ | refine Ext.alloc ?_ _ | refine Ext.trans ?_ (by assumption))))) (by unfold B41; simp <;> omega) (Ext.size (by with_reducible (repeat (first | exact Ext.rfl_ _ | assumption | refine Ext.drew ?_ | refine Ext.drewN ?_ _ | refine Ext.alloc ?_ _ | refine Ext.trans ?_ (by assumption))))) ?_; intro v9 w9 o9 g9 _; have x9 : Ext wr w9 := Ext.growL (show Ext wr _ from (by with_reducible (repeat (first | exact Ext.rfl_ _ | assumption | refine Ext.drew ?_ | refine Ext.drewN ?_ _ | refine Ext.alloc ?_ _ | refine Ext.trans ?_ (by assumption))))) g9 (OwnL.ext (OwnH.ownL o7) (by with_reducible (repeat (first | exact Ext.rfl_ _ | assumption | refine Ext.drew ?_ | refine Ext.drewN ?_ _ | refine Ext.alloc ?_ _ | refine Ext.trans ?_ (by assumption))))) (Nat.le_refl _); clear g9
                refine hK.out _ _ (by (try dsimp only); exact box4 HBZ.out (w' := _) (by with_reducible (repeat (first | exact Ext.rfl_ _ | assumption | refine Ext.drew ?_ | refine Ext.drewN ?_ _ | refine Ext.alloc ?_ _ | refine Ext.trans ?_ (by assumption))))) (fun hHeld => ?_)
                clear hK K
                (try simp only [Act.put, List.getElem_toArray, List.getElem_cons_zero, List.getElem_cons_succ, List.setIfInBounds_toArray, List.set_cons_zero, List.set_cons_succ])
                refine wpAnyH_ready (rs := [11]) (by kernel_rfl) (by simp) ?_
                refine AllReadyH.cons (o := ({ dst := some 51, op := Go.Op.call { callee := Go.Callee.builtin Go.Builtin.append, args := #[Go.Operand.tmp 47, Go.Operand.tmp 50], argTypes := #[26, 26] }, type := 26, pos := "ref.go:48", after := #[{ on := 7, ground := Go.Ground.data }, { on := 10, ground := Go.Ground.data }, { on := 7, ground := Go.Ground.chain }], guard := none } : Go.Oper)) rfl (fun K hK => ?_) AllReadyH.nil
                refine step_appH rfl _ _ rfl wr.heap.size v9 _ _ rfl (o9.ext (by with_reducible (repeat (first | exact Ext.rfl_ _ | assumption | refine Ext.drew ?_ | refine Ext.drewN ?_ _ | refine Ext.alloc ?_ _ | refine Ext.trans ?_ (by assumption))))) (_) (n - k) _ (hs.drop k) (xs.drop k) rfl (HS2.out _ _ (by with_reducible (repeat (first | exact Ext.rfl_ _ | assumption | refine Ext.drew ?_ | refine Ext.drewN ?_ _ | refine Ext.alloc ?_ _ | refine Ext.trans ?_ (by assumption))))) (by unfold B41; simp <;> omega) (Ext.size (by with_reducible (repeat (first | exact Ext.rfl_ _ | assumption | refine Ext.drew ?_ | refine Ext.drewN ?_ _ | refine Ext.alloc ?_ _ | refine Ext.trans ?_ (by assumption))))) ?_; intro v10 w10 o10 g10 _; have x10 : Ext wr w10 := Ext.growL (show Ext wr _ from (by with_reducible (repeat (first | exact Ext.rfl_ _ | assumption | refine Ext.drew ?_ | refine Ext.drewN ?_ _ | refine Ext.alloc ?_ _ | refine Ext.trans ?_ (by assumption))))) g10 (OwnL.ext (OwnH.ownL o9) (by with_reducible (repeat (first | exact Ext.rfl_ _ | assumption | refine Ext.drew ?_ | refine Ext.drewN ?_ _ | refine Ext.alloc ?_ _ | refine Ext.trans ?_ (by assumption))))) (Nat.le_refl _); clear g10
                refine hK.out _ _ (by (try dsimp only); exact box4 HBZ.out (w' := _) (by with_reducible (repeat (first | exact Ext.rfl_ _ | assumption | refine Ext.drew ?_ | refine Ext.drewN ?_ _ | refine Ext.alloc ?_ _ | refine Ext.trans ?_ (by assumption))))) (fun hHeld => ?_)
                clear hK K
                (try simp only [Act.put, List.getElem_toArray, List.getElem_cons_zero, List.getElem_cons_succ, List.setIfInBounds_toArray, List.set_cons_zero, List.set_cons_succ])
                refine wpAnyH_take (i := 12) (oi := ({ dst := some 4, op := Go.Op.assign (Go.Operand.tmp 51), type := 26, pos := "ref.go:48", after := #[{ on := 11, ground := Go.Ground.data }, { on := 11, ground := Go.Ground.chain }, { on := 0, ground := Go.Ground.phase }, { on := 1, ground := Go.Ground.phase }, { on := 2, ground := Go.Ground.phase }, { on := 3, ground := Go.Ground.phase }, { on := 4, ground := Go.Ground.phase }, { on := 5, ground := Go.Ground.phase }, { on := 6, ground := Go.Ground.phase }, { on := 7, ground := Go.Ground.phase }, { on := 8, ground := Go.Ground.phase }, { on := 9, ground := Go.Ground.phase }, { on := 10, ground := Go.Ground.phase }, { on := 11, ground := Go.Ground.phase }], guard := none } : Go.Oper)) (v := ?v86) rfl (by kernel_rfl) (by kernel_rfl) (by kernel_rfl) (fun _ _ _ h => h) (Or.inl ⟨by rfl, ?hy86⟩) (by assumption) ?rest86
                case hy86 => (intro w hSw; (try dsimp only at hSw); go_simp; (try with_reducible rfl))
                (try simp only [Act.put, List.getElem_toArray, List.getElem_cons_zero, List.getElem_cons_succ, List.setIfInBounds_toArray, List.set_cons_zero, List.set_cons_succ])
                refine wpAnyH_take (i := 13) (oi := ({ dst := some 5, op := Go.Op.assign (Go.Operand.const (Go.Value.int Go.IntKind.i64 0)), type := 3, pos := "ref.go:48", after := #[{ on := 12, ground := Go.Ground.chain }, { on := 0, ground := Go.Ground.phase }, { on := 1, ground := Go.Ground.phase }, { on := 2, ground := Go.Ground.phase }, { on := 3, ground := Go.Ground.phase }, { on := 4, ground := Go.Ground.phase }, { on := 5, ground := Go.Ground.phase }, { on := 6, ground := Go.Ground.phase }, { on := 7, ground := Go.Ground.phase }, { on := 8, ground := Go.Ground.phase }, { on := 9, ground := Go.Ground.phase }, { on := 10, ground := Go.Ground.phase }, { on := 11, ground := Go.Ground.phase }, { on := 12, ground := Go.Ground.phase }], guard := none } : Go.Oper)) (v := ?v87) rfl (by kernel_rfl) (by kernel_rfl) (by kernel_rfl) (fun _ _ _ h => h) (Or.inl ⟨by rfl, ?hy87⟩) (by assumption) ?rest87
                case hy87 => (intro w hSw; (try dsimp only at hSw); go_simp; (try with_reducible rfl))
                (try simp only [Act.put, List.getElem_toArray, List.getElem_cons_zero, List.getElem_cons_succ, List.setIfInBounds_toArray, List.set_cons_zero, List.set_cons_succ])
                refine wpAnyH_done (by kernel_rfl) ?_ _
                all_goals
                  obtain ⟨A', n', c', rfl, hnc', hq⟩ := o10.rdq (Z := fun i => Z i ∨ w.heap.size ≤ i) (by unfold B41; simp <;> omega) (fun hd hm => by
                    simp only [List.nil_append, List.mem_append, List.mem_singleton] at hm
                    rcases hm with (hm | rfl) | hm
                    · have := HZ1.out hd (List.mem_of_mem_take hm); exact ⟨fun hn a ha => .inl (this.1 hn a ha), fun hn a ha => .inl (this.2 hn a ha)⟩
                    · exact hhd
                    · have := HZ1.out hd (List.mem_of_mem_drop hm); exact ⟨fun hn a ha => .inl (this.1 hn a ha), fun hn a ha => .inl (this.2 hn a ha)⟩) (fun i hi => .inr (Nat.le_trans XZ.out.size hi))
                  have HQ := Lib.hid hq
                  have HX10 := Lib.hid (XZ.out.trans (show Ext wr w10 from x10))
                  clear o10 o9 o7 hel hq
                  go_wp2
                  refine bodyPost_ret (v := .tuple #[.slice A' n' c', .int .i64 0]) (by simp [results, Try.f33, go_sem]) rfl ?_
                  rw [insP_end HM.out HE1.out HE2.out]
                  refine ⟨_, _, _, rfl, hnc', ?_, HX10.out.trans (by with_reducible (repeat (first | exact Ext.rfl_ _ | assumption | refine Ext.drew ?_ | refine Ext.drewN ?_ _ | refine Ext.alloc ?_ _ | refine Ext.trans ?_ (by assumption))))⟩
                  have hq2 := HQ.out.ext (show Ext w10 _ from (by with_reducible (repeat (first | exact Ext.rfl_ _ | assumption | refine Ext.drew ?_ | refine Ext.drewN ?_ _ | refine Ext.alloc ?_ _ | refine Ext.trans ?_ (by assumption)))))
                  rw [HT.out, HD.out] at hq2
                  simpa using hq2

            · obtain rfl : n = 0 := by omega
              obtain rfl : k = 0 := HKN.out
              clear hn0
              obtain rfl : xs = [] := List.eq_nil_of_length_eq_zero hxl
              cases A with
              | none =>
                go_wp2
                obtain ⟨hs, hl1, _, hB1, hc1, hr1, hz1⟩ := HL.out
                have hkx : 0 ≤ ([] : List Ent).length := by omega
                have hS1 : ∀ w', Ext wr w' → RdH w' wr.heap.size (none) 0 (hs.take 0) (([] : List Ent).take 0) := by
                  intro w' e
                  refine ⟨by simp [hl1], by simp <;> omega, by unfold B41; omega, fun hn => ?_, fun i i1 i2 => ?_⟩
                  · first
                    | exact absurd hn (by omega)
                    | obtain ⟨b', o', e', _, hc⟩ := hc1 (by omega)
                      cases e'
                      exact ⟨_, _, rfl, fun j u hu => (XZ.out.trans e).keeps _ _ _ (hc j u (rowE_take hl1 0 hkx j u hu))⟩
                  · simp only [List.length_take] at i1 i2
                    have he := hr1 i (by omega) (by omega)
                    have hd := he.hdr
                    rw [List.getElem_take, List.getElem_take]
                    exact ⟨he.ext (XZ.out.trans e), Apt.low _ hd.1 XZ.out.size, Apt.low _ hd.2 XZ.out.size⟩
                have hS2 : ∀ w' (QA : Option Addr), Ext wr w' → RdH w' wr.heap.size (QA) (0 - 0) (hs.drop 0) (([] : List Ent).drop 0) := by
                  intro w' QA e
                  refine ⟨by simp [hl1], by simp <;> omega, by unfold B41; omega, fun hn => ?_, fun i i1 i2 => ?_⟩
                  · first
                    | exact absurd hn (by omega)
                    | obtain ⟨b', o', e', _, hc⟩ := hc1 (by omega)
                      cases e'
                      exact ⟨_, _, rfl, fun j u hu => by exact (XZ.out.trans e).keeps _ _ _ (hc _ u (rowE_drop hl1 0 hkx j u hu))⟩
                  · simp only [List.length_drop] at i1 i2
                    have he := hr1 (0 + i) (by omega) (by omega)
                    have hd := he.hdr
                    rw [List.getElem_drop, List.getElem_drop]
                    exact ⟨he.ext (XZ.out.trans e), Apt.low _ hd.1 XZ.out.size, Apt.low _ hd.2 XZ.out.size⟩
                have HS1 := Lib.hid hS1
                have HS2 := Lib.hid hS2
                have HZ1 := Lib.hid hz1
                clear hS1 hS2 hl1 hB1 hc1 hr1 hz1
                have hkI : (0 : Int) ≤ (c : Int) := by omega
                have hkn : (0 : Int) ≤ (0 : Int) := by omega
                have hncI2 : (0 : Int) ≤ (c : Int) := by omega
                refine wp_region_held_drew (S := (fun w' => w'.cell? ⟨w.heap.size, 0, none⟩ = some (.slice Ae ne ce) ∧ w'.cell? ⟨w.heap.size, 1, none⟩ = some (.int .i64 x.seq) ∧ w'.cell? ⟨w.heap.size, 2, none⟩ = some (.int .i64 x.kind) ∧ w'.cell? ⟨w.heap.size, 3, none⟩ = some (.slice Be me de) ∧ w'.frozen? ⟨w.heap.size, 0, none⟩ = false ∧ w'.frozen? ⟨w.heap.size, 1, none⟩ = false ∧ w'.frozen? ⟨w.heap.size, 2, none⟩ = false ∧ w'.frozen? ⟨w.heap.size, 3, none⟩ = false)) (by kernel_rfl) (by (try dsimp only); exact box4 HBZ.out (w' := _) (by with_reducible (repeat (first | exact Ext.rfl_ _ | assumption | refine Ext.drew ?_ | refine Ext.drewN ?_ _ | refine Ext.alloc ?_ _ | refine Ext.trans ?_ (by assumption))))) (fun hHeld => ?_)
                refine wpAnyH_take (i := 0) (oi := ({ dst := some 40, op := Go.Op.move (Go.Operand.tmp 0), type := 26, pos := "ref.go:48", after := #[], guard := none } : Go.Oper)) (v := ?v88) rfl (by kernel_rfl) (by kernel_rfl) (by kernel_rfl) (fun _ _ _ h => h) (Or.inl ⟨by rfl, ?hy88⟩) (by assumption) ?rest88
                case hy88 => (intro w hSw; (try dsimp only at hSw); go_simp; (try with_reducible rfl))
                (try simp only [Act.put, List.getElem_toArray, List.getElem_cons_zero, List.getElem_cons_succ, List.setIfInBounds_toArray, List.set_cons_zero, List.set_cons_succ])
                refine wpAnyH_take (i := 1) (oi := ({ dst := some 41, op := Go.Op.move (Go.Operand.tmp 6), type := 3, pos := "ref.go:48", after := #[], guard := none } : Go.Oper)) (v := ?v89) rfl (by kernel_rfl) (by kernel_rfl) (by kernel_rfl) (fun _ _ _ h => h) (Or.inl ⟨by rfl, ?hy89⟩) (by assumption) ?rest89
                case hy89 => (intro w hSw; (try dsimp only at hSw); go_simp; (try with_reducible rfl))
                (try simp only [Act.put, List.getElem_toArray, List.getElem_cons_zero, List.getElem_cons_succ, List.setIfInBounds_toArray, List.set_cons_zero, List.set_cons_succ])
                refine wpAnyH_take (i := 2) (oi := ({ dst := some 42, op := Go.Op.slice 26 (Go.Operand.tmp 40) none (some (Go.Operand.tmp 41)) none, type := 26, pos := "ref.go:48", after := #[{ on := 0, ground := Go.Ground.data }, { on := 1, ground := Go.Ground.data }], guard := none } : Go.Oper)) (v := ?v90) rfl (by kernel_rfl) (by kernel_rfl) (by kernel_rfl) (fun _ _ _ h => h) (Or.inl ⟨by rfl, ?hy90⟩) (by assumption) ?rest90
                case hy90 => (intro w hSw; (try dsimp only at hSw); go_simp; (try with_reducible rfl))
                (try simp only [Act.put, List.getElem_toArray, List.getElem_cons_zero, List.getElem_cons_succ, List.setIfInBounds_toArray, List.set_cons_zero, List.set_cons_succ])
                refine wpAnyH_take (i := 4) (oi := ({ dst := some 44, op := Go.Op.load 40 (Go.Operand.tmp 3), type := 40, pos := "ref.go:48", after := #[], guard := none } : Go.Oper)) (v := ?v91) rfl (by kernel_rfl) (by kernel_rfl) (by kernel_rfl) (fun _ _ _ h => h) (Or.inl ⟨by rfl, ?hy91⟩) (by assumption) ?rest91
                case hy91 => (intro w hSw; (try dsimp only at hSw); go_simp; (try with_reducible rfl))
                (try simp only [Act.put, List.getElem_toArray, List.getElem_cons_zero, List.getElem_cons_succ, List.setIfInBounds_toArray, List.set_cons_zero, List.set_cons_succ])
                refine wpAnyH_take (i := 8) (oi := ({ dst := some 48, op := Go.Op.move (Go.Operand.tmp 0), type := 26, pos := "ref.go:48", after := #[], guard := none } : Go.Oper)) (v := ?v92) rfl (by kernel_rfl) (by kernel_rfl) (by kernel_rfl) (fun _ _ _ h => h) (Or.inl ⟨by rfl, ?hy92⟩) (by assumption) ?rest92
                case hy92 => (intro w hSw; (try dsimp only at hSw); go_simp; (try with_reducible rfl))
                (try simp only [Act.put, List.getElem_toArray, List.getElem_cons_zero, List.getElem_cons_succ, List.setIfInBounds_toArray, List.set_cons_zero, List.set_cons_succ])
                refine wpAnyH_take (i := 9) (oi := ({ dst := some 49, op := Go.Op.move (Go.Operand.tmp 6), type := 3, pos := "ref.go:48", after := #[], guard := none } : Go.Oper)) (v := ?v93) rfl (by kernel_rfl) (by kernel_rfl) (by kernel_rfl) (fun _ _ _ h => h) (Or.inl ⟨by rfl, ?hy93⟩) (by assumption) ?rest93
                case hy93 => (intro w hSw; (try dsimp only at hSw); go_simp; (try with_reducible rfl))
                (try simp only [Act.put, List.getElem_toArray, List.getElem_cons_zero, List.getElem_cons_succ, List.setIfInBounds_toArray, List.set_cons_zero, List.set_cons_succ])
                refine wpAnyH_take (i := 10) (oi := ({ dst := some 50, op := Go.Op.slice 26 (Go.Operand.tmp 48) (some (Go.Operand.tmp 49)) none none, type := 26, pos := "ref.go:48", after := #[{ on := 8, ground := Go.Ground.data }, { on := 9, ground := Go.Ground.data }], guard := none } : Go.Oper)) (v := ?v94) rfl (by kernel_rfl) (by kernel_rfl) (by kernel_rfl) (fun _ _ _ h => h) (Or.inl ⟨by rfl, ?hy94⟩) (by assumption) ?rest94
                case hy94 => (intro w hSw; (try dsimp only at hSw); go_simp; (try with_reducible rfl))
                (try simp only [Act.put, List.getElem_toArray, List.getElem_cons_zero, List.getElem_cons_succ, List.setIfInBounds_toArray, List.set_cons_zero, List.set_cons_succ])
                refine wpAnyH_ready (rs := [3]) (by kernel_rfl) (by simp) ?_
                refine AllReadyH.cons (o := ({ dst := some 43, op := Go.Op.call { callee := Go.Callee.builtin Go.Builtin.append, args := #[Go.Operand.const (Go.Value.slice none 0 0), Go.Operand.tmp 42], argTypes := #[26, 26] }, type := 26, pos := "ref.go:48", after := #[{ on := 2, ground := Go.Ground.data }], guard := none } : Go.Oper)) rfl (fun K hK => ?_) AllReadyH.nil
                refine step_appH rfl _ _ rfl wr.heap.size (.slice none 0 0) [] [] rfl (OwnH.nil _ _) (none) 0 _ (hs.take 0) (([] : List Ent).take 0) rfl (HS1.out _ (by with_reducible (repeat (first | exact Ext.rfl_ _ | assumption | refine Ext.drew ?_ | refine Ext.drewN ?_ _ | refine Ext.alloc ?_ _ | refine Ext.trans ?_ (by assumption))))) (by unfold B41; simp <;> omega) (Ext.size (by with_reducible (repeat (first | exact Ext.rfl_ _ | assumption | refine Ext.drew ?_ | refine Ext.drewN ?_ _ | refine Ext.alloc ?_ _ | refine Ext.trans ?_ (by assumption))))) ?_; intro v7 w7 o7 g7 _; have x7 : Ext wr w7 := Ext.growL (show Ext wr _ from (by with_reducible (repeat (first | exact Ext.rfl_ _ | assumption | refine Ext.drew ?_ | refine Ext.drewN ?_ _ | refine Ext.alloc ?_ _ | refine Ext.trans ?_ (by assumption))))) g7 (OwnH.ownL (OwnH.nil _ _)) (Nat.le_refl _); clear g7
                refine hK.out _ _ (by (try dsimp only); exact box4 HBZ.out (w' := _) (by with_reducible (repeat (first | exact Ext.rfl_ _ | assumption | refine Ext.drew ?_ | refine Ext.drewN ?_ _ | refine Ext.alloc ?_ _ | refine Ext.trans ?_ (by assumption))))) (fun hHeld => ?_)
                clear hK K
                (try simp only [Act.put, List.getElem_toArray, List.getElem_cons_zero, List.getElem_cons_succ, List.setIfInBounds_toArray, List.set_cons_zero, List.set_cons_succ])
                refine wpAnyH_ready (rs := [5]) (by kernel_rfl) (by simp) ?_
                refine AllReadyH.cons (o := ({ dst := some 45, op := Go.Op.call { callee := Go.Callee.value (Go.Operand.func 39), args := #[Go.Operand.tmp 44], argTypes := #[40] }, type := 40, pos := "ref.go:48", after := #[{ on := 4, ground := Go.Ground.data }, { on := 3, ground := Go.Ground.chain }], guard := none } : Go.Oper)) rfl (fun K hK => ?_) AllReadyH.nil
                go_simp
                refine (rcopy_any _ x _ ?_).mono ?_; exact (HX.out.ext (XZ.out.trans (by with_reducible (repeat (first | exact Ext.rfl_ _ | assumption | refine Ext.drew ?_ | refine Ext.drewN ?_ _ | refine Ext.alloc ?_ _ | refine Ext.trans ?_ (by assumption)))))); rintro e w8 ⟨v8, rfl, f8, hw8⟩; obtain ⟨A8, n8, c8, B8, m8, d8, rfl, u1, u2, u3, u4, u5, u6, u7, u8, u9, u10⟩ := f8; have hel : Elt w8 wr.heap.size ⟨A8, n8, c8, B8, m8, d8⟩ x := ⟨⟨_, _, _, _, _, _, rfl, u3, u4, u5, u6, u7, u8⟩, Apt.own u1, Apt.own u2⟩; have hhd : HdZ (fun i => Z i ∨ w.heap.size ≤ i) ⟨A8, n8, c8, B8, m8, d8⟩ := ⟨fun hn a ha => .inr (Nat.le_trans (Ext.size (XZ.out.trans (show Ext wr _ from (by with_reducible (repeat (first | exact Ext.rfl_ _ | assumption | refine Ext.drew ?_ | refine Ext.drewN ?_ _ | refine Ext.alloc ?_ _ | refine Ext.trans ?_ (by assumption))))))) (u9 hn a ha)), fun hn a ha => .inr (Nat.le_trans (Ext.size (XZ.out.trans (show Ext wr _ from (by with_reducible (repeat (first | exact Ext.rfl_ _ | assumption | refine Ext.drew ?_ | refine Ext.drewN ?_ _ | refine Ext.alloc ?_ _ | refine Ext.trans ?_ (by assumption))))))) (u10 hn a ha))⟩; clear u1 u2 u3 u4 u5 u6 u7 u8 u9 u10
                (try (go_wp2_with fail))
                refine hK.out _ _ (by (try dsimp only); exact box4 HBZ.out (w' := _) (by with_reducible (repeat (first | exact Ext.rfl_ _ | assumption | refine Ext.drew ?_ | refine Ext.drewN ?_ _ | refine Ext.alloc ?_ _ | refine Ext.trans ?_ (by assumption))))) (fun hHeld => ?_)
                clear hK K
                (try simp only [Act.put, List.getElem_toArray, List.getElem_cons_zero, List.getElem_cons_succ, List.setIfInBounds_toArray, List.set_cons_zero, List.set_cons_succ])
                refine wpAnyH_ready (rs := [6]) (by kernel_rfl) (by simp) ?_
                refine AllReadyH.cons (o := ({ dst := some 46, op := Go.Op.buildSlice 26 1 #[(0, Go.Operand.tmp 45)], type := 26, pos := "ref.go:48", after := #[{ on := 5, ground := Go.Ground.data }], guard := none } : Go.Oper)) rfl (fun K hK => ?_) AllReadyH.nil
                go_simp
                refine hK.out _ _ (by (try dsimp only); exact box4 HBZ.out (w' := _) (by with_reducible (repeat (first | exact Ext.rfl_ _ | assumption | refine Ext.drew ?_ | refine Ext.drewN ?_ _ | refine Ext.alloc ?_ _ | refine Ext.trans ?_ (by assumption))))) (fun hHeld => ?_)
                clear hK K
                (try simp only [Act.put, List.getElem_toArray, List.getElem_cons_zero, List.getElem_cons_succ, List.setIfInBounds_toArray, List.set_cons_zero, List.set_cons_succ])
                refine wpAnyH_ready (rs := [7]) (by kernel_rfl) (by simp) ?_
                refine AllReadyH.cons (o := ({ dst := some 47, op := Go.Op.call { callee := Go.Callee.builtin Go.Builtin.append, args := #[Go.Operand.tmp 43, Go.Operand.tmp 46], argTypes := #[26, 26] }, type := 26, pos := "ref.go:48", after := #[{ on := 3, ground := Go.Ground.data }, { on := 6, ground := Go.Ground.data }, { on := 5, ground := Go.Ground.chain }], guard := none } : Go.Oper)) rfl (fun K hK => ?_) AllReadyH.nil
                refine step_appH rfl _ _ rfl wr.heap.size v7 _ _ rfl (o7.ext (by with_reducible (repeat (first | exact Ext.rfl_ _ | assumption | refine Ext.drew ?_ | refine Ext.drewN ?_ _ | refine Ext.alloc ?_ _ | refine Ext.trans ?_ (by assumption))))) (some ⟨w8.heap.size, 0, none⟩) 1 1 [⟨A8, n8, c8, B8, m8, d8⟩] [x] rfl (RdH.ext (RdH.one (w := w8) 40 hel) (by with_reducible (repeat (first | exact Ext.rfl_ _ | assumption | refine Ext.drew ?_ | refine Ext.drewN ?_ _ | refine Ext.alloc ?_ _ | refine Ext.trans ?_ (by assumption))))) (by unfold B41; simp <;> omega) (Ext.size (by with_reducible (repeat (first | exact Ext.rfl_ _ | assumption | refine Ext.drew ?_ | refine Ext.drewN ?_ _ | refine Ext.alloc ?_ _ | refine Ext.trans ?_ (by assumption))))) ?_; intro v9 w9 o9 g9 _; have x9 : Ext wr w9 := Ext.growL (show Ext wr _ from (by with_reducible (repeat (first | exact Ext.rfl_ _ | assumption | refine Ext.drew ?_ | refine Ext.drewN ?_ _ | refine Ext.alloc ?_ _ | refine Ext.trans ?_ (by assumption))))) g9 (OwnL.ext (OwnH.ownL o7) (by with_reducible (repeat (first | exact Ext.rfl_ _ | assumption | refine Ext.drew ?_ | refine Ext.drewN ?_ _ | refine Ext.alloc ?_ _ | refine Ext.trans ?_ (by assumption))))) (Nat.le_refl _); clear g9
                refine hK.out _ _ (by (try dsimp only); exact box4 HBZ.out (w' := _) (by with_reducible (repeat (first | exact Ext.rfl_ _ | assumption | refine Ext.drew ?_ | refine Ext.drewN ?_ _ | refine Ext.alloc ?_ _ | refine Ext.trans ?_ (by assumption))))) (fun hHeld => ?_)
                clear hK K
                (try simp only [Act.put, List.getElem_toArray, List.getElem_cons_zero, List.getElem_cons_succ, List.setIfInBounds_toArray, List.set_cons_zero, List.set_cons_succ])
                refine wpAnyH_ready (rs := [11]) (by kernel_rfl) (by simp) ?_
                refine AllReadyH.cons (o := ({ dst := some 51, op := Go.Op.call { callee := Go.Callee.builtin Go.Builtin.append, args := #[Go.Operand.tmp 47, Go.Operand.tmp 50], argTypes := #[26, 26] }, type := 26, pos := "ref.go:48", after := #[{ on := 7, ground := Go.Ground.data }, { on := 10, ground := Go.Ground.data }, { on := 7, ground := Go.Ground.chain }], guard := none } : Go.Oper)) rfl (fun K hK => ?_) AllReadyH.nil
                refine step_appH rfl _ _ rfl wr.heap.size v9 _ _ rfl (o9.ext (by with_reducible (repeat (first | exact Ext.rfl_ _ | assumption | refine Ext.drew ?_ | refine Ext.drewN ?_ _ | refine Ext.alloc ?_ _ | refine Ext.trans ?_ (by assumption))))) (_) (0 - 0) _ (hs.drop 0) (([] : List Ent).drop 0) rfl (HS2.out _ _ (by with_reducible (repeat (first | exact Ext.rfl_ _ | assumption | refine Ext.drew ?_ | refine Ext.drewN ?_ _ | refine Ext.alloc ?_ _ | refine Ext.trans ?_ (by assumption))))) (by unfold B41; simp <;> omega) (Ext.size (by with_reducible (repeat (first | exact Ext.rfl_ _ | assumption | refine Ext.drew ?_ | refine Ext.drewN ?_ _ | refine Ext.alloc ?_ _ | refine Ext.trans ?_ (by assumption))))) ?_; intro v10 w10 o10 g10 _; have x10 : Ext wr w10 := Ext.growL (show Ext wr _ from (by with_reducible (repeat (first | exact Ext.rfl_ _ | assumption | refine Ext.drew ?_ | refine Ext.drewN ?_ _ | refine Ext.alloc ?_ _ | refine Ext.trans ?_ (by assumption))))) g10 (OwnL.ext (OwnH.ownL o9) (by with_reducible (repeat (first | exact Ext.rfl_ _ | assumption | refine Ext.drew ?_ | refine Ext.drewN ?_ _ | refine Ext.alloc ?_ _ | refine Ext.trans ?_ (by assumption))))) (Nat.le_refl _); clear g10
                refine hK.out _ _ (by (try dsimp only); exact box4 HBZ.out (w' := _) (by with_reducible (repeat (first | exact Ext.rfl_ _ | assumption | refine Ext.drew ?_ | refine Ext.drewN ?_ _ | refine Ext.alloc ?_ _ | refine Ext.trans ?_ (by assumption))))) (fun hHeld => ?_)
                clear hK K
                (try simp only [Act.put, List.getElem_toArray, List.getElem_cons_zero, List.getElem_cons_succ, List.setIfInBounds_toArray, List.set_cons_zero, List.set_cons_succ])
                refine wpAnyH_take (i := 12) (oi := ({ dst := some 4, op := Go.Op.assign (Go.Operand.tmp 51), type := 26, pos := "ref.go:48", after := #[{ on := 11, ground := Go.Ground.data }, { on := 11, ground := Go.Ground.chain }, { on := 0, ground := Go.Ground.phase }, { on := 1, ground := Go.Ground.phase }, { on := 2, ground := Go.Ground.phase }, { on := 3, ground := Go.Ground.phase }, { on := 4, ground := Go.Ground.phase }, { on := 5, ground := Go.Ground.phase }, { on := 6, ground := Go.Ground.phase }, { on := 7, ground := Go.Ground.phase }, { on := 8, ground := Go.Ground.phase }, { on := 9, ground := Go.Ground.phase }, { on := 10, ground := Go.Ground.phase }, { on := 11, ground := Go.Ground.phase }], guard := none } : Go.Oper)) (v := ?v95) rfl (by kernel_rfl) (by kernel_rfl) (by kernel_rfl) (fun _ _ _ h => h) (Or.inl ⟨by rfl, ?hy95⟩) (by assumption) ?rest95
                case hy95 => (intro w hSw; (try dsimp only at hSw); go_simp; (try with_reducible rfl))
                (try simp only [Act.put, List.getElem_toArray, List.getElem_cons_zero, List.getElem_cons_succ, List.setIfInBounds_toArray, List.set_cons_zero, List.set_cons_succ])
                refine wpAnyH_take (i := 13) (oi := ({ dst := some 5, op := Go.Op.assign (Go.Operand.const (Go.Value.int Go.IntKind.i64 0)), type := 3, pos := "ref.go:48", after := #[{ on := 12, ground := Go.Ground.chain }, { on := 0, ground := Go.Ground.phase }, { on := 1, ground := Go.Ground.phase }, { on := 2, ground := Go.Ground.phase }, { on := 3, ground := Go.Ground.phase }, { on := 4, ground := Go.Ground.phase }, { on := 5, ground := Go.Ground.phase }, { on := 6, ground := Go.Ground.phase }, { on := 7, ground := Go.Ground.phase }, { on := 8, ground := Go.Ground.phase }, { on := 9, ground := Go.Ground.phase }, { on := 10, ground := Go.Ground.phase }, { on := 11, ground := Go.Ground.phase }, { on := 12, ground := Go.Ground.phase }], guard := none } : Go.Oper)) (v := ?v96) rfl (by kernel_rfl) (by kernel_rfl) (by kernel_rfl) (fun _ _ _ h => h) (Or.inl ⟨by rfl, ?hy96⟩) (by assumption) ?rest96
                case hy96 => (intro w hSw; (try dsimp only at hSw); go_simp; (try with_reducible rfl))
                (try simp only [Act.put, List.getElem_toArray, List.getElem_cons_zero, List.getElem_cons_succ, List.setIfInBounds_toArray, List.set_cons_zero, List.set_cons_succ])
                refine wpAnyH_done (by kernel_rfl) ?_ _
                all_goals
                  obtain ⟨A', n', c', rfl, hnc', hq⟩ := o10.rdq (Z := fun i => Z i ∨ w.heap.size ≤ i) (by unfold B41; simp <;> omega) (fun hd hm => by
                    simp only [List.nil_append, List.mem_append, List.mem_singleton] at hm
                    rcases hm with (hm | rfl) | hm
                    · have := HZ1.out hd (List.mem_of_mem_take hm); exact ⟨fun hn a ha => .inl (this.1 hn a ha), fun hn a ha => .inl (this.2 hn a ha)⟩
                    · exact hhd
                    · have := HZ1.out hd (List.mem_of_mem_drop hm); exact ⟨fun hn a ha => .inl (this.1 hn a ha), fun hn a ha => .inl (this.2 hn a ha)⟩) (fun i hi => .inr (Nat.le_trans XZ.out.size hi))
                  have HQ := Lib.hid hq
                  have HX10 := Lib.hid (XZ.out.trans (show Ext wr w10 from x10))
                  clear o10 o9 o7 hel hq
                  go_wp2
                  refine bodyPost_ret (v := .tuple #[.slice A' n' c', .int .i64 0]) (by simp [results, Try.f33, go_sem]) rfl ?_
                  rw [insP_end HM.out HE1.out HE2.out]
                  refine ⟨_, _, _, rfl, hnc', ?_, HX10.out.trans (by with_reducible (repeat (first | exact Ext.rfl_ _ | assumption | refine Ext.drew ?_ | refine Ext.drewN ?_ _ | refine Ext.alloc ?_ _ | refine Ext.trans ?_ (by assumption))))⟩
                  have hq2 := HQ.out.ext (show Ext w10 _ from (by with_reducible (repeat (first | exact Ext.rfl_ _ | assumption | refine Ext.drew ?_ | refine Ext.drewN ?_ _ | refine Ext.alloc ?_ _ | refine Ext.trans ?_ (by assumption)))))
                  rw [HT.out, HD.out] at hq2
                  simpa using hq2

              | some ad =>
                go_wp2
                obtain ⟨hs, hl1, _, hB1, hc1, hr1, hz1⟩ := HL.out
                have hkx : 0 ≤ ([] : List Ent).length := by omega
                have hS1 : ∀ w', Ext wr w' → RdH w' wr.heap.size (some ad) 0 (hs.take 0) (([] : List Ent).take 0) := by
                  intro w' e
                  refine ⟨by simp [hl1], by simp <;> omega, by unfold B41; omega, fun hn => ?_, fun i i1 i2 => ?_⟩
                  · first
                    | exact absurd hn (by omega)
                    | obtain ⟨b', o', e', _, hc⟩ := hc1 (by omega)
                      cases e'
                      exact ⟨_, _, rfl, fun j u hu => (XZ.out.trans e).keeps _ _ _ (hc j u (rowE_take hl1 0 hkx j u hu))⟩
                  · simp only [List.length_take] at i1 i2
                    have he := hr1 i (by omega) (by omega)
                    have hd := he.hdr
                    rw [List.getElem_take, List.getElem_take]
                    exact ⟨he.ext (XZ.out.trans e), Apt.low _ hd.1 XZ.out.size, Apt.low _ hd.2 XZ.out.size⟩
                have hS2 : ∀ w' (QA : Option Addr), Ext wr w' → RdH w' wr.heap.size (QA) (0 - 0) (hs.drop 0) (([] : List Ent).drop 0) := by
                  intro w' QA e
                  refine ⟨by simp [hl1], by simp <;> omega, by unfold B41; omega, fun hn => ?_, fun i i1 i2 => ?_⟩
                  · first
                    | exact absurd hn (by omega)
                    | obtain ⟨b', o', e', _, hc⟩ := hc1 (by omega)
                      cases e'
                      exact ⟨_, _, rfl, fun j u hu => by exact (XZ.out.trans e).keeps _ _ _ (hc _ u (rowE_drop hl1 0 hkx j u hu))⟩
                  · simp only [List.length_drop] at i1 i2
                    have he := hr1 (0 + i) (by omega) (by omega)
                    have hd := he.hdr
                    rw [List.getElem_drop, List.getElem_drop]
                    exact ⟨he.ext (XZ.out.trans e), Apt.low _ hd.1 XZ.out.size, Apt.low _ hd.2 XZ.out.size⟩
                have HS1 := Lib.hid hS1
                have HS2 := Lib.hid hS2
                have HZ1 := Lib.hid hz1
                clear hS1 hS2 hl1 hB1 hc1 hr1 hz1
                have hkI : (0 : Int) ≤ (c : Int) := by omega
                have hkn : (0 : Int) ≤ (0 : Int) := by omega
                have hncI2 : (0 : Int) ≤ (c : Int) := by omega
                refine wp_region_held_drew (S := (fun w' => w'.cell? ⟨w.heap.size, 0, none⟩ = some (.slice Ae ne ce) ∧ w'.cell? ⟨w.heap.size, 1, none⟩ = some (.int .i64 x.seq) ∧ w'.cell? ⟨w.heap.size, 2, none⟩ = some (.int .i64 x.kind) ∧ w'.cell? ⟨w.heap.size, 3, none⟩ = some (.slice Be me de) ∧ w'.frozen? ⟨w.heap.size, 0, none⟩ = false ∧ w'.frozen? ⟨w.heap.size, 1, none⟩ = false ∧ w'.frozen? ⟨w.heap.size, 2, none⟩ = false ∧ w'.frozen? ⟨w.heap.size, 3, none⟩ = false)) (by kernel_rfl) (by (try dsimp only); exact box4 HBZ.out (w' := _) (by with_reducible (repeat (first | exact Ext.rfl_ _ | assumption | refine Ext.drew ?_ | refine Ext.drewN ?_ _ | refine Ext.alloc ?_ _ | refine Ext.trans ?_ (by assumption))))) (fun hHeld => ?_)
                refine wpAnyH_take (i := 0) (oi := ({ dst := some 40, op := Go.Op.move (Go.Operand.tmp 0), type := 26, pos := "ref.go:48", after := #[], guard := none } : Go.Oper)) (v := ?v97) rfl (by kernel_rfl) (by kernel_rfl) (by kernel_rfl) (fun _ _ _ h => h) (Or.inl ⟨by rfl, ?hy97⟩) (by assumption) ?rest97
                case hy97 => (intro w hSw; (try dsimp only at hSw); go_simp; (try with_reducible rfl))
                (try simp only [Act.put, List.getElem_toArray, List.getElem_cons_zero, List.getElem_cons_succ, List.setIfInBounds_toArray, List.set_cons_zero, List.set_cons_succ])
                refine wpAnyH_take (i := 1) (oi := ({ dst := some 41, op := Go.Op.move (Go.Operand.tmp 6), type := 3, pos := "ref.go:48", after := #[], guard := none } : Go.Oper)) (v := ?v98) rfl (by kernel_rfl) (by kernel_rfl) (by kernel_rfl) (fun _ _ _ h => h) (Or.inl ⟨by rfl, ?hy98⟩) (by assumption) ?rest98
                case hy98 => (intro w hSw; (try dsimp only at hSw); go_simp; (try with_reducible rfl))
                (try simp only [Act.put, List.getElem_toArray, List.getElem_cons_zero, List.getElem_cons_succ, List.setIfInBounds_toArray, List.set_cons_zero, List.set_cons_succ])
                refine wpAnyH_take (i := 2) (oi := ({ dst := some 42, op := Go.Op.slice 26 (Go.Operand.tmp 40) none (some (Go.Operand.tmp 41)) none, type := 26, pos := "ref.go:48", after := #[{ on := 0, ground := Go.Ground.data }, { on := 1, ground := Go.Ground.data }], guard := none } : Go.Oper)) (v := ?v99) rfl (by kernel_rfl) (by kernel_rfl) (by kernel_rfl) (fun _ _ _ h => h) (Or.inl ⟨by rfl, ?hy99⟩) (by assumption) ?rest99
                case hy99 => (intro w hSw; (try dsimp only at hSw); go_simp; (try with_reducible rfl))
                (try simp only [Act.put, List.getElem_toArray, List.getElem_cons_zero, List.getElem_cons_succ, List.setIfInBounds_toArray, List.set_cons_zero, List.set_cons_succ])
                refine wpAnyH_take (i := 4) (oi := ({ dst := some 44, op := Go.Op.load 40 (Go.Operand.tmp 3), type := 40, pos := "ref.go:48", after := #[], guard := none } : Go.Oper)) (v := ?v100) rfl (by kernel_rfl) (by kernel_rfl) (by kernel_rfl) (fun _ _ _ h => h) (Or.inl ⟨by rfl, ?hy100⟩) (by assumption) ?rest100
                case hy100 => (intro w hSw; (try dsimp only at hSw); go_simp; (try with_reducible rfl))
                (try simp only [Act.put, List.getElem_toArray, List.getElem_cons_zero, List.getElem_cons_succ, List.setIfInBounds_toArray, List.set_cons_zero, List.set_cons_succ])
                refine wpAnyH_take (i := 8) (oi := ({ dst := some 48, op := Go.Op.move (Go.Operand.tmp 0), type := 26, pos := "ref.go:48", after := #[], guard := none } : Go.Oper)) (v := ?v101) rfl (by kernel_rfl) (by kernel_rfl) (by kernel_rfl) (fun _ _ _ h => h) (Or.inl ⟨by rfl, ?hy101⟩) (by assumption) ?rest101
                case hy101 => (intro w hSw; (try dsimp only at hSw); go_simp; (try with_reducible rfl))
                (try simp only [Act.put, List.getElem_toArray, List.getElem_cons_zero, List.getElem_cons_succ, List.setIfInBounds_toArray, List.set_cons_zero, List.set_cons_succ])
                refine wpAnyH_take (i := 9) (oi := ({ dst := some 49, op := Go.Op.move (Go.Operand.tmp 6), type := 3, pos := "ref.go:48", after := #[], guard := none } : Go.Oper)) (v := ?v102) rfl (by kernel_rfl) (by kernel_rfl) (by kernel_rfl) (fun _ _ _ h => h) (Or.inl ⟨by rfl, ?hy102⟩) (by assumption) ?rest102
                case hy102 => (intro w hSw; (try dsimp only at hSw); go_simp; (try with_reducible rfl))
                (try simp only [Act.put, List.getElem_toArray, List.getElem_cons_zero, List.getElem_cons_succ, List.setIfInBounds_toArray, List.set_cons_zero, List.set_cons_succ])
                refine wpAnyH_take (i := 10) (oi := ({ dst := some 50, op := Go.Op.slice 26 (Go.Operand.tmp 48) (some (Go.Operand.tmp 49)) none none, type := 26, pos := "ref.go:48", after := #[{ on := 8, ground := Go.Ground.data }, { on := 9, ground := Go.Ground.data }], guard := none } : Go.Oper)) (v := ?v103) rfl (by kernel_rfl) (by kernel_rfl) (by kernel_rfl) (fun _ _ _ h => h) (Or.inl ⟨by rfl, ?hy103⟩) (by assumption) ?rest103
                case hy103 => (intro w hSw; (try dsimp only at hSw); go_simp; (try with_reducible rfl))
                (try simp only [Act.put, List.getElem_toArray, List.getElem_cons_zero, List.getElem_cons_succ, List.setIfInBounds_toArray, List.set_cons_zero, List.set_cons_succ])
                refine wpAnyH_ready (rs := [3]) (by kernel_rfl) (by simp) ?_
                refine AllReadyH.cons (o := ({ dst := some 43, op := Go.Op.call { callee := Go.Callee.builtin Go.Builtin.append, args := #[Go.Operand.const (Go.Value.slice none 0 0), Go.Operand.tmp 42], argTypes := #[26, 26] }, type := 26, pos := "ref.go:48", after := #[{ on := 2, ground := Go.Ground.data }], guard := none } : Go.Oper)) rfl (fun K hK => ?_) AllReadyH.nil
                refine step_appH rfl _ _ rfl wr.heap.size (.slice none 0 0) [] [] rfl (OwnH.nil _ _) (some ad) 0 _ (hs.take 0) (([] : List Ent).take 0) rfl (HS1.out _ (by with_reducible (repeat (first | exact Ext.rfl_ _ | assumption | refine Ext.drew ?_ | refine Ext.drewN ?_ _ | refine Ext.alloc ?_ _ | refine Ext.trans ?_ (by assumption))))) (by unfold B41; simp <;> omega) (Ext.size (by with_reducible (repeat (first | exact Ext.rfl_ _ | assumption | refine Ext.drew ?_ | refine Ext.drewN ?_ _ | refine Ext.alloc ?_ _ | refine Ext.trans ?_ (by assumption))))) ?_; intro v7 w7 o7 g7 _; have x7 : Ext wr w7 := Ext.growL (show Ext wr _ from (by with_reducible (repeat (first | exact Ext.rfl_ _ | assumption | refine Ext.drew ?_ | refine Ext.drewN ?_ _ | refine Ext.alloc ?_ _ | refine Ext.trans ?_ (by assumption))))) g7 (OwnH.ownL (OwnH.nil _ _)) (Nat.le_refl _); clear g7
                refine hK.out _ _ (by (try dsimp only); exact box4 HBZ.out (w' := _) (by with_reducible (repeat (first | exact Ext.rfl_ _ | assumption | refine Ext.drew ?_ | refine Ext.drewN ?_ _ | refine Ext.alloc ?_ _ | refine Ext.trans ?_ (by assumption))))) (fun hHeld => ?_)
                clear hK K
                (try simp only [Act.put, List.getElem_toArray, List.getElem_cons_zero, List.getElem_cons_succ, List.setIfInBounds_toArray, List.set_cons_zero, List.set_cons_succ])
                refine wpAnyH_ready (rs := [5]) (by kernel_rfl) (by simp) ?_
                refine AllReadyH.cons (o := ({ dst := some 45, op := Go.Op.call { callee := Go.Callee.value (Go.Operand.func 39), args := #[Go.Operand.tmp 44], argTypes := #[40] }, type := 40, pos := "ref.go:48", after := #[{ on := 4, ground := Go.Ground.data }, { on := 3, ground := Go.Ground.chain }], guard := none } : Go.Oper)) rfl (fun K hK => ?_) AllReadyH.nil
                go_simp
                refine (rcopy_any _ x _ ?_).mono ?_; exact (HX.out.ext (XZ.out.trans (by with_reducible (repeat (first | exact Ext.rfl_ _ | assumption | refine Ext.drew ?_ | refine Ext.drewN ?_ _ | refine Ext.alloc ?_ _ | refine Ext.trans ?_ (by assumption)))))); rintro e w8 ⟨v8, rfl, f8, hw8⟩; obtain ⟨A8, n8, c8, B8, m8, d8, rfl, u1, u2, u3, u4, u5, u6, u7, u8, u9, u10⟩ := f8; have hel : Elt w8 wr.heap.size ⟨A8, n8, c8, B8, m8, d8⟩ x := ⟨⟨_, _, _, _, _, _, rfl, u3, u4, u5, u6, u7, u8⟩, Apt.own u1, Apt.own u2⟩; have hhd : HdZ (fun i => Z i ∨ w.heap.size ≤ i) ⟨A8, n8, c8, B8, m8, d8⟩ := ⟨fun hn a ha => .inr (Nat.le_trans (Ext.size (XZ.out.trans (show Ext wr _ from (by with_reducible (repeat (first | exact Ext.rfl_ _ | assumption | refine Ext.drew ?_ | refine Ext.drewN ?_ _ | refine Ext.alloc ?_ _ | refine Ext.trans ?_ (by assumption))))))) (u9 hn a ha)), fun hn a ha => .inr (Nat.le_trans (Ext.size (XZ.out.trans (show Ext wr _ from (by with_reducible (repeat (first | exact Ext.rfl_ _ | assumption | refine Ext.drew ?_ | refine Ext.drewN ?_ _ | refine Ext.alloc ?_ _ | refine Ext.trans ?_ (by assumption))))))) (u10 hn a ha))⟩; clear u1 u2 u3 u4 u5 u6 u7 u8 u9 u10
                (try (go_wp2_with fail))
                refine hK.out _ _ (by (try dsimp only); exact box4 HBZ.out (w' := _) (by with_reducible (repeat (first | exact Ext.rfl_ _ | assumption | refine Ext.drew ?_ | refine Ext.drewN ?_ _ | refine Ext.alloc ?_ _ | refine Ext.trans ?_ (by assumption))))) (fun hHeld => ?_)
                clear hK K
                (try simp only [Act.put, List.getElem_toArray, List.getElem_cons_zero, List.getElem_cons_succ, List.setIfInBounds_toArray, List.set_cons_zero, List.set_cons_succ])
                refine wpAnyH_ready (rs := [6]) (by kernel_rfl) (by simp) ?_
                refine AllReadyH.cons (o := ({ dst := some 46, op := Go.Op.buildSlice 26 1 #[(0, Go.Operand.tmp 45)], type := 26, pos := "ref.go:48", after := #[{ on := 5, ground := Go.Ground.data }], guard := none } : Go.Oper)) rfl (fun K hK => ?_) AllReadyH.nil
                go_simp
                refine hK.out _ _ (by (try dsimp only); exact box4 HBZ.out (w' := _) (by with_reducible (repeat (first | exact Ext.rfl_ _ | assumption | refine Ext.drew ?_ | refine Ext.drewN ?_ _ | refine Ext.alloc ?_ _ | refine Ext.trans ?_ (by assumption))))) (fun hHeld => ?_)
                clear hK K
                (try simp only [Act.put, List.getElem_toArray, List.getElem_cons_zero, List.getElem_cons_succ, List.setIfInBounds_toArray, List.set_cons_zero, List.set_cons_succ])
                refine wpAnyH_ready (rs := [7]) (by kernel_rfl) (by simp) ?_
                refine AllReadyH.cons (o := ({ dst := some 47, op := Go.Op.call { callee := Go.Callee.builtin Go.Builtin.append, args := #[Go.Operand.tmp 43, Go.Operand.tmp 46], argTypes := #[26, 26] }, type := 26, pos := "ref.go:48", after := #[{ on := 3, ground := Go.Ground.data }, { on := 6, ground := Go.Ground.data }, { on := 5, ground := Go.Ground.chain }], guard := none } : Go.Oper)) rfl (fun K hK => ?_) AllReadyH.nil
                refine step_appH rfl _ _ rfl wr.heap.size v7 _ _ rfl (o7.ext (by with_reducible (repeat (first | exact Ext.rfl_ _ | assumption | refine Ext.drew ?_ | refine Ext.drewN ?_ _ | refine Ext.alloc ?_ _ | refine Ext.trans ?_ (by assumption))))) (some ⟨w8.heap.size, 0, none⟩) 1 1 [⟨A8, n8, c8, B8, m8, d8⟩] [x] rfl (RdH.ext (RdH.one (w := w8) 40 hel) (by with_reducible (repeat (first | exact Ext.rfl_ _ | assumption | refine Ext.drew ?_ | refine Ext.drewN ?_ _ | refine Ext.alloc ?_ _ | refine Ext.trans ?_ (by assumption))))) (by unfold B41; simp <;> omega) (Ext.size (by with_reducible (repeat (first | exact Ext.rfl_ _ | assumption | refine Ext.drew ?_ | refine Ext.drewN ?_ _ | refine Ext.alloc ?_ _ | refine Ext.trans ?_ (by assumption))))) ?_; intro v9 w9 o9 g9 _; have x9 : Ext wr w9 := Ext.growL (show Ext wr _ from (by with_reducible (repeat (first | exact Ext.rfl_ _ | assumption | refine Ext.drew ?_ | refine Ext.drewN ?_ _ | refine Ext.alloc ?_ _ | refine Ext.trans ?_ (by assumption))))) g9 (OwnL.ext (OwnH.ownL o7) (by with_reducible (repeat (first | exact Ext.rfl_ _ | assumption | refine Ext.drew ?_ | refine Ext.drewN ?_ _ | refine Ext.alloc ?_ _ | refine Ext.trans ?_ (by assumption))))) (Nat.le_refl _); clear g9
                refine hK.out _ _ (by (try dsimp only); exact box4 HBZ.out (w' := _) (by with_reducible (repeat (first | exact Ext.rfl_ _ | assumption | refine Ext.drew ?_ | refine Ext.drewN ?_ _ | refine Ext.alloc ?_ _ | refine Ext.trans ?_ (by assumption))))) (fun hHeld => ?_)
                clear hK K
                (try simp only [Act.put, List.getElem_toArray, List.getElem_cons_zero, List.getElem_cons_succ, List.setIfInBounds_toArray, List.set_cons_zero, List.set_cons_succ])
                refine wpAnyH_ready (rs := [11]) (by kernel_rfl) (by simp) ?_
                refine AllReadyH.cons (o := ({ dst := some 51, op := Go.Op.call { callee := Go.Callee.builtin Go.Builtin.append, args := #[Go.Operand.tmp 47, Go.Operand.tmp 50], argTypes := #[26, 26] }, type := 26, pos := "ref.go:48", after := #[{ on := 7, ground := Go.Ground.data }, { on := 10, ground := Go.Ground.data }, { on := 7, ground := Go.Ground.chain }], guard := none } : Go.Oper)) rfl (fun K hK => ?_) AllReadyH.nil
                refine step_appH rfl _ _ rfl wr.heap.size v9 _ _ rfl (o9.ext (by with_reducible (repeat (first | exact Ext.rfl_ _ | assumption | refine Ext.drew ?_ | refine Ext.drewN ?_ _ | refine Ext.alloc ?_ _ | refine Ext.trans ?_ (by assumption))))) (_) (0 - 0) _ (hs.drop 0) (([] : List Ent).drop 0) rfl (HS2.out _ _ (by with_reducible (repeat (first | exact Ext.rfl_ _ | assumption | refine Ext.drew ?_ | refine Ext.drewN ?_ _ | refine Ext.alloc ?_ _ | refine Ext.trans ?_ (by assumption))))) (by unfold B41; simp <;> omega) (Ext.size (by with_reducible (repeat (first | exact Ext.rfl_ _ | assumption | refine Ext.drew ?_ | refine Ext.drewN ?_ _ | refine Ext.alloc ?_ _ | refine Ext.trans ?_ (by assumption))))) ?_; intro v10 w10 o10 g10 _; have x10 : Ext wr w10 := Ext.growL (show Ext wr _ from (by with_reducible (repeat (first | exact Ext.rfl_ _ | assumption | refine Ext.drew ?_ | refine Ext.drewN ?_ _ | refine Ext.alloc ?_ _ | refine Ext.trans ?_ (by assumption))))) g10 (OwnL.ext (OwnH.ownL o9) (by with_reducible (repeat (first | exact Ext.rfl_ _ | assumption | refine Ext.drew ?_ | refine Ext.drewN ?_ _ | refine Ext.alloc ?_ _ | refine Ext.trans ?_ (by assumption))))) (Nat.le_refl _); clear g10
                refine hK.out _ _ (by (try dsimp only); exact box4 HBZ.out (w' := _) (by with_reducible (repeat (first | exact Ext.rfl_ _ | assumption | refine Ext.drew ?_ | refine Ext.drewN ?_ _ | refine Ext.alloc ?_ _ | refine Ext.trans ?_ (by assumption))))) (fun hHeld => ?_)
                clear hK K
                (try simp only [Act.put, List.getElem_toArray, List.getElem_cons_zero, List.getElem_cons_succ, List.setIfInBounds_toArray, List.set_cons_zero, List.set_cons_succ])
                refine wpAnyH_take (i := 12) (oi := ({ dst := some 4, op := Go.Op.assign (Go.Operand.tmp 51), type := 26, pos := "ref.go:48", after := #[{ on := 11, ground := Go.Ground.data }, { on := 11, ground := Go.Ground.chain }, { on := 0, ground := Go.Ground.phase }, { on := 1, ground := Go.Ground.phase }, { on := 2, ground := Go.Ground.phase }, { on := 3, ground := Go.Ground.phase }, { on := 4, ground := Go.Ground.phase }, { on := 5, ground := Go.Ground.phase }, { on := 6, ground := Go.Ground.phase }, { on := 7, ground := Go.Ground.phase }, { on := 8, ground := Go.Ground.phase }, { on := 9, ground := Go.Ground.phase }, { on := 10, ground := Go.Ground.phase }, { on := 11, ground := Go.Ground.phase }], guard := none } : Go.Oper)) (v := ?v104) rfl (by kernel_rfl) (by kernel_rfl) (by kernel_rfl) (fun _ _ _ h => h) (Or.inl ⟨by rfl, ?hy104⟩) (by assumption) ?rest104
                case hy104 => (intro w hSw; (try dsimp only at hSw); go_simp; (try with_reducible rfl))
                (try simp only [Act.put, List.getElem_toArray, List.getElem_cons_zero, List.getElem_cons_succ, List.setIfInBounds_toArray, List.set_cons_zero, List.set_cons_succ])
                refine wpAnyH_take (i := 13) (oi := ({ dst := some 5, op := Go.Op.assign (Go.Operand.const (Go.Value.int Go.IntKind.i64 0)), type := 3, pos := "ref.go:48", after := #[{ on := 12, ground := Go.Ground.chain }, { on := 0, ground := Go.Ground.phase }, { on := 1, ground := Go.Ground.phase }, { on := 2, ground := Go.Ground.phase }, { on := 3, ground := Go.Ground.phase }, { on := 4, ground := Go.Ground.phase }, { on := 5, ground := Go.Ground.phase }, { on := 6, ground := Go.Ground.phase }, { on := 7, ground := Go.Ground.phase }, { on := 8, ground := Go.Ground.phase }, { on := 9, ground := Go.Ground.phase }, { on := 10, ground := Go.Ground.phase }, { on := 11, ground := Go.Ground.phase }, { on := 12, ground := Go.Ground.phase }], guard := none } : Go.Oper)) (v := ?v105) rfl (by kernel_rfl) (by kernel_rfl) (by kernel_rfl) (fun _ _ _ h => h) (Or.inl ⟨by rfl, ?hy105⟩) (by assumption) ?rest105
                case hy105 => (intro w hSw; (try dsimp only at hSw); go_simp; (try with_reducible rfl))
                (try simp only [Act.put, List.getElem_toArray, List.getElem_cons_zero, List.getElem_cons_succ, List.setIfInBounds_toArray, List.set_cons_zero, List.set_cons_succ])
                refine wpAnyH_done (by kernel_rfl) ?_ _
                all_goals
                  obtain ⟨A', n', c', rfl, hnc', hq⟩ := o10.rdq (Z := fun i => Z i ∨ w.heap.size ≤ i) (by unfold B41; simp <;> omega) (fun hd hm => by
                    simp only [List.nil_append, List.mem_append, List.mem_singleton] at hm
                    rcases hm with (hm | rfl) | hm
                    · have := HZ1.out hd (List.mem_of_mem_take hm); exact ⟨fun hn a ha => .inl (this.1 hn a ha), fun hn a ha => .inl (this.2 hn a ha)⟩
                    · exact hhd
                    · have := HZ1.out hd (List.mem_of_mem_drop hm); exact ⟨fun hn a ha => .inl (this.1 hn a ha), fun hn a ha => .inl (this.2 hn a ha)⟩) (fun i hi => .inr (Nat.le_trans XZ.out.size hi))
                  have HQ := Lib.hid hq
                  have HX10 := Lib.hid (XZ.out.trans (show Ext wr w10 from x10))
                  clear o10 o9 o7 hel hq
                  go_wp2
                  refine bodyPost_ret (v := .tuple #[.slice A' n' c', .int .i64 0]) (by simp [results, Try.f33, go_sem]) rfl ?_
                  rw [insP_end HM.out HE1.out HE2.out]
                  refine ⟨_, _, _, rfl, hnc', ?_, HX10.out.trans (by with_reducible (repeat (first | exact Ext.rfl_ _ | assumption | refine Ext.drew ?_ | refine Ext.drewN ?_ _ | refine Ext.alloc ?_ _ | refine Ext.trans ?_ (by assumption))))⟩
                  have hq2 := HQ.out.ext (show Ext w10 _ from (by with_reducible (repeat (first | exact Ext.rfl_ _ | assumption | refine Ext.drew ?_ | refine Ext.drewN ?_ _ | refine Ext.alloc ?_ _ | refine Ext.trans ?_ (by assumption)))))
                  rw [HT.out, HD.out] at hq2
                  simpa using hq2

  · have hm' : mayE x = false := by simpa using hm
    have HM := Lib.hid hm'
    clear hm hm'
    go_enter Try.func33, Try.ntmps33
    go_wp2_with fail
    refine (rmay_any _ x _ (HX.out.ext (by with_reducible (repeat (first | exact Ext.rfl_ _ | assumption | refine Ext.drew ?_ | refine Ext.drewN ?_ _ | refine Ext.alloc ?_ _ | refine Ext.trans ?_ (by assumption)))))).mono ?_
    rintro e w1 ⟨rfl, hw1⟩
    rw [HM.out]
    go_wp2
    refine bodyPost_ret (v := .tuple #[.slice A n c, .int .i64 2]) (by simp [results, Try.f33, go_sem]) rfl ?_
    rw [insP_no HM.out]
    exact ⟨_, _, _, rfl, hnc, (HL.out.mono fun _ h => .inl h).ext (by with_reducible (repeat (first | exact Ext.rfl_ _ | assumption | refine Ext.drew ?_ | refine Ext.drewN ?_ _ | refine Ext.alloc ?_ _ | refine Ext.trans ?_ (by assumption)))), (by with_reducible (repeat (first | exact Ext.rfl_ _ | assumption | refine Ext.drew ?_ | refine Ext.drewN ?_ _ | refine Ext.alloc ?_ _ | refine Ext.trans ?_ (by assumption))))⟩

end Go.Proofs.Ytddaagldelcbeaa
