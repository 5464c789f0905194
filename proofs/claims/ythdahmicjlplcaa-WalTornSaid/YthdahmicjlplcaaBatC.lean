/- Contracts of wal.Same and of the reference's Same. Conditions: the batches read. -/
/- The law's own much: where it is false, the batches are few and small. Conditions: the batches read. -/
import Derived.Test.YthdahmicjlplcaaBatA
import Derived.Test.YthdahmicjlplcaaRefC
import Derived.BigQuiet
namespace Go.Proofs.Ythdahmicjlplcaa
set_option linter.unusedSimpArgs false
set_option linter.unusedVariables false
open Go.RowKit

set_option maxRecDepth 100000 in
set_option maxHeartbeats 4000000 in
theorem eqfun_any (A : Option Addr) (n c : Nat) (B : Option Addr) (m d : Nat) (xs ys : List Ent) (w : World) (hx : RdL w A n xs) (hy : RdL w B m ys) :
    Calls Try.prog 49 #[.slice A n c, .slice B m d, .func (.func 50) #[] #[]] w fun e w' => e = .returned (.bool (decide (xs = ys))) ∧ Ext w w' := by
  have HX := Lib.hid hx
  have HY := Lib.hid hy
  have hn := hx.2.1
  have hm := hy.2.1
  unfold B41 at hn hm
  clear hx hy
  by_cases hne : n = m
  · subst hne
    go_enter Try.func49, Try.ntmps49
    go_wp2
    go_loopw [17] (fun i wr => ∃ k : Nat, i = .int .i64 k ∧ k ≤ n ∧ Hid (xs.take k = ys.take k) ∧ Ext w wr) (fun i _ => n - (intOf i).toNat)
    case atStart => exact ⟨0, rfl, Nat.zero_le _, Lib.hid rfl, Ext.rfl_ _⟩
    case round =>
      obtain ⟨k, rfl, hk, h1, hE⟩ := hrel
      by_cases c1 : (k : Int) < (n : Int)
      · obtain ⟨b, o, A1, n1, c1', A2, n2, c2', x, rfl, hx, ⟨q0, q1, q2, q3⟩, hr⟩ := (HX.out.ext hE).at_ k (by omega)
        obtain ⟨b', o', A1', n1', d1', A2', n2', d2', y, rfl, hy, ⟨p0, p1, p2, p3⟩, hs⟩ := (HY.out.ext hE).at_ k (by omega)
        have HR1 := Lib.hid hr
        have HR2 := Lib.hid hs
        have hkx : k < xs.length := by rw [HX.out.1]; omega
        have hky : k < ys.length := by rw [HY.out.1]; omega
        have ex : xs[k] = x := by rw [List.getElem?_eq_getElem hkx] at hx; exact Option.some.inj hx
        have ey : ys[k] = y := by rw [List.getElem?_eq_getElem hky] at hy; exact Option.some.inj hy
        have EX := Lib.hid ex
        have EY := Lib.hid ey
        have xa : Ext wr (wr.alloc (.cells #[.slice A1 n1 c1', .int .i64 x.seq, .int .i64 x.kind, .slice A2 n2 c2'] 47)) := (by with_reducible (repeat (first | exact Ext.rfl_ _ | assumption | refine Ext.drew ?_ | refine Ext.drewN ?_ _ | refine Ext.alloc ?_ _ | refine Ext.trans ?_ (by assumption))))
        have p0' := xa.keeps _ _ _ p0
        have p1' := xa.keeps _ _ _ p1
        have p2' := xa.keeps _ _ _ p2
        have p3' := xa.keeps _ _ _ p3
        clear hr hs hx hy ex ey xa p0 p1 p2 p3
        by_cases hxy : x = y
        · have HD := Lib.hid (decide_eq_true hxy : decide (x = y) = true)
          have HXY := Lib.hid hxy
          clear hxy
          go_wp2_with fail
          refine (same_any _ _ x y _ (HR1.out.ext (by with_reducible (repeat (first | exact Ext.rfl_ _ | assumption | refine Ext.drew ?_ | refine Ext.drewN ?_ _ | refine Ext.alloc ?_ _ | refine Ext.trans ?_ (by assumption))))) (HR2.out.ext (by with_reducible (repeat (first | exact Ext.rfl_ _ | assumption | refine Ext.drew ?_ | refine Ext.drewN ?_ _ | refine Ext.alloc ?_ _ | refine Ext.trans ?_ (by assumption)))))).mono ?_
          rintro e w4 ⟨rfl, hw4⟩
          rw [HD.out]
          go_wp2
          go_roundw
          case rel =>
            refine ⟨k + 1, by go_num, by omega, Lib.hid ?_, (by with_reducible (repeat (first | exact Ext.rfl_ _ | assumption | refine Ext.drew ?_ | refine Ext.drewN ?_ _ | refine Ext.alloc ?_ _ | refine Ext.trans ?_ (by assumption))))⟩
            rw [List.take_succ_eq_append_getElem hkx, List.take_succ_eq_append_getElem hky, h1.out, EX.out, EY.out, HXY.out]
          case measure => simp [intOf]; omega
        · have HD := Lib.hid (decide_eq_false hxy : decide (x = y) = false)
          have hr : false = decide (xs = ys) := by
            refine (decide_eq_false (fun e => hxy ?_)).symm
            rw [← EX.out, ← EY.out]
            subst e; rfl
          have HR := Lib.hid hr
          clear hxy hr
          go_wp2_with fail
          refine (same_any _ _ x y _ (HR1.out.ext (by with_reducible (repeat (first | exact Ext.rfl_ _ | assumption | refine Ext.drew ?_ | refine Ext.drewN ?_ _ | refine Ext.alloc ?_ _ | refine Ext.trans ?_ (by assumption))))) (HR2.out.ext (by with_reducible (repeat (first | exact Ext.rfl_ _ | assumption | refine Ext.drew ?_ | refine Ext.drewN ?_ _ | refine Ext.alloc ?_ _ | refine Ext.trans ?_ (by assumption)))))).mono ?_
          rintro e w4 ⟨rfl, hw4⟩
          rw [HD.out]
          go_wp2
          go_ret
          exact ⟨ret_bool HR.out, (by with_reducible (repeat (first | exact Ext.rfl_ _ | assumption | refine Ext.drew ?_ | refine Ext.drewN ?_ _ | refine Ext.alloc ?_ _ | refine Ext.trans ?_ (by assumption))))⟩
      · have hr : true = decide (xs = ys) := by
          have e := h1.out
          rw [List.take_of_length_le (by rw [HX.out.1]; omega), List.take_of_length_le (by rw [HY.out.1]; omega)] at e
          exact (decide_eq_true e).symm
        have HR := Lib.hid hr
        clear hr
        go_wp2
        go_ret
        exact ⟨ret_bool HR.out, hE⟩
  · have hne' : ((n : Int) != (m : Int)) = true := by simp; omega
    have hr : false = decide (xs = ys) := by
      refine (decide_eq_false (fun e => hne ?_)).symm
      rw [← HX.out.1, ← HY.out.1, e]
    have HR := Lib.hid hr
    clear hr hne
    go_enter Try.func49, Try.ntmps49
    go_wp2
    go_ret
    exact ⟨ret_bool HR.out, Ext.rfl_ _⟩

set_option maxRecDepth 100000 in
set_option maxHeartbeats 2000000 in
theorem wsame_any (u v : Value) (x y : Bat) (w : World) (hx : RdB w u x) (hy : RdB w v y) :
    Calls Try.prog 23 #[u, v] w fun e w' => e = .returned (.bool (decide (x = y))) ∧ Ext w w' := by
  obtain ⟨A, n, c, rfl, hl, hc⟩ := hx
  obtain ⟨B, m, d, rfl, hl2, hd⟩ := hy
  have hb := heap_alloc_new w (.cells #[.int .i64 x.idx, .slice A n c] 24)
  have hb2 := heap_alloc_new (w.alloc (.cells #[.int .i64 x.idx, .slice A n c] 24)) (.cells #[.int .i64 y.idx, .slice B m d] 24)
  rw [World.size_alloc] at hb2
  obtain ⟨q0, q1, _, _⟩ := box2 hb (show Ext _ ((w.alloc (.cells #[.int .i64 x.idx, .slice A n c] 24)).alloc (.cells #[.int .i64 y.idx, .slice B m d] 24)) from (by with_reducible (repeat (first | exact Ext.rfl_ _ | assumption | refine Ext.drew ?_ | refine Ext.drewN ?_ _ | refine Ext.alloc ?_ _ | refine Ext.trans ?_ (by assumption)))))
  obtain ⟨p0, p1, _, _⟩ := box2 hb2 (Ext.rfl_ _)
  have HL := Lib.hid hl
  have HL2 := Lib.hid hl2
  clear hl hl2 hb hb2
  by_cases h1 : x.idx = y.idx
  · have hd : Hid (decide (x = y) = decide (x.es = y.es)) := Lib.hid (by
      refine decide_eq_decide.2 ⟨fun h => by rw [h], fun h => ?_⟩
      cases x; cases y; simp at h1 h ⊢; exact ⟨h1, h⟩)
    have h1b : (x.idx == y.idx) = true := by simp [h1]
    have H1 := Lib.hid h1
    clear h1
    go_enter Try.func23, Try.ntmps23
    go_wp2_with fail
    refine (eqfun_any A n c B m d x.es y.es _ (HL.out.ext (by with_reducible (repeat (first | exact Ext.rfl_ _ | assumption | refine Ext.drew ?_ | refine Ext.drewN ?_ _ | refine Ext.alloc ?_ _ | refine Ext.trans ?_ (by assumption))))) (HL2.out.ext (by with_reducible (repeat (first | exact Ext.rfl_ _ | assumption | refine Ext.drew ?_ | refine Ext.drewN ?_ _ | refine Ext.alloc ?_ _ | refine Ext.trans ?_ (by assumption)))))).mono ?_
    rintro e w1 ⟨rfl, hw1⟩
    go_wp2
    go_ret
    exact ⟨ret_bool (by rw [hd.out]), (by with_reducible (repeat (first | exact Ext.rfl_ _ | assumption | refine Ext.drew ?_ | refine Ext.drewN ?_ _ | refine Ext.alloc ?_ _ | refine Ext.trans ?_ (by assumption))))⟩
  · have hd : Hid (decide (x = y) = false) := Lib.hid (decide_eq_false (fun h => h1 (by rw [h])))
    have h1b : (x.idx == y.idx) = false := by simp [h1]
    clear h1
    go_enter Try.func23, Try.ntmps23
    go_wp2
    go_ret
    exact ⟨ret_bool hd.out.symm, (by with_reducible (repeat (first | exact Ext.rfl_ _ | assumption | refine Ext.drew ?_ | refine Ext.drewN ?_ _ | refine Ext.alloc ?_ _ | refine Ext.trans ?_ (by assumption))))⟩

set_option maxRecDepth 100000 in
set_option maxHeartbeats 4000000 in
theorem rsame13_any (A : Option Addr) (n c : Nat) (B : Option Addr) (m d : Nat) (xs ys : List Bat) (w : World) (hx : RdLB w A n xs) (hy : RdLB w B m ys) :
    Calls Try.prog 15 #[.slice A n c, .slice B m d] w fun e w' => e = .returned (.bool (decide (xs = ys))) ∧ Ext w w' := by
  have HX := Lib.hid hx
  have HY := Lib.hid hy
  have hn := hx.2.1
  have hm := hy.2.1
  unfold B41 at hn hm
  clear hx hy
  by_cases hne : n = m
  · subst hne
    go_enter Try.func15, Try.ntmps15
    go_wp2
    go_loopw [5] (fun i wr => ∃ k : Nat, i = .int .i64 k ∧ k ≤ n ∧ Hid (xs.take k = ys.take k) ∧ Ext w wr) (fun i _ => n - (intOf i).toNat)
    case atStart => exact ⟨0, rfl, Nat.zero_le _, Lib.hid rfl, Ext.rfl_ _⟩
    case round =>
      obtain ⟨k, rfl, hk, h1, hE⟩ := hrel
      by_cases c1 : (k : Int) < (n : Int)
      · obtain ⟨b, o, A1, n1, c1', x, rfl, hx, q0, q1, hr, _⟩ := HX.out.at_ k (by omega)
        obtain ⟨b', o', A1', n1', d1', y, rfl, hy, p0, p1, hs, _⟩ := HY.out.at_ k (by omega)
        have hS : ∀ W, Ext w W → (W.cell? ⟨b, o + k * 2, none⟩ = some (.int .i64 x.idx) ∧ W.cell? ⟨b, o + k * 2 + 1, none⟩ = some (.slice A1 n1 c1')) ∧ (W.cell? ⟨b', o' + k * 2, none⟩ = some (.int .i64 y.idx) ∧ W.cell? ⟨b', o' + k * 2 + 1, none⟩ = some (.slice A1' n1' d1')) := fun W K =>
          ⟨⟨K.keeps _ _ _ q0, K.keeps _ _ _ q1⟩, ⟨K.keeps _ _ _ p0, K.keeps _ _ _ p1⟩⟩
        have HS := Lib.hid hS
        have HR1 := Lib.hid hr
        have HR2 := Lib.hid hs
        have hkx : k < xs.length := by rw [HX.out.1]; omega
        have hky : k < ys.length := by rw [HY.out.1]; omega
        have ex : xs[k] = x := by rw [List.getElem?_eq_getElem hkx] at hx; exact Option.some.inj hx
        have ey : ys[k] = y := by rw [List.getElem?_eq_getElem hky] at hy; exact Option.some.inj hy
        have EX := Lib.hid ex
        have EY := Lib.hid ey
        clear hS hr hs hx hy ex ey q0 q1 p0 p1
        by_cases h2 : x.idx = y.idx
        · have h2b : (x.idx != y.idx) = false := by simp [h2]
          by_cases h3 : x.es = y.es
          · have HD := Lib.hid (decide_eq_true h3 : decide (x.es = y.es) = true)
            have HXY := Lib.hid (show x = y from by cases x; cases y; simp at h2 h3 ⊢; exact ⟨h2, h3⟩)
            clear h2 h3
            go_wp2
            refine wp_region_held_drew (S := (fun W => (W.cell? ⟨b, o + k * 2, none⟩ = some (.int .i64 x.idx) ∧ W.cell? ⟨b, o + k * 2 + 1, none⟩ = some (.slice A1 n1 c1')) ∧ (W.cell? ⟨b', o' + k * 2, none⟩ = some (.int .i64 y.idx) ∧ W.cell? ⟨b', o' + k * 2 + 1, none⟩ = some (.slice A1' n1' d1')))) (by kernel_rfl) (by (try dsimp only); exact HS.out _ (by with_reducible (repeat (first | exact Ext.rfl_ _ | assumption | refine Ext.drew ?_ | refine Ext.drewN ?_ _ | refine Ext.alloc ?_ _ | refine Ext.trans ?_ (by assumption))))) (fun hHeld => ?_)
            refine wpAnyH_take (i := 0) (oi := ({ dst := some 17, op := Go.Op.move (Go.Operand.tmp 0), type := 26, pos := "ref.go:71", after := #[], guard := none } : Go.Oper)) (v := ?v1) rfl (by kernel_rfl) (by kernel_rfl) (by kernel_rfl) (fun _ _ _ h => h) (Or.inl ⟨by rfl, ?hy1⟩) (by assumption) ?rest1
            case hy1 => (intro w hSw; (try dsimp only at hSw); go_simp; (try with_reducible rfl))
            (try simp only [Act.put, List.getElem_toArray, List.getElem_cons_zero, List.getElem_cons_succ, List.setIfInBounds_toArray, List.set_cons_zero, List.set_cons_succ])
            refine wpAnyH_take (i := 1) (oi := ({ dst := some 18, op := Go.Op.move (Go.Operand.tmp 5), type := 3, pos := "ref.go:71", after := #[], guard := none } : Go.Oper)) (v := ?v2) rfl (by kernel_rfl) (by kernel_rfl) (by kernel_rfl) (fun _ _ _ h => h) (Or.inl ⟨by rfl, ?hy2⟩) (by assumption) ?rest2
            case hy2 => (intro w hSw; (try dsimp only at hSw); go_simp; (try with_reducible rfl))
            (try simp only [Act.put, List.getElem_toArray, List.getElem_cons_zero, List.getElem_cons_succ, List.setIfInBounds_toArray, List.set_cons_zero, List.set_cons_succ])
            refine wpAnyH_take (i := 2) (oi := ({ dst := some 19, op := Go.Op.indexAddr 26 (Go.Operand.tmp 17) (Go.Operand.tmp 18), type := 0, pos := "ref.go:71", after := #[{ on := 0, ground := Go.Ground.data }, { on := 1, ground := Go.Ground.data }], guard := none } : Go.Oper)) (v := ?v3) rfl (by kernel_rfl) (by kernel_rfl) (by kernel_rfl) (fun _ _ _ h => h) (Or.inl ⟨by rfl, ?hy3⟩) (by assumption) ?rest3
            case hy3 => (intro w hSw; (try dsimp only at hSw); go_simp; (try with_reducible rfl))
            (try simp only [Act.put, List.getElem_toArray, List.getElem_cons_zero, List.getElem_cons_succ, List.setIfInBounds_toArray, List.set_cons_zero, List.set_cons_succ])
            refine wpAnyH_take (i := 3) (oi := ({ dst := some 20, op := Go.Op.fieldAddr 24 (Go.Operand.tmp 19) 0, type := 0, pos := "ref.go:71", after := #[{ on := 2, ground := Go.Ground.data }], guard := none } : Go.Oper)) (v := ?v4) rfl (by kernel_rfl) (by kernel_rfl) (by kernel_rfl) (fun _ _ _ h => h) (Or.inl ⟨by rfl, ?hy4⟩) (by assumption) ?rest4
            case hy4 => (intro w hSw; (try dsimp only at hSw); go_simp; (try with_reducible rfl))
            (try simp only [Act.put, List.getElem_toArray, List.getElem_cons_zero, List.getElem_cons_succ, List.setIfInBounds_toArray, List.set_cons_zero, List.set_cons_succ])
            refine wpAnyH_take (i := 4) (oi := ({ dst := some 21, op := Go.Op.load 2 (Go.Operand.tmp 20), type := 2, pos := "ref.go:71", after := #[{ on := 3, ground := Go.Ground.data }], guard := none } : Go.Oper)) (v := ?v5) rfl (by kernel_rfl) (by kernel_rfl) (by kernel_rfl) (fun _ _ _ h => h) (Or.inl ⟨by rfl, ?hy5⟩) (by assumption) ?rest5
            case hy5 => (intro w hSw; (try dsimp only at hSw); go_simp; (try with_reducible rfl))
            (try simp only [Act.put, List.getElem_toArray, List.getElem_cons_zero, List.getElem_cons_succ, List.setIfInBounds_toArray, List.set_cons_zero, List.set_cons_succ])
            refine wpAnyH_take (i := 5) (oi := ({ dst := some 22, op := Go.Op.move (Go.Operand.tmp 1), type := 26, pos := "ref.go:71", after := #[], guard := none } : Go.Oper)) (v := ?v6) rfl (by kernel_rfl) (by kernel_rfl) (by kernel_rfl) (fun _ _ _ h => h) (Or.inl ⟨by rfl, ?hy6⟩) (by assumption) ?rest6
            case hy6 => (intro w hSw; (try dsimp only at hSw); go_simp; (try with_reducible rfl))
            (try simp only [Act.put, List.getElem_toArray, List.getElem_cons_zero, List.getElem_cons_succ, List.setIfInBounds_toArray, List.set_cons_zero, List.set_cons_succ])
            refine wpAnyH_take (i := 6) (oi := ({ dst := some 23, op := Go.Op.move (Go.Operand.tmp 5), type := 3, pos := "ref.go:71", after := #[], guard := none } : Go.Oper)) (v := ?v7) rfl (by kernel_rfl) (by kernel_rfl) (by kernel_rfl) (fun _ _ _ h => h) (Or.inl ⟨by rfl, ?hy7⟩) (by assumption) ?rest7
            case hy7 => (intro w hSw; (try dsimp only at hSw); go_simp; (try with_reducible rfl))
            (try simp only [Act.put, List.getElem_toArray, List.getElem_cons_zero, List.getElem_cons_succ, List.setIfInBounds_toArray, List.set_cons_zero, List.set_cons_succ])
            refine wpAnyH_take (i := 7) (oi := ({ dst := some 24, op := Go.Op.indexAddr 26 (Go.Operand.tmp 22) (Go.Operand.tmp 23), type := 0, pos := "ref.go:71", after := #[{ on := 5, ground := Go.Ground.data }, { on := 6, ground := Go.Ground.data }], guard := none } : Go.Oper)) (v := ?v8) rfl (by kernel_rfl) (by kernel_rfl) (by kernel_rfl) (fun _ _ _ h => h) (Or.inl ⟨by rfl, ?hy8⟩) (by assumption) ?rest8
            case hy8 => (intro w hSw; (try dsimp only at hSw); go_simp; (try with_reducible rfl))
            (try simp only [Act.put, List.getElem_toArray, List.getElem_cons_zero, List.getElem_cons_succ, List.setIfInBounds_toArray, List.set_cons_zero, List.set_cons_succ])
            refine wpAnyH_take (i := 8) (oi := ({ dst := some 25, op := Go.Op.fieldAddr 24 (Go.Operand.tmp 24) 0, type := 0, pos := "ref.go:71", after := #[{ on := 7, ground := Go.Ground.data }], guard := none } : Go.Oper)) (v := ?v9) rfl (by kernel_rfl) (by kernel_rfl) (by kernel_rfl) (fun _ _ _ h => h) (Or.inl ⟨by rfl, ?hy9⟩) (by assumption) ?rest9
            case hy9 => (intro w hSw; (try dsimp only at hSw); go_simp; (try with_reducible rfl))
            (try simp only [Act.put, List.getElem_toArray, List.getElem_cons_zero, List.getElem_cons_succ, List.setIfInBounds_toArray, List.set_cons_zero, List.set_cons_succ])
            refine wpAnyH_take (i := 9) (oi := ({ dst := some 26, op := Go.Op.load 2 (Go.Operand.tmp 25), type := 2, pos := "ref.go:71", after := #[{ on := 8, ground := Go.Ground.data }], guard := none } : Go.Oper)) (v := ?v10) rfl (by kernel_rfl) (by kernel_rfl) (by kernel_rfl) (fun _ _ _ h => h) (Or.inl ⟨by rfl, ?hy10⟩) (by assumption) ?rest10
            case hy10 => (intro w hSw; (try dsimp only at hSw); go_simp; (try with_reducible rfl))
            (try simp only [Act.put, List.getElem_toArray, List.getElem_cons_zero, List.getElem_cons_succ, List.setIfInBounds_toArray, List.set_cons_zero, List.set_cons_succ])
            refine wpAnyH_take (i := 10) (oi := ({ dst := some 27, op := Go.Op.binOp Go.BinOp.neq 2 (Go.Operand.tmp 21) (Go.Operand.tmp 26) 2, type := 4, pos := "ref.go:71", after := #[{ on := 4, ground := Go.Ground.data }, { on := 9, ground := Go.Ground.data }], guard := none } : Go.Oper)) (v := ?v11) rfl (by kernel_rfl) (by kernel_rfl) (by kernel_rfl) (fun _ _ _ h => h) (Or.inl ⟨by rfl, ?hy11⟩) (by assumption) ?rest11
            case hy11 => (intro w hSw; (try dsimp only at hSw); go_simp; (try with_reducible rfl))
            (try simp only [Act.put, List.getElem_toArray, List.getElem_cons_zero, List.getElem_cons_succ, List.setIfInBounds_toArray, List.set_cons_zero, List.set_cons_succ])
            refine wpAnyH_take (i := 11) (oi := ({ dst := some 28, op := Go.Op.move (Go.Operand.tmp 27), type := 4, pos := "ref.go:71", after := #[{ on := 10, ground := Go.Ground.data }], guard := none } : Go.Oper)) (v := ?v12) rfl (by kernel_rfl) (by kernel_rfl) (by kernel_rfl) (fun _ _ _ h => h) (Or.inl ⟨by rfl, ?hy12⟩) (by assumption) ?rest12
            case hy12 => (intro w hSw; (try dsimp only at hSw); go_simp; (try with_reducible rfl))
            (try simp only [Act.put, List.getElem_toArray, List.getElem_cons_zero, List.getElem_cons_succ, List.setIfInBounds_toArray, List.set_cons_zero, List.set_cons_succ])
            refine wpAnyH_take (i := 12) (oi := ({ dst := some 29, op := Go.Op.move (Go.Operand.tmp 0), type := 26, pos := "ref.go:71", after := #[{ on := 11, ground := Go.Ground.guard }], guard := some (11, false) } : Go.Oper)) (v := ?v13) rfl (by kernel_rfl) (by kernel_rfl) (by kernel_rfl) (fun _ _ _ h => h) (Or.inl ⟨by rfl, ?hy13⟩) (by assumption) ?rest13
            case hy13 => (intro w hSw; (try dsimp only at hSw); go_simp; (try with_reducible rfl))
            (try simp only [Act.put, List.getElem_toArray, List.getElem_cons_zero, List.getElem_cons_succ, List.setIfInBounds_toArray, List.set_cons_zero, List.set_cons_succ])
            refine wpAnyH_take (i := 13) (oi := ({ dst := some 30, op := Go.Op.move (Go.Operand.tmp 5), type := 3, pos := "ref.go:71", after := #[{ on := 11, ground := Go.Ground.guard }], guard := some (11, false) } : Go.Oper)) (v := ?v14) rfl (by kernel_rfl) (by kernel_rfl) (by kernel_rfl) (fun _ _ _ h => h) (Or.inl ⟨by rfl, ?hy14⟩) (by assumption) ?rest14
            case hy14 => (intro w hSw; (try dsimp only at hSw); go_simp; (try with_reducible rfl))
            (try simp only [Act.put, List.getElem_toArray, List.getElem_cons_zero, List.getElem_cons_succ, List.setIfInBounds_toArray, List.set_cons_zero, List.set_cons_succ])
            refine wpAnyH_take (i := 14) (oi := ({ dst := some 31, op := Go.Op.indexAddr 26 (Go.Operand.tmp 29) (Go.Operand.tmp 30), type := 0, pos := "ref.go:71", after := #[{ on := 12, ground := Go.Ground.data }, { on := 13, ground := Go.Ground.data }, { on := 11, ground := Go.Ground.guard }], guard := some (11, false) } : Go.Oper)) (v := ?v15) rfl (by kernel_rfl) (by kernel_rfl) (by kernel_rfl) (fun _ _ _ h => h) (Or.inl ⟨by rfl, ?hy15⟩) (by assumption) ?rest15
            case hy15 => (intro w hSw; (try dsimp only at hSw); go_simp; (try with_reducible rfl))
            (try simp only [Act.put, List.getElem_toArray, List.getElem_cons_zero, List.getElem_cons_succ, List.setIfInBounds_toArray, List.set_cons_zero, List.set_cons_succ])
            refine wpAnyH_take (i := 15) (oi := ({ dst := some 32, op := Go.Op.fieldAddr 24 (Go.Operand.tmp 31) 1, type := 0, pos := "ref.go:71", after := #[{ on := 14, ground := Go.Ground.data }, { on := 11, ground := Go.Ground.guard }], guard := some (11, false) } : Go.Oper)) (v := ?v16) rfl (by kernel_rfl) (by kernel_rfl) (by kernel_rfl) (fun _ _ _ h => h) (Or.inl ⟨by rfl, ?hy16⟩) (by assumption) ?rest16
            case hy16 => (intro w hSw; (try dsimp only at hSw); go_simp; (try with_reducible rfl))
            (try simp only [Act.put, List.getElem_toArray, List.getElem_cons_zero, List.getElem_cons_succ, List.setIfInBounds_toArray, List.set_cons_zero, List.set_cons_succ])
            refine wpAnyH_take (i := 16) (oi := ({ dst := some 33, op := Go.Op.load 22 (Go.Operand.tmp 32), type := 22, pos := "ref.go:71", after := #[{ on := 15, ground := Go.Ground.data }, { on := 11, ground := Go.Ground.guard }], guard := some (11, false) } : Go.Oper)) (v := ?v17) rfl (by kernel_rfl) (by kernel_rfl) (by kernel_rfl) (fun _ _ _ h => h) (Or.inl ⟨by rfl, ?hy17⟩) (by assumption) ?rest17
            case hy17 => (intro w hSw; (try dsimp only at hSw); go_simp; (try with_reducible rfl))
            (try simp only [Act.put, List.getElem_toArray, List.getElem_cons_zero, List.getElem_cons_succ, List.setIfInBounds_toArray, List.set_cons_zero, List.set_cons_succ])
            refine wpAnyH_take (i := 17) (oi := ({ dst := some 34, op := Go.Op.move (Go.Operand.tmp 1), type := 26, pos := "ref.go:71", after := #[{ on := 11, ground := Go.Ground.guard }], guard := some (11, false) } : Go.Oper)) (v := ?v18) rfl (by kernel_rfl) (by kernel_rfl) (by kernel_rfl) (fun _ _ _ h => h) (Or.inl ⟨by rfl, ?hy18⟩) (by assumption) ?rest18
            case hy18 => (intro w hSw; (try dsimp only at hSw); go_simp; (try with_reducible rfl))
            (try simp only [Act.put, List.getElem_toArray, List.getElem_cons_zero, List.getElem_cons_succ, List.setIfInBounds_toArray, List.set_cons_zero, List.set_cons_succ])
            refine wpAnyH_take (i := 18) (oi := ({ dst := some 35, op := Go.Op.move (Go.Operand.tmp 5), type := 3, pos := "ref.go:71", after := #[{ on := 11, ground := Go.Ground.guard }], guard := some (11, false) } : Go.Oper)) (v := ?v19) rfl (by kernel_rfl) (by kernel_rfl) (by kernel_rfl) (fun _ _ _ h => h) (Or.inl ⟨by rfl, ?hy19⟩) (by assumption) ?rest19
            case hy19 => (intro w hSw; (try dsimp only at hSw); go_simp; (try with_reducible rfl))
            (try simp only [Act.put, List.getElem_toArray, List.getElem_cons_zero, List.getElem_cons_succ, List.setIfInBounds_toArray, List.set_cons_zero, List.set_cons_succ])
            refine wpAnyH_take (i := 19) (oi := ({ dst := some 36, op := Go.Op.indexAddr 26 (Go.Operand.tmp 34) (Go.Operand.tmp 35), type := 0, pos := "ref.go:71", after := #[{ on := 17, ground := Go.Ground.data }, { on := 18, ground := Go.Ground.data }, { on := 11, ground := Go.Ground.guard }], guard := some (11, false) } : Go.Oper)) (v := ?v20) rfl (by kernel_rfl) (by kernel_rfl) (by kernel_rfl) (fun _ _ _ h => h) (Or.inl ⟨by rfl, ?hy20⟩) (by assumption) ?rest20
            case hy20 => (intro w hSw; (try dsimp only at hSw); go_simp; (try with_reducible rfl))
            (try simp only [Act.put, List.getElem_toArray, List.getElem_cons_zero, List.getElem_cons_succ, List.setIfInBounds_toArray, List.set_cons_zero, List.set_cons_succ])
            refine wpAnyH_take (i := 20) (oi := ({ dst := some 37, op := Go.Op.fieldAddr 24 (Go.Operand.tmp 36) 1, type := 0, pos := "ref.go:71", after := #[{ on := 19, ground := Go.Ground.data }, { on := 11, ground := Go.Ground.guard }], guard := some (11, false) } : Go.Oper)) (v := ?v21) rfl (by kernel_rfl) (by kernel_rfl) (by kernel_rfl) (fun _ _ _ h => h) (Or.inl ⟨by rfl, ?hy21⟩) (by assumption) ?rest21
            case hy21 => (intro w hSw; (try dsimp only at hSw); go_simp; (try with_reducible rfl))
            (try simp only [Act.put, List.getElem_toArray, List.getElem_cons_zero, List.getElem_cons_succ, List.setIfInBounds_toArray, List.set_cons_zero, List.set_cons_succ])
            refine wpAnyH_take (i := 21) (oi := ({ dst := some 38, op := Go.Op.load 22 (Go.Operand.tmp 37), type := 22, pos := "ref.go:71", after := #[{ on := 20, ground := Go.Ground.data }, { on := 11, ground := Go.Ground.guard }], guard := some (11, false) } : Go.Oper)) (v := ?v22) rfl (by kernel_rfl) (by kernel_rfl) (by kernel_rfl) (fun _ _ _ h => h) (Or.inl ⟨by rfl, ?hy22⟩) (by assumption) ?rest22
            case hy22 => (intro w hSw; (try dsimp only at hSw); go_simp; (try with_reducible rfl))
            (try simp only [Act.put, List.getElem_toArray, List.getElem_cons_zero, List.getElem_cons_succ, List.setIfInBounds_toArray, List.set_cons_zero, List.set_cons_succ])
            refine wpAnyH_ready (rs := [22]) (by kernel_rfl) (by simp) ?_
            refine AllReadyH.cons (o := ({ dst := some 39, op := Go.Op.call { callee := Go.Callee.value (Go.Operand.func 35), args := #[Go.Operand.tmp 33, Go.Operand.tmp 38], argTypes := #[22, 22] }, type := 4, pos := "ref.go:71", after := #[{ on := 16, ground := Go.Ground.data }, { on := 21, ground := Go.Ground.data }, { on := 11, ground := Go.Ground.chain }, { on := 11, ground := Go.Ground.guard }], guard := some (11, false) } : Go.Oper)) rfl (fun K hK => ?_) AllReadyH.nil
            go_simp
            (go_at_call 35; refine (rsameL_any A1 n1 c1' A1' n1' d1' x.es y.es _ (HR1.out.ext (by with_reducible (repeat (first | exact Ext.rfl_ _ | assumption | refine Ext.drew ?_ | refine Ext.drewN ?_ _ | refine Ext.alloc ?_ _ | refine Ext.trans ?_ (by assumption))))) (HR2.out.ext (by with_reducible (repeat (first | exact Ext.rfl_ _ | assumption | refine Ext.drew ?_ | refine Ext.drewN ?_ _ | refine Ext.alloc ?_ _ | refine Ext.trans ?_ (by assumption)))))).mono ?_; rintro e w4 ⟨rfl, hw4⟩; rw [HD.out])
            (try (go_wp2_with fail))
            refine hK.out _ _ (by (try dsimp only); exact HS.out _ (by with_reducible (repeat (first | exact Ext.rfl_ _ | assumption | refine Ext.drew ?_ | refine Ext.drewN ?_ _ | refine Ext.alloc ?_ _ | refine Ext.trans ?_ (by assumption))))) (fun hHeld => ?_)
            clear hK K
            (try simp only [Act.put, List.getElem_toArray, List.getElem_cons_zero, List.getElem_cons_succ, List.setIfInBounds_toArray, List.set_cons_zero, List.set_cons_succ])
            refine wpAnyH_take (i := 23) (oi := ({ dst := some 40, op := Go.Op.unOp Go.UnOp.not 4 (Go.Operand.tmp 39), type := 4, pos := "ref.go:71", after := #[{ on := 22, ground := Go.Ground.data }, { on := 11, ground := Go.Ground.guard }], guard := some (11, false) } : Go.Oper)) (v := ?v23) rfl (by kernel_rfl) (by kernel_rfl) (by kernel_rfl) (fun _ _ _ h => h) (Or.inl ⟨by rfl, ?hy23⟩) (by assumption) ?rest23
            case hy23 => (intro w hSw; (try dsimp only at hSw); go_simp; (try with_reducible rfl))
            (try simp only [Act.put, List.getElem_toArray, List.getElem_cons_zero, List.getElem_cons_succ, List.setIfInBounds_toArray, List.set_cons_zero, List.set_cons_succ])
            refine wpAnyH_take (i := 24) (oi := ({ dst := some 41, op := Go.Op.pick (Go.Operand.tmp 28) (Go.Operand.const (Go.Value.bool true)) (Go.Operand.tmp 40), type := 4, pos := "ref.go:71", after := #[{ on := 11, ground := Go.Ground.data }, { on := 23, ground := Go.Ground.data }], guard := none } : Go.Oper)) (v := ?v24) rfl (by kernel_rfl) (by kernel_rfl) (by kernel_rfl) (fun _ _ _ h => h) (Or.inl ⟨by rfl, ?hy24⟩) (by assumption) ?rest24
            case hy24 => (intro w hSw; (try dsimp only at hSw); go_simp; (try with_reducible rfl))
            (try simp only [Act.put, List.getElem_toArray, List.getElem_cons_zero, List.getElem_cons_succ, List.setIfInBounds_toArray, List.set_cons_zero, List.set_cons_succ])
            refine wpAnyH_done (by kernel_rfl) ?_ _
            go_wp2
            go_roundw
            case rel =>
              refine ⟨k + 1, by go_num, by omega, Lib.hid ?_, (by with_reducible (repeat (first | exact Ext.rfl_ _ | assumption | refine Ext.drew ?_ | refine Ext.drewN ?_ _ | refine Ext.alloc ?_ _ | refine Ext.trans ?_ (by assumption))))⟩
              rw [List.take_succ_eq_append_getElem hkx, List.take_succ_eq_append_getElem hky, h1.out, EX.out, EY.out, HXY.out]
            case measure => simp [intOf]; omega
          · have HD := Lib.hid (decide_eq_false h3 : decide (x.es = y.es) = false)
            have hr : false = decide (xs = ys) := by
              refine (decide_eq_false (fun e => h3 ?_)).symm
              rw [← EX.out, ← EY.out]
              subst e; rfl
            have HR := Lib.hid hr
            clear h2 h3 hr
            go_wp2
            refine wp_region_held_drew (S := (fun W => (W.cell? ⟨b, o + k * 2, none⟩ = some (.int .i64 x.idx) ∧ W.cell? ⟨b, o + k * 2 + 1, none⟩ = some (.slice A1 n1 c1')) ∧ (W.cell? ⟨b', o' + k * 2, none⟩ = some (.int .i64 y.idx) ∧ W.cell? ⟨b', o' + k * 2 + 1, none⟩ = some (.slice A1' n1' d1')))) (by kernel_rfl) (by (try dsimp only); exact HS.out _ (by with_reducible (repeat (first | exact Ext.rfl_ _ | assumption | refine Ext.drew ?_ | refine Ext.drewN ?_ _ | refine Ext.alloc ?_ _ | refine Ext.trans ?_ (by assumption))))) (fun hHeld => ?_)
            refine wpAnyH_take (i := 0) (oi := ({ dst := some 17, op := Go.Op.move (Go.Operand.tmp 0), type := 26, pos := "ref.go:71", after := #[], guard := none } : Go.Oper)) (v := ?v25) rfl (by kernel_rfl) (by kernel_rfl) (by kernel_rfl) (fun _ _ _ h => h) (Or.inl ⟨by rfl, ?hy25⟩) (by assumption) ?rest25
            case hy25 => (intro w hSw; (try dsimp only at hSw); go_simp; (try with_reducible rfl))
            (try simp only [Act.put, List.getElem_toArray, List.getElem_cons_zero, List.getElem_cons_succ, List.setIfInBounds_toArray, List.set_cons_zero, List.set_cons_succ])
            refine wpAnyH_take (i := 1) (oi := ({ dst := some 18, op := Go.Op.move (Go.Operand.tmp 5), type := 3, pos := "ref.go:71", after := #[], guard := none } : Go.Oper)) (v := ?v26) rfl (by kernel_rfl) (by kernel_rfl) (by kernel_rfl) (fun _ _ _ h => h) (Or.inl ⟨by rfl, ?hy26⟩) (by assumption) ?rest26
            case hy26 => (intro w hSw; (try dsimp only at hSw); go_simp; (try with_reducible rfl))
            (try simp only [Act.put, List.getElem_toArray, List.getElem_cons_zero, List.getElem_cons_succ, List.setIfInBounds_toArray, List.set_cons_zero, List.set_cons_succ])
            refine wpAnyH_take (i := 2) (oi := ({ dst := some 19, op := Go.Op.indexAddr 26 (Go.Operand.tmp 17) (Go.Operand.tmp 18), type := 0, pos := "ref.go:71", after := #[{ on := 0, ground := Go.Ground.data }, { on := 1, ground := Go.Ground.data }], guard := none } : Go.Oper)) (v := ?v27) rfl (by kernel_rfl) (by kernel_rfl) (by kernel_rfl) (fun _ _ _ h => h) (Or.inl ⟨by rfl, ?hy27⟩) (by assumption) ?rest27
            case hy27 => (intro w hSw; (try dsimp only at hSw); go_simp; (try with_reducible rfl))
            (try simp only [Act.put, List.getElem_toArray, List.getElem_cons_zero, List.getElem_cons_succ, List.setIfInBounds_toArray, List.set_cons_zero, List.set_cons_succ])
            refine wpAnyH_take (i := 3) (oi := ({ dst := some 20, op := Go.Op.fieldAddr 24 (Go.Operand.tmp 19) 0, type := 0, pos := "ref.go:71", after := #[{ on := 2, ground := Go.Ground.data }], guard := none } : Go.Oper)) (v := ?v28) rfl (by kernel_rfl) (by kernel_rfl) (by kernel_rfl) (fun _ _ _ h => h) (Or.inl ⟨by rfl, ?hy28⟩) (by assumption) ?rest28
            case hy28 => (intro w hSw; (try dsimp only at hSw); go_simp; (try with_reducible rfl))
            (try simp only [Act.put, List.getElem_toArray, List.getElem_cons_zero, List.getElem_cons_succ, List.setIfInBounds_toArray, List.set_cons_zero, List.set_cons_succ])
            refine wpAnyH_take (i := 4) (oi := ({ dst := some 21, op := Go.Op.load 2 (Go.Operand.tmp 20), type := 2, pos := "ref.go:71", after := #[{ on := 3, ground := Go.Ground.data }], guard := none } : Go.Oper)) (v := ?v29) rfl (by kernel_rfl) (by kernel_rfl) (by kernel_rfl) (fun _ _ _ h => h) (Or.inl ⟨by rfl, ?hy29⟩) (by assumption) ?rest29
            case hy29 => (intro w hSw; (try dsimp only at hSw); go_simp; (try with_reducible rfl))
            (try simp only [Act.put, List.getElem_toArray, List.getElem_cons_zero, List.getElem_cons_succ, List.setIfInBounds_toArray, List.set_cons_zero, List.set_cons_succ])
            refine wpAnyH_take (i := 5) (oi := ({ dst := some 22, op := Go.Op.move (Go.Operand.tmp 1), type := 26, pos := "ref.go:71", after := #[], guard := none } : Go.Oper)) (v := ?v30) rfl (by kernel_rfl) (by kernel_rfl) (by kernel_rfl) (fun _ _ _ h => h) (Or.inl ⟨by rfl, ?hy30⟩) (by assumption) ?rest30
            case hy30 => (intro w hSw; (try dsimp only at hSw); go_simp; (try with_reducible rfl))
            (try simp only [Act.put, List.getElem_toArray, List.getElem_cons_zero, List.getElem_cons_succ, List.setIfInBounds_toArray, List.set_cons_zero, List.set_cons_succ])
            refine wpAnyH_take (i := 6) (oi := ({ dst := some 23, op := Go.Op.move (Go.Operand.tmp 5), type := 3, pos := "ref.go:71", after := #[], guard := none } : Go.Oper)) (v := ?v31) rfl (by kernel_rfl) (by kernel_rfl) (by kernel_rfl) (fun _ _ _ h => h) (Or.inl ⟨by rfl, ?hy31⟩) (by assumption) ?rest31
            case hy31 => (intro w hSw; (try dsimp only at hSw); go_simp; (try with_reducible rfl))
            (try simp only [Act.put, List.getElem_toArray, List.getElem_cons_zero, List.getElem_cons_succ, List.setIfInBounds_toArray, List.set_cons_zero, List.set_cons_succ])
            refine wpAnyH_take (i := 7) (oi := ({ dst := some 24, op := Go.Op.indexAddr 26 (Go.Operand.tmp 22) (Go.Operand.tmp 23), type := 0, pos := "ref.go:71", after := #[{ on := 5, ground := Go.Ground.data }, { on := 6, ground := Go.Ground.data }], guard := none } : Go.Oper)) (v := ?v32) rfl (by kernel_rfl) (by kernel_rfl) (by kernel_rfl) (fun _ _ _ h => h) (Or.inl ⟨by rfl, ?hy32⟩) (by assumption) ?rest32
            case hy32 => (intro w hSw; (try dsimp only at hSw); go_simp; (try with_reducible rfl))
            (try simp only [Act.put, List.getElem_toArray, List.getElem_cons_zero, List.getElem_cons_succ, List.setIfInBounds_toArray, List.set_cons_zero, List.set_cons_succ])
            refine wpAnyH_take (i := 8) (oi := ({ dst := some 25, op := Go.Op.fieldAddr 24 (Go.Operand.tmp 24) 0, type := 0, pos := "ref.go:71", after := #[{ on := 7, ground := Go.Ground.data }], guard := none } : Go.Oper)) (v := ?v33) rfl (by kernel_rfl) (by kernel_rfl) (by kernel_rfl) (fun _ _ _ h => h) (Or.inl ⟨by rfl, ?hy33⟩) (by assumption) ?rest33
            case hy33 => (intro w hSw; (try dsimp only at hSw); go_simp; (try with_reducible rfl))
            (try simp only [Act.put, List.getElem_toArray, List.getElem_cons_zero, List.getElem_cons_succ, List.setIfInBounds_toArray, List.set_cons_zero, List.set_cons_succ])
            refine wpAnyH_take (i := 9) (oi := ({ dst := some 26, op := Go.Op.load 2 (Go.Operand.tmp 25), type := 2, pos := "ref.go:71", after := #[{ on := 8, ground := Go.Ground.data }], guard := none } : Go.Oper)) (v := ?v34) rfl (by kernel_rfl) (by kernel_rfl) (by kernel_rfl) (fun _ _ _ h => h) (Or.inl ⟨by rfl, ?hy34⟩) (by assumption) ?rest34
            case hy34 => (intro w hSw; (try dsimp only at hSw); go_simp; (try with_reducible rfl))
            (try simp only [Act.put, List.getElem_toArray, List.getElem_cons_zero, List.getElem_cons_succ, List.setIfInBounds_toArray, List.set_cons_zero, List.set_cons_succ])
            refine wpAnyH_take (i := 10) (oi := ({ dst := some 27, op := Go.Op.binOp Go.BinOp.neq 2 (Go.Operand.tmp 21) (Go.Operand.tmp 26) 2, type := 4, pos := "ref.go:71", after := #[{ on := 4, ground := Go.Ground.data }, { on := 9, ground := Go.Ground.data }], guard := none } : Go.Oper)) (v := ?v35) rfl (by kernel_rfl) (by kernel_rfl) (by kernel_rfl) (fun _ _ _ h => h) (Or.inl ⟨by rfl, ?hy35⟩) (by assumption) ?rest35
            case hy35 => (intro w hSw; (try dsimp only at hSw); go_simp; (try with_reducible rfl))
            (try simp only [Act.put, List.getElem_toArray, List.getElem_cons_zero, List.getElem_cons_succ, List.setIfInBounds_toArray, List.set_cons_zero, List.set_cons_succ])
            refine wpAnyH_take (i := 11) (oi := ({ dst := some 28, op := Go.Op.move (Go.Operand.tmp 27), type := 4, pos := "ref.go:71", after := #[{ on := 10, ground := Go.Ground.data }], guard := none } : Go.Oper)) (v := ?v36) rfl (by kernel_rfl) (by kernel_rfl) (by kernel_rfl) (fun _ _ _ h => h) (Or.inl ⟨by rfl, ?hy36⟩) (by assumption) ?rest36
            case hy36 => (intro w hSw; (try dsimp only at hSw); go_simp; (try with_reducible rfl))
            (try simp only [Act.put, List.getElem_toArray, List.getElem_cons_zero, List.getElem_cons_succ, List.setIfInBounds_toArray, List.set_cons_zero, List.set_cons_succ])
            refine wpAnyH_take (i := 12) (oi := ({ dst := some 29, op := Go.Op.move (Go.Operand.tmp 0), type := 26, pos := "ref.go:71", after := #[{ on := 11, ground := Go.Ground.guard }], guard := some (11, false) } : Go.Oper)) (v := ?v37) rfl (by kernel_rfl) (by kernel_rfl) (by kernel_rfl) (fun _ _ _ h => h) (Or.inl ⟨by rfl, ?hy37⟩) (by assumption) ?rest37
            case hy37 => (intro w hSw; (try dsimp only at hSw); go_simp; (try with_reducible rfl))
            (try simp only [Act.put, List.getElem_toArray, List.getElem_cons_zero, List.getElem_cons_succ, List.setIfInBounds_toArray, List.set_cons_zero, List.set_cons_succ])
            refine wpAnyH_take (i := 13) (oi := ({ dst := some 30, op := Go.Op.move (Go.Operand.tmp 5), type := 3, pos := "ref.go:71", after := #[{ on := 11, ground := Go.Ground.guard }], guard := some (11, false) } : Go.Oper)) (v := ?v38) rfl (by kernel_rfl) (by kernel_rfl) (by kernel_rfl) (fun _ _ _ h => h) (Or.inl ⟨by rfl, ?hy38⟩) (by assumption) ?rest38
            case hy38 => (intro w hSw; (try dsimp only at hSw); go_simp; (try with_reducible rfl))
            (try simp only [Act.put, List.getElem_toArray, List.getElem_cons_zero, List.getElem_cons_succ, List.setIfInBounds_toArray, List.set_cons_zero, List.set_cons_succ])
            refine wpAnyH_take (i := 14) (oi := ({ dst := some 31, op := Go.Op.indexAddr 26 (Go.Operand.tmp 29) (Go.Operand.tmp 30), type := 0, pos := "ref.go:71", after := #[{ on := 12, ground := Go.Ground.data }, { on := 13, ground := Go.Ground.data }, { on := 11, ground := Go.Ground.guard }], guard := some (11, false) } : Go.Oper)) (v := ?v39) rfl (by kernel_rfl) (by kernel_rfl) (by kernel_rfl) (fun _ _ _ h => h) (Or.inl ⟨by rfl, ?hy39⟩) (by assumption) ?rest39
            case hy39 => (intro w hSw; (try dsimp only at hSw); go_simp; (try with_reducible rfl))
            (try simp only [Act.put, List.getElem_toArray, List.getElem_cons_zero, List.getElem_cons_succ, List.setIfInBounds_toArray, List.set_cons_zero, List.set_cons_succ])
            refine wpAnyH_take (i := 15) (oi := ({ dst := some 32, op := Go.Op.fieldAddr 24 (Go.Operand.tmp 31) 1, type := 0, pos := "ref.go:71", after := #[{ on := 14, ground := Go.Ground.data }, { on := 11, ground := Go.Ground.guard }], guard := some (11, false) } : Go.Oper)) (v := ?v40) rfl (by kernel_rfl) (by kernel_rfl) (by kernel_rfl) (fun _ _ _ h => h) (Or.inl ⟨by rfl, ?hy40⟩) (by assumption) ?rest40
            case hy40 => (intro w hSw; (try dsimp only at hSw); go_simp; (try with_reducible rfl))
            (try simp only [Act.put, List.getElem_toArray, List.getElem_cons_zero, List.getElem_cons_succ, List.setIfInBounds_toArray, List.set_cons_zero, List.set_cons_succ])
            refine wpAnyH_take (i := 16) (oi := ({ dst := some 33, op := Go.Op.load 22 (Go.Operand.tmp 32), type := 22, pos := "ref.go:71", after := #[{ on := 15, ground := Go.Ground.data }, { on := 11, ground := Go.Ground.guard }], guard := some (11, false) } : Go.Oper)) (v := ?v41) rfl (by kernel_rfl) (by kernel_rfl) (by kernel_rfl) (fun _ _ _ h => h) (Or.inl ⟨by rfl, ?hy41⟩) (by assumption) ?rest41
            case hy41 => (intro w hSw; (try dsimp only at hSw); go_simp; (try with_reducible rfl))
            (try simp only [Act.put, List.getElem_toArray, List.getElem_cons_zero, List.getElem_cons_succ, List.setIfInBounds_toArray, List.set_cons_zero, List.set_cons_succ])
            refine wpAnyH_take (i := 17) (oi := ({ dst := some 34, op := Go.Op.move (Go.Operand.tmp 1), type := 26, pos := "ref.go:71", after := #[{ on := 11, ground := Go.Ground.guard }], guard := some (11, false) } : Go.Oper)) (v := ?v42) rfl (by kernel_rfl) (by kernel_rfl) (by kernel_rfl) (fun _ _ _ h => h) (Or.inl ⟨by rfl, ?hy42⟩) (by assumption) ?rest42
            case hy42 => (intro w hSw; (try dsimp only at hSw); go_simp; (try with_reducible rfl))
            (try simp only [Act.put, List.getElem_toArray, List.getElem_cons_zero, List.getElem_cons_succ, List.setIfInBounds_toArray, List.set_cons_zero, List.set_cons_succ])
            refine wpAnyH_take (i := 18) (oi := ({ dst := some 35, op := Go.Op.move (Go.Operand.tmp 5), type := 3, pos := "ref.go:71", after := #[{ on := 11, ground := Go.Ground.guard }], guard := some (11, false) } : Go.Oper)) (v := ?v43) rfl (by kernel_rfl) (by kernel_rfl) (by kernel_rfl) (fun _ _ _ h => h) (Or.inl ⟨by rfl, ?hy43⟩) (by assumption) ?rest43
            case hy43 => (intro w hSw; (try dsimp only at hSw); go_simp; (try with_reducible rfl))
            (try simp only [Act.put, List.getElem_toArray, List.getElem_cons_zero, List.getElem_cons_succ, List.setIfInBounds_toArray, List.set_cons_zero, List.set_cons_succ])
            refine wpAnyH_take (i := 19) (oi := ({ dst := some 36, op := Go.Op.indexAddr 26 (Go.Operand.tmp 34) (Go.Operand.tmp 35), type := 0, pos := "ref.go:71", after := #[{ on := 17, ground := Go.Ground.data }, { on := 18, ground := Go.Ground.data }, { on := 11, ground := Go.Ground.guard }], guard := some (11, false) } : Go.Oper)) (v := ?v44) rfl (by kernel_rfl) (by kernel_rfl) (by kernel_rfl) (fun _ _ _ h => h) (Or.inl ⟨by rfl, ?hy44⟩) (by assumption) ?rest44
            case hy44 => (intro w hSw; (try dsimp only at hSw); go_simp; (try with_reducible rfl))
            (try simp only [Act.put, List.getElem_toArray, List.getElem_cons_zero, List.getElem_cons_succ, List.setIfInBounds_toArray, List.set_cons_zero, List.set_cons_succ])
            refine wpAnyH_take (i := 20) (oi := ({ dst := some 37, op := Go.Op.fieldAddr 24 (Go.Operand.tmp 36) 1, type := 0, pos := "ref.go:71", after := #[{ on := 19, ground := Go.Ground.data }, { on := 11, ground := Go.Ground.guard }], guard := some (11, false) } : Go.Oper)) (v := ?v45) rfl (by kernel_rfl) (by kernel_rfl) (by kernel_rfl) (fun _ _ _ h => h) (Or.inl ⟨by rfl, ?hy45⟩) (by assumption) ?rest45
            case hy45 => (intro w hSw; (try dsimp only at hSw); go_simp; (try with_reducible rfl))
            (try simp only [Act.put, List.getElem_toArray, List.getElem_cons_zero, List.getElem_cons_succ, List.setIfInBounds_toArray, List.set_cons_zero, List.set_cons_succ])
            refine wpAnyH_take (i := 21) (oi := ({ dst := some 38, op := Go.Op.load 22 (Go.Operand.tmp 37), type := 22, pos := "ref.go:71", after := #[{ on := 20, ground := Go.Ground.data }, { on := 11, ground := Go.Ground.guard }], guard := some (11, false) } : Go.Oper)) (v := ?v46) rfl (by kernel_rfl) (by kernel_rfl) (by kernel_rfl) (fun _ _ _ h => h) (Or.inl ⟨by rfl, ?hy46⟩) (by assumption) ?rest46
            case hy46 => (intro w hSw; (try dsimp only at hSw); go_simp; (try with_reducible rfl))
            (try simp only [Act.put, List.getElem_toArray, List.getElem_cons_zero, List.getElem_cons_succ, List.setIfInBounds_toArray, List.set_cons_zero, List.set_cons_succ])
            refine wpAnyH_ready (rs := [22]) (by kernel_rfl) (by simp) ?_
            refine AllReadyH.cons (o := ({ dst := some 39, op := Go.Op.call { callee := Go.Callee.value (Go.Operand.func 35), args := #[Go.Operand.tmp 33, Go.Operand.tmp 38], argTypes := #[22, 22] }, type := 4, pos := "ref.go:71", after := #[{ on := 16, ground := Go.Ground.data }, { on := 21, ground := Go.Ground.data }, { on := 11, ground := Go.Ground.chain }, { on := 11, ground := Go.Ground.guard }], guard := some (11, false) } : Go.Oper)) rfl (fun K hK => ?_) AllReadyH.nil
            go_simp
            (go_at_call 35; refine (rsameL_any A1 n1 c1' A1' n1' d1' x.es y.es _ (HR1.out.ext (by with_reducible (repeat (first | exact Ext.rfl_ _ | assumption | refine Ext.drew ?_ | refine Ext.drewN ?_ _ | refine Ext.alloc ?_ _ | refine Ext.trans ?_ (by assumption))))) (HR2.out.ext (by with_reducible (repeat (first | exact Ext.rfl_ _ | assumption | refine Ext.drew ?_ | refine Ext.drewN ?_ _ | refine Ext.alloc ?_ _ | refine Ext.trans ?_ (by assumption)))))).mono ?_; rintro e w4 ⟨rfl, hw4⟩; rw [HD.out])
            (try (go_wp2_with fail))
            refine hK.out _ _ (by (try dsimp only); exact HS.out _ (by with_reducible (repeat (first | exact Ext.rfl_ _ | assumption | refine Ext.drew ?_ | refine Ext.drewN ?_ _ | refine Ext.alloc ?_ _ | refine Ext.trans ?_ (by assumption))))) (fun hHeld => ?_)
            clear hK K
            (try simp only [Act.put, List.getElem_toArray, List.getElem_cons_zero, List.getElem_cons_succ, List.setIfInBounds_toArray, List.set_cons_zero, List.set_cons_succ])
            refine wpAnyH_take (i := 23) (oi := ({ dst := some 40, op := Go.Op.unOp Go.UnOp.not 4 (Go.Operand.tmp 39), type := 4, pos := "ref.go:71", after := #[{ on := 22, ground := Go.Ground.data }, { on := 11, ground := Go.Ground.guard }], guard := some (11, false) } : Go.Oper)) (v := ?v47) rfl (by kernel_rfl) (by kernel_rfl) (by kernel_rfl) (fun _ _ _ h => h) (Or.inl ⟨by rfl, ?hy47⟩) (by assumption) ?rest47
            case hy47 => (intro w hSw; (try dsimp only at hSw); go_simp; (try with_reducible rfl))
            (try simp only [Act.put, List.getElem_toArray, List.getElem_cons_zero, List.getElem_cons_succ, List.setIfInBounds_toArray, List.set_cons_zero, List.set_cons_succ])
            refine wpAnyH_take (i := 24) (oi := ({ dst := some 41, op := Go.Op.pick (Go.Operand.tmp 28) (Go.Operand.const (Go.Value.bool true)) (Go.Operand.tmp 40), type := 4, pos := "ref.go:71", after := #[{ on := 11, ground := Go.Ground.data }, { on := 23, ground := Go.Ground.data }], guard := none } : Go.Oper)) (v := ?v48) rfl (by kernel_rfl) (by kernel_rfl) (by kernel_rfl) (fun _ _ _ h => h) (Or.inl ⟨by rfl, ?hy48⟩) (by assumption) ?rest48
            case hy48 => (intro w hSw; (try dsimp only at hSw); go_simp; (try with_reducible rfl))
            (try simp only [Act.put, List.getElem_toArray, List.getElem_cons_zero, List.getElem_cons_succ, List.setIfInBounds_toArray, List.set_cons_zero, List.set_cons_succ])
            refine wpAnyH_done (by kernel_rfl) ?_ _
            go_wp2
            go_ret
            exact ⟨ret_bool HR.out, (by with_reducible (repeat (first | exact Ext.rfl_ _ | assumption | refine Ext.drew ?_ | refine Ext.drewN ?_ _ | refine Ext.alloc ?_ _ | refine Ext.trans ?_ (by assumption))))⟩
        · have h2b : (x.idx != y.idx) = true := by simp [h2]
          have hr : false = decide (xs = ys) := by
            refine (decide_eq_false (fun e => h2 ?_)).symm
            rw [← EX.out, ← EY.out]
            subst e; rfl
          have HR := Lib.hid hr
          clear h2 hr
          go_wp2
          refine wp_region_held_drew (S := (fun W => (W.cell? ⟨b, o + k * 2, none⟩ = some (.int .i64 x.idx) ∧ W.cell? ⟨b, o + k * 2 + 1, none⟩ = some (.slice A1 n1 c1')) ∧ (W.cell? ⟨b', o' + k * 2, none⟩ = some (.int .i64 y.idx) ∧ W.cell? ⟨b', o' + k * 2 + 1, none⟩ = some (.slice A1' n1' d1')))) (by kernel_rfl) (by (try dsimp only); exact HS.out _ (by with_reducible (repeat (first | exact Ext.rfl_ _ | assumption | refine Ext.drew ?_ | refine Ext.drewN ?_ _ | refine Ext.alloc ?_ _ | refine Ext.trans ?_ (by assumption))))) (fun hHeld => ?_)
          refine wpAnyH_take (i := 0) (oi := ({ dst := some 17, op := Go.Op.move (Go.Operand.tmp 0), type := 26, pos := "ref.go:71", after := #[], guard := none } : Go.Oper)) (v := ?v49) rfl (by kernel_rfl) (by kernel_rfl) (by kernel_rfl) (fun _ _ _ h => h) (Or.inl ⟨by rfl, ?hy49⟩) (by assumption) ?rest49
          case hy49 => (intro w hSw; (try dsimp only at hSw); go_simp; (try with_reducible rfl))
          (try simp only [Act.put, List.getElem_toArray, List.getElem_cons_zero, List.getElem_cons_succ, List.setIfInBounds_toArray, List.set_cons_zero, List.set_cons_succ])
          refine wpAnyH_take (i := 1) (oi := ({ dst := some 18, op := Go.Op.move (Go.Operand.tmp 5), type := 3, pos := "ref.go:71", after := #[], guard := none } : Go.Oper)) (v := ?v50) rfl (by kernel_rfl) (by kernel_rfl) (by kernel_rfl) (fun _ _ _ h => h) (Or.inl ⟨by rfl, ?hy50⟩) (by assumption) ?rest50
          case hy50 => (intro w hSw; (try dsimp only at hSw); go_simp; (try with_reducible rfl))
          (try simp only [Act.put, List.getElem_toArray, List.getElem_cons_zero, List.getElem_cons_succ, List.setIfInBounds_toArray, List.set_cons_zero, List.set_cons_succ])
          refine wpAnyH_take (i := 2) (oi := ({ dst := some 19, op := Go.Op.indexAddr 26 (Go.Operand.tmp 17) (Go.Operand.tmp 18), type := 0, pos := "ref.go:71", after := #[{ on := 0, ground := Go.Ground.data }, { on := 1, ground := Go.Ground.data }], guard := none } : Go.Oper)) (v := ?v51) rfl (by kernel_rfl) (by kernel_rfl) (by kernel_rfl) (fun _ _ _ h => h) (Or.inl ⟨by rfl, ?hy51⟩) (by assumption) ?rest51
          case hy51 => (intro w hSw; (try dsimp only at hSw); go_simp; (try with_reducible rfl))
          (try simp only [Act.put, List.getElem_toArray, List.getElem_cons_zero, List.getElem_cons_succ, List.setIfInBounds_toArray, List.set_cons_zero, List.set_cons_succ])
          refine wpAnyH_take (i := 3) (oi := ({ dst := some 20, op := Go.Op.fieldAddr 24 (Go.Operand.tmp 19) 0, type := 0, pos := "ref.go:71", after := #[{ on := 2, ground := Go.Ground.data }], guard := none } : Go.Oper)) (v := ?v52) rfl (by kernel_rfl) (by kernel_rfl) (by kernel_rfl) (fun _ _ _ h => h) (Or.inl ⟨by rfl, ?hy52⟩) (by assumption) ?rest52
          case hy52 => (intro w hSw; (try dsimp only at hSw); go_simp; (try with_reducible rfl))
          (try simp only [Act.put, List.getElem_toArray, List.getElem_cons_zero, List.getElem_cons_succ, List.setIfInBounds_toArray, List.set_cons_zero, List.set_cons_succ])
          refine wpAnyH_take (i := 4) (oi := ({ dst := some 21, op := Go.Op.load 2 (Go.Operand.tmp 20), type := 2, pos := "ref.go:71", after := #[{ on := 3, ground := Go.Ground.data }], guard := none } : Go.Oper)) (v := ?v53) rfl (by kernel_rfl) (by kernel_rfl) (by kernel_rfl) (fun _ _ _ h => h) (Or.inl ⟨by rfl, ?hy53⟩) (by assumption) ?rest53
          case hy53 => (intro w hSw; (try dsimp only at hSw); go_simp; (try with_reducible rfl))
          (try simp only [Act.put, List.getElem_toArray, List.getElem_cons_zero, List.getElem_cons_succ, List.setIfInBounds_toArray, List.set_cons_zero, List.set_cons_succ])
          refine wpAnyH_take (i := 5) (oi := ({ dst := some 22, op := Go.Op.move (Go.Operand.tmp 1), type := 26, pos := "ref.go:71", after := #[], guard := none } : Go.Oper)) (v := ?v54) rfl (by kernel_rfl) (by kernel_rfl) (by kernel_rfl) (fun _ _ _ h => h) (Or.inl ⟨by rfl, ?hy54⟩) (by assumption) ?rest54
          case hy54 => (intro w hSw; (try dsimp only at hSw); go_simp; (try with_reducible rfl))
          (try simp only [Act.put, List.getElem_toArray, List.getElem_cons_zero, List.getElem_cons_succ, List.setIfInBounds_toArray, List.set_cons_zero, List.set_cons_succ])
          refine wpAnyH_take (i := 6) (oi := ({ dst := some 23, op := Go.Op.move (Go.Operand.tmp 5), type := 3, pos := "ref.go:71", after := #[], guard := none } : Go.Oper)) (v := ?v55) rfl (by kernel_rfl) (by kernel_rfl) (by kernel_rfl) (fun _ _ _ h => h) (Or.inl ⟨by rfl, ?hy55⟩) (by assumption) ?rest55
          case hy55 => (intro w hSw; (try dsimp only at hSw); go_simp; (try with_reducible rfl))
          (try simp only [Act.put, List.getElem_toArray, List.getElem_cons_zero, List.getElem_cons_succ, List.setIfInBounds_toArray, List.set_cons_zero, List.set_cons_succ])
          refine wpAnyH_take (i := 7) (oi := ({ dst := some 24, op := Go.Op.indexAddr 26 (Go.Operand.tmp 22) (Go.Operand.tmp 23), type := 0, pos := "ref.go:71", after := #[{ on := 5, ground := Go.Ground.data }, { on := 6, ground := Go.Ground.data }], guard := none } : Go.Oper)) (v := ?v56) rfl (by kernel_rfl) (by kernel_rfl) (by kernel_rfl) (fun _ _ _ h => h) (Or.inl ⟨by rfl, ?hy56⟩) (by assumption) ?rest56
          case hy56 => (intro w hSw; (try dsimp only at hSw); go_simp; (try with_reducible rfl))
          (try simp only [Act.put, List.getElem_toArray, List.getElem_cons_zero, List.getElem_cons_succ, List.setIfInBounds_toArray, List.set_cons_zero, List.set_cons_succ])
          refine wpAnyH_take (i := 8) (oi := ({ dst := some 25, op := Go.Op.fieldAddr 24 (Go.Operand.tmp 24) 0, type := 0, pos := "ref.go:71", after := #[{ on := 7, ground := Go.Ground.data }], guard := none } : Go.Oper)) (v := ?v57) rfl (by kernel_rfl) (by kernel_rfl) (by kernel_rfl) (fun _ _ _ h => h) (Or.inl ⟨by rfl, ?hy57⟩) (by assumption) ?rest57
          case hy57 => (intro w hSw; (try dsimp only at hSw); go_simp; (try with_reducible rfl))
          (try simp only [Act.put, List.getElem_toArray, List.getElem_cons_zero, List.getElem_cons_succ, List.setIfInBounds_toArray, List.set_cons_zero, List.set_cons_succ])
          refine wpAnyH_take (i := 9) (oi := ({ dst := some 26, op := Go.Op.load 2 (Go.Operand.tmp 25), type := 2, pos := "ref.go:71", after := #[{ on := 8, ground := Go.Ground.data }], guard := none } : Go.Oper)) (v := ?v58) rfl (by kernel_rfl) (by kernel_rfl) (by kernel_rfl) (fun _ _ _ h => h) (Or.inl ⟨by rfl, ?hy58⟩) (by assumption) ?rest58
          case hy58 => (intro w hSw; (try dsimp only at hSw); go_simp; (try with_reducible rfl))
          (try simp only [Act.put, List.getElem_toArray, List.getElem_cons_zero, List.getElem_cons_succ, List.setIfInBounds_toArray, List.set_cons_zero, List.set_cons_succ])
          refine wpAnyH_take (i := 10) (oi := ({ dst := some 27, op := Go.Op.binOp Go.BinOp.neq 2 (Go.Operand.tmp 21) (Go.Operand.tmp 26) 2, type := 4, pos := "ref.go:71", after := #[{ on := 4, ground := Go.Ground.data }, { on := 9, ground := Go.Ground.data }], guard := none } : Go.Oper)) (v := ?v59) rfl (by kernel_rfl) (by kernel_rfl) (by kernel_rfl) (fun _ _ _ h => h) (Or.inl ⟨by rfl, ?hy59⟩) (by assumption) ?rest59
          case hy59 => (intro w hSw; (try dsimp only at hSw); go_simp; (try with_reducible rfl))
          (try simp only [Act.put, List.getElem_toArray, List.getElem_cons_zero, List.getElem_cons_succ, List.setIfInBounds_toArray, List.set_cons_zero, List.set_cons_succ])
          refine wpAnyH_take (i := 11) (oi := ({ dst := some 28, op := Go.Op.move (Go.Operand.tmp 27), type := 4, pos := "ref.go:71", after := #[{ on := 10, ground := Go.Ground.data }], guard := none } : Go.Oper)) (v := ?v60) rfl (by kernel_rfl) (by kernel_rfl) (by kernel_rfl) (fun _ _ _ h => h) (Or.inl ⟨by rfl, ?hy60⟩) (by assumption) ?rest60
          case hy60 => (intro w hSw; (try dsimp only at hSw); go_simp; (try with_reducible rfl))
          (try simp only [Act.put, List.getElem_toArray, List.getElem_cons_zero, List.getElem_cons_succ, List.setIfInBounds_toArray, List.set_cons_zero, List.set_cons_succ])
          refine wpAnyH_take (i := 12) (oi := ({ dst := some 29, op := Go.Op.move (Go.Operand.tmp 0), type := 26, pos := "ref.go:71", after := #[{ on := 11, ground := Go.Ground.guard }], guard := some (11, false) } : Go.Oper)) (v := undef) rfl (by kernel_rfl) (by kernel_rfl) (by kernel_rfl) (fun _ _ _ h => h) (Or.inr ⟨by rfl, rfl⟩) (by assumption) ?_
          (try simp only [Act.put, List.getElem_toArray, List.getElem_cons_zero, List.getElem_cons_succ, List.setIfInBounds_toArray, List.set_cons_zero, List.set_cons_succ])
          refine wpAnyH_take (i := 13) (oi := ({ dst := some 30, op := Go.Op.move (Go.Operand.tmp 5), type := 3, pos := "ref.go:71", after := #[{ on := 11, ground := Go.Ground.guard }], guard := some (11, false) } : Go.Oper)) (v := undef) rfl (by kernel_rfl) (by kernel_rfl) (by kernel_rfl) (fun _ _ _ h => h) (Or.inr ⟨by rfl, rfl⟩) (by assumption) ?_
          (try simp only [Act.put, List.getElem_toArray, List.getElem_cons_zero, List.getElem_cons_succ, List.setIfInBounds_toArray, List.set_cons_zero, List.set_cons_succ])
          refine wpAnyH_take (i := 14) (oi := ({ dst := some 31, op := Go.Op.indexAddr 26 (Go.Operand.tmp 29) (Go.Operand.tmp 30), type := 0, pos := "ref.go:71", after := #[{ on := 12, ground := Go.Ground.data }, { on := 13, ground := Go.Ground.data }, { on := 11, ground := Go.Ground.guard }], guard := some (11, false) } : Go.Oper)) (v := undef) rfl (by kernel_rfl) (by kernel_rfl) (by kernel_rfl) (fun _ _ _ h => h) (Or.inr ⟨by rfl, rfl⟩) (by assumption) ?_
          (try simp only [Act.put, List.getElem_toArray, List.getElem_cons_zero, List.getElem_cons_succ, List.setIfInBounds_toArray, List.set_cons_zero, List.set_cons_succ])
          refine wpAnyH_take (i := 15) (oi := ({ dst := some 32, op := Go.Op.fieldAddr 24 (Go.Operand.tmp 31) 1, type := 0, pos := "ref.go:71", after := #[{ on := 14, ground := Go.Ground.data }, { on := 11, ground := Go.Ground.guard }], guard := some (11, false) } : Go.Oper)) (v := undef) rfl (by kernel_rfl) (by kernel_rfl) (by kernel_rfl) (fun _ _ _ h => h) (Or.inr ⟨by rfl, rfl⟩) (by assumption) ?_
          (try simp only [Act.put, List.getElem_toArray, List.getElem_cons_zero, List.getElem_cons_succ, List.setIfInBounds_toArray, List.set_cons_zero, List.set_cons_succ])
          refine wpAnyH_take (i := 16) (oi := ({ dst := some 33, op := Go.Op.load 22 (Go.Operand.tmp 32), type := 22, pos := "ref.go:71", after := #[{ on := 15, ground := Go.Ground.data }, { on := 11, ground := Go.Ground.guard }], guard := some (11, false) } : Go.Oper)) (v := undef) rfl (by kernel_rfl) (by kernel_rfl) (by kernel_rfl) (fun _ _ _ h => h) (Or.inr ⟨by rfl, rfl⟩) (by assumption) ?_
          (try simp only [Act.put, List.getElem_toArray, List.getElem_cons_zero, List.getElem_cons_succ, List.setIfInBounds_toArray, List.set_cons_zero, List.set_cons_succ])
          refine wpAnyH_take (i := 17) (oi := ({ dst := some 34, op := Go.Op.move (Go.Operand.tmp 1), type := 26, pos := "ref.go:71", after := #[{ on := 11, ground := Go.Ground.guard }], guard := some (11, false) } : Go.Oper)) (v := undef) rfl (by kernel_rfl) (by kernel_rfl) (by kernel_rfl) (fun _ _ _ h => h) (Or.inr ⟨by rfl, rfl⟩) (by assumption) ?_
          (try simp only [Act.put, List.getElem_toArray, List.getElem_cons_zero, List.getElem_cons_succ, List.setIfInBounds_toArray, List.set_cons_zero, List.set_cons_succ])
          refine wpAnyH_take (i := 18) (oi := ({ dst := some 35, op := Go.Op.move (Go.Operand.tmp 5), type := 3, pos := "ref.go:71", after := #[{ on := 11, ground := Go.Ground.guard }], guard := some (11, false) } : Go.Oper)) (v := undef) rfl (by kernel_rfl) (by kernel_rfl) (by kernel_rfl) (fun _ _ _ h => h) (Or.inr ⟨by rfl, rfl⟩) (by assumption) ?_
          (try simp only [Act.put, List.getElem_toArray, List.getElem_cons_zero, List.getElem_cons_succ, List.setIfInBounds_toArray, List.set_cons_zero, List.set_cons_succ])
          refine wpAnyH_take (i := 19) (oi := ({ dst := some 36, op := Go.Op.indexAddr 26 (Go.Operand.tmp 34) (Go.Operand.tmp 35), type := 0, pos := "ref.go:71", after := #[{ on := 17, ground := Go.Ground.data }, { on := 18, ground := Go.Ground.data }, { on := 11, ground := Go.Ground.guard }], guard := some (11, false) } : Go.Oper)) (v := undef) rfl (by kernel_rfl) (by kernel_rfl) (by kernel_rfl) (fun _ _ _ h => h) (Or.inr ⟨by rfl, rfl⟩) (by assumption) ?_
          (try simp only [Act.put, List.getElem_toArray, List.getElem_cons_zero, List.getElem_cons_succ, List.setIfInBounds_toArray, List.set_cons_zero, List.set_cons_succ])
          refine wpAnyH_take (i := 20) (oi := ({ dst := some 37, op := Go.Op.fieldAddr 24 (Go.Operand.tmp 36) 1, type := 0, pos := "ref.go:71", after := #[{ on := 19, ground := Go.Ground.data }, { on := 11, ground := Go.Ground.guard }], guard := some (11, false) } : Go.Oper)) (v := undef) rfl (by kernel_rfl) (by kernel_rfl) (by kernel_rfl) (fun _ _ _ h => h) (Or.inr ⟨by rfl, rfl⟩) (by assumption) ?_
          (try simp only [Act.put, List.getElem_toArray, List.getElem_cons_zero, List.getElem_cons_succ, List.setIfInBounds_toArray, List.set_cons_zero, List.set_cons_succ])
          refine wpAnyH_take (i := 21) (oi := ({ dst := some 38, op := Go.Op.load 22 (Go.Operand.tmp 37), type := 22, pos := "ref.go:71", after := #[{ on := 20, ground := Go.Ground.data }, { on := 11, ground := Go.Ground.guard }], guard := some (11, false) } : Go.Oper)) (v := undef) rfl (by kernel_rfl) (by kernel_rfl) (by kernel_rfl) (fun _ _ _ h => h) (Or.inr ⟨by rfl, rfl⟩) (by assumption) ?_
          (try simp only [Act.put, List.getElem_toArray, List.getElem_cons_zero, List.getElem_cons_succ, List.setIfInBounds_toArray, List.set_cons_zero, List.set_cons_succ])
          refine wpAnyH_take (i := 22) (oi := ({ dst := some 39, op := Go.Op.call { callee := Go.Callee.value (Go.Operand.func 35), args := #[Go.Operand.tmp 33, Go.Operand.tmp 38], argTypes := #[22, 22] }, type := 4, pos := "ref.go:71", after := #[{ on := 16, ground := Go.Ground.data }, { on := 21, ground := Go.Ground.data }, { on := 11, ground := Go.Ground.chain }, { on := 11, ground := Go.Ground.guard }], guard := some (11, false) } : Go.Oper)) (v := undef) rfl (by kernel_rfl) (by kernel_rfl) (by kernel_rfl) (fun _ _ _ h => h) (Or.inr ⟨by rfl, rfl⟩) (by assumption) ?_
          (try simp only [Act.put, List.getElem_toArray, List.getElem_cons_zero, List.getElem_cons_succ, List.setIfInBounds_toArray, List.set_cons_zero, List.set_cons_succ])
          refine wpAnyH_take (i := 23) (oi := ({ dst := some 40, op := Go.Op.unOp Go.UnOp.not 4 (Go.Operand.tmp 39), type := 4, pos := "ref.go:71", after := #[{ on := 22, ground := Go.Ground.data }, { on := 11, ground := Go.Ground.guard }], guard := some (11, false) } : Go.Oper)) (v := undef) rfl (by kernel_rfl) (by kernel_rfl) (by kernel_rfl) (fun _ _ _ h => h) (Or.inr ⟨by rfl, rfl⟩) (by assumption) ?_
          (try simp only [Act.put, List.getElem_toArray, List.getElem_cons_zero, List.getElem_cons_succ, List.setIfInBounds_toArray, List.set_cons_zero, List.set_cons_succ])
          refine wpAnyH_take (i := 24) (oi := ({ dst := some 41, op := Go.Op.pick (Go.Operand.tmp 28) (Go.Operand.const (Go.Value.bool true)) (Go.Operand.tmp 40), type := 4, pos := "ref.go:71", after := #[{ on := 11, ground := Go.Ground.data }, { on := 23, ground := Go.Ground.data }], guard := none } : Go.Oper)) (v := ?v61) rfl (by kernel_rfl) (by kernel_rfl) (by kernel_rfl) (fun _ _ _ h => h) (Or.inl ⟨by rfl, ?hy61⟩) (by assumption) ?rest61
          case hy61 => (intro w hSw; (try dsimp only at hSw); go_simp; (try with_reducible rfl))
          (try simp only [Act.put, List.getElem_toArray, List.getElem_cons_zero, List.getElem_cons_succ, List.setIfInBounds_toArray, List.set_cons_zero, List.set_cons_succ])
          refine wpAnyH_done (by kernel_rfl) ?_ _
          go_wp2
          go_ret
          exact ⟨ret_bool HR.out, (by with_reducible (repeat (first | exact Ext.rfl_ _ | assumption | refine Ext.drew ?_ | refine Ext.drewN ?_ _ | refine Ext.alloc ?_ _ | refine Ext.trans ?_ (by assumption))))⟩
      · have hr : true = decide (xs = ys) := by
          have e := h1.out
          rw [List.take_of_length_le (by rw [HX.out.1]; omega), List.take_of_length_le (by rw [HY.out.1]; omega)] at e
          exact (decide_eq_true e).symm
        have HR := Lib.hid hr
        clear hr
        go_wp2
        go_ret
        exact ⟨ret_bool HR.out, hE⟩
  · have hne' : ((n : Int) != (m : Int)) = true := by simp; omega
    have hr : false = decide (xs = ys) := by
      refine (decide_eq_false (fun e => hne ?_)).symm
      rw [← HX.out.1, ← HY.out.1, e]
    have HR := Lib.hid hr
    clear hr hne
    go_enter Try.func15, Try.ntmps15
    go_wp2
    go_ret
    exact ⟨ret_bool HR.out, Ext.rfl_ _⟩


open Go.RowKit

def wtB (xs : List Bat) : Nat := (xs.map fun x => wt x.es).sum
theorem wtB_take {xs : List Bat} {k : Nat} {x : Bat} (h : xs[k]? = some x) : wtB (xs.take (k + 1)) = wtB (xs.take k) + wt x.es := by
  unfold wtB
  rw [List.take_add_one, h]
  simp
theorem wt_get {xs : List Ent} {k : Nat} {x : Ent} (h : xs[k]? = some x) : wt (xs.take (k + 1)) = wt (xs.take k) + (1 + x.key.length + x.val.length) := by
  unfold wt
  rw [List.take_add_one, h]
  simp [wtE]
theorem wtB_mem {xs : List Bat} {x : Bat} (h : x ∈ xs) : wt x.es ≤ wtB xs := by
  unfold wtB
  induction xs with
  | nil => cases h
  | cons y ys ih =>
    rw [List.map_cons, List.sum_cons]
    rcases List.mem_cons.1 h with rfl | h
    · omega
    · have := ih h; omega

/- How many bytes a batch has. -/
theorem numF_small {f n k : Nat} (h : n < 128 ^ k) (hk : 1 ≤ k) : (numF f n).length ≤ k := by
  induction f generalizing n k with
  | zero => simp [numF]
  | succ f ih =>
    unfold numF
    split
    · simpa using hk
    · rename_i hn
      rw [List.length_cons]
      by_cases h2 : 2 ≤ k
      · have e : 128 ^ k = 128 * 128 ^ (k - 1) := by
          conv => lhs; rw [show k = (k - 1) + 1 by omega, Nat.pow_succ, Nat.mul_comm]
        have := ih (n := n / 128) (k := k - 1) (by rw [e] at h; exact Nat.div_lt_of_lt_mul h) (by omega)
        omega
      · obtain rfl : k = 1 := by omega
        exact absurd h (by simpa using hn)
theorem numB_small {n : Nat} (k : Nat) (h : n < 128 ^ k) (hk : 1 ≤ k) : (numB n).length ≤ k := numF_small h hk
theorem lstE_few {e : Ent} (h : mayE e = true) : (lstE e).length ≤ 7 * wtE e := by
  obtain ⟨h1, h2, h3, h4, h5, h6⟩ := mayE_iff.1 h
  have a1 := numB_small (n := e.key.length) 1 (by omega) (by decide)
  have a2 := numB_small (n := e.seq.toNat) 5 (by omega) (by decide)
  have a3 := numB_small (n := e.kind.toNat) 1 (by omega) (by decide)
  have a4 := numB_small (n := e.val.length) 3 (by omega) (by decide)
  have he : (entB e).length ≤ 10 + e.key.length + e.val.length := by
    unfold entB bytB
    split <;> simp only [List.length_append, List.length_nil] <;> omega
  have a5 := numB_small (n := (entB e).length) 3 (by omega) (by decide)
  unfold lstE
  rw [wrE_yes h]
  unfold bytB wtE
  rw [List.length_append]
  omega
theorem lisB_few {xs : List Ent} (h : allMay xs = true) (hl : xs.length ≤ 65536) : (lisB xs).length ≤ 3 + 7 * wt xs := by
  have a1 := numB_small (n := xs.length) 3 (by omega) (by decide)
  have a2 : ((xs.map lstE).flatten).length ≤ 7 * wt xs := by
    clear hl a1
    induction xs with
    | nil => simp
    | cons x xs ih =>
      unfold allMay at h ih
      rw [List.all_cons, Bool.and_eq_true] at h
      have := lstE_few h.1
      have := ih h.2
      have e : wt (x :: xs) = wtE x + wt xs := by simp [wt]
      rw [List.map_cons, List.flatten_cons, List.length_append, e]
      omega
  unfold lisB
  rw [List.length_append]
  omega
theorem payB_len {x : Bat} (h : mayW x = true) (hw : wt x.es ≤ 60000) : (payB x).length ≤ 11 + 7 * wt x.es := by
  obtain ⟨h1, h2, h3, h4⟩ := mayW_iff.1 h
  have a1 := lisB_few h4 h3
  have a2 := numB_small (n := x.idx.toNat) 5 (by omega) (by decide)
  have a3 := numB_small (n := (lisB x.es).length) 3 (by omega) (by decide)
  unfold payB bytB
  simp only [List.length_append]
  omega
theorem payB_may {x : Bat} (h : mayW x = true) (hw : wt x.es ≤ 60000) : mayF (payB x).length = true := by
  have := payB_len h hw
  have := fpay_pos x
  unfold mayF
  simp
  omega
theorem wrW_len {x : Bat} (hw : wt x.es ≤ 60000) : (wrW x).length ≤ 19 + 7 * wt x.es := by
  unfold wrW
  split
  · rename_i h
    have := payB_len h.1 hw
    rw [frm_len]
    omega
  · simp
theorem wt_len (xs : List Ent) : xs.length ≤ wt xs := by
  induction xs with
  | nil => simp [wt]
  | cons x xs ih =>
    have e : wt (x :: xs) = wtE x + wt xs := by simp [wt]
    rw [e, List.length_cons]
    unfold wtE
    omega
theorem wtB_one (x : Bat) : wtB [x] = wt x.es := by simp [wtB]

/-- A slice of batches of any length that reads as xs. -/
def RdLW (w : World) (A : Option Addr) (n : Nat) (xs : List Bat) : Prop :=
  xs.length = n ∧ n ≤ B47 ∧ (0 < n → ∃ b o, A = some ⟨b, o, none⟩ ∧ ∀ k (h : k < xs.length), ∃ A1 n1 c1, w.cell? ⟨b, o + k * 2, none⟩ = some (.int .i64 xs[k].idx) ∧ w.cell? ⟨b, o + k * 2 + 1, none⟩ = some (.slice A1 n1 c1) ∧ RdL w A1 n1 xs[k].es ∧ n1 ≤ c1)
theorem RdLW.nil (w : World) (A : Option Addr) : RdLW w A 0 [] := ⟨rfl, Nat.zero_le _, fun h => absurd h (by omega)⟩
theorem RdLW.rd {w : World} {A : Option Addr} {n : Nat} {xs : List Bat} (h : RdLW w A n xs) (hn : n ≤ B41) : RdLB w A n xs := ⟨h.1, hn, h.2.2⟩
theorem RdLB.wide {w : World} {A : Option Addr} {n : Nat} {xs : List Bat} (h : RdLB w A n xs) : RdLW w A n xs := ⟨h.1, Nat.le_trans h.2.1 (by decide), h.2.2⟩
theorem RdLW.ext {w w' : World} {A : Option Addr} {n : Nat} {xs : List Bat} (h : RdLW w A n xs) (he : Ext w w') : RdLW w' A n xs :=
  ⟨h.1, h.2.1, fun hn => by
    obtain ⟨b, o, e, hc⟩ := h.2.2 hn
    refine ⟨b, o, e, fun k hk => ?_⟩
    obtain ⟨A1, n1, c1, h0, h1, h2, h3⟩ := hc k hk
    exact ⟨A1, n1, c1, he.keeps _ _ _ h0, he.keeps _ _ _ h1, h2.ext he, h3⟩⟩
theorem RdLW.at_ {w : World} {A : Option Addr} {n : Nat} {xs : List Bat} (h : RdLW w A n xs) (k : Nat) (hk : k < n) :
    ∃ b o A1 n1 c1 x, A = some ⟨b, o, none⟩ ∧ xs[k]? = some x ∧ w.cell? ⟨b, o + k * 2, none⟩ = some (.int .i64 x.idx) ∧ w.cell? ⟨b, o + k * 2 + 1, none⟩ = some (.slice A1 n1 c1) ∧ RdL w A1 n1 x.es ∧ n1 ≤ c1 := by
  obtain ⟨b, o, e, hc⟩ := h.2.2 (by omega)
  have hk' : k < xs.length := by rw [h.1]; exact hk
  obtain ⟨A1, n1, c1, h0, h1, h2, h3⟩ := hc k hk'
  exact ⟨b, o, A1, n1, c1, xs[k], e, List.getElem?_eq_getElem hk', h0, h1, h2, h3⟩

/-- What the law's much answers: false just where the batches are few and small. -/
def MuchE (xs : List Bat) (e : Ending) : Prop := ∃ r, e = .returned (.bool r) ∧ (r = false → xs.length ≤ 100 ∧ wtB xs ≤ 60000)
theorem MuchE.yes (xs : List Bat) : MuchE xs (.returned (.bool true)) := ⟨true, rfl, fun h => by cases h⟩
theorem MuchE.no {xs : List Bat} (h1 : xs.length ≤ 100) (h2 : wtB xs ≤ 60000) : MuchE xs (.returned (.bool false)) := ⟨false, rfl, fun _ => ⟨h1, h2⟩⟩

set_option maxRecDepth 100000 in
set_option maxHeartbeats 4000000 in
theorem much_any (A : Option Addr) (n c : Nat) (xs : List Bat) (w : World) (hl : RdLW w A n xs) :
    Calls Try.prog 9 #[.slice A n c] w fun e w' => MuchE xs e ∧ Ext w w' := by
  have HL := Lib.hid hl
  have hn := hl.2.1
  unfold B47 at hn
  clear hl
  go_enter Try.func9, Try.ntmps9
  go_wp2
  go_loopw [3, 4] (fun t i wr => ∃ N k : Nat, t = .int .i64 N ∧ i = .int .i64 k ∧ k ≤ n ∧ k ≤ 101 ∧ N ≤ 10000000 ∧ Hid (N = wtB (xs.take k) ∧ N ≤ 60000 * k) ∧ Ext w wr) (fun _ i _ => n - (intOf i).toNat)
  case atStart => exact ⟨0, 0, rfl, rfl, Nat.zero_le _, by omega, by omega, Lib.hid ⟨rfl, by omega⟩, Ext.rfl_ _⟩
  case round =>
    obtain ⟨N, k, rfl, rfl, hk, hk1, hN, h1, hE⟩ := hrel
    by_cases c1 : (k : Int) < (n : Int)
    · by_cases c2 : (k : Int) < 101
      · obtain ⟨b, o, A1, n1, c1', x, rfl, hx, q0, q1, hr, hc1⟩ := HL.out.at_ k (by omega)
        have g1 := hE.keeps _ _ _ q1
        have HR := Lib.hid hr
        have HX := Lib.hid hx
        have hn1 := hr.2.1
        unfold B41 at hn1
        clear q0 hr hx
        by_cases h5 : 60000 < wt x.es
        · have HD := Lib.hid (decide_eq_true h5 : decide (60000 < wt x.es) = true)
          clear h5
          go_wp2_with fail
          refine (rmuch_any A1 n1 c1' 60000 x.es _ (HR.out.ext (by with_reducible (repeat (first | exact Ext.rfl_ _ | assumption | refine Ext.drew ?_ | refine Ext.drewN ?_ _ | refine Ext.alloc ?_ _ | refine Ext.trans ?_ (by assumption))))) (by omega)).mono ?_
          rintro e w4 ⟨rfl, hw4⟩
          rw [HD.out]
          go_wp2
          go_ret
          exact ⟨MuchE.yes xs, (by with_reducible (repeat (first | exact Ext.rfl_ _ | assumption | refine Ext.drew ?_ | refine Ext.drewN ?_ _ | refine Ext.alloc ?_ _ | refine Ext.trans ?_ (by assumption))))⟩
        · have H5 := Lib.hid h5
          have HD := Lib.hid (decide_eq_false h5 : decide (60000 < wt x.es) = false)
          clear h5
          go_wp2_with fail
          refine (rmuch_any A1 n1 c1' 60000 x.es _ (HR.out.ext (by with_reducible (repeat (first | exact Ext.rfl_ _ | assumption | refine Ext.drew ?_ | refine Ext.drewN ?_ _ | refine Ext.alloc ?_ _ | refine Ext.trans ?_ (by assumption))))) (by omega)).mono ?_
          rintro e w4 ⟨rfl, hw4⟩
          rw [HD.out]
          have X4 := Lib.hid (hE.trans hw4)
          clear hE hw4 g1
          go_wp2
          go_loopw [3, 5] (fun t i wr => ∃ M j : Nat, t = .int .i64 M ∧ i = .int .i64 j ∧ j ≤ n1 ∧ M ≤ 10000000 ∧ Hid (M = N + wt (x.es.take j)) ∧ Ext w wr) (fun _ i _ => n1 - (intOf i).toNat)
          case atStart => exact ⟨N, 0, rfl, rfl, Nat.zero_le _, by omega, Lib.hid rfl, X4.out⟩
          case round =>
            obtain ⟨M, j, rfl, rfl, hj, hM, h2, hE⟩ := hrel
            have g1 := hE.keeps _ _ _ q1
            by_cases c3 : (j : Int) < (n1 : Int)
            · obtain ⟨b', o', A2, n2, c2', A3, n3, c3', y, rfl, hy, ⟨p0, p1, p2, p3⟩, hs⟩ := HR.out.at_ j (by omega)
              obtain ⟨B, m, d, B', m', d', hv, r1, r2, _, b1, _, b2⟩ := hs
              simp at hv
              obtain ⟨⟨rfl, rfl, rfl⟩, rfl, rfl, rfl⟩ := hv
              have f0 := hE.keeps _ _ _ p0
              have f3 := hE.keeps _ _ _ p3
              have l1 := r1.1
              have l2 := r2.1
              have HT : Hid (wt (x.es.take (j + 1)) = wt (x.es.take j) + (1 + n2 + n3)) := Lib.hid (by rw [wt_get hy, l1, l2])
              have hw1 := wt_take_le x.es (j + 1)
              have HW : Hid (1 + n2 + n3 ≤ 60000) := Lib.hid (by have := HT.out; have := H5.out; omega)
              have hw2 : 1 + n2 + n3 ≤ 60000 := HW.out
              clear p0 p1 p2 p3 r1 r2 hy l1 l2 hw1 b1 b2
              go_wp2
              go_quiet (fail)
              go_wp2
              go_roundw
              case rel =>
                have e1 := h2.out
                have e2 := HT.out
                have e3 := H5.out
                have e4 := wt_take_le x.es (j + 1)
                have e5 := h1.out.2
                refine ⟨M + 1 + n2 + n3, j + 1, by go_num, by go_num, by omega, by omega, Lib.hid (by omega), (by with_reducible (repeat (first | exact Ext.rfl_ _ | assumption | refine Ext.drew ?_ | refine Ext.drewN ?_ _ | refine Ext.alloc ?_ _ | refine Ext.trans ?_ (by assumption))))⟩
              case measure => simp [intOf]; omega
            · go_wp2
              go_roundw
              case rel =>
                have e1 := h2.out
                have e2 := H5.out
                have e3 := h1.out
                have e4 : x.es.take j = x.es := List.take_of_length_le (by rw [HR.out.1]; omega)
                rw [e4] at e1
                refine ⟨M, k + 1, rfl, by go_num, by omega, by omega, hM, Lib.hid ⟨by rw [wtB_take HX.out]; omega, by omega⟩, (by with_reducible (repeat (first | exact Ext.rfl_ _ | assumption | refine Ext.drew ?_ | refine Ext.drewN ?_ _ | refine Ext.alloc ?_ _ | refine Ext.trans ?_ (by assumption))))⟩
              case measure => simp [intOf]; omega
      · have c4 : (100 : Int) < (n : Int) := by omega
        by_cases c3 : (60000 : Int) < (N : Int)
        · go_wp2
          go_ret
          exact ⟨MuchE.yes xs, (by with_reducible (repeat (first | exact Ext.rfl_ _ | assumption | refine Ext.drew ?_ | refine Ext.drewN ?_ _ | refine Ext.alloc ?_ _ | refine Ext.trans ?_ (by assumption))))⟩
        · go_wp2
          go_ret
          exact ⟨MuchE.yes xs, (by with_reducible (repeat (first | exact Ext.rfl_ _ | assumption | refine Ext.drew ?_ | refine Ext.drewN ?_ _ | refine Ext.alloc ?_ _ | refine Ext.trans ?_ (by assumption))))⟩
    · by_cases c3 : (60000 : Int) < (N : Int)
      · go_wp2
        go_ret
        exact ⟨MuchE.yes xs, (by with_reducible (repeat (first | exact Ext.rfl_ _ | assumption | refine Ext.drew ?_ | refine Ext.drewN ?_ _ | refine Ext.alloc ?_ _ | refine Ext.trans ?_ (by assumption))))⟩
      · by_cases c4 : (100 : Int) < (n : Int)
        · go_wp2
          go_ret
          exact ⟨MuchE.yes xs, (by with_reducible (repeat (first | exact Ext.rfl_ _ | assumption | refine Ext.drew ?_ | refine Ext.drewN ?_ _ | refine Ext.alloc ?_ _ | refine Ext.trans ?_ (by assumption))))⟩
        · have e0 : xs.take k = xs := List.take_of_length_le (by rw [HL.out.1]; omega)
          have HM : Hid (MuchE xs (.returned (.bool false))) := Lib.hid (MuchE.no (by rw [HL.out.1]; omega) (by have := h1.out.1; rw [e0] at this; omega))
          clear e0
          go_wp2
          go_ret
          exact ⟨HM.out, (by with_reducible (repeat (first | exact Ext.rfl_ _ | assumption | refine Ext.drew ?_ | refine Ext.drewN ?_ _ | refine Ext.alloc ?_ _ | refine Ext.trans ?_ (by assumption))))⟩

end Go.Proofs.Ythdahmicjlplcaa
