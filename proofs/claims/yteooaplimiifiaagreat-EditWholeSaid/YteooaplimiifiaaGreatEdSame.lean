/- edit.Same and the reference's Same. Conditions: the versions read. -/
import Derived.Test.YteooaplimiifiaaGreatEdMay
namespace Go.Proofs.YteooaplimiifiaaGreat
set_option linter.unusedSimpArgs false
set_option linter.unusedVariables false
set_option maxRecDepth 100000
open Go.RowKit

theorem strT_eq (x : Bs) : ((⟨x.toArray⟩ : ByteArray) == ⟨x.toArray⟩) = true := by
  change (x.toArray == x.toArray) = true
  simp
theorem strT_ne {x y : Bs} (h : x ≠ y) : ((⟨x.toArray⟩ : ByteArray) == ⟨y.toArray⟩) = false := by
  change (x.toArray == y.toArray) = false
  simp [h]



set_option maxRecDepth 100000 in
set_option maxHeartbeats 8000000 in
theorem rsameT_any (A : Option Addr) (n c : Nat) (B : Option Addr) (m d : Nat) (xs ys : List Tab) (w : World) (hx : RdLT w A n xs) (hy : RdLT w B m ys) :
    Calls Tryz.prog 39 #[.slice A n c, .slice B m d] w fun e w' => e = .returned (.bool (decide (xs = ys))) ∧ Ext w w' := by
  have HX := Lib.hid hx
  have HY := Lib.hid hy
  have hn := hx.2.1
  have hm := hy.2.1
  unfold B47 at hn hm
  clear hx hy
  by_cases hne : n = m
  · subst hne
    go_enter Tryz.func39, Tryz.ntmps39
    go_wp2
    go_loopw [5] (fun i wr => ∃ k : Nat, i = .int .i64 k ∧ k ≤ n ∧ Hid (xs.take k = ys.take k) ∧ Ext w wr) (fun i _ => n - (intOf i).toNat)
    case atStart => exact ⟨0, rfl, Nat.zero_le _, Lib.hid rfl, Ext.rfl_ _⟩
    case round =>
      obtain ⟨k, rfl, hk, h1, hE⟩ := hrel
      by_cases c1 : (k : Int) < (n : Int)
      rotate_left
      · have hr : true = decide (xs = ys) := by
          have e := h1.out
          rw [List.take_of_length_le (by rw [HX.out.1]; omega), List.take_of_length_le (by rw [HY.out.1]; omega)] at e
          exact (decide_eq_true e).symm
        have HR := Lib.hid hr
        clear hr
        go_wp2
        go_ret
        exact ⟨ret_bool HR.out, hE⟩
      obtain ⟨b, o, A1, n1, c1', A2, n2, c2', x, rfl, hx, ⟨q0, q1, q2, q3, q4⟩, hr⟩ := (HX.out.ext hE).at_ k (by omega)
      obtain ⟨b', o', A1', n1', d1', A2', n2', d2', y, rfl, hy, ⟨p0, p1, p2, p3, p4⟩, hs⟩ := (HY.out.ext hE).at_ k (by omega)
      have HR1 := Lib.hid hr
      have HR2 := Lib.hid hs
      have hkx : k < xs.length := by rw [HX.out.1]; omega
      have hky : k < ys.length := by rw [HY.out.1]; omega
      have ex : xs[k] = x := by rw [List.getElem?_eq_getElem hkx] at hx; exact Option.some.inj hx
      have ey : ys[k] = y := by rw [List.getElem?_eq_getElem hky] at hy; exact Option.some.inj hy
      have EX := Lib.hid ex
      have EY := Lib.hid ey
      have HNO : Hid (x ≠ y → false = decide (xs = ys)) := Lib.hid (fun h => by
        refine (decide_eq_false (fun e => h ?_)).symm
        rw [← EX.out, ← EY.out]
        subst e; rfl)
      have HYES : Hid (x = y → xs.take (k + 1) = ys.take (k + 1)) := Lib.hid (fun h => by
        rw [List.take_succ_eq_append_getElem hkx, List.take_succ_eq_append_getElem hky, h1.out, EX.out, EY.out, h])
      have HS : Hid (∀ W, Ext wr W → (W.cell? ⟨b, o + k * 5, none⟩ = some (.int .i64 x.num) ∧ W.cell? ⟨b, o + k * 5 + 1, none⟩ = some (.int .i64 x.lvl) ∧ W.cell? ⟨b, o + k * 5 + 2, none⟩ = some (.slice A1 n1 c1') ∧ W.cell? ⟨b, o + k * 5 + 3, none⟩ = some (.slice A2 n2 c2') ∧ W.cell? ⟨b, o + k * 5 + 4, none⟩ = some (.int .i64 x.size)) ∧ (W.cell? ⟨b', o' + k * 5, none⟩ = some (.int .i64 y.num) ∧ W.cell? ⟨b', o' + k * 5 + 1, none⟩ = some (.int .i64 y.lvl) ∧ W.cell? ⟨b', o' + k * 5 + 2, none⟩ = some (.slice A1' n1' d1') ∧ W.cell? ⟨b', o' + k * 5 + 3, none⟩ = some (.slice A2' n2' d2') ∧ W.cell? ⟨b', o' + k * 5 + 4, none⟩ = some (.int .i64 y.size))) := Lib.hid fun W K => ⟨⟨K.keeps _ _ _ q0, K.keeps _ _ _ q1, K.keeps _ _ _ q2, K.keeps _ _ _ q3, K.keeps _ _ _ q4⟩, ⟨K.keeps _ _ _ p0, K.keeps _ _ _ p1, K.keeps _ _ _ p2, K.keeps _ _ _ p3, K.keeps _ _ _ p4⟩⟩
      have K1 : Hid (∀ W, Ext wr W → ∀ c src e dst, Tryz.prog.underlying src = some (.slice e) → Tryz.prog.underlying e = some (.int .u8) → Tryz.prog.underlying dst = some .string → (convert src dst (.slice A1 n1 c)).run Tryz.prog W = .ok (.string ⟨x.fst.toArray⟩) W ∧ (convert src dst (.slice A2 n2 c)).run Tryz.prog W = .ok (.string ⟨x.lst.toArray⟩) W ∧ (convert src dst (.slice A1' n1' c)).run Tryz.prog W = .ok (.string ⟨y.fst.toArray⟩) W ∧ (convert src dst (.slice A2' n2' c)).run Tryz.prog W = .ok (.string ⟨y.lst.toArray⟩) W) := Lib.hid (fun W K c src e dst h1 h2 h3 => by
        obtain ⟨_, _, _, _, _, _, e1, r1, r2, _⟩ := HR1.out.ext K
        obtain ⟨_, _, _, _, _, _, e2, s1, s2, _⟩ := HR2.out.ext K
        cases e1
        cases e2
        exact ⟨r1.str c src e dst h1 h2 h3, r2.str c src e dst h1 h2 h3, s1.str c src e dst h1 h2 h3, s2.str c src e dst h1 h2 h3⟩)
      clear hr hs hx hy ex ey q0 q1 q2 q3 q4 p0 p1 p2 p3 p4
      by_cases a0 : x.num = y.num
      rotate_left
      · have HR := Lib.hid (HNO.out (fun h => a0 (by rw [h])))
        have e0 : (x.num != y.num) = true := by simp [a0]
        clear a0
        go_wp2
        refine wp_region_held_drew (S := (fun W => (W.cell? ⟨b, o + k * 5, none⟩ = some (.int .i64 x.num) ∧ W.cell? ⟨b, o + k * 5 + 1, none⟩ = some (.int .i64 x.lvl) ∧ W.cell? ⟨b, o + k * 5 + 2, none⟩ = some (.slice A1 n1 c1') ∧ W.cell? ⟨b, o + k * 5 + 3, none⟩ = some (.slice A2 n2 c2') ∧ W.cell? ⟨b, o + k * 5 + 4, none⟩ = some (.int .i64 x.size)) ∧ (W.cell? ⟨b', o' + k * 5, none⟩ = some (.int .i64 y.num) ∧ W.cell? ⟨b', o' + k * 5 + 1, none⟩ = some (.int .i64 y.lvl) ∧ W.cell? ⟨b', o' + k * 5 + 2, none⟩ = some (.slice A1' n1' d1') ∧ W.cell? ⟨b', o' + k * 5 + 3, none⟩ = some (.slice A2' n2' d2') ∧ W.cell? ⟨b', o' + k * 5 + 4, none⟩ = some (.int .i64 y.size)))) (by kernel_rfl) (by (try dsimp only); exact HS.out _ (by with_reducible (repeat (first | exact Ext.rfl_ _ | assumption | refine Ext.drew ?_ | refine Ext.drewN ?_ _ | refine Ext.alloc ?_ _ | refine Ext.setCell ?_ (by first | (simp; done) | (simp; omega)) _ | refine Ext.trans ?_ (by assumption))))) (fun hHeld => ?_)
        refine wpAnyH_take (i := 0) (oi := ({ dst := some 19, op := .move (.tmp 0), type := 22, pos := "ref.go:122", after := #[], guard := none } : Go.Oper)) (v := ?v1) rfl (by kernel_rfl) (by kernel_rfl) (by kernel_rfl) (fun _ _ _ h => h) (Or.inl ⟨by rfl, ?hy1⟩) (by assumption) ?rest1
        case hy1 => (intro w hSw; (try dsimp only at hSw); go_simp; (try with_reducible rfl))
        (try simp only [Act.put, List.getElem_toArray, List.getElem_cons_zero, List.getElem_cons_succ, List.setIfInBounds_toArray, List.set_cons_zero, List.set_cons_succ])
        refine wpAnyH_take (i := 1) (oi := ({ dst := some 20, op := .move (.tmp 5), type := 3, pos := "ref.go:122", after := #[], guard := none } : Go.Oper)) (v := ?v2) rfl (by kernel_rfl) (by kernel_rfl) (by kernel_rfl) (fun _ _ _ h => h) (Or.inl ⟨by rfl, ?hy2⟩) (by assumption) ?rest2
        case hy2 => (intro w hSw; (try dsimp only at hSw); go_simp; (try with_reducible rfl))
        (try simp only [Act.put, List.getElem_toArray, List.getElem_cons_zero, List.getElem_cons_succ, List.setIfInBounds_toArray, List.set_cons_zero, List.set_cons_succ])
        refine wpAnyH_take (i := 2) (oi := ({ dst := some 21, op := .indexAddr 22 (.tmp 19) (.tmp 20), type := 0, pos := "ref.go:122", after := #[⟨0, .data⟩, ⟨1, .data⟩], guard := none } : Go.Oper)) (v := ?v3) rfl (by kernel_rfl) (by kernel_rfl) (by kernel_rfl) (fun _ _ _ h => h) (Or.inl ⟨by rfl, ?hy3⟩) (by assumption) ?rest3
        case hy3 => (intro w hSw; (try dsimp only at hSw); go_simp; (try with_reducible rfl))
        (try simp only [Act.put, List.getElem_toArray, List.getElem_cons_zero, List.getElem_cons_succ, List.setIfInBounds_toArray, List.set_cons_zero, List.set_cons_succ])
        refine wpAnyH_take (i := 3) (oi := ({ dst := some 22, op := .load 42 (.tmp 21), type := 42, pos := "ref.go:122", after := #[⟨2, .data⟩], guard := none } : Go.Oper)) (v := ?v4) rfl (by kernel_rfl) (by kernel_rfl) (by kernel_rfl) (fun _ _ _ h => h) (Or.inl ⟨by rfl, ?hy4⟩) (by assumption) ?rest4
        case hy4 => (intro w hSw; (try dsimp only at hSw); go_simp; (try with_reducible rfl))
        (try simp only [Act.put, List.getElem_toArray, List.getElem_cons_zero, List.getElem_cons_succ, List.setIfInBounds_toArray, List.set_cons_zero, List.set_cons_succ])
        refine wpAnyH_take (i := 4) (oi := ({ dst := some 23, op := .move (.tmp 1), type := 22, pos := "ref.go:122", after := #[⟨10, .gcOnly .lateStores⟩], guard := none } : Go.Oper)) (v := ?v5) rfl (by kernel_rfl) (by kernel_rfl) (by kernel_rfl) (fun _ _ _ h => h) (Or.inl ⟨by rfl, ?hy5⟩) (by assumption) ?rest5
        case hy5 => (intro w hSw; (try dsimp only at hSw); go_simp; (try with_reducible rfl))
        (try simp only [Act.put, List.getElem_toArray, List.getElem_cons_zero, List.getElem_cons_succ, List.setIfInBounds_toArray, List.set_cons_zero, List.set_cons_succ])
        refine wpAnyH_take (i := 5) (oi := ({ dst := some 24, op := .move (.tmp 5), type := 3, pos := "ref.go:122", after := #[⟨10, .gcOnly .lateStores⟩], guard := none } : Go.Oper)) (v := ?v6) rfl (by kernel_rfl) (by kernel_rfl) (by kernel_rfl) (fun _ _ _ h => h) (Or.inl ⟨by rfl, ?hy6⟩) (by assumption) ?rest6
        case hy6 => (intro w hSw; (try dsimp only at hSw); go_simp; (try with_reducible rfl))
        (try simp only [Act.put, List.getElem_toArray, List.getElem_cons_zero, List.getElem_cons_succ, List.setIfInBounds_toArray, List.set_cons_zero, List.set_cons_succ])
        refine wpAnyH_take (i := 6) (oi := ({ dst := some 25, op := .indexAddr 22 (.tmp 23) (.tmp 24), type := 0, pos := "ref.go:122", after := #[⟨4, .data⟩, ⟨5, .data⟩, ⟨10, .gcOnly .lateStores⟩], guard := none } : Go.Oper)) (v := ?v7) rfl (by kernel_rfl) (by kernel_rfl) (by kernel_rfl) (fun _ _ _ h => h) (Or.inl ⟨by rfl, ?hy7⟩) (by assumption) ?rest7
        case hy7 => (intro w hSw; (try dsimp only at hSw); go_simp; (try with_reducible rfl))
        (try simp only [Act.put, List.getElem_toArray, List.getElem_cons_zero, List.getElem_cons_succ, List.setIfInBounds_toArray, List.set_cons_zero, List.set_cons_succ])
        refine wpAnyH_take (i := 7) (oi := ({ dst := some 26, op := .load 42 (.tmp 25), type := 42, pos := "ref.go:122", after := #[⟨6, .data⟩, ⟨10, .gcOnly .lateStores⟩], guard := none } : Go.Oper)) (v := ?v8) rfl (by kernel_rfl) (by kernel_rfl) (by kernel_rfl) (fun _ _ _ h => h) (Or.inl ⟨by rfl, ?hy8⟩) (by assumption) ?rest8
        case hy8 => (intro w hSw; (try dsimp only at hSw); go_simp; (try with_reducible rfl))
        (try simp only [Act.put, List.getElem_toArray, List.getElem_cons_zero, List.getElem_cons_succ, List.setIfInBounds_toArray, List.set_cons_zero, List.set_cons_succ])
        refine wpAnyH_ready (rs := [8, 9]) (by kernel_rfl) (by simp) ?_
        refine AllReadyH.cons (o := ({ dst := some 6, op := .alloc 42, type := 0, pos := "ref.go:122", after := #[], guard := none } : Go.Oper)) rfl (fun K hK => ?one9) ?more9
        case' one9 =>
          go_simp
          refine hK.out _ _ (by (try dsimp only); exact HS.out _ (by with_reducible (repeat (first | exact Ext.rfl_ _ | assumption | refine Ext.drew ?_ | refine Ext.drewN ?_ _ | refine Ext.alloc ?_ _ | refine Ext.setCell ?_ (by first | (simp; done) | (simp; omega)) _ | refine Ext.trans ?_ (by assumption))))) (fun hHeld => ?_)
          clear hK K
          (try simp only [Act.put, List.getElem_toArray, List.getElem_cons_zero, List.getElem_cons_succ, List.setIfInBounds_toArray, List.set_cons_zero, List.set_cons_succ])
          refine wpAnyH_ready (rs := [9]) (by kernel_rfl) (by simp) ?_
          refine AllReadyH.cons (o := ({ dst := some 7, op := .alloc 42, type := 0, pos := "ref.go:122", after := #[], guard := none } : Go.Oper)) rfl (fun K hK => ?_) AllReadyH.nil
          go_simp
          refine hK.out _ _ (by (try dsimp only); exact HS.out _ (by with_reducible (repeat (first | exact Ext.rfl_ _ | assumption | refine Ext.drew ?_ | refine Ext.drewN ?_ _ | refine Ext.alloc ?_ _ | refine Ext.setCell ?_ (by first | (simp; done) | (simp; omega)) _ | refine Ext.trans ?_ (by assumption))))) (fun hHeld => ?_)
          clear hK K
          (try simp only [Act.put, List.getElem_toArray, List.getElem_cons_zero, List.getElem_cons_succ, List.setIfInBounds_toArray, List.set_cons_zero, List.set_cons_succ])
          refine wpAnyH_ready (rs := [10]) (by kernel_rfl) (by simp) ?_
          refine AllReadyH.cons (o := ({ dst := none, op := .store 42 (.tmp 6) (.tmp 22), type := 0, pos := "ref.go:122", after := #[⟨8, .data⟩, ⟨3, .data⟩, ⟨0, .phase⟩, ⟨1, .phase⟩, ⟨2, .phase⟩, ⟨3, .phase⟩, ⟨4, .textOnly .lateStores⟩, ⟨5, .textOnly .lateStores⟩, ⟨6, .textOnly .lateStores⟩, ⟨7, .textOnly .lateStores⟩, ⟨8, .phase⟩, ⟨9, .phase⟩], guard := none } : Go.Oper)) rfl (fun K hK => ?_) AllReadyH.nil
          go_simp
          refine hK.out _ _ (by (try dsimp only); exact HS.out _ (by with_reducible (repeat (first | exact Ext.rfl_ _ | assumption | refine Ext.drew ?_ | refine Ext.drewN ?_ _ | refine Ext.alloc ?_ _ | refine Ext.setCell ?_ (by first | (simp; done) | (simp; omega)) _ | refine Ext.trans ?_ (by assumption))))) (fun hHeld => ?_)
          clear hK K
          (try simp only [Act.put, List.getElem_toArray, List.getElem_cons_zero, List.getElem_cons_succ, List.setIfInBounds_toArray, List.set_cons_zero, List.set_cons_succ])
          refine wpAnyH_ready (rs := [11]) (by kernel_rfl) (by simp) ?_
          refine AllReadyH.cons (o := ({ dst := none, op := .store 42 (.tmp 7) (.tmp 26), type := 0, pos := "ref.go:122", after := #[⟨9, .data⟩, ⟨7, .data⟩, ⟨10, .chain⟩, ⟨0, .phase⟩, ⟨1, .phase⟩, ⟨2, .phase⟩, ⟨3, .phase⟩, ⟨4, .phase⟩, ⟨5, .phase⟩, ⟨6, .phase⟩, ⟨7, .phase⟩, ⟨8, .phase⟩, ⟨9, .phase⟩, ⟨10, .phase⟩], guard := none } : Go.Oper)) rfl (fun K hK => ?_) AllReadyH.nil
          go_simp
          refine hK.out _ _ (by (try dsimp only); exact HS.out _ (by with_reducible (repeat (first | exact Ext.rfl_ _ | assumption | refine Ext.drew ?_ | refine Ext.drewN ?_ _ | refine Ext.alloc ?_ _ | refine Ext.setCell ?_ (by first | (simp; done) | (simp; omega)) _ | refine Ext.trans ?_ (by assumption))))) (fun hHeld => ?_)
          clear hK K
          (try simp only [Act.put, List.getElem_toArray, List.getElem_cons_zero, List.getElem_cons_succ, List.setIfInBounds_toArray, List.set_cons_zero, List.set_cons_succ])
          refine wpAnyH_done (by kernel_rfl) ?_ _
        case' more9 =>
          refine AllReadyH.cons (o := ({ dst := some 7, op := .alloc 42, type := 0, pos := "ref.go:122", after := #[], guard := none } : Go.Oper)) rfl (fun K hK => ?_) AllReadyH.nil
          go_simp
          refine hK.out _ _ (by (try dsimp only); exact HS.out _ (by with_reducible (repeat (first | exact Ext.rfl_ _ | assumption | refine Ext.drew ?_ | refine Ext.drewN ?_ _ | refine Ext.alloc ?_ _ | refine Ext.setCell ?_ (by first | (simp; done) | (simp; omega)) _ | refine Ext.trans ?_ (by assumption))))) (fun hHeld => ?_)
          clear hK K
          (try simp only [Act.put, List.getElem_toArray, List.getElem_cons_zero, List.getElem_cons_succ, List.setIfInBounds_toArray, List.set_cons_zero, List.set_cons_succ])
          refine wpAnyH_ready (rs := [8]) (by kernel_rfl) (by simp) ?_
          refine AllReadyH.cons (o := ({ dst := some 6, op := .alloc 42, type := 0, pos := "ref.go:122", after := #[], guard := none } : Go.Oper)) rfl (fun K hK => ?_) AllReadyH.nil
          go_simp
          refine hK.out _ _ (by (try dsimp only); exact HS.out _ (by with_reducible (repeat (first | exact Ext.rfl_ _ | assumption | refine Ext.drew ?_ | refine Ext.drewN ?_ _ | refine Ext.alloc ?_ _ | refine Ext.setCell ?_ (by first | (simp; done) | (simp; omega)) _ | refine Ext.trans ?_ (by assumption))))) (fun hHeld => ?_)
          clear hK K
          (try simp only [Act.put, List.getElem_toArray, List.getElem_cons_zero, List.getElem_cons_succ, List.setIfInBounds_toArray, List.set_cons_zero, List.set_cons_succ])
          refine wpAnyH_ready (rs := [10]) (by kernel_rfl) (by simp) ?_
          refine AllReadyH.cons (o := ({ dst := none, op := .store 42 (.tmp 6) (.tmp 22), type := 0, pos := "ref.go:122", after := #[⟨8, .data⟩, ⟨3, .data⟩, ⟨0, .phase⟩, ⟨1, .phase⟩, ⟨2, .phase⟩, ⟨3, .phase⟩, ⟨4, .textOnly .lateStores⟩, ⟨5, .textOnly .lateStores⟩, ⟨6, .textOnly .lateStores⟩, ⟨7, .textOnly .lateStores⟩, ⟨8, .phase⟩, ⟨9, .phase⟩], guard := none } : Go.Oper)) rfl (fun K hK => ?_) AllReadyH.nil
          go_simp
          refine hK.out _ _ (by (try dsimp only); exact HS.out _ (by with_reducible (repeat (first | exact Ext.rfl_ _ | assumption | refine Ext.drew ?_ | refine Ext.drewN ?_ _ | refine Ext.alloc ?_ _ | refine Ext.setCell ?_ (by first | (simp; done) | (simp; omega)) _ | refine Ext.trans ?_ (by assumption))))) (fun hHeld => ?_)
          clear hK K
          (try simp only [Act.put, List.getElem_toArray, List.getElem_cons_zero, List.getElem_cons_succ, List.setIfInBounds_toArray, List.set_cons_zero, List.set_cons_succ])
          refine wpAnyH_ready (rs := [11]) (by kernel_rfl) (by simp) ?_
          refine AllReadyH.cons (o := ({ dst := none, op := .store 42 (.tmp 7) (.tmp 26), type := 0, pos := "ref.go:122", after := #[⟨9, .data⟩, ⟨7, .data⟩, ⟨10, .chain⟩, ⟨0, .phase⟩, ⟨1, .phase⟩, ⟨2, .phase⟩, ⟨3, .phase⟩, ⟨4, .phase⟩, ⟨5, .phase⟩, ⟨6, .phase⟩, ⟨7, .phase⟩, ⟨8, .phase⟩, ⟨9, .phase⟩, ⟨10, .phase⟩], guard := none } : Go.Oper)) rfl (fun K hK => ?_) AllReadyH.nil
          go_simp
          refine hK.out _ _ (by (try dsimp only); exact HS.out _ (by with_reducible (repeat (first | exact Ext.rfl_ _ | assumption | refine Ext.drew ?_ | refine Ext.drewN ?_ _ | refine Ext.alloc ?_ _ | refine Ext.setCell ?_ (by first | (simp; done) | (simp; omega)) _ | refine Ext.trans ?_ (by assumption))))) (fun hHeld => ?_)
          clear hK K
          (try simp only [Act.put, List.getElem_toArray, List.getElem_cons_zero, List.getElem_cons_succ, List.setIfInBounds_toArray, List.set_cons_zero, List.set_cons_succ])
          refine wpAnyH_done (by kernel_rfl) ?_ _
        all_goals
          have kkc1xa := (K1.out (World.drew ((wr.alloc (.cells #[.int .i64 x.num, .int .i64 x.lvl, .slice A1 n1 c1', .slice A2 n2 c2', .int .i64 x.size] 42)).alloc (.cells #[.int .i64 y.num, .int .i64 y.lvl, .slice A1' n1' d1', .slice A2' n2' d2', .int .i64 y.size] 42))) (by with_reducible (repeat (first | exact Ext.rfl_ _ | assumption | refine Ext.drew ?_ | refine Ext.drewN ?_ _ | refine Ext.alloc ?_ _ | refine Ext.trans ?_ (by assumption)))) c1' 35 5 9 Tryz.underlying35 Tryz.underlying5 Tryz.underlying9).1
          have kkc1xb := (K1.out (World.drew ((wr.alloc (.cells #[.int .i64 y.num, .int .i64 y.lvl, .slice A1' n1' d1', .slice A2' n2' d2', .int .i64 y.size] 42)).alloc (.cells #[.int .i64 x.num, .int .i64 x.lvl, .slice A1 n1 c1', .slice A2 n2 c2', .int .i64 x.size] 42))) (by with_reducible (repeat (first | exact Ext.rfl_ _ | assumption | refine Ext.drew ?_ | refine Ext.drewN ?_ _ | refine Ext.alloc ?_ _ | refine Ext.trans ?_ (by assumption)))) c1' 35 5 9 Tryz.underlying35 Tryz.underlying5 Tryz.underlying9).1
          have kkc2xa := (K1.out (World.drew ((wr.alloc (.cells #[.int .i64 x.num, .int .i64 x.lvl, .slice A1 n1 c1', .slice A2 n2 c2', .int .i64 x.size] 42)).alloc (.cells #[.int .i64 y.num, .int .i64 y.lvl, .slice A1' n1' d1', .slice A2' n2' d2', .int .i64 y.size] 42))) (by with_reducible (repeat (first | exact Ext.rfl_ _ | assumption | refine Ext.drew ?_ | refine Ext.drewN ?_ _ | refine Ext.alloc ?_ _ | refine Ext.trans ?_ (by assumption)))) c2' 35 5 9 Tryz.underlying35 Tryz.underlying5 Tryz.underlying9).2.1
          have kkc2xb := (K1.out (World.drew ((wr.alloc (.cells #[.int .i64 y.num, .int .i64 y.lvl, .slice A1' n1' d1', .slice A2' n2' d2', .int .i64 y.size] 42)).alloc (.cells #[.int .i64 x.num, .int .i64 x.lvl, .slice A1 n1 c1', .slice A2 n2 c2', .int .i64 x.size] 42))) (by with_reducible (repeat (first | exact Ext.rfl_ _ | assumption | refine Ext.drew ?_ | refine Ext.drewN ?_ _ | refine Ext.alloc ?_ _ | refine Ext.trans ?_ (by assumption)))) c2' 35 5 9 Tryz.underlying35 Tryz.underlying5 Tryz.underlying9).2.1
          have kkd1xa := (K1.out (World.drew ((wr.alloc (.cells #[.int .i64 x.num, .int .i64 x.lvl, .slice A1 n1 c1', .slice A2 n2 c2', .int .i64 x.size] 42)).alloc (.cells #[.int .i64 y.num, .int .i64 y.lvl, .slice A1' n1' d1', .slice A2' n2' d2', .int .i64 y.size] 42))) (by with_reducible (repeat (first | exact Ext.rfl_ _ | assumption | refine Ext.drew ?_ | refine Ext.drewN ?_ _ | refine Ext.alloc ?_ _ | refine Ext.trans ?_ (by assumption)))) d1' 35 5 9 Tryz.underlying35 Tryz.underlying5 Tryz.underlying9).2.2.1
          have kkd1xb := (K1.out (World.drew ((wr.alloc (.cells #[.int .i64 y.num, .int .i64 y.lvl, .slice A1' n1' d1', .slice A2' n2' d2', .int .i64 y.size] 42)).alloc (.cells #[.int .i64 x.num, .int .i64 x.lvl, .slice A1 n1 c1', .slice A2 n2 c2', .int .i64 x.size] 42))) (by with_reducible (repeat (first | exact Ext.rfl_ _ | assumption | refine Ext.drew ?_ | refine Ext.drewN ?_ _ | refine Ext.alloc ?_ _ | refine Ext.trans ?_ (by assumption)))) d1' 35 5 9 Tryz.underlying35 Tryz.underlying5 Tryz.underlying9).2.2.1
          have kkd2xa := (K1.out (World.drew ((wr.alloc (.cells #[.int .i64 x.num, .int .i64 x.lvl, .slice A1 n1 c1', .slice A2 n2 c2', .int .i64 x.size] 42)).alloc (.cells #[.int .i64 y.num, .int .i64 y.lvl, .slice A1' n1' d1', .slice A2' n2' d2', .int .i64 y.size] 42))) (by with_reducible (repeat (first | exact Ext.rfl_ _ | assumption | refine Ext.drew ?_ | refine Ext.drewN ?_ _ | refine Ext.alloc ?_ _ | refine Ext.trans ?_ (by assumption)))) d2' 35 5 9 Tryz.underlying35 Tryz.underlying5 Tryz.underlying9).2.2.2
          have kkd2xb := (K1.out (World.drew ((wr.alloc (.cells #[.int .i64 y.num, .int .i64 y.lvl, .slice A1' n1' d1', .slice A2' n2' d2', .int .i64 y.size] 42)).alloc (.cells #[.int .i64 x.num, .int .i64 x.lvl, .slice A1 n1 c1', .slice A2 n2 c2', .int .i64 x.size] 42))) (by with_reducible (repeat (first | exact Ext.rfl_ _ | assumption | refine Ext.drew ?_ | refine Ext.drewN ?_ _ | refine Ext.alloc ?_ _ | refine Ext.trans ?_ (by assumption)))) d2' 35 5 9 Tryz.underlying35 Tryz.underlying5 Tryz.underlying9).2.2.2
          go_wp2
          go_ret
          exact ⟨ret_bool HR.out, (by with_reducible (repeat (first | exact Ext.rfl_ _ | assumption | refine Ext.drew ?_ | refine Ext.drewN ?_ _ | refine Ext.alloc ?_ _ | refine Ext.trans ?_ (by assumption))))⟩
      have e0 : (x.num != y.num) = false := by simp [a0]
      by_cases a1 : x.lvl = y.lvl
      rotate_left
      · have HR := Lib.hid (HNO.out (fun h => a1 (by rw [h])))
        have e1 : (x.lvl != y.lvl) = true := by simp [a1]
        clear a0 a1
        go_wp2
        refine wp_region_held_drew (S := (fun W => (W.cell? ⟨b, o + k * 5, none⟩ = some (.int .i64 x.num) ∧ W.cell? ⟨b, o + k * 5 + 1, none⟩ = some (.int .i64 x.lvl) ∧ W.cell? ⟨b, o + k * 5 + 2, none⟩ = some (.slice A1 n1 c1') ∧ W.cell? ⟨b, o + k * 5 + 3, none⟩ = some (.slice A2 n2 c2') ∧ W.cell? ⟨b, o + k * 5 + 4, none⟩ = some (.int .i64 x.size)) ∧ (W.cell? ⟨b', o' + k * 5, none⟩ = some (.int .i64 y.num) ∧ W.cell? ⟨b', o' + k * 5 + 1, none⟩ = some (.int .i64 y.lvl) ∧ W.cell? ⟨b', o' + k * 5 + 2, none⟩ = some (.slice A1' n1' d1') ∧ W.cell? ⟨b', o' + k * 5 + 3, none⟩ = some (.slice A2' n2' d2') ∧ W.cell? ⟨b', o' + k * 5 + 4, none⟩ = some (.int .i64 y.size)))) (by kernel_rfl) (by (try dsimp only); exact HS.out _ (by with_reducible (repeat (first | exact Ext.rfl_ _ | assumption | refine Ext.drew ?_ | refine Ext.drewN ?_ _ | refine Ext.alloc ?_ _ | refine Ext.setCell ?_ (by first | (simp; done) | (simp; omega)) _ | refine Ext.trans ?_ (by assumption))))) (fun hHeld => ?_)
        refine wpAnyH_take (i := 0) (oi := ({ dst := some 19, op := .move (.tmp 0), type := 22, pos := "ref.go:122", after := #[], guard := none } : Go.Oper)) (v := ?v10) rfl (by kernel_rfl) (by kernel_rfl) (by kernel_rfl) (fun _ _ _ h => h) (Or.inl ⟨by rfl, ?hy10⟩) (by assumption) ?rest10
        case hy10 => (intro w hSw; (try dsimp only at hSw); go_simp; (try with_reducible rfl))
        (try simp only [Act.put, List.getElem_toArray, List.getElem_cons_zero, List.getElem_cons_succ, List.setIfInBounds_toArray, List.set_cons_zero, List.set_cons_succ])
        refine wpAnyH_take (i := 1) (oi := ({ dst := some 20, op := .move (.tmp 5), type := 3, pos := "ref.go:122", after := #[], guard := none } : Go.Oper)) (v := ?v11) rfl (by kernel_rfl) (by kernel_rfl) (by kernel_rfl) (fun _ _ _ h => h) (Or.inl ⟨by rfl, ?hy11⟩) (by assumption) ?rest11
        case hy11 => (intro w hSw; (try dsimp only at hSw); go_simp; (try with_reducible rfl))
        (try simp only [Act.put, List.getElem_toArray, List.getElem_cons_zero, List.getElem_cons_succ, List.setIfInBounds_toArray, List.set_cons_zero, List.set_cons_succ])
        refine wpAnyH_take (i := 2) (oi := ({ dst := some 21, op := .indexAddr 22 (.tmp 19) (.tmp 20), type := 0, pos := "ref.go:122", after := #[⟨0, .data⟩, ⟨1, .data⟩], guard := none } : Go.Oper)) (v := ?v12) rfl (by kernel_rfl) (by kernel_rfl) (by kernel_rfl) (fun _ _ _ h => h) (Or.inl ⟨by rfl, ?hy12⟩) (by assumption) ?rest12
        case hy12 => (intro w hSw; (try dsimp only at hSw); go_simp; (try with_reducible rfl))
        (try simp only [Act.put, List.getElem_toArray, List.getElem_cons_zero, List.getElem_cons_succ, List.setIfInBounds_toArray, List.set_cons_zero, List.set_cons_succ])
        refine wpAnyH_take (i := 3) (oi := ({ dst := some 22, op := .load 42 (.tmp 21), type := 42, pos := "ref.go:122", after := #[⟨2, .data⟩], guard := none } : Go.Oper)) (v := ?v13) rfl (by kernel_rfl) (by kernel_rfl) (by kernel_rfl) (fun _ _ _ h => h) (Or.inl ⟨by rfl, ?hy13⟩) (by assumption) ?rest13
        case hy13 => (intro w hSw; (try dsimp only at hSw); go_simp; (try with_reducible rfl))
        (try simp only [Act.put, List.getElem_toArray, List.getElem_cons_zero, List.getElem_cons_succ, List.setIfInBounds_toArray, List.set_cons_zero, List.set_cons_succ])
        refine wpAnyH_take (i := 4) (oi := ({ dst := some 23, op := .move (.tmp 1), type := 22, pos := "ref.go:122", after := #[⟨10, .gcOnly .lateStores⟩], guard := none } : Go.Oper)) (v := ?v14) rfl (by kernel_rfl) (by kernel_rfl) (by kernel_rfl) (fun _ _ _ h => h) (Or.inl ⟨by rfl, ?hy14⟩) (by assumption) ?rest14
        case hy14 => (intro w hSw; (try dsimp only at hSw); go_simp; (try with_reducible rfl))
        (try simp only [Act.put, List.getElem_toArray, List.getElem_cons_zero, List.getElem_cons_succ, List.setIfInBounds_toArray, List.set_cons_zero, List.set_cons_succ])
        refine wpAnyH_take (i := 5) (oi := ({ dst := some 24, op := .move (.tmp 5), type := 3, pos := "ref.go:122", after := #[⟨10, .gcOnly .lateStores⟩], guard := none } : Go.Oper)) (v := ?v15) rfl (by kernel_rfl) (by kernel_rfl) (by kernel_rfl) (fun _ _ _ h => h) (Or.inl ⟨by rfl, ?hy15⟩) (by assumption) ?rest15
        case hy15 => (intro w hSw; (try dsimp only at hSw); go_simp; (try with_reducible rfl))
        (try simp only [Act.put, List.getElem_toArray, List.getElem_cons_zero, List.getElem_cons_succ, List.setIfInBounds_toArray, List.set_cons_zero, List.set_cons_succ])
        refine wpAnyH_take (i := 6) (oi := ({ dst := some 25, op := .indexAddr 22 (.tmp 23) (.tmp 24), type := 0, pos := "ref.go:122", after := #[⟨4, .data⟩, ⟨5, .data⟩, ⟨10, .gcOnly .lateStores⟩], guard := none } : Go.Oper)) (v := ?v16) rfl (by kernel_rfl) (by kernel_rfl) (by kernel_rfl) (fun _ _ _ h => h) (Or.inl ⟨by rfl, ?hy16⟩) (by assumption) ?rest16
        case hy16 => (intro w hSw; (try dsimp only at hSw); go_simp; (try with_reducible rfl))
        (try simp only [Act.put, List.getElem_toArray, List.getElem_cons_zero, List.getElem_cons_succ, List.setIfInBounds_toArray, List.set_cons_zero, List.set_cons_succ])
        refine wpAnyH_take (i := 7) (oi := ({ dst := some 26, op := .load 42 (.tmp 25), type := 42, pos := "ref.go:122", after := #[⟨6, .data⟩, ⟨10, .gcOnly .lateStores⟩], guard := none } : Go.Oper)) (v := ?v17) rfl (by kernel_rfl) (by kernel_rfl) (by kernel_rfl) (fun _ _ _ h => h) (Or.inl ⟨by rfl, ?hy17⟩) (by assumption) ?rest17
        case hy17 => (intro w hSw; (try dsimp only at hSw); go_simp; (try with_reducible rfl))
        (try simp only [Act.put, List.getElem_toArray, List.getElem_cons_zero, List.getElem_cons_succ, List.setIfInBounds_toArray, List.set_cons_zero, List.set_cons_succ])
        refine wpAnyH_ready (rs := [8, 9]) (by kernel_rfl) (by simp) ?_
        refine AllReadyH.cons (o := ({ dst := some 6, op := .alloc 42, type := 0, pos := "ref.go:122", after := #[], guard := none } : Go.Oper)) rfl (fun K hK => ?one18) ?more18
        case' one18 =>
          go_simp
          refine hK.out _ _ (by (try dsimp only); exact HS.out _ (by with_reducible (repeat (first | exact Ext.rfl_ _ | assumption | refine Ext.drew ?_ | refine Ext.drewN ?_ _ | refine Ext.alloc ?_ _ | refine Ext.setCell ?_ (by first | (simp; done) | (simp; omega)) _ | refine Ext.trans ?_ (by assumption))))) (fun hHeld => ?_)
          clear hK K
          (try simp only [Act.put, List.getElem_toArray, List.getElem_cons_zero, List.getElem_cons_succ, List.setIfInBounds_toArray, List.set_cons_zero, List.set_cons_succ])
          refine wpAnyH_ready (rs := [9]) (by kernel_rfl) (by simp) ?_
          refine AllReadyH.cons (o := ({ dst := some 7, op := .alloc 42, type := 0, pos := "ref.go:122", after := #[], guard := none } : Go.Oper)) rfl (fun K hK => ?_) AllReadyH.nil
          go_simp
          refine hK.out _ _ (by (try dsimp only); exact HS.out _ (by with_reducible (repeat (first | exact Ext.rfl_ _ | assumption | refine Ext.drew ?_ | refine Ext.drewN ?_ _ | refine Ext.alloc ?_ _ | refine Ext.setCell ?_ (by first | (simp; done) | (simp; omega)) _ | refine Ext.trans ?_ (by assumption))))) (fun hHeld => ?_)
          clear hK K
          (try simp only [Act.put, List.getElem_toArray, List.getElem_cons_zero, List.getElem_cons_succ, List.setIfInBounds_toArray, List.set_cons_zero, List.set_cons_succ])
          refine wpAnyH_ready (rs := [10]) (by kernel_rfl) (by simp) ?_
          refine AllReadyH.cons (o := ({ dst := none, op := .store 42 (.tmp 6) (.tmp 22), type := 0, pos := "ref.go:122", after := #[⟨8, .data⟩, ⟨3, .data⟩, ⟨0, .phase⟩, ⟨1, .phase⟩, ⟨2, .phase⟩, ⟨3, .phase⟩, ⟨4, .textOnly .lateStores⟩, ⟨5, .textOnly .lateStores⟩, ⟨6, .textOnly .lateStores⟩, ⟨7, .textOnly .lateStores⟩, ⟨8, .phase⟩, ⟨9, .phase⟩], guard := none } : Go.Oper)) rfl (fun K hK => ?_) AllReadyH.nil
          go_simp
          refine hK.out _ _ (by (try dsimp only); exact HS.out _ (by with_reducible (repeat (first | exact Ext.rfl_ _ | assumption | refine Ext.drew ?_ | refine Ext.drewN ?_ _ | refine Ext.alloc ?_ _ | refine Ext.setCell ?_ (by first | (simp; done) | (simp; omega)) _ | refine Ext.trans ?_ (by assumption))))) (fun hHeld => ?_)
          clear hK K
          (try simp only [Act.put, List.getElem_toArray, List.getElem_cons_zero, List.getElem_cons_succ, List.setIfInBounds_toArray, List.set_cons_zero, List.set_cons_succ])
          refine wpAnyH_ready (rs := [11]) (by kernel_rfl) (by simp) ?_
          refine AllReadyH.cons (o := ({ dst := none, op := .store 42 (.tmp 7) (.tmp 26), type := 0, pos := "ref.go:122", after := #[⟨9, .data⟩, ⟨7, .data⟩, ⟨10, .chain⟩, ⟨0, .phase⟩, ⟨1, .phase⟩, ⟨2, .phase⟩, ⟨3, .phase⟩, ⟨4, .phase⟩, ⟨5, .phase⟩, ⟨6, .phase⟩, ⟨7, .phase⟩, ⟨8, .phase⟩, ⟨9, .phase⟩, ⟨10, .phase⟩], guard := none } : Go.Oper)) rfl (fun K hK => ?_) AllReadyH.nil
          go_simp
          refine hK.out _ _ (by (try dsimp only); exact HS.out _ (by with_reducible (repeat (first | exact Ext.rfl_ _ | assumption | refine Ext.drew ?_ | refine Ext.drewN ?_ _ | refine Ext.alloc ?_ _ | refine Ext.setCell ?_ (by first | (simp; done) | (simp; omega)) _ | refine Ext.trans ?_ (by assumption))))) (fun hHeld => ?_)
          clear hK K
          (try simp only [Act.put, List.getElem_toArray, List.getElem_cons_zero, List.getElem_cons_succ, List.setIfInBounds_toArray, List.set_cons_zero, List.set_cons_succ])
          refine wpAnyH_done (by kernel_rfl) ?_ _
        case' more18 =>
          refine AllReadyH.cons (o := ({ dst := some 7, op := .alloc 42, type := 0, pos := "ref.go:122", after := #[], guard := none } : Go.Oper)) rfl (fun K hK => ?_) AllReadyH.nil
          go_simp
          refine hK.out _ _ (by (try dsimp only); exact HS.out _ (by with_reducible (repeat (first | exact Ext.rfl_ _ | assumption | refine Ext.drew ?_ | refine Ext.drewN ?_ _ | refine Ext.alloc ?_ _ | refine Ext.setCell ?_ (by first | (simp; done) | (simp; omega)) _ | refine Ext.trans ?_ (by assumption))))) (fun hHeld => ?_)
          clear hK K
          (try simp only [Act.put, List.getElem_toArray, List.getElem_cons_zero, List.getElem_cons_succ, List.setIfInBounds_toArray, List.set_cons_zero, List.set_cons_succ])
          refine wpAnyH_ready (rs := [8]) (by kernel_rfl) (by simp) ?_
          refine AllReadyH.cons (o := ({ dst := some 6, op := .alloc 42, type := 0, pos := "ref.go:122", after := #[], guard := none } : Go.Oper)) rfl (fun K hK => ?_) AllReadyH.nil
          go_simp
          refine hK.out _ _ (by (try dsimp only); exact HS.out _ (by with_reducible (repeat (first | exact Ext.rfl_ _ | assumption | refine Ext.drew ?_ | refine Ext.drewN ?_ _ | refine Ext.alloc ?_ _ | refine Ext.setCell ?_ (by first | (simp; done) | (simp; omega)) _ | refine Ext.trans ?_ (by assumption))))) (fun hHeld => ?_)
          clear hK K
          (try simp only [Act.put, List.getElem_toArray, List.getElem_cons_zero, List.getElem_cons_succ, List.setIfInBounds_toArray, List.set_cons_zero, List.set_cons_succ])
          refine wpAnyH_ready (rs := [10]) (by kernel_rfl) (by simp) ?_
          refine AllReadyH.cons (o := ({ dst := none, op := .store 42 (.tmp 6) (.tmp 22), type := 0, pos := "ref.go:122", after := #[⟨8, .data⟩, ⟨3, .data⟩, ⟨0, .phase⟩, ⟨1, .phase⟩, ⟨2, .phase⟩, ⟨3, .phase⟩, ⟨4, .textOnly .lateStores⟩, ⟨5, .textOnly .lateStores⟩, ⟨6, .textOnly .lateStores⟩, ⟨7, .textOnly .lateStores⟩, ⟨8, .phase⟩, ⟨9, .phase⟩], guard := none } : Go.Oper)) rfl (fun K hK => ?_) AllReadyH.nil
          go_simp
          refine hK.out _ _ (by (try dsimp only); exact HS.out _ (by with_reducible (repeat (first | exact Ext.rfl_ _ | assumption | refine Ext.drew ?_ | refine Ext.drewN ?_ _ | refine Ext.alloc ?_ _ | refine Ext.setCell ?_ (by first | (simp; done) | (simp; omega)) _ | refine Ext.trans ?_ (by assumption))))) (fun hHeld => ?_)
          clear hK K
          (try simp only [Act.put, List.getElem_toArray, List.getElem_cons_zero, List.getElem_cons_succ, List.setIfInBounds_toArray, List.set_cons_zero, List.set_cons_succ])
          refine wpAnyH_ready (rs := [11]) (by kernel_rfl) (by simp) ?_
          refine AllReadyH.cons (o := ({ dst := none, op := .store 42 (.tmp 7) (.tmp 26), type := 0, pos := "ref.go:122", after := #[⟨9, .data⟩, ⟨7, .data⟩, ⟨10, .chain⟩, ⟨0, .phase⟩, ⟨1, .phase⟩, ⟨2, .phase⟩, ⟨3, .phase⟩, ⟨4, .phase⟩, ⟨5, .phase⟩, ⟨6, .phase⟩, ⟨7, .phase⟩, ⟨8, .phase⟩, ⟨9, .phase⟩, ⟨10, .phase⟩], guard := none } : Go.Oper)) rfl (fun K hK => ?_) AllReadyH.nil
          go_simp
          refine hK.out _ _ (by (try dsimp only); exact HS.out _ (by with_reducible (repeat (first | exact Ext.rfl_ _ | assumption | refine Ext.drew ?_ | refine Ext.drewN ?_ _ | refine Ext.alloc ?_ _ | refine Ext.setCell ?_ (by first | (simp; done) | (simp; omega)) _ | refine Ext.trans ?_ (by assumption))))) (fun hHeld => ?_)
          clear hK K
          (try simp only [Act.put, List.getElem_toArray, List.getElem_cons_zero, List.getElem_cons_succ, List.setIfInBounds_toArray, List.set_cons_zero, List.set_cons_succ])
          refine wpAnyH_done (by kernel_rfl) ?_ _
        all_goals
          have kkc1xa := (K1.out (World.drew ((wr.alloc (.cells #[.int .i64 x.num, .int .i64 x.lvl, .slice A1 n1 c1', .slice A2 n2 c2', .int .i64 x.size] 42)).alloc (.cells #[.int .i64 y.num, .int .i64 y.lvl, .slice A1' n1' d1', .slice A2' n2' d2', .int .i64 y.size] 42))) (by with_reducible (repeat (first | exact Ext.rfl_ _ | assumption | refine Ext.drew ?_ | refine Ext.drewN ?_ _ | refine Ext.alloc ?_ _ | refine Ext.trans ?_ (by assumption)))) c1' 35 5 9 Tryz.underlying35 Tryz.underlying5 Tryz.underlying9).1
          have kkc1xb := (K1.out (World.drew ((wr.alloc (.cells #[.int .i64 y.num, .int .i64 y.lvl, .slice A1' n1' d1', .slice A2' n2' d2', .int .i64 y.size] 42)).alloc (.cells #[.int .i64 x.num, .int .i64 x.lvl, .slice A1 n1 c1', .slice A2 n2 c2', .int .i64 x.size] 42))) (by with_reducible (repeat (first | exact Ext.rfl_ _ | assumption | refine Ext.drew ?_ | refine Ext.drewN ?_ _ | refine Ext.alloc ?_ _ | refine Ext.trans ?_ (by assumption)))) c1' 35 5 9 Tryz.underlying35 Tryz.underlying5 Tryz.underlying9).1
          have kkc2xa := (K1.out (World.drew ((wr.alloc (.cells #[.int .i64 x.num, .int .i64 x.lvl, .slice A1 n1 c1', .slice A2 n2 c2', .int .i64 x.size] 42)).alloc (.cells #[.int .i64 y.num, .int .i64 y.lvl, .slice A1' n1' d1', .slice A2' n2' d2', .int .i64 y.size] 42))) (by with_reducible (repeat (first | exact Ext.rfl_ _ | assumption | refine Ext.drew ?_ | refine Ext.drewN ?_ _ | refine Ext.alloc ?_ _ | refine Ext.trans ?_ (by assumption)))) c2' 35 5 9 Tryz.underlying35 Tryz.underlying5 Tryz.underlying9).2.1
          have kkc2xb := (K1.out (World.drew ((wr.alloc (.cells #[.int .i64 y.num, .int .i64 y.lvl, .slice A1' n1' d1', .slice A2' n2' d2', .int .i64 y.size] 42)).alloc (.cells #[.int .i64 x.num, .int .i64 x.lvl, .slice A1 n1 c1', .slice A2 n2 c2', .int .i64 x.size] 42))) (by with_reducible (repeat (first | exact Ext.rfl_ _ | assumption | refine Ext.drew ?_ | refine Ext.drewN ?_ _ | refine Ext.alloc ?_ _ | refine Ext.trans ?_ (by assumption)))) c2' 35 5 9 Tryz.underlying35 Tryz.underlying5 Tryz.underlying9).2.1
          have kkd1xa := (K1.out (World.drew ((wr.alloc (.cells #[.int .i64 x.num, .int .i64 x.lvl, .slice A1 n1 c1', .slice A2 n2 c2', .int .i64 x.size] 42)).alloc (.cells #[.int .i64 y.num, .int .i64 y.lvl, .slice A1' n1' d1', .slice A2' n2' d2', .int .i64 y.size] 42))) (by with_reducible (repeat (first | exact Ext.rfl_ _ | assumption | refine Ext.drew ?_ | refine Ext.drewN ?_ _ | refine Ext.alloc ?_ _ | refine Ext.trans ?_ (by assumption)))) d1' 35 5 9 Tryz.underlying35 Tryz.underlying5 Tryz.underlying9).2.2.1
          have kkd1xb := (K1.out (World.drew ((wr.alloc (.cells #[.int .i64 y.num, .int .i64 y.lvl, .slice A1' n1' d1', .slice A2' n2' d2', .int .i64 y.size] 42)).alloc (.cells #[.int .i64 x.num, .int .i64 x.lvl, .slice A1 n1 c1', .slice A2 n2 c2', .int .i64 x.size] 42))) (by with_reducible (repeat (first | exact Ext.rfl_ _ | assumption | refine Ext.drew ?_ | refine Ext.drewN ?_ _ | refine Ext.alloc ?_ _ | refine Ext.trans ?_ (by assumption)))) d1' 35 5 9 Tryz.underlying35 Tryz.underlying5 Tryz.underlying9).2.2.1
          have kkd2xa := (K1.out (World.drew ((wr.alloc (.cells #[.int .i64 x.num, .int .i64 x.lvl, .slice A1 n1 c1', .slice A2 n2 c2', .int .i64 x.size] 42)).alloc (.cells #[.int .i64 y.num, .int .i64 y.lvl, .slice A1' n1' d1', .slice A2' n2' d2', .int .i64 y.size] 42))) (by with_reducible (repeat (first | exact Ext.rfl_ _ | assumption | refine Ext.drew ?_ | refine Ext.drewN ?_ _ | refine Ext.alloc ?_ _ | refine Ext.trans ?_ (by assumption)))) d2' 35 5 9 Tryz.underlying35 Tryz.underlying5 Tryz.underlying9).2.2.2
          have kkd2xb := (K1.out (World.drew ((wr.alloc (.cells #[.int .i64 y.num, .int .i64 y.lvl, .slice A1' n1' d1', .slice A2' n2' d2', .int .i64 y.size] 42)).alloc (.cells #[.int .i64 x.num, .int .i64 x.lvl, .slice A1 n1 c1', .slice A2 n2 c2', .int .i64 x.size] 42))) (by with_reducible (repeat (first | exact Ext.rfl_ _ | assumption | refine Ext.drew ?_ | refine Ext.drewN ?_ _ | refine Ext.alloc ?_ _ | refine Ext.trans ?_ (by assumption)))) d2' 35 5 9 Tryz.underlying35 Tryz.underlying5 Tryz.underlying9).2.2.2
          go_wp2
          go_ret
          exact ⟨ret_bool HR.out, (by with_reducible (repeat (first | exact Ext.rfl_ _ | assumption | refine Ext.drew ?_ | refine Ext.drewN ?_ _ | refine Ext.alloc ?_ _ | refine Ext.trans ?_ (by assumption))))⟩
      have e1 : (x.lvl != y.lvl) = false := by simp [a1]
      by_cases a2 : x.fst = y.fst
      rotate_left
      · have HR := Lib.hid (HNO.out (fun h => a2 (by rw [h])))
        have e2 := strT_ne a2
        have ee2 : (x.fst == y.fst) = false := by simp [a2]
        clear a0 a1 a2
        go_wp2
        refine wp_region_held_drew (S := (fun W => (W.cell? ⟨b, o + k * 5, none⟩ = some (.int .i64 x.num) ∧ W.cell? ⟨b, o + k * 5 + 1, none⟩ = some (.int .i64 x.lvl) ∧ W.cell? ⟨b, o + k * 5 + 2, none⟩ = some (.slice A1 n1 c1') ∧ W.cell? ⟨b, o + k * 5 + 3, none⟩ = some (.slice A2 n2 c2') ∧ W.cell? ⟨b, o + k * 5 + 4, none⟩ = some (.int .i64 x.size)) ∧ (W.cell? ⟨b', o' + k * 5, none⟩ = some (.int .i64 y.num) ∧ W.cell? ⟨b', o' + k * 5 + 1, none⟩ = some (.int .i64 y.lvl) ∧ W.cell? ⟨b', o' + k * 5 + 2, none⟩ = some (.slice A1' n1' d1') ∧ W.cell? ⟨b', o' + k * 5 + 3, none⟩ = some (.slice A2' n2' d2') ∧ W.cell? ⟨b', o' + k * 5 + 4, none⟩ = some (.int .i64 y.size)))) (by kernel_rfl) (by (try dsimp only); exact HS.out _ (by with_reducible (repeat (first | exact Ext.rfl_ _ | assumption | refine Ext.drew ?_ | refine Ext.drewN ?_ _ | refine Ext.alloc ?_ _ | refine Ext.setCell ?_ (by first | (simp; done) | (simp; omega)) _ | refine Ext.trans ?_ (by assumption))))) (fun hHeld => ?_)
        refine wpAnyH_take (i := 0) (oi := ({ dst := some 19, op := .move (.tmp 0), type := 22, pos := "ref.go:122", after := #[], guard := none } : Go.Oper)) (v := ?v19) rfl (by kernel_rfl) (by kernel_rfl) (by kernel_rfl) (fun _ _ _ h => h) (Or.inl ⟨by rfl, ?hy19⟩) (by assumption) ?rest19
        case hy19 => (intro w hSw; (try dsimp only at hSw); go_simp; (try with_reducible rfl))
        (try simp only [Act.put, List.getElem_toArray, List.getElem_cons_zero, List.getElem_cons_succ, List.setIfInBounds_toArray, List.set_cons_zero, List.set_cons_succ])
        refine wpAnyH_take (i := 1) (oi := ({ dst := some 20, op := .move (.tmp 5), type := 3, pos := "ref.go:122", after := #[], guard := none } : Go.Oper)) (v := ?v20) rfl (by kernel_rfl) (by kernel_rfl) (by kernel_rfl) (fun _ _ _ h => h) (Or.inl ⟨by rfl, ?hy20⟩) (by assumption) ?rest20
        case hy20 => (intro w hSw; (try dsimp only at hSw); go_simp; (try with_reducible rfl))
        (try simp only [Act.put, List.getElem_toArray, List.getElem_cons_zero, List.getElem_cons_succ, List.setIfInBounds_toArray, List.set_cons_zero, List.set_cons_succ])
        refine wpAnyH_take (i := 2) (oi := ({ dst := some 21, op := .indexAddr 22 (.tmp 19) (.tmp 20), type := 0, pos := "ref.go:122", after := #[⟨0, .data⟩, ⟨1, .data⟩], guard := none } : Go.Oper)) (v := ?v21) rfl (by kernel_rfl) (by kernel_rfl) (by kernel_rfl) (fun _ _ _ h => h) (Or.inl ⟨by rfl, ?hy21⟩) (by assumption) ?rest21
        case hy21 => (intro w hSw; (try dsimp only at hSw); go_simp; (try with_reducible rfl))
        (try simp only [Act.put, List.getElem_toArray, List.getElem_cons_zero, List.getElem_cons_succ, List.setIfInBounds_toArray, List.set_cons_zero, List.set_cons_succ])
        refine wpAnyH_take (i := 3) (oi := ({ dst := some 22, op := .load 42 (.tmp 21), type := 42, pos := "ref.go:122", after := #[⟨2, .data⟩], guard := none } : Go.Oper)) (v := ?v22) rfl (by kernel_rfl) (by kernel_rfl) (by kernel_rfl) (fun _ _ _ h => h) (Or.inl ⟨by rfl, ?hy22⟩) (by assumption) ?rest22
        case hy22 => (intro w hSw; (try dsimp only at hSw); go_simp; (try with_reducible rfl))
        (try simp only [Act.put, List.getElem_toArray, List.getElem_cons_zero, List.getElem_cons_succ, List.setIfInBounds_toArray, List.set_cons_zero, List.set_cons_succ])
        refine wpAnyH_take (i := 4) (oi := ({ dst := some 23, op := .move (.tmp 1), type := 22, pos := "ref.go:122", after := #[⟨10, .gcOnly .lateStores⟩], guard := none } : Go.Oper)) (v := ?v23) rfl (by kernel_rfl) (by kernel_rfl) (by kernel_rfl) (fun _ _ _ h => h) (Or.inl ⟨by rfl, ?hy23⟩) (by assumption) ?rest23
        case hy23 => (intro w hSw; (try dsimp only at hSw); go_simp; (try with_reducible rfl))
        (try simp only [Act.put, List.getElem_toArray, List.getElem_cons_zero, List.getElem_cons_succ, List.setIfInBounds_toArray, List.set_cons_zero, List.set_cons_succ])
        refine wpAnyH_take (i := 5) (oi := ({ dst := some 24, op := .move (.tmp 5), type := 3, pos := "ref.go:122", after := #[⟨10, .gcOnly .lateStores⟩], guard := none } : Go.Oper)) (v := ?v24) rfl (by kernel_rfl) (by kernel_rfl) (by kernel_rfl) (fun _ _ _ h => h) (Or.inl ⟨by rfl, ?hy24⟩) (by assumption) ?rest24
        case hy24 => (intro w hSw; (try dsimp only at hSw); go_simp; (try with_reducible rfl))
        (try simp only [Act.put, List.getElem_toArray, List.getElem_cons_zero, List.getElem_cons_succ, List.setIfInBounds_toArray, List.set_cons_zero, List.set_cons_succ])
        refine wpAnyH_take (i := 6) (oi := ({ dst := some 25, op := .indexAddr 22 (.tmp 23) (.tmp 24), type := 0, pos := "ref.go:122", after := #[⟨4, .data⟩, ⟨5, .data⟩, ⟨10, .gcOnly .lateStores⟩], guard := none } : Go.Oper)) (v := ?v25) rfl (by kernel_rfl) (by kernel_rfl) (by kernel_rfl) (fun _ _ _ h => h) (Or.inl ⟨by rfl, ?hy25⟩) (by assumption) ?rest25
        case hy25 => (intro w hSw; (try dsimp only at hSw); go_simp; (try with_reducible rfl))
        (try simp only [Act.put, List.getElem_toArray, List.getElem_cons_zero, List.getElem_cons_succ, List.setIfInBounds_toArray, List.set_cons_zero, List.set_cons_succ])
        refine wpAnyH_take (i := 7) (oi := ({ dst := some 26, op := .load 42 (.tmp 25), type := 42, pos := "ref.go:122", after := #[⟨6, .data⟩, ⟨10, .gcOnly .lateStores⟩], guard := none } : Go.Oper)) (v := ?v26) rfl (by kernel_rfl) (by kernel_rfl) (by kernel_rfl) (fun _ _ _ h => h) (Or.inl ⟨by rfl, ?hy26⟩) (by assumption) ?rest26
        case hy26 => (intro w hSw; (try dsimp only at hSw); go_simp; (try with_reducible rfl))
        (try simp only [Act.put, List.getElem_toArray, List.getElem_cons_zero, List.getElem_cons_succ, List.setIfInBounds_toArray, List.set_cons_zero, List.set_cons_succ])
        refine wpAnyH_ready (rs := [8, 9]) (by kernel_rfl) (by simp) ?_
        refine AllReadyH.cons (o := ({ dst := some 6, op := .alloc 42, type := 0, pos := "ref.go:122", after := #[], guard := none } : Go.Oper)) rfl (fun K hK => ?one27) ?more27
        case' one27 =>
          go_simp
          refine hK.out _ _ (by (try dsimp only); exact HS.out _ (by with_reducible (repeat (first | exact Ext.rfl_ _ | assumption | refine Ext.drew ?_ | refine Ext.drewN ?_ _ | refine Ext.alloc ?_ _ | refine Ext.setCell ?_ (by first | (simp; done) | (simp; omega)) _ | refine Ext.trans ?_ (by assumption))))) (fun hHeld => ?_)
          clear hK K
          (try simp only [Act.put, List.getElem_toArray, List.getElem_cons_zero, List.getElem_cons_succ, List.setIfInBounds_toArray, List.set_cons_zero, List.set_cons_succ])
          refine wpAnyH_ready (rs := [9]) (by kernel_rfl) (by simp) ?_
          refine AllReadyH.cons (o := ({ dst := some 7, op := .alloc 42, type := 0, pos := "ref.go:122", after := #[], guard := none } : Go.Oper)) rfl (fun K hK => ?_) AllReadyH.nil
          go_simp
          refine hK.out _ _ (by (try dsimp only); exact HS.out _ (by with_reducible (repeat (first | exact Ext.rfl_ _ | assumption | refine Ext.drew ?_ | refine Ext.drewN ?_ _ | refine Ext.alloc ?_ _ | refine Ext.setCell ?_ (by first | (simp; done) | (simp; omega)) _ | refine Ext.trans ?_ (by assumption))))) (fun hHeld => ?_)
          clear hK K
          (try simp only [Act.put, List.getElem_toArray, List.getElem_cons_zero, List.getElem_cons_succ, List.setIfInBounds_toArray, List.set_cons_zero, List.set_cons_succ])
          refine wpAnyH_ready (rs := [10]) (by kernel_rfl) (by simp) ?_
          refine AllReadyH.cons (o := ({ dst := none, op := .store 42 (.tmp 6) (.tmp 22), type := 0, pos := "ref.go:122", after := #[⟨8, .data⟩, ⟨3, .data⟩, ⟨0, .phase⟩, ⟨1, .phase⟩, ⟨2, .phase⟩, ⟨3, .phase⟩, ⟨4, .textOnly .lateStores⟩, ⟨5, .textOnly .lateStores⟩, ⟨6, .textOnly .lateStores⟩, ⟨7, .textOnly .lateStores⟩, ⟨8, .phase⟩, ⟨9, .phase⟩], guard := none } : Go.Oper)) rfl (fun K hK => ?_) AllReadyH.nil
          go_simp
          refine hK.out _ _ (by (try dsimp only); exact HS.out _ (by with_reducible (repeat (first | exact Ext.rfl_ _ | assumption | refine Ext.drew ?_ | refine Ext.drewN ?_ _ | refine Ext.alloc ?_ _ | refine Ext.setCell ?_ (by first | (simp; done) | (simp; omega)) _ | refine Ext.trans ?_ (by assumption))))) (fun hHeld => ?_)
          clear hK K
          (try simp only [Act.put, List.getElem_toArray, List.getElem_cons_zero, List.getElem_cons_succ, List.setIfInBounds_toArray, List.set_cons_zero, List.set_cons_succ])
          refine wpAnyH_ready (rs := [11]) (by kernel_rfl) (by simp) ?_
          refine AllReadyH.cons (o := ({ dst := none, op := .store 42 (.tmp 7) (.tmp 26), type := 0, pos := "ref.go:122", after := #[⟨9, .data⟩, ⟨7, .data⟩, ⟨10, .chain⟩, ⟨0, .phase⟩, ⟨1, .phase⟩, ⟨2, .phase⟩, ⟨3, .phase⟩, ⟨4, .phase⟩, ⟨5, .phase⟩, ⟨6, .phase⟩, ⟨7, .phase⟩, ⟨8, .phase⟩, ⟨9, .phase⟩, ⟨10, .phase⟩], guard := none } : Go.Oper)) rfl (fun K hK => ?_) AllReadyH.nil
          go_simp
          refine hK.out _ _ (by (try dsimp only); exact HS.out _ (by with_reducible (repeat (first | exact Ext.rfl_ _ | assumption | refine Ext.drew ?_ | refine Ext.drewN ?_ _ | refine Ext.alloc ?_ _ | refine Ext.setCell ?_ (by first | (simp; done) | (simp; omega)) _ | refine Ext.trans ?_ (by assumption))))) (fun hHeld => ?_)
          clear hK K
          (try simp only [Act.put, List.getElem_toArray, List.getElem_cons_zero, List.getElem_cons_succ, List.setIfInBounds_toArray, List.set_cons_zero, List.set_cons_succ])
          refine wpAnyH_done (by kernel_rfl) ?_ _
        case' more27 =>
          refine AllReadyH.cons (o := ({ dst := some 7, op := .alloc 42, type := 0, pos := "ref.go:122", after := #[], guard := none } : Go.Oper)) rfl (fun K hK => ?_) AllReadyH.nil
          go_simp
          refine hK.out _ _ (by (try dsimp only); exact HS.out _ (by with_reducible (repeat (first | exact Ext.rfl_ _ | assumption | refine Ext.drew ?_ | refine Ext.drewN ?_ _ | refine Ext.alloc ?_ _ | refine Ext.setCell ?_ (by first | (simp; done) | (simp; omega)) _ | refine Ext.trans ?_ (by assumption))))) (fun hHeld => ?_)
          clear hK K
          (try simp only [Act.put, List.getElem_toArray, List.getElem_cons_zero, List.getElem_cons_succ, List.setIfInBounds_toArray, List.set_cons_zero, List.set_cons_succ])
          refine wpAnyH_ready (rs := [8]) (by kernel_rfl) (by simp) ?_
          refine AllReadyH.cons (o := ({ dst := some 6, op := .alloc 42, type := 0, pos := "ref.go:122", after := #[], guard := none } : Go.Oper)) rfl (fun K hK => ?_) AllReadyH.nil
          go_simp
          refine hK.out _ _ (by (try dsimp only); exact HS.out _ (by with_reducible (repeat (first | exact Ext.rfl_ _ | assumption | refine Ext.drew ?_ | refine Ext.drewN ?_ _ | refine Ext.alloc ?_ _ | refine Ext.setCell ?_ (by first | (simp; done) | (simp; omega)) _ | refine Ext.trans ?_ (by assumption))))) (fun hHeld => ?_)
          clear hK K
          (try simp only [Act.put, List.getElem_toArray, List.getElem_cons_zero, List.getElem_cons_succ, List.setIfInBounds_toArray, List.set_cons_zero, List.set_cons_succ])
          refine wpAnyH_ready (rs := [10]) (by kernel_rfl) (by simp) ?_
          refine AllReadyH.cons (o := ({ dst := none, op := .store 42 (.tmp 6) (.tmp 22), type := 0, pos := "ref.go:122", after := #[⟨8, .data⟩, ⟨3, .data⟩, ⟨0, .phase⟩, ⟨1, .phase⟩, ⟨2, .phase⟩, ⟨3, .phase⟩, ⟨4, .textOnly .lateStores⟩, ⟨5, .textOnly .lateStores⟩, ⟨6, .textOnly .lateStores⟩, ⟨7, .textOnly .lateStores⟩, ⟨8, .phase⟩, ⟨9, .phase⟩], guard := none } : Go.Oper)) rfl (fun K hK => ?_) AllReadyH.nil
          go_simp
          refine hK.out _ _ (by (try dsimp only); exact HS.out _ (by with_reducible (repeat (first | exact Ext.rfl_ _ | assumption | refine Ext.drew ?_ | refine Ext.drewN ?_ _ | refine Ext.alloc ?_ _ | refine Ext.setCell ?_ (by first | (simp; done) | (simp; omega)) _ | refine Ext.trans ?_ (by assumption))))) (fun hHeld => ?_)
          clear hK K
          (try simp only [Act.put, List.getElem_toArray, List.getElem_cons_zero, List.getElem_cons_succ, List.setIfInBounds_toArray, List.set_cons_zero, List.set_cons_succ])
          refine wpAnyH_ready (rs := [11]) (by kernel_rfl) (by simp) ?_
          refine AllReadyH.cons (o := ({ dst := none, op := .store 42 (.tmp 7) (.tmp 26), type := 0, pos := "ref.go:122", after := #[⟨9, .data⟩, ⟨7, .data⟩, ⟨10, .chain⟩, ⟨0, .phase⟩, ⟨1, .phase⟩, ⟨2, .phase⟩, ⟨3, .phase⟩, ⟨4, .phase⟩, ⟨5, .phase⟩, ⟨6, .phase⟩, ⟨7, .phase⟩, ⟨8, .phase⟩, ⟨9, .phase⟩, ⟨10, .phase⟩], guard := none } : Go.Oper)) rfl (fun K hK => ?_) AllReadyH.nil
          go_simp
          refine hK.out _ _ (by (try dsimp only); exact HS.out _ (by with_reducible (repeat (first | exact Ext.rfl_ _ | assumption | refine Ext.drew ?_ | refine Ext.drewN ?_ _ | refine Ext.alloc ?_ _ | refine Ext.setCell ?_ (by first | (simp; done) | (simp; omega)) _ | refine Ext.trans ?_ (by assumption))))) (fun hHeld => ?_)
          clear hK K
          (try simp only [Act.put, List.getElem_toArray, List.getElem_cons_zero, List.getElem_cons_succ, List.setIfInBounds_toArray, List.set_cons_zero, List.set_cons_succ])
          refine wpAnyH_done (by kernel_rfl) ?_ _
        all_goals
          have kkc1xa := (K1.out (World.drew ((wr.alloc (.cells #[.int .i64 x.num, .int .i64 x.lvl, .slice A1 n1 c1', .slice A2 n2 c2', .int .i64 x.size] 42)).alloc (.cells #[.int .i64 y.num, .int .i64 y.lvl, .slice A1' n1' d1', .slice A2' n2' d2', .int .i64 y.size] 42))) (by with_reducible (repeat (first | exact Ext.rfl_ _ | assumption | refine Ext.drew ?_ | refine Ext.drewN ?_ _ | refine Ext.alloc ?_ _ | refine Ext.trans ?_ (by assumption)))) c1' 35 5 9 Tryz.underlying35 Tryz.underlying5 Tryz.underlying9).1
          have kkc1xb := (K1.out (World.drew ((wr.alloc (.cells #[.int .i64 y.num, .int .i64 y.lvl, .slice A1' n1' d1', .slice A2' n2' d2', .int .i64 y.size] 42)).alloc (.cells #[.int .i64 x.num, .int .i64 x.lvl, .slice A1 n1 c1', .slice A2 n2 c2', .int .i64 x.size] 42))) (by with_reducible (repeat (first | exact Ext.rfl_ _ | assumption | refine Ext.drew ?_ | refine Ext.drewN ?_ _ | refine Ext.alloc ?_ _ | refine Ext.trans ?_ (by assumption)))) c1' 35 5 9 Tryz.underlying35 Tryz.underlying5 Tryz.underlying9).1
          have kkc2xa := (K1.out (World.drew ((wr.alloc (.cells #[.int .i64 x.num, .int .i64 x.lvl, .slice A1 n1 c1', .slice A2 n2 c2', .int .i64 x.size] 42)).alloc (.cells #[.int .i64 y.num, .int .i64 y.lvl, .slice A1' n1' d1', .slice A2' n2' d2', .int .i64 y.size] 42))) (by with_reducible (repeat (first | exact Ext.rfl_ _ | assumption | refine Ext.drew ?_ | refine Ext.drewN ?_ _ | refine Ext.alloc ?_ _ | refine Ext.trans ?_ (by assumption)))) c2' 35 5 9 Tryz.underlying35 Tryz.underlying5 Tryz.underlying9).2.1
          have kkc2xb := (K1.out (World.drew ((wr.alloc (.cells #[.int .i64 y.num, .int .i64 y.lvl, .slice A1' n1' d1', .slice A2' n2' d2', .int .i64 y.size] 42)).alloc (.cells #[.int .i64 x.num, .int .i64 x.lvl, .slice A1 n1 c1', .slice A2 n2 c2', .int .i64 x.size] 42))) (by with_reducible (repeat (first | exact Ext.rfl_ _ | assumption | refine Ext.drew ?_ | refine Ext.drewN ?_ _ | refine Ext.alloc ?_ _ | refine Ext.trans ?_ (by assumption)))) c2' 35 5 9 Tryz.underlying35 Tryz.underlying5 Tryz.underlying9).2.1
          have kkd1xa := (K1.out (World.drew ((wr.alloc (.cells #[.int .i64 x.num, .int .i64 x.lvl, .slice A1 n1 c1', .slice A2 n2 c2', .int .i64 x.size] 42)).alloc (.cells #[.int .i64 y.num, .int .i64 y.lvl, .slice A1' n1' d1', .slice A2' n2' d2', .int .i64 y.size] 42))) (by with_reducible (repeat (first | exact Ext.rfl_ _ | assumption | refine Ext.drew ?_ | refine Ext.drewN ?_ _ | refine Ext.alloc ?_ _ | refine Ext.trans ?_ (by assumption)))) d1' 35 5 9 Tryz.underlying35 Tryz.underlying5 Tryz.underlying9).2.2.1
          have kkd1xb := (K1.out (World.drew ((wr.alloc (.cells #[.int .i64 y.num, .int .i64 y.lvl, .slice A1' n1' d1', .slice A2' n2' d2', .int .i64 y.size] 42)).alloc (.cells #[.int .i64 x.num, .int .i64 x.lvl, .slice A1 n1 c1', .slice A2 n2 c2', .int .i64 x.size] 42))) (by with_reducible (repeat (first | exact Ext.rfl_ _ | assumption | refine Ext.drew ?_ | refine Ext.drewN ?_ _ | refine Ext.alloc ?_ _ | refine Ext.trans ?_ (by assumption)))) d1' 35 5 9 Tryz.underlying35 Tryz.underlying5 Tryz.underlying9).2.2.1
          have kkd2xa := (K1.out (World.drew ((wr.alloc (.cells #[.int .i64 x.num, .int .i64 x.lvl, .slice A1 n1 c1', .slice A2 n2 c2', .int .i64 x.size] 42)).alloc (.cells #[.int .i64 y.num, .int .i64 y.lvl, .slice A1' n1' d1', .slice A2' n2' d2', .int .i64 y.size] 42))) (by with_reducible (repeat (first | exact Ext.rfl_ _ | assumption | refine Ext.drew ?_ | refine Ext.drewN ?_ _ | refine Ext.alloc ?_ _ | refine Ext.trans ?_ (by assumption)))) d2' 35 5 9 Tryz.underlying35 Tryz.underlying5 Tryz.underlying9).2.2.2
          have kkd2xb := (K1.out (World.drew ((wr.alloc (.cells #[.int .i64 y.num, .int .i64 y.lvl, .slice A1' n1' d1', .slice A2' n2' d2', .int .i64 y.size] 42)).alloc (.cells #[.int .i64 x.num, .int .i64 x.lvl, .slice A1 n1 c1', .slice A2 n2 c2', .int .i64 x.size] 42))) (by with_reducible (repeat (first | exact Ext.rfl_ _ | assumption | refine Ext.drew ?_ | refine Ext.drewN ?_ _ | refine Ext.alloc ?_ _ | refine Ext.trans ?_ (by assumption)))) d2' 35 5 9 Tryz.underlying35 Tryz.underlying5 Tryz.underlying9).2.2.2
          go_wp2
          go_ret
          exact ⟨ret_bool HR.out, (by with_reducible (repeat (first | exact Ext.rfl_ _ | assumption | refine Ext.drew ?_ | refine Ext.drewN ?_ _ | refine Ext.alloc ?_ _ | refine Ext.trans ?_ (by assumption))))⟩
      have e2 : ((⟨x.fst.toArray⟩ : ByteArray) == ⟨y.fst.toArray⟩) = true := by rw [a2]; exact strT_eq _
      have ee2 : (x.fst == y.fst) = true := by simp [a2]
      by_cases a3 : x.lst = y.lst
      rotate_left
      · have HR := Lib.hid (HNO.out (fun h => a3 (by rw [h])))
        have e3 := strT_ne a3
        have ee3 : (x.lst == y.lst) = false := by simp [a3]
        clear a0 a1 a2 a3
        go_wp2
        refine wp_region_held_drew (S := (fun W => (W.cell? ⟨b, o + k * 5, none⟩ = some (.int .i64 x.num) ∧ W.cell? ⟨b, o + k * 5 + 1, none⟩ = some (.int .i64 x.lvl) ∧ W.cell? ⟨b, o + k * 5 + 2, none⟩ = some (.slice A1 n1 c1') ∧ W.cell? ⟨b, o + k * 5 + 3, none⟩ = some (.slice A2 n2 c2') ∧ W.cell? ⟨b, o + k * 5 + 4, none⟩ = some (.int .i64 x.size)) ∧ (W.cell? ⟨b', o' + k * 5, none⟩ = some (.int .i64 y.num) ∧ W.cell? ⟨b', o' + k * 5 + 1, none⟩ = some (.int .i64 y.lvl) ∧ W.cell? ⟨b', o' + k * 5 + 2, none⟩ = some (.slice A1' n1' d1') ∧ W.cell? ⟨b', o' + k * 5 + 3, none⟩ = some (.slice A2' n2' d2') ∧ W.cell? ⟨b', o' + k * 5 + 4, none⟩ = some (.int .i64 y.size)))) (by kernel_rfl) (by (try dsimp only); exact HS.out _ (by with_reducible (repeat (first | exact Ext.rfl_ _ | assumption | refine Ext.drew ?_ | refine Ext.drewN ?_ _ | refine Ext.alloc ?_ _ | refine Ext.setCell ?_ (by first | (simp; done) | (simp; omega)) _ | refine Ext.trans ?_ (by assumption))))) (fun hHeld => ?_)
        refine wpAnyH_take (i := 0) (oi := ({ dst := some 19, op := .move (.tmp 0), type := 22, pos := "ref.go:122", after := #[], guard := none } : Go.Oper)) (v := ?v28) rfl (by kernel_rfl) (by kernel_rfl) (by kernel_rfl) (fun _ _ _ h => h) (Or.inl ⟨by rfl, ?hy28⟩) (by assumption) ?rest28
        case hy28 => (intro w hSw; (try dsimp only at hSw); go_simp; (try with_reducible rfl))
        (try simp only [Act.put, List.getElem_toArray, List.getElem_cons_zero, List.getElem_cons_succ, List.setIfInBounds_toArray, List.set_cons_zero, List.set_cons_succ])
        refine wpAnyH_take (i := 1) (oi := ({ dst := some 20, op := .move (.tmp 5), type := 3, pos := "ref.go:122", after := #[], guard := none } : Go.Oper)) (v := ?v29) rfl (by kernel_rfl) (by kernel_rfl) (by kernel_rfl) (fun _ _ _ h => h) (Or.inl ⟨by rfl, ?hy29⟩) (by assumption) ?rest29
        case hy29 => (intro w hSw; (try dsimp only at hSw); go_simp; (try with_reducible rfl))
        (try simp only [Act.put, List.getElem_toArray, List.getElem_cons_zero, List.getElem_cons_succ, List.setIfInBounds_toArray, List.set_cons_zero, List.set_cons_succ])
        refine wpAnyH_take (i := 2) (oi := ({ dst := some 21, op := .indexAddr 22 (.tmp 19) (.tmp 20), type := 0, pos := "ref.go:122", after := #[⟨0, .data⟩, ⟨1, .data⟩], guard := none } : Go.Oper)) (v := ?v30) rfl (by kernel_rfl) (by kernel_rfl) (by kernel_rfl) (fun _ _ _ h => h) (Or.inl ⟨by rfl, ?hy30⟩) (by assumption) ?rest30
        case hy30 => (intro w hSw; (try dsimp only at hSw); go_simp; (try with_reducible rfl))
        (try simp only [Act.put, List.getElem_toArray, List.getElem_cons_zero, List.getElem_cons_succ, List.setIfInBounds_toArray, List.set_cons_zero, List.set_cons_succ])
        refine wpAnyH_take (i := 3) (oi := ({ dst := some 22, op := .load 42 (.tmp 21), type := 42, pos := "ref.go:122", after := #[⟨2, .data⟩], guard := none } : Go.Oper)) (v := ?v31) rfl (by kernel_rfl) (by kernel_rfl) (by kernel_rfl) (fun _ _ _ h => h) (Or.inl ⟨by rfl, ?hy31⟩) (by assumption) ?rest31
        case hy31 => (intro w hSw; (try dsimp only at hSw); go_simp; (try with_reducible rfl))
        (try simp only [Act.put, List.getElem_toArray, List.getElem_cons_zero, List.getElem_cons_succ, List.setIfInBounds_toArray, List.set_cons_zero, List.set_cons_succ])
        refine wpAnyH_take (i := 4) (oi := ({ dst := some 23, op := .move (.tmp 1), type := 22, pos := "ref.go:122", after := #[⟨10, .gcOnly .lateStores⟩], guard := none } : Go.Oper)) (v := ?v32) rfl (by kernel_rfl) (by kernel_rfl) (by kernel_rfl) (fun _ _ _ h => h) (Or.inl ⟨by rfl, ?hy32⟩) (by assumption) ?rest32
        case hy32 => (intro w hSw; (try dsimp only at hSw); go_simp; (try with_reducible rfl))
        (try simp only [Act.put, List.getElem_toArray, List.getElem_cons_zero, List.getElem_cons_succ, List.setIfInBounds_toArray, List.set_cons_zero, List.set_cons_succ])
        refine wpAnyH_take (i := 5) (oi := ({ dst := some 24, op := .move (.tmp 5), type := 3, pos := "ref.go:122", after := #[⟨10, .gcOnly .lateStores⟩], guard := none } : Go.Oper)) (v := ?v33) rfl (by kernel_rfl) (by kernel_rfl) (by kernel_rfl) (fun _ _ _ h => h) (Or.inl ⟨by rfl, ?hy33⟩) (by assumption) ?rest33
        case hy33 => (intro w hSw; (try dsimp only at hSw); go_simp; (try with_reducible rfl))
        (try simp only [Act.put, List.getElem_toArray, List.getElem_cons_zero, List.getElem_cons_succ, List.setIfInBounds_toArray, List.set_cons_zero, List.set_cons_succ])
        refine wpAnyH_take (i := 6) (oi := ({ dst := some 25, op := .indexAddr 22 (.tmp 23) (.tmp 24), type := 0, pos := "ref.go:122", after := #[⟨4, .data⟩, ⟨5, .data⟩, ⟨10, .gcOnly .lateStores⟩], guard := none } : Go.Oper)) (v := ?v34) rfl (by kernel_rfl) (by kernel_rfl) (by kernel_rfl) (fun _ _ _ h => h) (Or.inl ⟨by rfl, ?hy34⟩) (by assumption) ?rest34
        case hy34 => (intro w hSw; (try dsimp only at hSw); go_simp; (try with_reducible rfl))
        (try simp only [Act.put, List.getElem_toArray, List.getElem_cons_zero, List.getElem_cons_succ, List.setIfInBounds_toArray, List.set_cons_zero, List.set_cons_succ])
        refine wpAnyH_take (i := 7) (oi := ({ dst := some 26, op := .load 42 (.tmp 25), type := 42, pos := "ref.go:122", after := #[⟨6, .data⟩, ⟨10, .gcOnly .lateStores⟩], guard := none } : Go.Oper)) (v := ?v35) rfl (by kernel_rfl) (by kernel_rfl) (by kernel_rfl) (fun _ _ _ h => h) (Or.inl ⟨by rfl, ?hy35⟩) (by assumption) ?rest35
        case hy35 => (intro w hSw; (try dsimp only at hSw); go_simp; (try with_reducible rfl))
        (try simp only [Act.put, List.getElem_toArray, List.getElem_cons_zero, List.getElem_cons_succ, List.setIfInBounds_toArray, List.set_cons_zero, List.set_cons_succ])
        refine wpAnyH_ready (rs := [8, 9]) (by kernel_rfl) (by simp) ?_
        refine AllReadyH.cons (o := ({ dst := some 6, op := .alloc 42, type := 0, pos := "ref.go:122", after := #[], guard := none } : Go.Oper)) rfl (fun K hK => ?one36) ?more36
        case' one36 =>
          go_simp
          refine hK.out _ _ (by (try dsimp only); exact HS.out _ (by with_reducible (repeat (first | exact Ext.rfl_ _ | assumption | refine Ext.drew ?_ | refine Ext.drewN ?_ _ | refine Ext.alloc ?_ _ | refine Ext.setCell ?_ (by first | (simp; done) | (simp; omega)) _ | refine Ext.trans ?_ (by assumption))))) (fun hHeld => ?_)
          clear hK K
          (try simp only [Act.put, List.getElem_toArray, List.getElem_cons_zero, List.getElem_cons_succ, List.setIfInBounds_toArray, List.set_cons_zero, List.set_cons_succ])
          refine wpAnyH_ready (rs := [9]) (by kernel_rfl) (by simp) ?_
          refine AllReadyH.cons (o := ({ dst := some 7, op := .alloc 42, type := 0, pos := "ref.go:122", after := #[], guard := none } : Go.Oper)) rfl (fun K hK => ?_) AllReadyH.nil
          go_simp
          refine hK.out _ _ (by (try dsimp only); exact HS.out _ (by with_reducible (repeat (first | exact Ext.rfl_ _ | assumption | refine Ext.drew ?_ | refine Ext.drewN ?_ _ | refine Ext.alloc ?_ _ | refine Ext.setCell ?_ (by first | (simp; done) | (simp; omega)) _ | refine Ext.trans ?_ (by assumption))))) (fun hHeld => ?_)
          clear hK K
          (try simp only [Act.put, List.getElem_toArray, List.getElem_cons_zero, List.getElem_cons_succ, List.setIfInBounds_toArray, List.set_cons_zero, List.set_cons_succ])
          refine wpAnyH_ready (rs := [10]) (by kernel_rfl) (by simp) ?_
          refine AllReadyH.cons (o := ({ dst := none, op := .store 42 (.tmp 6) (.tmp 22), type := 0, pos := "ref.go:122", after := #[⟨8, .data⟩, ⟨3, .data⟩, ⟨0, .phase⟩, ⟨1, .phase⟩, ⟨2, .phase⟩, ⟨3, .phase⟩, ⟨4, .textOnly .lateStores⟩, ⟨5, .textOnly .lateStores⟩, ⟨6, .textOnly .lateStores⟩, ⟨7, .textOnly .lateStores⟩, ⟨8, .phase⟩, ⟨9, .phase⟩], guard := none } : Go.Oper)) rfl (fun K hK => ?_) AllReadyH.nil
          go_simp
          refine hK.out _ _ (by (try dsimp only); exact HS.out _ (by with_reducible (repeat (first | exact Ext.rfl_ _ | assumption | refine Ext.drew ?_ | refine Ext.drewN ?_ _ | refine Ext.alloc ?_ _ | refine Ext.setCell ?_ (by first | (simp; done) | (simp; omega)) _ | refine Ext.trans ?_ (by assumption))))) (fun hHeld => ?_)
          clear hK K
          (try simp only [Act.put, List.getElem_toArray, List.getElem_cons_zero, List.getElem_cons_succ, List.setIfInBounds_toArray, List.set_cons_zero, List.set_cons_succ])
          refine wpAnyH_ready (rs := [11]) (by kernel_rfl) (by simp) ?_
          refine AllReadyH.cons (o := ({ dst := none, op := .store 42 (.tmp 7) (.tmp 26), type := 0, pos := "ref.go:122", after := #[⟨9, .data⟩, ⟨7, .data⟩, ⟨10, .chain⟩, ⟨0, .phase⟩, ⟨1, .phase⟩, ⟨2, .phase⟩, ⟨3, .phase⟩, ⟨4, .phase⟩, ⟨5, .phase⟩, ⟨6, .phase⟩, ⟨7, .phase⟩, ⟨8, .phase⟩, ⟨9, .phase⟩, ⟨10, .phase⟩], guard := none } : Go.Oper)) rfl (fun K hK => ?_) AllReadyH.nil
          go_simp
          refine hK.out _ _ (by (try dsimp only); exact HS.out _ (by with_reducible (repeat (first | exact Ext.rfl_ _ | assumption | refine Ext.drew ?_ | refine Ext.drewN ?_ _ | refine Ext.alloc ?_ _ | refine Ext.setCell ?_ (by first | (simp; done) | (simp; omega)) _ | refine Ext.trans ?_ (by assumption))))) (fun hHeld => ?_)
          clear hK K
          (try simp only [Act.put, List.getElem_toArray, List.getElem_cons_zero, List.getElem_cons_succ, List.setIfInBounds_toArray, List.set_cons_zero, List.set_cons_succ])
          refine wpAnyH_done (by kernel_rfl) ?_ _
        case' more36 =>
          refine AllReadyH.cons (o := ({ dst := some 7, op := .alloc 42, type := 0, pos := "ref.go:122", after := #[], guard := none } : Go.Oper)) rfl (fun K hK => ?_) AllReadyH.nil
          go_simp
          refine hK.out _ _ (by (try dsimp only); exact HS.out _ (by with_reducible (repeat (first | exact Ext.rfl_ _ | assumption | refine Ext.drew ?_ | refine Ext.drewN ?_ _ | refine Ext.alloc ?_ _ | refine Ext.setCell ?_ (by first | (simp; done) | (simp; omega)) _ | refine Ext.trans ?_ (by assumption))))) (fun hHeld => ?_)
          clear hK K
          (try simp only [Act.put, List.getElem_toArray, List.getElem_cons_zero, List.getElem_cons_succ, List.setIfInBounds_toArray, List.set_cons_zero, List.set_cons_succ])
          refine wpAnyH_ready (rs := [8]) (by kernel_rfl) (by simp) ?_
          refine AllReadyH.cons (o := ({ dst := some 6, op := .alloc 42, type := 0, pos := "ref.go:122", after := #[], guard := none } : Go.Oper)) rfl (fun K hK => ?_) AllReadyH.nil
          go_simp
          refine hK.out _ _ (by (try dsimp only); exact HS.out _ (by with_reducible (repeat (first | exact Ext.rfl_ _ | assumption | refine Ext.drew ?_ | refine Ext.drewN ?_ _ | refine Ext.alloc ?_ _ | refine Ext.setCell ?_ (by first | (simp; done) | (simp; omega)) _ | refine Ext.trans ?_ (by assumption))))) (fun hHeld => ?_)
          clear hK K
          (try simp only [Act.put, List.getElem_toArray, List.getElem_cons_zero, List.getElem_cons_succ, List.setIfInBounds_toArray, List.set_cons_zero, List.set_cons_succ])
          refine wpAnyH_ready (rs := [10]) (by kernel_rfl) (by simp) ?_
          refine AllReadyH.cons (o := ({ dst := none, op := .store 42 (.tmp 6) (.tmp 22), type := 0, pos := "ref.go:122", after := #[⟨8, .data⟩, ⟨3, .data⟩, ⟨0, .phase⟩, ⟨1, .phase⟩, ⟨2, .phase⟩, ⟨3, .phase⟩, ⟨4, .textOnly .lateStores⟩, ⟨5, .textOnly .lateStores⟩, ⟨6, .textOnly .lateStores⟩, ⟨7, .textOnly .lateStores⟩, ⟨8, .phase⟩, ⟨9, .phase⟩], guard := none } : Go.Oper)) rfl (fun K hK => ?_) AllReadyH.nil
          go_simp
          refine hK.out _ _ (by (try dsimp only); exact HS.out _ (by with_reducible (repeat (first | exact Ext.rfl_ _ | assumption | refine Ext.drew ?_ | refine Ext.drewN ?_ _ | refine Ext.alloc ?_ _ | refine Ext.setCell ?_ (by first | (simp; done) | (simp; omega)) _ | refine Ext.trans ?_ (by assumption))))) (fun hHeld => ?_)
          clear hK K
          (try simp only [Act.put, List.getElem_toArray, List.getElem_cons_zero, List.getElem_cons_succ, List.setIfInBounds_toArray, List.set_cons_zero, List.set_cons_succ])
          refine wpAnyH_ready (rs := [11]) (by kernel_rfl) (by simp) ?_
          refine AllReadyH.cons (o := ({ dst := none, op := .store 42 (.tmp 7) (.tmp 26), type := 0, pos := "ref.go:122", after := #[⟨9, .data⟩, ⟨7, .data⟩, ⟨10, .chain⟩, ⟨0, .phase⟩, ⟨1, .phase⟩, ⟨2, .phase⟩, ⟨3, .phase⟩, ⟨4, .phase⟩, ⟨5, .phase⟩, ⟨6, .phase⟩, ⟨7, .phase⟩, ⟨8, .phase⟩, ⟨9, .phase⟩, ⟨10, .phase⟩], guard := none } : Go.Oper)) rfl (fun K hK => ?_) AllReadyH.nil
          go_simp
          refine hK.out _ _ (by (try dsimp only); exact HS.out _ (by with_reducible (repeat (first | exact Ext.rfl_ _ | assumption | refine Ext.drew ?_ | refine Ext.drewN ?_ _ | refine Ext.alloc ?_ _ | refine Ext.setCell ?_ (by first | (simp; done) | (simp; omega)) _ | refine Ext.trans ?_ (by assumption))))) (fun hHeld => ?_)
          clear hK K
          (try simp only [Act.put, List.getElem_toArray, List.getElem_cons_zero, List.getElem_cons_succ, List.setIfInBounds_toArray, List.set_cons_zero, List.set_cons_succ])
          refine wpAnyH_done (by kernel_rfl) ?_ _
        all_goals
          have kkc1xa := (K1.out (World.drew ((wr.alloc (.cells #[.int .i64 x.num, .int .i64 x.lvl, .slice A1 n1 c1', .slice A2 n2 c2', .int .i64 x.size] 42)).alloc (.cells #[.int .i64 y.num, .int .i64 y.lvl, .slice A1' n1' d1', .slice A2' n2' d2', .int .i64 y.size] 42))) (by with_reducible (repeat (first | exact Ext.rfl_ _ | assumption | refine Ext.drew ?_ | refine Ext.drewN ?_ _ | refine Ext.alloc ?_ _ | refine Ext.trans ?_ (by assumption)))) c1' 35 5 9 Tryz.underlying35 Tryz.underlying5 Tryz.underlying9).1
          have kkc1xb := (K1.out (World.drew ((wr.alloc (.cells #[.int .i64 y.num, .int .i64 y.lvl, .slice A1' n1' d1', .slice A2' n2' d2', .int .i64 y.size] 42)).alloc (.cells #[.int .i64 x.num, .int .i64 x.lvl, .slice A1 n1 c1', .slice A2 n2 c2', .int .i64 x.size] 42))) (by with_reducible (repeat (first | exact Ext.rfl_ _ | assumption | refine Ext.drew ?_ | refine Ext.drewN ?_ _ | refine Ext.alloc ?_ _ | refine Ext.trans ?_ (by assumption)))) c1' 35 5 9 Tryz.underlying35 Tryz.underlying5 Tryz.underlying9).1
          have kkc2xa := (K1.out (World.drew ((wr.alloc (.cells #[.int .i64 x.num, .int .i64 x.lvl, .slice A1 n1 c1', .slice A2 n2 c2', .int .i64 x.size] 42)).alloc (.cells #[.int .i64 y.num, .int .i64 y.lvl, .slice A1' n1' d1', .slice A2' n2' d2', .int .i64 y.size] 42))) (by with_reducible (repeat (first | exact Ext.rfl_ _ | assumption | refine Ext.drew ?_ | refine Ext.drewN ?_ _ | refine Ext.alloc ?_ _ | refine Ext.trans ?_ (by assumption)))) c2' 35 5 9 Tryz.underlying35 Tryz.underlying5 Tryz.underlying9).2.1
          have kkc2xb := (K1.out (World.drew ((wr.alloc (.cells #[.int .i64 y.num, .int .i64 y.lvl, .slice A1' n1' d1', .slice A2' n2' d2', .int .i64 y.size] 42)).alloc (.cells #[.int .i64 x.num, .int .i64 x.lvl, .slice A1 n1 c1', .slice A2 n2 c2', .int .i64 x.size] 42))) (by with_reducible (repeat (first | exact Ext.rfl_ _ | assumption | refine Ext.drew ?_ | refine Ext.drewN ?_ _ | refine Ext.alloc ?_ _ | refine Ext.trans ?_ (by assumption)))) c2' 35 5 9 Tryz.underlying35 Tryz.underlying5 Tryz.underlying9).2.1
          have kkd1xa := (K1.out (World.drew ((wr.alloc (.cells #[.int .i64 x.num, .int .i64 x.lvl, .slice A1 n1 c1', .slice A2 n2 c2', .int .i64 x.size] 42)).alloc (.cells #[.int .i64 y.num, .int .i64 y.lvl, .slice A1' n1' d1', .slice A2' n2' d2', .int .i64 y.size] 42))) (by with_reducible (repeat (first | exact Ext.rfl_ _ | assumption | refine Ext.drew ?_ | refine Ext.drewN ?_ _ | refine Ext.alloc ?_ _ | refine Ext.trans ?_ (by assumption)))) d1' 35 5 9 Tryz.underlying35 Tryz.underlying5 Tryz.underlying9).2.2.1
          have kkd1xb := (K1.out (World.drew ((wr.alloc (.cells #[.int .i64 y.num, .int .i64 y.lvl, .slice A1' n1' d1', .slice A2' n2' d2', .int .i64 y.size] 42)).alloc (.cells #[.int .i64 x.num, .int .i64 x.lvl, .slice A1 n1 c1', .slice A2 n2 c2', .int .i64 x.size] 42))) (by with_reducible (repeat (first | exact Ext.rfl_ _ | assumption | refine Ext.drew ?_ | refine Ext.drewN ?_ _ | refine Ext.alloc ?_ _ | refine Ext.trans ?_ (by assumption)))) d1' 35 5 9 Tryz.underlying35 Tryz.underlying5 Tryz.underlying9).2.2.1
          have kkd2xa := (K1.out (World.drew ((wr.alloc (.cells #[.int .i64 x.num, .int .i64 x.lvl, .slice A1 n1 c1', .slice A2 n2 c2', .int .i64 x.size] 42)).alloc (.cells #[.int .i64 y.num, .int .i64 y.lvl, .slice A1' n1' d1', .slice A2' n2' d2', .int .i64 y.size] 42))) (by with_reducible (repeat (first | exact Ext.rfl_ _ | assumption | refine Ext.drew ?_ | refine Ext.drewN ?_ _ | refine Ext.alloc ?_ _ | refine Ext.trans ?_ (by assumption)))) d2' 35 5 9 Tryz.underlying35 Tryz.underlying5 Tryz.underlying9).2.2.2
          have kkd2xb := (K1.out (World.drew ((wr.alloc (.cells #[.int .i64 y.num, .int .i64 y.lvl, .slice A1' n1' d1', .slice A2' n2' d2', .int .i64 y.size] 42)).alloc (.cells #[.int .i64 x.num, .int .i64 x.lvl, .slice A1 n1 c1', .slice A2 n2 c2', .int .i64 x.size] 42))) (by with_reducible (repeat (first | exact Ext.rfl_ _ | assumption | refine Ext.drew ?_ | refine Ext.drewN ?_ _ | refine Ext.alloc ?_ _ | refine Ext.trans ?_ (by assumption)))) d2' 35 5 9 Tryz.underlying35 Tryz.underlying5 Tryz.underlying9).2.2.2
          go_wp2
          go_ret
          exact ⟨ret_bool HR.out, (by with_reducible (repeat (first | exact Ext.rfl_ _ | assumption | refine Ext.drew ?_ | refine Ext.drewN ?_ _ | refine Ext.alloc ?_ _ | refine Ext.trans ?_ (by assumption))))⟩
      have e3 : ((⟨x.lst.toArray⟩ : ByteArray) == ⟨y.lst.toArray⟩) = true := by rw [a3]; exact strT_eq _
      have ee3 : (x.lst == y.lst) = true := by simp [a3]
      by_cases a4 : x.size = y.size
      rotate_left
      · have HR := Lib.hid (HNO.out (fun h => a4 (by rw [h])))
        have e4 : (x.size != y.size) = true := by simp [a4]
        clear a0 a1 a2 a3 a4
        go_wp2
        refine wp_region_held_drew (S := (fun W => (W.cell? ⟨b, o + k * 5, none⟩ = some (.int .i64 x.num) ∧ W.cell? ⟨b, o + k * 5 + 1, none⟩ = some (.int .i64 x.lvl) ∧ W.cell? ⟨b, o + k * 5 + 2, none⟩ = some (.slice A1 n1 c1') ∧ W.cell? ⟨b, o + k * 5 + 3, none⟩ = some (.slice A2 n2 c2') ∧ W.cell? ⟨b, o + k * 5 + 4, none⟩ = some (.int .i64 x.size)) ∧ (W.cell? ⟨b', o' + k * 5, none⟩ = some (.int .i64 y.num) ∧ W.cell? ⟨b', o' + k * 5 + 1, none⟩ = some (.int .i64 y.lvl) ∧ W.cell? ⟨b', o' + k * 5 + 2, none⟩ = some (.slice A1' n1' d1') ∧ W.cell? ⟨b', o' + k * 5 + 3, none⟩ = some (.slice A2' n2' d2') ∧ W.cell? ⟨b', o' + k * 5 + 4, none⟩ = some (.int .i64 y.size)))) (by kernel_rfl) (by (try dsimp only); exact HS.out _ (by with_reducible (repeat (first | exact Ext.rfl_ _ | assumption | refine Ext.drew ?_ | refine Ext.drewN ?_ _ | refine Ext.alloc ?_ _ | refine Ext.setCell ?_ (by first | (simp; done) | (simp; omega)) _ | refine Ext.trans ?_ (by assumption))))) (fun hHeld => ?_)
        refine wpAnyH_take (i := 0) (oi := ({ dst := some 19, op := .move (.tmp 0), type := 22, pos := "ref.go:122", after := #[], guard := none } : Go.Oper)) (v := ?v37) rfl (by kernel_rfl) (by kernel_rfl) (by kernel_rfl) (fun _ _ _ h => h) (Or.inl ⟨by rfl, ?hy37⟩) (by assumption) ?rest37
        case hy37 => (intro w hSw; (try dsimp only at hSw); go_simp; (try with_reducible rfl))
        (try simp only [Act.put, List.getElem_toArray, List.getElem_cons_zero, List.getElem_cons_succ, List.setIfInBounds_toArray, List.set_cons_zero, List.set_cons_succ])
        refine wpAnyH_take (i := 1) (oi := ({ dst := some 20, op := .move (.tmp 5), type := 3, pos := "ref.go:122", after := #[], guard := none } : Go.Oper)) (v := ?v38) rfl (by kernel_rfl) (by kernel_rfl) (by kernel_rfl) (fun _ _ _ h => h) (Or.inl ⟨by rfl, ?hy38⟩) (by assumption) ?rest38
        case hy38 => (intro w hSw; (try dsimp only at hSw); go_simp; (try with_reducible rfl))
        (try simp only [Act.put, List.getElem_toArray, List.getElem_cons_zero, List.getElem_cons_succ, List.setIfInBounds_toArray, List.set_cons_zero, List.set_cons_succ])
        refine wpAnyH_take (i := 2) (oi := ({ dst := some 21, op := .indexAddr 22 (.tmp 19) (.tmp 20), type := 0, pos := "ref.go:122", after := #[⟨0, .data⟩, ⟨1, .data⟩], guard := none } : Go.Oper)) (v := ?v39) rfl (by kernel_rfl) (by kernel_rfl) (by kernel_rfl) (fun _ _ _ h => h) (Or.inl ⟨by rfl, ?hy39⟩) (by assumption) ?rest39
        case hy39 => (intro w hSw; (try dsimp only at hSw); go_simp; (try with_reducible rfl))
        (try simp only [Act.put, List.getElem_toArray, List.getElem_cons_zero, List.getElem_cons_succ, List.setIfInBounds_toArray, List.set_cons_zero, List.set_cons_succ])
        refine wpAnyH_take (i := 3) (oi := ({ dst := some 22, op := .load 42 (.tmp 21), type := 42, pos := "ref.go:122", after := #[⟨2, .data⟩], guard := none } : Go.Oper)) (v := ?v40) rfl (by kernel_rfl) (by kernel_rfl) (by kernel_rfl) (fun _ _ _ h => h) (Or.inl ⟨by rfl, ?hy40⟩) (by assumption) ?rest40
        case hy40 => (intro w hSw; (try dsimp only at hSw); go_simp; (try with_reducible rfl))
        (try simp only [Act.put, List.getElem_toArray, List.getElem_cons_zero, List.getElem_cons_succ, List.setIfInBounds_toArray, List.set_cons_zero, List.set_cons_succ])
        refine wpAnyH_take (i := 4) (oi := ({ dst := some 23, op := .move (.tmp 1), type := 22, pos := "ref.go:122", after := #[⟨10, .gcOnly .lateStores⟩], guard := none } : Go.Oper)) (v := ?v41) rfl (by kernel_rfl) (by kernel_rfl) (by kernel_rfl) (fun _ _ _ h => h) (Or.inl ⟨by rfl, ?hy41⟩) (by assumption) ?rest41
        case hy41 => (intro w hSw; (try dsimp only at hSw); go_simp; (try with_reducible rfl))
        (try simp only [Act.put, List.getElem_toArray, List.getElem_cons_zero, List.getElem_cons_succ, List.setIfInBounds_toArray, List.set_cons_zero, List.set_cons_succ])
        refine wpAnyH_take (i := 5) (oi := ({ dst := some 24, op := .move (.tmp 5), type := 3, pos := "ref.go:122", after := #[⟨10, .gcOnly .lateStores⟩], guard := none } : Go.Oper)) (v := ?v42) rfl (by kernel_rfl) (by kernel_rfl) (by kernel_rfl) (fun _ _ _ h => h) (Or.inl ⟨by rfl, ?hy42⟩) (by assumption) ?rest42
        case hy42 => (intro w hSw; (try dsimp only at hSw); go_simp; (try with_reducible rfl))
        (try simp only [Act.put, List.getElem_toArray, List.getElem_cons_zero, List.getElem_cons_succ, List.setIfInBounds_toArray, List.set_cons_zero, List.set_cons_succ])
        refine wpAnyH_take (i := 6) (oi := ({ dst := some 25, op := .indexAddr 22 (.tmp 23) (.tmp 24), type := 0, pos := "ref.go:122", after := #[⟨4, .data⟩, ⟨5, .data⟩, ⟨10, .gcOnly .lateStores⟩], guard := none } : Go.Oper)) (v := ?v43) rfl (by kernel_rfl) (by kernel_rfl) (by kernel_rfl) (fun _ _ _ h => h) (Or.inl ⟨by rfl, ?hy43⟩) (by assumption) ?rest43
        case hy43 => (intro w hSw; (try dsimp only at hSw); go_simp; (try with_reducible rfl))
        (try simp only [Act.put, List.getElem_toArray, List.getElem_cons_zero, List.getElem_cons_succ, List.setIfInBounds_toArray, List.set_cons_zero, List.set_cons_succ])
        refine wpAnyH_take (i := 7) (oi := ({ dst := some 26, op := .load 42 (.tmp 25), type := 42, pos := "ref.go:122", after := #[⟨6, .data⟩, ⟨10, .gcOnly .lateStores⟩], guard := none } : Go.Oper)) (v := ?v44) rfl (by kernel_rfl) (by kernel_rfl) (by kernel_rfl) (fun _ _ _ h => h) (Or.inl ⟨by rfl, ?hy44⟩) (by assumption) ?rest44
        case hy44 => (intro w hSw; (try dsimp only at hSw); go_simp; (try with_reducible rfl))
        (try simp only [Act.put, List.getElem_toArray, List.getElem_cons_zero, List.getElem_cons_succ, List.setIfInBounds_toArray, List.set_cons_zero, List.set_cons_succ])
        refine wpAnyH_ready (rs := [8, 9]) (by kernel_rfl) (by simp) ?_
        refine AllReadyH.cons (o := ({ dst := some 6, op := .alloc 42, type := 0, pos := "ref.go:122", after := #[], guard := none } : Go.Oper)) rfl (fun K hK => ?one45) ?more45
        case' one45 =>
          go_simp
          refine hK.out _ _ (by (try dsimp only); exact HS.out _ (by with_reducible (repeat (first | exact Ext.rfl_ _ | assumption | refine Ext.drew ?_ | refine Ext.drewN ?_ _ | refine Ext.alloc ?_ _ | refine Ext.setCell ?_ (by first | (simp; done) | (simp; omega)) _ | refine Ext.trans ?_ (by assumption))))) (fun hHeld => ?_)
          clear hK K
          (try simp only [Act.put, List.getElem_toArray, List.getElem_cons_zero, List.getElem_cons_succ, List.setIfInBounds_toArray, List.set_cons_zero, List.set_cons_succ])
          refine wpAnyH_ready (rs := [9]) (by kernel_rfl) (by simp) ?_
          refine AllReadyH.cons (o := ({ dst := some 7, op := .alloc 42, type := 0, pos := "ref.go:122", after := #[], guard := none } : Go.Oper)) rfl (fun K hK => ?_) AllReadyH.nil
          go_simp
          refine hK.out _ _ (by (try dsimp only); exact HS.out _ (by with_reducible (repeat (first | exact Ext.rfl_ _ | assumption | refine Ext.drew ?_ | refine Ext.drewN ?_ _ | refine Ext.alloc ?_ _ | refine Ext.setCell ?_ (by first | (simp; done) | (simp; omega)) _ | refine Ext.trans ?_ (by assumption))))) (fun hHeld => ?_)
          clear hK K
          (try simp only [Act.put, List.getElem_toArray, List.getElem_cons_zero, List.getElem_cons_succ, List.setIfInBounds_toArray, List.set_cons_zero, List.set_cons_succ])
          refine wpAnyH_ready (rs := [10]) (by kernel_rfl) (by simp) ?_
          refine AllReadyH.cons (o := ({ dst := none, op := .store 42 (.tmp 6) (.tmp 22), type := 0, pos := "ref.go:122", after := #[⟨8, .data⟩, ⟨3, .data⟩, ⟨0, .phase⟩, ⟨1, .phase⟩, ⟨2, .phase⟩, ⟨3, .phase⟩, ⟨4, .textOnly .lateStores⟩, ⟨5, .textOnly .lateStores⟩, ⟨6, .textOnly .lateStores⟩, ⟨7, .textOnly .lateStores⟩, ⟨8, .phase⟩, ⟨9, .phase⟩], guard := none } : Go.Oper)) rfl (fun K hK => ?_) AllReadyH.nil
          go_simp
          refine hK.out _ _ (by (try dsimp only); exact HS.out _ (by with_reducible (repeat (first | exact Ext.rfl_ _ | assumption | refine Ext.drew ?_ | refine Ext.drewN ?_ _ | refine Ext.alloc ?_ _ | refine Ext.setCell ?_ (by first | (simp; done) | (simp; omega)) _ | refine Ext.trans ?_ (by assumption))))) (fun hHeld => ?_)
          clear hK K
          (try simp only [Act.put, List.getElem_toArray, List.getElem_cons_zero, List.getElem_cons_succ, List.setIfInBounds_toArray, List.set_cons_zero, List.set_cons_succ])
          refine wpAnyH_ready (rs := [11]) (by kernel_rfl) (by simp) ?_
          refine AllReadyH.cons (o := ({ dst := none, op := .store 42 (.tmp 7) (.tmp 26), type := 0, pos := "ref.go:122", after := #[⟨9, .data⟩, ⟨7, .data⟩, ⟨10, .chain⟩, ⟨0, .phase⟩, ⟨1, .phase⟩, ⟨2, .phase⟩, ⟨3, .phase⟩, ⟨4, .phase⟩, ⟨5, .phase⟩, ⟨6, .phase⟩, ⟨7, .phase⟩, ⟨8, .phase⟩, ⟨9, .phase⟩, ⟨10, .phase⟩], guard := none } : Go.Oper)) rfl (fun K hK => ?_) AllReadyH.nil
          go_simp
          refine hK.out _ _ (by (try dsimp only); exact HS.out _ (by with_reducible (repeat (first | exact Ext.rfl_ _ | assumption | refine Ext.drew ?_ | refine Ext.drewN ?_ _ | refine Ext.alloc ?_ _ | refine Ext.setCell ?_ (by first | (simp; done) | (simp; omega)) _ | refine Ext.trans ?_ (by assumption))))) (fun hHeld => ?_)
          clear hK K
          (try simp only [Act.put, List.getElem_toArray, List.getElem_cons_zero, List.getElem_cons_succ, List.setIfInBounds_toArray, List.set_cons_zero, List.set_cons_succ])
          refine wpAnyH_done (by kernel_rfl) ?_ _
        case' more45 =>
          refine AllReadyH.cons (o := ({ dst := some 7, op := .alloc 42, type := 0, pos := "ref.go:122", after := #[], guard := none } : Go.Oper)) rfl (fun K hK => ?_) AllReadyH.nil
          go_simp
          refine hK.out _ _ (by (try dsimp only); exact HS.out _ (by with_reducible (repeat (first | exact Ext.rfl_ _ | assumption | refine Ext.drew ?_ | refine Ext.drewN ?_ _ | refine Ext.alloc ?_ _ | refine Ext.setCell ?_ (by first | (simp; done) | (simp; omega)) _ | refine Ext.trans ?_ (by assumption))))) (fun hHeld => ?_)
          clear hK K
          (try simp only [Act.put, List.getElem_toArray, List.getElem_cons_zero, List.getElem_cons_succ, List.setIfInBounds_toArray, List.set_cons_zero, List.set_cons_succ])
          refine wpAnyH_ready (rs := [8]) (by kernel_rfl) (by simp) ?_
          refine AllReadyH.cons (o := ({ dst := some 6, op := .alloc 42, type := 0, pos := "ref.go:122", after := #[], guard := none } : Go.Oper)) rfl (fun K hK => ?_) AllReadyH.nil
          go_simp
          refine hK.out _ _ (by (try dsimp only); exact HS.out _ (by with_reducible (repeat (first | exact Ext.rfl_ _ | assumption | refine Ext.drew ?_ | refine Ext.drewN ?_ _ | refine Ext.alloc ?_ _ | refine Ext.setCell ?_ (by first | (simp; done) | (simp; omega)) _ | refine Ext.trans ?_ (by assumption))))) (fun hHeld => ?_)
          clear hK K
          (try simp only [Act.put, List.getElem_toArray, List.getElem_cons_zero, List.getElem_cons_succ, List.setIfInBounds_toArray, List.set_cons_zero, List.set_cons_succ])
          refine wpAnyH_ready (rs := [10]) (by kernel_rfl) (by simp) ?_
          refine AllReadyH.cons (o := ({ dst := none, op := .store 42 (.tmp 6) (.tmp 22), type := 0, pos := "ref.go:122", after := #[⟨8, .data⟩, ⟨3, .data⟩, ⟨0, .phase⟩, ⟨1, .phase⟩, ⟨2, .phase⟩, ⟨3, .phase⟩, ⟨4, .textOnly .lateStores⟩, ⟨5, .textOnly .lateStores⟩, ⟨6, .textOnly .lateStores⟩, ⟨7, .textOnly .lateStores⟩, ⟨8, .phase⟩, ⟨9, .phase⟩], guard := none } : Go.Oper)) rfl (fun K hK => ?_) AllReadyH.nil
          go_simp
          refine hK.out _ _ (by (try dsimp only); exact HS.out _ (by with_reducible (repeat (first | exact Ext.rfl_ _ | assumption | refine Ext.drew ?_ | refine Ext.drewN ?_ _ | refine Ext.alloc ?_ _ | refine Ext.setCell ?_ (by first | (simp; done) | (simp; omega)) _ | refine Ext.trans ?_ (by assumption))))) (fun hHeld => ?_)
          clear hK K
          (try simp only [Act.put, List.getElem_toArray, List.getElem_cons_zero, List.getElem_cons_succ, List.setIfInBounds_toArray, List.set_cons_zero, List.set_cons_succ])
          refine wpAnyH_ready (rs := [11]) (by kernel_rfl) (by simp) ?_
          refine AllReadyH.cons (o := ({ dst := none, op := .store 42 (.tmp 7) (.tmp 26), type := 0, pos := "ref.go:122", after := #[⟨9, .data⟩, ⟨7, .data⟩, ⟨10, .chain⟩, ⟨0, .phase⟩, ⟨1, .phase⟩, ⟨2, .phase⟩, ⟨3, .phase⟩, ⟨4, .phase⟩, ⟨5, .phase⟩, ⟨6, .phase⟩, ⟨7, .phase⟩, ⟨8, .phase⟩, ⟨9, .phase⟩, ⟨10, .phase⟩], guard := none } : Go.Oper)) rfl (fun K hK => ?_) AllReadyH.nil
          go_simp
          refine hK.out _ _ (by (try dsimp only); exact HS.out _ (by with_reducible (repeat (first | exact Ext.rfl_ _ | assumption | refine Ext.drew ?_ | refine Ext.drewN ?_ _ | refine Ext.alloc ?_ _ | refine Ext.setCell ?_ (by first | (simp; done) | (simp; omega)) _ | refine Ext.trans ?_ (by assumption))))) (fun hHeld => ?_)
          clear hK K
          (try simp only [Act.put, List.getElem_toArray, List.getElem_cons_zero, List.getElem_cons_succ, List.setIfInBounds_toArray, List.set_cons_zero, List.set_cons_succ])
          refine wpAnyH_done (by kernel_rfl) ?_ _
        all_goals
          have kkc1xa := (K1.out (World.drew ((wr.alloc (.cells #[.int .i64 x.num, .int .i64 x.lvl, .slice A1 n1 c1', .slice A2 n2 c2', .int .i64 x.size] 42)).alloc (.cells #[.int .i64 y.num, .int .i64 y.lvl, .slice A1' n1' d1', .slice A2' n2' d2', .int .i64 y.size] 42))) (by with_reducible (repeat (first | exact Ext.rfl_ _ | assumption | refine Ext.drew ?_ | refine Ext.drewN ?_ _ | refine Ext.alloc ?_ _ | refine Ext.trans ?_ (by assumption)))) c1' 35 5 9 Tryz.underlying35 Tryz.underlying5 Tryz.underlying9).1
          have kkc1xb := (K1.out (World.drew ((wr.alloc (.cells #[.int .i64 y.num, .int .i64 y.lvl, .slice A1' n1' d1', .slice A2' n2' d2', .int .i64 y.size] 42)).alloc (.cells #[.int .i64 x.num, .int .i64 x.lvl, .slice A1 n1 c1', .slice A2 n2 c2', .int .i64 x.size] 42))) (by with_reducible (repeat (first | exact Ext.rfl_ _ | assumption | refine Ext.drew ?_ | refine Ext.drewN ?_ _ | refine Ext.alloc ?_ _ | refine Ext.trans ?_ (by assumption)))) c1' 35 5 9 Tryz.underlying35 Tryz.underlying5 Tryz.underlying9).1
          have kkc2xa := (K1.out (World.drew ((wr.alloc (.cells #[.int .i64 x.num, .int .i64 x.lvl, .slice A1 n1 c1', .slice A2 n2 c2', .int .i64 x.size] 42)).alloc (.cells #[.int .i64 y.num, .int .i64 y.lvl, .slice A1' n1' d1', .slice A2' n2' d2', .int .i64 y.size] 42))) (by with_reducible (repeat (first | exact Ext.rfl_ _ | assumption | refine Ext.drew ?_ | refine Ext.drewN ?_ _ | refine Ext.alloc ?_ _ | refine Ext.trans ?_ (by assumption)))) c2' 35 5 9 Tryz.underlying35 Tryz.underlying5 Tryz.underlying9).2.1
          have kkc2xb := (K1.out (World.drew ((wr.alloc (.cells #[.int .i64 y.num, .int .i64 y.lvl, .slice A1' n1' d1', .slice A2' n2' d2', .int .i64 y.size] 42)).alloc (.cells #[.int .i64 x.num, .int .i64 x.lvl, .slice A1 n1 c1', .slice A2 n2 c2', .int .i64 x.size] 42))) (by with_reducible (repeat (first | exact Ext.rfl_ _ | assumption | refine Ext.drew ?_ | refine Ext.drewN ?_ _ | refine Ext.alloc ?_ _ | refine Ext.trans ?_ (by assumption)))) c2' 35 5 9 Tryz.underlying35 Tryz.underlying5 Tryz.underlying9).2.1
          have kkd1xa := (K1.out (World.drew ((wr.alloc (.cells #[.int .i64 x.num, .int .i64 x.lvl, .slice A1 n1 c1', .slice A2 n2 c2', .int .i64 x.size] 42)).alloc (.cells #[.int .i64 y.num, .int .i64 y.lvl, .slice A1' n1' d1', .slice A2' n2' d2', .int .i64 y.size] 42))) (by with_reducible (repeat (first | exact Ext.rfl_ _ | assumption | refine Ext.drew ?_ | refine Ext.drewN ?_ _ | refine Ext.alloc ?_ _ | refine Ext.trans ?_ (by assumption)))) d1' 35 5 9 Tryz.underlying35 Tryz.underlying5 Tryz.underlying9).2.2.1
          have kkd1xb := (K1.out (World.drew ((wr.alloc (.cells #[.int .i64 y.num, .int .i64 y.lvl, .slice A1' n1' d1', .slice A2' n2' d2', .int .i64 y.size] 42)).alloc (.cells #[.int .i64 x.num, .int .i64 x.lvl, .slice A1 n1 c1', .slice A2 n2 c2', .int .i64 x.size] 42))) (by with_reducible (repeat (first | exact Ext.rfl_ _ | assumption | refine Ext.drew ?_ | refine Ext.drewN ?_ _ | refine Ext.alloc ?_ _ | refine Ext.trans ?_ (by assumption)))) d1' 35 5 9 Tryz.underlying35 Tryz.underlying5 Tryz.underlying9).2.2.1
          have kkd2xa := (K1.out (World.drew ((wr.alloc (.cells #[.int .i64 x.num, .int .i64 x.lvl, .slice A1 n1 c1', .slice A2 n2 c2', .int .i64 x.size] 42)).alloc (.cells #[.int .i64 y.num, .int .i64 y.lvl, .slice A1' n1' d1', .slice A2' n2' d2', .int .i64 y.size] 42))) (by with_reducible (repeat (first | exact Ext.rfl_ _ | assumption | refine Ext.drew ?_ | refine Ext.drewN ?_ _ | refine Ext.alloc ?_ _ | refine Ext.trans ?_ (by assumption)))) d2' 35 5 9 Tryz.underlying35 Tryz.underlying5 Tryz.underlying9).2.2.2
          have kkd2xb := (K1.out (World.drew ((wr.alloc (.cells #[.int .i64 y.num, .int .i64 y.lvl, .slice A1' n1' d1', .slice A2' n2' d2', .int .i64 y.size] 42)).alloc (.cells #[.int .i64 x.num, .int .i64 x.lvl, .slice A1 n1 c1', .slice A2 n2 c2', .int .i64 x.size] 42))) (by with_reducible (repeat (first | exact Ext.rfl_ _ | assumption | refine Ext.drew ?_ | refine Ext.drewN ?_ _ | refine Ext.alloc ?_ _ | refine Ext.trans ?_ (by assumption)))) d2' 35 5 9 Tryz.underlying35 Tryz.underlying5 Tryz.underlying9).2.2.2
          go_wp2
          go_ret
          exact ⟨ret_bool HR.out, (by with_reducible (repeat (first | exact Ext.rfl_ _ | assumption | refine Ext.drew ?_ | refine Ext.drewN ?_ _ | refine Ext.alloc ?_ _ | refine Ext.trans ?_ (by assumption))))⟩
      have e4 : (x.size != y.size) = false := by simp [a4]
      have HT := Lib.hid (HYES.out (by cases x; cases y; simp at a0 a1 a2 a3 a4 ⊢; exact ⟨a0, a1, a2, a3, a4⟩))
      clear a0 a1 a2 a3 a4
      go_wp2
      refine wp_region_held_drew (S := (fun W => (W.cell? ⟨b, o + k * 5, none⟩ = some (.int .i64 x.num) ∧ W.cell? ⟨b, o + k * 5 + 1, none⟩ = some (.int .i64 x.lvl) ∧ W.cell? ⟨b, o + k * 5 + 2, none⟩ = some (.slice A1 n1 c1') ∧ W.cell? ⟨b, o + k * 5 + 3, none⟩ = some (.slice A2 n2 c2') ∧ W.cell? ⟨b, o + k * 5 + 4, none⟩ = some (.int .i64 x.size)) ∧ (W.cell? ⟨b', o' + k * 5, none⟩ = some (.int .i64 y.num) ∧ W.cell? ⟨b', o' + k * 5 + 1, none⟩ = some (.int .i64 y.lvl) ∧ W.cell? ⟨b', o' + k * 5 + 2, none⟩ = some (.slice A1' n1' d1') ∧ W.cell? ⟨b', o' + k * 5 + 3, none⟩ = some (.slice A2' n2' d2') ∧ W.cell? ⟨b', o' + k * 5 + 4, none⟩ = some (.int .i64 y.size)))) (by kernel_rfl) (by (try dsimp only); exact HS.out _ (by with_reducible (repeat (first | exact Ext.rfl_ _ | assumption | refine Ext.drew ?_ | refine Ext.drewN ?_ _ | refine Ext.alloc ?_ _ | refine Ext.setCell ?_ (by first | (simp; done) | (simp; omega)) _ | refine Ext.trans ?_ (by assumption))))) (fun hHeld => ?_)
      refine wpAnyH_take (i := 0) (oi := ({ dst := some 19, op := .move (.tmp 0), type := 22, pos := "ref.go:122", after := #[], guard := none } : Go.Oper)) (v := ?v46) rfl (by kernel_rfl) (by kernel_rfl) (by kernel_rfl) (fun _ _ _ h => h) (Or.inl ⟨by rfl, ?hy46⟩) (by assumption) ?rest46
      case hy46 => (intro w hSw; (try dsimp only at hSw); go_simp; (try with_reducible rfl))
      (try simp only [Act.put, List.getElem_toArray, List.getElem_cons_zero, List.getElem_cons_succ, List.setIfInBounds_toArray, List.set_cons_zero, List.set_cons_succ])
      refine wpAnyH_take (i := 1) (oi := ({ dst := some 20, op := .move (.tmp 5), type := 3, pos := "ref.go:122", after := #[], guard := none } : Go.Oper)) (v := ?v47) rfl (by kernel_rfl) (by kernel_rfl) (by kernel_rfl) (fun _ _ _ h => h) (Or.inl ⟨by rfl, ?hy47⟩) (by assumption) ?rest47
      case hy47 => (intro w hSw; (try dsimp only at hSw); go_simp; (try with_reducible rfl))
      (try simp only [Act.put, List.getElem_toArray, List.getElem_cons_zero, List.getElem_cons_succ, List.setIfInBounds_toArray, List.set_cons_zero, List.set_cons_succ])
      refine wpAnyH_take (i := 2) (oi := ({ dst := some 21, op := .indexAddr 22 (.tmp 19) (.tmp 20), type := 0, pos := "ref.go:122", after := #[⟨0, .data⟩, ⟨1, .data⟩], guard := none } : Go.Oper)) (v := ?v48) rfl (by kernel_rfl) (by kernel_rfl) (by kernel_rfl) (fun _ _ _ h => h) (Or.inl ⟨by rfl, ?hy48⟩) (by assumption) ?rest48
      case hy48 => (intro w hSw; (try dsimp only at hSw); go_simp; (try with_reducible rfl))
      (try simp only [Act.put, List.getElem_toArray, List.getElem_cons_zero, List.getElem_cons_succ, List.setIfInBounds_toArray, List.set_cons_zero, List.set_cons_succ])
      refine wpAnyH_take (i := 3) (oi := ({ dst := some 22, op := .load 42 (.tmp 21), type := 42, pos := "ref.go:122", after := #[⟨2, .data⟩], guard := none } : Go.Oper)) (v := ?v49) rfl (by kernel_rfl) (by kernel_rfl) (by kernel_rfl) (fun _ _ _ h => h) (Or.inl ⟨by rfl, ?hy49⟩) (by assumption) ?rest49
      case hy49 => (intro w hSw; (try dsimp only at hSw); go_simp; (try with_reducible rfl))
      (try simp only [Act.put, List.getElem_toArray, List.getElem_cons_zero, List.getElem_cons_succ, List.setIfInBounds_toArray, List.set_cons_zero, List.set_cons_succ])
      refine wpAnyH_take (i := 4) (oi := ({ dst := some 23, op := .move (.tmp 1), type := 22, pos := "ref.go:122", after := #[⟨10, .gcOnly .lateStores⟩], guard := none } : Go.Oper)) (v := ?v50) rfl (by kernel_rfl) (by kernel_rfl) (by kernel_rfl) (fun _ _ _ h => h) (Or.inl ⟨by rfl, ?hy50⟩) (by assumption) ?rest50
      case hy50 => (intro w hSw; (try dsimp only at hSw); go_simp; (try with_reducible rfl))
      (try simp only [Act.put, List.getElem_toArray, List.getElem_cons_zero, List.getElem_cons_succ, List.setIfInBounds_toArray, List.set_cons_zero, List.set_cons_succ])
      refine wpAnyH_take (i := 5) (oi := ({ dst := some 24, op := .move (.tmp 5), type := 3, pos := "ref.go:122", after := #[⟨10, .gcOnly .lateStores⟩], guard := none } : Go.Oper)) (v := ?v51) rfl (by kernel_rfl) (by kernel_rfl) (by kernel_rfl) (fun _ _ _ h => h) (Or.inl ⟨by rfl, ?hy51⟩) (by assumption) ?rest51
      case hy51 => (intro w hSw; (try dsimp only at hSw); go_simp; (try with_reducible rfl))
      (try simp only [Act.put, List.getElem_toArray, List.getElem_cons_zero, List.getElem_cons_succ, List.setIfInBounds_toArray, List.set_cons_zero, List.set_cons_succ])
      refine wpAnyH_take (i := 6) (oi := ({ dst := some 25, op := .indexAddr 22 (.tmp 23) (.tmp 24), type := 0, pos := "ref.go:122", after := #[⟨4, .data⟩, ⟨5, .data⟩, ⟨10, .gcOnly .lateStores⟩], guard := none } : Go.Oper)) (v := ?v52) rfl (by kernel_rfl) (by kernel_rfl) (by kernel_rfl) (fun _ _ _ h => h) (Or.inl ⟨by rfl, ?hy52⟩) (by assumption) ?rest52
      case hy52 => (intro w hSw; (try dsimp only at hSw); go_simp; (try with_reducible rfl))
      (try simp only [Act.put, List.getElem_toArray, List.getElem_cons_zero, List.getElem_cons_succ, List.setIfInBounds_toArray, List.set_cons_zero, List.set_cons_succ])
      refine wpAnyH_take (i := 7) (oi := ({ dst := some 26, op := .load 42 (.tmp 25), type := 42, pos := "ref.go:122", after := #[⟨6, .data⟩, ⟨10, .gcOnly .lateStores⟩], guard := none } : Go.Oper)) (v := ?v53) rfl (by kernel_rfl) (by kernel_rfl) (by kernel_rfl) (fun _ _ _ h => h) (Or.inl ⟨by rfl, ?hy53⟩) (by assumption) ?rest53
      case hy53 => (intro w hSw; (try dsimp only at hSw); go_simp; (try with_reducible rfl))
      (try simp only [Act.put, List.getElem_toArray, List.getElem_cons_zero, List.getElem_cons_succ, List.setIfInBounds_toArray, List.set_cons_zero, List.set_cons_succ])
      refine wpAnyH_ready (rs := [8, 9]) (by kernel_rfl) (by simp) ?_
      refine AllReadyH.cons (o := ({ dst := some 6, op := .alloc 42, type := 0, pos := "ref.go:122", after := #[], guard := none } : Go.Oper)) rfl (fun K hK => ?one54) ?more54
      case' one54 =>
        go_simp
        refine hK.out _ _ (by (try dsimp only); exact HS.out _ (by with_reducible (repeat (first | exact Ext.rfl_ _ | assumption | refine Ext.drew ?_ | refine Ext.drewN ?_ _ | refine Ext.alloc ?_ _ | refine Ext.setCell ?_ (by first | (simp; done) | (simp; omega)) _ | refine Ext.trans ?_ (by assumption))))) (fun hHeld => ?_)
        clear hK K
        (try simp only [Act.put, List.getElem_toArray, List.getElem_cons_zero, List.getElem_cons_succ, List.setIfInBounds_toArray, List.set_cons_zero, List.set_cons_succ])
        refine wpAnyH_ready (rs := [9]) (by kernel_rfl) (by simp) ?_
        refine AllReadyH.cons (o := ({ dst := some 7, op := .alloc 42, type := 0, pos := "ref.go:122", after := #[], guard := none } : Go.Oper)) rfl (fun K hK => ?_) AllReadyH.nil
        go_simp
        refine hK.out _ _ (by (try dsimp only); exact HS.out _ (by with_reducible (repeat (first | exact Ext.rfl_ _ | assumption | refine Ext.drew ?_ | refine Ext.drewN ?_ _ | refine Ext.alloc ?_ _ | refine Ext.setCell ?_ (by first | (simp; done) | (simp; omega)) _ | refine Ext.trans ?_ (by assumption))))) (fun hHeld => ?_)
        clear hK K
        (try simp only [Act.put, List.getElem_toArray, List.getElem_cons_zero, List.getElem_cons_succ, List.setIfInBounds_toArray, List.set_cons_zero, List.set_cons_succ])
        refine wpAnyH_ready (rs := [10]) (by kernel_rfl) (by simp) ?_
        refine AllReadyH.cons (o := ({ dst := none, op := .store 42 (.tmp 6) (.tmp 22), type := 0, pos := "ref.go:122", after := #[⟨8, .data⟩, ⟨3, .data⟩, ⟨0, .phase⟩, ⟨1, .phase⟩, ⟨2, .phase⟩, ⟨3, .phase⟩, ⟨4, .textOnly .lateStores⟩, ⟨5, .textOnly .lateStores⟩, ⟨6, .textOnly .lateStores⟩, ⟨7, .textOnly .lateStores⟩, ⟨8, .phase⟩, ⟨9, .phase⟩], guard := none } : Go.Oper)) rfl (fun K hK => ?_) AllReadyH.nil
        go_simp
        refine hK.out _ _ (by (try dsimp only); exact HS.out _ (by with_reducible (repeat (first | exact Ext.rfl_ _ | assumption | refine Ext.drew ?_ | refine Ext.drewN ?_ _ | refine Ext.alloc ?_ _ | refine Ext.setCell ?_ (by first | (simp; done) | (simp; omega)) _ | refine Ext.trans ?_ (by assumption))))) (fun hHeld => ?_)
        clear hK K
        (try simp only [Act.put, List.getElem_toArray, List.getElem_cons_zero, List.getElem_cons_succ, List.setIfInBounds_toArray, List.set_cons_zero, List.set_cons_succ])
        refine wpAnyH_ready (rs := [11]) (by kernel_rfl) (by simp) ?_
        refine AllReadyH.cons (o := ({ dst := none, op := .store 42 (.tmp 7) (.tmp 26), type := 0, pos := "ref.go:122", after := #[⟨9, .data⟩, ⟨7, .data⟩, ⟨10, .chain⟩, ⟨0, .phase⟩, ⟨1, .phase⟩, ⟨2, .phase⟩, ⟨3, .phase⟩, ⟨4, .phase⟩, ⟨5, .phase⟩, ⟨6, .phase⟩, ⟨7, .phase⟩, ⟨8, .phase⟩, ⟨9, .phase⟩, ⟨10, .phase⟩], guard := none } : Go.Oper)) rfl (fun K hK => ?_) AllReadyH.nil
        go_simp
        refine hK.out _ _ (by (try dsimp only); exact HS.out _ (by with_reducible (repeat (first | exact Ext.rfl_ _ | assumption | refine Ext.drew ?_ | refine Ext.drewN ?_ _ | refine Ext.alloc ?_ _ | refine Ext.setCell ?_ (by first | (simp; done) | (simp; omega)) _ | refine Ext.trans ?_ (by assumption))))) (fun hHeld => ?_)
        clear hK K
        (try simp only [Act.put, List.getElem_toArray, List.getElem_cons_zero, List.getElem_cons_succ, List.setIfInBounds_toArray, List.set_cons_zero, List.set_cons_succ])
        refine wpAnyH_done (by kernel_rfl) ?_ _
      case' more54 =>
        refine AllReadyH.cons (o := ({ dst := some 7, op := .alloc 42, type := 0, pos := "ref.go:122", after := #[], guard := none } : Go.Oper)) rfl (fun K hK => ?_) AllReadyH.nil
        go_simp
        refine hK.out _ _ (by (try dsimp only); exact HS.out _ (by with_reducible (repeat (first | exact Ext.rfl_ _ | assumption | refine Ext.drew ?_ | refine Ext.drewN ?_ _ | refine Ext.alloc ?_ _ | refine Ext.setCell ?_ (by first | (simp; done) | (simp; omega)) _ | refine Ext.trans ?_ (by assumption))))) (fun hHeld => ?_)
        clear hK K
        (try simp only [Act.put, List.getElem_toArray, List.getElem_cons_zero, List.getElem_cons_succ, List.setIfInBounds_toArray, List.set_cons_zero, List.set_cons_succ])
        refine wpAnyH_ready (rs := [8]) (by kernel_rfl) (by simp) ?_
        refine AllReadyH.cons (o := ({ dst := some 6, op := .alloc 42, type := 0, pos := "ref.go:122", after := #[], guard := none } : Go.Oper)) rfl (fun K hK => ?_) AllReadyH.nil
        go_simp
        refine hK.out _ _ (by (try dsimp only); exact HS.out _ (by with_reducible (repeat (first | exact Ext.rfl_ _ | assumption | refine Ext.drew ?_ | refine Ext.drewN ?_ _ | refine Ext.alloc ?_ _ | refine Ext.setCell ?_ (by first | (simp; done) | (simp; omega)) _ | refine Ext.trans ?_ (by assumption))))) (fun hHeld => ?_)
        clear hK K
        (try simp only [Act.put, List.getElem_toArray, List.getElem_cons_zero, List.getElem_cons_succ, List.setIfInBounds_toArray, List.set_cons_zero, List.set_cons_succ])
        refine wpAnyH_ready (rs := [10]) (by kernel_rfl) (by simp) ?_
        refine AllReadyH.cons (o := ({ dst := none, op := .store 42 (.tmp 6) (.tmp 22), type := 0, pos := "ref.go:122", after := #[⟨8, .data⟩, ⟨3, .data⟩, ⟨0, .phase⟩, ⟨1, .phase⟩, ⟨2, .phase⟩, ⟨3, .phase⟩, ⟨4, .textOnly .lateStores⟩, ⟨5, .textOnly .lateStores⟩, ⟨6, .textOnly .lateStores⟩, ⟨7, .textOnly .lateStores⟩, ⟨8, .phase⟩, ⟨9, .phase⟩], guard := none } : Go.Oper)) rfl (fun K hK => ?_) AllReadyH.nil
        go_simp
        refine hK.out _ _ (by (try dsimp only); exact HS.out _ (by with_reducible (repeat (first | exact Ext.rfl_ _ | assumption | refine Ext.drew ?_ | refine Ext.drewN ?_ _ | refine Ext.alloc ?_ _ | refine Ext.setCell ?_ (by first | (simp; done) | (simp; omega)) _ | refine Ext.trans ?_ (by assumption))))) (fun hHeld => ?_)
        clear hK K
        (try simp only [Act.put, List.getElem_toArray, List.getElem_cons_zero, List.getElem_cons_succ, List.setIfInBounds_toArray, List.set_cons_zero, List.set_cons_succ])
        refine wpAnyH_ready (rs := [11]) (by kernel_rfl) (by simp) ?_
        refine AllReadyH.cons (o := ({ dst := none, op := .store 42 (.tmp 7) (.tmp 26), type := 0, pos := "ref.go:122", after := #[⟨9, .data⟩, ⟨7, .data⟩, ⟨10, .chain⟩, ⟨0, .phase⟩, ⟨1, .phase⟩, ⟨2, .phase⟩, ⟨3, .phase⟩, ⟨4, .phase⟩, ⟨5, .phase⟩, ⟨6, .phase⟩, ⟨7, .phase⟩, ⟨8, .phase⟩, ⟨9, .phase⟩, ⟨10, .phase⟩], guard := none } : Go.Oper)) rfl (fun K hK => ?_) AllReadyH.nil
        go_simp
        refine hK.out _ _ (by (try dsimp only); exact HS.out _ (by with_reducible (repeat (first | exact Ext.rfl_ _ | assumption | refine Ext.drew ?_ | refine Ext.drewN ?_ _ | refine Ext.alloc ?_ _ | refine Ext.setCell ?_ (by first | (simp; done) | (simp; omega)) _ | refine Ext.trans ?_ (by assumption))))) (fun hHeld => ?_)
        clear hK K
        (try simp only [Act.put, List.getElem_toArray, List.getElem_cons_zero, List.getElem_cons_succ, List.setIfInBounds_toArray, List.set_cons_zero, List.set_cons_succ])
        refine wpAnyH_done (by kernel_rfl) ?_ _
      all_goals
        have kkc1xa := (K1.out (World.drew ((wr.alloc (.cells #[.int .i64 x.num, .int .i64 x.lvl, .slice A1 n1 c1', .slice A2 n2 c2', .int .i64 x.size] 42)).alloc (.cells #[.int .i64 y.num, .int .i64 y.lvl, .slice A1' n1' d1', .slice A2' n2' d2', .int .i64 y.size] 42))) (by with_reducible (repeat (first | exact Ext.rfl_ _ | assumption | refine Ext.drew ?_ | refine Ext.drewN ?_ _ | refine Ext.alloc ?_ _ | refine Ext.trans ?_ (by assumption)))) c1' 35 5 9 Tryz.underlying35 Tryz.underlying5 Tryz.underlying9).1
        have kkc1xb := (K1.out (World.drew ((wr.alloc (.cells #[.int .i64 y.num, .int .i64 y.lvl, .slice A1' n1' d1', .slice A2' n2' d2', .int .i64 y.size] 42)).alloc (.cells #[.int .i64 x.num, .int .i64 x.lvl, .slice A1 n1 c1', .slice A2 n2 c2', .int .i64 x.size] 42))) (by with_reducible (repeat (first | exact Ext.rfl_ _ | assumption | refine Ext.drew ?_ | refine Ext.drewN ?_ _ | refine Ext.alloc ?_ _ | refine Ext.trans ?_ (by assumption)))) c1' 35 5 9 Tryz.underlying35 Tryz.underlying5 Tryz.underlying9).1
        have kkc2xa := (K1.out (World.drew ((wr.alloc (.cells #[.int .i64 x.num, .int .i64 x.lvl, .slice A1 n1 c1', .slice A2 n2 c2', .int .i64 x.size] 42)).alloc (.cells #[.int .i64 y.num, .int .i64 y.lvl, .slice A1' n1' d1', .slice A2' n2' d2', .int .i64 y.size] 42))) (by with_reducible (repeat (first | exact Ext.rfl_ _ | assumption | refine Ext.drew ?_ | refine Ext.drewN ?_ _ | refine Ext.alloc ?_ _ | refine Ext.trans ?_ (by assumption)))) c2' 35 5 9 Tryz.underlying35 Tryz.underlying5 Tryz.underlying9).2.1
        have kkc2xb := (K1.out (World.drew ((wr.alloc (.cells #[.int .i64 y.num, .int .i64 y.lvl, .slice A1' n1' d1', .slice A2' n2' d2', .int .i64 y.size] 42)).alloc (.cells #[.int .i64 x.num, .int .i64 x.lvl, .slice A1 n1 c1', .slice A2 n2 c2', .int .i64 x.size] 42))) (by with_reducible (repeat (first | exact Ext.rfl_ _ | assumption | refine Ext.drew ?_ | refine Ext.drewN ?_ _ | refine Ext.alloc ?_ _ | refine Ext.trans ?_ (by assumption)))) c2' 35 5 9 Tryz.underlying35 Tryz.underlying5 Tryz.underlying9).2.1
        have kkd1xa := (K1.out (World.drew ((wr.alloc (.cells #[.int .i64 x.num, .int .i64 x.lvl, .slice A1 n1 c1', .slice A2 n2 c2', .int .i64 x.size] 42)).alloc (.cells #[.int .i64 y.num, .int .i64 y.lvl, .slice A1' n1' d1', .slice A2' n2' d2', .int .i64 y.size] 42))) (by with_reducible (repeat (first | exact Ext.rfl_ _ | assumption | refine Ext.drew ?_ | refine Ext.drewN ?_ _ | refine Ext.alloc ?_ _ | refine Ext.trans ?_ (by assumption)))) d1' 35 5 9 Tryz.underlying35 Tryz.underlying5 Tryz.underlying9).2.2.1
        have kkd1xb := (K1.out (World.drew ((wr.alloc (.cells #[.int .i64 y.num, .int .i64 y.lvl, .slice A1' n1' d1', .slice A2' n2' d2', .int .i64 y.size] 42)).alloc (.cells #[.int .i64 x.num, .int .i64 x.lvl, .slice A1 n1 c1', .slice A2 n2 c2', .int .i64 x.size] 42))) (by with_reducible (repeat (first | exact Ext.rfl_ _ | assumption | refine Ext.drew ?_ | refine Ext.drewN ?_ _ | refine Ext.alloc ?_ _ | refine Ext.trans ?_ (by assumption)))) d1' 35 5 9 Tryz.underlying35 Tryz.underlying5 Tryz.underlying9).2.2.1
        have kkd2xa := (K1.out (World.drew ((wr.alloc (.cells #[.int .i64 x.num, .int .i64 x.lvl, .slice A1 n1 c1', .slice A2 n2 c2', .int .i64 x.size] 42)).alloc (.cells #[.int .i64 y.num, .int .i64 y.lvl, .slice A1' n1' d1', .slice A2' n2' d2', .int .i64 y.size] 42))) (by with_reducible (repeat (first | exact Ext.rfl_ _ | assumption | refine Ext.drew ?_ | refine Ext.drewN ?_ _ | refine Ext.alloc ?_ _ | refine Ext.trans ?_ (by assumption)))) d2' 35 5 9 Tryz.underlying35 Tryz.underlying5 Tryz.underlying9).2.2.2
        have kkd2xb := (K1.out (World.drew ((wr.alloc (.cells #[.int .i64 y.num, .int .i64 y.lvl, .slice A1' n1' d1', .slice A2' n2' d2', .int .i64 y.size] 42)).alloc (.cells #[.int .i64 x.num, .int .i64 x.lvl, .slice A1 n1 c1', .slice A2 n2 c2', .int .i64 x.size] 42))) (by with_reducible (repeat (first | exact Ext.rfl_ _ | assumption | refine Ext.drew ?_ | refine Ext.drewN ?_ _ | refine Ext.alloc ?_ _ | refine Ext.trans ?_ (by assumption)))) d2' 35 5 9 Tryz.underlying35 Tryz.underlying5 Tryz.underlying9).2.2.2
        go_wp2
        go_roundw
        case rel => exact ⟨k + 1, by simp, by omega, HT, (by with_reducible (repeat (first | exact Ext.rfl_ _ | assumption | refine Ext.drew ?_ | refine Ext.drewN ?_ _ | refine Ext.alloc ?_ _ | refine Ext.trans ?_ (by assumption))))⟩
        case measure => simp [intOf]; omega
  · have hne' : ((n : Int) != (m : Int)) = true := by simp; omega
    have hr : false = decide (xs = ys) := by
      refine (decide_eq_false (fun e => hne ?_)).symm
      rw [← HX.out.1, ← HY.out.1, e]
    have HR := Lib.hid hr
    clear hr hne
    go_enter Tryz.func39, Tryz.ntmps39
    go_wp2
    go_ret
    exact ⟨ret_bool HR.out, Ext.rfl_ _⟩


set_option maxRecDepth 100000 in
set_option maxHeartbeats 4000000 in
theorem rsameV_any (u v : Value) (x y : Ver) (w : World) (hx : RdV w u x) (hy : RdV w v y) :
    Calls Tryz.prog 10 #[u, v] w fun e w' => e = .returned (.bool (decide (x = y))) ∧ Ext w w' := by
  obtain ⟨A, n, c, rfl, hl, hnc⟩ := hx
  obtain ⟨B, m, d, rfl, hl2, hmd⟩ := hy
  have HL := Lib.hid hl
  have HL2 := Lib.hid hl2
  clear hl hl2
  by_cases a0 : x.next = y.next
  rotate_left
  · have HR : Hid (false = decide (x = y)) := Lib.hid (decide_eq_false (fun h => a0 (by rw [h]))).symm
    have e0 : (x.next != y.next) = true := by simp [a0]
    clear a0
    go_enter Tryz.func10, Tryz.ntmps10
    go_wp2
    go_ret
    exact ⟨ret_bool HR.out, (by with_reducible (repeat (first | exact Ext.rfl_ _ | assumption | refine Ext.drew ?_ | refine Ext.drewN ?_ _ | refine Ext.alloc ?_ _ | refine Ext.trans ?_ (by assumption))))⟩
  have e0 : (x.next != y.next) = false := by simp [a0]
  by_cases a1 : x.log = y.log
  rotate_left
  · have HR : Hid (false = decide (x = y)) := Lib.hid (decide_eq_false (fun h => a1 (by rw [h]))).symm
    have e1 : (x.log != y.log) = true := by simp [a1]
    clear a1
    go_enter Tryz.func10, Tryz.ntmps10
    go_wp2
    go_ret
    exact ⟨ret_bool HR.out, (by with_reducible (repeat (first | exact Ext.rfl_ _ | assumption | refine Ext.drew ?_ | refine Ext.drewN ?_ _ | refine Ext.alloc ?_ _ | refine Ext.trans ?_ (by assumption))))⟩
  have e1 : (x.log != y.log) = false := by simp [a1]
  by_cases a2 : x.index = y.index
  rotate_left
  · have HR : Hid (false = decide (x = y)) := Lib.hid (decide_eq_false (fun h => a2 (by rw [h]))).symm
    have e2 : (x.index != y.index) = true := by simp [a2]
    clear a2
    go_enter Tryz.func10, Tryz.ntmps10
    go_wp2
    go_ret
    exact ⟨ret_bool HR.out, (by with_reducible (repeat (first | exact Ext.rfl_ _ | assumption | refine Ext.drew ?_ | refine Ext.drewN ?_ _ | refine Ext.alloc ?_ _ | refine Ext.trans ?_ (by assumption))))⟩
  have e2 : (x.index != y.index) = false := by simp [a2]
  by_cases a3 : x.seq = y.seq
  rotate_left
  · have HR : Hid (false = decide (x = y)) := Lib.hid (decide_eq_false (fun h => a3 (by rw [h]))).symm
    have e3 : (x.seq != y.seq) = true := by simp [a3]
    clear a3
    go_enter Tryz.func10, Tryz.ntmps10
    go_wp2
    go_ret
    exact ⟨ret_bool HR.out, (by with_reducible (repeat (first | exact Ext.rfl_ _ | assumption | refine Ext.drew ?_ | refine Ext.drewN ?_ _ | refine Ext.alloc ?_ _ | refine Ext.trans ?_ (by assumption))))⟩
  have e3 : (x.seq != y.seq) = false := by simp [a3]
  have HD : Hid (decide (x = y) = decide (x.ts = y.ts)) := Lib.hid (decide_eq_decide.2 ⟨fun h => by rw [h], fun h => by cases x; cases y; simp at a0 a1 a2 a3 h ⊢; exact ⟨a0, a1, a2, a3, h⟩⟩)
  clear a0 a1 a2 a3
  go_enter Tryz.func10, Tryz.ntmps10
  go_wp2_with fail
  refine (rsameT_any A n c B m d x.ts y.ts _ (HL.out.ext (by with_reducible (repeat (first | exact Ext.rfl_ _ | assumption | refine Ext.drew ?_ | refine Ext.drewN ?_ _ | refine Ext.alloc ?_ _ | refine Ext.trans ?_ (by assumption))))) (HL2.out.ext (by with_reducible (repeat (first | exact Ext.rfl_ _ | assumption | refine Ext.drew ?_ | refine Ext.drewN ?_ _ | refine Ext.alloc ?_ _ | refine Ext.trans ?_ (by assumption)))))).mono ?_
  rintro e w1 ⟨rfl, hw1⟩
  go_wp2
  go_ret
  exact ⟨ret_bool HD.out.symm, (by with_reducible (repeat (first | exact Ext.rfl_ _ | assumption | refine Ext.drew ?_ | refine Ext.drewN ?_ _ | refine Ext.alloc ?_ _ | refine Ext.trans ?_ (by assumption))))⟩

end Go.Proofs.YteooaplimiifiaaGreat
