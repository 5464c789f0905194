/- Contracts of the reference's Much, SameList. Conditions: the lists read. -/
import Derived.Test.YtpohmoakilioiaaOwnL
import Derived.Test.YtpohmoakilioiaaSame
import Derived.BigRegion
namespace Go.Proofs.Ytpohmoakilioiaa
set_option linter.unusedSimpArgs false
set_option linter.unusedVariables false
set_option maxRecDepth 100000
open Go.RowKit

/-- How much entries are. -/
def wtE (x : Ent) : Nat := 1 + x.key.length + x.val.length
def wt (xs : List Ent) : Nat := (xs.map wtE).sum
theorem wt_snoc (xs : List Ent) (x : Ent) : wt (xs ++ [x]) = wt xs + wtE x := by simp [wt]
theorem wt_take_le (xs : List Ent) (k : Nat) : wt (xs.take k) ≤ wt xs := by
  have : wt xs = wt (xs.take k) + wt (xs.drop k) := by
    conv => lhs; rw [← List.take_append_drop k xs]
    unfold wt
    rw [List.map_append, List.sum_append]
  omega

set_option maxRecDepth 100000 in
set_option maxHeartbeats 2000000 in
theorem rmuch_any (A : Option Addr) (n c most : Nat) (xs : List Ent) (w : World) (hl : RdL w A n xs) (hm : most ≤ 1000000) :
    Calls Try.prog 24 #[.slice A n c, .int .i64 most] w fun e w' => e = .returned (.bool (decide (most < wt xs))) ∧ Ext w w' := by
  have HL := Lib.hid hl
  have hn := hl.2.1
  unfold B41 at hn
  clear hl
  go_enter Try.func24, Try.ntmps24
  go_wp2
  go_loopw [5, 6] (fun t i wr => ∃ N k : Nat, t = .int .i64 N ∧ i = .int .i64 k ∧ k ≤ n ∧ N ≤ 10000000 ∧ Hid (N ≤ most → N = wt (xs.take k)) ∧ Hid (most < N → most < wt (xs.take k)) ∧ Ext w wr) (fun _ i _ => n - (intOf i).toNat)
  case atStart => exact ⟨0, 0, rfl, rfl, Nat.zero_le _, by omega, Lib.hid (fun _ => rfl), Lib.hid (fun h => absurd h (by omega)), Ext.rfl_ _⟩
  case round =>
    obtain ⟨N, k, rfl, rfl, hk, hN, h1, h2, hE⟩ := hrel
    by_cases c1 : (k : Int) < (n : Int)
    · by_cases c2 : (N : Int) ≤ (most : Int)
      · obtain ⟨b, o, A1, n1, c1', A2, n2, c2', x, rfl, hx, ⟨q0, q1, q2, q3⟩, hr⟩ := HL.out.at_ k (by omega)
        obtain ⟨B, m, d, B', m', d', hv, r1, r2, _, b1, _, b2⟩ := hr
        simp at hv
        obtain ⟨⟨rfl, rfl, rfl⟩, rfl, rfl, rfl⟩ := hv
        have g0 := hE.keeps _ _ _ q0
        have g3 := hE.keeps _ _ _ q3
        have l1 := r1.1
        have l2 := r2.1
        unfold B47 at b1 b2
        clear q0 q1 q2 q3 r1 r2
        go_wp2
        go_quiet (fail)
        have hke : k < xs.length := by rw [HL.out.1]; omega
        have hxe : xs[k] = x := by rw [List.getElem?_eq_getElem hke] at hx; exact Option.some.inj hx
        have htk : wt (xs.take (k + 1)) = wt (xs.take k) + (1 + n1 + n2) := by
          rw [List.take_succ_eq_append_getElem hke, wt_snoc, hxe, wtE, l1, l2]
        have HT := Lib.hid htk
        clear htk hxe hke hx l1 l2
        go_wp2
        go_roundw
        case rel =>
          have e1 := h1.out (by omega)
          have e2 := HT.out
          refine ⟨N + 1 + min n1 (most + 1) + min n2 (most + 1), k + 1, ?_, by go_num, by omega, by omega, Lib.hid (fun h => by omega), Lib.hid (fun h => by omega), (by with_reducible (repeat (first | exact Ext.rfl_ _ | assumption | refine Ext.drew ?_ | refine Ext.drewN ?_ _ | refine Ext.alloc ?_ _ | refine Ext.trans ?_ (by assumption))))⟩
          congr 1
          split <;> split <;> omega
        case measure => simp [intOf]; omega
      · have c3 : (most : Int) < (N : Int) := by omega
        have hr : true = decide (most < wt xs) := by
          have e1 := h2.out (by omega)
          have e2 := wt_take_le xs k
          exact (decide_eq_true (by omega)).symm
        have HR := Lib.hid hr
        clear hr
        go_wp2
        go_ret
        exact ⟨ret_bool HR.out, hE⟩
    · have e0 : xs.take k = xs := List.take_of_length_le (by rw [HL.out.1]; omega)
      by_cases c2 : (N : Int) ≤ (most : Int)
      · have hr : false = decide (most < wt xs) := by
          have e1 := h1.out (by omega)
          rw [e0] at e1
          exact (decide_eq_false (by omega)).symm
        have HR := Lib.hid hr
        clear hr e0
        have c3 : ¬ (most : Int) < (N : Int) := by omega
        go_wp2
        go_ret
        exact ⟨ret_bool HR.out, hE⟩
      · have hr : true = decide (most < wt xs) := by
          have e1 := h2.out (by omega)
          rw [e0] at e1
          exact (decide_eq_true (by omega)).symm
        have HR := Lib.hid hr
        clear hr e0
        have c3 : (most : Int) < (N : Int) := by omega
        go_wp2
        go_ret
        exact ⟨ret_bool HR.out, hE⟩

set_option maxRecDepth 100000 in
set_option maxHeartbeats 2000000 in
theorem rsameL_any (A : Option Addr) (n c : Nat) (B : Option Addr) (m d : Nat) (xs ys : List Ent) (w : World) (hx : RdL w A n xs) (hy : RdL w B m ys) :
    Calls Try.prog 41 #[.slice A n c, .slice B m d] w fun e w' => e = .returned (.bool (decide (xs = ys))) ∧ Ext w w' := by
  have HX := Lib.hid hx
  have HY := Lib.hid hy
  have hn := hx.2.1
  have hm := hy.2.1
  unfold B41 at hn hm
  clear hx hy
  by_cases hne : n = m
  · subst hne
    go_enter Try.func41, Try.ntmps41
    go_wp2
    go_loopw [5] (fun i wr => ∃ k : Nat, i = .int .i64 k ∧ k ≤ n ∧ Hid (xs.take k = ys.take k) ∧ Ext w wr) (fun i _ => n - (intOf i).toNat)
    case atStart => exact ⟨0, rfl, Nat.zero_le _, Lib.hid rfl, Ext.rfl_ _⟩
    case round =>
      obtain ⟨k, rfl, hk, h1, hE⟩ := hrel
      by_cases c1 : (k : Int) < (n : Int)
      · obtain ⟨b, o, A1, n1, c1', A2, n2, c2', x, rfl, hx, ⟨q0, q1, q2, q3⟩, hr⟩ := HX.out.at_ k (by omega)
        obtain ⟨b', o', A1', n1', d1', A2', n2', d2', y, rfl, hy, ⟨p0, p1, p2, p3⟩, hs⟩ := HY.out.at_ k (by omega)
        have hS : ∀ W, Ext w W → (W.cell? ⟨b, o + k * 4, none⟩ = some (.slice A1 n1 c1') ∧ W.cell? ⟨b, o + k * 4 + 1, none⟩ = some (.int .i64 x.seq) ∧ W.cell? ⟨b, o + k * 4 + 2, none⟩ = some (.int .i64 x.kind) ∧ W.cell? ⟨b, o + k * 4 + 3, none⟩ = some (.slice A2 n2 c2')) ∧
            (W.cell? ⟨b', o' + k * 4, none⟩ = some (.slice A1' n1' d1') ∧ W.cell? ⟨b', o' + k * 4 + 1, none⟩ = some (.int .i64 y.seq) ∧ W.cell? ⟨b', o' + k * 4 + 2, none⟩ = some (.int .i64 y.kind) ∧ W.cell? ⟨b', o' + k * 4 + 3, none⟩ = some (.slice A2' n2' d2')) := fun W K =>
          ⟨⟨K.keeps _ _ _ q0, K.keeps _ _ _ q1, K.keeps _ _ _ q2, K.keeps _ _ _ q3⟩, ⟨K.keeps _ _ _ p0, K.keeps _ _ _ p1, K.keeps _ _ _ p2, K.keeps _ _ _ p3⟩⟩
        have HS := Lib.hid hS
        have HR1 := Lib.hid hr
        have HR2 := Lib.hid hs
        have hkx : k < xs.length := by rw [HX.out.1]; omega
        have hky : k < ys.length := by rw [HY.out.1]; omega
        have ex : xs[k] = x := by rw [List.getElem?_eq_getElem hkx] at hx; exact Option.some.inj hx
        have ey : ys[k] = y := by rw [List.getElem?_eq_getElem hky] at hy; exact Option.some.inj hy
        have EX := Lib.hid ex
        have EY := Lib.hid ey
        clear hS hr hs q0 q1 q2 q3 p0 p1 p2 p3 hx hy ex ey
        by_cases hxy : x = y
        · have hd : decide (x = y) = true := decide_eq_true hxy
          have HD := Lib.hid hd
          have HXY := Lib.hid hxy
          clear hd hxy
          go_wp2
          go_region_held3 (fun W => (W.cell? ⟨b, o + k * 4, none⟩ = some (.slice A1 n1 c1') ∧ W.cell? ⟨b, o + k * 4 + 1, none⟩ = some (.int .i64 x.seq) ∧ W.cell? ⟨b, o + k * 4 + 2, none⟩ = some (.int .i64 x.kind) ∧ W.cell? ⟨b, o + k * 4 + 3, none⟩ = some (.slice A2 n2 c2')) ∧
            (W.cell? ⟨b', o' + k * 4, none⟩ = some (.slice A1' n1' d1') ∧ W.cell? ⟨b', o' + k * 4 + 1, none⟩ = some (.int .i64 y.seq) ∧ W.cell? ⟨b', o' + k * 4 + 2, none⟩ = some (.int .i64 y.kind) ∧ W.cell? ⟨b', o' + k * 4 + 3, none⟩ = some (.slice A2' n2' d2')))
            (exact HS.out _ (by with_reducible (repeat (first | exact Ext.rfl_ _ | assumption | refine Ext.drew ?_ | refine Ext.drewN ?_ _ | refine Ext.alloc ?_ _ | refine Ext.trans ?_ (by assumption))))) ((go_at_call 23; refine (rsame_any _ _ x y _ (HR1.out.ext (by with_reducible (repeat (first | exact Ext.rfl_ _ | assumption | refine Ext.drew ?_ | refine Ext.drewN ?_ _ | refine Ext.alloc ?_ _ | refine Ext.trans ?_ (by assumption))))) (HR2.out.ext (by with_reducible (repeat (first | exact Ext.rfl_ _ | assumption | refine Ext.drew ?_ | refine Ext.drewN ?_ _ | refine Ext.alloc ?_ _ | refine Ext.trans ?_ (by assumption)))))).mono ?_; rintro e w4 ⟨rfl, hw4⟩; rw [HD.out]))
          go_wp2
          go_roundw
          case rel =>
            refine ⟨k + 1, by go_num, by omega, Lib.hid ?_, (by with_reducible (repeat (first | exact Ext.rfl_ _ | assumption | refine Ext.drew ?_ | refine Ext.drewN ?_ _ | refine Ext.alloc ?_ _ | refine Ext.trans ?_ (by assumption))))⟩
            rw [List.take_succ_eq_append_getElem hkx, List.take_succ_eq_append_getElem hky, h1.out, EX.out, EY.out, HXY.out]
          case measure => simp [intOf]; omega
        · have hd : decide (x = y) = false := decide_eq_false hxy
          have HD := Lib.hid hd
          have hr : false = decide (xs = ys) := by
            refine (decide_eq_false (fun e => hxy ?_)).symm
            rw [← EX.out, ← EY.out]
            subst e; rfl
          have HR := Lib.hid hr
          clear hd hxy hr
          go_wp2
          go_region_held3 (fun W => (W.cell? ⟨b, o + k * 4, none⟩ = some (.slice A1 n1 c1') ∧ W.cell? ⟨b, o + k * 4 + 1, none⟩ = some (.int .i64 x.seq) ∧ W.cell? ⟨b, o + k * 4 + 2, none⟩ = some (.int .i64 x.kind) ∧ W.cell? ⟨b, o + k * 4 + 3, none⟩ = some (.slice A2 n2 c2')) ∧
            (W.cell? ⟨b', o' + k * 4, none⟩ = some (.slice A1' n1' d1') ∧ W.cell? ⟨b', o' + k * 4 + 1, none⟩ = some (.int .i64 y.seq) ∧ W.cell? ⟨b', o' + k * 4 + 2, none⟩ = some (.int .i64 y.kind) ∧ W.cell? ⟨b', o' + k * 4 + 3, none⟩ = some (.slice A2' n2' d2')))
            (exact HS.out _ (by with_reducible (repeat (first | exact Ext.rfl_ _ | assumption | refine Ext.drew ?_ | refine Ext.drewN ?_ _ | refine Ext.alloc ?_ _ | refine Ext.trans ?_ (by assumption))))) ((go_at_call 23; refine (rsame_any _ _ x y _ (HR1.out.ext (by with_reducible (repeat (first | exact Ext.rfl_ _ | assumption | refine Ext.drew ?_ | refine Ext.drewN ?_ _ | refine Ext.alloc ?_ _ | refine Ext.trans ?_ (by assumption))))) (HR2.out.ext (by with_reducible (repeat (first | exact Ext.rfl_ _ | assumption | refine Ext.drew ?_ | refine Ext.drewN ?_ _ | refine Ext.alloc ?_ _ | refine Ext.trans ?_ (by assumption)))))).mono ?_; rintro e w4 ⟨rfl, hw4⟩; rw [HD.out]))
          go_wp2
          go_ret
          exact ⟨ret_bool HR.out, (by with_reducible (repeat (first | exact Ext.rfl_ _ | assumption | refine Ext.drew ?_ | refine Ext.drewN ?_ _ | refine Ext.alloc ?_ _ | refine Ext.trans ?_ (by assumption))))⟩
      · have hr : true = decide (xs = ys) := by
          have e := h1.out
          rw [List.take_of_length_le (by rw [HX.out.1]; omega), List.take_of_length_le (by rw [HY.out.1]; omega)] at e
          exact (decide_eq_true e).symm
        have HR := Lib.hid hr
        clear hr
        go_wp2
        go_ret
        exact ⟨ret_bool HR.out, hE⟩
  · have hne' : ((n : Int) != (m : Int)) = true := by simp; omega
    have hr : false = decide (xs = ys) := by
      refine (decide_eq_false (fun e => hne ?_)).symm
      rw [← HX.out.1, ← HY.out.1, e]
    have HR := Lib.hid hr
    clear hr hne
    go_enter Try.func41, Try.ntmps41
    go_wp2
    go_ret
    exact ⟨ret_bool HR.out, Ext.rfl_ _⟩

end Go.Proofs.Ytpohmoakilioiaa
