/- The walk of WalAfter. Conditions: the bytes read. -/
import Derived.Test.YthdahmicjlplcaaBatK
namespace Go.Proofs.Ythdahmicjlplcaa
set_option linter.unusedSimpArgs false
set_option linter.unusedVariables false
open Go.RowKit

set_option maxRecDepth 100000 in
set_option maxHeartbeats 8000000 in
theorem wafter_walk (A : Option Addr) (n c : Nat) (idx leave : Int) (b : Bs) (w : World) (hx : Rd w A n b) (hnc : n ≤ c) (hn : n ≤ B47) :
    Calls Try.prog 5 #[.slice A n c, .int .i64 idx, .int .i64 leave] w fun e w' => e = .returned (.bool true) ∧ Ext w w' := by
  have HX := Lib.hid hx
  have hbl := hx.1
  clear hx
  go_enter Try.func5, Try.ntmps5
  by_cases h9 : (60000 : Int) < (n : Int)
  · have d9 : decide (60000 < n) = true := decide_eq_true (by omega)
    go_wp2_with fail
    refine (known_any _).mono ?_
    rintro e w1 ⟨rfl, hw1⟩
    go_wp2
    go_ret
    exact ⟨rfl, (by with_reducible (repeat (first | exact Ext.rfl_ _ | assumption | refine Ext.drew ?_ | refine Ext.drewN ?_ _ | refine Ext.alloc ?_ _ | refine Ext.trans ?_ (by assumption))))⟩
  · have d9 : decide ((60000 : Int) < (n : Int)) = false := decide_eq_false h9
    have d9n : decide (60000 < n) = false := decide_eq_false (by omega)
    have hn40 : n ≤ 1000000 := by omega
    have hlen := batW_len b
    rw [hbl] at hlen
    clear hbl
    go_wp2_with fail
    refine (r13batches_any A n c b _ HX.out hnc hn40).mono ?_
    rintro e w4 ⟨vm, rfl, o4, hw4⟩
    obtain ⟨Am, nm, cm, rfl, hcm, hrm⟩ := o4.formN (by unfold B41; omega)
    obtain ⟨xs, hxs⟩ : ∃ xs, xs = batW b := ⟨_, rfl⟩
    have haf : aftW b idx = xs.filter fun x => decide (idx < x.idx) := by unfold aftW; rw [hxs]
    rw [← hxs] at hrm hlen
    have hnm : xs.length = nm := hrm.1
    rw [hnm] at hlen
    have HRM := Lib.hid hrm
    have HNM := Lib.hid hnm
    have HAF := Lib.hid haf
    have X4 := Lib.hid hw4
    clear o4 hrm hw4 hxs haf hnm
    go_wp2
    go_loopw [10, 11] (fun u i wr => ∃ (k : Nat) (v : Value), u = v ∧ i = .int .i64 k ∧ k ≤ nm ∧ Hid (OwnLB (fun h es => RdL w4 h.A h.n es) wr w4.heap.size v ((xs.take k).filter fun x => decide (idx < x.idx))) ∧ Hid (Ext w4 wr)) (fun _ i _ => nm - (intOf i).toNat)
    case atStart => exact ⟨0, _, rfl, rfl, Nat.zero_le _, Lib.hid (OwnLB.nil _ _ _), Lib.hid (Ext.rfl_ _)⟩
    case round =>
      obtain ⟨k, v, rfl, rfl, hk, HO, HE⟩ := hrel
      by_cases hkc : k = nm
      · subst hkc
        have hfull : (xs.take k).filter (fun x => decide (idx < x.idx)) = aftW b idx := by rw [List.take_of_length_le (by rw [HNM.out]; exact Nat.le_refl _), HAF.out]
        have HOF := Lib.hid HO.out
        rw [hfull] at HOF
        have hal : (aftW b idx).length ≤ k := by rw [HAF.out, ← HNM.out]; exact List.length_filter_le _ _
        obtain ⟨A', n', c', rfl, hc', hrw⟩ := OwnLB.formN HOF.out (fun a es h => h.ext HE.out) (by unfold B41; omega)
        have HRW := Lib.hid hrw
        clear hrw hfull HOF HO hal
        go_wp2_with fail
        refine (once_any A n c b idx A' n' c' leave _ (HX.out.ext (X4.out.trans HE.out)) hnc hn40 HRW.out hc').mono ?_
        rintro e w5 ⟨rfl, hw5⟩
        have X5 := Lib.hid (HE.out.trans hw5)
        have HRW5 := Lib.hid (HRW.out.ext hw5)
        clear hw5 HRW
        go_wp2_with fail
        refine (once_any A n c b idx A' n' c' 0 _ (HX.out.ext (X4.out.trans X5.out)) hnc hn40 HRW5.out hc').mono ?_
        rintro e w6 ⟨rfl, hw6⟩
        go_wp2_with fail
        refine (known_any _).mono ?_
        rintro e w7 ⟨rfl, hw7⟩
        go_wp2
        go_ret
        exact ⟨rfl, X4.out.trans (X5.out.trans (hw6.trans hw7))⟩
      · have hkn : k < nm := by omega
        have hlt : (k : Int) < (nm : Int) := by omega
        obtain ⟨bb, oo, A1, n1, c1, x, rfl, hxk, d0, d1, hr1, hnc1⟩ := HRM.out.at_ k hkn
        have e0 := HE.out.keeps _ _ _ d0
        have e1 := HE.out.keeps _ _ _ d1
        have HR1 := Lib.hid hr1
        have HXK := Lib.hid hxk
        clear hr1 hxk d0 d1
        by_cases hgt : idx < x.idx
        · have hdt : decide (idx < x.idx) = true := decide_eq_true hgt
          have HF : Hid ((xs.take (k + 1)).filter (fun x => decide (idx < x.idx)) = (xs.take k).filter (fun x => decide (idx < x.idx)) ++ [x]) := Lib.hid (by rw [filter_take HXK.out, if_pos hdt])
          obtain ⟨ys, hys⟩ : ∃ ys, ys = (xs.take k).filter (fun x => decide (idx < x.idx)) := ⟨_, rfl⟩
          have HSZ : Hid (ys.length ≤ 1000000) := Lib.hid (by rw [hys]; have := List.length_filter_le (fun x : Bat => decide (idx < x.idx)) (xs.take k); rw [List.length_take] at this; omega)
          rw [← hys] at HO HF
          clear hys
          have xa : Ext wr (wr.alloc (.cells #[.int .i64 x.idx, .slice A1 n1 c1] 24)) := (by with_reducible (repeat (first | exact Ext.rfl_ _ | assumption | refine Ext.drew ?_ | refine Ext.drewN ?_ _ | refine Ext.alloc ?_ _ | refine Ext.trans ?_ (by assumption))))
          have HOA := Lib.hid (OwnLB.ext HO.out xa)
          have HBS := Lib.hid (HE.out.trans xa).size
          have HEA := Lib.hid (HE.out.trans xa)
          clear xa
          go_wp2_with (at_builtin; refine wp_appLB rfl _ _ rfl w4.heap.size u10 ys rfl HOA.out wr 24 ⟨A1, n1, c1⟩ x rfl HR1.out hnc1 wr.heap.size rfl rfl HSZ.out HBS.out ?_; intro v8 w8 o8 k8 g8; have X8 := Lib.hid (HEA.out.grown g8 (fun g e => (OwnLB.row HOA.out g e).1)); have O8 := Lib.hid o8; clear o8 k8 g8)
          go_roundw
          case rel => exact ⟨k + 1, _, rfl, by go_num, by omega, Lib.hid (by rw [HF.out]; exact O8.out), X8⟩
          case measure => simp [intOf]; omega
        · have hdt : decide (idx < x.idx) = false := decide_eq_false hgt
          have HF : Hid ((xs.take (k + 1)).filter (fun x => decide (idx < x.idx)) = (xs.take k).filter (fun x => decide (idx < x.idx))) := Lib.hid (by rw [filter_take HXK.out, if_neg (by rw [hdt]; decide), List.append_nil])
          go_wp2
          go_roundw
          case rel => exact ⟨k + 1, _, rfl, by go_num, by omega, Lib.hid (by rw [HF.out]; exact HO.out), HE⟩
          case measure => simp [intOf]; omega

end Go.Proofs.Ythdahmicjlplcaa
