/- Contracts of ikey.May and of the reference's May. Conditions: the entry reads. -/
import Derived.Test.YtpohmoakilioiaaWireJ
namespace Go.Proofs.Ytpohmoakilioiaa
set_option linter.unusedSimpArgs false
set_option linter.unusedVariables false
set_option maxRecDepth 100000
open Go.RowKit

theorem blk1 (w : World) (o : Obj) : (w.alloc o).heap[w.heap.size]? = some o := heap_alloc_new w o

set_option maxRecDepth 100000 in
set_option maxHeartbeats 2000000 in
theorem may_any (v : Value) (x : Ent) (w : World) (hx : RdE w v x) :
    Calls Try.prog 33 #[v] w fun e w' => e = .returned (.bool (mayE x)) ∧ Ext w w' := by
  obtain ⟨A, n, c, A', n', c', rfl, hx1, hx2, _, h2, _, h4⟩ := hx
  have e1 := hx1.1
  have e2 := hx2.1
  obtain ⟨xk, xs, xn, xv⟩ := x
  dsimp only at *
  subst e1 e2
  have hno : ¬ MayE ⟨xk, xs, xn, xv⟩ → false = mayE ⟨xk, xs, xn, xv⟩ := mayE_no
  have hyes : MayE ⟨xk, xs, xn, xv⟩ → true = mayE ⟨xk, xs, xn, xv⟩ := mayE_yes
  have HN := Lib.hid hno
  have HY := Lib.hid hyes
  unfold MayE at HN HY
  dsimp only at HN HY
  clear hno hyes hx1 hx2
  unfold B47 at h2 h4
  by_cases c1 : (xk.length : Int) < 1
  · go_enter Try.func33, Try.ntmps33
    go_wp2
    go_ret
    exact ⟨ret_bool (HN.out (by omega)), (by with_reducible (repeat (first | exact Ext.rfl_ _ | assumption | refine Ext.drew ?_ | refine Ext.drewN ?_ _ | refine Ext.alloc ?_ _ | refine Ext.trans ?_ (by assumption))))⟩
  by_cases c2 : (32 : Int) < xk.length
  · go_enter Try.func33, Try.ntmps33
    go_wp2
    go_ret
    exact ⟨ret_bool (HN.out (by omega)), (by with_reducible (repeat (first | exact Ext.rfl_ _ | assumption | refine Ext.drew ?_ | refine Ext.drewN ?_ _ | refine Ext.alloc ?_ _ | refine Ext.trans ?_ (by assumption))))⟩
  by_cases c3 : xs < 1
  · go_enter Try.func33, Try.ntmps33
    go_wp2
    go_ret
    exact ⟨ret_bool (HN.out (by omega)), (by with_reducible (repeat (first | exact Ext.rfl_ _ | assumption | refine Ext.drew ?_ | refine Ext.drewN ?_ _ | refine Ext.alloc ?_ _ | refine Ext.trans ?_ (by assumption))))⟩
  by_cases c4 : 2147483647 < xs
  · go_enter Try.func33, Try.ntmps33
    go_wp2
    go_ret
    exact ⟨ret_bool (HN.out (by omega)), (by with_reducible (repeat (first | exact Ext.rfl_ _ | assumption | refine Ext.drew ?_ | refine Ext.drewN ?_ _ | refine Ext.alloc ?_ _ | refine Ext.trans ?_ (by assumption))))⟩
  by_cases c5 : (65536 : Int) < xv.length
  · go_enter Try.func33, Try.ntmps33
    go_wp2
    go_ret
    exact ⟨ret_bool (HN.out (by omega)), (by with_reducible (repeat (first | exact Ext.rfl_ _ | assumption | refine Ext.drew ?_ | refine Ext.drewN ?_ _ | refine Ext.alloc ?_ _ | refine Ext.trans ?_ (by assumption))))⟩
  by_cases c6 : xn = 1
  · subst c6
    have hy := HY.out ⟨by omega, by omega, by omega, by omega, by omega, .inl rfl⟩
    have HY2 := Lib.hid hy
    clear hy
    go_enter Try.func33, Try.ntmps33
    go_wp2
    go_ret
    exact ⟨ret_bool HY2.out, (by with_reducible (repeat (first | exact Ext.rfl_ _ | assumption | refine Ext.drew ?_ | refine Ext.drewN ?_ _ | refine Ext.alloc ?_ _ | refine Ext.trans ?_ (by assumption))))⟩
  have c6' : (xn == 1) = false := by simpa using c6
  by_cases c7 : xn = 2
  · subst c7
    by_cases c8 : xv.length = 0
    · have c8' : ((xv.length : Int) == 0) = true := by simp; exact List.eq_nil_of_length_eq_zero c8
      go_enter Try.func33, Try.ntmps33
      go_wp2
      go_ret
      exact ⟨ret_bool (HY.out ⟨by omega, by omega, by omega, by omega, by omega, .inr ⟨by simp, by omega⟩⟩), (by with_reducible (repeat (first | exact Ext.rfl_ _ | assumption | refine Ext.drew ?_ | refine Ext.drewN ?_ _ | refine Ext.alloc ?_ _ | refine Ext.trans ?_ (by assumption))))⟩
    · have c8' : ((xv.length : Int) == 0) = false := by simp; intro h; exact c8 (by simp [h])
      go_enter Try.func33, Try.ntmps33
      go_wp2
      go_ret
      exact ⟨ret_bool (HN.out (by omega)), (by with_reducible (repeat (first | exact Ext.rfl_ _ | assumption | refine Ext.drew ?_ | refine Ext.drewN ?_ _ | refine Ext.alloc ?_ _ | refine Ext.trans ?_ (by assumption))))⟩
  have c7' : (xn == 2) = false := by simpa using c7
  go_enter Try.func33, Try.ntmps33
  go_wp2
  go_ret
  exact ⟨ret_bool (HN.out (by omega)), (by with_reducible (repeat (first | exact Ext.rfl_ _ | assumption | refine Ext.drew ?_ | refine Ext.drewN ?_ _ | refine Ext.alloc ?_ _ | refine Ext.trans ?_ (by assumption))))⟩

set_option maxRecDepth 100000 in
set_option maxHeartbeats 2000000 in
theorem rmay_any (v : Value) (x : Ent) (w : World) (hx : RdE w v x) :
    Calls Try.prog 18 #[v] w fun e w' => e = .returned (.bool (mayE x)) ∧ Ext w w' := by
  obtain ⟨A, n, c, A', n', c', rfl, hx1, hx2, _, h2, _, h4⟩ := hx
  have e1 := hx1.1
  have e2 := hx2.1
  obtain ⟨xk, xs, xn, xv⟩ := x
  dsimp only at *
  subst e1 e2
  have hno : ¬ MayE ⟨xk, xs, xn, xv⟩ → false = mayE ⟨xk, xs, xn, xv⟩ := mayE_no
  have hyes : MayE ⟨xk, xs, xn, xv⟩ → true = mayE ⟨xk, xs, xn, xv⟩ := mayE_yes
  have HN := Lib.hid hno
  have HY := Lib.hid hyes
  unfold MayE at HN HY
  dsimp only at HN HY
  clear hno hyes hx1 hx2
  unfold B47 at h2 h4
  by_cases c1 : (xk.length : Int) < 1
  · go_enter Try.func18, Try.ntmps18
    go_wp2
    go_ret
    exact ⟨ret_bool (HN.out (by omega)), (by with_reducible (repeat (first | exact Ext.rfl_ _ | assumption | refine Ext.drew ?_ | refine Ext.drewN ?_ _ | refine Ext.alloc ?_ _ | refine Ext.trans ?_ (by assumption))))⟩
  by_cases c2 : (32 : Int) < xk.length
  · go_enter Try.func18, Try.ntmps18
    go_wp2
    go_ret
    exact ⟨ret_bool (HN.out (by omega)), (by with_reducible (repeat (first | exact Ext.rfl_ _ | assumption | refine Ext.drew ?_ | refine Ext.drewN ?_ _ | refine Ext.alloc ?_ _ | refine Ext.trans ?_ (by assumption))))⟩
  by_cases c3 : xs < 1
  · go_enter Try.func18, Try.ntmps18
    go_wp2
    go_ret
    exact ⟨ret_bool (HN.out (by omega)), (by with_reducible (repeat (first | exact Ext.rfl_ _ | assumption | refine Ext.drew ?_ | refine Ext.drewN ?_ _ | refine Ext.alloc ?_ _ | refine Ext.trans ?_ (by assumption))))⟩
  by_cases c4 : 2147483647 < xs
  · go_enter Try.func18, Try.ntmps18
    go_wp2
    go_ret
    exact ⟨ret_bool (HN.out (by omega)), (by with_reducible (repeat (first | exact Ext.rfl_ _ | assumption | refine Ext.drew ?_ | refine Ext.drewN ?_ _ | refine Ext.alloc ?_ _ | refine Ext.trans ?_ (by assumption))))⟩
  by_cases c6 : xn = 1
  · subst c6
    by_cases c5 : (xv.length : Int) ≤ 65536
    · have hy := HY.out ⟨by omega, by omega, by omega, by omega, by omega, .inl rfl⟩
      have HY2 := Lib.hid hy
      clear hy
      go_enter Try.func18, Try.ntmps18
      go_wp2
      go_ret
      exact ⟨ret_bool HY2.out, (by with_reducible (repeat (first | exact Ext.rfl_ _ | assumption | refine Ext.drew ?_ | refine Ext.drewN ?_ _ | refine Ext.alloc ?_ _ | refine Ext.trans ?_ (by assumption))))⟩
    · go_enter Try.func18, Try.ntmps18
      go_wp2
      go_ret
      exact ⟨ret_bool (HN.out (by omega)), (by with_reducible (repeat (first | exact Ext.rfl_ _ | assumption | refine Ext.drew ?_ | refine Ext.drewN ?_ _ | refine Ext.alloc ?_ _ | refine Ext.trans ?_ (by assumption))))⟩
  have c6' : (xn == 1) = false := by simpa using c6
  by_cases c7 : xn = 2
  · subst c7
    by_cases c8 : xv.length = 0
    · have c8' : ((xv.length : Int) == 0) = true := by simp; exact List.eq_nil_of_length_eq_zero c8
      go_enter Try.func18, Try.ntmps18
      go_wp2
      go_ret
      exact ⟨ret_bool (HY.out ⟨by omega, by omega, by omega, by omega, by omega, .inr ⟨by simp, by omega⟩⟩), (by with_reducible (repeat (first | exact Ext.rfl_ _ | assumption | refine Ext.drew ?_ | refine Ext.drewN ?_ _ | refine Ext.alloc ?_ _ | refine Ext.trans ?_ (by assumption))))⟩
    · have c8' : ((xv.length : Int) == 0) = false := by simp; intro h; exact c8 (by simp [h])
      go_enter Try.func18, Try.ntmps18
      go_wp2
      go_ret
      exact ⟨ret_bool (HN.out (by omega)), (by with_reducible (repeat (first | exact Ext.rfl_ _ | assumption | refine Ext.drew ?_ | refine Ext.drewN ?_ _ | refine Ext.alloc ?_ _ | refine Ext.trans ?_ (by assumption))))⟩
  have c7' : (xn == 2) = false := by simpa using c7
  go_enter Try.func18, Try.ntmps18
  go_wp2
  go_ret
  exact ⟨ret_bool (HN.out (by omega)), (by with_reducible (repeat (first | exact Ext.rfl_ _ | assumption | refine Ext.drew ?_ | refine Ext.drewN ?_ _ | refine Ext.alloc ?_ _ | refine Ext.trans ?_ (by assumption))))⟩

theorem num_any (n : Int) (w : World) : Calls Try.prog 19 #[.int .i64 n] w fun e w' => e = .returned (.int .i64 n) ∧ w = w' := by
  go_enter Try.func19, Try.ntmps19
  go_wp2
  go_ret
  exact ⟨rfl, rfl⟩

def longE (x : Ent) : Bool := decide (100000 < x.key.length + x.val.length)

set_option maxRecDepth 100000 in
set_option maxHeartbeats 400000 in
theorem long_any (v : Value) (x : Ent) (w : World) (hx : RdE w v x) :
    Calls Try.prog 14 #[v] w fun e w' => e = .returned (.bool (longE x)) ∧ Ext w w' := by
  obtain ⟨A, n, c, A', n', c', rfl, hx1, hx2, _, h2, _, h4⟩ := hx
  have e1 := hx1.1
  have e2 := hx2.1
  obtain ⟨xk, xs, xn, xv⟩ := x
  dsimp only at *
  subst e1 e2
  clear hx1 hx2
  unfold B47 at h2 h4
  go_enter Try.func14, Try.ntmps14
  go_wp2
  go_ret
  refine ⟨ret_bool ?_, (by with_reducible (repeat (first | exact Ext.rfl_ _ | assumption | refine Ext.drew ?_ | refine Ext.drewN ?_ _ | refine Ext.alloc ?_ _ | refine Ext.trans ?_ (by assumption))))⟩
  unfold longE
  dsimp only
  rw [decide_eq_decide]
  omega

end Go.Proofs.Ytpohmoakilioiaa
