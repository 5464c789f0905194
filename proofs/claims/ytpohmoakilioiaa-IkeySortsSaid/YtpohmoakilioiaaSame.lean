/- Contract of the reference's Same. Conditions: the entries read. -/
import Derived.Test.YtpohmoakilioiaaList
namespace Go.Proofs.Ytpohmoakilioiaa
set_option linter.unusedSimpArgs false
set_option linter.unusedVariables false
set_option maxRecDepth 100000
open Go.RowKit

theorem str_eq (x : Bs) : ((⟨x.toArray⟩ : ByteArray) == ⟨x.toArray⟩) = true := by
  change (x.toArray == x.toArray) = true
  simp
theorem str_ne {x y : Bs} (h : x ≠ y) : ((⟨x.toArray⟩ : ByteArray) == ⟨y.toArray⟩) = false := by
  change (x.toArray == y.toArray) = false
  simp [h]

set_option maxRecDepth 100000 in
set_option maxHeartbeats 1000000 in
theorem rsame_any (u v : Value) (x y : Ent) (w : World) (hx : RdE w u x) (hy : RdE w v y) :
    Calls Try.prog 23 #[u, v] w fun e w' => e = .returned (.bool (decide (x = y))) ∧ Ext w w' := by
  obtain ⟨A, n, c, A', n', c', rfl, hx1, hx2, _⟩ := hx
  obtain ⟨B, m, d, B', m', d', rfl, hy1, hy2, _⟩ := hy
  obtain ⟨xk, xs, xn, xv⟩ := x
  obtain ⟨yk, ys, yn, yv⟩ := y
  dsimp only at *
  have he : ∃ W, W = (w.alloc (.cells #[.slice A n c, .int .i64 xs, .int .i64 xn, .slice A' n' c'] 25)).alloc (.cells #[.slice B m d, .int .i64 ys, .int .i64 yn, .slice B' m' d'] 25) := ⟨_, rfl⟩
  obtain ⟨W, hW⟩ := he
  have hx : Ext w W := by rw [hW]; exact (by with_reducible (repeat (first | exact Ext.rfl_ _ | assumption | refine Ext.drew ?_ | refine Ext.drewN ?_ _ | refine Ext.alloc ?_ _ | refine Ext.trans ?_ (by assumption))))
  have k1 := (hx1.ext hx).str (P := Try.prog) c 22 5 9 Try.underlying22 Try.underlying5 Try.underlying9
  have k2 := (hy1.ext hx).str (P := Try.prog) d 22 5 9 Try.underlying22 Try.underlying5 Try.underlying9
  have k3 := (hx2.ext hx).str (P := Try.prog) c' 22 5 9 Try.underlying22 Try.underlying5 Try.underlying9
  have k4 := (hy2.ext hx).str (P := Try.prog) d' 22 5 9 Try.underlying22 Try.underlying5 Try.underlying9
  subst hW
  clear hx hx1 hx2 hy1 hy2
  by_cases h1 : xk = yk
  · by_cases h2 : xs = ys
    · by_cases h3 : xn = yn
      · subst h1 h2 h3
        have e1 := str_eq xk
        by_cases h4 : xv = yv
        · subst h4
          have e2 := str_eq xv
          go_enter Try.func23, Try.ntmps23
          go_wp2
          go_ret
          exact ⟨ret_bool (by simp), (by with_reducible (repeat (first | exact Ext.rfl_ _ | assumption | refine Ext.drew ?_ | refine Ext.drewN ?_ _ | refine Ext.alloc ?_ _ | refine Ext.trans ?_ (by assumption))))⟩
        · have e2 := str_ne h4
          go_enter Try.func23, Try.ntmps23
          go_wp2
          go_ret
          exact ⟨ret_bool (by simp [h4]), (by with_reducible (repeat (first | exact Ext.rfl_ _ | assumption | refine Ext.drew ?_ | refine Ext.drewN ?_ _ | refine Ext.alloc ?_ _ | refine Ext.trans ?_ (by assumption))))⟩
      · subst h1 h2
        have e1 := str_eq xk
        have h3' : (xn == yn) = false := by simpa using h3
        go_enter Try.func23, Try.ntmps23
        go_wp2
        go_ret
        exact ⟨ret_bool (by simp [h3]), (by with_reducible (repeat (first | exact Ext.rfl_ _ | assumption | refine Ext.drew ?_ | refine Ext.drewN ?_ _ | refine Ext.alloc ?_ _ | refine Ext.trans ?_ (by assumption))))⟩
    · subst h1
      have e1 := str_eq xk
      have h2' : (xs == ys) = false := by simpa using h2
      go_enter Try.func23, Try.ntmps23
      go_wp2
      go_ret
      exact ⟨ret_bool (by simp [h2]), (by with_reducible (repeat (first | exact Ext.rfl_ _ | assumption | refine Ext.drew ?_ | refine Ext.drewN ?_ _ | refine Ext.alloc ?_ _ | refine Ext.trans ?_ (by assumption))))⟩
  · have e1 := str_ne h1
    go_enter Try.func23, Try.ntmps23
    go_wp2
    go_ret
    exact ⟨ret_bool (by simp [h1]), (by with_reducible (repeat (first | exact Ext.rfl_ _ | assumption | refine Ext.drew ?_ | refine Ext.drewN ?_ _ | refine Ext.alloc ?_ _ | refine Ext.trans ?_ (by assumption))))⟩


end Go.Proofs.Ytpohmoakilioiaa
