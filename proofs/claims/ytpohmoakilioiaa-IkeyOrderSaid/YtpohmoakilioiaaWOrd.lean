/- The walk of IkeyOrder. Conditions: the entries read. -/
import Derived.Test.YtpohmoakilioiaaRefA
import Derived.Test.YtpohmoakilioiaaKnown
import Derived.Outline
namespace Go.Proofs.Ytpohmoakilioiaa
set_option linter.unusedSimpArgs false
set_option linter.unusedVariables false
open Go.RowKit

/-- A value of type [3]api.Entry that reads as x, y, z. -/
def RdA3 (w : World) (v : Value) (x y z : Ent) : Prop :=
  ∃ A0 n0 c0 B0 m0 d0 A1 n1 c1 B1 m1 d1 A2 n2 c2 B2 m2 d2,
    v = .agg #[.slice A0 n0 c0, .int .i64 x.seq, .int .i64 x.kind, .slice B0 m0 d0, .slice A1 n1 c1, .int .i64 y.seq, .int .i64 y.kind, .slice B1 m1 d1, .slice A2 n2 c2, .int .i64 z.seq, .int .i64 z.kind, .slice B2 m2 d2] ∧
    RdE w (.agg #[.slice A0 n0 c0, .int .i64 x.seq, .int .i64 x.kind, .slice B0 m0 d0]) x ∧ RdE w (.agg #[.slice A1 n1 c1, .int .i64 y.seq, .int .i64 y.kind, .slice B1 m1 d1]) y ∧ RdE w (.agg #[.slice A2 n2 c2, .int .i64 z.seq, .int .i64 z.kind, .slice B2 m2 d2]) z

/-- The box of three entries, whatever world has grown since. -/
theorem box12 {w : World} {t : TypeId} {a0 a1 a2 a3 a4 a5 a6 a7 a8 a9 a10 a11 : Value} :
    ∀ w', Ext (w.alloc (.cells #[a0, a1, a2, a3, a4, a5, a6, a7, a8, a9, a10, a11] t)) w' → (w'.cell? ⟨w.heap.size, 0, none⟩ = some a0 ∧ w'.cell? ⟨w.heap.size, 1, none⟩ = some a1 ∧ w'.cell? ⟨w.heap.size, 2, none⟩ = some a2 ∧ w'.cell? ⟨w.heap.size, 3, none⟩ = some a3) ∧
      (w'.cell? ⟨w.heap.size, 4, none⟩ = some a4 ∧ w'.cell? ⟨w.heap.size, 5, none⟩ = some a5 ∧ w'.cell? ⟨w.heap.size, 6, none⟩ = some a6 ∧ w'.cell? ⟨w.heap.size, 7, none⟩ = some a7) ∧
      (w'.cell? ⟨w.heap.size, 8, none⟩ = some a8 ∧ w'.cell? ⟨w.heap.size, 9, none⟩ = some a9 ∧ w'.cell? ⟨w.heap.size, 10, none⟩ = some a10 ∧ w'.cell? ⟨w.heap.size, 11, none⟩ = some a11) := fun w' K => by
  have h := blk1 w (.cells #[a0, a1, a2, a3, a4, a5, a6, a7, a8, a9, a10, a11] t)
  have hg : w'.heap[w.heap.size]? = some (.cells #[a0, a1, a2, a3, a4, a5, a6, a7, a8, a9, a10, a11] t (0, 0)) := ((Ext.below K).block _ (Array.getElem?_eq_some_iff.1 h).1).trans h
  simp [World.cell?, hg]

/-- One of the three, by its place. -/
theorem box12_at {w : World} {t : TypeId} {A0 A1 A2 B0 B1 B2 : Option Addr} {n0 n1 n2 c0 c1 c2 m0 m1 m2 d0 d1 d2 : Nat} {x y z : Ent}
    (e0 : RdE w (.agg #[.slice A0 n0 c0, .int .i64 x.seq, .int .i64 x.kind, .slice B0 m0 d0]) x) (e1 : RdE w (.agg #[.slice A1 n1 c1, .int .i64 y.seq, .int .i64 y.kind, .slice B1 m1 d1]) y) (e2 : RdE w (.agg #[.slice A2 n2 c2, .int .i64 z.seq, .int .i64 z.kind, .slice B2 m2 d2]) z)
    (i : Nat) (hi : i < 3) : ∃ A n c B m d e, RdE w (.agg #[.slice A n c, .int .i64 e.seq, .int .i64 e.kind, .slice B m d]) e ∧
      ∀ w', Ext (w.alloc (.cells #[.slice A0 n0 c0, .int .i64 x.seq, .int .i64 x.kind, .slice B0 m0 d0, .slice A1 n1 c1, .int .i64 y.seq, .int .i64 y.kind, .slice B1 m1 d1, .slice A2 n2 c2, .int .i64 z.seq, .int .i64 z.kind, .slice B2 m2 d2] t)) w' →
        (w'.cell? ⟨w.heap.size, i * 4, none⟩ = some (.slice A n c) ∧ w'.cell? ⟨w.heap.size, i * 4 + 1, none⟩ = some (.int .i64 e.seq) ∧ w'.cell? ⟨w.heap.size, i * 4 + 2, none⟩ = some (.int .i64 e.kind) ∧ w'.cell? ⟨w.heap.size, i * 4 + 3, none⟩ = some (.slice B m d)) := by
  match i, hi with
  | 0, _ => exact ⟨_, _, _, _, _, _, x, e0, fun w' K => (box12 w' K).1⟩
  | 1, _ => exact ⟨_, _, _, _, _, _, y, e1, fun w' K => (box12 w' K).2.1⟩
  | 2, _ => exact ⟨_, _, _, _, _, _, z, e2, fun w' K => (box12 w' K).2.2⟩

set_option maxRecDepth 100000 in
set_option maxHeartbeats 4000000 in
theorem order_walk (v : Value) (x y z : Ent) (w : World) (hx : RdA3 w v x y z) :
    Calls Try.prog 3 #[v] w fun e w' => e = .returned (.bool true) ∧ Ext w w' := by
  obtain ⟨A0, n0, c0, B0, m0, d0, A1, n1, c1, B1, m1, d1, A2, n2, c2, B2, m2, d2, rfl, e0, e1, e2⟩ := hx
  have H0 := Lib.hid e0
  have H1 := Lib.hid e1
  have H2 := Lib.hid e2
  have hs := box12 (w := w) (t := 26) (a0 := .slice A0 n0 c0) (a1 := .int .i64 x.seq) (a2 := .int .i64 x.kind) (a3 := .slice B0 m0 d0) (a4 := .slice A1 n1 c1) (a5 := .int .i64 y.seq) (a6 := .int .i64 y.kind) (a7 := .slice B1 m1 d1) (a8 := .slice A2 n2 c2) (a9 := .int .i64 z.seq) (a10 := .int .i64 z.kind) (a11 := .slice B2 m2 d2)
  have HS := Lib.hid hs
  clear hs e0 e1 e2
  by_cases l0 : longE x = true
  · go_enter Try.func3, Try.ntmps3
    go_wp2_with fail
    refine (long_any _ x _ (H0.out.ext (by with_reducible (repeat (first | exact Ext.rfl_ _ | assumption | refine Ext.drew ?_ | refine Ext.drewN ?_ _ | refine Ext.alloc ?_ _ | refine Ext.trans ?_ (by assumption)))))).mono ?_
    rintro e w1 ⟨rfl, hw1⟩
    rw [l0]
    go_wp2_with fail
    refine (known_any _).mono ?_
    rintro e w2 ⟨rfl, hw2⟩
    go_wp2
    go_ret
    exact ⟨rfl, (by with_reducible (repeat (first | exact Ext.rfl_ _ | assumption | refine Ext.drew ?_ | refine Ext.drewN ?_ _ | refine Ext.alloc ?_ _ | refine Ext.trans ?_ (by assumption))))⟩
  have l0' : longE x = false := by simpa using l0
  by_cases l1 : longE y = true
  · go_enter Try.func3, Try.ntmps3
    go_wp2_with fail
    refine (long_any _ x _ (H0.out.ext (by with_reducible (repeat (first | exact Ext.rfl_ _ | assumption | refine Ext.drew ?_ | refine Ext.drewN ?_ _ | refine Ext.alloc ?_ _ | refine Ext.trans ?_ (by assumption)))))).mono ?_
    rintro e w1 ⟨rfl, hw1⟩
    rw [l0']
    obtain ⟨⟨q0, q1, q2, q3⟩, ⟨q4, q5, q6, q7⟩, ⟨q8, q9, q10, q11⟩⟩ := HS.out w1 (by with_reducible (repeat (first | exact Ext.rfl_ _ | assumption | refine Ext.drew ?_ | refine Ext.drewN ?_ _ | refine Ext.alloc ?_ _ | refine Ext.trans ?_ (by assumption))))
    go_wp2_with fail
    refine (long_any _ y _ (H1.out.ext (by with_reducible (repeat (first | exact Ext.rfl_ _ | assumption | refine Ext.drew ?_ | refine Ext.drewN ?_ _ | refine Ext.alloc ?_ _ | refine Ext.trans ?_ (by assumption)))))).mono ?_
    rintro e w2 ⟨rfl, hw2⟩
    rw [l1]
    go_wp2_with fail
    refine (known_any _).mono ?_
    rintro e w3 ⟨rfl, hw3⟩
    go_wp2
    go_ret
    exact ⟨rfl, (by with_reducible (repeat (first | exact Ext.rfl_ _ | assumption | refine Ext.drew ?_ | refine Ext.drewN ?_ _ | refine Ext.alloc ?_ _ | refine Ext.trans ?_ (by assumption))))⟩
  have l1' : longE y = false := by simpa using l1
  by_cases l2 : longE z = true
  · go_enter Try.func3, Try.ntmps3
    go_wp2_with fail
    refine (long_any _ x _ (H0.out.ext (by with_reducible (repeat (first | exact Ext.rfl_ _ | assumption | refine Ext.drew ?_ | refine Ext.drewN ?_ _ | refine Ext.alloc ?_ _ | refine Ext.trans ?_ (by assumption)))))).mono ?_
    rintro e w1 ⟨rfl, hw1⟩
    rw [l0']
    obtain ⟨⟨q0, q1, q2, q3⟩, ⟨q4, q5, q6, q7⟩, ⟨q8, q9, q10, q11⟩⟩ := HS.out w1 (by with_reducible (repeat (first | exact Ext.rfl_ _ | assumption | refine Ext.drew ?_ | refine Ext.drewN ?_ _ | refine Ext.alloc ?_ _ | refine Ext.trans ?_ (by assumption))))
    go_wp2_with fail
    refine (long_any _ y _ (H1.out.ext (by with_reducible (repeat (first | exact Ext.rfl_ _ | assumption | refine Ext.drew ?_ | refine Ext.drewN ?_ _ | refine Ext.alloc ?_ _ | refine Ext.trans ?_ (by assumption)))))).mono ?_
    rintro e w2 ⟨rfl, hw2⟩
    rw [l1']
    clear q0 q1 q2 q3 q4 q5 q6 q7 q8 q9 q10 q11
    obtain ⟨⟨q0, q1, q2, q3⟩, ⟨q4, q5, q6, q7⟩, ⟨q8, q9, q10, q11⟩⟩ := HS.out w2 (by with_reducible (repeat (first | exact Ext.rfl_ _ | assumption | refine Ext.drew ?_ | refine Ext.drewN ?_ _ | refine Ext.alloc ?_ _ | refine Ext.trans ?_ (by assumption))))
    go_wp2_with fail
    refine (long_any _ z _ (H2.out.ext (by with_reducible (repeat (first | exact Ext.rfl_ _ | assumption | refine Ext.drew ?_ | refine Ext.drewN ?_ _ | refine Ext.alloc ?_ _ | refine Ext.trans ?_ (by assumption)))))).mono ?_
    rintro e w3 ⟨rfl, hw3⟩
    rw [l2]
    go_wp2_with fail
    refine (known_any _).mono ?_
    rintro e w4 ⟨rfl, hw4⟩
    go_wp2
    go_ret
    exact ⟨rfl, (by with_reducible (repeat (first | exact Ext.rfl_ _ | assumption | refine Ext.drew ?_ | refine Ext.drewN ?_ _ | refine Ext.alloc ?_ _ | refine Ext.trans ?_ (by assumption))))⟩
  have l2' : longE z = false := by simpa using l2
  go_enter Try.func3, Try.ntmps3
  go_wp2_with fail
  refine (long_any _ x _ (H0.out.ext (by with_reducible (repeat (first | exact Ext.rfl_ _ | assumption | refine Ext.drew ?_ | refine Ext.drewN ?_ _ | refine Ext.alloc ?_ _ | refine Ext.trans ?_ (by assumption)))))).mono ?_
  rintro e w1 ⟨rfl, hw1⟩
  rw [l0']
  obtain ⟨⟨q0, q1, q2, q3⟩, ⟨q4, q5, q6, q7⟩, ⟨q8, q9, q10, q11⟩⟩ := HS.out w1 (by with_reducible (repeat (first | exact Ext.rfl_ _ | assumption | refine Ext.drew ?_ | refine Ext.drewN ?_ _ | refine Ext.alloc ?_ _ | refine Ext.trans ?_ (by assumption))))
  go_wp2_with fail
  refine (long_any _ y _ (H1.out.ext (by with_reducible (repeat (first | exact Ext.rfl_ _ | assumption | refine Ext.drew ?_ | refine Ext.drewN ?_ _ | refine Ext.alloc ?_ _ | refine Ext.trans ?_ (by assumption)))))).mono ?_
  rintro e w2 ⟨rfl, hw2⟩
  rw [l1']
  clear q0 q1 q2 q3 q4 q5 q6 q7 q8 q9 q10 q11
  obtain ⟨⟨q0, q1, q2, q3⟩, ⟨q4, q5, q6, q7⟩, ⟨q8, q9, q10, q11⟩⟩ := HS.out w2 (by with_reducible (repeat (first | exact Ext.rfl_ _ | assumption | refine Ext.drew ?_ | refine Ext.drewN ?_ _ | refine Ext.alloc ?_ _ | refine Ext.trans ?_ (by assumption))))
  go_wp2_with fail
  refine (long_any _ z _ (H2.out.ext (by with_reducible (repeat (first | exact Ext.rfl_ _ | assumption | refine Ext.drew ?_ | refine Ext.drewN ?_ _ | refine Ext.alloc ?_ _ | refine Ext.trans ?_ (by assumption)))))).mono ?_
  rintro e w3 ⟨rfl, hw3⟩
  rw [l2']
  clear q0 q1 q2 q3 q4 q5 q6 q7 q8 q9 q10 q11
  have x3 : Ext (w.alloc (.cells #[.slice A0 n0 c0, .int .i64 x.seq, .int .i64 x.kind, .slice B0 m0 d0, .slice A1 n1 c1, .int .i64 y.seq, .int .i64 y.kind, .slice B1 m1 d1, .slice A2 n2 c2, .int .i64 z.seq, .int .i64 z.kind, .slice B2 m2 d2] 26)) w3 := (by with_reducible (repeat (first | exact Ext.rfl_ _ | assumption | refine Ext.drew ?_ | refine Ext.drewN ?_ _ | refine Ext.alloc ?_ _ | refine Ext.trans ?_ (by assumption))))
  clear hw1 hw2 hw3
  go_wp2
  go_loopw [3] (fun i wr => ∃ k : Nat, k ≤ 3 ∧ i = .int .i64 k ∧ Ext (w.alloc (.cells #[.slice A0 n0 c0, .int .i64 x.seq, .int .i64 x.kind, .slice B0 m0 d0, .slice A1 n1 c1, .int .i64 y.seq, .int .i64 y.kind, .slice B1 m1 d1, .slice A2 n2 c2, .int .i64 z.seq, .int .i64 z.kind, .slice B2 m2 d2] 26)) wr) (fun i _ => 3 - (intOf i).toNat)
  case atStart => exact ⟨0, by omega, rfl, x3⟩
  case round =>
    obtain ⟨i, hi, rfl, xr⟩ := hrel
    obtain ⟨wo, rfl⟩ : ∃ wo : World, wo = wr := ⟨_, rfl⟩
    clear x3
    by_cases hi3 : (i : Int) < 3
    · obtain ⟨A, n, c, B, m, d, a, ha, hca⟩ := box12_at (t := 26) H0.out H1.out H2.out i (by omega)
      have HA := Lib.hid ha
      have HCA := Lib.hid hca
      clear ha hca
      go_wp2
      go_loopw [4] (fun i wr => ∃ k : Nat, k ≤ 3 ∧ i = .int .i64 k ∧ Ext (w.alloc (.cells #[.slice A0 n0 c0, .int .i64 x.seq, .int .i64 x.kind, .slice B0 m0 d0, .slice A1 n1 c1, .int .i64 y.seq, .int .i64 y.kind, .slice B1 m1 d1, .slice A2 n2 c2, .int .i64 z.seq, .int .i64 z.kind, .slice B2 m2 d2] 26)) wr) (fun i _ => 3 - (intOf i).toNat)
      case atStart => exact ⟨0, by omega, rfl, xr⟩
      case round =>
        obtain ⟨k, hk, rfl, xk⟩ := hrel
        by_cases hk3 : (k : Int) < 3
        · obtain ⟨A', n', c', B', m', d', b, hb, hcb⟩ := box12_at (t := 26) H0.out H1.out H2.out k (by omega)
          have HB := Lib.hid hb
          have HCB := Lib.hid hcb
          have hr := cmpE_range b a
          have hr1 : -1 ≤ cmpE b a := by omega
          have hr2 : cmpE b a ≤ 1 := by omega
          have hne : (cmpE a b != - cmpE b a) = false := by rw [cmpE_anti b a]; simp
          have hwr : IntKind.i64.wrap (- cmpE b a) = - cmpE b a := by rw [IntKind.wrap_i64]; omega
          have xw : Ext w wr := (Ext.alloc (Ext.rfl_ w) _).trans xk
          clear hb hcb hr
          go_wp2_with fail
          go_region_held3 (fun w' => (w'.cell? ⟨w.heap.size, i * 4, none⟩ = some (.slice A n c) ∧ w'.cell? ⟨w.heap.size, i * 4 + 1, none⟩ = some (.int .i64 a.seq) ∧ w'.cell? ⟨w.heap.size, i * 4 + 2, none⟩ = some (.int .i64 a.kind) ∧ w'.cell? ⟨w.heap.size, i * 4 + 3, none⟩ = some (.slice B m d)) ∧ (w'.cell? ⟨w.heap.size, k * 4, none⟩ = some (.slice A' n' c') ∧ w'.cell? ⟨w.heap.size, k * 4 + 1, none⟩ = some (.int .i64 b.seq) ∧ w'.cell? ⟨w.heap.size, k * 4 + 2, none⟩ = some (.int .i64 b.kind) ∧ w'.cell? ⟨w.heap.size, k * 4 + 3, none⟩ = some (.slice B' m' d')))
            (exact ⟨HCA.out _ (by with_reducible (repeat (first | exact Ext.rfl_ _ | assumption | refine Ext.drew ?_ | refine Ext.drewN ?_ _ | refine Ext.alloc ?_ _ | refine Ext.trans ?_ (by assumption)))), HCB.out _ (by with_reducible (repeat (first | exact Ext.rfl_ _ | assumption | refine Ext.drew ?_ | refine Ext.drewN ?_ _ | refine Ext.alloc ?_ _ | refine Ext.trans ?_ (by assumption))))⟩)
            (first | (go_at_call 16; (with_reducible refine (compare_any _ _ a b _ (HA.out.ext (by with_reducible (repeat (first | exact Ext.rfl_ _ | assumption | refine Ext.drew ?_ | refine Ext.drewN ?_ _ | refine Ext.alloc ?_ _ | refine Ext.trans ?_ (by assumption))))) (HB.out.ext (by with_reducible (repeat (first | exact Ext.rfl_ _ | assumption | refine Ext.drew ?_ | refine Ext.drewN ?_ _ | refine Ext.alloc ?_ _ | refine Ext.trans ?_ (by assumption)))))).mono ?_); rintro e w4 ⟨rfl, hw4⟩) | (go_at_call 16; (with_reducible refine (compare_any _ _ b a _ (HB.out.ext (by with_reducible (repeat (first | exact Ext.rfl_ _ | assumption | refine Ext.drew ?_ | refine Ext.drewN ?_ _ | refine Ext.alloc ?_ _ | refine Ext.trans ?_ (by assumption))))) (HA.out.ext (by with_reducible (repeat (first | exact Ext.rfl_ _ | assumption | refine Ext.drew ?_ | refine Ext.drewN ?_ _ | refine Ext.alloc ?_ _ | refine Ext.trans ?_ (by assumption)))))).mono ?_); rintro e w5 ⟨rfl, hw5⟩))
          all_goals
            clear hwr
            go_wp2
            go_roundw
            case rel => exact ⟨k + 1, by omega, by go_num, (by with_reducible (repeat (first | exact Ext.rfl_ _ | assumption | refine Ext.drew ?_ | refine Ext.drewN ?_ _ | refine Ext.alloc ?_ _ | refine Ext.trans ?_ (by assumption))))⟩
            case measure => simp [intOf]; omega
        · go_wp2
          go_roundw
          case rel => exact ⟨i + 1, by omega, by go_num, (by with_reducible (repeat (first | exact Ext.rfl_ _ | assumption | refine Ext.drew ?_ | refine Ext.drewN ?_ _ | refine Ext.alloc ?_ _ | refine Ext.trans ?_ (by assumption))))⟩
          case measure => simp [intOf]; omega
    · have xw : Ext w wo := (Ext.alloc (Ext.rfl_ w) _).trans xr
      have q := HS.out wo xr
      obtain ⟨⟨q0, q1, q2, q3⟩, ⟨q4, q5, q6, q7⟩, ⟨q8, q9, q10, q11⟩⟩ := q
      go_wp2_with fail
      refine (compare_any _ _ x y _ (H0.out.ext (by with_reducible (repeat (first | exact Ext.rfl_ _ | assumption | refine Ext.drew ?_ | refine Ext.drewN ?_ _ | refine Ext.alloc ?_ _ | refine Ext.trans ?_ (by assumption))))) (H1.out.ext (by with_reducible (repeat (first | exact Ext.rfl_ _ | assumption | refine Ext.drew ?_ | refine Ext.drewN ?_ _ | refine Ext.alloc ?_ _ | refine Ext.trans ?_ (by assumption)))))).mono ?_
      rintro e w4 ⟨rfl, hw4⟩
      clear q0 q1 q2 q3 q4 q5 q6 q7 q8 q9 q10 q11
      have xr4 := xr.trans hw4
      clear hw4
      by_cases t1 : 0 < cmpE x y
      · go_wp2_with fail
        refine (known_any _).mono ?_
        rintro e w5 ⟨rfl, hw5⟩
        go_wp2
        go_ret
        exact ⟨rfl, (by with_reducible (repeat (first | exact Ext.rfl_ _ | assumption | refine Ext.drew ?_ | refine Ext.drewN ?_ _ | refine Ext.alloc ?_ _ | refine Ext.trans ?_ (by assumption))))⟩
      · have t1' : decide (0 < cmpE x y) = false := decide_eq_false t1
        obtain ⟨⟨q0, q1, q2, q3⟩, ⟨q4, q5, q6, q7⟩, ⟨q8, q9, q10, q11⟩⟩ := HS.out w4 xr4
        go_wp2_with fail
        refine (compare_any _ _ y z _ (H1.out.ext (by with_reducible (repeat (first | exact Ext.rfl_ _ | assumption | refine Ext.drew ?_ | refine Ext.drewN ?_ _ | refine Ext.alloc ?_ _ | refine Ext.trans ?_ (by assumption))))) (H2.out.ext (by with_reducible (repeat (first | exact Ext.rfl_ _ | assumption | refine Ext.drew ?_ | refine Ext.drewN ?_ _ | refine Ext.alloc ?_ _ | refine Ext.trans ?_ (by assumption)))))).mono ?_
        rintro e w5 ⟨rfl, hw5⟩
        clear q0 q1 q2 q3 q4 q5 q6 q7 q8 q9 q10 q11
        have xr5 := xr4.trans hw5
        clear hw5
        by_cases t2 : 0 < cmpE y z
        · go_wp2_with fail
          refine (known_any _).mono ?_
          rintro e w6 ⟨rfl, hw6⟩
          go_wp2
          go_ret
          exact ⟨rfl, (by with_reducible (repeat (first | exact Ext.rfl_ _ | assumption | refine Ext.drew ?_ | refine Ext.drewN ?_ _ | refine Ext.alloc ?_ _ | refine Ext.trans ?_ (by assumption))))⟩
        · have t2' : decide (0 < cmpE y z) = false := decide_eq_false t2
          obtain ⟨⟨q0, q1, q2, q3⟩, ⟨q4, q5, q6, q7⟩, ⟨q8, q9, q10, q11⟩⟩ := HS.out w5 xr5
          go_wp2_with fail
          refine (compare_any _ _ x z _ (H0.out.ext (by with_reducible (repeat (first | exact Ext.rfl_ _ | assumption | refine Ext.drew ?_ | refine Ext.drewN ?_ _ | refine Ext.alloc ?_ _ | refine Ext.trans ?_ (by assumption))))) (H2.out.ext (by with_reducible (repeat (first | exact Ext.rfl_ _ | assumption | refine Ext.drew ?_ | refine Ext.drewN ?_ _ | refine Ext.alloc ?_ _ | refine Ext.trans ?_ (by assumption)))))).mono ?_
          rintro e w6 ⟨rfl, hw6⟩
          have t3 : cmpE x z ≤ 0 := cmpE_trans x y z (by omega) (by omega)
          go_wp2_with fail
          refine (known_any _).mono ?_
          rintro e w7 ⟨rfl, hw7⟩
          go_wp2
          go_ret
          exact ⟨rfl, (by with_reducible (repeat (first | exact Ext.rfl_ _ | assumption | refine Ext.drew ?_ | refine Ext.drewN ?_ _ | refine Ext.alloc ?_ _ | refine Ext.trans ?_ (by assumption))))⟩

end Go.Proofs.Ytpohmoakilioiaa
