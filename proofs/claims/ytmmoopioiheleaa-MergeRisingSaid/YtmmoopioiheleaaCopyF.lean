/- Copies of an entry in memory of the call's own: ikey.Copy (with that said), the reference's Copy. Conditions: the entry reads. -/
import Derived.Test.YtmmoopioiheleaaRefB
import Derived.Test.YtmmoopioiheleaaKeyR
import Derived.Deep.RegionLaw
namespace Go.Proofs.Ytmmoopioiheleaa
set_option linter.unusedSimpArgs false
set_option linter.unusedVariables false
open Go.RowKit

theorem OwnB.of_copyB {w w' : World} {A : Option Addr} {n c : Nat} {x : Bs} (h : CopyB w w' (.slice A n c) x) : OwnB w' w.heap.size (.slice A n c) x := by
  obtain ⟨A', c', hv, ho, _⟩ := h
  cases hv
  exact ho

set_option maxRecDepth 100000 in
set_option maxHeartbeats 1000000 in
theorem copyF_any (v : Value) (x : Ent) (w : World) (hx : RdE w v x) :
    Calls Try.prog 34 #[v] w fun e w' => ∃ v', e = .returned v' ∧ FrE w' w.heap.size v' x ∧ Ext w w' := by
  obtain ⟨A, n, c, A', n', c', rfl, hx1, hx2, h1, h2, h3, h4⟩ := hx
  have hb := two_new w (.cells #[.slice A n c, .int .i64 x.seq, .int .i64 x.kind, .slice A' n' c'] 37) (.cells #[.slice none 0 0, .int .i64 0, .int .i64 0, .slice none 0 0] 37)
  have hbox1 := Lib.hid hb.1
  have hbox2 := Lib.hid hb.2
  clear hb
  go_enter Try.func34, Try.ntmps34
  go_wp2
  go_region_with (first
    | (go_at_call_of 33 (Value.slice A n c); refine (bclone_any A n c x.key _ (hx1.ext (by with_reducible (repeat (first | exact Ext.rfl_ _ | assumption | refine Ext.drew ?_ | refine Ext.drewN ?_ _ | refine Ext.alloc ?_ _ | refine Ext.trans ?_ (by assumption))))) (by omega)).mono ?_; rintro e w1 ⟨v1, rfl, hv1, _, hw1⟩; obtain ⟨A1, c1, rfl, hr1, hc1, hi1⟩ := hv1.rd; obtain ⟨e0, e1, e2, e3, f0, f1, f2, f3⟩ := box4 hbox1.out (w' := w1) (by with_reducible (repeat (first | exact Ext.rfl_ _ | assumption | refine Ext.drew ?_ | refine Ext.drewN ?_ _ | refine Ext.alloc ?_ _ | refine Ext.trans ?_ (by assumption)))); obtain ⟨r0, r1, r2, r3, s0, s1, s2, s3⟩ := box4 hbox2.out (w' := w1) (by with_reducible (repeat (first | exact Ext.rfl_ _ | assumption | refine Ext.drew ?_ | refine Ext.drewN ?_ _ | refine Ext.alloc ?_ _ | refine Ext.trans ?_ (by assumption)))))
    | (go_at_call_of 33 (Value.slice A' n' c'); refine (bclone_any A' n' c' x.val _ (hx2.ext (by with_reducible (repeat (first | exact Ext.rfl_ _ | assumption | refine Ext.drew ?_ | refine Ext.drewN ?_ _ | refine Ext.alloc ?_ _ | refine Ext.trans ?_ (by assumption))))) (by omega)).mono ?_; rintro e w2 ⟨v2, rfl, hv2, _, hw2⟩; obtain ⟨A2, c2, rfl, hr2, hc2, hi2⟩ := hv2.rd; obtain ⟨e0, e1, e2, e3, f0, f1, f2, f3⟩ := box4 hbox1.out (w' := w2) (by with_reducible (repeat (first | exact Ext.rfl_ _ | assumption | refine Ext.drew ?_ | refine Ext.drewN ?_ _ | refine Ext.alloc ?_ _ | refine Ext.trans ?_ (by assumption)))); obtain ⟨r0, r1, r2, r3, s0, s1, s2, s3⟩ := box4 hbox2.out (w' := w2) (by with_reducible (repeat (first | exact Ext.rfl_ _ | assumption | refine Ext.drew ?_ | refine Ext.drewN ?_ _ | refine Ext.alloc ?_ _ | refine Ext.trans ?_ (by assumption))))))
  all_goals
    have o1 := OwnB.of_copyB hv1
    have o2 := OwnB.of_copyB hv2
    have k1 := o1.mono (base' := w.heap.size + 2) (by (try simp); (try (have := hw1.size; simp at this; omega)))
    have k2 := o2.mono (base' := w.heap.size + 2) (by (try simp); (try (have := hw1.size; simp at this; omega)))
    have K1 := Lib.hid k1
    have K2 := Lib.hid k2
    clear o1 o2 k1 k2
    go_wp2
    refine bodyPost_ret (v := .agg #[.slice A1 x.key.length c1, .int .i64 x.seq, .int .i64 x.kind, .slice A2 x.val.length c2]) ?_ rfl ?_
    · simp [results, Try.f34, go_sem, r0, r1, r2, r3]
    have q1 : x.key.length ≤ B47 := by rw [hx1.1]; exact h2
    have q2 : x.val.length ≤ B47 := by rw [hx2.1]; exact h4
    refine ⟨_, rfl, FrE.mk_ ?_ ?_ rfl rfl q1 q2, (by with_reducible (repeat (first | exact Ext.rfl_ _ | assumption | refine Ext.drew ?_ | refine Ext.drewN ?_ _ | refine Ext.alloc ?_ _ | refine Ext.setCell ?_ (by first | (simp; done) | (simp; omega)) _ | refine Ext.trans ?_ (by assumption))))⟩
    · refine OwnB.mono (base := w.heap.size + 2) ?_ (by omega)
      exact (by with_reducible (repeat (first | exact K1.out | refine OwnB.setLow ?_ (by first | (simp; done) | (simp; omega)) _ | refine OwnB.ext ?_ (by assumption))))
    · refine OwnB.mono (base := w.heap.size + 2) ?_ (by omega)
      exact (by with_reducible (repeat (first | exact K2.out | refine OwnB.setLow ?_ (by first | (simp; done) | (simp; omega)) _ | refine OwnB.ext ?_ (by assumption))))


end Go.Proofs.Ytmmoopioiheleaa
