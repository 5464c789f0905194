/- Copies of an entry in memory of the call's own: ikey.Copy (with that said), the reference's Copy. Conditions: the entry reads. -/
import Derived.Test.YtpohmoakilioiaaRefB
import Derived.Test.YtpohmoakilioiaaKeyR
import Derived.Deep.RegionLaw
namespace Go.Proofs.Ytpohmoakilioiaa
set_option linter.unusedSimpArgs false
set_option linter.unusedVariables false
set_option maxRecDepth 100000
open Go.RowKit

theorem OwnB.of_copyB {w w' : World} {A : Option Addr} {n c : Nat} {x : Bs} (h : CopyB w w' (.slice A n c) x) : OwnB w' w.heap.size (.slice A n c) x := by
  obtain ⟨A', c', hv, ho, _⟩ := h
  cases hv
  exact ho

set_option maxRecDepth 100000 in
set_option maxHeartbeats 1000000 in
theorem copyF_any (v : Value) (x : Ent) (w : World) (hx : RdE w v x) :
    Calls Try.prog 32 #[v] w fun e w' => ∃ v', e = .returned v' ∧ FrE w' w.heap.size v' x ∧ Ext w w' := by
  obtain ⟨A, n, c, A', n', c', rfl, hx1, hx2, h1, h2, h3, h4⟩ := hx
  have hb := two_new w (.cells #[.slice A n c, .int .i64 x.seq, .int .i64 x.kind, .slice A' n' c'] 25) (.cells #[.slice none 0 0, .int .i64 0, .int .i64 0, .slice none 0 0] 25)
  have hbox1 := Lib.hid hb.1
  have hbox2 := Lib.hid hb.2
  clear hb
  go_enter Try.func32, Try.ntmps32
  go_wp2
  go_region_with (first
    | (go_at_call_of 64 (Value.slice A n c); refine (bclone_any A n c x.key _ (hx1.ext (by with_reducible (repeat (first | exact Ext.rfl_ _ | assumption | refine Ext.drew ?_ | refine Ext.drewN ?_ _ | refine Ext.alloc ?_ _ | refine Ext.trans ?_ (by assumption))))) (by omega)).mono ?_; rintro e w1 ⟨v1, rfl, hv1, _, hw1⟩; obtain ⟨A1, c1, rfl, hr1, hc1, hi1⟩ := hv1.rd; obtain ⟨e0, e1, e2, e3, f0, f1, f2, f3⟩ := box4 hbox1.out (w' := w1) (by with_reducible (repeat (first | exact Ext.rfl_ _ | assumption | refine Ext.drew ?_ | refine Ext.drewN ?_ _ | refine Ext.alloc ?_ _ | refine Ext.trans ?_ (by assumption)))); obtain ⟨r0, r1, r2, r3, s0, s1, s2, s3⟩ := box4 hbox2.out (w' := w1) (by with_reducible (repeat (first | exact Ext.rfl_ _ | assumption | refine Ext.drew ?_ | refine Ext.drewN ?_ _ | refine Ext.alloc ?_ _ | refine Ext.trans ?_ (by assumption)))))
    | (go_at_call_of 64 (Value.slice A' n' c'); refine (bclone_any A' n' c' x.val _ (hx2.ext (by with_reducible (repeat (first | exact Ext.rfl_ _ | assumption | refine Ext.drew ?_ | refine Ext.drewN ?_ _ | refine Ext.alloc ?_ _ | refine Ext.trans ?_ (by assumption))))) (by omega)).mono ?_; rintro e w2 ⟨v2, rfl, hv2, _, hw2⟩; obtain ⟨A2, c2, rfl, hr2, hc2, hi2⟩ := hv2.rd; obtain ⟨e0, e1, e2, e3, f0, f1, f2, f3⟩ := box4 hbox1.out (w' := w2) (by with_reducible (repeat (first | exact Ext.rfl_ _ | assumption | refine Ext.drew ?_ | refine Ext.drewN ?_ _ | refine Ext.alloc ?_ _ | refine Ext.trans ?_ (by assumption)))); obtain ⟨r0, r1, r2, r3, s0, s1, s2, s3⟩ := box4 hbox2.out (w' := w2) (by with_reducible (repeat (first | exact Ext.rfl_ _ | assumption | refine Ext.drew ?_ | refine Ext.drewN ?_ _ | refine Ext.alloc ?_ _ | refine Ext.trans ?_ (by assumption))))))
  all_goals
    have o1 := OwnB.of_copyB hv1
    have o2 := OwnB.of_copyB hv2
    have k1 := o1.mono (base' := w.heap.size + 2) (by (try simp); (try (have := hw1.size; simp at this; omega)))
    have k2 := o2.mono (base' := w.heap.size + 2) (by (try simp); (try (have := hw1.size; simp at this; omega)))
    have K1 := Lib.hid k1
    have K2 := Lib.hid k2
    clear o1 o2 k1 k2
    go_wp2
    refine bodyPost_ret (v := .agg #[.slice A1 x.key.length c1, .int .i64 x.seq, .int .i64 x.kind, .slice A2 x.val.length c2]) ?_ rfl ?_
    · simp [results, Try.f32, go_sem, r0, r1, r2, r3]
    have q1 : x.key.length ≤ B47 := by rw [hx1.1]; exact h2
    have q2 : x.val.length ≤ B47 := by rw [hx2.1]; exact h4
    refine ⟨_, rfl, FrE.mk_ ?_ ?_ rfl rfl q1 q2, (by with_reducible (repeat (first | exact Ext.rfl_ _ | assumption | refine Ext.drew ?_ | refine Ext.drewN ?_ _ | refine Ext.alloc ?_ _ | refine Ext.setCell ?_ (by first | (simp; done) | (simp; omega)) _ | refine Ext.trans ?_ (by assumption))))⟩
    · refine OwnB.mono (base := w.heap.size + 2) ?_ (by omega)
      exact (by with_reducible (repeat (first | exact K1.out | refine OwnB.setLow ?_ (by first | (simp; done) | (simp; omega)) _ | refine OwnB.ext ?_ (by assumption))))
    · refine OwnB.mono (base := w.heap.size + 2) ?_ (by omega)
      exact (by with_reducible (repeat (first | exact K2.out | refine OwnB.setLow ?_ (by first | (simp; done) | (simp; omega)) _ | refine OwnB.ext ?_ (by assumption))))

set_option maxRecDepth 100000 in
set_option maxHeartbeats 2000000 in
theorem rcopy_any (v : Value) (x : Ent) (w : World) (hx : RdE w v x) :
    Calls Try.prog 31 #[v] w fun e w' => ∃ v', e = .returned v' ∧ FrE w' w.heap.size v' x ∧ Ext w w' := by
  obtain ⟨A, n, c, A', n', c', rfl, hx1, hx2, h1, h2, h3, h4⟩ := hx
  have hb := two_new w (.cells #[.slice A n c, .int .i64 x.seq, .int .i64 x.kind, .slice A' n' c'] 25) (.cells #[.slice none 0 0, .int .i64 0, .int .i64 0, .slice none 0 0] 25)
  have hbox1 := Lib.hid hb.1
  have hbox2 := Lib.hid hb.2
  have hl1 := hx1.1
  have hl2 := hx2.1
  have z2 : ((w.alloc (.cells #[.slice A n c, .int .i64 x.seq, .int .i64 x.kind, .slice A' n' c'] 25)).alloc (.cells #[.slice none 0 0, .int .i64 0, .int .i64 0, .slice none 0 0] 25)).heap.size = w.heap.size + 2 := by simp
  have Z2 := Lib.hid z2
  have hS : ∀ W, Ext ((w.alloc (.cells #[.slice A n c, .int .i64 x.seq, .int .i64 x.kind, .slice A' n' c'] 25)).alloc (.cells #[.slice none 0 0, .int .i64 0, .int .i64 0, .slice none 0 0] 25)) W → w.heap.size + 2 ≤ W.heap.size := fun W K => by rw [← Z2.out]; exact K.size
  have HS := Lib.hid hS
  have KX := Lib.hid hx1
  have KY := Lib.hid hx2
  clear hb z2 hS hx1 hx2
  go_enter Try.func31, Try.ntmps31
  go_wp2
  go_region_law (first
    | (refine step_app rfl _ _ rfl (w.heap.size + 2) (.slice none 0 0) [] rfl (OwnB.nil _ _) A n c x.key rfl (KX.out.ext (by with_reducible (repeat (first | exact Ext.rfl_ _ | assumption | refine Ext.drew ?_ | refine Ext.drewN ?_ _ | refine Ext.alloc ?_ _ | refine Ext.trans ?_ (by assumption))))) (by simp; omega) (HS.out _ (by with_reducible (repeat (first | exact Ext.rfl_ _ | assumption | refine Ext.drew ?_ | refine Ext.drewN ?_ _ | refine Ext.alloc ?_ _ | refine Ext.trans ?_ (by assumption))))) ?_; intro v1 w1 o1 g1 _; have y1 := Ext.grown (Ext.rfl_ _) g1 (fun k hk => (by cases hk)); have x1 : Ext ((w.alloc (.cells #[.slice A n c, .int .i64 x.seq, .int .i64 x.kind, .slice A' n' c'] 25)).alloc (.cells #[.slice none 0 0, .int .i64 0, .int .i64 0, .slice none 0 0] 25)) w1 := (by with_reducible (repeat (first | exact Ext.rfl_ _ | assumption | refine Ext.drew ?_ | refine Ext.drewN ?_ _ | refine Ext.alloc ?_ _ | refine Ext.trans ?_ (by assumption)))); obtain ⟨e0, e1, e2, e3, f0, f1, f2, f3⟩ := box4 hbox1.out (w' := w1) x1; obtain ⟨A1, n1, c1, rfl, _, _, _⟩ := o1.formN; clear g1)
    | (refine step_app rfl _ _ rfl (w.heap.size + 2) (.slice none 0 0) [] rfl (OwnB.nil _ _) A' n' c' x.val rfl (KY.out.ext (by with_reducible (repeat (first | exact Ext.rfl_ _ | assumption | refine Ext.drew ?_ | refine Ext.drewN ?_ _ | refine Ext.alloc ?_ _ | refine Ext.trans ?_ (by assumption))))) (by simp; omega) (HS.out _ (by with_reducible (repeat (first | exact Ext.rfl_ _ | assumption | refine Ext.drew ?_ | refine Ext.drewN ?_ _ | refine Ext.alloc ?_ _ | refine Ext.trans ?_ (by assumption))))) ?_; intro v2 w2 o2 g2 _; have y2 := Ext.grown (Ext.rfl_ _) g2 (fun k hk => (by cases hk)); have x2 : Ext ((w.alloc (.cells #[.slice A n c, .int .i64 x.seq, .int .i64 x.kind, .slice A' n' c'] 25)).alloc (.cells #[.slice none 0 0, .int .i64 0, .int .i64 0, .slice none 0 0] 25)) w2 := (by with_reducible (repeat (first | exact Ext.rfl_ _ | assumption | refine Ext.drew ?_ | refine Ext.drewN ?_ _ | refine Ext.alloc ?_ _ | refine Ext.trans ?_ (by assumption)))); obtain ⟨e0, e1, e2, e3, f0, f1, f2, f3⟩ := box4 hbox1.out (w' := w2) x2; obtain ⟨A2, n2, c2, rfl, _, _, _⟩ := o2.formN; clear g2))
  all_goals
    have K1 := Lib.hid (show OwnB _ _ _ x.key from o1)
    have K2 := Lib.hid (show OwnB _ _ _ x.val from o2)
    obtain ⟨r0, r1, r2, r3, s0, s1, s2, s3⟩ := box4 hbox2.out (w' := w1) (by with_reducible (repeat (first | exact Ext.rfl_ _ | assumption | refine Ext.drew ?_ | refine Ext.drewN ?_ _ | refine Ext.alloc ?_ _ | refine Ext.trans ?_ (by assumption))))
    obtain ⟨r0', r1', r2', r3', s0', s1', s2', s3'⟩ := box4 hbox2.out (w' := w2) (by with_reducible (repeat (first | exact Ext.rfl_ _ | assumption | refine Ext.drew ?_ | refine Ext.drewN ?_ _ | refine Ext.alloc ?_ _ | refine Ext.trans ?_ (by assumption))))
    have X1 := Lib.hid x1
    have X2 := Lib.hid x2
    clear o1 o2
    go_wp2
    refine bodyPost_ret (v := .agg #[.slice A1 n1 c1, .int .i64 x.seq, .int .i64 x.kind, .slice A2 n2 c2]) ?_ rfl ?_
    · simp [results, Try.f31, go_sem, r0, r1, r2, r3, r0', r1', r2', r3']
    refine ⟨_, rfl, FrE.mk_ ?_ ?_ rfl rfl (by rw [hl1]; exact h2) (by rw [hl2]; exact h4), (by with_reducible (repeat (first | exact Ext.rfl_ _ | assumption | refine Ext.drew ?_ | refine Ext.drewN ?_ _ | refine Ext.alloc ?_ _ | refine Ext.setCell ?_ (by first | (simp; done) | (simp; omega)) _ | refine Ext.trans ?_ (by assumption))))⟩
    · refine OwnB.mono (base := w.heap.size + 2) ?_ (by omega)
      with_reducible (repeat (first | exact K1.out | refine OwnB.setLow ?_ (by first | (simp; done) | (simp; omega)) _ | refine OwnB.ext ?_ y1 | refine OwnB.ext ?_ y2))
    · refine OwnB.mono (base := w.heap.size + 2) ?_ (by omega)
      with_reducible (repeat (first | exact K2.out | refine OwnB.setLow ?_ (by first | (simp; done) | (simp; omega)) _ | refine OwnB.ext ?_ y1 | refine OwnB.ext ?_ y2))

end Go.Proofs.Ytpohmoakilioiaa
