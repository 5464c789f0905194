/- edit.some and edit.Overlap; slices.Clone of tables. Conditions: the version reads. -/
import Derived.Test.YteooaplimiifiaaGreatEdDelG
import Derived.Test.YteooaplimiifiaaGreatEdMay
import Derived.Test.YteooaplimiifiaaGreatSortL
import Derived.Deep.CutBlock
namespace Go.Proofs.YteooaplimiifiaaGreat
set_option linter.unusedSimpArgs false
set_option linter.unusedVariables false
set_option maxRecDepth 100000
open Go.RowKit Go.Shelf

set_option maxRecDepth 100000 in
set_option maxHeartbeats 4000000 in
theorem cloneT_any (A : Option Addr) (n c : Nat) (ts : List Tab) (w : World) (hl : RdLT w A n ts) (hnc : n ≤ c) (hn : n ≤ 1000000) :
    Calls Tryz.prog 68 #[.slice A n c] w fun e w' => ∃ v', e = .returned v' ∧ OwnT w' w.heap.size v' ts ∧ Ext w w' := by
  have q22 : ∀ (w : World) (a : Option Addr) (n c n' c' : Nat), (binOp .eql 22 (.slice a n c) (.slice none n' c')).run Tryz.prog w = .ok (.bool a.isNone) w := fun w a n c n' c' => Lib.run_eql_slice_nil w _ _ a n c n' c' Tryz.underlying22
  have HL := Lib.hid hl
  cases A with
  | none =>
    have h0 : n = 0 := by
      rcases Nat.eq_zero_or_pos n with h | h
      · exact h
      · obtain ⟨_, _, e, _⟩ := hl.2.2 h
        cases e
    subst h0
    obtain rfl : ts = [] := List.eq_nil_of_length_eq_zero hl.1
    clear hl
    go_enter Tryz.func68, Tryz.ntmps68
    go_wp2
    go_ret
    exact ⟨_, rfl, OwnT.nil _ _, Ext.rfl_ _⟩
  | some a =>
    have HO := Lib.hid (show OwnT (w.alloc (.cells #[] 42)) w.heap.size (.slice (some ⟨w.heap.size, 0, none⟩) 0 0) [] from
      ⟨[], rfl, ⟨rfl, .inr ⟨w.heap.size, 0, #[], rfl, Nat.le_refl _, heap_alloc_new w _, Nat.le_refl _, Nat.zero_le _, rfl, rfl⟩⟩, fun k h => absurd h (by simp)⟩)
    have HR := Lib.hid (hl.old (w.alloc (.cells #[] 42)) (Ext.alloc (Ext.rfl_ _) _) w.heap.size (Nat.le_refl _))
    have hl1 := hl.1
    clear hl
    go_enter Tryz.func68, Tryz.ntmps68
    go_wp2_with (at_builtin; refine wp_appT rfl _ _ rfl w.heap.size _ [] rfl HO.out (some a) n c ts rfl HR.out (by rw [hl1]; unfold B40; simp; omega) (by simp) ?_; intro v5 w5 h5 g5 _; have H5 := Lib.hid h5; have X5 : Hid (Ext w w5) := Lib.hid (Ext.growT (Ext.alloc (Ext.rfl_ _) _) g5 HO.out (Nat.le_refl _)); clear h5 g5)
    go_ret
    exact ⟨_, rfl, by simpa using H5.out, X5.out⟩

theorem SaysT.sub {g : Nat} {cb : Array Value} {p : Tab → Bool} {I J : World → Prop} (h : SaysT g cb p I) (hj : ∀ w, J w → I w) : SaysT g cb p J := fun v t w hi hr => h v t w (hj w hi) hr
theorem keepsX {w0 : World} {row : Option Nat} (h : ∀ g, row = some g → w0.heap.size ≤ g) : KeepsT row (Ext w0) := fun _ _ hi hg => hi.grown hg h

set_option maxRecDepth 100000 in
set_option maxHeartbeats 4000000 in
theorem saysS (w0 : World) (q g : Nat) (cb : Array Value) (p : Tab → Bool) (hq0 : w0.cell? ⟨q, 0, none⟩ = some (.func (.func g) #[] cb)) (eg : ∀ args w, (callFunc g args).run Tryz.prog w = .ok (.enter g args) w) (hs : SaysT g cb p (Ext w0)) :
    SaysT 69 #[.pointer (some ⟨q, 0, none⟩)] (fun t => !p t) (Ext w0) := by
  intro v t w hi hr
  obtain ⟨A, n, c, A', n', c', rfl, h⟩ := id hr
  have hq := hi.keeps _ _ _ hq0
  have hql := cell_lt hq
  have HC := Lib.hid (fun W (hW : Ext w W) => hs (.agg #[.int .i64 t.num, .int .i64 t.lvl, .slice A n c, .slice A' n' c', .int .i64 t.size]) t W (hi.trans hW) (hr.ext hW))
  clear hs hi h hr hq0
  obtain ⟨b, hb⟩ : ∃ b, p t = b := ⟨_, rfl⟩
  have HB := Lib.hid hb
  rw [hb] at HC
  clear hb
  go_enter Tryz.func69, Tryz.ntmps69
  go_wp2_with fail
  refine (HC.out _ (by with_reducible (repeat (first | exact Ext.rfl_ _ | assumption | refine Ext.drew ?_ | refine Ext.drewN ?_ _ | refine Ext.alloc ?_ _ | refine Ext.trans ?_ (by assumption))))).mono ?_
  rintro e w1 ⟨rfl, hw1⟩
  have X1 := Lib.hid (show Ext w w1 from (by with_reducible (repeat (first | exact Ext.rfl_ _ | assumption | refine Ext.drew ?_ | refine Ext.drewN ?_ _ | refine Ext.alloc ?_ _ | refine Ext.trans ?_ (by assumption)))))
  cases b
  · go_wp2
    go_ret
    exact ⟨by rw [HB.out]; rfl, X1.out⟩
  · go_wp2
    go_ret
    exact ⟨by rw [HB.out]; rfl, X1.out⟩

theorem enter_some : ∀ args w, (callFunc 69 args).run Tryz.prog w = .ok (.enter 69 args) w := enters_of Tryz.func69 (by kernel_rfl) rfl

set_option maxRecDepth 100000 in
set_option maxHeartbeats 4000000 in
theorem some_any (v : Value) (x : Ver) (g : Nat) (cb : Array Value) (p : Tab → Bool) (w : World) (hv : RdV w v x) (hn : x.ts.length ≤ 1000000) (eg : ∀ args w, (callFunc g args).run Tryz.prog w = .ok (.enter g args) w) (hs : SaysT g cb p (Ext w)) :
    Calls Tryz.prog 40 #[v, .func (.func g) #[] cb] w fun e w' => ∃ A n c, e = .returned (.slice A n c) ∧ n ≤ c ∧ RdLT w' A n (x.ts.filter p) ∧ Ext w w' := by
  obtain ⟨A, n, c, rfl, hl, hnc⟩ := hv
  obtain rfl : x.ts.length = n := hl.1
  have HL := Lib.hid hl
  have HB := Lib.hid (heap_alloc_new w (.cells #[.int .i64 x.next, .int .i64 x.log, .int .i64 x.index, .int .i64 x.seq, .slice A x.ts.length c] 24))
  obtain ⟨W0, hW0⟩ : ∃ W0, W0 = (w.alloc (.cells #[.int .i64 x.next, .int .i64 x.log, .int .i64 x.index, .int .i64 x.seq, .slice A x.ts.length c] 24)).alloc (.cells #[.func (.func g) #[] cb] 46) := ⟨_, rfl⟩
  have X0 : Hid (Ext w W0) := Lib.hid (by rw [hW0]; exact (by with_reducible (repeat (first | exact Ext.rfl_ _ | assumption | refine Ext.drew ?_ | refine Ext.drewN ?_ _ | refine Ext.alloc ?_ _ | refine Ext.trans ?_ (by assumption)))))
  have hq : W0.cell? ⟨w.heap.size + 1, 0, none⟩ = some (.func (.func g) #[] cb) := by
    have h := heap_alloc_new (w.alloc (.cells #[.int .i64 x.next, .int .i64 x.log, .int .i64 x.index, .int .i64 x.seq, .slice A x.ts.length c] 24)) (.cells #[.func (.func g) #[] cb] 46)
    rw [World.size_alloc, ← hW0] at h
    unfold World.cell?
    rw [h]
    rfl
  have HS := Lib.hid (saysS W0 (w.heap.size + 1) g cb p hq eg (hs.sub fun W hW => X0.out.trans hW))
  have HB0 := Lib.hid (show W0.heap[w.heap.size]? = some (.cells #[.int .i64 x.next, .int .i64 x.log, .int .i64 x.index, .int .i64 x.seq, .slice A x.ts.length c] 24 (0, 0)) from by
    rw [hW0]
    exact ((Ext.below (Ext.alloc (Ext.rfl_ _) _)).block _ (by rw [World.size_alloc]; exact Nat.lt_succ_self _)).trans HB.out)
  clear hl hs hq
  go_enter Tryz.func40, Tryz.ntmps40
  go_upto_region 1 with (fail)
  rw [← hW0]
  obtain ⟨v0, v1, v2, v3, v4, _⟩ := box5 HB0.out (Ext.rfl_ W0)
  clear hW0
  go_wp2_with (first | (go_at_call 68; refine (cloneT_any A _ c x.ts _ (HL.out.ext X0.out) hnc hn).mono ?_; rintro e w1 ⟨va, rfl, ho, hw1⟩; have HO := Lib.hid ho; have X1 := Lib.hid hw1) | (go_at_call 18; refine (delf_any W0.heap.size va x.ts 69 _ _ (Ext W0) _ HO.out hn enter_some HS.out (keepsX fun k hk => (HO.out.lt k hk).1) X1.out).mono ?_; rintro e w2 ⟨vb, rfl, hb, _, hx2⟩; obtain ⟨A2, n2, c2, rfl, _, hr2, _⟩ := hb.formN (by have := List.length_filter_le (fun t => !!p t) x.ts; unfold B47; omega); have HR2 := Lib.hid hr2; have X2 := Lib.hid hx2; have HN2 : Hid (n2 ≤ 1000000) := Lib.hid (by have := hr2.1; have := List.length_filter_le (fun t => !!p t) x.ts; omega); clear hb hr2 hx2) | (go_at_call 14; refine (own_any A2 n2 c2 _ _ HR2.out HN2.out).mono ?_; rintro e w3 ⟨vc, rfl, hc, _, hw3⟩; obtain ⟨A3, n3, c3, rfl, hc3, hr3, _⟩ := hc.formN (by have := List.length_filter_le (fun t => !!p t) x.ts; unfold B47; omega); have HR3 := Lib.hid hr3; have X3 := Lib.hid hw3; have HC3 := Lib.hid hc3; clear hc hr3 hc3))
  go_ret
  have hf : x.ts.filter (fun t => !!p t) = x.ts.filter p := by simp
  exact ⟨A3, n3, c3, rfl, HC3.out, by rw [← hf]; exact HR3.out, X0.out.trans (X2.out.trans X3.out)⟩

end Go.Proofs.YteooaplimiifiaaGreat
