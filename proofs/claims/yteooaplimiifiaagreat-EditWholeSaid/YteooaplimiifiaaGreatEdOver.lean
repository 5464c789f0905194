/- edit.Overlap. Conditions: the version and the keys read. -/
import Derived.Test.YteooaplimiifiaaGreatEdSome
namespace Go.Proofs.YteooaplimiifiaaGreat
set_option linter.unusedSimpArgs false
set_option linter.unusedVariables false
set_option maxRecDepth 100000
open Go.RowKit Go.Shelf

def ovP (level : Int) (first last : Bs) (t : Tab) : Bool := decide (t.lvl = level ∧ cmpK t.fst last ≤ 0 ∧ cmpK first t.lst ≤ 0)

set_option maxRecDepth 100000 in
set_option maxHeartbeats 4000000 in
theorem saysO (w0 : World) (q1 q2 q3 : Nat) (level : Int) (L F : Option Addr) (nl cl nf cf : Nat) (first last : Bs) (h1 : w0.cell? ⟨q1, 0, none⟩ = some (.int .i64 level)) (h2 : w0.cell? ⟨q2, 0, none⟩ = some (.slice L nl cl)) (h3 : w0.cell? ⟨q3, 0, none⟩ = some (.slice F nf cf)) (hL : Rd w0 L nl last) (hF : Rd w0 F nf first) :
    SaysT 41 #[.pointer (some ⟨q1, 0, none⟩), .pointer (some ⟨q2, 0, none⟩), .pointer (some ⟨q3, 0, none⟩)] (ovP level first last) (Ext w0) := by
  intro v t w hi hr
  obtain ⟨A, n, c, A', n', c', rfl, ha, hb, _⟩ := hr
  have HA := Lib.hid ha
  have HB := Lib.hid hb
  have HLL := Lib.hid (hL.ext hi)
  have HFF := Lib.hid (hF.ext hi)
  have g1 := hi.keeps _ _ _ h1
  have g2 := hi.keeps _ _ _ h2
  have g3 := hi.keeps _ _ _ h3
  have l1 := cell_lt g1
  have l2 := cell_lt g2
  have l3 := cell_lt g3
  have HX := Lib.hid (show Ext w (w.alloc (.cells #[.int .i64 t.num, .int .i64 t.lvl, .slice A n c, .slice A' n' c', .int .i64 t.size] 42)) from (by with_reducible (repeat (first | exact Ext.rfl_ _ | assumption | refine Ext.drew ?_ | refine Ext.drewN ?_ _ | refine Ext.alloc ?_ _ | refine Ext.trans ?_ (by assumption)))))
  clear ha hb hL hF h1 h2 h3
  by_cases c1 : t.lvl = level
  rotate_left
  · have d1 : (t.lvl == level) = false := by simp [c1]
    have HR : Hid (false = ovP level first last t) := Lib.hid (by simp [ovP, c1])
    clear c1
    go_enter Tryz.func41, Tryz.ntmps41
    go_wp2
    go_ret
    exact ⟨ret_bool HR.out, HX.out⟩
  have d1 : (t.lvl == level) = true := by simp [c1]
  by_cases c2 : cmpK t.fst last ≤ 0
  rotate_left
  · have HR : Hid (false = ovP level first last t) := Lib.hid (by simp [ovP, c2])
    clear c1
    go_enter Tryz.func41, Tryz.ntmps41
    go_wp2_with (go_at_call 42; refine (bcompare_any _ _ _ _ _ _ t.fst last _ ?_ ?_).mono ?_; (exact HA.out.ext HX.out); (exact HLL.out.ext HX.out); rintro e w4 ⟨rfl, rfl⟩)
    go_ret
    exact ⟨ret_bool HR.out, HX.out⟩
  by_cases c3 : cmpK first t.lst ≤ 0
  · have HR : Hid (true = ovP level first last t) := Lib.hid (by simp [ovP, c1, c2, c3])
    clear c1
    go_enter Tryz.func41, Tryz.ntmps41
    go_wp2_with (first | (go_at_call_of 42 (Value.slice A n c); refine (bcompare_any A L n c nl cl t.fst last _ ?_ ?_).mono ?_; (exact HA.out.ext HX.out); (exact HLL.out.ext HX.out); rintro e w4 ⟨rfl, rfl⟩) | (go_at_call_of 42 (Value.slice F nf cf); refine (bcompare_any F A' nf cf n' c' first t.lst _ ?_ ?_).mono ?_; (exact HFF.out.ext HX.out); (exact HB.out.ext HX.out); rintro e w4 ⟨rfl, rfl⟩))
    go_ret
    exact ⟨ret_bool HR.out, HX.out⟩
  · have HR : Hid (false = ovP level first last t) := Lib.hid (by simp [ovP, c3])
    clear c1
    go_enter Tryz.func41, Tryz.ntmps41
    go_wp2_with (first | (go_at_call_of 42 (Value.slice A n c); refine (bcompare_any A L n c nl cl t.fst last _ ?_ ?_).mono ?_; (exact HA.out.ext HX.out); (exact HLL.out.ext HX.out); rintro e w4 ⟨rfl, rfl⟩) | (go_at_call_of 42 (Value.slice F nf cf); refine (bcompare_any F A' nf cf n' c' first t.lst _ ?_ ?_).mono ?_; (exact HFF.out.ext HX.out); (exact HB.out.ext HX.out); rintro e w4 ⟨rfl, rfl⟩))
    go_ret
    exact ⟨ret_bool ((decide_eq_false (Int.not_le.2 c3)).trans HR.out), HX.out⟩

theorem four_blocks (w : World) (o0 o1 o2 o3 : Obj) : (((((w.alloc o0).alloc o1).alloc o2).alloc o3).heap[w.heap.size]? = some o0) ∧ (((((w.alloc o0).alloc o1).alloc o2).alloc o3).heap[w.heap.size + 1]? = some o1) ∧
    (((((w.alloc o0).alloc o1).alloc o2).alloc o3).heap[w.heap.size + 1 + 1]? = some o2) ∧ (((((w.alloc o0).alloc o1).alloc o2).alloc o3).heap[w.heap.size + 1 + 1 + 1]? = some o3) := by
  have hp : ∀ (w : World) (o : Obj), (w.alloc o).heap = w.heap.push o := fun _ _ => rfl
  simp only [hp, Array.getElem?_push, Array.size_push]
  refine ⟨?_, ?_, ?_, ?_⟩ <;> (repeat (first | rfl | rw [if_neg (by omega)]))

theorem enter_over : ∀ args w, (callFunc 41 args).run Tryz.prog w = .ok (.enter 41 args) w := enters_of Tryz.func41 (by kernel_rfl) rfl

set_option maxRecDepth 100000 in
set_option maxHeartbeats 4000000 in
theorem overlap_any (v : Value) (x : Ver) (level : Int) (F L : Option Addr) (nf cf nl cl : Nat) (first last : Bs) (w : World) (hv : RdV w v x) (hn : x.ts.length ≤ 1000000) (hF : Rd w F nf first) (hL : Rd w L nl last) :
    Calls Tryz.prog 12 #[v, .int .i64 level, .slice F nf cf, .slice L nl cl] w fun e w' => ∃ A n c, e = .returned (.slice A n c) ∧ n ≤ c ∧ RdLT w' A n (x.ts.filter (ovP level first last)) ∧ Ext w w' := by
  obtain ⟨A, n, c, rfl, hl, hnc⟩ := hv
  obtain rfl : x.ts.length = n := hl.1
  obtain ⟨W0, hW0⟩ : ∃ W0, W0 = (((w.alloc (.cells #[.int .i64 x.next, .int .i64 x.log, .int .i64 x.index, .int .i64 x.seq, .slice A x.ts.length c] 24)).alloc (.cells #[.int .i64 level] 3)).alloc (.cells #[.slice F nf cf] 35)).alloc (.cells #[.slice L nl cl] 35) := ⟨_, rfl⟩
  have X0 : Hid (Ext w W0) := Lib.hid (by rw [hW0]; exact (by with_reducible (repeat (first | exact Ext.rfl_ _ | assumption | refine Ext.drew ?_ | refine Ext.drewN ?_ _ | refine Ext.alloc ?_ _ | refine Ext.trans ?_ (by assumption)))))
  obtain ⟨h0, h1, h2, h3⟩ := four_blocks w (.cells #[.int .i64 x.next, .int .i64 x.log, .int .i64 x.index, .int .i64 x.seq, .slice A x.ts.length c] 24) (.cells #[.int .i64 level] 3) (.cells #[.slice F nf cf] 35) (.cells #[.slice L nl cl] 35)
  rw [← hW0] at h0 h1 h2 h3
  have hc : ∀ (q : Nat) (u : Value) (t : TypeId), W0.heap[q]? = some (.cells #[u] t (0, 0)) → W0.cell? ⟨q, 0, none⟩ = some u := fun q u t h => by unfold World.cell?; rw [h]; rfl
  have HS := Lib.hid (saysO W0 _ _ _ level L F nl cl nf cf first last (hc _ _ _ h1) (hc _ _ _ h3) (hc _ _ _ h2) (hL.ext X0.out) (hF.ext X0.out))
  have HV := Lib.hid (show RdV W0 (.agg #[.int .i64 x.next, .int .i64 x.log, .int .i64 x.index, .int .i64 x.seq, .slice A x.ts.length c]) x from ⟨A, _, c, rfl, hl.ext X0.out, hnc⟩)
  have HB0 := Lib.hid h0
  clear hl hF hL h0 h1 h2 h3 hc
  go_enter Tryz.func12, Tryz.ntmps12
  go_upto_region 1 with (fail)
  rw [← hW0]
  obtain ⟨v0, v1, v2, v3, v4, _⟩ := box5 HB0.out (Ext.rfl_ W0)
  clear hW0
  go_wp2_with (go_at_call 40; refine (some_any _ x 41 _ _ _ HV.out hn enter_over HS.out).mono ?_; rintro e w1 ⟨A1, n1, c1, rfl, hc1, hr1, hx1⟩; have HC1 := Lib.hid hc1; have HR1 := Lib.hid hr1; have HX1 := Lib.hid hx1; clear hc1 hr1 hx1)
  go_ret
  exact ⟨A1, n1, c1, rfl, HC1.out, HR1.out, X0.out.trans HX1.out⟩

end Go.Proofs.YteooaplimiifiaaGreat
