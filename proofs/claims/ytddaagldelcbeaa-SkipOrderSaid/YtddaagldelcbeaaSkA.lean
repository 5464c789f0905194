/- Small functions of the skiplist. Conditions: the list is one. -/
import Derived.Test.YtddaagldelcbeaaSkM
import Derived.Test.YtddaagldelcbeaaHtA
namespace Go.Proofs.Ytddaagldelcbeaa
set_option linter.unusedSimpArgs false
set_option linter.unusedVariables false
open Go.RowKit

theorem cnewB (w : World) (v : Value) (t : TypeId) : (w.alloc (.cells #[v] t)).cell? ⟨w.heap.size, 0, none⟩ = some v := by
  have h := heap_alloc_new w (.cells #[v] t)
  unfold World.cell?; simp only [h]; rfl

set_option maxHeartbeats 400000 in
theorem there_any (g h : Nat) (L : List Nd) (w : World) (s : SkL w g h L) :
    Calls Try.prog 40 #[.pointer (some ⟨g, 0, none⟩)] w fun e w' => e = .returned (.bool true) ∧ w' = w := by
  have hl := s.list
  have c0 : w.cell? ⟨g, 0, none⟩ = some (.pointer (some ⟨h, 0, none⟩)) := by rw [cell_at hl]; rfl
  go_enter Try.func40, Try.ntmps40
  go_wp2
  go_ret
  exact ⟨rfl, rfl⟩

set_option maxRecDepth 100000 in
set_option maxHeartbeats 1000000 in
theorem new_any (w : World) :
    Calls Try.prog 34 #[] w fun e w' => e = .returned (.pointer (some ⟨w.heap.size + 1, 0, none⟩)) ∧ SkL w' (w.heap.size + 1) w.heap.size [] ∧ Ext w w' := by
  go_enter Try.func34, Try.ntmps34
  go_wp2
  go_ret
  have hb := two_new w (ndObj hd0 (nxs 8 [])) (liObj w.heap.size 0 0)
  exact ⟨rfl, ⟨hb.2, ⟨hb.1, fun A nd B e => by simp at e, fun nd hm => by simp at hm, by simp⟩, by simp, fun nd hm => by simp at hm⟩, (by with_reducible (repeat (first | exact Ext.rfl_ _ | assumption | refine Ext.drew ?_ | refine Ext.drewN ?_ _ | refine Ext.alloc ?_ _ | refine Ext.trans ?_ (by assumption))))⟩

set_option maxHeartbeats 400000 in
theorem len_any (g h : Nat) (L : List Nd) (w : World) (s : SkL w g h L) :
    Calls Try.prog 15 #[.pointer (some ⟨g, 0, none⟩)] w fun e w' => e = .returned (.int .i64 (L.length : Nat)) ∧ w' = w := by
  have hl := s.list
  have c1 : w.cell? ⟨g, 1, none⟩ = some (.int .i64 (L.length : Nat)) := by rw [cell_at hl]; rfl
  go_enter Try.func15, Try.ntmps15
  go_wp2_with fail
  refine (there_any g h L w s).mono ?_
  rintro e w' ⟨rfl, rfl⟩
  go_wp2
  go_ret
  exact ⟨rfl, rfl⟩

set_option maxHeartbeats 400000 in
theorem skbytes_any (g h : Nat) (L : List Nd) (w : World) (s : SkL w g h L) :
    Calls Try.prog 16 #[.pointer (some ⟨g, 0, none⟩)] w fun e w' => e = .returned (.int .i64 (wB (L.map Nd.x) : Nat)) ∧ w' = w := by
  have hl := s.list
  have c1 : w.cell? ⟨g, 2, none⟩ = some (.int .i64 (wB (L.map Nd.x) : Nat)) := by rw [cell_at hl]; rfl
  go_enter Try.func16, Try.ntmps16
  go_wp2_with fail
  refine (there_any g h L w s).mono ?_
  rintro e w' ⟨rfl, rfl⟩
  go_wp2
  go_ret
  exact ⟨rfl, rfl⟩

set_option maxRecDepth 100000 in
set_option maxHeartbeats 1000000 in
theorem put1_any (gb : Nat) (A B : Option Addr) (n c m d : Nat) (v : Value) (x y : Ent) (w : World) (hg : w.heap[gb]? = some (.cells #[.slice A n c, .int .i64 x.seq, .int .i64 x.kind, .slice B m d] 40 (0, 0)))
    (hx : RdE w (.agg #[.slice A n c, .int .i64 x.seq, .int .i64 x.kind, .slice B m d]) x) (hy : RdE w v y) :
    Calls Try.prog 56 #[v, .pointer (some ⟨gb, 0, none⟩)] w fun e w' => e = .returned (.bool (decide (cmpE y x < 0))) ∧ Ext w w' := by
  have HX := Lib.hid hx
  have HY := Lib.hid hy
  obtain ⟨A', n', c', B', m', d', rfl, _⟩ := hy
  obtain ⟨q0, q1, q2, q3, _, _, _, _⟩ := box4 hg (w' := w.alloc (.cells #[.slice A' n' c', .int .i64 y.seq, .int .i64 y.kind, .slice B' m' d'] 40)) (Ext.alloc (Ext.rfl_ _) _)
  have hlt := (Array.getElem?_eq_some_iff.1 hg).1
  clear hx hg
  go_enter Try.func56, Try.ntmps56
  go_wp2_with fail
  refine (compare_any _ _ y x _ (HY.out.ext (by with_reducible (repeat (first | exact Ext.rfl_ _ | assumption | refine Ext.drew ?_ | refine Ext.drewN ?_ _ | refine Ext.alloc ?_ _ | refine Ext.trans ?_ (by assumption))))) (HX.out.ext (by with_reducible (repeat (first | exact Ext.rfl_ _ | assumption | refine Ext.drew ?_ | refine Ext.drewN ?_ _ | refine Ext.alloc ?_ _ | refine Ext.trans ?_ (by assumption)))))).mono ?_
  rintro e w' ⟨rfl, hw'⟩
  go_wp2
  go_ret
  exact ⟨ret_bool rfl, (by with_reducible (repeat (first | exact Ext.rfl_ _ | assumption | refine Ext.drew ?_ | refine Ext.drewN ?_ _ | refine Ext.alloc ?_ _ | refine Ext.trans ?_ (by assumption))))⟩

end Go.Proofs.Ytddaagldelcbeaa
