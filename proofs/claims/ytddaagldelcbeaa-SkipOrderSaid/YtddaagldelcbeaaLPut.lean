/- The law's put (of no value) and few. Conditions: none; the list reads. -/
import Derived.Test.YtddaagldelcbeaaBytW
import Derived.Test.YtddaagldelcbeaaRefC
namespace Go.Proofs.Ytddaagldelcbeaa
set_option linter.unusedSimpArgs false
set_option linter.unusedVariables false
open Go.RowKit

set_option maxRecDepth 100000 in
set_option maxHeartbeats 1000000 in
theorem lput_any (k : Bs) (s : Int) (w : World) (hk : k.length ≤ B40) :
    Calls Try.prog 35 #[.string ⟨k.toArray⟩, .int .i64 s] w fun e w' => ∃ u, e = .returned u ∧ RdE w' u ⟨k, s, 1, []⟩ ∧ Ext w w' := by
  have hc := fun (w : World) (s : ByteArray) => Lib.run_convert_string_bytes (P := Try.prog) w 9 22 5 s Try.underlying9 Try.underlying22 Try.underlying5
  have x1 : Ext (w.alloc (.cells #[.slice none 0 0, .int .i64 0, .int .i64 0, .slice none 0 0] 40)) (Lib.bytesWorld (w.alloc (.cells #[.slice none 0 0, .int .i64 0, .int .i64 0, .slice none 0 0] 40)) 5 ⟨k.toArray⟩) := bytesWorld_ext _ _ _
  obtain ⟨q0, q1, q2, q3, f0, f1, f2, f3⟩ := box4 (blk1 w (.cells #[.slice none 0 0, .int .i64 0, .int .i64 0, .slice none 0 0] 40)) x1
  have r1 := (bytesWorld_rd (w.alloc (.cells #[.slice none 0 0, .int .i64 0, .int .i64 0, .slice none 0 0] 40)) 5 k)
  have g1 : k.length ≤ grownCap (w.alloc (.cells #[.slice none 0 0, .int .i64 0, .int .i64 0, .slice none 0 0] 40)) k.length 0 5 := grownCap_ge _ _ _ _
  rw [World.size_alloc] at r1
  obtain ⟨ck, hck⟩ : ∃ z, z = grownCap (w.alloc (.cells #[.slice none 0 0, .int .i64 0, .int .i64 0, .slice none 0 0] 40)) k.length 0 5 := ⟨_, rfl⟩
  rw [← hck] at g1
  have X1 := Lib.hid x1
  have R1 := Lib.hid r1
  have G1 := Lib.hid g1
  have HK := Lib.hid hk
  clear x1 r1 g1 hk
  go_enter Try.func35, Try.ntmps35
  go_wp2
  rw [← hck]
  obtain ⟨W2, hW2⟩ : ∃ W2, W2 = Lib.bytesWorld (w.alloc (.cells #[.slice none 0 0, .int .i64 0, .int .i64 0, .slice none 0 0] 40)) 5 ⟨k.toArray⟩ := ⟨_, rfl⟩
  rw [← hW2] at X1 R1 q0 q1 q2 q3 f0 f1 f2 f3 ⊢
  refine bodyPost_ret (v := .agg #[.slice (some ⟨w.heap.size + 1, 0, none⟩) k.length ck, .int .i64 s, .int .i64 1, .slice none 0 0]) (by simp [results, Try.f35, go_sem, q0, q1, q2, q3]) rfl ?_
  have hw2 := X1.out
  have hi1 : Hi (w.heap.size + 1) (some ⟨w.heap.size + 1, 0, none⟩) k.length := fun _ a e => by cases e; exact Nat.le_refl _
  refine ⟨_, rfl, ⟨_, k.length, ck, none, 0, 0, rfl, ?_, Rd.nil _ _, G1.out, Nat.le_trans HK.out (by decide), Nat.le_refl _, by decide⟩, ?_⟩
  · exact (by with_reducible (repeat (first | exact R1.out | refine Rd.setCell ?_ hi1 (by simp) _ | refine Rd.ext ?_ (by assumption))))
  · exact (by with_reducible (repeat (first | exact Ext.rfl_ _ | assumption | refine Ext.drew ?_ | refine Ext.drewN ?_ _ | refine Ext.alloc ?_ _ | refine Ext.setCell ?_ (by first | (simp; done) | (simp; omega)) _ | refine Ext.trans ?_ (by assumption))))


set_option maxRecDepth 100000 in
set_option maxHeartbeats 1000000 in
theorem few_any (A : Option Addr) (n c : Nat) (xs : List Ent) (w : World) (hl : RdL w A n xs) :
    Calls Try.prog 13 #[.slice A n c] w fun e w' => e = .returned (.bool (decide (n ≤ 200) && !decide (200000 < wt xs))) ∧ Ext w w' := by
  have HL := Lib.hid hl
  have hn := hl.2.1
  unfold B41 at hn
  clear hl
  by_cases h2 : n ≤ 200
  · have h2I : (n : Int) ≤ 200 := by omega
    have hd : decide (n ≤ 200) = true := decide_eq_true h2
    rw [hd, Bool.true_and]
    clear hd h2
    go_enter Try.func13, Try.ntmps13
    go_wp2_with fail
    refine (rmuch_any A n c 200000 xs _ (HL.out.ext (by with_reducible (repeat (first | exact Ext.rfl_ _ | assumption | refine Ext.drew ?_ | refine Ext.drewN ?_ _ | refine Ext.alloc ?_ _ | refine Ext.trans ?_ (by assumption))))) (by decide)).mono ?_
    rintro e w1 ⟨rfl, hw1⟩
    go_wp2
    go_ret
    exact ⟨rfl, (by with_reducible (repeat (first | exact Ext.rfl_ _ | assumption | refine Ext.drew ?_ | refine Ext.drewN ?_ _ | refine Ext.alloc ?_ _ | refine Ext.trans ?_ (by assumption))))⟩
  · have h2I : ¬ (n : Int) ≤ 200 := by omega
    have hd : decide (n ≤ 200) = false := decide_eq_false h2
    rw [hd, Bool.false_and]
    clear hd h2
    go_enter Try.func13, Try.ntmps13
    go_wp2
    go_ret
    exact ⟨rfl, (by with_reducible (repeat (first | exact Ext.rfl_ _ | assumption | refine Ext.drew ?_ | refine Ext.drewN ?_ _ | refine Ext.alloc ?_ _ | refine Ext.trans ?_ (by assumption))))⟩

end Go.Proofs.Ytddaagldelcbeaa
