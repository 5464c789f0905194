/- The law's put and del. Conditions: none. -/
import Derived.Test.YtpohmoakilioiaaBytW
import Derived.Lib.ConvBytes
namespace Go.Proofs.Ytpohmoakilioiaa
set_option linter.unusedSimpArgs false
set_option linter.unusedVariables false
set_option maxRecDepth 100000
open Go.RowKit

set_option maxRecDepth 100000 in
set_option maxHeartbeats 1000000 in
theorem put_any (k v : Bs) (s : Int) (w : World) (hk : k.length ≤ B40) (hv : v.length ≤ B40) :
    Calls Try.prog 37 #[.string ⟨k.toArray⟩, .int .i64 s, .string ⟨v.toArray⟩] w fun e w' => ∃ u, e = .returned u ∧ RdE w' u ⟨k, s, 1, v⟩ ∧ Ext w w' := by
  have hc := fun (w : World) (s : ByteArray) => Lib.run_convert_string_bytes (P := Try.prog) w 9 22 5 s Try.underlying9 Try.underlying22 Try.underlying5
  have x1 : Ext (w.alloc (.cells #[.slice none 0 0, .int .i64 0, .int .i64 0, .slice none 0 0] 25)) (Lib.bytesWorld (Lib.bytesWorld (w.alloc (.cells #[.slice none 0 0, .int .i64 0, .int .i64 0, .slice none 0 0] 25)) 5 ⟨k.toArray⟩) 5 ⟨v.toArray⟩) := (bytesWorld_ext _ _ _).trans (bytesWorld_ext _ _ _)
  obtain ⟨q0, q1, q2, q3, f0, f1, f2, f3⟩ := box4 (blk1 w (.cells #[.slice none 0 0, .int .i64 0, .int .i64 0, .slice none 0 0] 25)) x1
  have r1 := (bytesWorld_rd (w.alloc (.cells #[.slice none 0 0, .int .i64 0, .int .i64 0, .slice none 0 0] 25)) 5 k).ext (bytesWorld_ext _ 5 ⟨v.toArray⟩)
  have r2 := bytesWorld_rd (Lib.bytesWorld (w.alloc (.cells #[.slice none 0 0, .int .i64 0, .int .i64 0, .slice none 0 0] 25)) 5 ⟨k.toArray⟩) 5 v
  have g1 : k.length ≤ grownCap (w.alloc (.cells #[.slice none 0 0, .int .i64 0, .int .i64 0, .slice none 0 0] 25)) k.length 0 5 := grownCap_ge _ _ _ _
  have g2 : v.length ≤ grownCap (Lib.bytesWorld (w.alloc (.cells #[.slice none 0 0, .int .i64 0, .int .i64 0, .slice none 0 0] 25)) 5 ⟨k.toArray⟩) v.length 0 5 := grownCap_ge _ _ _ _
  have hz : (Lib.bytesWorld (w.alloc (.cells #[.slice none 0 0, .int .i64 0, .int .i64 0, .slice none 0 0] 25)) 5 ⟨k.toArray⟩).heap.size = w.heap.size + 1 + 1 := by rw [Lib.bytesWorld_size, World.size_alloc]
  rw [World.size_alloc] at r1
  rw [hz] at r2
  obtain ⟨ck, hck⟩ : ∃ z, z = grownCap (w.alloc (.cells #[.slice none 0 0, .int .i64 0, .int .i64 0, .slice none 0 0] 25)) k.length 0 5 := ⟨_, rfl⟩
  obtain ⟨cv, hcv⟩ : ∃ z, z = grownCap (Lib.bytesWorld (w.alloc (.cells #[.slice none 0 0, .int .i64 0, .int .i64 0, .slice none 0 0] 25)) 5 ⟨k.toArray⟩) v.length 0 5 := ⟨_, rfl⟩
  rw [← hck] at g1
  rw [← hcv] at g2
  have X1 := Lib.hid x1
  have R1 := Lib.hid r1
  have R2 := Lib.hid r2
  have G1 := Lib.hid g1
  have G2 := Lib.hid g2
  have HK := Lib.hid hk
  have HV := Lib.hid hv
  clear x1 r1 r2 g1 g2 hk hv
  go_enter Try.func37, Try.ntmps37
  go_wp2
  rw [← hck, ← hcv]
  obtain ⟨W2, hW2⟩ : ∃ W2, W2 = Lib.bytesWorld (Lib.bytesWorld (w.alloc (.cells #[.slice none 0 0, .int .i64 0, .int .i64 0, .slice none 0 0] 25)) 5 ⟨k.toArray⟩) 5 ⟨v.toArray⟩ := ⟨_, rfl⟩
  rw [← hW2] at X1 R1 R2 q0 q1 q2 q3 f0 f1 f2 f3 ⊢
  refine bodyPost_ret (v := .agg #[.slice (some ⟨w.heap.size + 1, 0, none⟩) k.length ck, .int .i64 s, .int .i64 1, .slice (some ⟨w.heap.size + 1 + 1, 0, none⟩) v.length cv]) (by simp [results, Try.f37, go_sem, q0, q1, q2, q3]) rfl ?_
  have hw2 := X1.out
  have hi1 : Hi (w.heap.size + 1) (some ⟨w.heap.size + 1, 0, none⟩) k.length := fun _ a e => by cases e; exact Nat.le_refl _
  have hi2 : Hi (w.heap.size + 1) (some ⟨w.heap.size + 1 + 1, 0, none⟩) v.length := fun _ a e => by cases e; exact Nat.le_succ _
  refine ⟨_, rfl, ⟨_, k.length, ck, _, v.length, cv, rfl, ?_, ?_, G1.out, Nat.le_trans HK.out (by decide), G2.out, Nat.le_trans HV.out (by decide)⟩, ?_⟩
  · exact (by with_reducible (repeat (first | exact R1.out | refine Rd.setCell ?_ hi1 (by simp) _ | refine Rd.ext ?_ (by assumption))))
  · exact (by with_reducible (repeat (first | exact R2.out | refine Rd.setCell ?_ hi2 (by simp) _ | refine Rd.ext ?_ (by assumption))))
  · exact (by with_reducible (repeat (first | exact Ext.rfl_ _ | assumption | refine Ext.drew ?_ | refine Ext.drewN ?_ _ | refine Ext.alloc ?_ _ | refine Ext.setCell ?_ (by first | (simp; done) | (simp; omega)) _ | refine Ext.trans ?_ (by assumption))))

set_option maxRecDepth 100000 in
set_option maxHeartbeats 1000000 in
theorem del_any (k : Bs) (s : Int) (w : World) (hk : k.length ≤ B40) :
    Calls Try.prog 36 #[.string ⟨k.toArray⟩, .int .i64 s] w fun e w' => ∃ u, e = .returned u ∧ RdE w' u ⟨k, s, 2, []⟩ ∧ Ext w w' := by
  have hc := fun (w : World) (s : ByteArray) => Lib.run_convert_string_bytes (P := Try.prog) w 9 22 5 s Try.underlying9 Try.underlying22 Try.underlying5
  have x1 : Ext (w.alloc (.cells #[.slice none 0 0, .int .i64 0, .int .i64 0, .slice none 0 0] 25)) (Lib.bytesWorld (w.alloc (.cells #[.slice none 0 0, .int .i64 0, .int .i64 0, .slice none 0 0] 25)) 5 ⟨k.toArray⟩) := bytesWorld_ext _ _ _
  obtain ⟨q0, q1, q2, q3, f0, f1, f2, f3⟩ := box4 (blk1 w (.cells #[.slice none 0 0, .int .i64 0, .int .i64 0, .slice none 0 0] 25)) x1
  have r1 := (bytesWorld_rd (w.alloc (.cells #[.slice none 0 0, .int .i64 0, .int .i64 0, .slice none 0 0] 25)) 5 k)
  have g1 : k.length ≤ grownCap (w.alloc (.cells #[.slice none 0 0, .int .i64 0, .int .i64 0, .slice none 0 0] 25)) k.length 0 5 := grownCap_ge _ _ _ _
  rw [World.size_alloc] at r1
  obtain ⟨ck, hck⟩ : ∃ z, z = grownCap (w.alloc (.cells #[.slice none 0 0, .int .i64 0, .int .i64 0, .slice none 0 0] 25)) k.length 0 5 := ⟨_, rfl⟩
  rw [← hck] at g1
  have X1 := Lib.hid x1
  have R1 := Lib.hid r1
  have G1 := Lib.hid g1
  have HK := Lib.hid hk
  clear x1 r1 g1 hk
  go_enter Try.func36, Try.ntmps36
  go_wp2
  rw [← hck]
  obtain ⟨W2, hW2⟩ : ∃ W2, W2 = Lib.bytesWorld (w.alloc (.cells #[.slice none 0 0, .int .i64 0, .int .i64 0, .slice none 0 0] 25)) 5 ⟨k.toArray⟩ := ⟨_, rfl⟩
  rw [← hW2] at X1 R1 q0 q1 q2 q3 f0 f1 f2 f3 ⊢
  refine bodyPost_ret (v := .agg #[.slice (some ⟨w.heap.size + 1, 0, none⟩) k.length ck, .int .i64 s, .int .i64 2, .slice none 0 0]) (by simp [results, Try.f36, go_sem, q0, q1, q2, q3]) rfl ?_
  have hw2 := X1.out
  have hi1 : Hi (w.heap.size + 1) (some ⟨w.heap.size + 1, 0, none⟩) k.length := fun _ a e => by cases e; exact Nat.le_refl _
  refine ⟨_, rfl, ⟨_, k.length, ck, none, 0, 0, rfl, ?_, Rd.nil _ _, G1.out, Nat.le_trans HK.out (by decide), Nat.le_refl _, by decide⟩, ?_⟩
  · exact (by with_reducible (repeat (first | exact R1.out | refine Rd.setCell ?_ hi1 (by simp) _ | refine Rd.ext ?_ (by assumption))))
  · exact (by with_reducible (repeat (first | exact Ext.rfl_ _ | assumption | refine Ext.drew ?_ | refine Ext.drewN ?_ _ | refine Ext.alloc ?_ _ | refine Ext.setCell ?_ (by first | (simp; done) | (simp; omega)) _ | refine Ext.trans ?_ (by assumption))))

end Go.Proofs.Ytpohmoakilioiaa
