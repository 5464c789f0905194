/- Contract of ikey.Rising. Conditions: the list reads. -/
import Derived.Test.YtpohmoakilioiaaLate
namespace Go.Proofs.Ytpohmoakilioiaa
set_option linter.unusedSimpArgs false
set_option linter.unusedVariables false
set_option maxRecDepth 100000
open Go.RowKit Go.Shelf
attribute [local go_sem] Oper.semAt_some

theorem ris_short (p : Option Ent) (xs : List Ent) : (ris p xs).length ≤ xs.length := by
  induction xs generalizing p with
  | nil => exact Nat.le_refl _
  | cons x xs ih =>
    simp only [ris]; split
    · simp; exact ih _
    · simp

structure RisI (w : World) (pre : List Ent) (T : Nat → Prop) (Wc : World) : Prop where
  num : Wc.cell? ⟨w.heap.size, 0, none⟩ = some (.int .i64 pre.length)
  numF : Wc.frozen? ⟨w.heap.size, 0, none⟩ = false
  ext : Ext w Wc
  size : w.heap.size + 2 ≤ Wc.heap.size
  t : ∀ k, T k → w.heap.size + 2 ≤ k

theorem RisI.kept {w : World} {pre : List Ent} {T T' : Nat → Prop} {Wc W' : World} (h : RisI w pre T Wc)
    (k : Kept (fun k => k < w.heap.size + 2) Wc W') (ht : ∀ k, T' k → w.heap.size + 2 ≤ k) : RisI w pre T' W' := by
  have hz := h.size
  refine ⟨k.cell h.num (by simp), ?_, k.ext_of h.ext (fun j hj => by omega), Nat.le_trans hz k.size, ht⟩
  rw [k.frozen (by simp; omega) (by simp)]; exact h.numF

theorem RisI.ab (w : World) : AbI (w.heap.size + 2) (RisI w) := by
  intro pre T T' Wc W' h hk hs hn
  have hz := h.size
  exact h.kept (hk.mono fun k hx => ⟨fun h' => by have := h.t _ h'; omega, by omega, by omega⟩) (fun k h' => (hn k h').elim (h.t k) (fun h => by omega))

set_option maxRecDepth 100000 in
set_option maxHeartbeats 4000000 in
theorem irising_any (A : Option Addr) (n c : Nat) (xs : List Ent) (w : World) (hl : RdL w A n xs) (hnc : n ≤ c) :
    Calls Try.prog 35 #[.slice A n c] w fun e w' => e = .returned (.bool (((ris none xs).length : Int) == (n : Int))) ∧ Ext w w' := by
  refine (callsIn_wide (n := 3)).1 ?_
  refine callsIn_of_wp_marks Try.func35 rfl trivial ?_ rfl
  simp only [Try.ntmps35, List.size_toArray, List.length_cons, List.length_nil, Nat.reduceAdd, Nat.reduceSub, Array.replicate_succ, Array.replicate_zero, List.push_toArray, List.append_toArray, List.nil_append, List.cons_append]
  gi_wp2
  refine ⟨trivial, ?_⟩
  refine (callsIn_wide.2 (rising_any _ _ _ _)).mono ?_
  rintro e w' ⟨rfl, rfl⟩
  gi_wp2
  have hlen := hl.1
  have hq := hl.2.1
  unfold B41 at hq
  have ha : ∃ W1, W1 = w.alloc (.cells #[.int .i64 0] 3) := ⟨_, rfl⟩
  obtain ⟨W1, hW1⟩ := ha
  have hb : ∃ W5, W5 = W1.alloc (.cells #[.slice A n c] 42) := ⟨_, rfl⟩
  obtain ⟨W5, hW5⟩ := hb
  have z1 : W1.heap.size = w.heap.size + 1 := by rw [hW1, World.size_alloc]
  have hz5 : W5.heap.size = w.heap.size + 2 := by rw [hW5, World.size_alloc, z1]
  have x1 : Ext W1 W5 := by rw [hW5]; exact Ext.alloc (Ext.rfl_ _) _
  have x0 : Ext w W5 := Ext.trans (by rw [hW1]; exact Ext.alloc (Ext.rfl_ _) _) x1
  have q0 := cnew w (.int .i64 0) 3
  rw [← hW1] at q0
  have q1 := cnew W1 (.slice A n c) 42
  rw [← hW5, z1] at q1
  rw [← hW1, ← hW5]
  refine range_law (gf := 85) (lb := #[.pointer (some ⟨w.heap.size + 1, 0, none⟩)]) rfl (enters_of Try.func85 (by kernel_rfl) rfl)
    (rising1_seq A n c (w.heap.size + 1) xs (fun k => k = w.heap.size) w W5 hl hnc x0 ?_ ?_ ?_) ?_ ?_ ?_
    (RisI w) (fun _ _ _ _ => False) ?_ ?_ ?_ ?_ ?_ ?_
  · rintro k rfl; omega
  · exact q1.1
  · omega
  · exact Ext.rfl_ _
  · rintro x vs W ⟨v, rfl, _⟩; rfl
  · rintro k rfl; omega
  · rw [hz5]; exact RisI.ab w
  · intro code; rw [hz5]
    rintro pre T T' Wc W' h
    exact h.elim
  · refine ⟨x1.keeps _ _ _ q0.1, ?_, x0, by omega, fun _ h => h.elim⟩
    rw [(bcell x1).2 _ _ (by omega)]; exact q0.2
  · rintro l2 m pre x vs T Wc rfl hI hpre ⟨v, rfl, hrd, hzc⟩ hT hz hlo
    rw [hz5] at hT hz hlo
    have hkn : pre.length < n := by rw [← hlen]; have h1 := hpre.length_le; have h2 := ris_short none xs; simp at h1; omega
    simp only [List.zip_toArray, List.zip_cons_cons, List.zip_nil_right, List.foldl_toArray', List.foldl_cons, List.foldl_nil]
    have hI0 := Lib.hid hI
    clear hI hpre hrd
    gi_wp2
    refine ⟨Ext.rfl_ _, fun W2 kp2 => ?_⟩
    rw [hz5] at kp2
    have hI2 := hI0.out.kept (T' := T) (kp2.mono fun k hk => by omega) hI0.out.t
    obtain ⟨i1, i2, i3, i4, i5⟩ := id hI2
    have H2 := Lib.hid hI2
    clear hI2 kp2
    have hwr : IntKind.i64.wrap ((pre.length : Int) + 1) = (pre.length : Int) + 1 := by rw [IntKind.wrap_i64]; omega
    gi_wp2
    have k1 : Kept (fun k => k ≠ w.heap.size) W2 (W2.setCell ⟨w.heap.size, 0, none⟩ (.int .i64 ((pre.length : Int) + 1))) := Kept.setCell (Kept.rfl_ _ _) (by simp) _
    have hl1 : ((pre ++ [x]).length : Int) = (pre.length : Int) + 1 := by simp
    refine ⟨⟨?_, ?_, k1.ext_of i3 (fun k hk => by omega), Nat.le_trans i4 k1.size, i5⟩, ?_⟩
    · rw [hl1]; exact World.cell?_setCell_same' _ _ _ (by rw [i1]; rfl)
    · rw [World.frozen?_setCell]; exact i2
    · refine k1.mono fun k hk => ?_
      rcases hk with h | h
      · have := i5 k h; omega
      · exact h.2
  · intro T Wd hI hD
    obtain ⟨i1, i2, i3, i4, i5⟩ := hI
    gi_wp2
    refine ⟨by simp, .inl ⟨_, _, rfl, run_takeDeferred hD, ?_⟩⟩
    have k2 := Kept.putObj (fun k => k ≠ W5.heap.size) Wd W5.heap.size (.deferred none) (by simp)
    refine ⟨.bool (((ris none xs).length : Int) == (n : Int)), ?_, rfl, ?_⟩
    · simp [results, Try.f35, go_sem]
    · exact k2.ext_of i3 (fun k hk => by omega)
  · rintro code pre T Wd hp h hD
    exact h.elim

end Go.Proofs.Ytpohmoakilioiaa
