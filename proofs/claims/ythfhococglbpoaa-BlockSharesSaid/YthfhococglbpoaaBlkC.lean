/- Contracts of slices.Grow of nil and slices.Concat. Conditions: the pieces read as bytes, all together within the reach. -/
import Derived.Test.YthfhococglbpoaaWireJ
import Derived.Lib.AppendZerosOnto
namespace Go.Proofs.Ythfhococglbpoaa
set_option linter.unusedSimpArgs false
set_option linter.unusedVariables false
open Go.RowKit

set_option maxRecDepth 100000 in
set_option maxHeartbeats 1000000 in
theorem grow_nil (n : Nat) (w : World) (hn : n ≤ B47) :
    Calls Try.prog 73 #[.slice none 0 0, .int .i64 n] w fun e w' => ∃ v', e = .returned v' ∧ OwnB w' w.heap.size v' [] ∧ Ext w w' := by
  obtain ⟨i0, hi, hz0, hz1, hz2⟩ := info_parts Try.info5x
  unfold B47 at hn
  go_enter Try.func73, Try.ntmps73
  by_cases h0 : n = 0
  · subst h0
    go_wp2
    go_ret
    exact ⟨_, rfl, OwnB.nil _ _, Ext.rfl_ _⟩
  · have h1 : (0 : Int) < (n : Int) := by omega
    have hG := grownCap_ge w n 0 5
    have hM := grownCap_le_maxLen w n 0 5 (by unfold maxLen; omega)
    unfold grownCap at hG hM
    have hb : Try.t5.bytes = 1 := rfl
    have hc : Builtin.nextslicecap n 0 = n := by simp [Builtin.nextslicecap] <;> omega
    have hm : n * 1 ≤ 281474976710656 := by omega
    have hm2 : (n : Int) * (1 : Nat) ≤ 281474976710656 := by omega
    go_wp2
    all_goals (try (exfalso; rw [hc] at *; rw [hb] at *; omega))
    go_ret
    refine ⟨_, rfl, ?_, (by with_reducible (repeat (first | exact Ext.rfl_ _ | assumption | refine Ext.drew ?_ | refine Ext.drewN ?_ _ | refine Ext.alloc ?_ _ | refine Ext.trans ?_ (by assumption))))⟩
    obtain ⟨G, hGG⟩ : ∃ G, G = (Question.appendCap n 0 5).cut (w.tape w.drawn (Question.appendCap n 0 5)) := ⟨_, rfl⟩
    rw [← hGG] at hG hM ⊢
    refine ⟨rfl, .inr ⟨w.heap.size, G, _, rfl, Nat.le_refl _, heap_alloc_new w _, Nat.zero_le _, hM, ?_, by simp⟩⟩
    rw [Array.size_append, size_zeroCells, size_zeroCells]
    simp
    omega
set_option maxRecDepth 100000 in
set_option maxHeartbeats 1000000 in
theorem concat_any (A : Option Addr) (n c : Nat) (xs : List Bs) (w : World) (hx : RdBB w A n xs) (hn : n ≤ B40) (hs : xs.flatten.length ≤ B47) :
    Calls Try.prog 48 #[.slice A n c] w fun e w' => ∃ v', e = .returned v' ∧ OwnB w' w.heap.size v' xs.flatten ∧ Ext w w' := by
  have hl := hx.1
  unfold B40 at hn
  have HX := Lib.hid hx
  have HL := Lib.hid hl
  have hs' := hs
  unfold B47 at hs'
  clear hx hl
  go_enter Try.func48, Try.ntmps48
  go_wp2
  go_loop [3, 11] (fun s i => ∃ k : Nat, k ≤ n ∧ i = .int .i64 k ∧ s = .int .i64 (flen xs k)) (fun _ i => n - (intOf i).toNat)
  case atStart => exact ⟨0, Nat.zero_le _, rfl, rfl⟩
  case round =>
    obtain ⟨k, hk, rfl, rfl⟩ := hrel
    by_cases hlt : k < n
    · obtain ⟨b, o, A', n', c', x, rfl, hc, hxk, hr⟩ := HX.out.at_ hlt
      have hfl := flen_succ hxk
      have hle := flen_le xs (k + 1)
      have hxl := hr.1
      have HF := Lib.hid hfl
      have HXL := Lib.hid hxl
      have hb : flen xs k + n' ≤ 140737488351232 := by omega
      clear hfl hxl hle hxk
      go_wp2
      go_round
      case rel => exact ⟨k + 1, by omega, by go_num, by rw [HF.out, HXL.out]; go_num⟩
      case measure => simp [intOf]; omega
    · obtain rfl : k = n := by omega
      have hf : flen xs k = xs.flatten.length := by unfold flen; rw [List.take_of_length_le (by rw [HL.out]; exact Nat.le_refl _)]
      have HF := Lib.hid hf
      have hfs : flen xs k ≤ 140737488351232 := by omega
      clear hf
      go_wp2_with (go_at_call 73; refine (grow_nil (flen xs k) _ (by unfold B47; omega)).mono ?_; rintro e w1 ⟨v1, rfl, h1, hx1⟩)
      have HX1 := Lib.hid (HX.out.ext hx1)
      go_loopw [6, 27] (fun v i wr => ∃ j : Nat, j ≤ k ∧ i = .int .i64 j ∧ OwnB wr w.heap.size v (xs.take j).flatten ∧ Ext w wr) (fun _ i _ => k - (intOf i).toNat)
      case atStart => exact ⟨0, Nat.zero_le _, rfl, h1, hx1⟩
      case round =>
        obtain ⟨j, hj, rfl, hown, hext⟩ := hrel
        by_cases hjk : j < k
        · obtain ⟨b, o, A', n', c', x, rfl, hc, hxk, hr⟩ := (HX.out.ext hext).at_ hjk
          have hfl := flat_succ hxk
          have hle := flen_le xs (j + 1)
          have hxl := hr.1
          have hcat : (xs.take j).flatten.length + x.length ≤ B47 := by
            have : flen xs (j + 1) = (xs.take j).flatten.length + x.length := by unfold flen; rw [hfl, List.length_append]
            omega
          have HFL := Lib.hid hfl
          have HC := Lib.hid hcat
          have hlb := hown.out.lt
          have HR := Lib.hid hr
          clear hfl hle hxl hxk hcat hr
          obtain ⟨y, hy⟩ : ∃ y, y = (xs.take j).flatten := ⟨_, rfl⟩
          have HY := Lib.hid hy
          rw [← hy] at hown
          clear hy
          go_wp2_with (refine wp_app rfl _ _ rfl w.heap.size _ y rfl hown A' n' c' x rfl HR.out (by rw [HY.out]; exact HC.out) (Ext.size hext) ?_; intro v3 w3 h5 h6)
          go_roundw
          case rel => exact ⟨j + 1, by omega, by go_num, by rw [HFL.out, ← HY.out]; exact h5, hext.grown h6 (fun k hk => (hlb k hk).1)⟩
          case measure => simp [intOf]; omega
        · obtain rfl : j = k := by omega
          have hall : (xs.take j).flatten = xs.flatten := by rw [List.take_of_length_le (by rw [HL.out]; exact Nat.le_refl _)]
          rw [hall] at hown
          clear hall
          go_wp2
          go_ret
          exact ⟨_, rfl, hown, hext⟩
end Go.Proofs.Ythfhococglbpoaa
