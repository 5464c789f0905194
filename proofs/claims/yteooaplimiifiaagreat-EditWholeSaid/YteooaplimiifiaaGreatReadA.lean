/- Contract of wire's form: the number that bytes begin with. Conditions: the slice reads. -/
import Derived.Test.YteooaplimiifiaaGreatWireA
import Derived.Test.YteooaplimiifiaaGreatReadM
import Derived.Deep.LoopGhost
namespace Go.Proofs.YteooaplimiifiaaGreat
set_option linter.unusedSimpArgs false
set_option linter.unusedVariables false
set_option maxRecDepth 100000
open Go.RowKit

theorem formR_none {x : Bs} (h : getN x = none) : formR x = (0, 0) := by unfold formR; rw [h]
theorem formR_some {x : Bs} {v : Nat} {r : Bs} (h : getN x = some (v, r)) : formR x = (v, x.length - r.length) := by unfold formR; rw [h]

theorem ret_uv {a b c d : Int} (h1 : a = c) (h2 : b = d) : Ending.returned (.tuple #[.int .u64 a, .int .i64 b]) = Ending.returned (.tuple #[.int .u64 c, .int .i64 d]) := by rw [h1, h2]
theorem u64_eq {a b : Int} (h : a = b) : Value.int .u64 a = Value.int .u64 b := by rw [h]
theorem pow_le {k : Nat} (h : k ≤ 9) : 128 ^ k ≤ 9223372036854775808 := Nat.le_trans (Nat.pow_le_pow_right (by omega) h) (by decide)

set_option maxRecDepth 100000 in
set_option maxHeartbeats 4000000 in
theorem form_any (A : Option Addr) (n c : Nat) (x : Bs) (w : World) (hx : Rd w A n x) (hn : n ≤ B40) :
    Calls Tryz.prog 100 #[.slice A n c] w fun e w' => e = .returned (.tuple #[.int .u64 (formR x).1, .int .i64 (formR x).2]) ∧ w = w' := by
  have hl := hx.1
  unfold B40 at hn
  have HX := Lib.hid hx
  have HL := Lib.hid hl
  clear hx hl
  go_enter Tryz.func100, Tryz.ntmps100
  go_wp2
  go_step3
  go_wp2
  go_step3
  go_wp2
  go_loop [2, 4, 10] (fun a t i => ∃ k acc W : Nat, k ≤ n ∧ k ≤ 9 ∧ i = .int .i64 k ∧ a = .int .u64 acc ∧ t = .int .u64 W ∧ Hid (W = 128 ^ k) ∧ acc < W ∧ W ≤ 9223372036854775808 ∧ Hid (getN x = glue k acc (getF (10 - k) (x.drop k)))) (fun _ _ i => n - (intOf i).toNat)
  case atStart => exact ⟨0, 0, 1, Nat.zero_le _, by omega, rfl, rfl, rfl, Lib.hid rfl, by omega, by omega, Lib.hid (glue_zero _)⟩
  case round =>
    obtain ⟨k, acc, W, hk, hk9, rfl, rfl, rfl, HW, hacc, hW, HG⟩ := hrel
    by_cases hlt : k < n
    · have hlt' : (k : Int) < (n : Int) := by omega
      obtain ⟨b, o, rfl, hcell⟩ := HX.out.at_ (by omega)
      have hkx : k < x.length := by rw [HL.out]; exact hlt
      have hc := hcell k hkx
      have hdrop : x.drop k = x[k] :: x.drop (k + 1) := List.drop_eq_getElem_cons hkx
      have HG2 : Hid (getN x = glue k acc (getF (10 - k) (x[k] :: x.drop (k + 1)))) := by
        have := HG.out; rw [hdrop] at this; exact this
      clear HG hdrop hcell
      obtain ⟨y, hy⟩ : ∃ y, y = x[k] := ⟨_, rfl⟩
      rw [← hy] at hc HG2
      have hy256 := byte_mod y
      clear hy
      obtain ⟨v, hv⟩ : ∃ v, v = y.toNat := ⟨_, rfl⟩
      rw [← hv] at hc hy256
      have HV := Lib.hid hv
      clear hv
      by_cases h9 : k = 9
      · subst h9
        have h9b : ((9 : Nat) : Int) = 9 := rfl
        by_cases h1 : (1 : Int) < (v : Int)
        · have hz : getN x = none := by rw [HG2.out, getF_big (f := 0) (by rw [← HV.out]; omega)]; rfl
          have HZ := Lib.hid (formR_none hz)
          clear hz
          go_wp2
          (try rw [Exit.noGoto_ret])
          go_ret2
          exact ⟨by rw [HZ.out]; rfl, rfl⟩
        · by_cases h0 : v = 0
          · subst h0
            have hz : getN x = none := by rw [HG2.out, getF_zero (f := 0) (by omega) (by rw [← HV.out])]; rfl
            have HZ := Lib.hid (formR_none hz)
            clear hz
            go_wp2
            (try rw [Exit.noGoto_ret])
            go_ret2
            exact ⟨by rw [HZ.out]; rfl, rfl⟩
          · obtain rfl : v = 1 := by omega
            have hz : getN x = some (acc + 128 ^ 9 * 1, x.drop (9 + 1)) := by
              have e1 : y.toNat = 1 := HV.out.symm
              rw [HG2.out, getF_end (by omega) (by omega) (by omega), glue_some, e1]
            have HZ := Lib.hid (formR_some hz)
            clear hz
            go_wp2
            (try rw [Exit.noGoto_ret])
            go_ret2
            exact ⟨by
              rw [HZ.out]
              exact ret_uv (by dsimp only; rw [Nat.mul_one, ← HW.out]; omega) (by dsimp only; rw [List.length_drop, HL.out]; omega), rfl⟩
      · have hk8 : k ≤ 8 := by omega
        have hW8 : W ≤ 72057594037927936 := by rw [HW.out]; exact Nat.le_trans (Nat.pow_le_pow_right (by omega) hk8) (by decide)
        have hPn : (v % 128) * W ≤ 127 * 72057594037927936 := Nat.mul_le_mul (by omega) hW8
        have hP1 : 0 ≤ ((v : Int) % 128) * (W : Int) := Int.mul_nonneg (by omega) (by omega)
        have hP2 : ((v : Int) % 128) * (W : Int) ≤ 9151314442816847872 := by
          have : (((v % 128) * W : Nat) : Int) ≤ 9151314442816847872 := by omega
          simpa using this
        have hP3 : Hid ((((v % 128) * W : Nat) : Int) = ((v : Int) % 128) * (W : Int)) := Lib.hid (by simp)
        clear hPn
        have h9f : ((k : Int) == 9) = false := by simp; omega
        have hf : 10 - k = (9 - k) + 1 := by omega
        have HF := Lib.hid hf
        clear hf
        by_cases hk0 : (0 : Int) < (k : Int)
        · by_cases h0 : v = 0
          · subst h0
            have hz : getN x = none := by rw [HG2.out, HF.out, getF_zero (by omega) (by rw [← HV.out])]; rfl
            have HZ := Lib.hid (formR_none hz)
            clear hz
            go_wp2
            (try rw [Exit.noGoto_ret])
            go_ret2
            exact ⟨by rw [HZ.out]; rfl, rfl⟩
          · have h0f : ((v : Int) == 0) = false := by simp; omega
            by_cases h128 : (v : Int) < 128
            · have hz : getN x = some (acc + 128 ^ k * v, x.drop (k + 1)) := by
                rw [HG2.out, HF.out, getF_end (by omega) (by rw [← HV.out]; omega) (by rw [← HV.out]; omega), glue_some, ← HV.out]
              have HZ := Lib.hid (formR_some hz)
              clear hz
              go_wp2
              (try rw [Exit.noGoto_ret])
              go_ret2
              exact ⟨by
                rw [HZ.out]
                exact ret_uv (by
                  dsimp only
                  have e : (v : Int) % 128 = (v : Int) := by omega
                  rw [e, ← HW.out, Nat.mul_comm, Int.natCast_add, Int.natCast_mul]) (by dsimp only; rw [List.length_drop, HL.out]; omega), rfl⟩
            · go_wp2
              go_round
              case rel =>
                refine ⟨k + 1, acc + W * (v % 128), W * 128, by omega, by omega, by go_num, ?_, u64_eq (by omega), Lib.hid (by rw [HW.out, Nat.pow_succ]), ?_, by omega, Lib.hid ?_⟩
                · exact u64_eq (by rw [Nat.mul_comm W, Int.natCast_add, hP3.out])
                · have := Nat.mul_le_mul_left W (show v % 128 ≤ 127 by omega)
                  omega
                · rw [HG2.out, HF.out, getF_more (by omega) (by rw [← HV.out]; omega), ← HV.out, ← HW.out]
                  congr 2
                  omega
              case measure => simp [intOf]; omega
        · by_cases h128 : (v : Int) < 128
          · have hz : getN x = some (acc + 128 ^ k * v, x.drop (k + 1)) := by
              rw [HG2.out, HF.out, getF_end (by omega) (by rw [← HV.out]; omega) (by rw [← HV.out]; omega), glue_some, ← HV.out]
            have HZ := Lib.hid (formR_some hz)
            clear hz
            go_wp2
            (try rw [Exit.noGoto_ret])
            go_ret2
            exact ⟨by
              rw [HZ.out]
              exact ret_uv (by
                dsimp only
                have e : (v : Int) % 128 = (v : Int) := by omega
                rw [e, ← HW.out, Nat.mul_comm, Int.natCast_add, Int.natCast_mul]) (by dsimp only; rw [List.length_drop, HL.out]; omega), rfl⟩
          · go_wp2
            go_round
            case rel =>
              refine ⟨k + 1, acc + W * (v % 128), W * 128, by omega, by omega, by go_num, ?_, u64_eq (by omega), Lib.hid (by rw [HW.out, Nat.pow_succ]), ?_, by omega, Lib.hid ?_⟩
              · exact u64_eq (by rw [Nat.mul_comm W, Int.natCast_add, hP3.out])
              · have := Nat.mul_le_mul_left W (show v % 128 ≤ 127 by omega)
                omega
              · rw [HG2.out, HF.out, getF_more (by omega) (by rw [← HV.out]; omega), ← HV.out, ← HW.out]
                congr 2
                omega
            case measure => simp [intOf]; omega
    · obtain rfl : k = n := by omega
      have hz : getN x = none := by
        rw [HG.out, List.drop_eq_nil_of_le (by rw [HL.out]; exact Nat.le_refl _), getF_nil]; rfl
      have HZ := Lib.hid (formR_none hz)
      clear hz
      go_wp2
      (try rw [Exit.noGoto_ret])
      go_ret2
      exact ⟨by rw [HZ.out]; rfl, rfl⟩

end Go.Proofs.YteooaplimiifiaaGreat
