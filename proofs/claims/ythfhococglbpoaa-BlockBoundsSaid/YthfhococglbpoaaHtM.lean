/- The height of a tower, plainly; two operations of 32 bits. Conditions: none. -/
import Derived.Test.YthfhococglbpoaaMath
import Derived.Laws.BitsAllLaws
namespace Go.Proofs.Ythfhococglbpoaa
set_option linter.unusedSimpArgs false
set_option linter.unusedVariables false
open Go.RowKit

def mixH (h c : Nat) : Nat := ((h ^^^ c) * 16777619) % 4294967296
def seqB (s : Int) (i : Nat) : Nat := ((s % 18446744073709551616).toNat / 2 ^ (8 * i)) % 256
def hsK (x : Bs) : Nat := x.foldl (fun h c => mixH h c.toNat) 2166136261
def hsS (s : Int) (h : Nat) : Nat → Nat
  | 0 => h
  | k + 1 => mixH (hsS s h k) (seqB s (7 - k))
def tow : Nat → Nat → Nat
  | 0, _ => 0
  | f + 1, h => if h % 4 = 0 then tow f (h / 4) + 1 else 0
def htH (k : Bs) (s : Int) : Nat := 1 + tow 7 (hsS s (hsK k) 8)
def ht (x : Ent) : Nat := htH x.key x.seq

theorem mixH_lt (h c : Nat) : mixH h c < 4294967296 := Nat.mod_lt _ (by decide)
theorem seqB_lt (s : Int) (i : Nat) : seqB s i < 256 := Nat.mod_lt _ (by decide)
theorem hsF_lt (x : Bs) (h : Nat) (hh : h < 4294967296) : x.foldl (fun h c => mixH h c.toNat) h < 4294967296 := by
  induction x generalizing h with
  | nil => exact hh
  | cons c x ih => exact ih _ (mixH_lt _ _)
theorem hsK_lt (x : Bs) : hsK x < 4294967296 := by unfold hsK; exact hsF_lt x _ (by omega)
theorem hsF_snoc (x : Bs) (c : UInt8) (h : Nat) : (x ++ [c]).foldl (fun h c => mixH h c.toNat) h = mixH (x.foldl (fun h c => mixH h c.toNat) h) c.toNat := by
  rw [List.foldl_append, List.foldl_cons, List.foldl_nil]
theorem hsK_nil : hsK [] = 2166136261 := by unfold hsK; rw [List.foldl_nil]
theorem hsK_nilI : ((hsK [] : Nat) : Int) = 2166136261 := by rw [hsK_nil]; rfl
theorem hsK_snoc (x : Bs) (c : UInt8) : hsK (x ++ [c]) = mixH (hsK x) c.toNat := hsF_snoc x c _
theorem hsS_lt (s : Int) (h k : Nat) (hh : h < 4294967296) : hsS s h k < 4294967296 := by
  cases k with
  | zero => exact hh
  | succ k => exact mixH_lt _ _
theorem tow_le (f h : Nat) : tow f h ≤ f := by
  induction f generalizing h with
  | zero => exact Nat.le_refl _
  | succ f ih =>
    unfold tow
    split
    · have := ih (h / 4); omega
    · omega
theorem htH_le (k : Bs) (s : Int) : 1 ≤ htH k s ∧ htH k s ≤ 8 := by
  unfold htH
  generalize hsS s (hsK k) 8 = z
  have := tow_le 7 z
  omega

theorem u32_mix (h c : Nat) (hh : h < 4294967296) (hc : c < 256) : IntKind.u32.wrap (bits .xor .u32 (h : Int) (c : Int) * 16777619) = ((mixH h c : Nat) : Int) := by
  rw [u32_xor_nat h c hh (by omega), IntKind.wrap_u32]
  unfold mixH
  omega
theorem u32_mixm (h c : Nat) (hh : h < 4294967296) (hc : c < 256) : bits .xor .u32 (h : Int) ((c : Int) % 4294967296) * 16777619 % 4294967296 = ((mixH h c : Nat) : Int) := by
  have := u32_mix h c hh hc
  rw [IntKind.wrap_u32] at this
  rw [show (c : Int) % 4294967296 = (c : Int) by omega]
  exact this
theorem seqB_int (s : Int) (i : Nat) : IntKind.u64.wrap s / 2 ^ (8 * i) % 256 = ((seqB s i : Nat) : Int) := by
  have h0 : 0 ≤ s % 18446744073709551616 := Int.emod_nonneg _ (by decide)
  rw [IntKind.wrap_u64]
  unfold seqB
  rw [Int.natCast_emod, Int.natCast_ediv, Int.toNat_of_nonneg h0, Int.natCast_pow]
  rfl
theorem u32_mixs (h : Nat) (s : Int) (i : Nat) (hh : h < 4294967296) : bits .xor .u32 (h : Int) (IntKind.u64.wrap s / 2 ^ (8 * i) % 256) * 16777619 % 4294967296 = ((mixH h (seqB s i) : Nat) : Int) := by
  have := u32_mix h (seqB s i) hh (seqB_lt s i)
  rw [IntKind.wrap_u32] at this
  rw [seqB_int]
  exact this
theorem tow_go {i z n : Nat} (hi : i < 7) (hz : z % 4 = 0) (h : n = i + tow (7 - i) z) : n = (i + 1) + tow (7 - (i + 1)) (z / 4) := by
  obtain ⟨f, hf⟩ : ∃ f, 7 - i = f + 1 := ⟨6 - i, by omega⟩
  rw [h, hf, show 7 - (i + 1) = f by omega, tow, if_pos hz]
  omega
theorem tow_end {i z n : Nat} (hz : ¬ (i < 7 ∧ z % 4 = 0)) (hi : i ≤ 7) (h : n = i + tow (7 - i) z) : n = i := by
  by_cases h7 : i < 7
  · obtain ⟨f, hf⟩ : ∃ f, 7 - i = f + 1 := ⟨6 - i, by omega⟩
    rw [h, hf, tow, if_neg (fun e => hz ⟨h7, e⟩)]
    rfl
  · rw [h, show 7 - i = 0 by omega]; rfl
theorem u32_and3 (h : Nat) (hh : h < 4294967296) : bits .and .u32 (h : Int) 3 = ((h % 4 : Nat) : Int) := by
  rw [show (3 : Int) = ((3 : Nat) : Int) from rfl, u32_and_nat h 3 hh (by omega), nat_mask2]

end Go.Proofs.Ythfhococglbpoaa
