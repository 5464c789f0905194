/- Numbers of four bytes. Conditions: none. -/
import Derived.Test.YteooaplimiifiaaGreatWireA
import Derived.Lib.EndianBits
namespace Go.Proofs.YteooaplimiifiaaGreat
set_option linter.unusedSimpArgs false
set_option linter.unusedVariables false
set_option maxRecDepth 100000
open Go.RowKit

/-- Four bytes, the highest first. -/
def w4 (n : Nat) : Bs := [UInt8.ofNat (n / 16777216), UInt8.ofNat (n / 65536), UInt8.ofNat (n / 256), UInt8.ofNat n]
def un4 (x : Bs) : Nat := match x with | [a, b, c, d] => a.toNat * 16777216 + b.toNat * 65536 + c.toNat * 256 + d.toNat | _ => 0
theorem w4_len (n : Nat) : (w4 n).length = 4 := rfl
theorem un4_w4 {n : Nat} (h : n < 4294967296) : un4 (w4 n) = n := by
  unfold un4 w4
  simp only [UInt8.toNat_ofNat']
  omega

theorem own4 (n : Nat) {w : World} : OwnB (w.alloc (.cells #[.int .u8 ((n : Int) / 16777216 % 256), .int .u8 ((n : Int) / 65536 % 256), .int .u8 ((n : Int) / 256 % 256), .int .u8 ((n : Int) % 256)] 5)) w.heap.size (.slice (some ⟨w.heap.size, 0, none⟩) 4 4) (w4 n) := by
  have h := World.ownsRow_lit (e := 5) (size := 1) (base := w.heap.size) w #[.int .u8 ((n : Int) / 16777216 % 256), .int .u8 ((n : Int) / 65536 % 256), .int .u8 ((n : Int) / 256 % 256), .int .u8 ((n : Int) % 256)] 4 (Nat.le_refl _) (by decide) rfl
  unfold OwnB byV w4
  have e1 : ((UInt8.ofNat (n / 16777216)).toNat : Int) = (n : Int) / 16777216 % 256 := by rw [UInt8.toNat_ofNat']; omega
  have e2 : ((UInt8.ofNat (n / 65536)).toNat : Int) = (n : Int) / 65536 % 256 := by rw [UInt8.toNat_ofNat']; omega
  have e3 : ((UInt8.ofNat (n / 256)).toNat : Int) = (n : Int) / 256 % 256 := by rw [UInt8.toNat_ofNat']; omega
  have e4 : ((UInt8.ofNat n).toNat : Int) = (n : Int) % 256 := by rw [UInt8.toNat_ofNat']; omega
  simp only [List.map_cons, List.map_nil, e1, e2, e3, e4]
  exact h
theorem u8lt (p : UInt8) : p.toNat < 256 := UInt8.toNat_lt p
theorem un4_bits (p0 p1 p2 p3 : UInt8) : wrap64 (bits BinOp.or IntKind.u32 (bits BinOp.or IntKind.u32 (bits BinOp.or IntKind.u32 (p0.toNat % 4294967296 * 16777216 % 4294967296) (p1.toNat % 4294967296 * 65536 % 4294967296)) (p2.toNat % 4294967296 * 256 % 4294967296)) (p3.toNat % 4294967296)) = (un4 [p0, p1, p2, p3] : Nat) := by
  have h0 := u8lt p0
  have h1 := u8lt p1
  have h2 := u8lt p2
  have h3 := u8lt p3
  obtain ⟨a, ha⟩ : ∃ a, a = p0.toNat := ⟨_, rfl⟩
  obtain ⟨b, hb⟩ : ∃ a, a = p1.toNat := ⟨_, rfl⟩
  obtain ⟨c, hc⟩ : ∃ a, a = p2.toNat := ⟨_, rfl⟩
  obtain ⟨d, hd⟩ : ∃ a, a = p3.toNat := ⟨_, rfl⟩
  unfold un4
  simp only [← ha, ← hb, ← hc, ← hd] at *
  rw [bits_join .u32 32 (by decide) wraps_u32 24 ((a : Int) % 4294967296 * 16777216 % 4294967296) ((b : Int) % 4294967296 * 65536 % 4294967296) (by omega) (by omega) (by omega) (by omega) (by omega) (by omega)]
  rw [bits_join .u32 32 (by decide) wraps_u32 16 ((a : Int) % 4294967296 * 16777216 % 4294967296 + (b : Int) % 4294967296 * 65536 % 4294967296) ((c : Int) % 4294967296 * 256 % 4294967296) (by omega) (by omega) (by omega) (by omega) (by omega) (by omega)]
  rw [bits_join .u32 32 (by decide) wraps_u32 8 ((a : Int) % 4294967296 * 16777216 % 4294967296 + (b : Int) % 4294967296 * 65536 % 4294967296 + (c : Int) % 4294967296 * 256 % 4294967296) ((d : Int) % 4294967296) (by omega) (by omega) (by omega) (by omega) (by omega) (by omega)]
  unfold wrap64
  omega
theorem w64 {n : Int} (h0 : 0 ≤ n) (h1 : n < 9223372036854775808) : wrap64 n = n := by unfold wrap64; omega
theorem un4_sum (p0 p1 p2 p3 : UInt8) : wrap64 (wrap64 (wrap64 (wrap64 (wrap64 p0.toNat * 16777216) + wrap64 (wrap64 p1.toNat * 65536)) + wrap64 (wrap64 p2.toNat * 256)) + wrap64 p3.toNat) = (un4 [p0, p1, p2, p3] : Nat) := by
  have h0 := u8lt p0
  have h1 := u8lt p1
  have h2 := u8lt p2
  have h3 := u8lt p3
  obtain ⟨a, ha⟩ : ∃ a, a = p0.toNat := ⟨_, rfl⟩
  obtain ⟨b, hb⟩ : ∃ a, a = p1.toNat := ⟨_, rfl⟩
  obtain ⟨c, hc⟩ : ∃ a, a = p2.toNat := ⟨_, rfl⟩
  obtain ⟨d, hd⟩ : ∃ a, a = p3.toNat := ⟨_, rfl⟩
  unfold un4
  simp only [← ha, ← hb, ← hc, ← hd] at *
  rw [w64 (n := (a : Int)) (by omega) (by omega), w64 (n := (b : Int)) (by omega) (by omega), w64 (n := (c : Int)) (by omega) (by omega), w64 (n := (d : Int)) (by omega) (by omega)]
  rw [w64 (n := (a : Int) * 16777216) (by omega) (by omega), w64 (n := (b : Int) * 65536) (by omega) (by omega), w64 (n := (c : Int) * 256) (by omega) (by omega)]
  rw [w64 (n := (a : Int) * 16777216 + (b : Int) * 65536) (by omega) (by omega)]
  rw [w64 (n := (a : Int) * 16777216 + (b : Int) * 65536 + (c : Int) * 256) (by omega) (by omega)]
  rw [w64 (by omega) (by omega)]
  omega
theorem ret_i {a b : Int} (h : a = b) : Ending.returned (.int .i64 a) = Ending.returned (.int .i64 b) := by rw [h]
end Go.Proofs.YteooaplimiifiaaGreat
