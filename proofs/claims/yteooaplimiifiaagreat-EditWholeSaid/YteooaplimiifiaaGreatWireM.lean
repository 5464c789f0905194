/- The plain words of layer 1: a number's form, the form of bytes, and reading them. Conditions: none. No program here. -/
import Derived.Test.YteooaplimiifiaaGreatMath
namespace Go.Proofs.YteooaplimiifiaaGreat
set_option linter.unusedSimpArgs false
set_option linter.unusedVariables false
set_option maxRecDepth 100000

/-- A number's form, of at most so many bytes. -/
def numF : Nat → Nat → Bs
  | 0, _ => []
  | f + 1, n => if n < 128 then [UInt8.ofNat n] else UInt8.ofNat (128 + n % 128) :: numF f (n / 128)
def numB (n : Nat) : Bs := numF 10 n
def bytB (x : Bs) : Bs := numB x.length ++ x

theorem numF_length (f n : Nat) : (numF f n).length ≤ f := by
  induction f generalizing n with
  | zero => simp [numF]
  | succ f ih => unfold numF; split <;> simp; exact ih _
theorem numB_length (n : Nat) : (numB n).length ≤ 10 := numF_length 10 n

theorem numF_lt {f n : Nat} (h : n < 128) : numF (f + 1) n = [UInt8.ofNat n] := by rw [numF, if_pos h]
theorem numF_ge {f n : Nat} (h : ¬ n < 128) : numF (f + 1) n = UInt8.ofNat (128 + n % 128) :: numF f (n / 128) := by rw [numF, if_neg h]
theorem or128 : ∀ k : Fin 128, bits .or .u8 128 ((k.val : Nat) : Int) = 128 + ((k.val : Nat) : Int) := by decide +kernel
theorem or128m (m : Nat) : bits .or .u8 128 ((m : Int) % 128) = 128 + (m : Int) % 128 := by
  have := or128 ⟨m % 128, Nat.mod_lt _ (by omega)⟩
  simpa using this
theorem u8_add (m : Nat) : ((UInt8.ofNat (128 + m % 128)).toNat : Int) = 128 + (m : Int) % 128 := by
  rw [UInt8.toNat_ofNat']
  omega
theorem u8_of {m : Nat} (h : m < 128) : ((UInt8.ofNat m).toNat : Int) = (m : Int) := by
  rw [UInt8.toNat_ofNat']
  omega

end Go.Proofs.YteooaplimiifiaaGreat
