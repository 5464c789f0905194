/- The plain words of reading: a number's form that bytes begin with. Conditions: none. No program here. -/
import Derived.Test.YteooaplimiifiaaGreatWireM
namespace Go.Proofs.YteooaplimiifiaaGreat
set_option linter.unusedSimpArgs false
set_option linter.unusedVariables false
set_option maxRecDepth 100000

/-- The number that bytes begin with, in a form of at most f bytes, and what is behind it. The first byte may be 0 just at f = 10. -/
def getF : Nat → Bs → Option (Nat × Bs)
  | 0, _ => none
  | _ + 1, [] => none
  | f + 1, c :: r =>
    if c.toNat < 128 then (if (f = 0 ∧ 1 < c.toNat) ∨ (f ≠ 9 ∧ c.toNat = 0) then none else some (c.toNat, r))
    else if f = 0 then none else (getF f r).map fun p => (c.toNat % 128 + 128 * p.1, p.2)
def getN (x : Bs) : Option (Nat × Bs) := getF 10 x

def glue (k acc : Nat) (o : Option (Nat × Bs)) : Option (Nat × Bs) := o.map fun p => (acc + 128 ^ k * p.1, p.2)
theorem glue_zero (o : Option (Nat × Bs)) : o = glue 0 0 o := by cases o <;> simp [glue]
theorem glue_none (k acc : Nat) : glue k acc none = none := rfl
theorem glue_some (k acc v : Nat) (r : Bs) : glue k acc (some (v, r)) = some (acc + 128 ^ k * v, r) := rfl

theorem getF_nil (f : Nat) : getF f [] = none := by cases f <;> rfl
theorem getF_big {f : Nat} {c : UInt8} {r : Bs} (hc : 1 < c.toNat) : getF 1 (c :: r) = none := by
  unfold getF; simp [hc]
theorem getF_zero {f : Nat} {c : UInt8} {r : Bs} (hf : f ≠ 9) (hc : c.toNat = 0) : getF (f + 1) (c :: r) = none := by
  unfold getF; simp [hc, hf]
theorem getF_end {f : Nat} {c : UInt8} {r : Bs} (h1 : ¬ (f = 0 ∧ 1 < c.toNat)) (h2 : ¬ (f ≠ 9 ∧ c.toNat = 0)) (hc : c.toNat < 128) : getF (f + 1) (c :: r) = some (c.toNat, r) := by
  unfold getF; rw [if_pos hc, if_neg (by omega)]
theorem getF_more {f k acc : Nat} {c : UInt8} {r : Bs} (hf : f ≠ 0) (hc : ¬ c.toNat < 128) : glue k acc (getF (f + 1) (c :: r)) = glue (k + 1) (acc + 128 ^ k * (c.toNat % 128)) (getF f r) := by
  rw [getF, if_neg hc, if_neg hf]
  cases getF f r with
  | none => rfl
  | some p =>
    simp only [glue, Option.map_some]
    congr 2
    rw [Nat.pow_succ, Nat.mul_add, Nat.add_assoc, Nat.mul_assoc]

theorem getF_len {f : Nat} {x : Bs} {v : Nat} {r : Bs} (h : getF f x = some (v, r)) : r.length < x.length := by
  induction f generalizing x v with
  | zero => simp [getF] at h
  | succ f ih =>
    cases x with
    | nil => simp [getF] at h
    | cons c y =>
      unfold getF at h
      split at h
      · split at h
        · cases h
        · simp at h; rw [← h.2]; simp
      · split at h
        · cases h
        · cases hg : getF f y with
          | none => rw [hg] at h; simp at h
          | some p =>
            rw [hg] at h
            simp at h
            have := ih (v := p.1) (x := y) (by rw [hg, ← h.2])
            simp; omega

/-- What 'form' answers: the number, how many bytes. -/
def formR (x : Bs) : Nat × Nat := match getN x with | none => (0, 0) | some (v, r) => (v, x.length - r.length)

theorem byte_mod (c : UInt8) : c.toNat < 256 := c.toNat_lt

theorem getF_lt {f : Nat} {x : Bs} {v : Nat} {r : Bs} (hf : f ≤ 10) (h : getF f x = some (v, r)) : v < 128 ^ f ∧ (f ≤ 10 → v < 2 * 128 ^ (f - 1)) := by
  induction f generalizing x v with
  | zero => simp [getF] at h
  | succ f ih =>
    cases x with
    | nil => simp [getF] at h
    | cons c y =>
      unfold getF at h
      split at h
      · rename_i hc
        split at h
        · cases h
        · rename_i hn
          simp at h
          rcases f with _ | f
          · simp at hn
            constructor
            · rw [← h.1]; simpa using hc
            · intro _; rw [← h.1]; simp; omega
          · have h1 : 128 ^ 1 ≤ 128 ^ (f + 1) := Nat.pow_le_pow_right (by omega) (by omega)
            have h2 : 128 ^ (f + 1 + 1) = 128 ^ (f + 1) * 128 := Nat.pow_succ ..
            constructor
            · rw [← h.1]; omega
            · intro _; rw [← h.1]; simp only [Nat.add_sub_cancel]; omega
      · split at h
        · cases h
        · rename_i hf0
          cases hg : getF f y with
          | none => rw [hg] at h; simp at h
          | some p =>
            rw [hg] at h
            simp at h
            have := ih (v := p.1) (x := y) (by omega) (by rw [hg, ← h.2])
            obtain ⟨f, rfl⟩ : ∃ g, f = g + 1 := ⟨f - 1, by omega⟩
            have h2 : 128 ^ (f + 1 + 1) = 128 ^ (f + 1) * 128 := Nat.pow_succ ..
            have h3 : 128 ^ (f + 1) = 128 ^ f * 128 := Nat.pow_succ ..
            obtain ⟨t1, t2⟩ := this
            have t2 := t2 (by omega)
            simp only [Nat.add_sub_cancel] at t2 ⊢
            rw [← h.1]
            constructor
            · omega
            · intro _; omega

theorem getN_lt {x : Bs} {v : Nat} {r : Bs} (h : getN x = some (v, r)) : v < 18446744073709551616 := by
  have := (getF_lt (Nat.le_refl _) h).2 (Nat.le_refl _)
  have e : 2 * 128 ^ (10 - 1) = 18446744073709551616 := by decide
  omega

/-- The form of a number, and no more, is read as it. -/
theorem getF_numF {f n : Nat} {r : Bs} (hn : n < 128 ^ f) (h10 : f ≤ 10) (hb : n < 2 * 128 ^ (f - 1)) (hz : f ≠ 10 → 0 < n) : getF f (numF f n ++ r) = some (n, r) := by
  induction f generalizing n with
  | zero => simp at hn; subst hn; simp at hz
  | succ f ih =>
    by_cases h : n < 128
    · rw [numF_lt h]
      have e : (UInt8.ofNat n).toNat = n := by rw [UInt8.toNat_ofNat']; omega
      have := getF_end (f := f) (c := UInt8.ofNat n) (r := r) (by
        rw [e]; rintro ⟨rfl, h1⟩; simp at hb; omega) (by rw [e]; rintro ⟨h1, h2⟩; have := hz (by omega); omega) (by rw [e]; exact h)
      rw [List.singleton_append, this, e]
    · rw [numF_ge h, List.cons_append]
      have e : (UInt8.ofNat (128 + n % 128)).toNat = 128 + n % 128 := by rw [UInt8.toNat_ofNat']; omega
      have hf : f ≠ 0 := by
        rintro rfl; simp at hn; omega
      rw [getF, if_neg (by rw [e]; omega), if_neg hf]
      obtain ⟨g, rfl⟩ : ∃ g, f = g + 1 := ⟨f - 1, by omega⟩
      have p1 : 128 ^ (g + 1 + 1) = 128 ^ (g + 1) * 128 := Nat.pow_succ ..
      have p2 : 128 ^ (g + 1) = 128 ^ g * 128 := Nat.pow_succ ..
      simp only [Nat.add_sub_cancel] at hb
      rw [ih (n := n / 128) (by omega) (by omega) (by simp only [Nat.add_sub_cancel]; omega) (by intro _; omega)]
      simp only [Option.map_some, e]
      congr 2
      omega

theorem getN_numB {n : Nat} {r : Bs} (hn : n < 18446744073709551616) : getN (numB n ++ r) = some (n, r) := by
  have e : 2 * 128 ^ (10 - 1) = 18446744073709551616 := by decide
  have e2 : 18446744073709551616 < 128 ^ 10 := by decide
  exact getF_numF (by omega) (Nat.le_refl _) (by omega) (fun h => absurd rfl h)

/-- What is read is the form of what was read. -/
theorem numF_getF {f : Nat} {x : Bs} {v : Nat} {r : Bs} (h10 : f ≤ 10) (h : getF f x = some (v, r)) : x = numF f v ++ r ∧ (f ≠ 10 → 0 < v) := by
  induction f generalizing x v with
  | zero => simp [getF] at h
  | succ f ih =>
    cases x with
    | nil => simp [getF] at h
    | cons c y =>
      unfold getF at h
      split at h
      · rename_i hc
        split at h
        · cases h
        · rename_i hn
          simp at h
          obtain ⟨rfl, rfl⟩ := h
          rw [numF_lt hc]
          refine ⟨by simp, fun hf => ?_⟩
          omega
      · rename_i hc
        split at h
        · cases h
        · rename_i hf0
          cases hg : getF f y with
          | none => rw [hg] at h; simp at h
          | some p =>
            rw [hg] at h
            simp at h
            obtain ⟨e1, e2⟩ := ih (v := p.1) (x := y) (by omega) (by rw [hg, ← h.2])
            have hlt := byte_mod c
            obtain ⟨h1, h2⟩ := h
            have hp : 0 < p.1 := e2 (by omega)
            rw [← h1, numF_ge (by omega)]
            have q1 : (c.toNat % 128 + 128 * p.1) % 128 = c.toNat % 128 := by omega
            have q2 : (c.toNat % 128 + 128 * p.1) / 128 = p.1 := by omega
            have q3 : UInt8.ofNat (128 + c.toNat % 128) = c := by
              apply UInt8.toNat_inj.1
              rw [UInt8.toNat_ofNat']
              omega
            rw [q1, q2, q3, e1]
            exact ⟨rfl, fun _ => by omega⟩

theorem numB_getN {x : Bs} {v : Nat} {r : Bs} (h : getN x = some (v, r)) : x = numB v ++ r := (numF_getF (Nat.le_refl _) h).1

end Go.Proofs.YteooaplimiifiaaGreat
