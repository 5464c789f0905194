/- The plain words of the reference's reading. Conditions: none. No program here. -/
import Derived.Test.YtpohmoakilioiaaReadA
namespace Go.Proofs.Ytpohmoakilioiaa
set_option linter.unusedSimpArgs false
set_option linter.unusedVariables false

theorem lead {x : Bs} (k : Nat) (hk : k ≤ 9) (hkl : k ≤ x.length) (hb : ∀ j (h : j < k), 128 ≤ (x[j]'(by omega)).toNat) : ∃ acc, getN x = glue k acc (getF (10 - k) (x.drop k)) := by
  induction k with
  | zero => exact ⟨0, glue_zero _⟩
  | succ k ih =>
    obtain ⟨acc, h⟩ := ih (by omega) (by omega) (fun j hj => hb j (by omega))
    have hd : x.drop k = x[k] :: x.drop (k + 1) := List.drop_eq_getElem_cons (by omega)
    have e : 10 - k = (9 - k) + 1 := by omega
    have hc := hb k (by omega)
    rw [hd, e, getF_more (by omega) (by omega)] at h
    exact ⟨_, by rw [h, show 9 - k = 10 - (k + 1) from by omega]⟩

theorem w_long {x : Bs} (k : Nat) (hk : 9 < k) (hkl : k ≤ x.length) (hb : ∀ j (h : j < k), 128 ≤ (x[j]'(by omega)).toNat) : getN x = none := by
  obtain ⟨acc, h⟩ := lead (x := x) 9 (by omega) (by omega) (fun j hj => hb j (by omega))
  have hd : x.drop 9 = x[9] :: x.drop (9 + 1) := List.drop_eq_getElem_cons (by omega)
  have hc := hb 9 (by omega)
  rw [h, hd, show 10 - 9 = 1 from rfl, getF_big (f := 0) (by omega)]; rfl
theorem w_end {x : Bs} (hb : ∀ j (h : j < x.length), 128 ≤ (x[j]).toNat) : getN x = none := by
  by_cases h9 : 9 < x.length
  · exact w_long x.length h9 (Nat.le_refl _) hb
  · obtain ⟨acc, h⟩ := lead (x := x) x.length (by omega) (Nat.le_refl _) hb
    rw [h, List.drop_length, getF_nil]; rfl
theorem w_big {x : Bs} (hl : 9 < x.length) (hb : ∀ j (h : j < 9), 128 ≤ (x[j]'(by omega)).toNat) (hc : 1 < (x[9]).toNat) : getN x = none := by
  obtain ⟨acc, h⟩ := lead (x := x) 9 (by omega) (by omega) hb
  have hd : x.drop 9 = x[9] :: x.drop (9 + 1) := List.drop_eq_getElem_cons (by omega)
  rw [h, hd, show 10 - 9 = 1 from rfl, getF_big (f := 0) hc]; rfl
theorem w_zero {x : Bs} (k : Nat) (hk : k ≤ 9) (hk0 : 0 < k) (hl : k < x.length) (hb : ∀ j (h : j < k), 128 ≤ (x[j]'(by omega)).toNat) (hc : (x[k]).toNat = 0) : getN x = none := by
  obtain ⟨acc, h⟩ := lead (x := x) k hk (by omega) hb
  have hd : x.drop k = x[k] :: x.drop (k + 1) := List.drop_eq_getElem_cons (by omega)
  rw [h, hd, show 10 - k = (9 - k) + 1 from by omega, getF_zero (by omega) hc]; rfl
theorem w_ok {x : Bs} (k : Nat) (hk : k ≤ 9) (hl : k < x.length) (hb : ∀ j (h : j < k), 128 ≤ (x[j]'(by omega)).toNat) (hc : (x[k]).toNat < 128) (h9 : ¬ (k = 9 ∧ 1 < (x[k]).toNat)) (h0 : ¬ (0 < k ∧ (x[k]).toNat = 0)) :
    ∃ v, getN x = some (v, x.drop (k + 1)) := by
  obtain ⟨acc, h⟩ := lead (x := x) k hk (by omega) hb
  have hd : x.drop k = x[k] :: x.drop (k + 1) := List.drop_eq_getElem_cons (by omega)
  rw [hd, show 10 - k = (9 - k) + 1 from by omega, getF_end (by omega) (by omega) hc] at h
  exact ⟨_, h⟩

/-- The number that a form's bytes say. -/
def valF (l : Bs) : Nat := l.foldr (fun c n => c.toNat % 128 + 128 * n) 0
theorem valF_cons (c : UInt8) (l : Bs) : valF (c :: l) = c.toNat % 128 + 128 * valF l := rfl
theorem valF_drop_le (l : Bs) (k : Nat) : valF (l.drop k) ≤ valF l := by
  induction k generalizing l with
  | zero => exact Nat.le_refl _
  | succ k ih =>
    cases l with
    | nil => exact Nat.le_refl _
    | cons c l => rw [List.drop_succ_cons, valF_cons]; have := ih l; omega
theorem getF_val {f : Nat} {x : Bs} {v : Nat} {r : Bs} (h : getF f x = some (v, r)) : ∃ k, x = x.take k ++ r ∧ k ≤ x.length ∧ valF (x.take k) = v := by
  induction f generalizing x v with
  | zero => simp [getF] at h
  | succ f ih =>
    cases x with
    | nil => simp [getF] at h
    | cons c y =>
      unfold getF at h
      split at h
      · rename_i hc
        split at h
        · cases h
        · simp at h
          obtain ⟨rfl, rfl⟩ := h
          exact ⟨1, by simp, by simp, by simp [valF]; omega⟩
      · split at h
        · cases h
        · cases hg : getF f y with
          | none => rw [hg] at h; simp at h
          | some p =>
            rw [hg] at h
            simp at h
            obtain ⟨h1, h2⟩ := h
            obtain ⟨k, e, hl, hv⟩ := ih (v := p.1) (x := y) (by rw [hg, ← h2])
            refine ⟨k + 1, ?_, by simp; exact hl, ?_⟩
            · rw [List.take_succ_cons, List.cons_append, ← e]
            · rw [List.take_succ_cons, valF_cons, hv]; omega
theorem getN_val {x : Bs} {v : Nat} {r : Bs} (h : getN x = some (v, r)) : valF (x.take (x.length - r.length)) = v ∧ x.drop (x.length - r.length) = r := by
  obtain ⟨k, e, hl, hv⟩ := getF_val h
  have hr : x.length - r.length = k := by
    have := congrArg List.length e
    rw [List.length_append, List.length_take, Nat.min_eq_left hl] at this
    omega
  rw [hr]
  refine ⟨hv, ?_⟩
  have h2 : x.take k ++ x.drop k = x.take k ++ r := by rw [List.take_append_drop]; exact e
  exact List.append_cancel_left h2

end Go.Proofs.Ytpohmoakilioiaa
