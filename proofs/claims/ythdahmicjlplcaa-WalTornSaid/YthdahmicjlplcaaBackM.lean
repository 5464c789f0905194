/- Plain laws: what is written is read back; what is read is written so again. Conditions: none. No program here. -/
import Derived.Test.YthdahmicjlplcaaListR
import Derived.Test.YthdahmicjlplcaaListW
namespace Go.Proofs.Ythdahmicjlplcaa
set_option linter.unusedSimpArgs false
set_option linter.unusedVariables false

theorem getB_bytB {most : Nat} {y r : Bs} (h : y.length ≤ most) (hm : most < 18446744073709551616) : getB most (bytB y ++ r) = some (y, r) := by
  unfold getB bytB
  rw [List.append_assoc, getN_numB (by omega)]
  simp only
  rw [if_neg (by omega), if_neg (by simp)]
  simp
theorem bytB_getB {most : Nat} {x y r : Bs} (h : getB most x = some (y, r)) : x = bytB y ++ r ∧ y.length ≤ most := by
  unfold getB at h
  cases hN : getN x with
  | none => rw [hN] at h; cases h
  | some p =>
    obtain ⟨n, q⟩ := p
    rw [hN] at h
    simp only at h
    split at h
    · cases h
    · split at h
      · cases h
      · simp at h
        obtain ⟨rfl, rfl⟩ := h
        have hl : (q.take n).length = n := by rw [List.length_take]; omega
        refine ⟨?_, by omega⟩
        unfold bytB
        rw [hl, List.append_assoc, List.take_append_drop]
        exact numB_getN hN

theorem readE_entB {e : Ent} (hm : mayE e = true) : readE (entB e) = some e := by
  have hM := mayE_iff.1 hm
  obtain ⟨h1, h2, h3, h4, h5, h6⟩ := id hM
  have es : ((e.seq.toNat : Nat) : Int) = e.seq := by omega
  have ek : ((e.kind.toNat : Nat) : Int) = e.kind := by omega
  unfold readE entB
  rw [getB_bytB h2 (by decide)]
  simp only
  rw [getN_numB (by omega)]
  simp only
  rw [getN_numB (by omega)]
  simp only [es, ek]
  by_cases hk : e.kind = 1
  · have hb := getB_bytB (r := []) h5 (by decide)
    rw [List.append_nil] at hb
    have hkn : e.kind.toNat = 1 := by omega
    rw [if_pos hkn, if_pos hk, hb]
    exact if_pos ⟨rfl, hM⟩
  · have hkn : ¬ e.kind.toNat = 1 := by omega
    rw [if_neg hkn, if_neg hk]
    have hv : e.val = [] := List.eq_nil_of_length_eq_zero (by omega)
    have he : (⟨e.key, e.seq, e.kind, []⟩ : Ent) = e := by cases e; simp at hv; rw [hv]
    simp only [he]
    exact if_pos (by simp [hM])

theorem entB_readE {x : Bs} {e : Ent} (h : readE x = some e) : entB e = x ∧ mayE e = true := by
  unfold readE at h
  cases hB : getB 32 x with
  | none => rw [hB] at h; cases h
  | some p =>
    obtain ⟨key, r1⟩ := p
    rw [hB] at h
    simp only at h
    cases hN : getN r1 with
    | none => rw [hN] at h; cases h
    | some p =>
      obtain ⟨seq, r2⟩ := p
      rw [hN] at h
      simp only at h
      cases hK : getN r2 with
      | none => rw [hK] at h; cases h
      | some p =>
        obtain ⟨kind, r3⟩ := p
        rw [hK] at h
        simp only at h
        have e1 := (bytB_getB hB).1
        have e2 := numB_getN hN
        have e3 := numB_getN hK
        cases hV : (if kind = 1 then getB 65536 r3 else some ([], r3)) with
        | none => rw [hV] at h; cases h
        | some p =>
          obtain ⟨val, r4⟩ := p
          rw [hV] at h
          simp only at h
          split at h
          · rename_i hc
            obtain ⟨rfl, hM⟩ := hc
            simp at h
            subst h
            refine ⟨?_, mayE_iff.2 hM⟩
            unfold entB
            simp only [Int.toNat_natCast]
            rw [e1, e2, e3]
            congr 3
            by_cases hk : kind = 1
            · rw [if_pos hk] at hV
              have e4 := (bytB_getB hV).1
              subst hk
              rw [if_pos (by rfl), e4, List.append_nil]
            · rw [if_neg hk] at hV
              simp at hV
              rw [if_neg (by omega), ← hV.2]
          · cases h

theorem wrE_entB {e : Ent} (h : mayE e = true) : lstE e = bytB (entB e) := by unfold lstE; rw [wrE_yes h]
theorem getEs_list {xs : List Ent} {r : Bs} (hm : allMay xs = true) : getEs xs.length ((xs.map lstE).flatten ++ r) = some (xs, r) := by
  induction xs with
  | nil => rfl
  | cons e xs ih =>
    unfold allMay at hm
    rw [List.all_cons, Bool.and_eq_true] at hm
    have hl := wrE_len e
    rw [wrE_yes hm.1] at hl
    rw [List.length_cons, getEs, List.map_cons, List.flatten_cons, List.append_assoc, wrE_entB hm.1, getB_bytB (by omega) (by decide)]
    simp only
    rw [readE_entB hm.1]
    simp only
    rw [ih hm.2]; rfl
theorem list_getEs {k : Nat} {x : Bs} {l : List Ent} {r : Bs} (h : getEs k x = some (l, r)) : (l.map lstE).flatten ++ r = x ∧ allMay l = true := by
  induction k generalizing x l r with
  | zero => simp [getEs] at h; obtain ⟨rfl, rfl⟩ := h; exact ⟨rfl, rfl⟩
  | succ k ih =>
    rw [getEs] at h
    cases h1 : getB 65636 x with
    | none => rw [h1] at h; cases h
    | some p =>
      obtain ⟨y, q⟩ := p
      rw [h1] at h
      simp only at h
      cases h2 : readE y with
      | none => rw [h2] at h; cases h
      | some a =>
        rw [h2] at h
        simp only at h
        cases h3 : getEs k q with
        | none => rw [h3] at h; cases h
        | some p =>
          obtain ⟨l', r'⟩ := p
          rw [h3] at h
          simp at h
          obtain ⟨rfl, rfl⟩ := h
          obtain ⟨i1, i2⟩ := ih h3
          obtain ⟨j1, j2⟩ := entB_readE h2
          refine ⟨?_, by unfold allMay at *; rw [List.all_cons, j2, i2]; rfl⟩
          rw [List.map_cons, List.flatten_cons, List.append_assoc, i1, wrE_entB j2, j1]
          exact (bytB_getB h1).1.symm

theorem readL_lisB {xs : List Ent} (hl : xs.length ≤ 65536) (hm : allMay xs = true) : readL (lisB xs) = some xs := by
  refine readL_some ?_
  unfold lisB
  rw [getL_some (getN_numB (by omega)) (by omega)]
  have := getEs_list (r := []) hm
  rwa [List.append_nil] at this
theorem lisB_readL {x : Bs} {l : List Ent} (h : readL x = some l) : lisB l = x ∧ allMay l = true ∧ l.length ≤ 65536 := by
  unfold readL at h
  cases hG : getL x with
  | none => rw [hG] at h; cases h
  | some p =>
    obtain ⟨l', r⟩ := p
    rw [hG] at h
    simp only at h
    split at h
    · rename_i hr
      subst hr
      cases h
      have hlen := getL_len hG
      unfold getL at hG
      cases hN : getN x with
      | none => rw [hN] at hG; cases hG
      | some p =>
        obtain ⟨n, q⟩ := p
        rw [hN] at hG
        simp only at hG
        split at hG
        · cases hG
        · have h1 := getEs_len hG
          obtain ⟨h2, h3⟩ := list_getEs hG
          refine ⟨?_, h3, hlen⟩
          unfold lisB
          rw [List.append_nil] at h2
          rw [h1, h2]
          exact (numB_getN hN).symm
    · cases h

/-- What is read of what was written, and what is written of what was read. -/
theorem back_e {e : Ent} (h : wrN e = 0) : rdN (wrE e) = 0 ∧ rdE (wrE e) = e := by
  by_cases hm : mayE e = true
  · rw [wrE_yes hm]
    have := rd_ok (readE_entB hm)
    exact ⟨this.2, this.1⟩
  · rw [wrN_no hm] at h; cases h
theorem back_l {xs : List Ent} (h : wrLN xs = 0) : rdLN (wrL xs) = 0 ∧ rdL (wrL xs) = xs := by
  unfold wrLN at h
  split at h
  · rename_i hc
    unfold wrL
    rw [if_pos hc]
    have := rdL_ok (readL_lisB hc.1 hc.2)
    exact ⟨this.2, this.1⟩
  · cases h
theorem again_e {x : Bs} (h : rdN x = 0) : wrN (rdE x) = 0 ∧ wrE (rdE x) = x := by
  cases hr : readE x with
  | none => rw [(rd_bad hr).2] at h; cases h
  | some e =>
    obtain ⟨h1, h2⟩ := entB_readE hr
    rw [(rd_ok hr).1, wrN_yes h2, wrE_yes h2]
    exact ⟨rfl, h1⟩
theorem again_l {x : Bs} (h : rdLN x = 0) : wrLN (rdL x) = 0 ∧ wrL (rdL x) = x := by
  cases hr : readL x with
  | none => rw [(rdL_bad hr).2] at h; cases h
  | some l =>
    obtain ⟨h1, h2, h3⟩ := lisB_readL hr
    rw [(rdL_ok hr).1]
    unfold wrLN wrL
    rw [if_pos ⟨h3, h2⟩, if_pos ⟨h3, h2⟩]
    exact ⟨rfl, h1⟩

end Go.Proofs.Ythdahmicjlplcaa
