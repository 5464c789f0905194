/- Blocks, plainly: their bytes, and what reads them. Conditions: none. No program here. -/
import Derived.Test.YthfhococglbpoaaRise
import Derived.Test.YthfhococglbpoaaKeyR
namespace Go.Proofs.Ythfhococglbpoaa
set_option linter.unusedSimpArgs false
set_option linter.unusedVariables false

/-- How many first bytes two have the same. -/
def shr : Bs → Bs → Nat
  | a :: x, b :: y => if a = b then shr x y + 1 else 0
  | _, _ => 0
theorem shr_le (x y : Bs) : shr x y ≤ x.length ∧ shr x y ≤ y.length := by
  induction x generalizing y with
  | nil => cases y <;> simp [shr]
  | cons a x ih =>
    cases y with
    | nil => simp [shr]
    | cons b y =>
      simp only [shr]
      split
      · have := ih y; simp; omega
      · simp
theorem shr_take (x y : Bs) : x.take (shr x y) = y.take (shr x y) := by
  induction x generalizing y with
  | nil => cases y <;> simp [shr]
  | cons a x ih =>
    cases y with
    | nil => simp [shr]
    | cons b y =>
      simp only [shr]
      split
      · rename_i h; subst h; simp [ih y]
      · simp
theorem shr_at {x y : Bs} {k : Nat} (hx : k ≤ x.length) (hy : k ≤ y.length) (he : ∀ i (h1 : i < x.length) (h2 : i < y.length), i < k → x[i] = y[i]) (hn : ∀ (h1 : k < x.length) (h2 : k < y.length), x[k] ≠ y[k]) : shr x y = k := by
  induction x generalizing y k with
  | nil => simp at hx; subst hx; cases y <;> simp [shr]
  | cons a x ih =>
    cases y with
    | nil => simp at hy; subst hy; simp [shr]
    | cons b y =>
      simp only [shr]
      cases k with
      | zero =>
        have := hn (by simp) (by simp)
        simp at this
        rw [if_neg this]
      | succ k =>
        have h0 := he 0 (by simp) (by simp) (by omega)
        simp at h0
        rw [if_pos h0, ih (k := k) (by simpa using hx) (by simpa using hy) (fun i h1 h2 h3 => by have := he (i + 1) (by simpa using h1) (by simpa using h2) (by omega); simpa using this) (fun h1 h2 => by have := hn (by simpa using h1) (by simpa using h2); simpa using this)]

/-- An entry behind a key. -/
def blkE (p : Bs) (r : Bool) (e : Ent) : Bs :=
  numB (if r then 0 else shr p e.key) ++ (bytB (e.key.drop (if r then 0 else shr p e.key)) ++ (numB e.seq.toNat ++ (numB e.kind.toNat ++ if e.kind = 1 then bytB e.val else [])))
/-- The last key of a list, or p. -/
def keyL (p : Bs) (xs : List Ent) : Bs := match xs.getLast? with | none => p | some e => e.key
def bodF : Nat → Bs → List Ent → Bs
  | _, _, [] => []
  | i, p, e :: xs => blkE p (i % 4 == 0) e ++ bodF (i + 1) e.key xs
def posF : Nat → Nat → Bs → List Ent → List Nat
  | _, _, _, [] => []
  | i, o, p, e :: xs => (if i % 4 = 0 then [o] else []) ++ posF (i + 1) (o + (blkE p (i % 4 == 0) e).length) e.key xs
def bodB (xs : List Ent) : Bs := bodF 0 [] xs
def posB (xs : List Ent) : List Nat := posF 0 0 [] xs
/-- Four bytes, the highest first. -/
def w4 (n : Nat) : Bs := [UInt8.ofNat (n / 16777216), UInt8.ofNat (n / 65536), UInt8.ofNat (n / 256), UInt8.ofNat n]
def un4 (x : Bs) : Nat := match x with | [a, b, c, d] => a.toNat * 16777216 + b.toNat * 65536 + c.toNat * 256 + d.toNat | _ => 0
/-- The block. -/
def blkB (xs : List Ent) : Bs := bodB xs ++ (((posB xs).map w4).flatten ++ w4 (posB xs).length)
def riseB (xs : List Ent) : Bool := decide ((ris none xs).length = xs.length)
def mayL (xs : List Ent) : Bool := decide (1 ≤ xs.length ∧ xs.length ≤ 1024) && riseB xs
def IsBlk (b : Bs) (xs : List Ent) : Prop := mayL xs = true ∧ blkB xs = b

theorem keyL_nil (p : Bs) : keyL p [] = p := rfl
theorem keyL_snoc (p : Bs) (xs : List Ent) (e : Ent) : keyL p (xs ++ [e]) = e.key := by simp [keyL]
theorem keyL_cons (p : Bs) (e : Ent) (xs : List Ent) : keyL p (e :: xs) = keyL e.key xs := by
  cases xs with
  | nil => rfl
  | cons a xs => simp [keyL, List.getLast?_cons_cons]; rfl
theorem bodF_app (i : Nat) (p : Bs) (xs ys : List Ent) : bodF i p (xs ++ ys) = bodF i p xs ++ bodF (i + xs.length) (keyL p xs) ys := by
  induction xs generalizing i p with
  | nil => simp [bodF, keyL_nil]
  | cons e xs ih =>
    rw [List.cons_append, bodF, bodF, ih, List.append_assoc, keyL_cons, List.length_cons, show i + 1 + xs.length = i + (xs.length + 1) by omega]
theorem posF_app (i o : Nat) (p : Bs) (xs ys : List Ent) : posF i o p (xs ++ ys) = posF i o p xs ++ posF (i + xs.length) (o + (bodF i p xs).length) (keyL p xs) ys := by
  induction xs generalizing i o p with
  | nil => simp [posF, bodF, keyL_nil]
  | cons e xs ih =>
    rw [List.cons_append, posF, posF, ih, List.append_assoc, keyL_cons, List.length_cons, bodF, List.length_append, show i + 1 + xs.length = i + (xs.length + 1) by omega, Nat.add_assoc o]
theorem bodB_snoc (xs : List Ent) (e : Ent) : bodB (xs ++ [e]) = bodB xs ++ blkE (keyL [] xs) (xs.length % 4 == 0) e := by
  unfold bodB
  rw [bodF_app, Nat.zero_add]
  simp [bodF]
theorem posB_snoc (xs : List Ent) (e : Ent) : posB (xs ++ [e]) = posB xs ++ (if xs.length % 4 = 0 then [(bodB xs).length] else []) := by
  unfold posB bodB
  rw [posF_app, Nat.zero_add, Nat.zero_add]
  simp [posF]
theorem posF_len (i o : Nat) (p : Bs) (xs : List Ent) : (posF i o p xs).length = (i + xs.length + 3) / 4 - (i + 3) / 4 := by
  induction xs generalizing i o p with
  | nil => simp [posF]
  | cons e xs ih =>
    rw [posF, List.length_append, ih, List.length_cons]
    by_cases h : i % 4 = 0
    · rw [if_pos h]; simp; omega
    · rw [if_neg h]; simp; omega
theorem posB_len (xs : List Ent) : (posB xs).length = (xs.length + 3) / 4 := by
  unfold posB; rw [posF_len]; simp

theorem w4_len (n : Nat) : (w4 n).length = 4 := rfl
theorem un4_w4 {n : Nat} (h : n < 4294967296) : un4 (w4 n) = n := by
  unfold un4 w4
  simp only [UInt8.toNat_ofNat']
  omega
theorem flat4_len (l : List Nat) : ((l.map w4).flatten).length = 4 * l.length := by
  induction l with
  | nil => rfl
  | cons a l ih => rw [List.map_cons, List.flatten_cons, List.length_append, ih, w4_len, List.length_cons]; omega
theorem blkB_len (xs : List Ent) : (blkB xs).length = (bodB xs).length + (4 * (posB xs).length + 4) := by
  unfold blkB
  rw [List.length_append, List.length_append, flat4_len, w4_len]

/-- What of a block stands where. -/
theorem IsBlk.parts {b : Bs} {xs : List Ent} (h : IsBlk b xs) : 8 ≤ b.length ∧ un4 (b.drop (b.length - 4)) = (posB xs).length ∧ 1 ≤ (posB xs).length ∧ (posB xs).length ≤ 256 ∧ 4 * (posB xs).length + 4 ≤ b.length ∧ b.take (b.length - 4 - 4 * (posB xs).length) = bodB xs := by
  obtain ⟨h1, rfl⟩ := h
  unfold mayL at h1
  simp at h1
  obtain ⟨⟨h1, h2⟩, _⟩ := h1
  have hp := posB_len xs
  have hl := blkB_len xs
  refine ⟨by omega, ?_, by omega, by omega, by omega, ?_⟩
  · have e : (blkB xs).drop ((blkB xs).length - 4) = w4 (posB xs).length := by
      rw [hl]
      unfold blkB
      rw [← List.append_assoc, List.drop_append_of_le_length (by rw [List.length_append, flat4_len]; omega), List.drop_eq_nil_of_le (by rw [List.length_append, flat4_len]; omega), List.nil_append]
    rw [e]
    exact un4_w4 (by omega)
  · rw [hl]
    unfold blkB
    rw [List.take_append_of_le_length (by omega), List.take_of_length_le (by omega)]

theorem ris_mem {xs : List Ent} (h : riseB xs = true) : ∀ x ∈ xs, mayE x = true := by
  have key : ∀ (xs : List Ent) (p : Option Ent), (ris p xs).length = xs.length → ∀ x ∈ xs, mayE x = true := by
    intro xs
    induction xs with
    | nil => intro p _ x hx; simp at hx
    | cons a xs ih =>
      intro p hl x hx
      rw [ris] at hl
      split at hl
      · rename_i hb
        simp at hl
        rcases List.mem_cons.1 hx with rfl | hx
        · unfold behO at hb
          simp at hb
          exact hb.1
        · exact ih _ hl x hx
      · simp at hl
  unfold riseB at h
  exact key xs none (of_decide_eq_true h)
theorem IsBlk.may {b : Bs} {xs : List Ent} (h : IsBlk b xs) : ∀ x ∈ xs, mayE x = true := by
  have := h.1
  unfold mayL at this
  simp at this
  exact ris_mem this.2
theorem IsBlk.len {b : Bs} {xs : List Ent} (h : IsBlk b xs) : 1 ≤ xs.length ∧ xs.length ≤ 1024 := by
  have := h.1
  unfold mayL at this
  simp at this
  exact this.1

/-- The next entry of a block, and what is behind it. -/
def pEnt (p : Bs) (x : Bs) : Option (Ent × Bs) :=
  match getN x with
  | none => none
  | some (n, x1) => if p.length < n then none else match getB 32 x1 with
    | none => none
    | some (y, x2) => match getN x2 with
      | none => none
      | some (s, x3) => match getN x3 with
        | none => none
        | some (k, x4) => if 2147483647 < s ∨ 2 < k then none else if k = 1 then (match getB 65536 x4 with | none => none | some (v, x5) => some (⟨p.take n ++ y, s, 1, v⟩, x5)) else some (⟨p.take n ++ y, s, k, []⟩, x4)

theorem getB_bytB' {most : Nat} {y r : Bs} (h : y.length ≤ most) (hm : most < 18446744073709551616) : getB most (bytB y ++ r) = some (y, r) := by
  unfold getB bytB
  rw [List.append_assoc, getN_numB (by omega)]
  simp only
  rw [if_neg (by omega), if_neg (by simp)]
  simp
theorem pEnt_blkE {p t : Bs} {r : Bool} {e : Ent} (hm : mayE e = true) : pEnt p (blkE p r e ++ t) = some (e, t) := by
  have hM := mayE_iff.1 hm
  obtain ⟨h1, h2, h3, h4, h5, h6⟩ := id hM
  have es : ((e.seq.toNat : Nat) : Int) = e.seq := by omega
  have ek : ((e.kind.toNat : Nat) : Int) = e.kind := by omega
  obtain ⟨n, hn⟩ : ∃ n, n = (if r then 0 else shr p e.key) := ⟨_, rfl⟩
  have hs := shr_le p e.key
  have hnp : n ≤ p.length := by rw [hn]; split <;> omega
  have hnk : n ≤ e.key.length := by rw [hn]; split <;> omega
  have hkey : p.take n ++ e.key.drop n = e.key := by
    have : p.take n = e.key.take n := by
      rw [hn]; split
      · simp
      · exact shr_take _ _
    rw [this, List.take_append_drop]
  unfold pEnt blkE
  rw [← hn]
  simp only [List.append_assoc]
  rw [getN_numB (by omega)]
  simp only
  rw [if_neg (by omega), getB_bytB' (by rw [List.length_drop]; omega) (by decide)]
  simp only
  rw [getN_numB (by omega)]
  simp only
  rw [getN_numB (by omega)]
  simp only
  rw [if_neg (by omega), hkey]
  by_cases hk : e.kind = 1
  · rw [if_pos (by omega), if_pos hk, getB_bytB' h5 (by decide)]
    simp only [es]
    have he : (⟨e.key, e.seq, 1, e.val⟩ : Ent) = e := by cases e; simp at hk; rw [hk]
    rw [he]
  · rw [if_neg (by omega), if_neg hk, List.nil_append]
    have hv : e.val = [] := List.eq_nil_of_length_eq_zero (by omega)
    simp only [es, ek]
    have he : (⟨e.key, e.seq, e.kind, []⟩ : Ent) = e := by cases e; simp at hv; rw [hv]
    rw [he]

/-- What has been read of a body, if it is one. -/
def BodAt (b : Bs) (xs : List Ent) (r : Bs) : Prop := ∀ l, IsBlk b l → l.take xs.length = xs ∧ xs.length ≤ l.length ∧ r = bodF xs.length (keyL [] xs) (l.drop xs.length)
theorem BodAt.next {b r r' : Bs} {xs : List Ent} {e : Ent} (h : BodAt b xs r) (hp : pEnt (keyL [] xs) r = some (e, r')) : BodAt b (xs ++ [e]) r' := by
  intro l hl
  obtain ⟨h1, h2, h3⟩ := h l hl
  rcases Nat.lt_or_ge xs.length l.length with hlt | hge
  · have hd := List.drop_eq_getElem_cons hlt
    rw [hd, bodF] at h3
    rw [h3, pEnt_blkE (hl.may _ (List.getElem_mem hlt))] at hp
    simp at hp
    obtain ⟨rfl, rfl⟩ := hp
    refine ⟨?_, by simp; omega, ?_⟩
    · rw [List.length_append, List.length_singleton, List.take_succ_eq_append_getElem hlt, h1]
    · rw [List.length_append, List.length_singleton, keyL_snoc]
  · rw [List.drop_eq_nil_of_le hge, bodF] at h3
    subst h3
    simp [pEnt, getN, getF_nil] at hp
theorem BodAt.bad {b r : Bs} {xs : List Ent} (h : BodAt b xs r) (hp : pEnt (keyL [] xs) r = none) (hr : r ≠ []) : ∀ l, ¬ IsBlk b l := by
  intro l hl
  obtain ⟨h1, h2, h3⟩ := h l hl
  rcases Nat.lt_or_ge xs.length l.length with hlt | hge
  · rw [List.drop_eq_getElem_cons hlt, bodF] at h3
    rw [h3, pEnt_blkE (hl.may _ (List.getElem_mem hlt))] at hp
    cases hp
  · rw [List.drop_eq_nil_of_le hge, bodF] at h3
    exact hr h3
theorem BodAt.many {b r : Bs} {xs : List Ent} (h : BodAt b xs r) (hx : 1024 ≤ xs.length) (hr : r ≠ []) : ∀ l, ¬ IsBlk b l := by
  intro l hl
  obtain ⟨h1, h2, h3⟩ := h l hl
  have := hl.len
  rw [List.drop_eq_nil_of_le (by omega), bodF] at h3
  exact hr h3
theorem numB_ne (n : Nat) : numB n ≠ [] := by
  unfold numB numF
  split <;> simp
theorem bodF_nil {i : Nat} {p : Bs} {xs : List Ent} (h : bodF i p xs = []) : xs = [] := by
  cases xs with
  | nil => rfl
  | cons e xs =>
    rw [bodF] at h
    simp [blkE] at h
    have := numB_ne (if i % 4 = 0 then 0 else shr p e.key)
    exact absurd h.1 this
theorem BodAt.end_ {b : Bs} {xs : List Ent} (h : BodAt b xs []) : ∀ l, IsBlk b l → l = xs := by
  intro l hl
  obtain ⟨h1, h2, h3⟩ := h l hl
  have := bodF_nil h3.symm
  have hle := List.drop_eq_nil_iff.1 this
  rw [← h1, List.take_of_length_le hle]
theorem BodAt.start {b : Bs} {r : Bs} (h : ∀ l, IsBlk b l → r = bodB l) : BodAt b [] r := by
  intro l hl
  exact ⟨by simp, by simp, by have := h l hl; unfold bodB at this; simpa [keyL_nil] using this⟩

/-- The entries whose block these bytes are. -/
noncomputable def blkR (b : Bs) : Option (List Ent) := open Classical in if h : ∃ xs, IsBlk b xs then some h.choose else none
theorem blk_one {b : Bs} {xs ys : List Ent} (hx : IsBlk b xs) (hy : IsBlk b ys) : xs = ys := by
  have h0 : BodAt b [] (bodB xs) := BodAt.start fun l hl => by
    have p1 := hx.parts
    have p2 := hl.parts
    rw [← p1.2.2.2.2.2, ← p2.2.2.2.2.2, ← p1.2.1, ← p2.2.1]
  have key : ∀ k, k ≤ xs.length → BodAt b (xs.take k) (bodF k (keyL [] (xs.take k)) (xs.drop k)) := by
    intro k
    induction k with
    | zero => intro _; simpa [keyL_nil, bodB] using h0
    | succ k ih =>
      intro hk
      have hlt : k < xs.length := by omega
      have := ih (by omega)
      rw [List.drop_eq_getElem_cons hlt, bodF] at this
      have hn := this.next (e := xs[k]) (r' := bodF (k + 1) xs[k].key (xs.drop (k + 1))) (pEnt_blkE (hx.may _ (List.getElem_mem hlt)))
      rw [← List.take_succ_eq_append_getElem hlt] at hn
      have e : keyL [] (xs.take (k + 1)) = xs[k].key := by rw [List.take_succ_eq_append_getElem hlt, keyL_snoc]
      rw [e]
      exact hn
  have := key xs.length (Nat.le_refl _)
  rw [List.drop_length, List.take_length] at this
  exact (BodAt.end_ (by simpa [bodF] using this) ys hy).symm
theorem blkR_some {b : Bs} {xs : List Ent} (h : IsBlk b xs) : blkR b = some xs := by
  have hex : ∃ xs, IsBlk b xs := ⟨xs, h⟩
  unfold blkR
  rw [dif_pos hex]
  exact congrArg some (blk_one hex.choose_spec h)
theorem blkR_none {b : Bs} (h : ∀ l, ¬ IsBlk b l) : blkR b = none := by
  unfold blkR
  rw [dif_neg (fun ⟨l, hl⟩ => h l hl)]
theorem blkR_is {b : Bs} {xs : List Ent} (h : blkR b = some xs) : IsBlk b xs := by
  unfold blkR at h
  split at h
  · rename_i hex
    cases h
    exact hex.choose_spec
  · cases h

end Go.Proofs.Ythfhococglbpoaa
