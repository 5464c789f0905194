/- The plain words of layer 5: bytes in order, entries, their order. Conditions: none. No program here. -/
import Derived.Test.YteooaplimiifiaaGreatMem
import Derived.Lib.Bytealg
namespace Go.Proofs.YteooaplimiifiaaGreat
set_option linter.unusedSimpArgs false
set_option linter.unusedVariables false
set_option maxRecDepth 100000

abbrev cmpK (x y : Bs) : Int := Lib.compareBytes x y

structure Ent where
  key : Bs
  seq : Int
  kind : Int
  val : Bs
deriving DecidableEq

def cmpI (a b : Int) : Int := if a < b then -1 else if b < a then 1 else 0
def orI (a b : Int) : Int := if a = 0 then b else a
def cmpE (a b : Ent) : Int := orI (cmpK a.key b.key) (cmpI b.seq a.seq)

theorem cmpK_nil (y : Bs) : cmpK [] y = if y = [] then 0 else -1 := by cases y <;> simp [Lib.compareBytes]
theorem cmpK_cons (a b : UInt8) (x y : Bs) : cmpK (a :: x) (b :: y) = if a < b then -1 else if b < a then 1 else cmpK x y := rfl

theorem cmpK_range (x y : Bs) : cmpK x y = -1 ∨ cmpK x y = 0 ∨ cmpK x y = 1 := by
  induction x generalizing y with
  | nil => cases y <;> simp [Lib.compareBytes]
  | cons a x ih =>
    cases y with
    | nil => simp [Lib.compareBytes]
    | cons b y =>
      rw [cmpK_cons]
      split
      · simp
      · split
        · simp
        · exact ih y

theorem cmpI_range (a b : Int) : cmpI a b = -1 ∨ cmpI a b = 0 ∨ cmpI a b = 1 := by
  unfold cmpI; split
  · simp
  · split <;> simp

theorem orI_range {a b : Int} (ha : a = -1 ∨ a = 0 ∨ a = 1) (hb : b = -1 ∨ b = 0 ∨ b = 1) : orI a b = -1 ∨ orI a b = 0 ∨ orI a b = 1 := by
  unfold orI; split
  · exact hb
  · exact ha

theorem cmpE_range (a b : Ent) : cmpE a b = -1 ∨ cmpE a b = 0 ∨ cmpE a b = 1 := orI_range (cmpK_range _ _) (cmpI_range _ _)

theorem cmpK_anti (x y : Bs) : cmpK y x = - cmpK x y := by
  induction x generalizing y with
  | nil => cases y <;> simp [Lib.compareBytes]
  | cons a x ih =>
    cases y with
    | nil => simp [Lib.compareBytes]
    | cons b y =>
      rw [cmpK_cons, cmpK_cons, ih y]
      have h1 : a < b ↔ a.toNat < b.toNat := UInt8.lt_iff_toNat_lt
      have h2 : b < a ↔ b.toNat < a.toNat := UInt8.lt_iff_toNat_lt
      by_cases hab : a.toNat < b.toNat
      · simp [h1, h2, hab, Nat.lt_asymm hab]
      · by_cases hba : b.toNat < a.toNat
        · simp [h1, h2, hab, hba]
        · simp [h1, h2, hab, hba]

theorem cmpK_eq_zero (x y : Bs) : cmpK x y = 0 ↔ x = y := by
  induction x generalizing y with
  | nil => cases y <;> simp [Lib.compareBytes]
  | cons a x ih =>
    cases y with
    | nil => simp [Lib.compareBytes]
    | cons b y =>
      rw [cmpK_cons]
      have h1 : a < b ↔ a.toNat < b.toNat := UInt8.lt_iff_toNat_lt
      have h2 : b < a ↔ b.toNat < a.toNat := UInt8.lt_iff_toNat_lt
      have h3 : a = b ↔ a.toNat = b.toNat := UInt8.toNat_inj.symm
      by_cases hab : a.toNat < b.toNat
      · simp [h1, hab, h3]; omega
      · by_cases hba : b.toNat < a.toNat
        · simp [h1, h2, hab, hba, h3]; omega
        · have : a.toNat = b.toNat := by omega
          simp [h1, h2, h3, this, ih y]

theorem cmpK_trans (x y z : Bs) (h1 : cmpK x y ≤ 0) (h2 : cmpK y z ≤ 0) : cmpK x z ≤ 0 := by
  induction x generalizing y z with
  | nil => cases z <;> simp [Lib.compareBytes]
  | cons a x ih =>
    cases y with
    | nil => simp [Lib.compareBytes] at h1
    | cons b y =>
      cases z with
      | nil => simp [Lib.compareBytes] at h2
      | cons c z =>
        rw [cmpK_cons] at *
        have k1 : a < b ↔ a.toNat < b.toNat := UInt8.lt_iff_toNat_lt
        have k2 : b < a ↔ b.toNat < a.toNat := UInt8.lt_iff_toNat_lt
        have k3 : b < c ↔ b.toNat < c.toNat := UInt8.lt_iff_toNat_lt
        have k4 : c < b ↔ c.toNat < b.toNat := UInt8.lt_iff_toNat_lt
        have k5 : a < c ↔ a.toNat < c.toNat := UInt8.lt_iff_toNat_lt
        have k6 : c < a ↔ c.toNat < a.toNat := UInt8.lt_iff_toNat_lt
        simp only [k1, k2, k3, k4, k5, k6] at *
        by_cases ab : a.toNat < b.toNat
        · by_cases bc : b.toNat < c.toNat
          · rw [if_pos (by omega)]; omega
          · by_cases cb : c.toNat < b.toNat
            · rw [if_neg bc, if_pos cb] at h2; omega
            · rw [if_pos (by omega)]; omega
        · by_cases ba : b.toNat < a.toNat
          · rw [if_neg ab, if_pos ba] at h1; omega
          · rw [if_neg ab, if_neg ba] at h1
            by_cases bc : b.toNat < c.toNat
            · rw [if_pos (by omega)]; omega
            · by_cases cb : c.toNat < b.toNat
              · rw [if_neg bc, if_pos cb] at h2; omega
              · rw [if_neg bc, if_neg cb] at h2
                rw [if_neg (by omega), if_neg (by omega)]
                exact ih y z h1 h2

theorem cmpE_anti (a b : Ent) : cmpE b a = - cmpE a b := by
  unfold cmpE orI
  rw [cmpK_anti a.key b.key]
  by_cases h : cmpK a.key b.key = 0
  · simp [h, cmpI]; split <;> split <;> omega
  · rw [if_neg (by omega), if_neg h]

theorem cmpE_trans (a b c : Ent) (h1 : cmpE a b ≤ 0) (h2 : cmpE b c ≤ 0) : cmpE a c ≤ 0 := by
  unfold cmpE orI at *
  have t := cmpK_trans a.key b.key c.key
  have r := cmpK_range a.key c.key
  by_cases hab : cmpK a.key b.key = 0
  · rw [if_pos hab] at h1
    have eab := (cmpK_eq_zero _ _).1 hab
    rw [eab]
    by_cases hbc : cmpK b.key c.key = 0
    · rw [if_pos hbc] at h2 ⊢
      unfold cmpI at *
      split at h1 <;> split at h2 <;> (try split at h1) <;> (try split at h2) <;> split <;> (try split) <;> omega
    · rw [if_neg hbc] at h2 ⊢; exact h2
  · rw [if_neg hab] at h1
    by_cases hbc : cmpK b.key c.key = 0
    · have ebc := (cmpK_eq_zero _ _).1 hbc
      rw [← ebc, if_neg hab]; exact h1
    · rw [if_neg hbc] at h2
      have hac := t h1 h2
      by_cases h0 : cmpK a.key c.key = 0
      · exfalso
        have e := (cmpK_eq_zero _ _).1 h0
        have anti := cmpK_anti a.key b.key
        rw [← e] at h2
        have := cmpK_range a.key b.key
        omega
      · rw [if_neg h0]; exact hac

/-- May an entry be? -/
def MayE (e : Ent) : Prop := 1 ≤ e.key.length ∧ e.key.length ≤ 32 ∧ 1 ≤ e.seq ∧ e.seq ≤ 2147483647 ∧ e.val.length ≤ 65536 ∧ (e.kind = 1 ∨ e.kind = 2 ∧ e.val.length = 0)
instance (e : Ent) : Decidable (MayE e) := by unfold MayE; infer_instance
def mayE (e : Ent) : Bool := decide (MayE e)
theorem mayE_no {e : Ent} (h : ¬ MayE e) : false = mayE e := (decide_eq_false h).symm
theorem mayE_yes {e : Ent} (h : MayE e) : true = mayE e := (decide_eq_true h).symm
theorem mayE_iff {e : Ent} : mayE e = true ↔ MayE e := by simp [mayE]

end Go.Proofs.YteooaplimiifiaaGreat
