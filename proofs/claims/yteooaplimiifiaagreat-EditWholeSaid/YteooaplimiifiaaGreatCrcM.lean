/- CRC-32C, plainly: bit by bit, and by a table of bytes. Conditions: none. -/
/- Frames, plainly. Conditions: none. No program here. -/
import Derived.Test.YteooaplimiifiaaGreatMath
import Derived.Laws.BitsLemmas
import Derived.Test.YteooaplimiifiaaGreatW4
namespace Go.Proofs.YteooaplimiifiaaGreat
set_option linter.unusedSimpArgs false
set_option linter.unusedVariables false
set_option maxRecDepth 100000
open Go.RowKit

/-- A register by one bit to the right. -/
def fallN (r : Nat) : Nat := if r % 2 = 0 then r / 2 else (r / 2) ^^^ 2197175160
def fallK : Nat → Nat → Nat
  | 0, r => r
  | k + 1, r => fallN (fallK k r)
def stepN (r : Nat) : Nat := fallK 8 r
def crcR (r : Nat) (x : Bs) : Nat := x.foldl (fun r c => stepN (r ^^^ c.toNat)) r
def crcB (x : Bs) : Nat := 4294967295 ^^^ crcR 4294967295 x

theorem xor_lt {a b : Nat} (ha : a < 4294967296) (hb : b < 4294967296) : a ^^^ b < 4294967296 := Nat.xor_lt_two_pow (n := 32) ha hb
theorem fallN_lt {r : Nat} (h : r < 4294967296) : fallN r < 4294967296 := by
  unfold fallN
  split
  · omega
  · exact xor_lt (by omega) (by decide)
theorem fallK_lt {r : Nat} (k : Nat) (h : r < 4294967296) : fallK k r < 4294967296 := by
  induction k with
  | zero => exact h
  | succ k ih => exact fallN_lt ih
theorem stepN_lt {r : Nat} (h : r < 4294967296) : stepN r < 4294967296 := fallK_lt 8 h
theorem crcR_lt {r : Nat} (h : r < 4294967296) (x : Bs) : crcR r x < 4294967296 := by
  unfold crcR
  induction x generalizing r with
  | nil => exact h
  | cons c x ih => exact ih (stepN_lt (xor_lt h (Nat.lt_trans c.toNat_lt (by decide))))
theorem crcB_lt (x : Bs) : crcB x < 4294967296 := xor_lt (by decide) (crcR_lt (by decide) x)
theorem crcR_snoc (r : Nat) (x : Bs) (c : UInt8) : crcR r (x ++ [c]) = stepN (crcR r x ^^^ c.toNat) := by simp [crcR]
theorem crcR_app (r : Nat) (x y : Bs) : crcR r (x ++ y) = crcR (crcR r x) y := by simp [crcR]

theorem fallN_xor (x z : Nat) : fallN (x ^^^ (2 * z)) = fallN x ^^^ z := by
  have h1 : (x ^^^ (2 * z)) / 2 = x / 2 ^^^ z := by
    apply Nat.eq_of_testBit_eq
    intro i
    rw [Nat.testBit_div_two, Nat.testBit_xor, Nat.testBit_xor, Nat.testBit_div_two, Nat.testBit_succ (2 * z), Nat.mul_div_cancel_left z (by decide : 0 < 2)]
  have h2 : (x ^^^ (2 * z)) % 2 = x % 2 := by
    have := Nat.testBit_xor x (2 * z) 0
    simp only [Nat.testBit_zero] at this
    have e : decide ((2 * z) % 2 = 1) = false := decide_eq_false (by omega)
    rw [e, Bool.xor_false] at this
    have := decide_eq_decide.1 this
    omega
  unfold fallN
  rw [h1, h2]
  split
  · rfl
  · rw [Nat.xor_assoc, Nat.xor_assoc, Nat.xor_comm z]
theorem fallK_xor (k x z : Nat) : fallK k (x ^^^ (2 ^ k * z)) = fallK k x ^^^ z := by
  induction k generalizing z with
  | zero => simp [fallK]
  | succ k ih =>
    rw [fallK, fallK, show 2 ^ (k + 1) * z = 2 ^ k * (2 * z) by rw [Nat.pow_succ, Nat.mul_assoc], ih, fallN_xor]
theorem split_xor (r : Nat) : (r % 256) ^^^ (256 * (r / 256)) = r := by
  have h := Nat.two_pow_add_eq_or_of_lt (i := 8) (b := r % 256) (Nat.mod_lt _ (by decide)) (r / 256)
  apply Nat.eq_of_testBit_eq
  intro i
  rw [Nat.testBit_xor]
  have h1 : (r % 256).testBit i = (decide (i < 8) && r.testBit i) := Nat.testBit_mod_two_pow r 8 i
  have h2 : (256 * (r / 256)).testBit i = (decide (8 ≤ i) && r.testBit i) := by
    have := Nat.testBit_two_pow_mul (i := 8) (a := r / 256) (j := i)
    rw [show (2 : Nat) ^ 8 = 256 from rfl] at this
    rw [this]
    by_cases hi : i ≥ 8
    · have := Nat.testBit_div_two_pow (i := i - 8) (n := 8) r
      rw [show (2 : Nat) ^ 8 = 256 from rfl] at this
      rw [this, show i - 8 + 8 = i by omega]
    · simp [hi]
  rw [h1, h2]
  by_cases hi : i < 8
  · simp [hi, Nat.not_le.2 hi]
  · simp [hi, Nat.le_of_not_lt hi]
/-- The table's way is the bits' way. -/
theorem step_tab (r : Nat) : stepN (r % 256) ^^^ (r / 256) = stepN r := by
  have := fallK_xor 8 (r % 256) (r / 256)
  rw [show (2 : Nat) ^ 8 = 256 from rfl, split_xor] at this
  exact this.symm

theorem wraps_w (n : Int) (h₀ : 0 ≤ n) (h₁ : n < 2 ^ 32) : IntKind.u32.wrap n = n := by rw [IntKind.wrap_u32]; omega
theorem bits_xor {a b : Nat} (ha : a < 4294967296) (hb : b < 4294967296) : bits BinOp.xor IntKind.u32 (a : Int) (b : Int) = ((a ^^^ b : Nat) : Int) := by
  have ha' : a % 2 ^ 32 = a := Nat.mod_eq_of_lt ha
  have hb' : b % 2 ^ 32 = b := Nat.mod_eq_of_lt hb
  have e : (BitVec.ofNat 32 a ^^^ BitVec.ofNat 32 b).toNat = a ^^^ b := by rw [BitVec.toNat_xor, BitVec.toNat_ofNat, BitVec.toNat_ofNat, ha', hb']
  simp only [bits, BitVec.ofInt_natCast]
  show IntKind.u32.wrap ((BitVec.ofNat 32 a ^^^ BitVec.ofNat 32 b).toNat : Int) = _
  rw [e]
  exact wraps_w _ (Int.natCast_nonneg _) (by exact_mod_cast xor_lt ha hb)
/-- As the ints' division and rest say it. -/
theorem fall_even {r : Nat} (h : r % 2 = 0) : ((r : Int) / 2) = ((fallN r : Nat) : Int) := by
  unfold fallN
  rw [if_pos h]
  omega
theorem fall_odd {r : Nat} (hr : r < 4294967296) (h : ¬ r % 2 = 0) : bits BinOp.xor IntKind.u32 ((r : Int) / 2) 2197175160 = ((fallN r : Nat) : Int) := by
  unfold fallN
  rw [if_neg h]
  have := bits_xor (a := r / 2) (b := 2197175160) (by omega) (by decide)
  rw [← this]
  rfl


open Go.RowKit

def mayF (n : Nat) : Bool := decide (1 ≤ n ∧ n ≤ 1048576)
/-- A payload's frame. -/
def frmB (p : Bs) : Bs := w4 p.length ++ (w4 (crcB (w4 p.length ++ p)) ++ p)
/-- How many bytes the first frame's payload is said to have. -/
def nF (b : Bs) : Nat := un4 (b.take 4)
/-- Is the first frame whole? -/
def isF (b : Bs) : Bool := decide (8 ≤ b.length) && (mayF (nF b) && (decide (nF b + 8 ≤ b.length) && decide (crcB (b.take 4 ++ (b.drop 8).take (nF b)) = un4 ((b.drop 4).take 4))))
def plF (b : Bs) : Bs := (b.drop 8).take (nF b)
def frF : Nat → Bs → List Bs
  | 0, _ => []
  | f + 1, b => if isF b = true then plF b :: frF f (b.drop (8 + nF b)) else []
/-- The whole frames' payloads. -/
def frs (b : Bs) : List Bs := frF b.length b
/-- How many bytes they have. -/
def endF : List Bs → Nat
  | [] => 0
  | p :: ps => 8 + p.length + endF ps
def restF (b : Bs) : Bs := b.drop (endF (frs b))
/-- Is the rest none that a crash leaves? -/
def oddF (b : Bs) : Bool := decide (8 ≤ (restF b).length) && (!mayF (nF (restF b)) || decide (8 + nF (restF b) ≤ (restF b).length))

theorem isF_len {b : Bs} (h : isF b = true) : 8 ≤ b.length ∧ 1 ≤ nF b ∧ nF b ≤ 1048576 ∧ nF b + 8 ≤ b.length ∧ crcB (b.take 4 ++ plF b) = un4 ((b.drop 4).take 4) := by
  unfold isF mayF at h
  simp only [Bool.and_eq_true, decide_eq_true_eq] at h
  exact ⟨h.1, h.2.1.1, h.2.1.2, h.2.2.1, h.2.2.2⟩
theorem plF_len {b : Bs} (h : isF b = true) : (plF b).length = nF b := by
  have := isF_len h
  unfold plF
  rw [List.length_take, List.length_drop]
  omega
theorem frF_more {f g : Nat} {b : Bs} (hf : b.length ≤ f) (hg : b.length ≤ g) : frF f b = frF g b := by
  induction f generalizing g b with
  | zero =>
    have : b = [] := List.eq_nil_of_length_eq_zero (by omega)
    subst this
    cases g with
    | zero => rfl
    | succ g => rw [frF, frF, if_neg (by decide)]
  | succ f ih =>
    cases g with
    | zero =>
      have : b = [] := List.eq_nil_of_length_eq_zero (by omega)
      subst this
      rw [frF, frF, if_neg (by decide)]
    | succ g =>
      rw [frF, frF]
      by_cases h : isF b = true
      · have := isF_len h
        rw [if_pos h, if_pos h, ih (g := g) (by rw [List.length_drop]; omega) (by rw [List.length_drop]; omega)]
      · rw [if_neg h, if_neg h]
theorem frs_yes {b : Bs} (h : isF b = true) : frs b = plF b :: frs (b.drop (8 + nF b)) := by
  have := isF_len h
  unfold frs
  cases hb : b.length with
  | zero => omega
  | succ n =>
    rw [frF, if_pos h, frF_more (g := (b.drop (8 + nF b)).length) (by rw [List.length_drop]; omega) (Nat.le_refl _)]
theorem frs_no {b : Bs} (h : ¬ isF b = true) : frs b = [] := by
  unfold frs
  cases b.length with
  | zero => rfl
  | succ n => rw [frF, if_neg h]
theorem endF_app (ps qs : List Bs) : endF (ps ++ qs) = endF ps + endF qs := by
  induction ps with
  | nil => simp [endF]
  | cons p ps ih => rw [List.cons_append, endF, endF, ih]; omega
/-- What has been gone over, and what is left. -/
def GF (b : Bs) (ps : List Bs) (k : Nat) : Prop := k = endF ps ∧ k ≤ b.length ∧ frs b = ps ++ frs (b.drop k)
theorem GF.start (b : Bs) : GF b [] 0 := ⟨rfl, Nat.zero_le _, rfl⟩
theorem GF.step {b : Bs} {ps : List Bs} {k : Nat} (h : GF b ps k) (hw : isF (b.drop k) = true) : GF b (ps ++ [plF (b.drop k)]) (k + (8 + nF (b.drop k))) := by
  have hl := isF_len hw
  have hp := plF_len hw
  rw [List.length_drop] at hl
  refine ⟨?_, by omega, ?_⟩
  · rw [endF_app, endF, endF, hp, ← h.1]; omega
  · rw [h.2.2, frs_yes hw, List.drop_drop]
    simp
theorem GF.end_ {b : Bs} {ps : List Bs} {k : Nat} (h : GF b ps k) (hw : ¬ isF (b.drop k) = true) : frs b = ps ∧ restF b = b.drop k ∧ k = endF (frs b) := by
  have e : frs b = ps := by rw [h.2.2, frs_no hw, List.append_nil]
  exact ⟨e, by unfold restF; rw [e, ← h.1], by rw [e]; exact h.1⟩
theorem frs_le (b : Bs) : endF (frs b) ≤ b.length := by
  have : ∀ n (b : Bs), b.length ≤ n → endF (frs b) ≤ b.length := by
    intro n
    induction n with
    | zero =>
      intro b hb
      have : b = [] := List.eq_nil_of_length_eq_zero (by omega)
      subst this
      decide
    | succ n ih =>
      intro b hb
      by_cases h : isF b = true
      · have hl := isF_len h
        have := ih (b.drop (8 + nF b)) (by rw [List.length_drop]; omega)
        rw [frs_yes h, endF, plF_len h]
        rw [List.length_drop] at this
        omega
      · rw [frs_no h]; exact Nat.zero_le _
  exact this _ b (Nat.le_refl _)
/-- Each with its place. -/
def atsF : Nat → List Bs → List (Nat × Bs)
  | _, [] => []
  | k, p :: ps => (k, p) :: atsF (k + (8 + p.length)) ps
theorem atsF_app (k : Nat) (ps qs : List Bs) : atsF k (ps ++ qs) = atsF k ps ++ atsF (k + endF ps) qs := by
  induction ps generalizing k with
  | nil => simp [atsF, endF]
  | cons p ps ih => rw [List.cons_append, atsF, atsF, ih, endF, List.cons_append]; congr 3; omega
theorem atsF_len (k : Nat) (ps : List Bs) : (atsF k ps).length = ps.length := by
  induction ps generalizing k with
  | nil => rfl
  | cons p ps ih => rw [atsF, List.length_cons, ih, List.length_cons]
theorem atsF_snd (k : Nat) (ps : List Bs) : (atsF k ps).map Prod.snd = ps := by
  induction ps generalizing k with
  | nil => rfl
  | cons p ps ih => rw [atsF, List.map_cons, ih]
theorem frs_may {b p : Bs} (h : p ∈ frs b) : 1 ≤ p.length ∧ p.length ≤ 1048576 := by
  have : ∀ n (b : Bs), b.length ≤ n → ∀ p ∈ frs b, 1 ≤ p.length ∧ p.length ≤ 1048576 := by
    intro n
    induction n with
    | zero =>
      intro b hb p hp
      have : b = [] := List.eq_nil_of_length_eq_zero (by omega)
      subst this
      rw [frs_no (by decide)] at hp
      cases hp
    | succ n ih =>
      intro b hb p hp
      by_cases h : isF b = true
      · have hl := isF_len h
        rw [frs_yes h] at hp
        rcases List.mem_cons.1 hp with rfl | hp
        · rw [plF_len h]; omega
        · exact ih _ (by rw [List.length_drop]; omega) p hp
      · rw [frs_no h] at hp
        cases hp
  exact this _ b (Nat.le_refl _) p h

theorem un4_lt (x : Bs) : un4 x < 4294967296 := by
  unfold un4
  split
  · rename_i a b c d
    have := a.toNat_lt
    have := b.toNat_lt
    have := c.toNat_lt
    have := d.toNat_lt
    omega
  · decide
theorem w4_un4 {x : Bs} (h : x.length = 4) : w4 (un4 x) = x := by
  match x, h with
  | [a, b, c, d], _ =>
    unfold w4 un4
    simp only
    have h0 := a.toNat_lt
    have h1 := b.toNat_lt
    have h2 := c.toNat_lt
    have h3 := d.toNat_lt
    have ext : ∀ (n : Nat) (y : UInt8), n % 256 = y.toNat → UInt8.ofNat n = y := fun n y h => by
      apply UInt8.toNat_inj.1
      rw [UInt8.toNat_ofNat']
      exact h
    rw [ext _ a (by omega), ext _ b (by omega), ext _ c (by omega), ext _ d (by omega)]
/-- A frame is read back, whatever stands behind it. -/
theorem isF_frm {p r : Bs} (h : mayF p.length = true) : isF (frmB p ++ r) = true ∧ plF (frmB p ++ r) = p ∧ nF (frmB p ++ r) = p.length := by
  have hm := h
  unfold mayF at hm
  simp only [decide_eq_true_eq] at hm
  have ht : (frmB p ++ r).take 4 = w4 p.length := by
    unfold frmB
    rw [List.append_assoc, List.take_left' (w4_len _)]
  have hn : nF (frmB p ++ r) = p.length := by
    unfold nF
    rw [ht, un4_w4 (by omega)]
  have hd : (frmB p ++ r).drop 8 = p ++ r := by
    have : (8 : Nat) = (w4 p.length ++ w4 (crcB (w4 p.length ++ p))).length := rfl
    unfold frmB
    rw [← List.append_assoc (w4 p.length), List.append_assoc, this, List.drop_left]
  have hp : plF (frmB p ++ r) = p := by
    unfold plF
    rw [hn, hd, List.take_left]
  have hc : ((frmB p ++ r).drop 4).take 4 = w4 (crcB (w4 p.length ++ p)) := by
    unfold frmB
    rw [List.append_assoc, List.drop_left' (w4_len _), List.append_assoc, List.take_left' (w4_len _)]
  have hl : (frmB p ++ r).length = 8 + p.length + r.length := by
    unfold frmB
    simp only [List.length_append, w4_len]
    omega
  refine ⟨?_, hp, hn⟩
  unfold isF
  simp only [Bool.and_eq_true, decide_eq_true_eq]
  refine ⟨by omega, by rw [hn]; exact h, by omega, ?_⟩
  have := hp
  unfold plF at this
  rw [this, ht, hc, un4_w4 (crcB_lt _)]
theorem frm_len (p : Bs) : (frmB p).length = 8 + p.length := by
  unfold frmB
  simp only [List.length_append, w4_len]
  omega
theorem frs_frm {p r : Bs} (h : mayF p.length = true) : frs (frmB p ++ r) = p :: frs r := by
  obtain ⟨h1, h2, h3⟩ := isF_frm (r := r) h
  rw [frs_yes h1, h2, h3, show (frmB p ++ r).drop (8 + p.length) = r by rw [← frm_len p, List.drop_left]]
/-- Any first part of a frame is none. -/
theorem isF_part {p : Bs} {k : Nat} (h : mayF p.length = true) (hk : k < (frmB p).length) : isF ((frmB p).take k) = false ∧ (8 ≤ ((frmB p).take k).length → mayF (nF ((frmB p).take k)) = true ∧ ((frmB p).take k).length < 8 + nF ((frmB p).take k)) := by
  have hm := h
  unfold mayF at hm
  simp only [decide_eq_true_eq] at hm
  have hl : ((frmB p).take k).length = k := by rw [List.length_take]; omega
  by_cases h8 : 8 ≤ k
  · have ht : ((frmB p).take k).take 4 = w4 p.length := by
      rw [List.take_take, Nat.min_eq_left (by omega)]
      unfold frmB
      rw [List.take_left' (w4_len _)]
    have hn : nF ((frmB p).take k) = p.length := by
      unfold nF
      rw [ht, un4_w4 (by omega)]
    rw [frm_len] at hk
    refine ⟨?_, fun _ => ⟨by rw [hn]; exact h, by rw [hl, hn]; omega⟩⟩
    unfold isF
    rw [hn, hl]
    have : decide (p.length + 8 ≤ k) = false := decide_eq_false (by omega)
    rw [this]
    simp
  · refine ⟨?_, fun h => absurd h (by rw [hl]; omega)⟩
    unfold isF
    rw [hl]
    have : decide (8 ≤ k) = false := decide_eq_false (by omega)
    rw [this, Bool.false_and]

end Go.Proofs.YteooaplimiifiaaGreat
