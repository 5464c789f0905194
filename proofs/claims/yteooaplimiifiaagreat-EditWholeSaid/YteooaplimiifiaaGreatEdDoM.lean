/- What comes of a version by an edit, plainly; lists of numbers in memory. Conditions: none. -/
import Derived.Test.YteooaplimiifiaaGreatEdRMay
namespace Go.Proofs.YteooaplimiifiaaGreat
set_option linter.unusedSimpArgs false
set_option linter.unusedVariables false
set_option maxRecDepth 100000
open Go.RowKit

structure Edt where
  drop : List Int
  add : List Tab
  next : Int
  log : Int
  index : Int
  seq : Int
deriving DecidableEq

/-- A slice (address, length) of numbers of 64 bits. -/
def RdN (w : World) (A : Option Addr) (n : Nat) (zs : List Int) : Prop :=
  zs.length = n ∧ n ≤ B47 ∧ (0 < n → ∃ b o, A = some ⟨b, o, none⟩ ∧ ∀ k (h : k < zs.length), w.cell? ⟨b, o + k, none⟩ = some (.int .i64 zs[k])) ∧ ∀ z ∈ zs, I64 z
theorem RdN.ext {w w' : World} {A : Option Addr} {n : Nat} {zs : List Int} (h : RdN w A n zs) (he : Ext w w') : RdN w' A n zs :=
  ⟨h.1, h.2.1, fun hn => by
    obtain ⟨b, o, e, hc⟩ := h.2.2.1 hn
    exact ⟨b, o, e, fun k hk => he.keeps _ _ _ (hc k hk)⟩, h.2.2.2⟩
theorem RdN.at_ {w : World} {A : Option Addr} {n : Nat} {zs : List Int} (h : RdN w A n zs) (k : Nat) (hk : k < n) :
    ∃ b o z, A = some ⟨b, o, none⟩ ∧ zs[k]? = some z ∧ I64 z ∧ w.cell? ⟨b, o + k, none⟩ = some (.int .i64 z) := by
  obtain ⟨b, o, e, hc⟩ := h.2.2.1 (by omega)
  have hk' : k < zs.length := by rw [h.1]; exact hk
  exact ⟨b, o, zs[k], e, List.getElem?_eq_getElem hk', h.2.2.2 _ (List.getElem_mem _), hc k hk'⟩

/-- A value of type api.Edit that reads as y. -/
def RdEd (w : World) (v : Value) (y : Edt) : Prop :=
  ∃ A n c B m d, v = .agg #[.slice A n c, .slice B m d, .int .i64 y.next, .int .i64 y.log, .int .i64 y.index, .int .i64 y.seq] ∧ RdN w A n y.drop ∧ n ≤ c ∧ RdLT w B m y.add ∧ m ≤ d
theorem RdEd.ext {w w' : World} {v : Value} {y : Edt} (h : RdEd w v y) (he : Ext w w') : RdEd w' v y := by
  obtain ⟨A, n, c, B, m, d, rfl, h1, h2, h3, h4⟩ := h
  exact ⟨A, n, c, B, m, d, rfl, h1.ext he, h2, h3.ext he, h4⟩

def keptT (x : Ver) (y : Edt) : List Tab := x.ts.filter (fun t => !decide (t.num ∈ y.drop))
def outT (y : Edt) (l : List Tab) : Ver := ⟨y.next, y.log, y.index, y.seq, l⟩
def nilV : Ver := ⟨0, 0, 0, 0, []⟩
def DoOk (x : Ver) (y : Edt) : Prop := ((keptT x y).length : Int) = (x.ts.length : Int) - (y.drop.length : Int) ∧ x.next ≤ y.next ∧ x.log ≤ y.log ∧ x.index ≤ y.index ∧ x.seq ≤ y.seq
/-- Sorted, as a sort leaves it. -/
def SortedT (l : List Tab) : Prop := l.Pairwise (fun a b => ¬ ordT b a < 0)
/-- What edit.Do answers. -/
def DoR (x : Ver) (y : Edt) (z : Ver) (err : Int) : Prop :=
  (¬ (y.drop.Nodup ∧ MayT x) → z = nilV ∧ err = 2) ∧
  (y.drop.Nodup → MayT x → (¬ DoOk x y → z = nilV ∧ err = 9) ∧ (DoOk x y → ∃ S : List Tab, S.Perm (keptT x y ++ y.add) ∧ SortedT S ∧ (MayT (outT y S) → z = outT y S ∧ err = 0) ∧ (¬ MayT (outT y S) → z = nilV ∧ err = 9)))

theorem may_strict {x : Ver} (h : MayT x) : x.ts.Pairwise (fun a b => ordT a b < 0) := by
  have hg := good_of h.2
  rw [List.pairwise_iff_getElem]
  intro i j hi hj hij
  exact ((hg j _ hj (List.getElem?_eq_getElem hj)).2 i _ hij (List.getElem?_eq_getElem hi)).2.1

/-- A strictly sorted list is the only one that is sorted of its permutations. -/
theorem sorted_one {S R : List Tab} (hs : S.Pairwise (fun a b => ordT a b < 0)) (hr : SortedT R) (hp : R.Perm S) : R = S := by
  induction S generalizing R with
  | nil => exact hp.eq_nil
  | cons a S ih =>
    cases R with
    | nil => exact absurd hp.symm.eq_nil (by simp)
    | cons b R =>
      have hab : b = a := by
        rcases List.mem_cons.1 (hp.mem_iff.1 (List.mem_cons_self (a := b) (l := R))) with h | h
        · exact h
        · rcases List.mem_cons.1 (hp.symm.mem_iff.1 (List.mem_cons_self (a := a) (l := S))) with h2 | h2
          · exact h2.symm
          · exact absurd ((List.pairwise_cons.1 hs).1 b h) ((List.pairwise_cons.1 hr).1 a h2)
      subst hab
      rw [ih (List.pairwise_cons.1 hs).2 (List.pairwise_cons.1 hr).2 (hp.cons_inv)]

/-- The reference's insertion: behind all that it is not ahead of. -/
def insT (l : List Tab) (x : Tab) : List Tab := l.takeWhile (fun o => !aheadT x o) ++ x :: l.dropWhile (fun o => !aheadT x o)
def srtT (l : List Tab) : List Tab := l.foldl insT []

theorem ordT_anti (a b : Tab) : ordT a b < 0 ↔ 0 < ordT b a := by
  unfold ordT
  by_cases h : a.lvl = b.lvl
  · have h' : b.lvl = a.lvl := h.symm
    by_cases h0 : a.lvl = 0
    · have h1 : b.lvl = 0 := by omega
      simp only [h, h0, h1, ne_eq, not_true_eq_false, ↓reduceIte]
      unfold cmpI
      split <;> (try split) <;> (try split) <;> (try split) <;> omega
    · have h1 : ¬ b.lvl = 0 := by omega
      rw [if_neg (by simpa using h), if_neg h0, if_neg (by simpa using h'), if_neg h1]
      have := cmpK_anti a.fst b.fst
      omega
  · have h' : ¬ b.lvl = a.lvl := fun e => h e.symm
    rw [if_pos h, if_pos h']
    unfold cmpI
    split <;> (try split) <;> (try split) <;> (try split) <;> omega

theorem mem_tw {q : Tab → Bool} {l : List Tab} {o : Tab} (h : o ∈ l.takeWhile q) : q o = true := by
  induction l with
  | nil => simp at h
  | cons a l ih =>
    rw [List.takeWhile_cons] at h
    by_cases c : q a = true
    · rw [if_pos c] at h
      rcases List.mem_cons.1 h with rfl | h
      · exact c
      · exact ih h
    · rw [if_neg c] at h
      simp at h
theorem insT_perm (l : List Tab) (x : Tab) : (insT l x).Perm (l ++ [x]) := by
  unfold insT
  refine List.perm_middle.trans ?_
  rw [List.takeWhile_append_dropWhile]
  exact (List.perm_append_singleton x l).symm
theorem srtT_fold (l acc : List Tab) : (l.foldl insT acc).Perm (acc ++ l) := by
  induction l generalizing acc with
  | nil => simp
  | cons a l ih =>
    rw [List.foldl_cons]
    refine (ih _).trans ?_
    have h := (insT_perm acc a).append_right l
    simpa using h
theorem srtT_perm (l : List Tab) : (srtT l).Perm l := by simpa [srtT] using srtT_fold l []

theorem ordT_total {a b : Tab} (h : ¬ ordT a b < 0) : ordT b a ≤ 0 := by
  have := (ordT_anti b a)
  have h2 := (ordT_anti a b)
  omega
theorem cmpK_le_le {x y z : Bs} (h : cmpK x y ≤ 0) (k : cmpK y z ≤ 0) : cmpK x z ≤ 0 := by
  by_cases h1 : cmpK x y < 0
  · exact Int.le_of_lt (cmpK_lt_le h1 k)
  · have e := cmpK_eq (x := x) (y := y) (by omega)
    subst e
    exact k
/-- 'not behind' goes on. -/
theorem ordT_le {a b c : Tab} (h : ¬ ordT b a < 0) (k : ¬ ordT c b < 0) : ¬ ordT c a < 0 := by
  have h1 := ordT_total h
  have k1 := ordT_total k
  suffices hs : ordT a c ≤ 0 by
    have := ordT_anti c a
    omega
  unfold ordT at *
  have ci : ∀ p q : Int, cmpI p q ≤ 0 ↔ p ≤ q := fun p q => by unfold cmpI; split <;> (try split) <;> simp <;> omega
  by_cases e1 : a.lvl = b.lvl <;> by_cases e2 : b.lvl = c.lvl
  · have e3 : a.lvl = c.lvl := e1.trans e2
    rw [if_neg (by simpa using e1)] at h1
    rw [if_neg (by simpa using e2)] at k1
    rw [if_neg (by simpa using e3)]
    by_cases e0 : a.lvl = 0
    · rw [if_pos e0, ci] at h1
      rw [if_pos (by omega), ci] at k1
      rw [if_pos e0, ci]
      omega
    · rw [if_neg e0] at h1
      rw [if_neg (by omega)] at k1
      rw [if_neg e0]
      exact cmpK_le_le h1 k1
  · rw [if_pos (by simpa using e2), ci] at k1
    rw [if_pos (by omega), ci]
    omega
  · rw [if_pos (by simpa using e1), ci] at h1
    rw [if_pos (by omega), ci]
    omega
  · rw [if_pos (by simpa using e1), ci] at h1
    rw [if_pos (by simpa using e2), ci] at k1
    rw [if_pos (by omega), ci]
    omega

theorem insT_sorted {l : List Tab} (h : SortedT l) (x : Tab) : SortedT (insT l x) := by
  unfold SortedT insT at *
  have ht : ∀ o ∈ l.takeWhile (fun o => !aheadT x o), ¬ ordT x o < 0 := by
    intro o ho
    have := mem_tw ho
    simpa [aheadT] using this
  have hd : ∀ o ∈ l.dropWhile (fun o => !aheadT x o), ¬ ordT o x < 0 := by
    induction l with
    | nil => intro o ho; simp at ho
    | cons a l ih =>
      intro o ho
      rw [List.dropWhile_cons] at ho
      by_cases c : aheadT x a = true
      · simp only [c, Bool.not_true, Bool.false_eq_true, ↓reduceIte] at ho
        have hxa : ordT x a < 0 := by simpa [aheadT] using c
        have hna : ¬ ordT a x < 0 := by have := ordT_anti a x; have := ordT_anti x a; omega
        rcases List.mem_cons.1 ho with rfl | ho
        · exact hna
        · exact ordT_le hna ((List.pairwise_cons.1 h).1 o ho)
      · simp only [c, Bool.not_false, ↓reduceIte] at ho
        exact ih (List.pairwise_cons.1 h).2 (fun o ho => (by
          have := mem_tw ho
          simpa [aheadT] using this)) o ho
  have hl := List.takeWhile_append_dropWhile (p := fun o => !aheadT x o) (l := l)
  rw [← hl, List.pairwise_append] at h
  rw [List.pairwise_append]
  refine ⟨h.1, List.pairwise_cons.2 ⟨fun o ho => hd o ho, h.2.1⟩, fun a ha b hb => ?_⟩
  rcases List.mem_cons.1 hb with rfl | hb
  · exact ht a ha
  · exact h.2.2 a ha b hb
theorem srtT_sorted (l : List Tab) : SortedT (srtT l) := by
  have : ∀ (l acc : List Tab), SortedT acc → SortedT (l.foldl insT acc) := by
    intro l
    induction l with
    | nil => intro acc h; exact h
    | cons a l ih => intro acc h; exact ih _ (insT_sorted h a)
  exact this l [] List.Pairwise.nil

/-- Any sort and the reference's: both may be, and are one, or neither. -/
theorem sort_same {y : Edt} {l S : List Tab} (hp : S.Perm l) (hs : SortedT S) : (MayT (outT y S) ↔ MayT (outT y (srtT l))) ∧ (MayT (outT y S) → S = srtT l) := by
  have h1 : MayT (outT y S) → srtT l = S := fun h => sorted_one (may_strict h) (srtT_sorted l) ((srtT_perm l).trans hp.symm)
  have h2 : MayT (outT y (srtT l)) → S = srtT l := fun h => sorted_one (may_strict h) hs (hp.trans (srtT_perm l).symm)
  exact ⟨⟨fun h => by rw [h1 h]; exact h, fun h => by rw [h2 h]; exact h⟩, fun h => (h1 h).symm⟩

/-- How many of the tables are dropped. -/
def foundT (x : Ver) (y : Edt) (k : Nat) : Nat := ((x.ts.take k).filter (fun t => decide (t.num ∈ y.drop))).length
theorem kept_found (x : Ver) (y : Edt) : (keptT x y).length + foundT x y x.ts.length = x.ts.length := by
  unfold keptT foundT
  rw [List.take_length]
  induction x.ts with
  | nil => rfl
  | cons t ts ih =>
    by_cases h : t.num ∈ y.drop
    · simp [h]; (try simp at ih); omega
    · simp [h]; (try simp at ih); omega

end Go.Proofs.YteooaplimiifiaaGreat
