/- Batches, plainly: their bytes, what reads them, what of a log they are. Conditions: none. No program here. -/
import Derived.Test.YthdahmicjlplcaaCrcM
import Derived.Test.YthdahmicjlplcaaBackM
namespace Go.Proofs.Ythdahmicjlplcaa
set_option linter.unusedSimpArgs false
set_option linter.unusedVariables false

structure Bat where
  idx : Int
  es : List Ent
deriving DecidableEq

def mayW (x : Bat) : Bool := decide (1 ≤ x.idx) && (decide (x.idx ≤ 2147483647) && (decide (x.es.length ≤ 65536) && allMay x.es))
theorem mayW_iff {x : Bat} : mayW x = true ↔ 1 ≤ x.idx ∧ x.idx ≤ 2147483647 ∧ x.es.length ≤ 65536 ∧ allMay x.es = true := by
  unfold mayW; simp only [Bool.and_eq_true, decide_eq_true_eq]
def payB (x : Bat) : Bs := numB x.idx.toNat ++ bytB (lisB x.es)
/-- The batch of a payload. -/
def readW (p : Bs) : Option Bat := match getN p with
  | none => none
  | some (n, r) => match getB 1048576 r with
    | none => none
    | some (y, q) => if q = [] ∧ n ≤ 2147483647 then (match readL y with
      | none => none
      | some l => if mayW ⟨n, l⟩ = true then some ⟨n, l⟩ else none) else none
theorem readW_may {p : Bs} {x : Bat} (h : readW p = some x) : mayW x = true := by
  unfold readW at h
  split at h
  · cases h
  · split at h
    · cases h
    · split at h
      · split at h
        · cases h
        · split at h
          · cases h; assumption
          · cases h
      · cases h
theorem readW_num {p : Bs} (h : getN p = none) : readW p = none := by unfold readW; rw [h]
theorem readW_raw {p r : Bs} {n : Nat} (h : getN p = some (n, r)) (hb : getB 1048576 r = none) : readW p = none := by unfold readW; rw [h]; simp only [hb]
theorem readW_rest {p r y q : Bs} {n : Nat} (h : getN p = some (n, r)) (hb : getB 1048576 r = some (y, q)) (hq : ¬ (q = [] ∧ n ≤ 2147483647)) : readW p = none := by unfold readW; rw [h]; simp only [hb]; rw [if_neg hq]
theorem readW_list {p r y : Bs} {n : Nat} (h : getN p = some (n, r)) (hb : getB 1048576 r = some (y, [])) (hn : n ≤ 2147483647) : readW p = (match readL y with | none => none | some l => if mayW ⟨n, l⟩ = true then some ⟨n, l⟩ else none) := by unfold readW; rw [h]; simp only [hb]; rw [if_pos ⟨trivial, hn⟩]

theorem fpay_pos (x : Bat) : 1 ≤ (payB x).length := by
  unfold payB
  rw [List.length_append]
  have : 1 ≤ (numB x.idx.toNat).length := by
    unfold numB
    rw [numF]
    split <;> simp
  omega
/-- A batch's frame, and its error's number. -/
def wrW (x : Bat) : Bs := if mayW x = true ∧ mayF (payB x).length = true then frmB (payB x) else []
def wrWN (x : Bat) : Int := if mayW x = true then (if mayF (payB x).length = true then 0 else 3) else 2

/-- The batches of payloads, behind one of a place; were all taken? -/
def goW : Option Int → List Bs → List Bat × Bool
  | _, [] => ([], true)
  | last, p :: ps => match readW p with
    | none => ([], false)
    | some x => if (match last with | none => false | some i => decide (x.idx ≤ i)) = true then ([], false) else (x :: (goW (some x.idx) ps).1, (goW (some x.idx) ps).2)
def batW (b : Bs) : List Bat := (goW none (frs b)).1
def okW (b : Bs) : Bool := (goW none (frs b)).2 && !oddF b
def sizeW (b : Bs) : Nat := endF ((frs b).take (batW b).length)

def lastI (l : List Bat) : Option Int := l.getLast?.map Bat.idx
theorem lastI_snoc (l : List Bat) (x : Bat) : lastI (l ++ [x]) = some x.idx := by simp [lastI]
/-- How far the batches have been gone over. -/
def GW (ps : List Bs) (l : List Bat) : Prop := l.length ≤ ps.length ∧ goW none ps = (l ++ (goW (lastI l) (ps.drop l.length)).1, (goW (lastI l) (ps.drop l.length)).2)
theorem GW.start (ps : List Bs) : GW ps [] := ⟨Nat.zero_le _, by simp [lastI]⟩
def behW (l : List Bat) (x : Bat) : Bool := match lastI l with | none => true | some i => decide (i < x.idx)
theorem GW.step {ps : List Bs} {l : List Bat} {p : Bs} {x : Bat} (h : GW ps l) (hp : ps[l.length]? = some p) (hr : readW p = some x) (hb : behW l x = true) : GW ps (l ++ [x]) := by
  obtain ⟨hl, hg⟩ := h
  have hlt : l.length < ps.length := (List.getElem?_eq_some_iff.1 hp).1
  have hd : ps.drop l.length = p :: ps.drop (l.length + 1) := by
    rw [List.drop_eq_getElem_cons hlt]
    rw [(List.getElem?_eq_some_iff.1 hp).2]
  refine ⟨by simp; omega, ?_⟩
  rw [hg, hd, lastI_snoc, List.length_append, List.length_singleton]
  have e : goW (lastI l) (p :: ps.drop (l.length + 1)) = (x :: (goW (some x.idx) (ps.drop (l.length + 1))).1, (goW (some x.idx) (ps.drop (l.length + 1))).2) := by
    rw [goW, hr]
    simp only
    rw [if_neg]
    unfold behW at hb
    cases hL : lastI l with
    | none => simp
    | some i => rw [hL] at hb; simp at hb ⊢; exact hb
  rw [e]
  simp
theorem GW.stop {ps : List Bs} {l : List Bat} {p : Bs} (h : GW ps l) (hp : ps[l.length]? = some p) (hb : readW p = none ∨ ∃ x, readW p = some x ∧ behW l x = false) : goW none ps = (l, false) := by
  obtain ⟨hl, hg⟩ := h
  have hlt : l.length < ps.length := (List.getElem?_eq_some_iff.1 hp).1
  have hd : ps.drop l.length = p :: ps.drop (l.length + 1) := by
    rw [List.drop_eq_getElem_cons hlt]
    rw [(List.getElem?_eq_some_iff.1 hp).2]
  rw [hg, hd]
  have e : goW (lastI l) (p :: ps.drop (l.length + 1)) = ([], false) := by
    rw [goW]
    rcases hb with hb | ⟨x, hr, hb⟩
    · rw [hb]
    · rw [hr]
      simp only
      rw [if_pos]
      unfold behW at hb
      cases hL : lastI l with
      | none => rw [hL] at hb; cases hb
      | some i => rw [hL] at hb; simp at hb ⊢; exact hb
  rw [e]
  simp
theorem GW.end_ {ps : List Bs} {l : List Bat} (h : GW ps l) (he : l.length = ps.length) : goW none ps = (l, true) := by
  obtain ⟨hl, hg⟩ := h
  rw [hg, List.drop_of_length_le (by omega), goW]
  simp

/-- A payload that may be is read back. -/
theorem readW_pay {x : Bat} (hm : mayW x = true) (hf : mayF (payB x).length = true) : readW (payB x) = some x := by
  obtain ⟨h1, h2, h3, h4⟩ := mayW_iff.1 hm
  have hfl : (payB x).length ≤ 1048576 := by unfold mayF at hf; simp at hf; exact hf.2
  have hl : (lisB x.es).length ≤ 1048576 := by
    unfold payB bytB at hfl
    simp only [List.length_append] at hfl
    omega
  have hn : getN (payB x) = some (x.idx.toNat, bytB (lisB x.es)) := by unfold payB; exact getN_numB (by omega)
  have hb : getB 1048576 (bytB (lisB x.es)) = some (lisB x.es, []) := by
    have := getB_bytB (most := 1048576) (y := lisB x.es) (r := []) hl (by decide)
    rwa [List.append_nil] at this
  have hx : (⟨(x.idx.toNat : Int), x.es⟩ : Bat) = x := by
    have : (x.idx.toNat : Int) = x.idx := by omega
    rw [this]
  rw [readW_list hn hb (by omega), readL_lisB h3 h4]
  simp only
  rw [hx, if_pos hm]

theorem goW_frames {last : Option Int} {l : List Bat} (hm : ∀ x ∈ l, mayW x = true ∧ mayF (payB x).length = true) (hr : ∀ x, l.head? = some x → match last with | none => True | some i => i < x.idx)
    (hs : l.Pairwise fun a b => a.idx < b.idx) : goW last (l.map payB) = (l, true) := by
  induction l generalizing last with
  | nil => rfl
  | cons x l ih =>
    have hx := hm x (by simp)
    have h0 := hr x rfl
    rw [List.map_cons, goW, readW_pay hx.1 hx.2]
    simp only
    rw [List.pairwise_cons] at hs
    have := ih (last := some x.idx) (fun y hy => hm y (by simp [hy])) (fun y hy => by
      simp only
      have : y ∈ l := by
        cases l with
        | nil => cases hy
        | cons z l => simp at hy; subst hy; simp
      exact hs.1 y this) hs.2
    rw [this, if_neg]
    cases last with
    | none => simp
    | some i => simp at h0 ⊢; exact h0
/-- A log of rising batches, and a rest that begins no whole frame. -/
theorem frs_log {l : List Bat} {r : Bs} (hm : ∀ x ∈ l, mayW x = true ∧ mayF (payB x).length = true) : frs ((l.map fun x => frmB (payB x)).flatten ++ r) = l.map payB ++ frs r := by
  induction l with
  | nil => simp
  | cons x l ih =>
    rw [List.map_cons, List.flatten_cons, List.append_assoc, frs_frm (hm x (by simp)).2, ih (fun y hy => hm y (by simp [hy]))]
    rfl
theorem endF_log (l : List Bat) : endF (l.map payB) = ((l.map fun x => frmB (payB x)).flatten).length := by
  induction l with
  | nil => rfl
  | cons x l ih => rw [List.map_cons, endF, ih, List.map_cons, List.flatten_cons, List.length_append, frm_len]
theorem log_torn {l : List Bat} {r : Bs} (hm : ∀ x ∈ l, mayW x = true ∧ mayF (payB x).length = true) (hs : l.Pairwise fun a b => a.idx < b.idx) (hr : isF r = false) (ho : 8 ≤ r.length → mayF (nF r) = true ∧ r.length < 8 + nF r) :
    batW ((l.map fun x => frmB (payB x)).flatten ++ r) = l ∧ okW ((l.map fun x => frmB (payB x)).flatten ++ r) = true ∧ sizeW ((l.map fun x => frmB (payB x)).flatten ++ r) = ((l.map fun x => frmB (payB x)).flatten).length := by
  have hf : frs ((l.map fun x => frmB (payB x)).flatten ++ r) = l.map payB := by rw [frs_log hm, frs_no (by rw [hr]; decide), List.append_nil]
  have hg := goW_frames (last := none) hm (fun _ _ => trivial) hs
  have hb : batW ((l.map fun x => frmB (payB x)).flatten ++ r) = l := by unfold batW; rw [hf, hg]
  have hrest : restF ((l.map fun x => frmB (payB x)).flatten ++ r) = r := by
    unfold restF
    rw [hf, endF_log, List.drop_left]
  refine ⟨hb, ?_, ?_⟩
  · unfold okW oddF
    rw [hf, hg, hrest]
    simp only [Bool.true_and]
    by_cases h8 : 8 ≤ r.length
    · obtain ⟨o1, o2⟩ := ho h8
      rw [o1, decide_eq_false (by omega : ¬ 8 + nF r ≤ r.length)]
      simp
    · rw [decide_eq_false h8]
      rfl
  · unfold sizeW
    rw [hb, hf, ← endF_log, List.take_of_length_le (by simp)]

end Go.Proofs.Ythdahmicjlplcaa
