/- The library's stable sort, plainly: what its steps make of a row. Conditions: none. -/
import Derived.Sort.LotA
namespace Go.Proofs.Ytpohmoakilioiaa
set_option linter.unusedSimpArgs false
set_option linter.unusedVariables false
set_option maxRecDepth 100000
open Go.Sort
section
variable {α : Type} [Inhabited α]

/-- [s, m) and [m, e) have changed places. -/
structure Rot (d d' : Array α) (s m e : Nat) : Prop where
  size : d'.size = d.size
  out : ∀ k, k < s ∨ e ≤ k → d'[k]! = d[k]!
  lo : ∀ t, t < e - m → d'[s + t]! = d[m + t]!
  hi : ∀ t, t < m - s → d'[s + (e - m) + t]! = d[s + t]!

theorem Rot.idL (d : Array α) (s e : Nat) : Rot d d s s e := ⟨rfl, fun _ _ => rfl, fun _ _ => rfl, fun t ht => by omega⟩
theorem Rot.idR (d : Array α) (s m : Nat) : Rot d d s m m := ⟨rfl, fun _ _ => rfl, fun t ht => by omega, fun t _ => by rw [Nat.sub_self]; rfl⟩

/-- [a, a+n) and [b, b+n) have been exchanged. -/
structure SwR (d d' : Array α) (a b n : Nat) : Prop where
  size : d'.size = d.size
  out : ∀ k, (k < a ∨ a + n ≤ k) → (k < b ∨ b + n ≤ k) → d'[k]! = d[k]!
  lo : ∀ t, t < n → d'[a + t]! = d[b + t]!
  hi : ∀ t, t < n → d'[b + t]! = d[a + t]!
  perm : ∀ x y, x ≤ a → a + n ≤ y → x ≤ b → b + n ≤ y → y ≤ d.size → PermIn x y d d'

theorem SwR.nil (d : Array α) (a b : Nat) : SwR d d a b 0 := ⟨rfl, fun _ _ _ => rfl, fun t ht => by omega, fun t ht => by omega, fun _ _ _ _ _ _ _ => permIn_refl _ _ _⟩
theorem SwR.step {d d' : Array α} {a b n : Nat} (h : SwR d d' a b n) (hab : a + (n + 1) ≤ b) (hb : b + (n + 1) ≤ d.size) : SwR d (swp d' (a + n) (b + n)) a b (n + 1) := by
  have hs := h.size
  have g := fun k => swp_get d' (i := a + n) (j := b + n) (by omega) (by omega) k
  refine ⟨by rw [swp_size]; exact hs, fun k h1 h2 => ?_, fun t ht => ?_, fun t ht => ?_, fun x y h1 h2 h3 h4 h5 => ?_⟩
  · rw [g, if_neg (by omega), if_neg (by omega)]
    exact h.out k (by omega) (by omega)
  · rw [g, if_neg (by omega)]
    by_cases e : t = n
    · subst e
      rw [if_pos rfl]
      exact h.out _ (by omega) (by omega)
    · rw [if_neg (by omega)]
      exact h.lo t (by omega)
  · rw [g]
    by_cases e : t = n
    · subst e
      rw [if_pos rfl]
      exact h.out _ (by omega) (by omega)
    · rw [if_neg (by omega), if_neg (by omega)]
      exact h.hi t (by omega)
  · exact permIn_trans _ _ _ _ _ (h.perm x y h1 (by omega) h3 (by omega) h5) (swp_permIn _ _ _ _ _ (by omega) (by omega) (by omega) (by omega) (by omega))

/-- A rotation's last exchange. -/
theorem SwR.rot {d d' : Array α} {m i : Nat} (h : SwR d d' (m - i) m i) (hi : i ≤ m) : Rot d d' (m - i) m (m + i) := by
  refine ⟨h.size, fun k hk => h.out k (by omega) (by omega), fun t ht => h.lo t (by omega), fun t ht => ?_⟩
  have := h.hi t (by omega)
  rw [← this]
  congr 1
  omega
/-- .. one with more on the left. -/
theorem SwR.rotL {d d1 d' : Array α} {m i j : Nat} (h : SwR d d1 (m - i) m j) (hi : i ≤ m) (hj : j < i) (hr : Rot d1 d' (m - (i - j)) m (m + j)) : Rot d d' (m - i) m (m + j) := by
  refine ⟨hr.size.trans h.size, fun k hk => ?_, fun t ht => ?_, fun t ht => ?_⟩
  · rw [hr.out k (by omega)]; exact h.out k (by omega) (by omega)
  · rw [hr.out _ (by omega)]; exact h.lo t (by omega)
  · by_cases c : t < j
    · have e1 := hr.lo t (by omega)
      have e2 := h.hi t (by omega)
      rw [show m - i + (m + j - m) + t = m - (i - j) + t from by omega, e1, e2]
    · have e1 := hr.hi (t - j) (by omega)
      have e2 := h.out (m - i + t) (by omega) (by omega)
      rw [show m - i + (m + j - m) + t = m - (i - j) + (m + j - m) + (t - j) from by omega, e1, ← e2]
      congr 1
      omega
/-- .. one with more on the right. -/
theorem SwR.rotR {d d1 d' : Array α} {m i j : Nat} (h : SwR d d1 (m - i) (m + j - i) i) (hi : i ≤ m) (hj : i < j) (hr : Rot d1 d' (m - i) m (m + (j - i))) : Rot d d' (m - i) m (m + j) := by
  refine ⟨hr.size.trans h.size, fun k hk => ?_, fun t ht => ?_, fun t ht => ?_⟩
  · rw [hr.out k (by omega)]; exact h.out k (by omega) (by omega)
  · by_cases c : t < j - i
    · rw [hr.lo t (by omega)]; exact h.out _ (by omega) (by omega)
    · have e1 := hr.hi (t - (j - i)) (by omega)
      have e2 := h.lo (t - (j - i)) (by omega)
      rw [show m - i + t = m - i + (m + (j - i) - m) + (t - (j - i)) from by omega, e1, e2]
      congr 1
      omega
  · have e1 := hr.out (m + j - i + t) (by omega)
    have e2 := h.hi t (by omega)
    rw [show m - i + (m + j - m) + t = m + j - i + t from by omega, e1, e2]

/-- An element that goes up one place at a time. -/
theorem Rot.up {d d' : Array α} {a k : Nat} (h : Rot d d' a (a + 1) (k + 1)) (ha : a ≤ k) (hk : k + 1 < d.size) : Rot d (swp d' k (k + 1)) a (a + 1) (k + 2) := by
  have hs := h.size
  have g := fun q => swp_get d' (i := k) (j := k + 1) (by omega) (by omega) q
  have e0 := h.hi 0 (by omega)
  rw [show a + (k + 1 - (a + 1)) + 0 = k from by omega] at e0
  refine ⟨by rw [swp_size]; exact hs, fun q hq => ?_, fun t ht => ?_, fun t ht => ?_⟩
  · rw [g, if_neg (by omega), if_neg (by omega)]; exact h.out q (by omega)
  · rw [g, if_neg (by omega)]
    by_cases c : a + t = k
    · rw [if_pos c, h.out (k + 1) (by omega)]; congr 1; omega
    · rw [if_neg c]; exact h.lo t (by omega)
  · rw [g, if_pos (by omega), e0]; congr 1; omega
/-- .. down. -/
theorem Rot.down {d d' : Array α} {m k : Nat} (h : Rot d d' (k + 1) m (m + 1)) (hk : k + 1 ≤ m) (hm : m < d.size) : Rot d (swp d' (k + 1) k) k m (m + 1) := by
  have hs := h.size
  have g := fun q => swp_get d' (i := k + 1) (j := k) (by omega) (by omega) q
  have e0 := h.lo 0 (by omega)
  simp only [Nat.add_zero] at e0
  refine ⟨by rw [swp_size]; exact hs, fun q hq => ?_, fun t ht => ?_, fun t ht => ?_⟩
  · rw [g, if_neg (by omega), if_neg (by omega)]; exact h.out q (by omega)
  · obtain rfl : t = 0 := by omega
    rw [g, if_pos (by omega), e0]; rfl
  · rw [g, if_neg (by omega)]
    by_cases c : t = 0
    · subst c
      rw [if_pos (by omega), h.out k (by omega)]; rfl
    · rw [if_neg (by omega)]
      have := h.hi (t - 1) (by omega)
      rw [show k + (m + 1 - m) + t = k + 1 + (m + 1 - m) + (t - 1) from by omega, this]
      congr 1
      omega

variable (lt : α → α → Bool) (ix : α → Nat)
/-- Equal ones stand as they stood. -/
def Stb (d : Array α) : Prop := ∀ i j, i < j → j < d.size → lt d[i]! d[j]! = false → lt d[j]! d[i]! = false → ix d[i]! < ix d[j]!
variable {lt ix}

theorem Stb.rot {d d' : Array α} {s m e : Nat} (h : Stb lt ix d) (r : Rot d d' s m e) (hsm : s ≤ m) (hme : m ≤ e) (he : e ≤ d.size) (hx : ∀ x y, s ≤ x → x < m → m ≤ y → y < e → lt d[y]! d[x]! = true) : Stb lt ix d' := by
  have key : ∀ k, k < d.size → ∃ q, q < d.size ∧ d'[k]! = d[q]! ∧ ((k < s ∨ e ≤ k) ∧ q = k ∨ (s ≤ k ∧ k < s + (e - m) ∧ q = m + (k - s)) ∨ (s + (e - m) ≤ k ∧ k < e ∧ q = k - (e - m))) := by
    intro k hk
    by_cases c1 : k < s ∨ e ≤ k
    · exact ⟨k, hk, r.out k c1, .inl ⟨c1, rfl⟩⟩
    by_cases c2 : k < s + (e - m)
    · refine ⟨m + (k - s), by omega, ?_, .inr (.inl ⟨by omega, c2, rfl⟩)⟩
      rw [← r.lo (k - s) (by omega)]; congr 1; omega
    · refine ⟨k - (e - m), by omega, ?_, .inr (.inr ⟨by omega, by omega, rfl⟩)⟩
      rw [show k - (e - m) = s + (k - s - (e - m)) from by omega, ← r.hi (k - s - (e - m)) (by omega)]; congr 1; omega
  intro i j hij hj h1 h2
  rw [r.size] at hj
  obtain ⟨p, hp, ep, cp⟩ := key i (by omega)
  obtain ⟨q, hq, eq, cq⟩ := key j hj
  rw [ep, eq] at h1 h2 ⊢
  by_cases hpq : p < q
  · exact h p q hpq hq h1 h2
  · have : lt d[p]! d[q]! = true := hx q p (by omega) (by omega) (by omega) (by omega)
    rw [h1] at this
    cases this

theorem Stb.swp {d : Array α} {j : Nat} (h : Stb lt ix d) (hj : j + 1 < d.size) (hl : lt d[j + 1]! d[j]! = true) : Stb lt ix (swp d (j + 1) j) := by
  refine h.rot (s := j) (m := j + 1) (e := j + 2) ?_ (by omega) (by omega) (by omega) (fun x y h1 h2 h3 h4 => ?_)
  · have := Rot.down (d := d) (d' := d) (m := j + 1) (k := j) (Rot.idL d (j + 1) (j + 1 + 1)) (Nat.le_refl _) hj
    exact this
  · obtain rfl : x = j := by omega
    obtain rfl : y = x + 1 := by omega
    exact hl
theorem Stb.insInner {a : Nat} : ∀ (j : Nat) (d : Array α), Stb lt ix d → j < d.size → Stb lt ix (insInner lt a j d)
  | 0, d, h, _ => by unfold Go.Sort.insInner; exact h
  | j + 1, d, h, hj => by
    unfold Go.Sort.insInner
    split
    · rename_i hc
      simp only [Bool.and_eq_true, decide_eq_true_eq] at hc
      exact Stb.insInner j _ (h.swp hj hc.2) (by rw [swp_size]; omega)
    · exact h
theorem insInner_size {a : Nat} : ∀ (j : Nat) (d : Array α), (Go.Sort.insInner lt a j d).size = d.size
  | 0, d => by unfold Go.Sort.insInner; rfl
  | j + 1, d => by
    unfold Go.Sort.insInner
    split
    · rw [insInner_size j, swp_size]
    · rfl
theorem Stb.insOuter {a b : Nat} : ∀ (n i : Nat) (d : Array α), b - i = n → b ≤ d.size → Stb lt ix d → Stb lt ix (insOuter lt a b i d)
  | 0, i, d, hn, _, h => by rw [Go.Sort.insOuter, if_neg (by omega)]; exact h
  | n + 1, i, d, hn, hb, h => by
    rw [Go.Sort.insOuter, if_pos (by omega)]
    exact Stb.insOuter n (i + 1) _ (by omega) (by rw [insInner_size]; exact hb) (h.insInner i d (by omega))
theorem Stb.insertion {a b : Nat} {d : Array α} (h : Stb lt ix d) (hb : b ≤ d.size) : Stb lt ix (insertionSort lt d a b) := Stb.insOuter (b - (a + 1)) (a + 1) d rfl hb h

/-- Parts that stand right: joined. -/
theorem SortedIn.join {d : Array α} {a m b : Nat} (h1 : SortedIn lt a m d) (h2 : SortedIn lt m b d) (hx : ∀ i j, a ≤ i → i < m → m ≤ j → j < b → lt d[j]! d[i]! = false) : SortedIn lt a b d := fun i j hi hij hj => by
  by_cases c1 : j < m
  · exact h1 i j hi hij c1
  · by_cases c2 : i < m
    · exact hx i j hi c2 (by omega) hj
    · exact h2 i j (by omega) hij hj
theorem SortedIn.sub {d : Array α} {a b a' b' : Nat} (h : SortedIn lt a b d) (ha : a ≤ a') (hb : b' ≤ b) : SortedIn lt a' b' d := fun i j hi hij hj => h i j (by omega) hij (by omega)
theorem SortedIn.shift {d d' : Array α} {a b a' b' : Nat} (h : SortedIn lt a b d) (hl : b' - a' ≤ b - a) (he : ∀ t, t < b' - a' → d'[a' + t]! = d[a + t]!) : SortedIn lt a' b' d' := fun i j hi hij hj => by
  have e1 := he (i - a') (by omega)
  have e2 := he (j - a') (by omega)
  rw [show a' + (i - a') = i from by omega] at e1
  rw [show a' + (j - a') = j from by omega] at e2
  rw [e1, e2]
  exact h _ _ (by omega) (by omega) (by omega)
theorem SortedIn.le {d : Array α} (hS : SWO lt) {a b i j : Nat} (h : SortedIn lt a b d) (hi : a ≤ i) (hij : i ≤ j) (hj : j < b) : lt d[j]! d[i]! = false := by
  by_cases c : i = j
  · subst c; exact hS.irrefl _
  · exact h i j hi (by omega) hj

theorem SortedIn.perm_out {d d' : Array α} {a b x y : Nat} (h : SortedIn lt x y d) (p : PermIn a b d d') (ho : y ≤ a ∨ b ≤ x) : SortedIn lt x y d' := fun i j hi hij hj => by
  rw [p.2.1 i (by omega), p.2.1 j (by omega)]
  exact h i j hi hij hj

/-- What symMerge does of [a, m) and [m, b). -/
structure Mrg (lt : α → α → Bool) (ix : α → Nat) (d d' : Array α) (a b : Nat) : Prop where
  perm : PermIn a b d d'
  sort : SortedIn lt a b d'
  stb : Stb lt ix d → Stb lt ix d'

/-- The cut: where the left's rest and the right's first part change places. -/
structure Cut (lt : α → α → Bool) (d : Array α) (a s m e b : Nat) : Prop where
  as : a ≤ s
  sm : s ≤ m
  me : m ≤ e
  eb : e ≤ b
  rl : ∀ x y, s ≤ x → x < m → m ≤ y → y < e → lt d[y]! d[x]! = true
  lr : ∀ x y, a ≤ x → x < s → e ≤ y → y < b → lt d[y]! d[x]! = false

theorem Cut.halves {d d1 : Array α} {a s m e b mid : Nat} (hS : SWO lt) (c : Cut lt d a s m e b) (r : Rot d d1 s m e) (h1 : SortedIn lt a m d) (h2 : SortedIn lt m b d) (hm : mid = s + (e - m)) :
    SortedIn lt a s d1 ∧ SortedIn lt s mid d1 ∧ SortedIn lt mid e d1 ∧ SortedIn lt e b d1 ∧ (∀ i j, a ≤ i → i < mid → mid ≤ j → j < b → lt d1[j]! d1[i]! = false) := by
  have := c.as
  have := c.sm
  have := c.me
  have := c.eb
  subst hm
  refine ⟨SortedIn.shift h1 (by omega) (fun t ht => r.out _ (by omega)), SortedIn.shift h2 (by omega) (fun t ht => r.lo t (by omega)), SortedIn.shift (SortedIn.sub h1 c.as (Nat.le_refl _)) (by omega) (fun t ht => r.hi t (by omega)), SortedIn.shift (SortedIn.sub h2 c.me (Nat.le_refl _)) (by omega) (fun t ht => r.out _ (by omega)), fun i j hi1 hi2 hj1 hj2 => ?_⟩
  have eI : (i < s ∧ d1[i]! = d[i]!) ∨ (s ≤ i ∧ d1[i]! = d[m + (i - s)]!) := by
    by_cases k : i < s
    · exact .inl ⟨k, r.out _ (by omega)⟩
    · exact .inr ⟨by omega, by rw [← r.lo (i - s) (by omega)]; congr 1; omega⟩
  have eJ : (j < e ∧ d1[j]! = d[j - (e - m)]!) ∨ (e ≤ j ∧ d1[j]! = d[j]!) := by
    by_cases k : j < e
    · refine .inl ⟨k, ?_⟩
      rw [show j - (e - m) = s + (j - s - (e - m)) from by omega, ← r.hi (j - s - (e - m)) (by omega)]; congr 1; omega
    · exact .inr ⟨by omega, r.out _ (by omega)⟩
  rcases eI with ⟨k1, e1⟩ | ⟨k1, e1⟩ <;> rcases eJ with ⟨k2, e2⟩ | ⟨k2, e2⟩ <;> rw [e1, e2]
  · exact h1 _ _ hi1 (by omega) (by omega)
  · exact c.lr _ _ hi1 k1 k2 hj2
  · exact hS.asymmA (c.rl _ _ (by omega) (by omega) (by omega) (by omega))
  · exact h2 _ _ (by omega) (by omega) hj2

/-- Two halves, each brought in order. -/
theorem halves_join {d1 d2 d3 : Array α} {a mid b : Nat} (hx : ∀ i j, a ≤ i → i < mid → mid ≤ j → j < b → lt d1[j]! d1[i]! = false) (p1 : PermIn a mid d1 d2) (s1 : SortedIn lt a mid d2) (p2 : PermIn mid b d2 d3) (s2 : SortedIn lt mid b d3) (ham : a ≤ mid) (hmb : mid ≤ b) (hb : b ≤ d1.size) :
    PermIn a b d1 d3 ∧ SortedIn lt a b d3 := by
  have hs := p1.1
  refine ⟨permIn_trans _ _ _ _ _ (permIn_mono _ _ _ _ _ _ (Nat.le_refl _) hmb hb p1) (permIn_mono _ _ _ _ _ _ ham (Nat.le_refl _) (by omega) p2), SortedIn.join (SortedIn.perm_out s1 p2 (.inl (Nat.le_refl _))) s2 (fun i j hi1 hi2 hj1 hj2 => ?_)⟩
  have k1 : ∀ i j, a ≤ i → i < mid → mid ≤ j → j < b → lt d2[j]! d2[i]! = false := fun i j hi1 hi2 hj1 hj2 => by
    rw [p1.2.1 j (.inr hj1)]
    exact permIn_all _ _ a mid (fun x => lt d1[j]! x = false) (by omega) p1 (fun i h1 h2 => hx i j h1 h2 hj1 hj2) i hi1 hi2
  rw [p2.2.1 i (.inl hi2)]
  exact permIn_all _ _ mid b (fun y => lt y d2[i]! = false) (by omega) p2 (fun j h1 h2 => k1 i j hi1 hi2 h1 h2) j hj1 hj2

/-- One rotation is the whole: the element of a part of one. -/
theorem Cut.one {d d' : Array α} {a s m e b : Nat} (hS : SWO lt) (c : Cut lt d a s m e b) (r : Rot d d' s m e) (p : PermIn a b d d') (h1 : SortedIn lt a m d) (h2 : SortedIn lt m b d)
    (hb : b ≤ d.size) (hl : ∀ x y, a ≤ x → x < s → m ≤ y → y < e → lt d[y]! d[x]! = false) (hr : ∀ x y, s ≤ x → x < m → e ≤ y → y < b → lt d[y]! d[x]! = false) : Mrg lt ix d d' a b := by
  have cs := c.as
  have csm := c.sm
  have cme := c.me
  have ceb := c.eb
  obtain ⟨q1, q2, q3, q4, q5⟩ := c.halves hS r h1 h2 rfl
  refine ⟨p, SortedIn.join (m := s + (e - m)) (SortedIn.join q1 q2 (fun i j hi1 hi2 hj1 hj2 => ?_)) (SortedIn.join q3 q4 (fun i j hi1 hi2 hj1 hj2 => ?_)) q5, fun h => h.rot r c.sm c.me (by omega) c.rl⟩
  · rw [r.out i (.inl hi2), show j = s + (j - s) from by omega, r.lo (j - s) (by omega)]
    exact hl _ _ hi1 hi2 (by omega) (by omega)
  · rw [r.out j (.inr hj1), show i = s + (e - m) + (i - s - (e - m)) from by omega, r.hi _ (by omega)]
    exact hr _ _ (by omega) (by omega) hj1 hj2

/-- The search's answer: a cut. -/
theorem cut_of {d : Array α} {a m b mid s st r : Nat} (hS : SWO lt) (h1 : SortedIn lt a m d) (h2 : SortedIn lt m b d) (ham : a < m) (hmb : m < b) (hmid : mid = (a + b) / 2)
    (hst : st = if m > mid then mid + m - b else a) (hr : r = if m > mid then mid else m) (hs1 : st ≤ s) (hs2 : s ≤ r)
    (hq : st < s → lt d[mid + m - s]! d[s - 1]! = false) (hn : s < r → lt d[mid + m - 1 - s]! d[s]! = true) :
    Cut lt d a s m (mid + m - s) b := by
  have b1 : a ≤ st ∧ r ≤ m ∧ mid + m - r ≥ m ∧ mid + m ≤ b + st := by
    by_cases c : m > mid
    · rw [if_pos c] at hst hr; omega
    · rw [if_neg c] at hst hr; omega
  refine ⟨by omega, by omega, by omega, by omega, fun x y hx1 hx2 hy1 hy2 => ?_, fun x y hx1 hx2 hy1 hy2 => ?_⟩
  · have hsr : s < r := by
      by_cases c : m > mid
      · rw [if_pos c] at hst hr; omega
      · rw [if_neg c] at hst hr; omega
    have k := hn hsr
    have e1 := SortedIn.le hS h1 (i := s) (j := x) (by omega) hx1 hx2
    have e2 := SortedIn.le hS h2 (i := y) (j := mid + m - 1 - s) hy1 (by omega) (by omega)
    cases c : lt d[y]! d[x]! with
    | true => rfl
    | false =>
      have := hS.ntrans _ _ _ (hS.ntrans _ _ _ e2 c) e1
      rw [k] at this
      cases this
  · have hss : st < s := by
      by_cases c : m > mid
      · rw [if_pos c] at hst hr; omega
      · rw [if_neg c] at hst hr; omega
    have k := hq hss
    have e1 := SortedIn.le hS h1 (i := x) (j := s - 1) hx1 (by omega) (by omega)
    have e2 := SortedIn.le hS h2 (i := mid + m - s) (j := y) (by omega) hy1 hy2
    exact hS.ntrans _ _ _ (hS.ntrans _ _ _ e2 k) e1


omit [Inhabited α] in
/-- Rows that stand right, equal ones as they stood: one and the same. -/
theorem stable_unique {d d' : List α} (hp : d.Perm d')
    (h : d.Pairwise fun x y => lt y x = false ∧ (lt x y = false → ix x < ix y)) (h' : d'.Pairwise fun x y => lt y x = false ∧ (lt x y = false → ix x < ix y)) : d = d' := by
  refine hp.eq_of_pairwise (fun x y _ _ h1 h2 => ?_) h h'
  have := h1.2 h2.1
  have := h2.2 h1.1
  omega

theorem pairwise_of {d : Array α} (hs : SortedIn lt 0 d.size d) (hb : Stb lt ix d) : d.toList.Pairwise fun x y => lt y x = false ∧ (lt x y = false → ix x < ix y) := by
  rw [List.pairwise_iff_getElem]
  intro i j hi hj hij
  have hi' : i < d.size := by simpa using hi
  have hj' : j < d.size := by simpa using hj
  have h1 := hs i j (Nat.zero_le _) hij hj'
  have h2 := hb i j hij hj'
  rw [getElem!_pos d i hi', getElem!_pos d j hj'] at h1 h2
  exact ⟨by simpa using h1, fun h => by simpa using h2 (by simpa using h) h1⟩

theorem Mrg.idem {d : Array α} {a b : Nat} (h : SortedIn lt a b d) : Mrg lt ix d d a b := ⟨permIn_refl _ _ _, h, id⟩
/-- A merge: the rotation, and each half's own. -/
theorem mrg_of (hS : SWO lt) {d d1 d2 d3 : Array α} {a s m e b mid : Nat} (c : Cut lt d a s m e b) (r : Rot d d1 s m e) (p : PermIn s e d d1) (hm : mid = s + (e - m)) (h1 : SortedIn lt a m d) (h2 : SortedIn lt m b d)
    (hb : b ≤ d.size) (m2 : Mrg lt ix d1 d2 a mid) (m3 : Mrg lt ix d2 d3 mid b) : Mrg lt ix d d3 a b := by
  have cs := c.as
  have csm := c.sm
  have cme := c.me
  have ceb := c.eb
  obtain ⟨_, _, _, _, q5⟩ := c.halves hS r h1 h2 hm
  have k := halves_join q5 m2.perm m2.sort m3.perm m3.sort (by omega) (by omega) (by rw [r.size]; exact hb)
  exact ⟨permIn_trans _ _ _ _ _ (permIn_mono _ _ _ _ _ _ cs ceb hb p) k.1, k.2, fun h => m3.stb (m2.stb (h.rot r csm cme (by omega) c.rl))⟩

end
end Go.Proofs.Ytpohmoakilioiaa
