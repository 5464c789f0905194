/- A range over a function whose elements lie in memory that the caller may keep: the iterator's contract with two sets of its own (T: what a round is to keep; M, of these: what the iterator itself changes). Conditions: none (over any program). -/
import Derived.Test.YtmmoopioiheleaaRange
namespace Go.Proofs.Ytmmoopioiheleaa
set_option linter.unusedSimpArgs false
set_option linter.unusedVariables false
open Go.RowKit

/-- Blocks of bytes lie as they lay. -/
def U8 (w w' : World) : Prop := ∀ (k : Nat) (cs : Array Value) (fr : Nat × Nat), w.heap[k]? = some (Obj.cells cs 5 fr) → w'.heap[k]? = some (Obj.cells cs 5 fr)
theorem U8.rfl_ (w : World) : U8 w w := fun _ _ _ h => h
theorem U8.trans {a b c : World} (h : U8 a b) (k : U8 b c) : U8 a c := fun i cs fr e => k i cs fr (h i cs fr e)
theorem U8.of_ext {a b : World} (h : Ext a b) : U8 a b := fun k cs fr e => ((Ext.below h).block k (Array.getElem?_eq_some_iff.1 e).1).trans e
theorem U8.putLoop {w : World} {l : Nat} {r : Loop} (h : w.heap[l]? = some (.loop r)) (o : Obj) : U8 w (w.putObj l o) := fun k cs fr e => by
  by_cases hk : k = l
  · subst hk; rw [h] at e; cases e
  · rw [World.putObj_heap_other hk]; exact e
theorem U8.putDef {w : World} {l : Nat} {r : Option (List Deferred)} (h : w.heap[l]? = some (.deferred r)) (o : Obj) : U8 w (w.putObj l o) := fun k cs fr e => by
  by_cases hk : k = l
  · subst hk; rw [h] at e; cases e
  · rw [World.putObj_heap_other hk]; exact e
theorem U8.set {w : World} {g o : Nat} {u : Value} {cs : Array Value} {t : TypeId} {fr : Nat × Nat} (hg : w.heap[g]? = some (.cells cs t fr)) (ht : t ≠ 5) : U8 w (w.setCell ⟨g, o, none⟩ u) := fun k cs' fr' e => by
  by_cases hk : k = g
  · subst hk; rw [hg] at e; cases e; exact absurd rfl ht
  · rw [Below.heap_setCell _ _ _ _ (fun e => hk e)]; exact e

/-- J speaks of nothing that the iterator changes (M): it abides a turn there. -/
def AbM {α : Type} (J : List α → (Nat → Prop) → (Nat → Prop) → World → Prop) : Prop :=
  ∀ pre (T T' M M' : Nat → Prop) (W W' : World), J pre T M W → Kept (fun k => ¬ M k) W W' → U8 W W' → (∀ k, T k → T' k) → (∀ k, T' k → T k ∨ W.heap.size ≤ k) → (∀ k, M k → M' k) → (∀ k, M' k → M k ∨ W.heap.size ≤ k) → J pre T' M' W'

/-- **THE ITERATOR's CONTRACT**. -/
def SeqM {α : Type} (P : Program) (g : Nat) (lb : Array Value) (Ok : α → Array Value → Nat → (Nat → Prop) → World → Prop) (S : Nat → Prop) (es : List α) (w : World) : Prop :=
  ∀ (n l : Nat) (J Jx : List α → (Nat → Prop) → (Nat → Prop) → World → Prop) (W : World), Ext w W → AbM J → AbM Jx →
    (∀ pre x vs (T M : Nat → Prop) (W1 : World) (m : Nat), J pre T M W1 → pre ++ [x] <+: es → Ok x vs W.heap.size M W1 → (∀ k, T k → W.heap.size ≤ k ∧ k < W1.heap.size) → (∀ k, M k → T k) → W.heap.size ≤ W1.heap.size →
      YieldAt Fence.wide m P l vs W1 fun en W' =>
        (en = .returned (.bool true) ∧ J (pre ++ [x]) T M W' ∧ Kept (fun k => T k ∨ (k < W.heap.size ∧ ¬ S k)) W1 W') ∨ (en = .returned (.bool false) ∧ Jx (pre ++ [x]) T M W' ∧ Kept T W1 W')) →
    J [] (fun _ => False) (fun _ => False) W →
    CallsIn Fence.wide n P g (#[.func (.yield l) #[] #[]] ++ lb) W fun en W' => (∃ v, en = .returned v) ∧ ((∃ T M, J es T M W') ∨ (∃ pre T M, pre <+: es ∧ Jx pre T M W'))

/-- How the body of a round may be left. -/
def postM {α : Type} (B : Nat) (S T M : Nat → Prop) (I : List α → (Nat → Prop) → (Nat → Prop) → World → Prop) (Ix : Code → List α → (Nat → Prop) → (Nat → Prop) → World → Prop) (xs : List α) (W : World) : Exit → Act → World → Prop
  | .normal, _, W' => I xs T M W' ∧ Kept (fun k => T k ∨ (k < B + 2 ∧ ¬ S k)) W W'
  | .ret, _, W' => Ix .ret xs T M W' ∧ Kept (fun k => T k ∨ k = B ∨ k = B + 1) W W'
  | .exit id, _, W' => Ix (.exit id) xs T M W' ∧ Kept (fun k => T k ∨ k = B ∨ k = B + 1) W W'
  | .goto t, _, W' => Ix (.goto t) xs T M W' ∧ Kept (fun k => T k ∨ k = B ∨ k = B + 1) W W'
  | .panic _, _, _ => False
  | .outgrown, _, _ => False

/-- The caller's invariant speaks of nothing that the iterator changes, nor of the loop's two blocks of book-keeping. -/
def AbIM {α : Type} (B : Nat) (I : List α → (Nat → Prop) → (Nat → Prop) → World → Prop) : Prop :=
  ∀ pre (T T' M M' : Nat → Prop) (W W' : World), I pre T M W → Kept (fun k => ¬ M k ∧ k ≠ B ∧ k ≠ B + 1) W W' → U8 W W' → (∀ k, T k → T' k) → (∀ k, T' k → T k ∨ W.heap.size ≤ k) → (∀ k, M k → M' k) → (∀ k, M' k → M k ∨ W.heap.size ≤ k) → I pre T' M' W'

theorem AbIM.put {α : Type} {B : Nat} {I : List α → (Nat → Prop) → (Nat → Prop) → World → Prop} (h : AbIM B I) {pre : List α} {T M : Nat → Prop} {W : World} (hi : I pre T M W) {r : Loop} (hl : W.heap[B + 1]? = some (.loop r)) (o : Obj) : I pre T M (W.putObj (B + 1) o) :=
  h pre T T M M W _ hi (Kept.putObj _ _ _ _ (by simp)) (U8.putLoop hl o) (fun _ h => h) (fun _ h => .inl h) (fun _ h => h) (fun _ h => .inl h)

variable {P : Program}

/-- **THE CALLER's LAW.** -/
theorem range_lawM {α : Type} {n : Nat} {g : Operand} {ps : Array Tmp} {assign body : Code} {Q : Exit → Act → World → Prop} {a : Act} {w : World}
    {gf : Nat} {lb : Array Value} (hg : a.eval g = .func (.func gf) #[] lb) (eg : ∀ args w, (callFunc gf args).run P w = .ok (.enter gf args) w)
    {Ok : α → Array Value → Nat → (Nat → Prop) → World → Prop} {S : Nat → Prop} {es : List α} {w0 : World} (hseq : SeqM P gf lb Ok S es w0) (hb0 : Ext w0 w) (hps : ∀ x vs M W, Ok x vs (w.heap.size + 2) M W → vs.size = ps.size) (hS : ∀ k, S k → k < w.heap.size)
    (I : List α → (Nat → Prop) → (Nat → Prop) → World → Prop) (Ix : Code → List α → (Nat → Prop) → (Nat → Prop) → World → Prop) (hI : AbIM w.heap.size I) (hIx : ∀ c, AbIM w.heap.size (Ix c)) (h0 : I [] (fun _ => False) (fun _ => False) w)
    (hround : ∀ (l : Nat) (m : Nat) (pre : List α) (x : α) (vs : Array Value) (T M : Nat → Prop) (W : World), l = w.heap.size + 1 → I pre T M W → pre ++ [x] <+: es → Ok x vs (w.heap.size + 2) M W → (∀ k, T k → w.heap.size + 2 ≤ k ∧ k < W.heap.size) → (∀ k, M k → T k) → w.heap.size + 2 ≤ W.heap.size → (∃ r, W.heap[w.heap.size + 1]? = some (.loop r)) →
      assign.wpIn (Fence.wide.inRound l) m P (Exit.then (fun a' W' => Ext W W' ∧ ∀ W2, Kept (fun k => k ≠ w.heap.size + 1) W' W2 → body.wpIn (Fence.wide.inRound l) m P (postM w.heap.size S T M I Ix (pre ++ [x]) W2) a' W2) (fun _ _ _ => False))
        { tmps := (ps.zip vs).foldl (fun t (p, v) => t.setIfInBounds p v) a.tmps, defers := [] } W)
    (hdone : ∀ (T M : Nat → Prop) (W : World), I es T M W → W.heap[w.heap.size]? = some (.deferred (some [])) → Q .normal { a with defers := { target := .collected w.heap.size, args := #[] } :: a.defers } W)
    (hstop : ∀ (c : Code) (pre : List α) (T M : Nat → Prop) (W : World), pre <+: es → Ix c pre T M W → W.heap[w.heap.size]? = some (.deferred (some [])) → c.wpIn Fence.wide n P Q { a with defers := { target := .collected w.heap.size, args := #[] } :: a.defers } W) :
    (Code.rangeFunc g ps assign body).wpIn Fence.wide n P Q a w := by
  refine wpIn_rangeFunc ?_
  intro fn hfn
  -- the record, as it stands in each state
  let rec_ : LoopState → Option Code → Loop := fun st pe => { state := st, pending := pe, fn, tmps := a.tmps, params := ps, assign, body, defers := w.heap.size }
  have hW1 : ∃ W1, W1 = (w.alloc (.deferred (some []))).alloc (.loop (rec_ .ready none)) := ⟨_, rfl⟩
  obtain ⟨W1, hW1⟩ := hW1
  have hx1 : Ext w W1 := by rw [hW1]; exact Ext.alloc (Ext.alloc (Ext.rfl_ w) _) _
  have hz1 : W1.heap.size = w.heap.size + 2 := by rw [hW1]; simp
  have hL1 : W1.heap[w.heap.size + 1]? = some (.loop (rec_ .ready none)) := by
    have := World.alloc_heap_new (w.alloc (.deferred (some []))) (.loop (rec_ .ready none))
    rw [World.size_alloc] at this
    rw [hW1]; exact this
  have hD1 : W1.heap[w.heap.size]? = some (.deferred (some [])) := by
    rw [hW1]; exact (Below.heap_alloc _ _ _ (by simp)).trans (World.alloc_heap_new w _)
  -- what the iterator is handed as the body's invariant
  let J : List α → (Nat → Prop) → (Nat → Prop) → World → Prop := fun pre T M W => I pre T M W ∧ W.heap[w.heap.size + 1]? = some (.loop (rec_ .ready none)) ∧ W.heap[w.heap.size]? = some (.deferred (some [])) ∧ (¬ T w.heap.size ∧ ¬ M w.heap.size) ∧ (¬ T (w.heap.size + 1) ∧ ¬ M (w.heap.size + 1))
  let Jx : List α → (Nat → Prop) → (Nat → Prop) → World → Prop := fun pre T M W => ∃ c, Ix c pre T M W ∧ W.heap[w.heap.size + 1]? = some (.loop (rec_ .done (some c))) ∧ W.heap[w.heap.size]? = some (.deferred (some [])) ∧ (¬ T w.heap.size ∧ ¬ M w.heap.size) ∧ (¬ T (w.heap.size + 1) ∧ ¬ M (w.heap.size + 1))
  have weak : ∀ {M : Nat → Prop} {W W' : World}, Kept (fun k => ¬ M k) W W' → Kept (fun k => ¬ M k ∧ k ≠ w.heap.size ∧ k ≠ w.heap.size + 1) W W' := fun h => h.mono fun k hk => hk.1
  have there : ∀ {W : World} {k : Nat} {o : Obj}, W.heap[k]? = some o → k < W.heap.size := fun h => (Array.getElem?_eq_some_iff.1 h).1
  have stay : ∀ {T T' : Nat → Prop} {W : World} {k : Nat} {o : Obj}, W.heap[k]? = some o → ¬ T k → (∀ k, T' k → T k ∨ W.heap.size ≤ k) → ¬ T' k := fun ho ht hn h => by
    rcases hn _ h with h | h
    · exact ht h
    · have := there ho; omega
  have hJ : AbM J := by
    rintro pre T T' M M' W W' ⟨hi, hl, hd, ht1, ht2⟩ hk h8 hs hn hms hmn
    exact ⟨hI pre T T' M M' W W' hi (weak hk) h8 hs hn hms hmn, (hk.block _ (there hl) ht2.2).trans hl, (hk.block _ (there hd) ht1.2).trans hd, ⟨stay hd ht1.1 hn, stay hd ht1.2 hmn⟩, ⟨stay hl ht2.1 hn, stay hl ht2.2 hmn⟩⟩
  have hJx : AbM Jx := by
    rintro pre T T' M M' W W' ⟨c, hi, hl, hd, ht1, ht2⟩ hk h8 hs hn hms hmn
    exact ⟨c, hIx c pre T T' M M' W W' hi (weak hk) h8 hs hn hms hmn, (hk.block _ (there hl) ht2.2).trans hl, (hk.block _ (there hd) ht1.2).trans hd, ⟨stay hd ht1.1 hn, stay hd ht1.2 hmn⟩, ⟨stay hl ht2.1 hn, stay hl ht2.2 hmn⟩⟩
  have hI1 : I [] (fun _ => False) (fun _ => False) W1 := hI [] _ _ _ _ w W1 h0 (Kept.of_ext hx1) (U8.of_ext hx1) (fun _ h => h) (fun _ h => .inl h) (fun _ h => h) (fun _ h => .inl h)
  refine ⟨w.heap.size + 1, [{ target := .collected w.heap.size, args := #[] }], W1, { target := .fn (.func gf) lb, args := #[.func (.yield (w.heap.size + 1)) #[] #[]] }, W1, gf,
    #[.func (.yield (w.heap.size + 1)) #[] #[]] ++ lb, W1, ?_, ?_, fun f' _ => trivial, ?_, fun h => by simp [Fence.wide] at h, ?_⟩
  · rw [hW1]; exact run_enterLoop_outer _ _ _ _ _
  · simp only [resolve, hg]
    simp [go_sem]
  · simp [invoke, go_sem, eg]
  refine (hseq (n - 1) (w.heap.size + 1) J Jx W1 (hb0.trans hx1) hJ hJx ?_ ⟨hI1, hL1, hD1, ⟨id, id⟩, ⟨id, id⟩⟩).mono ?_
  · -- one round
    rintro pre x vs T M W m ⟨hi, hl, hd, htm1, htm2⟩ hpre hok hT hMT hsz
    have ht1 := htm1.1
    have ht2 := htm2.1
    rw [hz1] at hT hsz hok
    have hy := run_yield (P := P) (args := vs) hl (hps x vs M W hok)
    refine ⟨fn, _, assign, body, hy, roundIn_of_wpIn hfn ?_⟩
    refine wpIn_mono (hround _ m pre x vs T M W rfl hi hpre hok hT hMT hsz ⟨_, hl⟩) ?_
    rintro e a' W' hp
    cases e with
    | normal =>
      obtain ⟨hex, hbody⟩ := hp
      have hl' := ((Ext.below hex).block _ (there hl)).trans hl
      have hd' := ((Ext.below hex).block _ (there hd)).trans hd
      refine ⟨_, run_beginRound hl' rfl, ?_⟩
      have hk2 : Kept (fun k => k ≠ w.heap.size + 1) W' (W'.putObj (w.heap.size + 1) (.loop { rec_ .ready none with state := .busy })) := Kept.putObj _ _ _ _ (by simp)
      have hl2 := World.putObj_heap_same (w := W') (o := .loop { rec_ .ready none with state := .busy }) (there hl')
      have hd2 := (hk2.block _ (there hd') (by simp)).trans hd'
      have hl3 : ∀ (W3 : World), Kept (fun k => T k ∨ k = w.heap.size ∨ k = w.heap.size + 1) (W'.putObj (w.heap.size + 1) (.loop { rec_ .ready none with state := .busy })) W3 → W3.heap[w.heap.size + 1]? = some (.loop { rec_ .ready none with state := .busy }) := fun W3 h3 => (h3.block _ (there hl2) (.inr (.inr rfl))).trans hl2
      -- what the round's end makes of the record
      have fin : ∀ (jump : Option Code) (W3 : World), Kept (fun k => T k ∨ k = w.heap.size ∨ k = w.heap.size + 1) (W'.putObj (w.heap.size + 1) (.loop { rec_ .ready none with state := .busy })) W3 →
          (Instr.endRound (w.heap.size + 1) jump).run P W3 = .ok (.bool jump.isNone) (W3.putObj (w.heap.size + 1) (.loop (rec_ (if jump.isNone then .ready else .done) jump))) ∧
          (W3.putObj (w.heap.size + 1) (.loop (rec_ (if jump.isNone then .ready else .done) jump))).heap[w.heap.size + 1]? = some (.loop (rec_ (if jump.isNone then .ready else .done) jump)) ∧
          (W3.putObj (w.heap.size + 1) (.loop (rec_ (if jump.isNone then .ready else .done) jump))).heap[w.heap.size]? = some (.deferred (some [])) := by
        intro jump W3 h3
        have hl3 := (h3.block _ (there hl2) (.inr (.inr rfl))).trans hl2
        have hd3 := (h3.block _ (there hd2) (.inr (.inl rfl))).trans hd2
        exact ⟨run_endRound jump hl3, World.putObj_heap_same (there hl3), (World.putObj_heap_other (by omega)).trans hd3⟩
      refine wpIn_mono (hbody _ hk2) ?_
      rintro e a3 W3 hp
      cases e with
      | normal =>
        obtain ⟨hi3, hk3⟩ := hp
        obtain ⟨hr, hl4, hd4⟩ := fin none W3 (hk3.mono fun k hk => hk.imp id fun h => h.elim (fun e => ⟨by omega, fun h' => by have := hS _ h'; omega⟩) (fun e => ⟨by omega, fun h' => by have := hS _ h'; omega⟩))
        refine ⟨_, _, hr, .inl ⟨rfl, ⟨hI.put hi3 (hl3 W3 (hk3.mono fun k hk => hk.imp id fun h => h.elim (fun e => ⟨by omega, fun h' => by have := hS _ h'; omega⟩) (fun e => ⟨by omega, fun h' => by have := hS _ h'; omega⟩))) _, hl4, hd4, htm1, htm2⟩, ?_⟩⟩
        have hK : Kept (fun k => (T k ∨ (k < w.heap.size + 2 ∧ ¬ S k)) ∧ k ≠ w.heap.size + 1) W (W3.putObj (w.heap.size + 1) (.loop (rec_ .ready none))) :=
          (((Kept.of_ext hex).trans (hk2.mono fun k hk => hk.2)).trans (hk3.mono fun k hk => hk.1)).trans (Kept.putObj _ _ _ _ (by simp))
        refine ⟨hK.os, hK.tape, hK.output, hK.size, fun k hk hx => ?_⟩
        rw [hz1] at hx
        by_cases e : k = w.heap.size + 1
        · rw [e]; exact hl4.trans hl.symm
        · exact hK.block k hk ⟨hx, e⟩
      | ret =>
        obtain ⟨hi3, hk3⟩ := hp
        obtain ⟨hr, hl4, hd4⟩ := fin (some .ret) W3 hk3
        exact ⟨_, _, hr, .inr ⟨rfl, ⟨.ret, (hIx _).put hi3 (hl3 W3 hk3) _, hl4, hd4, htm1, htm2⟩, (((Kept.of_ext hex).trans (hk2.mono fun k hk e => ht2 (by rw [← e]; exact hk))).trans (hk3.mono fun k hk => .inl hk)).trans (Kept.putObj _ _ _ _ ht2)⟩⟩
      | exit id =>
        obtain ⟨hi3, hk3⟩ := hp
        obtain ⟨hr, hl4, hd4⟩ := fin (some (.exit id)) W3 hk3
        exact ⟨_, _, hr, .inr ⟨rfl, ⟨.exit id, (hIx _).put hi3 (hl3 W3 hk3) _, hl4, hd4, htm1, htm2⟩, (((Kept.of_ext hex).trans (hk2.mono fun k hk e => ht2 (by rw [← e]; exact hk))).trans (hk3.mono fun k hk => .inl hk)).trans (Kept.putObj _ _ _ _ ht2)⟩⟩
      | goto t =>
        obtain ⟨hi3, hk3⟩ := hp
        obtain ⟨hr, hl4, hd4⟩ := fin (some (.goto t)) W3 hk3
        exact ⟨_, _, hr, .inr ⟨rfl, ⟨.goto t, (hIx _).put hi3 (hl3 W3 hk3) _, hl4, hd4, htm1, htm2⟩, (((Kept.of_ext hex).trans (hk2.mono fun k hk e => ht2 (by rw [← e]; exact hk))).trans (hk3.mono fun k hk => .inl hk)).trans (Kept.putObj _ _ _ _ ht2)⟩⟩
      | panic ch => exact hp.elim
      | outgrown => exact hp.elim
    | ret => exact hp.elim
    | exit id => exact hp.elim
    | goto t => exact hp.elim
    | panic ch => exact hp.elim
    | outgrown => exact hp.elim
  · -- behind the iterator
    rintro e W2 ⟨⟨v, rfl⟩, (⟨T, M, hi, hl, hd, ht1, ht2⟩ | ⟨pre, T, M, hpre, c, hi, hl, hd, ht1, ht2⟩)⟩
    · exact ⟨none, _, run_endLoop hl (by simp [rec_]), hdone T M _ (hI.put hi hl _) ((World.putObj_heap_other (by omega)).trans hd)⟩
    · exact ⟨some c, _, run_endLoop hl (by simp [rec_]), hstop c pre T M _ hpre ((hIx c).put hi hl _) ((World.putObj_heap_other (by omega)).trans hd)⟩


end Go.Proofs.Ytmmoopioiheleaa
