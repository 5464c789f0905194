/- A range over a function whose elements lie in memory: the iterator's contract, the caller's law. Conditions: none (over any program). -/
import Derived.Test.YteooaplimiifiaaGreatMem
import Derived.RangeFuncNested
import Derived.RangeFuncBound
import Derived.RangeFuncCalls
import Derived.RangeFuncLeaves
import Derived.OwnWalkIn
import Derived.TacticsInMore
import Derived.LoopNIn
import Derived.LoopIn
namespace Go.Proofs.YteooaplimiifiaaGreat
set_option linter.unusedSimpArgs false
set_option linter.unusedVariables false
set_option maxRecDepth 100000
open Go.RowKit

/-- What lies at the blocks of X lies as it lay; the streams are as they were; no block has gone. -/
structure Kept (X : Nat → Prop) (w w' : World) : Prop where
  os : w'.os = w.os
  tape : w'.tape = w.tape
  output : w'.output = w.output
  size : w.heap.size ≤ w'.heap.size
  block : ∀ k, k < w.heap.size → X k → w'.heap[k]? = w.heap[k]?

theorem Kept.rfl_ (X : Nat → Prop) (w : World) : Kept X w w := ⟨rfl, rfl, rfl, Nat.le_refl _, fun _ _ _ => rfl⟩
theorem Kept.trans {X : Nat → Prop} {a b c : World} (h : Kept X a b) (k : Kept X b c) : Kept X a c :=
  ⟨k.os.trans h.os, k.tape.trans h.tape, k.output.trans h.output, Nat.le_trans h.size k.size, fun i hi hx => (k.block i (Nat.lt_of_lt_of_le hi h.size) hx).trans (h.block i hi hx)⟩
theorem Kept.mono {X Y : Nat → Prop} {a b : World} (h : Kept X a b) (hy : ∀ k, Y k → X k) : Kept Y a b := ⟨h.os, h.tape, h.output, h.size, fun k hk hx => h.block k hk (hy k hx)⟩
theorem Kept.mono' {X Y : Nat → Prop} {a b : World} (h : Kept X a b) (hy : ∀ k, k < a.heap.size → Y k → X k) : Kept Y a b := ⟨h.os, h.tape, h.output, h.size, fun k hk hx => h.block k hk (hy k hk hx)⟩
theorem Kept.of_ext {X : Nat → Prop} {a b : World} (h : Ext a b) : Kept X a b := ⟨(Ext.below h).os, (Ext.below h).tape, (Ext.below h).output, (Ext.below h).size, fun k hk _ => (Ext.below h).block k hk⟩
theorem Kept.ext {X : Nat → Prop} {a b : World} (h : Kept X a b) (hx : ∀ k, k < a.heap.size → X k) : Ext a b := ⟨h.os, h.tape, h.output, h.size, fun k hk => h.block k hk (hx k hk)⟩
theorem Kept.putObj (X : Nat → Prop) (w : World) (l : Nat) (o : Obj) (hl : ¬ X l) : Kept X w (w.putObj l o) :=
  ⟨rfl, rfl, rfl, by simp [World.putObj], fun k _ hx => World.putObj_heap_other (fun e => hl (by rw [← e]; exact hx))⟩
theorem Kept.setCell {X : Nat → Prop} {a w : World} (h : Kept X a w) {p : Addr} (hp : ¬ X p.block) (u : Value) : Kept X a (w.setCell p u) :=
  h.trans ⟨rfl, rfl, rfl, by simp [World.setCell], fun k _ hx => Below.heap_setCell _ _ _ _ (fun e => hp (by rw [← e]; exact hx))⟩
theorem Kept.then_ {X : Nat → Prop} {a w w' : World} (h : Kept X a w) (k : Ext w w') : Kept X a w' := h.trans (Kept.of_ext k)

/-- J speaks of nothing that is the iterator's own (T): it abides a turn there. -/
def AbJ {α : Type} (J : List α → (Nat → Prop) → World → Prop) : Prop :=
  ∀ pre (T T' : Nat → Prop) (W W' : World), J pre T W → Kept (fun k => ¬ T k) W W' → (∀ k, T k → T' k) → (∀ k, T' k → T k ∨ W.heap.size ≤ k) → J pre T' W'

/-- **THE ITERATOR's CONTRACT**: whatever the loop's body, it goes over 'es', each element lying in memory as 'Ok' says when it is handed over; what it keeps of its own between two rounds is T (new blocks, all); a round keeps T, and of what lay when the loop began all but S. -/
def SeqTT {α : Type} (P : Program) (g : Nat) (lb : Array Value) (Ok : α → Array Value → Nat → (Nat → Prop) → World → Prop) (S : Nat → Prop) (es : List α) (w : World) : Prop :=
  ∀ (n l : Nat) (J Jx : List α → (Nat → Prop) → World → Prop) (W : World), Ext w W → AbJ J → AbJ Jx →
    (∀ pre x vs (T : Nat → Prop) (W1 : World) (m : Nat), J pre T W1 → pre ++ [x] <+: es → Ok x vs W.heap.size T W1 → (∀ k, T k → W.heap.size ≤ k ∧ k < W1.heap.size) → W.heap.size ≤ W1.heap.size →
      YieldAt Fence.wide m P l vs W1 fun en W' =>
        (en = .returned (.bool true) ∧ J (pre ++ [x]) T W' ∧ Kept (fun k => T k ∨ (k < W.heap.size ∧ ¬ S k)) W1 W') ∨ (en = .returned (.bool false) ∧ Jx (pre ++ [x]) T W' ∧ Kept T W1 W')) →
    J [] (fun _ => False) W →
    CallsIn Fence.wide n P g (#[.func (.yield l) #[] #[]] ++ lb) W fun en W' => (∃ v, en = .returned v) ∧ ((∃ T, J es T W') ∨ (∃ pre T, pre <+: es ∧ Jx pre T W'))
/-- As that, where what is handed over is not said to lie apart from what is the iterator's own. -/
def SeqT {α : Type} (P : Program) (g : Nat) (lb : Array Value) (Ok : α → Array Value → World → Prop) (S : Nat → Prop) (es : List α) (w : World) : Prop := SeqTT P g lb (fun x vs _ _ W => Ok x vs W) S es w

/-- How the body of a round may be left. -/
def postT {α : Type} (B : Nat) (S T : Nat → Prop) (I : List α → (Nat → Prop) → World → Prop) (Ix : Code → List α → (Nat → Prop) → World → Prop) (xs : List α) (W : World) : Exit → Act → World → Prop
  | .normal, _, W' => I xs T W' ∧ Kept (fun k => T k ∨ (k < B + 2 ∧ ¬ S k)) W W'
  | .ret, _, W' => Ix .ret xs T W' ∧ Kept (fun k => T k ∨ k = B ∨ k = B + 1) W W'
  | .exit id, _, W' => Ix (.exit id) xs T W' ∧ Kept (fun k => T k ∨ k = B ∨ k = B + 1) W W'
  | .goto t, _, W' => Ix (.goto t) xs T W' ∧ Kept (fun k => T k ∨ k = B ∨ k = B + 1) W W'
  | .panic _, _, _ => False
  | .outgrown, _, _ => False

/-- The caller's invariant speaks of nothing that is the iterator's own, nor of the loop's two blocks of book-keeping. -/
def AbI {α : Type} (B : Nat) (I : List α → (Nat → Prop) → World → Prop) : Prop :=
  ∀ pre (T T' : Nat → Prop) (W W' : World), I pre T W → Kept (fun k => ¬ T k ∧ k ≠ B ∧ k ≠ B + 1) W W' → (∀ k, T k → T' k) → (∀ k, T' k → T k ∨ W.heap.size ≤ k) → I pre T' W'

theorem AbI.put {α : Type} {B : Nat} {I : List α → (Nat → Prop) → World → Prop} (h : AbI B I) {pre : List α} {T : Nat → Prop} {W : World} (hi : I pre T W) (o : Obj) : I pre T (W.putObj (B + 1) o) :=
  h pre T T W _ hi (Kept.putObj _ _ _ _ (by simp)) (fun _ h => h) (fun _ h => .inl h)

variable {P : Program}

/-- **THE CALLER's LAW.** -/
theorem range_lawT {α : Type} {n : Nat} {g : Operand} {ps : Array Tmp} {assign body : Code} {Q : Exit → Act → World → Prop} {a : Act} {w : World}
    {gf : Nat} {lb : Array Value} (hg : a.eval g = .func (.func gf) #[] lb) (eg : ∀ args w, (callFunc gf args).run P w = .ok (.enter gf args) w)
    {Ok : α → Array Value → Nat → (Nat → Prop) → World → Prop} {S : Nat → Prop} {es : List α} {w0 : World} (hseq : SeqTT P gf lb Ok S es w0) (hb0 : Ext w0 w) (hps : ∀ x vs T W, Ok x vs (w.heap.size + 2) T W → vs.size = ps.size) (hS : ∀ k, S k → k < w.heap.size)
    (I : List α → (Nat → Prop) → World → Prop) (Ix : Code → List α → (Nat → Prop) → World → Prop) (hI : AbI w.heap.size I) (hIx : ∀ c, AbI w.heap.size (Ix c)) (h0 : I [] (fun _ => False) w)
    (hround : ∀ (l : Nat) (m : Nat) (pre : List α) (x : α) (vs : Array Value) (T : Nat → Prop) (W : World), l = w.heap.size + 1 → I pre T W → pre ++ [x] <+: es → Ok x vs (w.heap.size + 2) T W → (∀ k, T k → w.heap.size + 2 ≤ k ∧ k < W.heap.size) → w.heap.size + 2 ≤ W.heap.size → (∃ r, W.heap[w.heap.size + 1]? = some (.loop r)) →
      assign.wpIn (Fence.wide.inRound l) m P (Exit.then (fun a' W' => Ext W W' ∧ ∀ W2, Kept (fun k => k ≠ w.heap.size + 1) W' W2 → body.wpIn (Fence.wide.inRound l) m P (postT w.heap.size S T I Ix (pre ++ [x]) W2) a' W2) (fun _ _ _ => False))
        { tmps := (ps.zip vs).foldl (fun t (p, v) => t.setIfInBounds p v) a.tmps, defers := [] } W)
    (hdone : ∀ (T : Nat → Prop) (W : World), I es T W → W.heap[w.heap.size]? = some (.deferred (some [])) → Q .normal { a with defers := { target := .collected w.heap.size, args := #[] } :: a.defers } W)
    (hstop : ∀ (c : Code) (pre : List α) (T : Nat → Prop) (W : World), pre <+: es → Ix c pre T W → W.heap[w.heap.size]? = some (.deferred (some [])) → c.wpIn Fence.wide n P Q { a with defers := { target := .collected w.heap.size, args := #[] } :: a.defers } W) :
    (Code.rangeFunc g ps assign body).wpIn Fence.wide n P Q a w := by
  refine wpIn_rangeFunc ?_
  intro fn hfn
  -- the record, as it stands in each state
  let rec_ : LoopState → Option Code → Loop := fun st pe => { state := st, pending := pe, fn, tmps := a.tmps, params := ps, assign, body, defers := w.heap.size }
  have hW1 : ∃ W1, W1 = (w.alloc (.deferred (some []))).alloc (.loop (rec_ .ready none)) := ⟨_, rfl⟩
  obtain ⟨W1, hW1⟩ := hW1
  have hx1 : Ext w W1 := by rw [hW1]; exact Ext.alloc (Ext.alloc (Ext.rfl_ w) _) _
  have hz1 : W1.heap.size = w.heap.size + 2 := by rw [hW1]; simp
  have hL1 : W1.heap[w.heap.size + 1]? = some (.loop (rec_ .ready none)) := by
    have := World.alloc_heap_new (w.alloc (.deferred (some []))) (.loop (rec_ .ready none))
    rw [World.size_alloc] at this
    rw [hW1]; exact this
  have hD1 : W1.heap[w.heap.size]? = some (.deferred (some [])) := by
    rw [hW1]; exact (Below.heap_alloc _ _ _ (by simp)).trans (World.alloc_heap_new w _)
  -- what the iterator is handed as the body's invariant
  let J : List α → (Nat → Prop) → World → Prop := fun pre T W => I pre T W ∧ W.heap[w.heap.size + 1]? = some (.loop (rec_ .ready none)) ∧ W.heap[w.heap.size]? = some (.deferred (some [])) ∧ ¬ T w.heap.size ∧ ¬ T (w.heap.size + 1)
  let Jx : List α → (Nat → Prop) → World → Prop := fun pre T W => ∃ c, Ix c pre T W ∧ W.heap[w.heap.size + 1]? = some (.loop (rec_ .done (some c))) ∧ W.heap[w.heap.size]? = some (.deferred (some [])) ∧ ¬ T w.heap.size ∧ ¬ T (w.heap.size + 1)
  have weak : ∀ {T : Nat → Prop} {W W' : World}, Kept (fun k => ¬ T k) W W' → Kept (fun k => ¬ T k ∧ k ≠ w.heap.size ∧ k ≠ w.heap.size + 1) W W' := fun h => h.mono fun k hk => hk.1
  have there : ∀ {W : World} {k : Nat} {o : Obj}, W.heap[k]? = some o → k < W.heap.size := fun h => (Array.getElem?_eq_some_iff.1 h).1
  have hJ : AbJ J := by
    rintro pre T T' W W' ⟨hi, hl, hd, ht1, ht2⟩ hk hs hn
    refine ⟨hI pre T T' W W' hi (weak hk) hs hn, (hk.block _ (there hl) ht2).trans hl, (hk.block _ (there hd) ht1).trans hd, fun h => ?_, fun h => ?_⟩
    · rcases hn _ h with h | h
      · exact ht1 h
      · have := there hd; omega
    · rcases hn _ h with h | h
      · exact ht2 h
      · have := there hl; omega
  have hJx : AbJ Jx := by
    rintro pre T T' W W' ⟨c, hi, hl, hd, ht1, ht2⟩ hk hs hn
    refine ⟨c, hIx c pre T T' W W' hi (weak hk) hs hn, (hk.block _ (there hl) ht2).trans hl, (hk.block _ (there hd) ht1).trans hd, fun h => ?_, fun h => ?_⟩
    · rcases hn _ h with h | h
      · exact ht1 h
      · have := there hd; omega
    · rcases hn _ h with h | h
      · exact ht2 h
      · have := there hl; omega
  have hI1 : I [] (fun _ => False) W1 := hI [] _ _ w W1 h0 (Kept.of_ext hx1) (fun _ h => h) (fun _ h => .inl h)
  refine ⟨w.heap.size + 1, [{ target := .collected w.heap.size, args := #[] }], W1, { target := .fn (.func gf) lb, args := #[.func (.yield (w.heap.size + 1)) #[] #[]] }, W1, gf,
    #[.func (.yield (w.heap.size + 1)) #[] #[]] ++ lb, W1, ?_, ?_, fun f' _ => trivial, ?_, fun h => by simp [Fence.wide] at h, ?_⟩
  · rw [hW1]; exact run_enterLoop_outer _ _ _ _ _
  · simp only [resolve, hg]
    simp [go_sem]
  · simp [invoke, go_sem, eg]
  refine (hseq (n - 1) (w.heap.size + 1) J Jx W1 (hb0.trans hx1) hJ hJx ?_ ⟨hI1, hL1, hD1, id, id⟩).mono ?_
  · -- one round
    rintro pre x vs T W m ⟨hi, hl, hd, ht1, ht2⟩ hpre hok hT hsz
    rw [hz1] at hT hsz hok
    have hy := run_yield (P := P) (args := vs) hl (hps x vs T W hok)
    refine ⟨fn, _, assign, body, hy, roundIn_of_wpIn hfn ?_⟩
    refine wpIn_mono (hround _ m pre x vs T W rfl hi hpre hok hT hsz ⟨_, hl⟩) ?_
    rintro e a' W' hp
    cases e with
    | normal =>
      obtain ⟨hex, hbody⟩ := hp
      have hl' := ((Ext.below hex).block _ (there hl)).trans hl
      have hd' := ((Ext.below hex).block _ (there hd)).trans hd
      refine ⟨_, run_beginRound hl' rfl, ?_⟩
      have hk2 : Kept (fun k => k ≠ w.heap.size + 1) W' (W'.putObj (w.heap.size + 1) (.loop { rec_ .ready none with state := .busy })) := Kept.putObj _ _ _ _ (by simp)
      have hl2 := World.putObj_heap_same (w := W') (o := .loop { rec_ .ready none with state := .busy }) (there hl')
      have hd2 := (hk2.block _ (there hd') (by simp)).trans hd'
      -- what the round's end makes of the record
      have fin : ∀ (jump : Option Code) (W3 : World), Kept (fun k => T k ∨ k = w.heap.size ∨ k = w.heap.size + 1) (W'.putObj (w.heap.size + 1) (.loop { rec_ .ready none with state := .busy })) W3 →
          (Instr.endRound (w.heap.size + 1) jump).run P W3 = .ok (.bool jump.isNone) (W3.putObj (w.heap.size + 1) (.loop (rec_ (if jump.isNone then .ready else .done) jump))) ∧
          (W3.putObj (w.heap.size + 1) (.loop (rec_ (if jump.isNone then .ready else .done) jump))).heap[w.heap.size + 1]? = some (.loop (rec_ (if jump.isNone then .ready else .done) jump)) ∧
          (W3.putObj (w.heap.size + 1) (.loop (rec_ (if jump.isNone then .ready else .done) jump))).heap[w.heap.size]? = some (.deferred (some [])) := by
        intro jump W3 h3
        have hl3 := (h3.block _ (there hl2) (.inr (.inr rfl))).trans hl2
        have hd3 := (h3.block _ (there hd2) (.inr (.inl rfl))).trans hd2
        exact ⟨run_endRound jump hl3, World.putObj_heap_same (there hl3), (World.putObj_heap_other (by omega)).trans hd3⟩
      refine wpIn_mono (hbody _ hk2) ?_
      rintro e a3 W3 hp
      cases e with
      | normal =>
        obtain ⟨hi3, hk3⟩ := hp
        obtain ⟨hr, hl4, hd4⟩ := fin none W3 (hk3.mono fun k hk => hk.imp id fun h => h.elim (fun e => ⟨by omega, fun h' => by have := hS _ h'; omega⟩) (fun e => ⟨by omega, fun h' => by have := hS _ h'; omega⟩))
        refine ⟨_, _, hr, .inl ⟨rfl, ⟨hI.put hi3 _, hl4, hd4, ht1, ht2⟩, ?_⟩⟩
        have hK : Kept (fun k => (T k ∨ (k < w.heap.size + 2 ∧ ¬ S k)) ∧ k ≠ w.heap.size + 1) W (W3.putObj (w.heap.size + 1) (.loop (rec_ .ready none))) :=
          (((Kept.of_ext hex).trans (hk2.mono fun k hk => hk.2)).trans (hk3.mono fun k hk => hk.1)).trans (Kept.putObj _ _ _ _ (by simp))
        refine ⟨hK.os, hK.tape, hK.output, hK.size, fun k hk hx => ?_⟩
        rw [hz1] at hx
        by_cases e : k = w.heap.size + 1
        · rw [e]; exact hl4.trans hl.symm
        · exact hK.block k hk ⟨hx, e⟩
      | ret =>
        obtain ⟨hi3, hk3⟩ := hp
        obtain ⟨hr, hl4, hd4⟩ := fin (some .ret) W3 hk3
        exact ⟨_, _, hr, .inr ⟨rfl, ⟨.ret, (hIx _).put hi3 _, hl4, hd4, ht1, ht2⟩, (((Kept.of_ext hex).trans (hk2.mono fun k hk e => ht2 (by rw [← e]; exact hk))).trans (hk3.mono fun k hk => .inl hk)).trans (Kept.putObj _ _ _ _ ht2)⟩⟩
      | exit id =>
        obtain ⟨hi3, hk3⟩ := hp
        obtain ⟨hr, hl4, hd4⟩ := fin (some (.exit id)) W3 hk3
        exact ⟨_, _, hr, .inr ⟨rfl, ⟨.exit id, (hIx _).put hi3 _, hl4, hd4, ht1, ht2⟩, (((Kept.of_ext hex).trans (hk2.mono fun k hk e => ht2 (by rw [← e]; exact hk))).trans (hk3.mono fun k hk => .inl hk)).trans (Kept.putObj _ _ _ _ ht2)⟩⟩
      | goto t =>
        obtain ⟨hi3, hk3⟩ := hp
        obtain ⟨hr, hl4, hd4⟩ := fin (some (.goto t)) W3 hk3
        exact ⟨_, _, hr, .inr ⟨rfl, ⟨.goto t, (hIx _).put hi3 _, hl4, hd4, ht1, ht2⟩, (((Kept.of_ext hex).trans (hk2.mono fun k hk e => ht2 (by rw [← e]; exact hk))).trans (hk3.mono fun k hk => .inl hk)).trans (Kept.putObj _ _ _ _ ht2)⟩⟩
      | panic ch => exact hp.elim
      | outgrown => exact hp.elim
    | ret => exact hp.elim
    | exit id => exact hp.elim
    | goto t => exact hp.elim
    | panic ch => exact hp.elim
    | outgrown => exact hp.elim
  · -- behind the iterator
    rintro e W2 ⟨⟨v, rfl⟩, (⟨T, hi, hl, hd, ht1, ht2⟩ | ⟨pre, T, hpre, c, hi, hl, hd, ht1, ht2⟩)⟩
    · exact ⟨none, _, run_endLoop hl (by simp [rec_]), hdone T _ (hI.put hi _) ((World.putObj_heap_other (by omega)).trans hd)⟩
    · exact ⟨some c, _, run_endLoop hl (by simp [rec_]), hstop c pre T _ hpre ((hIx c).put hi _) ((World.putObj_heap_other (by omega)).trans hd)⟩

theorem range_law {α : Type} {n : Nat} {g : Operand} {ps : Array Tmp} {assign body : Code} {Q : Exit → Act → World → Prop} {a : Act} {w : World}
    {gf : Nat} {lb : Array Value} (hg : a.eval g = .func (.func gf) #[] lb) (eg : ∀ args w, (callFunc gf args).run P w = .ok (.enter gf args) w)
    {Ok : α → Array Value → World → Prop} {S : Nat → Prop} {es : List α} {w0 : World} (hseq : SeqT P gf lb Ok S es w0) (hb0 : Ext w0 w) (hps : ∀ x vs W, Ok x vs W → vs.size = ps.size) (hS : ∀ k, S k → k < w.heap.size)
    (I : List α → (Nat → Prop) → World → Prop) (Ix : Code → List α → (Nat → Prop) → World → Prop) (hI : AbI w.heap.size I) (hIx : ∀ c, AbI w.heap.size (Ix c)) (h0 : I [] (fun _ => False) w)
    (hround : ∀ (l : Nat) (m : Nat) (pre : List α) (x : α) (vs : Array Value) (T : Nat → Prop) (W : World), l = w.heap.size + 1 → I pre T W → pre ++ [x] <+: es → Ok x vs W → (∀ k, T k → w.heap.size + 2 ≤ k ∧ k < W.heap.size) → w.heap.size + 2 ≤ W.heap.size → (∃ r, W.heap[w.heap.size + 1]? = some (.loop r)) →
      assign.wpIn (Fence.wide.inRound l) m P (Exit.then (fun a' W' => Ext W W' ∧ ∀ W2, Kept (fun k => k ≠ w.heap.size + 1) W' W2 → body.wpIn (Fence.wide.inRound l) m P (postT w.heap.size S T I Ix (pre ++ [x]) W2) a' W2) (fun _ _ _ => False))
        { tmps := (ps.zip vs).foldl (fun t (p, v) => t.setIfInBounds p v) a.tmps, defers := [] } W)
    (hdone : ∀ (T : Nat → Prop) (W : World), I es T W → W.heap[w.heap.size]? = some (.deferred (some [])) → Q .normal { a with defers := { target := .collected w.heap.size, args := #[] } :: a.defers } W)
    (hstop : ∀ (c : Code) (pre : List α) (T : Nat → Prop) (W : World), pre <+: es → Ix c pre T W → W.heap[w.heap.size]? = some (.deferred (some [])) → c.wpIn Fence.wide n P Q { a with defers := { target := .collected w.heap.size, args := #[] } :: a.defers } W) :
    (Code.rangeFunc g ps assign body).wpIn Fence.wide n P Q a w :=
  range_lawT hg eg hseq hb0 (fun x vs _ W h => hps x vs W h) hS I Ix hI hIx h0 hround hdone hstop

end Go.Proofs.YteooaplimiifiaaGreat
