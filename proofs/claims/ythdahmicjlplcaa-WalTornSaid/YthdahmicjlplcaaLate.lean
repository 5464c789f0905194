/- ikey.Latest: what its iterator goes over. Conditions: the list reads. -/
import Derived.Test.YthdahmicjlplcaaRise
import Derived.Scope
import Derived.RangeFuncFrom
import Derived.Shelf.Abstract
namespace Go.Proofs.Ythdahmicjlplcaa
set_option linter.unusedSimpArgs false
set_option linter.unusedVariables false
open Go.RowKit Go.Shelf
attribute [local go_sem] Oper.semAt_some



/-- The latest ones up to s, behind the key p. -/
def latL (s : Int) : Bs → List Ent → List Ent
  | _, [] => []
  | p, x :: xs => if s < x.seq ∨ p = x.key then latL s p xs else x :: latL s x.key xs
/-- The last key that was told. -/
def lky (s : Int) : Bs → List Ent → Bs
  | p, [] => p
  | p, x :: xs => if s < x.seq ∨ p = x.key then lky s p xs else lky s x.key xs
theorem latL_app (s : Int) (p : Bs) (a b : List Ent) : latL s p (a ++ b) = latL s p a ++ latL s (lky s p a) b := by
  induction a generalizing p with
  | nil => rfl
  | cons x xs ih =>
    simp only [List.cons_append, latL, lky]
    split
    · exact ih p
    · rw [ih, List.cons_append]
theorem lky_app (s : Int) (p : Bs) (a b : List Ent) : lky s p (a ++ b) = lky s (lky s p a) b := by
  induction a generalizing p with
  | nil => rfl
  | cons x xs ih =>
    simp only [List.cons_append, lky]
    split
    · exact ih p
    · exact ih _
theorem latL_prefix {s : Int} {p : Bs} {a b : List Ent} (h : a <+: b) : latL s p a <+: latL s p b := by
  obtain ⟨t, rfl⟩ := h
  rw [latL_app]
  exact List.prefix_append _ _
theorem latL_skip {s : Int} {p : Bs} {pre : List Ent} {x : Ent} (h : s < x.seq ∨ lky s p pre = x.key) : latL s p (pre ++ [x]) = latL s p pre ∧ lky s p (pre ++ [x]) = lky s p pre := by
  rw [latL_app, lky_app]
  simp [latL, lky, h]
theorem latL_take {s : Int} {p : Bs} {pre : List Ent} {x : Ent} (h : ¬ (s < x.seq ∨ lky s p pre = x.key)) : latL s p (pre ++ [x]) = latL s p pre ++ [x] ∧ lky s p (pre ++ [x]) = x.key := by
  rw [latL_app, lky_app]
  simp [latL, lky, h]

/-- The blocks that are the iterator's own, its inner loop's with them. -/
def ownT (B0 : Nat) (T : Nat → Prop) (k : Nat) : Prop := T k ∨ (B0 ≤ k ∧ k < B0 + 5)

structure LatI (J : List Ent → (Nat → Prop) → World → Prop) (S : Nat → Prop) (s : Int) (w00 W : World) (l : Nat) (pre : List Ent) (T : Nat → Prop) (Wc : World) : Prop where
  j : J (latL s [] pre) (ownT W.heap.size T) Wc
  y : Wc.cell? ⟨W.heap.size, 0, none⟩ = some (.func (.yield l) #[] #[])
  last : ∃ A n c, Wc.cell? ⟨W.heap.size + 1, 0, none⟩ = some (.slice A n c) ∧ Rd w00 A n (lky s [] pre)
  fro : Wc.frozen? ⟨W.heap.size + 1, 0, none⟩ = false
  keep : Kept (fun k => k < W.heap.size ∧ ¬ S k) W Wc
  size : W.heap.size + 3 ≤ Wc.heap.size
  t : ∀ k, T k → W.heap.size + 3 ≤ k

theorem ownT_ab {B0 : Nat} {T T' : Nat → Prop} {z : Nat} (hs : ∀ k, T k → T' k) (hn : ∀ k, T' k → T k ∨ z ≤ k) : (∀ k, ownT B0 T k → ownT B0 T' k) ∧ (∀ k, ownT B0 T' k → ownT B0 T k ∨ z ≤ k) :=
  ⟨fun k h => h.imp (hs k) id, fun k h => h.elim (fun h => (hn k h).imp .inl id) (fun h => .inl (.inr h))⟩

theorem LatI.ab {J : List Ent → (Nat → Prop) → World → Prop} (hJ : AbJ J) (S : Nat → Prop) (s : Int) (w00 W : World) (l : Nat) : AbI (W.heap.size + 3) (LatI J S s w00 W l) := by
  intro pre T T' Wc W' h hk hs hn
  have hz := h.size
  refine ⟨hJ _ _ _ _ _ h.j (hk.mono fun k hx => ⟨fun h' => hx (.inl h'), fun h' => hx (.inr (by omega)), fun h' => hx (.inr (by omega))⟩) (ownT_ab hs hn).1 (ownT_ab hs hn).2, ?_, ?_, ?_, ?_, ?_, ?_⟩
  · exact hk.cell h.y ⟨fun h' => by have h2 := h.t _ h'; dsimp only at h2; omega, by simp, by simp; omega⟩
  · obtain ⟨A, n, c, h1, h2⟩ := h.last
    exact ⟨A, n, c, hk.cell h1 ⟨fun h' => by have h2 := h.t _ h'; dsimp only at h2; omega, by simp, by simp⟩, h2⟩
  · rw [hk.frozen (by simp; omega) ⟨fun h' => by have h2 := h.t _ h'; dsimp only at h2; omega, by simp, by simp⟩]; exact h.fro
  · exact h.keep.trans (hk.mono fun k hx => ⟨fun h' => by have := h.t _ h'; omega, by omega, by omega⟩)
  · exact Nat.le_trans hz hk.size
  · intro k h'
    rcases hn k h' with h' | h'
    · exact h.t k h'
    · omega

theorem LatI.move {J : List Ent → (Nat → Prop) → World → Prop} {S : Nat → Prop} {s : Int} {w00 W : World} {l : Nat} {pre pre' : List Ent} {T : Nat → Prop} {Wc W2 : World} (hJ : AbJ J) (h : LatI J S s w00 W l pre T Wc)
    (k : Kept (fun k => ¬ T k ∧ k ≠ W.heap.size + 4) Wc W2) (e1 : latL s [] pre' = latL s [] pre) (e2 : lky s [] pre' = lky s [] pre) : LatI J S s w00 W l pre' T W2 := by
  have hz := h.size
  refine ⟨?_, ?_, ?_, ?_, ?_, ?_, h.t⟩
  · rw [e1]; exact hJ _ _ _ _ _ h.j (k.mono fun k hx => ⟨fun h' => hx (.inl h'), fun h' => hx (.inr (by omega))⟩) (fun _ h => h) (fun _ h => .inl h)
  · exact k.cell h.y ⟨fun h' => by have h2 := h.t _ h'; dsimp only at h2; omega, by simp⟩
  · obtain ⟨A, n, c, h1, h2⟩ := h.last
    exact ⟨A, n, c, k.cell h1 ⟨fun h' => by have h2 := h.t _ h'; dsimp only at h2; omega, by simp⟩, by rw [e2]; exact h2⟩
  · rw [k.frozen (by simp; omega) ⟨fun h' => by have h2 := h.t _ h'; dsimp only at h2; omega, by simp⟩]; exact h.fro
  · exact h.keep.trans (k.mono fun k hx => ⟨fun h' => by have := h.t _ h'; omega, by omega⟩)
  · exact Nat.le_trans hz k.size


end Go.Proofs.Ythdahmicjlplcaa
