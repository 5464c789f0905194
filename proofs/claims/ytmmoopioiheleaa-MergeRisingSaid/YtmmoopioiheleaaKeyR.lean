/- Contract of ikey.Read. Conditions: the slice reads. -/
import Derived.Test.YtmmoopioiheleaaKeyC
import Derived.Test.YtmmoopioiheleaaReadC
namespace Go.Proofs.Ytmmoopioiheleaa
set_option linter.unusedSimpArgs false
set_option linter.unusedVariables false
open Go.RowKit

def ent0 : Ent := ⟨[], 0, 0, []⟩
/-- The entry of bytes. -/
def readE (x : Bs) : Option Ent :=
  match getB 32 x with
  | none => none
  | some (key, r1) =>
    match getN r1 with
    | none => none
    | some (seq, r2) =>
      match getN r2 with
      | none => none
      | some (kind, r3) =>
        match (if kind = 1 then getB 65536 r3 else some ([], r3)) with
        | none => none
        | some (val, r4) => if r4 = [] ∧ MayE ⟨key, seq, kind, val⟩ then some ⟨key, seq, kind, val⟩ else none
def rdE (x : Bs) : Ent := (readE x).getD ent0
def rdN (x : Bs) : Int := if (readE x).isSome = true then 0 else 4

theorem rd_bad {x : Bs} (h : readE x = none) : rdE x = ent0 ∧ rdN x = 4 := by unfold rdE rdN; simp [h]
theorem rd_ok {x : Bs} {e : Ent} (h : readE x = some e) : rdE x = e ∧ rdN x = 0 := by unfold rdE rdN; simp [h]

/-- A value of type api.Entry whose slices the call itself made, from block 'base' on. -/
def FrE (w : World) (base : Nat) (v : Value) (x : Ent) : Prop :=
  ∃ A n c A' n' c', v = .agg #[.slice A n c, .int .i64 x.seq, .int .i64 x.kind, .slice A' n' c'] ∧ OwnB w base (.slice A n c) x.key ∧ OwnB w base (.slice A' n' c') x.val ∧ Rd w A n x.key ∧ Rd w A' n' x.val ∧
    n ≤ c ∧ n ≤ B47 ∧ n' ≤ c' ∧ n' ≤ B47 ∧ Hi base A n ∧ Hi base A' n'
theorem FrE.rd {w : World} {base : Nat} {v : Value} {x : Ent} (h : FrE w base v x) : RdE w v x := by
  obtain ⟨A, n, c, A', n', c', rfl, _, _, h1, h2, h3, h4, h5, h6, _⟩ := h
  exact ⟨A, n, c, A', n', c', rfl, h1, h2, h3, h4, h5, h6⟩
theorem FrE.zero (w : World) (base : Nat) : FrE w base (.agg #[.slice none 0 0, .int .i64 0, .int .i64 0, .slice none 0 0]) ent0 :=
  ⟨none, 0, 0, none, 0, 0, rfl, OwnB.nil _ _, OwnB.nil _ _, Rd.nil _ _, Rd.nil _ _, Nat.le_refl _, Nat.zero_le _, Nat.le_refl _, Nat.zero_le _, fun h => absurd h (by omega), fun h => absurd h (by omega)⟩

theorem getB_le {most : Nat} {x y r : Bs} (h : getB most x = some (y, r)) : y.length ≤ most := by
  cases hg : getN x with
  | none => rw [getB_num hg] at h; cases h
  | some p =>
    obtain ⟨n, q⟩ := p
    by_cases h1 : most < n
    · rw [getB_long hg h1] at h; cases h
    · by_cases h2 : q.length < n
      · rw [getB_short hg h1 h2] at h; cases h
      · rw [getB_yes hg h1 h2] at h
        cases h
        rw [List.length_take]; omega

def BytesOut (most : Nat) (x : Bs) (k : Int) (y r : Bs) : Prop := (k = 0 ∧ getB most x = some (y, r)) ∨ (k ≠ 0 ∧ getB most x = none ∧ y = [] ∧ r = x)
def NumOut (x : Bs) (v : Nat) (k : Int) (r : Bs) : Prop := (k = 0 ∧ getN x = some (v, r)) ∨ (k ≠ 0 ∧ getN x = none ∧ v = 0 ∧ r = x)



theorem Chg.blk {g k : Nat} {w w' : World} {o : Obj} (h : Chg g w w') (hk : w.heap[k]? = some o) (hne : k ≠ g) : w'.heap[k]? = some o :=
  (h.block k (Array.getElem?_eq_some_iff.1 hk).1 (fun e => hne (by cases e; rfl))).trans hk
theorem Ext.blk {k : Nat} {w w' : World} {o : Obj} (h : Ext w w') (hk : w.heap[k]? = some o) : w'.heap[k]? = some o :=
  ((Ext.below h).block k (Array.getElem?_eq_some_iff.1 hk).1).trans hk
theorem OwnB.setLow {w : World} {base : Nat} {v : Value} {x : Bs} (h : OwnB w base v x) {p : Addr} (hp : p.block < base) (u : Value) : OwnB (w.setCell p u) base v x := by
  refine World.ownsRow.kept (row := some p.block) h.out ⟨rfl, rfl, rfl, by simp [World.setCell], fun k hk hne => Below.heap_setCell _ _ _ _ (fun e => hne (by rw [e]))⟩ ?_
  rcases h.out.2 with ⟨rfl, _⟩ | ⟨g', cap, cur, rfl, hb, _⟩
  · exact .inl rfl
  · exact .inr (by simp [Value.ownBlock]; omega)
theorem Rd.apart {w : World} {k : Nat} {A : Option Addr} {n : Nat} {y : Bs} {cs : Array Value} {t : TypeId} {fr : Nat × Nat} (h : Rd w A n y) (hg : w.heap[k]? = some (.cells cs t fr)) (hcs : ∀ (i : Nat) (z : Int), cs[i]? ≠ some (Value.int .u8 z)) (hn : 0 < n) : ∀ a, A = some a → a.block ≠ k := by
  intro a ha hb
  obtain ⟨b, o, e, hc⟩ := h.2 hn
  rw [ha] at e
  cases e
  simp only at hb
  subst hb
  have := hc 0 (by rw [h.1]; exact hn)
  simp only [World.cell?, hg, Nat.add_zero] at this
  exact hcs _ _ (by simpa using this)
theorem Rd.setBlk {w : World} {k : Nat} {A : Option Addr} {n : Nat} {y : Bs} {cs : Array Value} {t : TypeId} {fr : Nat × Nat} (h : Rd w A n y) (hg : w.heap[k]? = some (.cells cs t fr)) (hcs : ∀ (i : Nat) (z : Int), cs[i]? ≠ some (Value.int .u8 z)) (o : Nat) (u : Value) : Rd (w.setCell ⟨k, o, none⟩ u) A n y :=
  ⟨h.1, fun hn => by
    obtain ⟨b', o', e, hc⟩ := h.2 hn
    have hne := h.apart hg hcs hn _ e
    refine ⟨b', o', e, fun j hj => ?_⟩
    rw [World.cell?_setCell_other w ⟨k, o, none⟩ ⟨b', o' + j, none⟩ u (fun e' => by cases e'; exact hne rfl)]
    exact hc j hj⟩
theorem four_no {A A' : Option Addr} {n c n' c' : Nat} {s k : Int} : ∀ (i : Nat) (z : Int), (#[Value.slice A n c, .int .i64 s, .int .i64 k, .slice A' n' c'] : Array Value)[i]? ≠ some (.int .u8 z) := by
  intro i z
  match i with
  | 0 => simp
  | 1 => simp
  | 2 => simp
  | 3 => simp
  | i + 4 => simp

/-- A value owned reads. -/
theorem FrE.mk_ {w : World} {base : Nat} {A A' : Option Addr} {n c n' c' : Nat} {x : Ent} {s k : Int} (h1 : OwnB w base (.slice A n c) x.key) (h2 : OwnB w base (.slice A' n' c') x.val) (hs : s = x.seq) (hk : k = x.kind) (hn : x.key.length ≤ B47) (hn' : x.val.length ≤ B47) :
    FrE w base (.agg #[.slice A n c, .int .i64 s, .int .i64 k, .slice A' n' c']) x := by
  subst hs hk
  obtain ⟨B, d, e, hd, hr, hi⟩ := h1.form
  obtain ⟨B', d', e', hd', hr', hi'⟩ := h2.form
  cases e
  cases e'
  exact ⟨_, _, _, _, _, _, rfl, h1, h2, hr, hr', hd, hn, hd', hn', hi, hi'⟩

theorem set3 {w : World} {g : Nat} {t : TypeId} {a b c d : Value} (hg : w.heap[g]? = some (.cells #[a, b, c, d] t (0, 0))) (u : Value) : (w.setCell ⟨g, 3, none⟩ u).heap[g]? = some (.cells #[a, b, c, u] t (0, 0)) := by
  simp [World.setCell, Array.getElem?_modify, hg]

/-- The facts of a box of four cells, off its block. -/
theorem cells4 {w : World} {g : Nat} {t : TypeId} {a b c d : Value} (hg : w.heap[g]? = some (.cells #[a, b, c, d] t (0, 0))) :
    w.cell? ⟨g, 0, none⟩ = some a ∧ w.cell? ⟨g, 1, none⟩ = some b ∧ w.cell? ⟨g, 2, none⟩ = some c ∧ w.cell? ⟨g, 3, none⟩ = some d ∧
    w.frozen? ⟨g, 0, none⟩ = false ∧ w.frozen? ⟨g, 1, none⟩ = false ∧ w.frozen? ⟨g, 2, none⟩ = false ∧ w.frozen? ⟨g, 3, none⟩ = false := by
  simp [World.cell?, World.frozen?, hg]


end Go.Proofs.Ytmmoopioiheleaa
