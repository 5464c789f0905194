/- Rows of byte slices of the call's own: append. Conditions: none. -/
import Derived.Test.YthdahmicjlplcaaOwnL
namespace Go.Proofs.Ythdahmicjlplcaa
set_option linter.unusedSimpArgs false
set_option linter.unusedVariables false
open Go.RowKit

theorem Rd.grownT {w w' : World} {base : Nat} {A : Option Addr} {n : Nat} {x : Bs} {row : Option Nat} {t : TypeId} (h : Rd w A n x) (ha : Apt w base A n) (ht : t ≠ 5) (hg : w.grownBy w' row) (hr : ∀ g, row = some g → base ≤ g ∧ ∃ cs fr, w.heap[g]? = some (.cells cs t fr)) : Rd w' A n x :=
  ⟨h.1, fun hn => by
    obtain ⟨b, o, e, hc⟩ := h.2 hn
    refine ⟨b, o, e, fun j hj => ?_⟩
    have hbl := hg.block b (cell_lt (hc j hj)) (fun e2 => by
      obtain ⟨h1, cs, fr, h2⟩ := hr b e2.symm
      rcases ha hn _ e with h3 | ⟨cs', fr', h3⟩
      · simp at h3; omega
      · rw [h2] at h3; simp at h3; exact ht h3.2.1)
    have := hc j hj
    unfold World.cell? at *
    rw [hbl]; exact this⟩
theorem Apt.grownT {w w' : World} {base : Nat} {A : Option Addr} {n : Nat} {row : Option Nat} {t : TypeId} (ha : Apt w base A n) (ht : t ≠ 5) (hg : w.grownBy w' row) (hr : ∀ g, row = some g → base ≤ g ∧ ∃ cs fr, w.heap[g]? = some (.cells cs t fr)) : Apt w' base A n := fun hn a e => by
  rcases ha hn a e with h | ⟨cs, fr, h⟩
  · exact .inl h
  · refine .inr ⟨cs, fr, (hg.block _ (Array.getElem?_eq_some_iff.1 h).1 (fun e2 => ?_)).trans h⟩
    obtain ⟨_, cs', fr', h2⟩ := hr _ e2.symm
    rw [h] at h2; simp at h2; exact ht h2.2.1.symm

structure Sl where
  A : Option Addr
  n : Nat
  c : Nat
def slV (h : Sl) : Value := .slice h.A h.n h.c

/-- The value owns, from block 'base' on, a row of byte slices that read so. -/
def OwnBB (w : World) (base : Nat) (v : Value) (xs : List Bs) : Prop :=
  ∃ hs : List Sl, hs.length = xs.length ∧ w.ownsRow base 29 1 v xs.length (hs.map slV) ∧ ∀ k (h1 : k < hs.length) (h2 : k < xs.length), Rd w hs[k].A hs[k].n xs[k] ∧ Apt w base hs[k].A hs[k].n

theorem OwnBB.lt {w : World} {base : Nat} {v : Value} {xs : List Bs} (h : OwnBB w base v xs) : ∀ k, v.ownBlock = some k → base ≤ k ∧ k < w.heap.size := by
  obtain ⟨hs, hl, ho, hr⟩ := h
  exact ho.lt
theorem Ext.growBB {a w w' : World} {base : Nat} {v : Value} {xs : List Bs} (h : Ext a w) (hg : w.grownBy w' v.ownBlock) (ho : OwnBB w base v xs) (hb : a.heap.size ≤ base) : Ext a w' :=
  h.grown hg (fun k hk => Nat.le_trans hb (ho.lt k hk).1)
theorem OwnBB.ext {w w' : World} {base : Nat} {v : Value} {xs : List Bs} (h : OwnBB w base v xs) (hx : Ext w w') : OwnBB w' base v xs := by
  obtain ⟨hs, hl, ho, hr⟩ := h
  refine ⟨hs, hl, ?_, fun k h1 h2 => ⟨(hr k h1 h2).1.ext hx, (hr k h1 h2).2.ext hx⟩⟩
  refine World.ownsRow.kept (row := none) ho ⟨(Ext.below hx).os, (Ext.below hx).tape, (Ext.below hx).output, (Ext.below hx).size, fun k hk _ => (Ext.below hx).block k hk⟩ ?_
  rcases ho.2 with ⟨rfl, _⟩ | ⟨g', cap, cur, rfl, _, hg', _⟩
  · exact .inl rfl
  · exact .inr (by simp [Value.ownBlock])
/-- A row of one, just laid. -/
theorem OwnBB.one {w : World} {base n c : Nat} {A : Option Addr} {x : Bs} (hr : Rd w A n x) (ha : Apt w base A n) (hb : base ≤ w.heap.size) :
    OwnBB (w.alloc (.cells #[.slice A n c] 29)) base (.slice (some ⟨w.heap.size, 0, none⟩) 1 1) [x] := by
  refine ⟨[⟨A, n, c⟩], rfl, ?_, fun k h1 h2 => ?_⟩
  · exact World.ownsRow_lit w #[.slice A n c] 1 hb (by decide) rfl
  · obtain rfl : k = 0 := by simp at h1; exact h1
    exact ⟨hr.ext (Ext.alloc (Ext.rfl_ _) _), ha.ext (Ext.alloc (Ext.rfl_ _) _)⟩
theorem OwnBB.form {w : World} {base : Nat} {v : Value} {xs : List Bs} (h : OwnBB w base v xs) : ∃ A n c, v = .slice A n c ∧ n ≤ c ∧ RdBB w A n xs := by
  obtain ⟨hs, hl, ho, hr⟩ := h
  rcases ho.2 with ⟨rfl, h0⟩ | ⟨g, cap, cur, rfl, hb, hg, hle, _⟩
  · obtain rfl : xs = [] := List.eq_nil_of_length_eq_zero h0
    exact ⟨none, 0, 0, rfl, Nat.le_refl _, rfl, fun hn => absurd hn (by simp)⟩
  · refine ⟨some ⟨g, 0, none⟩, _, cap, rfl, hle, rfl, fun hn => ⟨g, 0, rfl, fun j hj => ?_⟩⟩
    have hj' : j < hs.length := by omega
    have hcell := World.ownsRow.cellAt ho j (by omega)
    refine ⟨hs[j].A, hs[j].n, hs[j].c, ?_, (hr j hj' hj).1⟩
    rw [Nat.zero_add, hcell]
    simp [List.getElem?_eq_getElem hj', slV]

theorem Try.infoBB : (Try.prog.info? 29).map (fun i => (i.zero, i.size, i.bytes)) = some (some (.slice none 0 0), 1, 24) := by kernel_rfl

/-- 'append(row, x)' of one byte slice that was just laid in a block of its own. -/
theorem run_appBB (w : World) (ty : TypeId) (base : Nat) (v : Value) (xs : List Bs) (hown : OwnBB w base v xs) (A : Option Addr) (n c g : Nat) (y : Bs) (hc : w.cell? ⟨g, 0, none⟩ = some (.slice A n c)) (hr : Rd w A n y) (ha : Apt w base A n) (hsz : xs.length + 1 ≤ B40) (hbase : base ≤ w.heap.size) :
    ∃ v' w', (Builtin.append_ #[70, 70] ty #[v, .slice (some ⟨g, 0, none⟩) 1 1]).run Try.prog w = .ok v' w' ∧ OwnBB w' base v' (xs ++ [y]) ∧ w.grownBy w' v.ownBlock := by
  obtain ⟨i0, hi, hz0, hz1, hz2⟩ := info_parts Try.infoBB
  obtain ⟨hs, hl, ho, hrd⟩ := hown
  have hrow : ∀ g, v.ownBlock = some g → base ≤ g ∧ ∃ cs fr, w.heap[g]? = some (.cells cs 29 fr) := by
    rcases ho.2 with ⟨rfl, _⟩ | ⟨g', cap, cur, rfl, hb, hg', _⟩
    · intro g hg; cases hg
    · intro g hg
      simp [Value.ownBlock] at hg
      subst hg
      exact ⟨hb, _, _, hg'⟩
  unfold B40 at hsz
  obtain ⟨v', w', hrun, h1, h2, h3⟩ := run_append_own (P := Try.prog) w base 70 ty 29 i0 _ 1 24 Try.underlying70 hi hz0 hz1 hz2 rfl (by decide) v xs.length (hs.map slV) ho ⟨g, 0, none⟩ 1 1 [.slice A n c] rfl
    (by intro j u hj; match j with
        | 0 => simp at hj; subst hj; exact hc
        | j + 1 => simp at hj)
    (by intro u hu; simp at hu; subst hu; rfl) (by unfold maxLen; omega) (by omega) hbase
  refine ⟨v', w', hrun, ⟨hs ++ [⟨A, n, c⟩], by simp [hl], by rw [List.map_append, List.length_append]; exact h1, fun k k1 k2 => ?_⟩, h2⟩
  by_cases hk : k < hs.length
  · rw [List.getElem_append_left hk, List.getElem_append_left (by omega)]
    have := hrd k hk (by omega)
    exact ⟨this.1.grownT this.2 (by decide) h2 hrow, this.2.grownT (by decide) h2 hrow⟩
  · have : k = hs.length := by simp at k1; omega
    subst this
    rw [List.getElem_append_right (Nat.le_refl _), List.getElem_append_right (by omega)]
    have e : hs.length - xs.length = 0 := by omega
    simp only [Nat.sub_self, e, List.getElem_cons_zero]
    exact ⟨hr.grownT ha (by decide) h2 hrow, ha.grownT (by decide) h2 hrow⟩

theorem wp_appBB {ops : Array Oper} {rest : List Oper} {o : Oper} {a : Act} {w : World} {Q : Exit → Act → World → Prop} (hgd : o.guard = none) (s x : Operand)
    (ho : o.op = .call { callee := .builtin .append, args := #[s, x], argTypes := #[70, 70] })
    (base : Nat) (v : Value) (xs : List Bs) (hs : a.eval s = v) (hown : OwnBB w base v xs) (A : Option Addr) (n c g : Nat) (y : Bs) (hx : a.eval x = .slice (some ⟨g, 0, none⟩) 1 1) (hc : w.cell? ⟨g, 0, none⟩ = some (.slice A n c)) (hr : Rd w A n y) (ha : Apt w base A n)
    (hsz : xs.length + 1 ≤ B40) (hbase : base ≤ w.heap.size)
    (h : ∀ v' w', OwnBB w' base v' (xs ++ [y]) → w.grownBy w' v.ownBlock → wpList Try.prog ops Q rest (a.put o.dst v') w') : wpList Try.prog ops Q (o :: rest) a w := by
  refine wpList_plain hgd fun K hK => ?_
  obtain ⟨v', w', hrun, h1, h2⟩ := run_appBB w o.type base v xs hown A n c g y hc hr ha hsz hbase
  unfold Oper.wp
  simp [execOp, ho, resolve, invoke, builtin, hs, hx, hrun, Result.andThen]
  exact hK _ _ (h v' w' h1 h2)

end Go.Proofs.Ythdahmicjlplcaa
