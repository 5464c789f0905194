/- Rows of entries of the call's own, with their headers: append. Conditions: none. -/
import Derived.Test.YtpohmoakilioiaaOwnL
namespace Go.Proofs.Ytpohmoakilioiaa
set_option linter.unusedSimpArgs false
set_option linter.unusedVariables false
set_option maxRecDepth 100000
open Go.RowKit

/-- A row of the call's own, with its headers; a row that lies somewhere, apart. -/
def OwnH (w : World) (base : Nat) (v : Value) (hs : List Hdr) (xs : List Ent) : Prop :=
  hs.length = xs.length ∧ w.ownsRow base 25 4 v xs.length (rowE hs xs) ∧ ∀ k (h1 : k < hs.length) (h2 : k < xs.length), Elt w base hs[k] xs[k]
def RdH (w : World) (base : Nat) (A : Option Addr) (n : Nat) (hs : List Hdr) (xs : List Ent) : Prop :=
  hs.length = xs.length ∧ xs.length = n ∧ n ≤ B41 ∧ (0 < n → ∃ b o, A = some ⟨b, o, none⟩ ∧ ∀ j u, (rowE hs xs)[j]? = some u → w.cell? ⟨b, o + j, none⟩ = some u) ∧ ∀ k (h1 : k < hs.length) (h2 : k < xs.length), Elt w base hs[k] xs[k]
theorem OwnH.ownL {w : World} {base : Nat} {v : Value} {hs : List Hdr} {xs : List Ent} (h : OwnH w base v hs xs) : OwnL w base v xs := ⟨hs, h.1, h.2.1, h.2.2⟩
theorem OwnH.nil (w : World) (base : Nat) : OwnH w base (.slice none 0 0) [] [] := ⟨rfl, World.ownsRow_nil _ _ _ _, fun k h1 => absurd h1 (by simp)⟩
theorem OwnH.ext {w w' : World} {base : Nat} {v : Value} {hs : List Hdr} {xs : List Ent} (h : OwnH w base v hs xs) (hx : Ext w w') : OwnH w' base v hs xs := by
  obtain ⟨hl, ho, hr⟩ := h
  refine ⟨hl, ?_, fun k h1 h2 => (hr k h1 h2).ext hx⟩
  refine World.ownsRow.kept (row := none) ho ⟨(Ext.below hx).os, (Ext.below hx).tape, (Ext.below hx).output, (Ext.below hx).size, fun k hk _ => (Ext.below hx).block k hk⟩ ?_
  rcases ho.2 with ⟨rfl, _⟩ | ⟨g', cap, cur, rfl, _, hg', _⟩
  · exact .inl rfl
  · exact .inr (by simp [Value.ownBlock])
theorem RdH.ext {w w' : World} {base : Nat} {A : Option Addr} {n : Nat} {hs : List Hdr} {xs : List Ent} (h : RdH w base A n hs xs) (e : Ext w w') : RdH w' base A n hs xs := by
  obtain ⟨h1, h2, h3, h4, h5⟩ := h
  refine ⟨h1, h2, h3, fun hn => ?_, fun k i1 i2 => (h5 k i1 i2).ext e⟩
  obtain ⟨b, o, ea, hc⟩ := h4 hn
  exact ⟨b, o, ea, fun j u hu => e.keeps _ _ _ (hc j u hu)⟩
theorem rowE_take {hs : List Hdr} {xs : List Ent} (hl : hs.length = xs.length) (k : Nat) (hk : k ≤ xs.length) (j : Nat) (u : Value) (hu : (rowE (hs.take k) (xs.take k))[j]? = some u) : (rowE hs xs)[j]? = some u := by
  have e : rowE hs xs = rowE (hs.take k) (xs.take k) ++ rowE (hs.drop k) (xs.drop k) := by
    rw [← rowE_append (by simp [hl]), List.take_append_drop, List.take_append_drop]
  rw [e, List.getElem?_append_left (List.getElem?_eq_some_iff.1 hu).1]
  exact hu
theorem rowE_drop {hs : List Hdr} {xs : List Ent} (hl : hs.length = xs.length) (k : Nat) (hk : k ≤ xs.length) (j : Nat) (u : Value) (hu : (rowE (hs.drop k) (xs.drop k))[j]? = some u) : (rowE hs xs)[k * 4 + j]? = some u := by
  have e : rowE hs xs = rowE (hs.take k) (xs.take k) ++ rowE (hs.drop k) (xs.drop k) := by
    rw [← rowE_append (by simp [hl]), List.take_append_drop, List.take_append_drop]
  have hlen : (rowE (hs.take k) (xs.take k)).length = k * 4 := by rw [rowE_length (by simp [hl])]; simp; omega
  rw [e, List.getElem?_append_right (by omega), hlen, Nat.add_sub_cancel_left]
  exact hu
theorem run_appH (w : World) (ty : TypeId) (base : Nat) (v : Value) (hs : List Hdr) (xs : List Ent) (hown : OwnH w base v hs xs) (A : Option Addr) (m c : Nat) (ks : List Hdr) (ys : List Ent) (hr : RdH w base A m ks ys) (hsz : xs.length + ys.length ≤ B41) (hbase : base ≤ w.heap.size) :
    ∃ v' w', (Builtin.append_ #[42, 42] ty #[v, .slice A m c]).run Try.prog w = .ok v' w' ∧ OwnH w' base v' (hs ++ ks) (xs ++ ys) ∧ w.grownBy w' v.ownBlock ∧ (v' = .slice none 0 0 → v = .slice none 0 0) := by
  obtain ⟨i0, hi, hz0, hz1, hz2⟩ := info_parts Try.infoE
  have hO := hown
  obtain ⟨hl, ho, hrd⟩ := hown
  obtain ⟨kl, hzl, _, hsrc, krd⟩ := hr
  have hrow : ∀ g, v.ownBlock = some g → base ≤ g ∧ ∃ cs fr, w.heap[g]? = some (.cells cs 25 fr) := by
    rcases ho.2 with ⟨rfl, _⟩ | ⟨g', cap, cur, rfl, hb, hg', _⟩
    · intro g hg; cases hg
    · intro g hg
      simp [Value.ownBlock] at hg
      subst hg
      exact ⟨hb, _, _, hg'⟩
  cases A with
  | none =>
    have h0 : m = 0 := by
      rcases Nat.eq_zero_or_pos m with h | h
      · exact h
      · obtain ⟨b, o, e, _⟩ := hsrc h
        cases e
    subst h0
    obtain rfl : ys = [] := List.eq_nil_of_length_eq_zero hzl
    obtain rfl : ks = [] := List.eq_nil_of_length_eq_zero (by simpa using kl)
    exact ⟨v, w, run_app_nil (P := Try.prog) w base 42 ty 25 i0 4 Try.underlying42 hi v _ _ ho c, by simpa using hO, World.grownBy.refl w _, id⟩
  | some ad =>
    have hnews : ∀ j u, (rowE ks ys)[j]? = some u → w.cell? (ad.add j) = some u := by
      intro j u hj
      have hjn : j < ys.length * 4 := by
        have := (List.getElem?_eq_some_iff.1 hj).1
        rwa [rowE_length kl] at this
      obtain ⟨b, o, e, hc⟩ := hsrc (by omega)
      obtain rfl := Option.some.inj e
      have e2 : (⟨b, o, none⟩ : Addr).add j = ⟨b, o + j, none⟩ := by unfold Addr.add; split <;> simp_all
      rw [e2]
      exact hc j u hj
    unfold B41 at hsz
    obtain ⟨v', w', hrun, h1, h2, h3⟩ := run_append_own (P := Try.prog) w base 42 ty 25 i0 _ 4 64 Try.underlying42 hi hz0 hz1 hz2 rfl (by decide) v xs.length (rowE hs xs) ho ad m c (rowE ks ys) (by rw [rowE_length kl, hzl]) hnews
      rowE_one (by unfold maxLen; omega) (by omega) hbase
    refine ⟨v', w', hrun, ⟨by simp [hl, kl], ?_, ?_⟩, h2, fun e => (h3.1 e).1⟩
    · rw [rowE_append hl, List.length_append, hzl]; exact h1
    · intro k k1 k2
      by_cases hk : k < hs.length
      · rw [List.getElem_append_left hk, List.getElem_append_left (by omega)]
        exact (hrd k hk (by omega)).grown h2 hrow
      · have k3 : k - hs.length < ks.length := by simp at k1; omega
        rw [List.getElem_append_right (by omega), List.getElem_append_right (by omega)]
        have := (krd (k - hs.length) k3 (by omega)).grown h2 hrow
        simpa [hl] using this

/-- 'append(out, l...)' of entries as a region's operation. -/
theorem step_appH {ops : Array Oper} {o : Oper} {a : Act} {w : World} {K : Act → World → Prop} {Q : Exit → Act → World → Prop} {E : Prop} (hgd : o.guard = none) (s x : Operand)
    (ho : o.op = .call { callee := .builtin .append, args := #[s, x], argTypes := #[42, 42] })
    (base : Nat) (v : Value) (hs : List Hdr) (xs : List Ent) (hsv : a.eval s = v) (hown : OwnH w base v hs xs) (A : Option Addr) (m c : Nat) (ks : List Hdr) (ys : List Ent) (hx : a.eval x = .slice A m c) (hr : RdH w base A m ks ys)
    (hsz : xs.length + ys.length ≤ B41) (hbase : base ≤ w.heap.size)
    (h : ∀ v' w', OwnH w' base v' (hs ++ ks) (xs ++ ys) → w.grownBy w' v.ownBlock → (v' = .slice none 0 0 → v = .slice none 0 0) → K (a.put o.dst v') w') :
    if Region.wanted o (yielded ops a.tmps) = true then Oper.wp Try.prog o a w K Q else E := by
  have hw : Region.wanted o (yielded ops a.tmps) = true := by simp [Region.wanted, hgd]
  rw [if_pos hw]
  obtain ⟨v', w', hrun, h1, h2, h3⟩ := run_appH w o.type base v hs xs hown A m c ks ys hr hsz hbase
  unfold Oper.wp
  simp [execOp, ho, resolve, invoke, builtin, hsv, hx, hrun, Result.andThen]
  exact h v' w' h1 h2 h3
/-- 'append(out, l...)' of entries. -/
theorem wp_appH {ops : Array Oper} {rest : List Oper} {o : Oper} {a : Act} {w : World} {Q : Exit → Act → World → Prop} (hgd : o.guard = none) (s x : Operand)
    (ho : o.op = .call { callee := .builtin .append, args := #[s, x], argTypes := #[42, 42] })
    (base : Nat) (v : Value) (hs : List Hdr) (xs : List Ent) (hsv : a.eval s = v) (hown : OwnH w base v hs xs) (A : Option Addr) (m c : Nat) (ks : List Hdr) (ys : List Ent) (hx : a.eval x = .slice A m c) (hr : RdH w base A m ks ys)
    (hsz : xs.length + ys.length ≤ B41) (hbase : base ≤ w.heap.size)
    (h : ∀ v' w', OwnH w' base v' (hs ++ ks) (xs ++ ys) → w.grownBy w' v.ownBlock → (v' = .slice none 0 0 → v = .slice none 0 0) → wpList Try.prog ops Q rest (a.put o.dst v') w') : wpList Try.prog ops Q (o :: rest) a w := by
  refine wpList_plain hgd fun K hK => ?_
  obtain ⟨v', w', hrun, h1, h2, h3⟩ := run_appH w o.type base v hs xs hown A m c ks ys hr hsz hbase
  unfold Oper.wp
  simp [execOp, ho, resolve, invoke, builtin, hsv, hx, hrun, Result.andThen]
  exact hK _ _ (h v' w' h1 h2 h3)


theorem RdH.one {w : World} {base : Nat} {h : Hdr} {x : Ent} (t : TypeId) (he : Elt w base h x) : RdH (w.alloc (.cells #[.slice h.A h.n h.c, .int .i64 x.seq, .int .i64 x.kind, .slice h.B h.m h.d] t)) base (some ⟨w.heap.size, 0, none⟩) 1 [h] [x] := by
  have hb := heap_alloc_new w (.cells #[.slice h.A h.n h.c, .int .i64 x.seq, .int .i64 x.kind, .slice h.B h.m h.d] t)
  refine ⟨rfl, rfl, by decide, fun _ => ⟨_, 0, rfl, fun j u hu => ?_⟩, fun k h1 h2 => ?_⟩
  · rw [Nat.zero_add]
    unfold World.cell?
    simp only [hb]
    simp [rowE, cellsE] at hu ⊢
    match j with
    | 0 => simpa using hu
    | 1 => simpa using hu
    | 2 => simpa using hu
    | 3 => simpa using hu
    | j + 4 => simp at hu
  · obtain rfl : k = 0 := by simp at h1; exact h1
    exact he.ext (Ext.alloc (Ext.rfl_ w) _)

end Go.Proofs.Ytpohmoakilioiaa
