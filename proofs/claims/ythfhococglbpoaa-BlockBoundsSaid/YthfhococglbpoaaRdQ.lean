/- Lists of entries with their headers; which blocks they read. Conditions: none. -/
import Derived.Test.YthfhococglbpoaaSkM
namespace Go.Proofs.Ythfhococglbpoaa
set_option linter.unusedSimpArgs false
set_option linter.unusedVariables false
open Go.RowKit

/-- A header whose slices lie in Z. -/
def HdZ (Z : Nat → Prop) (h : Hdr) : Prop := (0 < h.n → ∀ a, h.A = some a → Z a.block) ∧ (0 < h.m → ∀ a, h.B = some a → Z a.block)
/-- A list of entries that lies, wholly, in blocks of Z. -/
def RdQ (Z : Nat → Prop) (w : World) (A : Option Addr) (n : Nat) (xs : List Ent) : Prop :=
  ∃ hs : List Hdr, hs.length = xs.length ∧ xs.length = n ∧ n ≤ B41 ∧ (0 < n → ∃ b o, A = some ⟨b, o, none⟩ ∧ Z b ∧ ∀ j u, (rowE hs xs)[j]? = some u → w.cell? ⟨b, o + j, none⟩ = some u) ∧
    (∀ k (h1 : k < hs.length) (h2 : k < xs.length), RdE w (.agg (cellsE hs[k] xs[k]).toArray) xs[k]) ∧ ∀ h ∈ hs, HdZ Z h

theorem RdQ.nil (Z : Nat → Prop) (w : World) (A : Option Addr) : RdQ Z w A 0 [] := ⟨[], rfl, rfl, Nat.zero_le _, fun h => absurd h (by omega), fun k h1 => absurd h1 (by simp), fun h hm => by simp at hm⟩
theorem RdQ.mono {Z Z' : Nat → Prop} {w : World} {A : Option Addr} {n : Nat} {xs : List Ent} (h : RdQ Z w A n xs) (hz : ∀ k, Z k → Z' k) : RdQ Z' w A n xs := by
  obtain ⟨hs, h1, h2, h3, h4, h5, h6⟩ := h
  refine ⟨hs, h1, h2, h3, fun hn => ?_, h5, fun hd hm => ⟨fun hn a ha => hz _ ((h6 hd hm).1 hn a ha), fun hn a ha => hz _ ((h6 hd hm).2 hn a ha)⟩⟩
  obtain ⟨b, o, e, hb, hc⟩ := h4 hn
  exact ⟨b, o, e, hz b hb, hc⟩
theorem RdQ.rdl {Z : Nat → Prop} {w : World} {A : Option Addr} {n : Nat} {xs : List Ent} (h : RdQ Z w A n xs) : RdL w A n xs := by
  obtain ⟨hs, h1, h2, h3, h4, h5, h6⟩ := h
  refine ⟨h2, h3, fun hn => ?_⟩
  obtain ⟨b, o, e, hb, hc⟩ := h4 hn
  refine ⟨b, o, e, fun k hk => ?_⟩
  have hk' : k < hs.length := by omega
  have hcell : ∀ j u, j < 4 → (cellsE hs[k] xs[k])[j]? = some u → w.cell? ⟨b, o + k * 4 + j, none⟩ = some u := fun j u hj hu => by
    rw [Nat.add_assoc]
    exact hc (k * 4 + j) u (by rw [rowE_get h1 k hk j hj]; exact hu)
  refine ⟨hs[k].A, hs[k].n, hs[k].c, hs[k].B, hs[k].m, hs[k].d, ⟨?_, ?_, ?_, ?_⟩, h5 k hk' hk⟩
  · have := hcell 0 _ (by omega) (by simp [cellsE]; rfl); simpa using this
  · exact hcell 1 _ (by omega) (by simp [cellsE])
  · exact hcell 2 _ (by omega) (by simp [cellsE])
  · exact hcell 3 _ (by omega) (by simp [cellsE])
theorem RdQ.kept {Z X : Nat → Prop} {w w' : World} {A : Option Addr} {n : Nat} {xs : List Ent} (h : RdQ Z w A n xs) (k : Kept X w w') (hz : ∀ b, b < w.heap.size → Z b → X b) : RdQ Z w' A n xs := by
  obtain ⟨hs, h1, h2, h3, h4, h5, h6⟩ := h
  have lt : ∀ {A : Option Addr} {n : Nat} {x : Bs}, Rd w A n x → (0 < n → ∀ a, A = some a → Z a.block) → 0 < n → ∀ a, A = some a → X a.block := by
    intro A n x hr hZ hn a ha
    obtain ⟨b, o, e, hc⟩ := hr.2 hn
    have hb := hZ hn a ha
    rw [ha] at e
    cases e
    exact hz _ (World.block_lt_of_cell? w _ (hc 0 (by rw [hr.1]; exact hn))) hb
  refine ⟨hs, h1, h2, h3, fun hn => ?_, fun i i1 i2 => ?_, h6⟩
  · obtain ⟨b, o, e, hb, hc⟩ := h4 hn
    refine ⟨b, o, e, hb, fun j u hu => ?_⟩
    have hcj := hc j u hu
    have hlt := World.block_lt_of_cell? w _ hcj
    have := k.block _ hlt (hz _ hlt hb)
    unfold World.cell? at *
    simp only at this hcj ⊢
    rw [this]; exact hcj
  · have he := h5 i i1 i2
    have hd := he.hdr
    have hq := h6 hs[i] (List.getElem_mem i1)
    exact he.keptX k (lt hd.1 hq.1) (lt hd.2 hq.2)
theorem RdQ.lt {Z : Nat → Prop} {w : World} {A : Option Addr} {n : Nat} {xs : List Ent} (h : RdQ Z w A n xs) : RdQ (fun k => Z k ∧ k < w.heap.size) w A n xs := by
  obtain ⟨hs, h1, h2, h3, h4, h5, h6⟩ := h
  have lt : ∀ {A : Option Addr} {n : Nat} {x : Bs}, Rd w A n x → 0 < n → ∀ a, A = some a → a.block < w.heap.size := by
    intro A n x hr hn a ha
    obtain ⟨b, o, e, hc⟩ := hr.2 hn
    rw [ha] at e
    cases e
    exact World.block_lt_of_cell? w _ (hc 0 (by rw [hr.1]; exact hn))
  refine ⟨hs, h1, h2, h3, fun hn => ?_, h5, fun hd hm => ?_⟩
  · obtain ⟨b, o, e, hb, hc⟩ := h4 hn
    refine ⟨b, o, e, ⟨hb, ?_⟩, hc⟩
    have h0 : 0 < xs.length := by omega
    have := hc 0 (.slice (hs[0]'(by omega)).A (hs[0]'(by omega)).n (hs[0]'(by omega)).c) (by
      have := rowE_get h1 0 h0 0 (by omega)
      simp [cellsE] at this
      exact this)
    exact World.block_lt_of_cell? w _ this
  · obtain ⟨i, i1, rfl⟩ := List.getElem_of_mem hm
    have he := (h5 i i1 (by omega)).hdr
    have hq := h6 hs[i] (List.getElem_mem i1)
    exact ⟨fun hn a ha => ⟨hq.1 hn a ha, lt he.1 hn a ha⟩, fun hn a ha => ⟨hq.2 hn a ha, lt he.2 hn a ha⟩⟩
theorem OwnB.keptX {X : Nat → Prop} {a b : World} {base : Nat} {v : Value} {x : Bs} (h : OwnB a base v x) (k : Kept X a b) (hX : ∀ g, v.ownBlock = some g → X g) : OwnB b base v x := by
  have ho := h.out
  refine ⟨ho.1, ?_⟩
  rcases ho.2 with hn | ⟨g, cap, cur, rfl, hb, hgg, rest⟩
  · exact .inl hn
  · exact .inr ⟨g, cap, cur, rfl, hb, (k.block g (Array.getElem?_eq_some_iff.1 hgg).1 (hX g rfl)).trans hgg, rest⟩
theorem RdQ.ext {Z : Nat → Prop} {w w' : World} {A : Option Addr} {n : Nat} {xs : List Ent} (h : RdQ Z w A n xs) (e : Ext w w') : RdQ Z w' A n xs := h.kept (X := fun _ => True) (Kept.of_ext e) (fun _ _ _ => trivial)
theorem RdL.rdq {w : World} {A : Option Addr} {n : Nat} {xs : List Ent} (h : RdL w A n xs) : RdQ (fun k => k < w.heap.size) w A n xs := by
  rcases Nat.eq_zero_or_pos n with h0 | hn
  · subst h0
    obtain rfl : xs = [] := List.eq_nil_of_length_eq_zero h.1
    exact RdQ.nil _ _ _
  · obtain ⟨b, o, rfl, _⟩ := h.2.2 hn
    obtain ⟨hs, hl, hc, hr⟩ := h.hdrs
    have hx := h.1
    refine ⟨hs, hl, h.1, h.2.1, fun _ => ⟨b, o, rfl, ?_, hc⟩, hr, fun hd hm => ?_⟩
    · have h0 : 0 < xs.length := by omega
      have := hc 0 (.slice hs[0].A hs[0].n hs[0].c) (by
        have := rowE_get hl 0 h0 0 (by omega)
        simp [cellsE] at this
        exact this)
      exact World.block_lt_of_cell? w _ this
    · obtain ⟨i, i1, rfl⟩ := List.getElem_of_mem hm
      have he := (hr i i1 (by omega)).hdr
      have lt : ∀ {A : Option Addr} {n : Nat} {x : Bs}, Rd w A n x → 0 < n → ∀ a, A = some a → a.block < w.heap.size := by
        intro A n x hr hn a ha
        obtain ⟨b, o, e, hc⟩ := hr.2 hn
        rw [ha] at e
        cases e
        exact World.block_lt_of_cell? w _ (hc 0 (by rw [hr.1]; exact hn))
      exact ⟨lt he.1, lt he.2⟩

/-- A row of the call's own, with its headers; a row that lies somewhere, apart. -/
def OwnH (w : World) (base : Nat) (v : Value) (hs : List Hdr) (xs : List Ent) : Prop :=
  hs.length = xs.length ∧ w.ownsRow base 28 4 v xs.length (rowE hs xs) ∧ ∀ k (h1 : k < hs.length) (h2 : k < xs.length), Elt w base hs[k] xs[k]
def RdH (w : World) (base : Nat) (A : Option Addr) (n : Nat) (hs : List Hdr) (xs : List Ent) : Prop :=
  hs.length = xs.length ∧ xs.length = n ∧ n ≤ B41 ∧ (0 < n → ∃ b o, A = some ⟨b, o, none⟩ ∧ ∀ j u, (rowE hs xs)[j]? = some u → w.cell? ⟨b, o + j, none⟩ = some u) ∧ ∀ k (h1 : k < hs.length) (h2 : k < xs.length), Elt w base hs[k] xs[k]
theorem OwnH.ownL {w : World} {base : Nat} {v : Value} {hs : List Hdr} {xs : List Ent} (h : OwnH w base v hs xs) : OwnL w base v xs := ⟨hs, h.1, h.2.1, h.2.2⟩
theorem OwnH.nil (w : World) (base : Nat) : OwnH w base (.slice none 0 0) [] [] := ⟨rfl, World.ownsRow_nil _ _ _ _, fun k h1 => absurd h1 (by simp)⟩
theorem OwnH.ext {w w' : World} {base : Nat} {v : Value} {hs : List Hdr} {xs : List Ent} (h : OwnH w base v hs xs) (hx : Ext w w') : OwnH w' base v hs xs := by
  obtain ⟨hl, ho, hr⟩ := h
  refine ⟨hl, ?_, fun k h1 h2 => (hr k h1 h2).ext hx⟩
  refine World.ownsRow.kept (row := none) ho ⟨(Ext.below hx).os, (Ext.below hx).tape, (Ext.below hx).output, (Ext.below hx).size, fun k hk _ => (Ext.below hx).block k hk⟩ ?_
  rcases ho.2 with ⟨rfl, _⟩ | ⟨g', cap, cur, rfl, _, hg', _⟩
  · exact .inl rfl
  · exact .inr (by simp [Value.ownBlock])
theorem RdH.ext {w w' : World} {base : Nat} {A : Option Addr} {n : Nat} {hs : List Hdr} {xs : List Ent} (h : RdH w base A n hs xs) (e : Ext w w') : RdH w' base A n hs xs := by
  obtain ⟨h1, h2, h3, h4, h5⟩ := h
  refine ⟨h1, h2, h3, fun hn => ?_, fun k i1 i2 => (h5 k i1 i2).ext e⟩
  obtain ⟨b, o, ea, hc⟩ := h4 hn
  exact ⟨b, o, ea, fun j u hu => e.keeps _ _ _ (hc j u hu)⟩
theorem rowE_take {hs : List Hdr} {xs : List Ent} (hl : hs.length = xs.length) (k : Nat) (hk : k ≤ xs.length) (j : Nat) (u : Value) (hu : (rowE (hs.take k) (xs.take k))[j]? = some u) : (rowE hs xs)[j]? = some u := by
  have e : rowE hs xs = rowE (hs.take k) (xs.take k) ++ rowE (hs.drop k) (xs.drop k) := by
    rw [← rowE_append (by simp [hl]), List.take_append_drop, List.take_append_drop]
  rw [e, List.getElem?_append_left (List.getElem?_eq_some_iff.1 hu).1]
  exact hu
theorem rowE_drop {hs : List Hdr} {xs : List Ent} (hl : hs.length = xs.length) (k : Nat) (hk : k ≤ xs.length) (j : Nat) (u : Value) (hu : (rowE (hs.drop k) (xs.drop k))[j]? = some u) : (rowE hs xs)[k * 4 + j]? = some u := by
  have e : rowE hs xs = rowE (hs.take k) (xs.take k) ++ rowE (hs.drop k) (xs.drop k) := by
    rw [← rowE_append (by simp [hl]), List.take_append_drop, List.take_append_drop]
  have hlen : (rowE (hs.take k) (xs.take k)).length = k * 4 := by rw [rowE_length (by simp [hl])]; simp; omega
  rw [e, List.getElem?_append_right (by omega), hlen, Nat.add_sub_cancel_left]
  exact hu
/-- What it reads: a new row, and its headers' blocks. -/
theorem OwnH.rdq {Z : Nat → Prop} {w : World} {base : Nat} {v : Value} {hs : List Hdr} {xs : List Ent} (h : OwnH w base v hs xs) (hB : xs.length ≤ B41) (hz : ∀ hd ∈ hs, HdZ Z hd) (hb : ∀ k, base ≤ k → Z k) : ∃ A n c, v = .slice A n c ∧ n ≤ c ∧ RdQ Z w A n xs := by
  obtain ⟨hl, hown, hr⟩ := h
  rcases hown.2 with ⟨rfl, h0⟩ | ⟨g, cap, cur, rfl, hbg, hg, hle, _⟩
  · obtain rfl : xs = [] := List.eq_nil_of_length_eq_zero h0
    exact ⟨none, 0, 0, rfl, Nat.le_refl _, RdQ.nil _ _ _⟩
  · refine ⟨some ⟨g, 0, none⟩, xs.length, cap, rfl, hle, hs, hl, rfl, hB, fun hn => ⟨g, 0, rfl, hb g hbg, fun j u hu => ?_⟩, fun k h1 h2 => (hr k h1 h2).1, hz⟩
    rw [Nat.zero_add]
    have hj : j < (rowE hs xs).length := (List.getElem?_eq_some_iff.1 hu).1
    rw [rowE_length hl] at hj
    rw [World.ownsRow.cellAt hown j (by omega)]
    exact hu
/-- A part of a list of before, apart. -/
theorem RdH.old {w : World} {A : Option Addr} {b o n : Nat} {hs : List Hdr} {xs : List Ent} (hl : hs.length = xs.length) (hx : xs.length = n) (hB : n ≤ B41) (hc : ∀ j u, (rowE hs xs)[j]? = some u → w.cell? ⟨b, o + j, none⟩ = some u)
    (hr : ∀ k (h1 : k < hs.length) (h2 : k < xs.length), RdE w (.agg (cellsE hs[k] xs[k]).toArray) xs[k]) (hA : 0 < n → A = some ⟨b, o, none⟩) (w' : World) (e : Ext w w') (base : Nat) (hb : w.heap.size ≤ base) : RdH w' base A n hs xs := by
  refine ⟨hl, hx, hB, fun hn => ⟨b, o, hA hn, fun j u hu => e.keeps _ _ _ (hc j u hu)⟩, fun k h1 h2 => ?_⟩
  have hk := hr k h1 h2
  have hd := hk.hdr
  exact ⟨hk.ext e, Apt.low _ hd.1 hb, Apt.low _ hd.2 hb⟩

theorem run_appH (w : World) (ty : TypeId) (base : Nat) (v : Value) (hs : List Hdr) (xs : List Ent) (hown : OwnH w base v hs xs) (A : Option Addr) (m c : Nat) (ks : List Hdr) (ys : List Ent) (hr : RdH w base A m ks ys) (hsz : xs.length + ys.length ≤ B41) (hbase : base ≤ w.heap.size) :
    ∃ v' w', (Builtin.append_ #[37, 37] ty #[v, .slice A m c]).run Try.prog w = .ok v' w' ∧ OwnH w' base v' (hs ++ ks) (xs ++ ys) ∧ w.grownBy w' v.ownBlock ∧ (v' = .slice none 0 0 → v = .slice none 0 0) := by
  obtain ⟨i0, hi, hz0, hz1, hz2⟩ := info_parts Try.infoE
  have hO := hown
  obtain ⟨hl, ho, hrd⟩ := hown
  obtain ⟨kl, hzl, _, hsrc, krd⟩ := hr
  have hrow : ∀ g, v.ownBlock = some g → base ≤ g ∧ ∃ cs fr, w.heap[g]? = some (.cells cs 28 fr) := by
    rcases ho.2 with ⟨rfl, _⟩ | ⟨g', cap, cur, rfl, hb, hg', _⟩
    · intro g hg; cases hg
    · intro g hg
      simp [Value.ownBlock] at hg
      subst hg
      exact ⟨hb, _, _, hg'⟩
  cases A with
  | none =>
    have h0 : m = 0 := by
      rcases Nat.eq_zero_or_pos m with h | h
      · exact h
      · obtain ⟨b, o, e, _⟩ := hsrc h
        cases e
    subst h0
    obtain rfl : ys = [] := List.eq_nil_of_length_eq_zero hzl
    obtain rfl : ks = [] := List.eq_nil_of_length_eq_zero (by simpa using kl)
    exact ⟨v, w, run_app_nil (P := Try.prog) w base 37 ty 28 i0 4 Try.underlying37 hi v _ _ ho c, by simpa using hO, World.grownBy.refl w _, id⟩
  | some ad =>
    have hnews : ∀ j u, (rowE ks ys)[j]? = some u → w.cell? (ad.add j) = some u := by
      intro j u hj
      have hjn : j < ys.length * 4 := by
        have := (List.getElem?_eq_some_iff.1 hj).1
        rwa [rowE_length kl] at this
      obtain ⟨b, o, e, hc⟩ := hsrc (by omega)
      obtain rfl := Option.some.inj e
      have e2 : (⟨b, o, none⟩ : Addr).add j = ⟨b, o + j, none⟩ := by unfold Addr.add; split <;> simp_all
      rw [e2]
      exact hc j u hj
    unfold B41 at hsz
    obtain ⟨v', w', hrun, h1, h2, h3⟩ := run_append_own (P := Try.prog) w base 37 ty 28 i0 _ 4 64 Try.underlying37 hi hz0 hz1 hz2 rfl (by decide) v xs.length (rowE hs xs) ho ad m c (rowE ks ys) (by rw [rowE_length kl, hzl]) hnews
      rowE_one (by unfold maxLen; omega) (by omega) hbase
    refine ⟨v', w', hrun, ⟨by simp [hl, kl], ?_, ?_⟩, h2, fun e => (h3.1 e).1⟩
    · rw [rowE_append hl, List.length_append, hzl]; exact h1
    · intro k k1 k2
      by_cases hk : k < hs.length
      · rw [List.getElem_append_left hk, List.getElem_append_left (by omega)]
        exact (hrd k hk (by omega)).grown h2 hrow
      · have k3 : k - hs.length < ks.length := by simp at k1; omega
        rw [List.getElem_append_right (by omega), List.getElem_append_right (by omega)]
        have := (krd (k - hs.length) k3 (by omega)).grown h2 hrow
        simpa [hl] using this

/-- 'append(out, l...)' of entries as a region's operation. -/
theorem step_appH {ops : Array Oper} {o : Oper} {a : Act} {w : World} {K : Act → World → Prop} {Q : Exit → Act → World → Prop} {E : Prop} (hgd : o.guard = none) (s x : Operand)
    (ho : o.op = .call { callee := .builtin .append, args := #[s, x], argTypes := #[37, 37] })
    (base : Nat) (v : Value) (hs : List Hdr) (xs : List Ent) (hsv : a.eval s = v) (hown : OwnH w base v hs xs) (A : Option Addr) (m c : Nat) (ks : List Hdr) (ys : List Ent) (hx : a.eval x = .slice A m c) (hr : RdH w base A m ks ys)
    (hsz : xs.length + ys.length ≤ B41) (hbase : base ≤ w.heap.size)
    (h : ∀ v' w', OwnH w' base v' (hs ++ ks) (xs ++ ys) → w.grownBy w' v.ownBlock → (v' = .slice none 0 0 → v = .slice none 0 0) → K (a.put o.dst v') w') :
    if Region.wanted o (yielded ops a.tmps) = true then Oper.wp Try.prog o a w K Q else E := by
  have hw : Region.wanted o (yielded ops a.tmps) = true := by simp [Region.wanted, hgd]
  rw [if_pos hw]
  obtain ⟨v', w', hrun, h1, h2, h3⟩ := run_appH w o.type base v hs xs hown A m c ks ys hr hsz hbase
  unfold Oper.wp
  simp [execOp, ho, resolve, invoke, builtin, hsv, hx, hrun, Result.andThen]
  exact h v' w' h1 h2 h3
/-- 'append(out, l...)' of entries. -/
theorem wp_appH {ops : Array Oper} {rest : List Oper} {o : Oper} {a : Act} {w : World} {Q : Exit → Act → World → Prop} (hgd : o.guard = none) (s x : Operand)
    (ho : o.op = .call { callee := .builtin .append, args := #[s, x], argTypes := #[37, 37] })
    (base : Nat) (v : Value) (hs : List Hdr) (xs : List Ent) (hsv : a.eval s = v) (hown : OwnH w base v hs xs) (A : Option Addr) (m c : Nat) (ks : List Hdr) (ys : List Ent) (hx : a.eval x = .slice A m c) (hr : RdH w base A m ks ys)
    (hsz : xs.length + ys.length ≤ B41) (hbase : base ≤ w.heap.size)
    (h : ∀ v' w', OwnH w' base v' (hs ++ ks) (xs ++ ys) → w.grownBy w' v.ownBlock → (v' = .slice none 0 0 → v = .slice none 0 0) → wpList Try.prog ops Q rest (a.put o.dst v') w') : wpList Try.prog ops Q (o :: rest) a w := by
  refine wpList_plain hgd fun K hK => ?_
  obtain ⟨v', w', hrun, h1, h2, h3⟩ := run_appH w o.type base v hs xs hown A m c ks ys hr hsz hbase
  unfold Oper.wp
  simp [execOp, ho, resolve, invoke, builtin, hsv, hx, hrun, Result.andThen]
  exact hK _ _ (h v' w' h1 h2 h3)


theorem RdH.one {w : World} {base : Nat} {h : Hdr} {x : Ent} (t : TypeId) (he : Elt w base h x) : RdH (w.alloc (.cells #[.slice h.A h.n h.c, .int .i64 x.seq, .int .i64 x.kind, .slice h.B h.m h.d] t)) base (some ⟨w.heap.size, 0, none⟩) 1 [h] [x] := by
  have hb := heap_alloc_new w (.cells #[.slice h.A h.n h.c, .int .i64 x.seq, .int .i64 x.kind, .slice h.B h.m h.d] t)
  refine ⟨rfl, rfl, by decide, fun _ => ⟨_, 0, rfl, fun j u hu => ?_⟩, fun k h1 h2 => ?_⟩
  · rw [Nat.zero_add]
    unfold World.cell?
    simp only [hb]
    simp [rowE, cellsE] at hu ⊢
    match j with
    | 0 => simpa using hu
    | 1 => simpa using hu
    | 2 => simpa using hu
    | 3 => simpa using hu
    | j + 4 => simp at hu
  · obtain rfl : k = 0 := by simp at h1; exact h1
    exact he.ext (Ext.alloc (Ext.rfl_ w) _)

end Go.Proofs.Ythfhococglbpoaa
