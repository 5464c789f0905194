/- Lists of tables of the call's own: append. Conditions: the lists read. -/
import Derived.Test.YteooaplimiifiaaGreatWireA
import Derived.Test.YteooaplimiifiaaGreatTab
namespace Go.Proofs.YteooaplimiifiaaGreat
set_option linter.unusedSimpArgs false
set_option linter.unusedVariables false
set_option maxRecDepth 100000
open Go.RowKit

/-- The two slices of an entry. -/
structure HdT where
  A : Option Addr
  n : Nat
  c : Nat
  B : Option Addr
  m : Nat
  d : Nat

/-- The four cells of an entry. -/
def cellsT (h : HdT) (x : Tab) : List Value := [.int .i64 x.num, .int .i64 x.lvl, .slice h.A h.n h.c, .slice h.B h.m h.d, .int .i64 x.size]
def rowT (hs : List HdT) (xs : List Tab) : List Value := (List.zipWith cellsT hs xs).flatten

theorem rowT_nil : rowT [] [] = [] := rfl
theorem rowT_cons (h : HdT) (x : Tab) (hs : List HdT) (xs : List Tab) : rowT (h :: hs) (x :: xs) = cellsT h x ++ rowT hs xs := rfl
theorem rowT_length {hs : List HdT} {xs : List Tab} (h : hs.length = xs.length) : (rowT hs xs).length = xs.length * 5 := by
  induction xs generalizing hs with
  | nil => cases hs with
    | nil => rfl
    | cons a t => simp at h
  | cons x xs ih => cases hs with
    | nil => simp at h
    | cons a t =>
      rw [rowT_cons, List.length_append, ih (by simpa using h)]
      simp [cellsT]; omega
theorem rowT_append {hs ks : List HdT} {xs ys : List Tab} (h : hs.length = xs.length) : rowT (hs ++ ks) (xs ++ ys) = rowT hs xs ++ rowT ks ys := by
  unfold rowT
  rw [List.zipWith_append h, List.flatten_append]
theorem rowT_get {hs : List HdT} {xs : List Tab} (h : hs.length = xs.length) (k : Nat) (hk : k < xs.length) (j : Nat) (hj : j < 5) :
    (rowT hs xs)[k * 5 + j]? = (cellsT (hs[k]'(by omega)) xs[k])[j]? := by
  induction xs generalizing hs k with
  | nil => simp at hk
  | cons x xs ih => cases hs with
    | nil => simp at h
    | cons a t =>
      rw [rowT_cons]
      cases k with
      | zero =>
        rw [List.getElem?_append_left (by simp [cellsT]; omega)]
        simp
      | succ k =>
        rw [List.getElem?_append_right (by simp [cellsT]; omega)]
        have e : (k + 1) * 5 + j - (cellsT a x).length = k * 5 + j := by simp [cellsT]; omega
        rw [e, ih (by simpa using h) k (by simpa using hk)]
        simp
theorem rowT_one {hs : List HdT} {xs : List Tab} : ∀ u ∈ rowT hs xs, u.oneCell' = true := by
  intro u hu
  unfold rowT at hu
  obtain ⟨l, hl, hu⟩ := List.mem_flatten.1 hu
  obtain ⟨p, hp, rfl⟩ := List.mem_iff_getElem.1 hl
  rw [List.getElem_zipWith] at hu
  simp [cellsT] at hu
  rcases hu with rfl | rfl | rfl | rfl | rfl <;> rfl

/-- A slice of bytes apart from any row of entries from block 'base' on: it lies below, or in a block of bytes. -/
def Apt (w : World) (base : Nat) (A : Option Addr) (n : Nat) : Prop := 0 < n → ∀ a, A = some a → a.block < base ∨ ∃ cs fr, w.heap[a.block]? = some (.cells cs 5 fr)
def ElT (w : World) (base : Nat) (h : HdT) (x : Tab) : Prop := RdT w (.agg (cellsT h x).toArray) x ∧ Apt w base h.A h.n ∧ Apt w base h.B h.m

theorem Apt.ext {w w' : World} {base : Nat} {A : Option Addr} {n : Nat} (h : Apt w base A n) (hx : Ext w w') : Apt w' base A n := fun hn a ha => by
  rcases h hn a ha with h | ⟨cs, fr, h⟩
  · exact .inl h
  · exact .inr ⟨cs, fr, ((Ext.below hx).block _ (Array.getElem?_eq_some_iff.1 h).1).trans h⟩
theorem ElT.ext {w w' : World} {base : Nat} {h : HdT} {x : Tab} (e : ElT w base h x) (hx : Ext w w') : ElT w' base h x := ⟨e.1.ext hx, e.2.1.ext hx, e.2.2.ext hx⟩
theorem Apt.low {w : World} {base : Nat} {A : Option Addr} {n : Nat} {x : Bs} (w' : World) (h : Rd w A n x) (hb : w.heap.size ≤ base) : Apt w' base A n := fun hn a ha => by
  obtain ⟨b, o, e, hc⟩ := h.2 hn
  rw [ha] at e
  cases e
  exact .inl (Nat.lt_of_lt_of_le (cell_lt (hc 0 (by rw [h.1]; exact hn))) hb)
theorem Apt.own {w : World} {base base' : Nat} {A : Option Addr} {n c : Nat} {x : Bs} (h : OwnB w base' (.slice A n c) x) : Apt w base A n := fun hn a ha => by
  subst ha
  rcases h.out.2 with ⟨hv, h0⟩ | ⟨g, cap, cur, hv, _, hg, _⟩
  · cases hv
  · cases hv; exact .inr ⟨_, _, hg⟩
theorem Apt.mono {w : World} {base base' : Nat} {A : Option Addr} {n : Nat} (h : Apt w base A n) (hb : base ≤ base') : Apt w base' A n := fun hn a ha => (h hn a ha).imp (fun h => Nat.lt_of_lt_of_le h hb) id

/-- A slice of bytes that is apart reads on behind a store into such a row. -/
theorem Rd.grown {w w' : World} {base : Nat} {A : Option Addr} {n : Nat} {x : Bs} {row : Option Nat} (h : Rd w A n x) (ha : Apt w base A n) (hg : w.grownBy w' row) (hr : ∀ g, row = some g → base ≤ g ∧ ∃ cs fr, w.heap[g]? = some (.cells cs 42 fr)) : Rd w' A n x :=
  ⟨h.1, fun hn => by
    obtain ⟨b, o, e, hc⟩ := h.2 hn
    refine ⟨b, o, e, fun j hj => ?_⟩
    have hbl := hg.block b (cell_lt (hc j hj)) (fun e2 => by
      obtain ⟨h1, cs, fr, h2⟩ := hr b e2.symm
      rcases ha hn _ e with h3 | ⟨cs', fr', h3⟩
      · simp at h3; omega
      · rw [h2] at h3; simp at h3)
    have := hc j hj
    unfold World.cell? at *
    rw [hbl]; exact this⟩
theorem Apt.grown {w w' : World} {base : Nat} {A : Option Addr} {n : Nat} {row : Option Nat} (ha : Apt w base A n) (hg : w.grownBy w' row) (hr : ∀ g, row = some g → base ≤ g ∧ ∃ cs fr, w.heap[g]? = some (.cells cs 42 fr)) : Apt w' base A n := fun hn a e => by
  rcases ha hn a e with h | ⟨cs, fr, h⟩
  · exact .inl h
  · refine .inr ⟨cs, fr, (hg.block _ (Array.getElem?_eq_some_iff.1 h).1 (fun e2 => ?_)).trans h⟩
    obtain ⟨_, cs', fr', h2⟩ := hr _ e2.symm
    rw [h] at h2; simp at h2
theorem ElT.grown {w w' : World} {base : Nat} {h : HdT} {x : Tab} {row : Option Nat} (e : ElT w base h x) (hg : w.grownBy w' row) (hr : ∀ g, row = some g → base ≤ g ∧ ∃ cs fr, w.heap[g]? = some (.cells cs 42 fr)) : ElT w' base h x := by
  obtain ⟨⟨A, n, c, A', n', c', hv, h1, h2, h3⟩, a1, a2⟩ := e
  simp [cellsT] at hv
  obtain ⟨⟨rfl, rfl, rfl⟩, rfl, rfl, rfl⟩ := hv
  exact ⟨⟨_, _, _, _, _, _, rfl, h1.grown a1 hg hr, h2.grown a2 hg hr, h3⟩, a1.grown hg hr, a2.grown hg hr⟩

/-- The value owns, from block 'base' on, a row of just these entries; each reads, and is apart. -/
def OwnT (w : World) (base : Nat) (v : Value) (xs : List Tab) : Prop :=
  ∃ hs : List HdT, hs.length = xs.length ∧ w.ownsRow base 42 5 v xs.length (rowT hs xs) ∧ ∀ k (h1 : k < hs.length) (h2 : k < xs.length), ElT w base hs[k] xs[k]

/-- A slice of entries that lies somewhere, its entries' slices apart from rows from 'base' on. -/
def RdTa (w : World) (base : Nat) (A : Option Addr) (n : Nat) (xs : List Tab) : Prop :=
  ∃ hs : List HdT, hs.length = xs.length ∧ xs.length = n ∧ n ≤ B47 ∧ (0 < n → ∃ b o, A = some ⟨b, o, none⟩ ∧ ∀ j u, (rowT hs xs)[j]? = some u → w.cell? ⟨b, o + j, none⟩ = some u) ∧ ∀ k (h1 : k < hs.length) (h2 : k < xs.length), ElT w base hs[k] xs[k]

theorem OwnT.nil (w : World) (base : Nat) : OwnT w base (.slice none 0 0) [] := ⟨[], rfl, World.ownsRow_nil _ _ _ _, fun k h1 => absurd h1 (by simp)⟩

theorem OwnT.form {w : World} {base : Nat} {v : Value} {xs : List Tab} (h : OwnT w base v xs) (hB : xs.length ≤ B47) : ∃ A c, v = .slice A xs.length c ∧ xs.length ≤ c ∧ RdLT w A xs.length xs ∧ Hi base A xs.length ∧ (A = none ∨ ∃ g, A = some ⟨g, 0, none⟩) := by
  obtain ⟨hs, hl, hown, hr⟩ := h
  rcases hown.2 with ⟨rfl, h0⟩ | ⟨g, cap, cur, rfl, hb, hg, hle, _⟩
  · obtain rfl : xs = [] := List.eq_nil_of_length_eq_zero h0
    exact ⟨none, 0, rfl, Nat.le_refl _, RdLT.nil _ _, fun hn => absurd hn (by simp), .inl rfl⟩
  · refine ⟨some ⟨g, 0, none⟩, cap, rfl, hle, ⟨rfl, hB, fun hn => ⟨g, 0, rfl, fun k hk => ?_⟩⟩, fun _ a ha => (by cases ha; exact hb), .inr ⟨g, rfl⟩⟩
    have hk' : k < hs.length := by omega
    have hcell : ∀ j, j < 5 → w.cell? ⟨g, k * 5 + j, none⟩ = (cellsT hs[k] xs[k])[j]? := fun j hj => by
      rw [World.ownsRow.cellAt hown (k * 5 + j) (by omega), rowT_get hl k hk j hj]
    refine ⟨hs[k].A, hs[k].n, hs[k].c, hs[k].B, hs[k].m, hs[k].d, ⟨?_, ?_, ?_, ?_, ?_⟩, (hr k hk' hk).1⟩
    · have := hcell 0 (by omega); simpa [cellsT] using this
    · have := hcell 1 (by omega); simpa [cellsT] using this
    · have := hcell 2 (by omega); simpa [cellsT] using this
    · have := hcell 3 (by omega); simpa [cellsT] using this
    · have := hcell 4 (by omega); simpa [cellsT] using this

theorem OwnT.formN {w : World} {base : Nat} {v : Value} {xs : List Tab} (h : OwnT w base v xs) (hB : xs.length ≤ B47) : ∃ A n c, v = .slice A n c ∧ n ≤ c ∧ RdLT w A n xs ∧ Hi base A n := by
  obtain ⟨A, c, rfl, h1, h2, h3, _⟩ := h.form hB
  exact ⟨A, _, c, rfl, h1, h2, h3⟩
theorem OwnT.lt {w : World} {base : Nat} {v : Value} {xs : List Tab} (h : OwnT w base v xs) : ∀ k, v.ownBlock = some k → base ≤ k ∧ k < w.heap.size := by
  obtain ⟨hs, hl, ho, hr⟩ := h
  exact ho.lt
theorem OwnT.ext {w w' : World} {base : Nat} {v : Value} {xs : List Tab} (h : OwnT w base v xs) (hx : Ext w w') : OwnT w' base v xs := by
  obtain ⟨hs, hl, ho, hr⟩ := h
  refine ⟨hs, hl, ?_, fun k h1 h2 => (hr k h1 h2).ext hx⟩
  refine World.ownsRow.kept (row := none) ho ⟨(Ext.below hx).os, (Ext.below hx).tape, (Ext.below hx).output, (Ext.below hx).size, fun k hk _ => (Ext.below hx).block k hk⟩ ?_
  rcases ho.2 with ⟨rfl, _⟩ | ⟨g', cap, cur, rfl, _, hg', _⟩
  · exact .inl rfl
  · exact .inr (by simp [Value.ownBlock])
theorem Ext.growT {a w w' : World} {base : Nat} {v : Value} {xs : List Tab} (h : Ext a w) (hg : w.grownBy w' v.ownBlock) (ho : OwnT w base v xs) (hb : a.heap.size ≤ base) : Ext a w' :=
  h.grown hg (fun k hk => Nat.le_trans hb (ho.lt k hk).1)

/-- The headers of a list that lies somewhere. -/
theorem RdLT.hdrs {w : World} {b o n : Nat} {xs : List Tab} (h : RdLT w (some ⟨b, o, none⟩) n xs) : ∃ hs : List HdT, hs.length = xs.length ∧ (∀ j u, (rowT hs xs)[j]? = some u → w.cell? ⟨b, o + j, none⟩ = some u) ∧
    ∀ k (h1 : k < hs.length) (h2 : k < xs.length), RdT w (.agg (cellsT hs[k] xs[k]).toArray) xs[k] := by
  have hq : ∀ i, i < xs.length → ∃ q : HdT, ∃ h2 : i < xs.length, (∀ j u, j < 5 → (cellsT q xs[i])[j]? = some u → w.cell? ⟨b, o + (i * 5 + j), none⟩ = some u) ∧ RdT w (.agg (cellsT q xs[i]).toArray) xs[i] := by
    intro i hi
    obtain ⟨b', o', e, hc⟩ := h.2.2 (by rw [← h.1]; omega)
    cases e
    obtain ⟨A1, n1, c1, A2, n2, c2, ⟨h0, h1, h2, h3, h4⟩, hr⟩ := hc i hi
    refine ⟨⟨A1, n1, c1, A2, n2, c2⟩, hi, fun j u hj hu => ?_, hr⟩
    rw [← Nat.add_assoc]
    match j, hj with
    | 0, _ => simp [cellsT] at hu; subst hu; exact h0
    | 1, _ => simp [cellsT] at hu; subst hu; exact h1
    | 2, _ => simp [cellsT] at hu; subst hu; exact h2
    | 3, _ => simp [cellsT] at hu; subst hu; exact h3
    | 4, _ => simp [cellsT] at hu; subst hu; exact h4
  obtain ⟨hs, hl, hp⟩ : ∃ hs : List HdT, hs.length = xs.length ∧ ∀ i (hi : i < hs.length), ∃ h2 : i < xs.length, (∀ j u, j < 5 → (cellsT hs[i] xs[i])[j]? = some u → w.cell? ⟨b, o + (i * 5 + j), none⟩ = some u) ∧ RdT w (.agg (cellsT hs[i] xs[i]).toArray) xs[i] := by
    have key : ∀ n, n ≤ xs.length → ∃ hs : List HdT, hs.length = n ∧ ∀ i (hi : i < hs.length), ∃ h2 : i < xs.length, (∀ j u, j < 5 → (cellsT hs[i] xs[i])[j]? = some u → w.cell? ⟨b, o + (i * 5 + j), none⟩ = some u) ∧ RdT w (.agg (cellsT hs[i] xs[i]).toArray) xs[i] := by
      intro n
      induction n with
      | zero => intro _; exact ⟨[], rfl, fun i hi => absurd hi (by simp)⟩
      | succ n ih =>
        intro hn
        obtain ⟨hs, hl, hp⟩ := ih (by omega)
        obtain ⟨q, h2, hq1, hq2⟩ := hq n (by omega)
        refine ⟨hs ++ [q], by simp [hl], fun i hi => ?_⟩
        by_cases hc : i < hs.length
        · rw [List.getElem_append_left hc]; exact hp i hc
        · have hin : i = n := by simp at hi; omega
          subst hin
          rw [List.getElem_append_right (by omega)]
          simp only [hl, Nat.sub_self, List.getElem_cons_zero]
          exact ⟨h2, hq1, hq2⟩
    exact key xs.length (Nat.le_refl _)
  refine ⟨hs, hl, fun j u hu => ?_, fun k h1 h2 => (hp k h1).2.2⟩
  have hjl : j < xs.length * 5 := by
    have := (List.getElem?_eq_some_iff.1 hu).1
    rwa [rowT_length hl] at this
  have hd : j = j / 5 * 5 + j % 5 := by omega
  have hk : j / 5 < xs.length := by omega
  rw [hd] at hu ⊢
  rw [rowT_get hl (j / 5) hk (j % 5) (Nat.mod_lt _ (by omega))] at hu
  obtain ⟨h2, hq1, _⟩ := hp (j / 5) (by omega)
  exact hq1 _ _ (Nat.mod_lt _ (by omega)) hu

/-- A list of before is apart. -/
theorem RdLT.old {w : World} {A : Option Addr} {n : Nat} {xs : List Tab} (h : RdLT w A n xs) (w' : World) (hx : Ext w w') (base : Nat) (hb : w.heap.size ≤ base) : RdTa w' base A n xs := by
  rcases Nat.eq_zero_or_pos n with h0 | hn
  · subst h0
    obtain rfl : xs = [] := List.eq_nil_of_length_eq_zero h.1
    exact ⟨[], rfl, rfl, Nat.zero_le _, fun hn => absurd hn (by simp), fun k h1 => absurd h1 (by simp)⟩
  · obtain ⟨b, o, rfl, _⟩ := h.2.2 hn
    obtain ⟨hs, hl, hc, hr⟩ := h.hdrs
    refine ⟨hs, hl, h.1, h.2.1, fun _ => ⟨b, o, rfl, fun j u hu => hx.keeps _ _ _ (hc j u hu)⟩, fun k h1 h2 => ?_⟩
    have hk := hr k h1 h2
    obtain ⟨A, n, c, A', n', c', hv, r1, r2, _⟩ := id hk
    simp [cellsT] at hv
    obtain ⟨⟨e1, e2, e3⟩, e4, e5, e6⟩ := hv
    exact ⟨hk.ext hx, by rw [e1, e2]; exact Apt.low _ r1 hb, by rw [e4, e5]; exact Apt.low _ r2 hb⟩

theorem Tryz.infoT : (Tryz.prog.info? 42).map (fun i => (i.zero, i.size, i.bytes)) = some (some (.agg #[.int .i64 0, .int .i64 0, .slice none 0 0, .slice none 0 0, .int .i64 0]), 5, 72) := by kernel_rfl

theorem run_appT (w : World) (ty : TypeId) (base : Nat) (v : Value) (xs : List Tab) (hown : OwnT w base v xs) (A : Option Addr) (m c : Nat) (ys : List Tab) (hr : RdTa w base A m ys) (hsz : xs.length + ys.length ≤ B40) (hbase : base ≤ w.heap.size) :
    ∃ v' w', (Builtin.append_ #[22, 22] ty #[v, .slice A m c]).run Tryz.prog w = .ok v' w' ∧ OwnT w' base v' (xs ++ ys) ∧ w.grownBy w' v.ownBlock ∧ (v' = .slice none 0 0 → v = .slice none 0 0) := by
  obtain ⟨i0, hi, hz0, hz1, hz2⟩ := info_parts Tryz.infoT
  have hO := hown
  obtain ⟨hs, hl, ho, hrd⟩ := hown
  obtain ⟨ks, kl, hzl, _, hsrc, krd⟩ := hr
  have hrow : ∀ g, v.ownBlock = some g → base ≤ g ∧ ∃ cs fr, w.heap[g]? = some (.cells cs 42 fr) := by
    rcases ho.2 with ⟨rfl, _⟩ | ⟨g', cap, cur, rfl, hb, hg', _⟩
    · intro g hg; cases hg
    · intro g hg
      simp [Value.ownBlock] at hg
      subst hg
      exact ⟨hb, _, _, hg'⟩
  cases A with
  | none =>
    have h0 : m = 0 := by
      rcases Nat.eq_zero_or_pos m with h | h
      · exact h
      · obtain ⟨b, o, e, _⟩ := hsrc h
        cases e
    subst h0
    obtain rfl : ys = [] := List.eq_nil_of_length_eq_zero hzl
    exact ⟨v, w, run_app_nil (P := Tryz.prog) w base 22 ty 42 i0 5 Tryz.underlying22 hi v _ _ ho c, by simpa using hO, World.grownBy.refl w _, id⟩
  | some ad =>
    have hnews : ∀ j u, (rowT ks ys)[j]? = some u → w.cell? (ad.add j) = some u := by
      intro j u hj
      have hjn : j < ys.length * 5 := by
        have := (List.getElem?_eq_some_iff.1 hj).1
        rwa [rowT_length kl] at this
      obtain ⟨b, o, e, hc⟩ := hsrc (by omega)
      obtain rfl := Option.some.inj e
      have e2 : (⟨b, o, none⟩ : Addr).add j = ⟨b, o + j, none⟩ := by unfold Addr.add; split <;> simp_all
      rw [e2]
      exact hc j u hj
    unfold B40 at hsz
    obtain ⟨v', w', hrun, h1, h2, h3⟩ := run_append_own (P := Tryz.prog) w base 22 ty 42 i0 _ 5 72 Tryz.underlying22 hi hz0 hz1 hz2 rfl (by decide) v xs.length (rowT hs xs) ho ad m c (rowT ks ys) (by rw [rowT_length kl, hzl]) hnews
      rowT_one (by unfold maxLen; omega) (by omega) hbase
    refine ⟨v', w', hrun, ⟨hs ++ ks, by simp [hl, kl], ?_, ?_⟩, h2, fun e => (h3.1 e).1⟩
    · rw [rowT_append hl, List.length_append, hzl]; exact h1
    · intro k k1 k2
      by_cases hk : k < hs.length
      · rw [List.getElem_append_left hk, List.getElem_append_left (by omega)]
        exact (hrd k hk (by omega)).grown h2 hrow
      · have k3 : k - hs.length < ks.length := by simp at k1; omega
        rw [List.getElem_append_right (by omega), List.getElem_append_right (by omega)]
        have := (krd (k - hs.length) k3 (by omega)).grown h2 hrow
        simpa [hl] using this

/-- 'append(out, l...)' of entries as a region's operation. -/
theorem step_appT {ops : Array Oper} {o : Oper} {a : Act} {w : World} {K : Act → World → Prop} {Q : Exit → Act → World → Prop} {E : Prop} (hgd : o.guard = none) (s x : Operand)
    (ho : o.op = .call { callee := .builtin .append, args := #[s, x], argTypes := #[22, 22] })
    (base : Nat) (v : Value) (xs : List Tab) (hs : a.eval s = v) (hown : OwnT w base v xs) (A : Option Addr) (m c : Nat) (ys : List Tab) (hx : a.eval x = .slice A m c) (hr : RdTa w base A m ys)
    (hsz : xs.length + ys.length ≤ B40) (hbase : base ≤ w.heap.size)
    (h : ∀ v' w', OwnT w' base v' (xs ++ ys) → w.grownBy w' v.ownBlock → (v' = .slice none 0 0 → v = .slice none 0 0) → K (a.put o.dst v') w') :
    if Region.wanted o (yielded ops a.tmps) = true then Oper.wp Tryz.prog o a w K Q else E := by
  have hw : Region.wanted o (yielded ops a.tmps) = true := by simp [Region.wanted, hgd]
  rw [if_pos hw]
  obtain ⟨v', w', hrun, h1, h2, h3⟩ := run_appT w o.type base v xs hown A m c ys hr hsz hbase
  unfold Oper.wp
  simp [execOp, ho, resolve, invoke, builtin, hs, hx, hrun, Result.andThen]
  exact h v' w' h1 h2 h3
/-- 'append(out, l...)' of entries. -/
theorem wp_appT {ops : Array Oper} {rest : List Oper} {o : Oper} {a : Act} {w : World} {Q : Exit → Act → World → Prop} (hgd : o.guard = none) (s x : Operand)
    (ho : o.op = .call { callee := .builtin .append, args := #[s, x], argTypes := #[22, 22] })
    (base : Nat) (v : Value) (xs : List Tab) (hs : a.eval s = v) (hown : OwnT w base v xs) (A : Option Addr) (m c : Nat) (ys : List Tab) (hx : a.eval x = .slice A m c) (hr : RdTa w base A m ys)
    (hsz : xs.length + ys.length ≤ B40) (hbase : base ≤ w.heap.size)
    (h : ∀ v' w', OwnT w' base v' (xs ++ ys) → w.grownBy w' v.ownBlock → (v' = .slice none 0 0 → v = .slice none 0 0) → wpList Tryz.prog ops Q rest (a.put o.dst v') w') : wpList Tryz.prog ops Q (o :: rest) a w := by
  refine wpList_plain hgd fun K hK => ?_
  obtain ⟨v', w', hrun, h1, h2, h3⟩ := run_appT w o.type base v xs hown A m c ys hr hsz hbase
  unfold Oper.wp
  simp [execOp, ho, resolve, invoke, builtin, hs, hx, hrun, Result.andThen]
  exact hK _ _ (h v' w' h1 h2 h3)

/-- One entry in a block of its own. -/
theorem RdTa.one {w : World} {base : Nat} {h : HdT} {x : Tab} (t : TypeId) (he : ElT w base h x) : RdTa (w.alloc (.cells #[.int .i64 x.num, .int .i64 x.lvl, .slice h.A h.n h.c, .slice h.B h.m h.d, .int .i64 x.size] t)) base (some ⟨w.heap.size, 0, none⟩) 1 [x] := by
  have hb := heap_alloc_new w (.cells #[.int .i64 x.num, .int .i64 x.lvl, .slice h.A h.n h.c, .slice h.B h.m h.d, .int .i64 x.size] t)
  refine ⟨[h], rfl, rfl, by decide, fun _ => ⟨_, 0, rfl, fun j u hu => ?_⟩, fun k h1 h2 => ?_⟩
  · rw [Nat.zero_add]
    unfold World.cell?
    simp only [hb]
    simp [rowT, cellsT] at hu ⊢
    match j with
    | 0 => simpa using hu
    | 1 => simpa using hu
    | 2 => simpa using hu
    | 3 => simpa using hu
    | 4 => simpa using hu
    | j + 5 => simp at hu
  · obtain rfl : k = 0 := by simp at h1; exact h1
    exact he.ext (Ext.alloc (Ext.rfl_ w) _)

end Go.Proofs.YteooaplimiifiaaGreat
