/- merge.Join's iterator: the lists run together. Conditions: the inner iterators' contracts; one of them at least. -/
import Derived.Test.YtmmoopioiheleaaMgJ
namespace Go.Proofs.Ytmmoopioiheleaa
set_option linter.unusedSimpArgs false
set_option linter.unusedVariables false
open Go.RowKit Go.Shelf
attribute [local go_sem] Oper.semAt_some

theorem joinF_none {f : Nat} {LL : List (List Ent)} {last : Option Ent} (h : lstF LL LL.length = none) : joinF f LL last = [] := by
  cases f with
  | zero => rfl
  | succ f => rw [joinF, h]
theorem joinF_same {f i : Nat} {LL : List (List Ent)} {y e : Ent} {r : List Ent} (h : lstF LL LL.length = some i) (hi : LL[i]? = some (e :: r)) (hc : cmpE y e = 0) : joinF (f + 1) LL (some y) = joinF f (LL.set i r) (some y) := by
  rw [joinF, h]; simp only; rw [hi]; simp only; exact if_pos (decide_eq_true hc)
theorem joinF_new {f i : Nat} {LL : List (List Ent)} {last : Option Ent} {e : Ent} {r : List Ent} (h : lstF LL LL.length = some i) (hi : LL[i]? = some (e :: r)) (hc : ∀ y, last = some y → cmpE y e ≠ 0) : joinF (f + 1) LL last = e :: joinF f (LL.set i r) (some e) := by
  rw [joinF, h]; simp only; rw [hi]; simp only
  rw [if_neg]
  cases last with
  | none => simp
  | some y => simpa using hc y rfl
theorem sum_set {LL : List (List Ent)} {i : Nat} {e : Ent} {r : List Ent} (hi : LL[i]? = some (e :: r)) : ((LL.set i r).map List.length).sum + 1 = (LL.map List.length).sum := by
  induction LL generalizing i with
  | nil => simp at hi
  | cons l LL ih =>
    cases i with
    | zero =>
      simp at hi
      subst hi
      simp
      omega
    | succ i =>
      have := ih (i := i) (by simpa using hi)
      simp at this ⊢
      omega
/-- How long the lists of a row are. -/
def lenS (v : Option Value) : Nat := match v with | some (.slice _ n _) => n | _ => 0
def jnM (g m : Nat) (w : World) : Nat := ((List.range m).map fun i => lenS (w.cell? ⟨g, i, none⟩)).sum
theorem jnM_eq {g : Nat} {LL : List (List Ent)} {w : World} (h : ∀ i (hi : i < LL.length), lenS (w.cell? ⟨g, i, none⟩) = LL[i].length) : jnM g LL.length w = (LL.map List.length).sum := by
  unfold jnM
  congr 1
  apply List.ext_getElem
  · simp
  · intro i h1 h2
    simp at h1 h2 ⊢
    exact h i h2

theorem OwnB.u8b {w w' : World} {base : Nat} {v : Value} {x : Bs} (h : OwnB w base v x) (k : ∀ (k : Nat) (cs : Array Value) (fr : Nat × Nat), base ≤ k → w.heap[k]? = some (Obj.cells cs 5 fr) → w'.heap[k]? = some (Obj.cells cs 5 fr)) : OwnB w' base v x := by
  have ho := h.out
  refine (⟨ho.1, ?_⟩ : OwnB w' base v x)
  rcases ho.2 with hn | ⟨g, cap, cur, hv, hb, hg, rest⟩
  · exact .inl hn
  · exact .inr ⟨g, cap, cur, hv, hb, k g cur (0, 0) hb hg, rest⟩
theorem FrE.u8b {w w' : World} {base : Nat} {v : Value} {x : Ent} (h : FrE w base v x) (k : ∀ (k : Nat) (cs : Array Value) (fr : Nat × Nat), base ≤ k → w.heap[k]? = some (Obj.cells cs 5 fr) → w'.heap[k]? = some (Obj.cells cs 5 fr)) : FrE w' base v x := by
  obtain ⟨A, n, c, A', n', c', rfl, o1, o2, r1, r2, a, b, c, d, e, f⟩ := h
  have k1 := o1.u8b k
  have k2 := o2.u8b k
  exact ⟨A, n, _, A', n', _, rfl, k1, k2, Rd.of_OwnB k1 r1.1.symm, Rd.of_OwnB k2 r2.1.symm, a, b, c, d, e, f⟩
theorem OwnF.u8b {w w' : World} {base : Nat} {v : Value} {xs : List Ent} (h : OwnF w base v xs) (k : ∀ (k : Nat) (cs : Array Value) (fr : Nat × Nat), base ≤ k → w.heap[k]? = some (Obj.cells cs 5 fr) → w'.heap[k]? = some (Obj.cells cs 5 fr)) (hb : ∀ g, v.ownBlock = some g → w'.heap[g]? = w.heap[g]?) : OwnF w' base v xs := by
  obtain ⟨hs, hl, ho, hr⟩ := h
  exact ⟨hs, hl, ownsRow_blk ho hb, fun i i1 i2 => (hr i i1 i2).u8b k⟩
theorem RdL.dropE {w : World} {b o n : Nat} {xs : List Ent} (h : RdL w (some ⟨b, o, none⟩) n xs) (k : Nat) (hk : k ≤ n) : RdL w (some ⟨b, o + k * 4, none⟩) (n - k) (xs.drop k) := by
  refine ⟨by rw [List.length_drop, h.1], Nat.le_trans (Nat.sub_le _ _) h.2.1, fun hn => ⟨b, o + k * 4, rfl, fun j hj => ?_⟩⟩
  have hj' : k + j < n := by rw [List.length_drop, h.1] at hj; omega
  obtain ⟨b', o', A1, n1, c1, A2, n2, c2, x, e, hx, ⟨e0, e1, e2, e3⟩, hry⟩ := h.at_ (k + j) hj'
  cases e
  have ea : o + k * 4 + j * 4 = o + (k + j) * 4 := by rw [Nat.add_mul]; omega
  have hxe : xs[k + j]'(by rw [h.1]; exact hj') = x := (List.getElem?_eq_some_iff.1 hx).2
  simp only [List.getElem_drop, hxe]
  rw [ea]
  exact ⟨A1, n1, c1, A2, n2, c2, ⟨e0, e1, e2, e3⟩, hry⟩

/-- What was collected, as it lies when the lists begin to be run together. -/
structure StJ (w2 : World) (base g lb : Nat) (vs0 : List Value) (LL0 : List (List Ent)) : Prop where
  len : vs0.length = LL0.length
  row : ∀ i (h : i < vs0.length) (h2 : i < LL0.length), OwnF w2 base vs0[i] LL0[i] ∧ LL0[i].length ≤ 1000000 ∧ ∀ b, vs0[i].ownBlock = some b → b ≠ g ∧ b ≠ lb
  gT : ∃ cs, w2.heap[g]? = some (.cells cs 22 (0, 0))
  lT : ∃ cs, w2.heap[lb]? = some (.cells cs 37 (0, 0))
  gb : base ≤ g
  lbb : base ≤ lb
/-- What is left. -/
structure DyJ (w2 : World) (base g lb : Nat) (vs0 : List Value) (LL0 LL : List (List Ent)) (last : Option Ent) (wr : World) : Prop where
  len : LL.length = LL0.length
  cells : ∀ i (h0 : i < LL0.length) (h : i < LL.length) (hv : i < vs0.length), ∃ p A n c, LL[i] = LL0[i].drop p ∧ p ≤ LL0[i].length ∧ n = LL[i].length ∧ n ≤ c ∧ wr.cell? ⟨g, i, none⟩ = some (.slice A n c) ∧ (0 < n → ∃ b c0, A = some ⟨b, p * 4, none⟩ ∧ vs0[i] = .slice (some ⟨b, 0, none⟩) LL0[i].length c0)
  gT : ∃ cs, wr.heap[g]? = some (.cells cs 22 (0, 0))
  lT : ∃ a b c d, wr.heap[lb]? = some (.cells #[a, b, c, d] 37 (0, 0)) ∧ ∀ y, last = some y → ∃ q : Hdr, (a = .slice q.A q.n q.c ∧ b = .int .i64 y.seq ∧ c = .int .i64 y.kind ∧ d = .slice q.B q.m q.d) ∧ FrE w2 base (.agg (cellsE q y).toArray) y
  kept : Kept (fun j => base ≤ j ∧ j < w2.heap.size ∧ j ≠ g ∧ j ≠ lb) w2 wr
variable {w2 wr : World} {base g lb : Nat} {vs0 : List Value} {LL0 LL : List (List Ent)} {last : Option Ent}
theorem StJ.bytes (s : StJ w2 base g lb vs0 LL0) (k : Kept (fun j => base ≤ j ∧ j < w2.heap.size ∧ j ≠ g ∧ j ≠ lb) w2 wr) : ∀ (k : Nat) (cs : Array Value) (fr : Nat × Nat), base ≤ k → w2.heap[k]? = some (Obj.cells cs 5 fr) → wr.heap[k]? = some (Obj.cells cs 5 fr) := fun j cs fr hb hj => by
  have hlt := (Array.getElem?_eq_some_iff.1 hj).1
  refine (k.block j hlt ⟨hb, hlt, ?_, ?_⟩).trans hj
  · rintro rfl
    obtain ⟨cs', h⟩ := s.gT
    rw [h] at hj
    simp at hj
  · rintro rfl
    obtain ⟨cs', h⟩ := s.lT
    rw [h] at hj
    simp at hj
theorem StJ.own (s : StJ w2 base g lb vs0 LL0) (k : Kept (fun j => base ≤ j ∧ j < w2.heap.size ∧ j ≠ g ∧ j ≠ lb) w2 wr) (i : Nat) (h : i < vs0.length) (h2 : i < LL0.length) : OwnF wr base vs0[i] LL0[i] := by
  obtain ⟨h1, _, h3⟩ := s.row i h h2
  exact h1.u8b (s.bytes k) (fun b hb => k.block b (h1.lt b hb).2 ⟨(h1.lt b hb).1, (h1.lt b hb).2, (h3 b hb).1, (h3 b hb).2⟩)
theorem DyJ.rows (d : DyJ w2 base g lb vs0 LL0 LL last wr) (s : StJ w2 base g lb vs0 LL0) : RowS wr g LL := fun i hi => by
  have h0 : i < LL0.length := by rw [← d.len]; exact hi
  have hv : i < vs0.length := by rw [s.len]; exact h0
  obtain ⟨p, A, n, c, e1, hp, e2, e3, e4, e5⟩ := d.cells i h0 hi hv
  refine ⟨A, n, c, e4, e3, ?_⟩
  rcases Nat.eq_zero_or_pos n with hn | hn
  · subst hn
    have : LL[i] = [] := List.eq_nil_of_length_eq_zero e2.symm
    rw [this]
    exact RdL.nil _ _
  · obtain ⟨b, c0, rfl, hv0⟩ := e5 hn
    have ho := s.own d.kept i hv h0
    rw [hv0] at ho
    obtain ⟨A', n', c', e, _, hr, _⟩ := ho.ownL.formN (by have := (s.row i hv h0).2.1; unfold B41; omega)
    cases e
    have := hr.dropE p hp
    rw [Nat.zero_add] at this
    rw [e1, e2, e1, List.length_drop]
    exact this
theorem DyJ.len_ (d : DyJ w2 base g lb vs0 LL0 LL last wr) (s : StJ w2 base g lb vs0 LL0) : jnM g LL0.length wr = (LL.map List.length).sum := by
  rw [← d.len]
  refine jnM_eq fun i hi => ?_
  have h0 : i < LL0.length := by rw [← d.len]; exact hi
  obtain ⟨p, A, n, c, e1, hp, e2, e3, e4, e5⟩ := d.cells i h0 hi (by rw [s.len]; exact h0)
  rw [e4, ← e2]
  rfl
/-- The first item of a list that is left. -/
theorem DyJ.head (d : DyJ w2 base g lb vs0 LL0 LL last wr) (s : StJ w2 base g lb vs0 LL0) {i : Nat} {e : Ent} {r : List Ent} (hi : LL[i]? = some (e :: r)) : ∃ b p c c0, ∃ (q : Hdr) (hl : i < LL0.length) (hv : i < vs0.length), wr.cell? ⟨g, i, none⟩ = some (.slice (some ⟨b, p * 4, none⟩) (r.length + 1) c) ∧ r.length + 1 ≤ c ∧ e :: r = LL0[i].drop p ∧ p + 1 ≤ LL0[i].length ∧ vs0[i] = .slice (some ⟨b, 0, none⟩) LL0[i].length c0 ∧
    (wr.cell? ⟨b, p * 4, none⟩ = some (.slice q.A q.n q.c) ∧ wr.cell? ⟨b, p * 4 + 1, none⟩ = some (.int .i64 e.seq) ∧ wr.cell? ⟨b, p * 4 + 2, none⟩ = some (.int .i64 e.kind) ∧ wr.cell? ⟨b, p * 4 + 3, none⟩ = some (.slice q.B q.m q.d)) ∧ FrE w2 base (.agg (cellsE q e).toArray) e := by
  obtain ⟨hl, hle⟩ := List.getElem?_eq_some_iff.1 hi
  have h0 : i < LL0.length := by rw [← d.len]; exact hl
  have hv : i < vs0.length := by rw [s.len]; exact h0
  obtain ⟨p, A, n, c, e1, hp, e2, e3, e4, e5⟩ := d.cells i h0 hl hv
  rw [hle] at e1 e2
  have hn : n = r.length + 1 := by rw [e2]; rfl
  subst hn
  obtain ⟨b, c0, rfl, hv0⟩ := e5 (by omega)
  have hpl : p < LL0[i].length := by
    have := congrArg List.length e1
    rw [List.length_drop] at this
    simp at this
    omega
  obtain ⟨h1, _, h3⟩ := s.row i hv h0
  rw [hv0] at h1 h3
  obtain ⟨gg, cc, q, hvv, _, hgb, hgl, ⟨d0, d1, d2, d3⟩, hfe⟩ := h1.at_ hpl
  cases hvv
  have hx : LL0[i][p] = e := by
    have : (LL0[i].drop p)[0]? = some e := by rw [← e1]; rfl
    rw [List.getElem?_drop, Nat.add_zero] at this
    exact (List.getElem?_eq_some_iff.1 this).2
  rw [hx] at d1 d2 hfe
  have hk : ∀ o v, w2.cell? ⟨b, o, none⟩ = some v → wr.cell? ⟨b, o, none⟩ = some v := fun o v hc => d.kept.cell hc ⟨hgb, hgl, (h3 b rfl).1, (h3 b rfl).2⟩
  exact ⟨b, p, c, c0, q, h0, hv, e4, e3, e1, hpl, hv0, ⟨hk _ _ d0, hk _ _ d1, hk _ _ d2, hk _ _ d3⟩, hfe⟩

theorem StJ.ne (s : StJ w2 base g lb vs0 LL0) : g ≠ lb := by
  rintro rfl
  obtain ⟨cs, h⟩ := s.gT
  obtain ⟨cs', h'⟩ := s.lT
  rw [h] at h'
  simp at h'
theorem StJ.glt (s : StJ w2 base g lb vs0 LL0) : g < w2.heap.size ∧ lb < w2.heap.size := by
  obtain ⟨cs, h⟩ := s.gT
  obtain ⟨cs', h'⟩ := s.lT
  exact ⟨(Array.getElem?_eq_some_iff.1 h).1, (Array.getElem?_eq_some_iff.1 h').1⟩
theorem DyJ.ext (d : DyJ w2 base g lb vs0 LL0 LL last wr) {w' : World} (e : Ext wr w') : DyJ w2 base g lb vs0 LL0 LL last w' := by
  obtain ⟨h1, h2, ⟨cs, h3⟩, ⟨a, b, c, d', h4, h5⟩, h6⟩ := d
  refine ⟨h1, fun i h0 h hv => ?_, ⟨cs, e.blk h3⟩, ⟨a, b, c, d', e.blk h4, h5⟩, h6.then_ e⟩
  obtain ⟨p, A, n, c, e1, hp, e2, e3, e4, e5⟩ := h2 i h0 h hv
  exact ⟨p, A, n, c, e1, hp, e2, e3, e.keeps _ _ _ e4, e5⟩
theorem DyJ.keptT (d : DyJ w2 base g lb vs0 LL0 LL last wr) (s : StJ w2 base g lb vs0 LL0) {w' : World} (k : Kept (fun j => base ≤ j ∧ j < w2.heap.size) wr w') : DyJ w2 base g lb vs0 LL0 LL last w' := by
  obtain ⟨h1, h2, ⟨cs, h3⟩, ⟨a, b, c, d', h4, h5⟩, h6⟩ := d
  have hg := s.glt
  refine ⟨h1, fun i h0 h hv => ?_, ⟨cs, (k.block g (Array.getElem?_eq_some_iff.1 h3).1 ⟨s.gb, hg.1⟩).trans h3⟩, ⟨a, b, c, d', (k.block lb (Array.getElem?_eq_some_iff.1 h4).1 ⟨s.lbb, hg.2⟩).trans h4, h5⟩, h6.trans (k.mono fun j hj => ⟨hj.1, hj.2.1⟩)⟩
  obtain ⟨p, A, n, c, e1, hp, e2, e3, e4, e5⟩ := h2 i h0 h hv
  exact ⟨p, A, n, c, e1, hp, e2, e3, k.cell e4 ⟨s.gb, hg.1⟩, e5⟩
theorem DyJ.take (d : DyJ w2 base g lb vs0 LL0 LL last wr) (s : StJ w2 base g lb vs0 LL0) {i : Nat} {e : Ent} {r : List Ent} (hi : LL[i]? = some (e :: r)) {b p c0 : Nat} (hl : i < LL0.length) (hv : i < vs0.length) (hp : e :: r = LL0[i].drop p) (hpl : p + 1 ≤ LL0[i].length) (hv0 : vs0[i] = .slice (some ⟨b, 0, none⟩) LL0[i].length c0)
    (A' : Option Addr) (n' c' : Nat) (hn' : n' = r.length) (hA : 0 < n' → A' = some ⟨b, (p + 1) * 4, none⟩) (hc : n' ≤ c') : DyJ w2 base g lb vs0 LL0 (LL.set i r) last (wr.setCell ⟨g, i, none⟩ (.slice A' n' c')) := by
  obtain ⟨h1, h2, ⟨cs, h3⟩, ⟨a, bb, cc, d', h4, h5⟩, h6⟩ := d
  have hil := (List.getElem?_eq_some_iff.1 hi).1
  refine ⟨by rw [List.length_set]; exact h1, fun j h0 h hvj => ?_, blk_set h3, ⟨a, bb, cc, d', (Below.heap_setCell _ _ _ _ (fun e => s.ne e.symm)).trans h4, h5⟩, h6.setCell (fun h => h.2.2.1 rfl) _⟩
  rw [List.length_set] at h
  obtain ⟨p1, A, n, c, e1, hp1, e2, e3, e4, e5⟩ := h2 j h0 h hvj
  by_cases hj : j = i
  · subst hj
    refine ⟨p + 1, A', n', c', ?_, hpl, ?_, hc, World.cell?_setCell_same' _ _ _ (by rw [e4]; rfl), fun hn => ⟨b, c0, hA hn, hv0⟩⟩
    · rw [List.getElem_set_self, ← List.drop_drop, ← hp]
      rfl
    · rw [List.getElem_set_self]; exact hn'
  · rw [List.getElem_set_ne (fun e => hj e.symm)]
    exact ⟨p1, A, n, c, e1, hp1, e2, e3, by rw [World.cell?_setCell_other _ _ _ _ (fun e => hj (by cases e; rfl))]; exact e4, e5⟩
theorem four_put {w : World} {g : Nat} {t : TypeId} {a b c d : Value} (hk : w.heap[g]? = some (.cells #[a, b, c, d] t (0, 0))) (u1 u2 u3 u4 : Value) :
    ((((w.setCell ⟨g, 0, none⟩ u1).setCell ⟨g, 1, none⟩ u2).setCell ⟨g, 2, none⟩ u3).setCell ⟨g, 3, none⟩ u4).heap[g]? = some (.cells #[u1, u2, u3, u4] t (0, 0)) := by
  simp [World.setCell, Array.getElem?_modify, hk]
theorem DyJ.put (d : DyJ w2 base g lb vs0 LL0 LL last wr) (s : StJ w2 base g lb vs0 LL0) (q : Hdr) (y : Ent) (hf : FrE w2 base (.agg (cellsE q y).toArray) y) :
    DyJ w2 base g lb vs0 LL0 LL (some y) ((((wr.setCell ⟨lb, 0, none⟩ (.slice q.A q.n q.c)).setCell ⟨lb, 1, none⟩ (.int .i64 y.seq)).setCell ⟨lb, 2, none⟩ (.int .i64 y.kind)).setCell ⟨lb, 3, none⟩ (.slice q.B q.m q.d)) := by
  obtain ⟨h1, h2, ⟨cs, h3⟩, ⟨a, bb, cc, d', h4, h5⟩, h6⟩ := d
  have hne : ∀ o, (⟨g, o, none⟩ : Addr).block ≠ lb := fun o => s.ne
  have hcell : ∀ i v, wr.cell? ⟨g, i, none⟩ = some v → ((((wr.setCell ⟨lb, 0, none⟩ (.slice q.A q.n q.c)).setCell ⟨lb, 1, none⟩ (.int .i64 y.seq)).setCell ⟨lb, 2, none⟩ (.int .i64 y.kind)).setCell ⟨lb, 3, none⟩ (.slice q.B q.m q.d)).cell? ⟨g, i, none⟩ = some v := fun i v hv => by
    rw [World.cell?_setCell_other _ _ _ _ (fun e => s.ne (by cases e; rfl)), World.cell?_setCell_other _ _ _ _ (fun e => s.ne (by cases e; rfl)), World.cell?_setCell_other _ _ _ _ (fun e => s.ne (by cases e; rfl)), World.cell?_setCell_other _ _ _ _ (fun e => s.ne (by cases e; rfl))]
    exact hv
  have hblk : ((((wr.setCell ⟨lb, 0, none⟩ (.slice q.A q.n q.c)).setCell ⟨lb, 1, none⟩ (.int .i64 y.seq)).setCell ⟨lb, 2, none⟩ (.int .i64 y.kind)).setCell ⟨lb, 3, none⟩ (.slice q.B q.m q.d)).heap[g]? = wr.heap[g]? := by
    rw [Below.heap_setCell _ _ _ _ s.ne, Below.heap_setCell _ _ _ _ s.ne, Below.heap_setCell _ _ _ _ s.ne, Below.heap_setCell _ _ _ _ s.ne]
  refine ⟨h1, fun i h0 h hv => ?_, ⟨cs, hblk.trans h3⟩, ⟨_, _, _, _, four_put h4 _ _ _ _, fun y' hy => ?_⟩, (((h6.setCell (fun h => h.2.2.2 rfl) _).setCell (fun h => h.2.2.2 rfl) _).setCell (fun h => h.2.2.2 rfl) _).setCell (fun h => h.2.2.2 rfl) _⟩
  · obtain ⟨p, A, n, c, e1, hp, e2, e3, e4, e5⟩ := h2 i h0 h hv
    exact ⟨p, A, n, c, e1, hp, e2, e3, hcell _ _ e4, e5⟩
  · cases hy
    exact ⟨q, ⟨rfl, rfl, rfl, rfl⟩, hf⟩

end Go.Proofs.Ytmmoopioiheleaa
